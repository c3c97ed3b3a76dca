/- The iterator 'all': its contract. -/
import Derived.Test.YtmfldffbafamnaaUtfF
import Derived.RangeFuncNested
import Derived.RangeFuncBound
import Derived.RangeFuncCalls
import Derived.RangeFuncLeaves
import Derived.Shelf.Abstract
import Derived.Shelf.RegionOpen
import Derived.OwnWalkIn
import Derived.TacticsInMore
import Derived.LoopNIn
import Derived.LoopIn
namespace Go.Proofs.Ytmfldffbafamnaa
open Go.RowKit Go.Shelf
set_option linter.unusedVariables false
set_option linter.unusedSimpArgs false
attribute [local go_sem] Oper.semAt_some
/-- A step: a rune, and its size. -/
structure Stp where
  r : Nat
  n : Nat
  hr : r ≤ 1114111
  h1 : 1 ≤ n
  h4 : n ≤ 4
def stp (l : List UInt8) (h : l ≠ []) : Stp := ⟨(next l).1, (next l).2, (next_bound l).1, (next_bound l).2.2.2 h, (next_bound l).2.1⟩
def stpsF : Nat → List UInt8 → List Stp
  | 0, _ => []
  | f + 1, l => if h : l = [] then [] else stp l h :: stpsF f (l.drop (next l).2)
def stps (l : List UInt8) : List Stp := stpsF l.length l
theorem stpsF_map : ∀ (f : Nat) (l : List UInt8), (stpsF f l).map (fun p => (p.r, p.n)) = stepsF f l
  | 0, _ => rfl
  | f + 1, l => by
    unfold stpsF stepsF
    by_cases h : l = []
    · rw [dif_pos h, if_pos h]; rfl
    · rw [dif_neg h, if_neg h, List.map_cons, stpsF_map f]; rfl
theorem stps_map (l : List UInt8) : (stps l).map (fun p => (p.r, p.n)) = steps l := stpsF_map _ _
theorem stp_ext {a b : Stp} (h1 : a.r = b.r) (h2 : a.n = b.n) : a = b := by cases a; cases b; cases h1; cases h2; rfl
theorem map_stp_inj : ∀ {a b : List Stp}, a.map (fun p => (p.r, p.n)) = b.map (fun p => (p.r, p.n)) → a = b
  | [], [], _ => rfl
  | [], _ :: _, h => by simp at h
  | _ :: _, [], h => by simp at h
  | x :: a, y :: b, h => by
    simp only [List.map_cons, List.cons.injEq, Prod.mk.injEq] at h
    rw [stp_ext h.1.1 h.1.2, map_stp_inj h.2]
theorem stps_nil : stps [] = [] := rfl
theorem stps_cons {l : List UInt8} (h : l ≠ []) : stps l = stp l h :: stps (l.drop (next l).2) := by
  apply map_stp_inj
  rw [stps_map, steps_cons h, List.map_cons, stps_map]
  rfl
/-- Block b lies as it lay. -/
def KB (b : Nat) (W W' : World) : Prop := W'.heap[b]? = W.heap[b]?
theorem KB.cell {b : Nat} {A B : World} (h : KB b A B) (o : Nat) : B.cell? ⟨b, o, none⟩ = A.cell? ⟨b, o, none⟩ := World.cell?_of_block (w := A) (a := ⟨b, o, none⟩) h
theorem KB.t {b : Nat} {A B C : World} (h : KB b A B) (k : KB b B C) : KB b A C := Eq.trans k h
theorem KB.b {b : Nat} {w : World} (hb : b < w.heap.size) : ∀ (W : World) (l : Nat) (o o' : Obj), w.heap.size ≤ l → W.heap[l]? = some o → o.isCells = false → o.isWalk = false → KB b W (W.putObj l o') :=
  fun W l o o' hl _ _ _ => World.putObj_heap_other (by omega)
def stpV (p : Stp) : Array Value := #[.int .i32 p.r, .int .i64 p.n]
end Go.Proofs.Ytmfldffbafamnaa
