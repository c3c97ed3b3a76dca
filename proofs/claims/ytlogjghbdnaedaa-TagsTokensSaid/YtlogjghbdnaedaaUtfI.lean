/- The iterator 'all': its contract. -/
import Derived.Test.YtlogjghbdnaedaaUtfF
import Derived.RangeFuncNested
import Derived.RangeFuncBound
import Derived.RangeFuncCalls
import Derived.RangeFuncLeaves
import Derived.Shelf.Abstract
import Derived.Shelf.RegionOpen
import Derived.OwnWalkIn
import Derived.TacticsInMore
import Derived.LoopNIn
import Derived.LoopIn
namespace Go.Proofs.Ytlogjghbdnaedaa
open Go.RowKit Go.Shelf
set_option linter.unusedVariables false
set_option linter.unusedSimpArgs false
attribute [local go_sem] Oper.semAt_some
/-- A step: a rune, and its size. -/
structure Stp where
  r : Nat
  n : Nat
  hr : r ≤ 1114111
  h1 : 1 ≤ n
  h4 : n ≤ 4
def stp (l : List UInt8) (h : l ≠ []) : Stp := ⟨(next l).1, (next l).2, (next_bound l).1, (next_bound l).2.2.2 h, (next_bound l).2.1⟩
def stpsF : Nat → List UInt8 → List Stp
  | 0, _ => []
  | f + 1, l => if h : l = [] then [] else stp l h :: stpsF f (l.drop (next l).2)
def stps (l : List UInt8) : List Stp := stpsF l.length l
theorem stpsF_map : ∀ (f : Nat) (l : List UInt8), (stpsF f l).map (fun p => (p.r, p.n)) = stepsF f l
  | 0, _ => rfl
  | f + 1, l => by
    unfold stpsF stepsF
    by_cases h : l = []
    · rw [dif_pos h, if_pos h]; rfl
    · rw [dif_neg h, if_neg h, List.map_cons, stpsF_map f]; rfl
theorem stps_map (l : List UInt8) : (stps l).map (fun p => (p.r, p.n)) = steps l := stpsF_map _ _
theorem stp_ext {a b : Stp} (h1 : a.r = b.r) (h2 : a.n = b.n) : a = b := by cases a; cases b; cases h1; cases h2; rfl
theorem map_stp_inj : ∀ {a b : List Stp}, a.map (fun p => (p.r, p.n)) = b.map (fun p => (p.r, p.n)) → a = b
  | [], [], _ => rfl
  | [], _ :: _, h => by simp at h
  | _ :: _, [], h => by simp at h
  | x :: a, y :: b, h => by
    simp only [List.map_cons, List.cons.injEq, Prod.mk.injEq] at h
    rw [stp_ext h.1.1 h.1.2, map_stp_inj h.2]
theorem stps_nil : stps [] = [] := rfl
theorem stps_cons {l : List UInt8} (h : l ≠ []) : stps l = stp l h :: stps (l.drop (next l).2) := by
  apply map_stp_inj
  rw [stps_map, steps_cons h, List.map_cons, stps_map]
  rfl
/-- Block b lies as it lay. -/
def KB (b : Nat) (W W' : World) : Prop := W'.heap[b]? = W.heap[b]?
theorem KB.cell {b : Nat} {A B : World} (h : KB b A B) (o : Nat) : B.cell? ⟨b, o, none⟩ = A.cell? ⟨b, o, none⟩ := World.cell?_of_block (w := A) (a := ⟨b, o, none⟩) h
theorem KB.t {b : Nat} {A B C : World} (h : KB b A B) (k : KB b B C) : KB b A C := Eq.trans k h
theorem KB.b {b : Nat} {w : World} (hb : b < w.heap.size) : ∀ (W : World) (l : Nat) (o o' : Obj), w.heap.size ≤ l → W.heap[l]? = some o → o.isCells = false → o.isWalk = false → KB b W (W.putObj l o') :=
  fun W l o o' hl _ _ _ => World.putObj_heap_other (by omega)
def stpV (p : Stp) : Array Value := #[.int .i32 p.r, .int .i64 p.n]
theorem next_to (s : ByteArray) (k r n : Nat) (w : World) (hs : s.size ≤ 9223372036854775807) (h : next (s.data.toList.drop k) = (r, n)) :
    Calls Try.prog 48 #[.string s, .int .i64 k] w fun e w' => e = .returned (.tuple #[.int .i32 r, .int .i64 n]) ∧ w = w' := by
  have := next_any s k w (by unfold maxLen; omega)
  unfold nextAt at this
  rw [if_neg (by omega), Int.toNat_natCast, h] at this
  exact this
set_option maxRecDepth 100000 in
set_option maxHeartbeats 2000000 in
theorem all1_in (n l b : Nat) (s : ByteArray) (hn : 1 ≤ n) (hs : s.size ≤ 9223372036854775807) (J Jx : List Stp → World → Prop)
    (hY : ∀ pre x W, J pre W → pre.length < (stps s.data.toList).length → YieldAt Fence.wide (n - 1) Try.prog l (stpV x) W fun e W' =>
      (e = .returned (.bool true) ∧ J (pre ++ [x]) W' ∧ KB b W W') ∨ (e = .returned (.bool false) ∧ Jx (pre ++ [x]) W'))
    (W : World) (hc : W.cell? ⟨b, 0, none⟩ = some (.string s)) (h0 : J [] W) :
    CallsIn Fence.wide n Try.prog 47 #[.func (.yield l) #[] #[], .pointer (some ⟨b, 0, none⟩)] W fun e W' => (∃ v, e = .returned v) ∧
      ((∃ ys, ys = stps s.data.toList ∧ J ys W') ∨ (∃ pre, pre <+: stps s.data.toList ∧ Jx pre W')) := by
  refine callsIn_of_wp Try.func47 rfl trivial ?_ rfl
  simp only [Try.ntmps47, List.size_toArray, List.length_cons, List.length_nil, Nat.reduceAdd, Nat.reduceSub, Array.replicate_succ, Array.replicate_zero, List.push_toArray, List.append_toArray, List.nil_append, List.cons_append]
  gi_wp2
  gi_loopw [3] (fun z wr => ∃ (k : Nat) (pre : List Stp), z = .int .i64 k ∧ k ≤ s.size ∧ stps s.data.toList = pre ++ stps (s.data.toList.drop k) ∧ J pre wr ∧ wr.cell? ⟨b, 0, none⟩ = some (.string s)) (fun z _ => s.size - (intOf z).toNat)
  case atStart => exact ⟨0, [], rfl, Nat.zero_le _, rfl, h0, hc⟩
  case round =>
    obtain ⟨k, pre, rfl, hk, hp, hJ, hcr⟩ := hrel
    have HP := Lib.hid hp
    clear hp hc
    by_cases hlt : k < s.size
    · obtain ⟨r, m, hnx, hr, hn1, hn4, hkn, hne, hdd⟩ := next_at hlt
      have hx : stps s.data.toList = (pre ++ [⟨r, m, hr, hn1, hn4⟩]) ++ stps (s.data.toList.drop (k + m)) := by
        have hst : stp _ hne = ⟨r, m, hr, hn1, hn4⟩ := stp_ext (by simp [stp, hnx]) (by simp [stp, hnx])
        rw [HP.out, stps_cons hne, hst, hnx, hdd]; simp
      have hlen : pre.length < (stps s.data.toList).length := by rw [hx]; simp
      obtain ⟨fn, tmps, assign, body, hy, hR⟩ := hY pre ⟨r, m, hr, hn1, hn4⟩ wr hJ hlen
      unfold stpV at hy
      dsimp only at hy
      have HX := Lib.hid hx
      have HN := Lib.hid (fun w => next_to s k r m w hs hnx)
      clear hx hlen hnx hne hdd
      gi_wp2_with (refine ⟨trivial, ?_⟩; gi_at_call 48; refine (callsIn_wide.2 (HN.out _)).mono ?_; rintro e w' ⟨rfl, rfl⟩)
      refine hR.mono ?_
      rintro e W3 (⟨rfl, hJ3, hk3⟩ | ⟨rfl, hJx3⟩)
      · have hc3 := (KB.cell hk3 0).trans hcr
        gi_wp2
        go_roundw
        case rel => exact ⟨k + m, _, by go_num, hkn, HX.out, hJ3, hc3⟩
        case measure => simp [intOf]; omega
      · gi_wp2
        refine bodyPost_ret (results_none rfl _ _ _) rfl ?_
        exact ⟨⟨_, rfl⟩, .inr ⟨_, ⟨_, HX.out.symm⟩, hJx3⟩⟩
    · have HE : Hid (stps s.data.toList = pre) := by show _ = _; rw [HP.out, drop_end (by omega), stps_nil, List.append_nil]
      gi_wp2
      go_end0
      exact ⟨⟨_, rfl⟩, .inl ⟨pre, HE.out.symm, hJ⟩⟩
end Go.Proofs.Ytlogjghbdnaedaa
