/- A state of the reference in a block. -/
import Derived.Test.YtmfldffbafamnaaRfB
namespace Go.Proofs.Ytmfldffbafamnaa
open Go.RowKit
set_option linter.unusedVariables false
set_option linter.unusedSimpArgs false
def RD.cs (r : RD) : Array Value := #[.string (strOf r.o), .int .i64 r.m, .int .u8 r.n, .string (strOf r.p)]
def RdAt (w : World) (g : Nat) (r : RD) : Prop := Blk w g 30 r.cs
theorem RdAt.facts {w : World} {g : Nat} {q : RD} (h : RdAt w g q) :
    w.cell? ⟨g, 0, none⟩ = some (.string (strOf q.o)) ∧ w.cell? ⟨g, 1, none⟩ = some (.int .i64 q.m) ∧ w.cell? ⟨g, 2, none⟩ = some (.int .u8 q.n) ∧ w.cell? ⟨g, 3, none⟩ = some (.string (strOf q.p)) :=
  ⟨Blk.cell h 0, Blk.cell h 1, Blk.cell h 2, Blk.cell h 3⟩
theorem RdAt.frz {w : World} {g : Nat} {q : RD} (h : RdAt w g q) :
    w.frozen? ⟨g, 0, none⟩ = false ∧ w.frozen? ⟨g, 1, none⟩ = false ∧ w.frozen? ⟨g, 2, none⟩ = false ∧ w.frozen? ⟨g, 3, none⟩ = false :=
  ⟨Blk.frozen h 0, Blk.frozen h 1, Blk.frozen h 2, Blk.frozen h 3⟩
theorem RdAt.put {w : World} {g : Nat} {q : RD} (h : RdAt w g q) (r : RD) :
    RdAt ((((w.setCell ⟨g, 0, none⟩ (.string (strOf r.o))).setCell ⟨g, 1, none⟩ (.int .i64 r.m)).setCell ⟨g, 2, none⟩ (.int .u8 r.n)).setCell ⟨g, 3, none⟩ (.string (strOf r.p))) g r :=
  (((Blk.set_ h 0 (.string (strOf r.o))).set_ 1 (.int .i64 r.m)).set_ 2 (.int .u8 r.n)).set_ 3 (.string (strOf r.p))
theorem RdAt.far {w : World} {g : Nat} {q : RD} (h : RdAt w g q) {a : Addr} (ha : g ≠ a.block) (u : Value) : RdAt (w.setCell a u) g q := Blk.far h ha u
theorem RdAt.below' {w w' : World} {g : Nat} {q : RD} (h : RdAt w g q) (hb : Below w.heap.size w w') : RdAt w' g q := Blk.below h hb (Blk.lt h)
/-- The receiver's box as it lies now, and the result's. -/
theorem rboxes_new (w : World) (r : RD) (W : World)
    (hW : W = (w.alloc (.cells #[.string (strOf r.o), .int .i64 r.m, .int .u8 r.n, .string (strOf r.p)] 30)).alloc (.cells #[.string ⟨#[]⟩, .int .i64 0, .int .u8 0, .string ⟨#[]⟩] 30)) :
    RdAt W w.heap.size r ∧ RdAt W (w.heap.size + 1) ⟨[], 0, 0, []⟩ ∧ Below w.heap.size w W := by
  subst hW
  refine ⟨(Blk.new w _ _).alloc _, ?_, ((Below.refl _ w).alloc (Nat.le_refl _) _).alloc (by simp) _⟩
  have h := Blk.new (w.alloc (.cells #[.string (strOf r.o), .int .i64 r.m, .int .u8 r.n, .string (strOf r.p)] 30)) 30 #[.string ⟨#[]⟩, .int .i64 0, .int .u8 0, .string ⟨#[]⟩]
  rw [World.size_alloc] at h
  exact h
/-- Behind the boxes one thing more. -/
theorem rbox_behind (w : World) (r : RD) (b : Obj) (W : World)
    (hW : W = ((w.alloc (.cells #[.string (strOf r.o), .int .i64 r.m, .int .u8 r.n, .string (strOf r.p)] 30)).alloc (.cells #[.string ⟨#[]⟩, .int .i64 0, .int .u8 0, .string ⟨#[]⟩] 30)).alloc b) :
    RdAt W w.heap.size r ∧ RdAt W (w.heap.size + 1) ⟨[], 0, 0, []⟩ ∧ Below w.heap.size w W := by
  obtain ⟨hA, hR, hb⟩ := rboxes_new w r _ rfl
  subst hW
  exact ⟨Blk.alloc hA _, Blk.alloc hR _, hb.alloc (by simp; omega) _⟩
theorem rbelow_put {B g : Nat} {a w : World} (h : Below B a w) (hg : B ≤ g) (u v x y : Value) : Below B a ((((w.setCell ⟨g, 0, none⟩ u).setCell ⟨g, 1, none⟩ v).setCell ⟨g, 2, none⟩ x).setCell ⟨g, 3, none⟩ y) :=
  (((h.setCell (p := ⟨g, 0, none⟩) hg u).setCell (p := ⟨g, 1, none⟩) hg v).setCell (p := ⟨g, 2, none⟩) hg x).setCell (p := ⟨g, 3, none⟩) hg y
def outR (r : RD) (c : UInt8) : RD × Bool :=
  if c.toNat = 32 ∨ c.toNat = 9 ∨ c.toNat = 10 ∨ c.toNat = 13 then (r, true)
  else if c.toNat = 93 then (⟨r.o.take (r.o.length - 1), 5, 0, []⟩, (inB r.o : Int) == 91 && ((r.m : Int) == 1 || (r.m : Int) == 5))
  else if c.toNat = 125 then (⟨r.o.take (r.o.length - 1), 5, 0, []⟩, (inB r.o : Int) == 123 && ((r.m : Int) == 2 || (r.m : Int) == 5))
  else if c.toNat = 44 then (⟨r.o, if inB r.o = 123 then 3 else 0, r.n, r.p⟩, decide (0 < r.o.length) && (r.m : Int) == 5)
  else if c.toNat = 58 then (⟨r.o, 0, r.n, r.p⟩, (r.m : Int) == 4)
  else if c.toNat = 91 ∨ c.toNat = 123 then (⟨r.o ++ [c], if c.toNat = 123 then 2 else 1, r.n, r.p⟩, ((r.m : Int) == 0 || (r.m : Int) == 1) && decide (r.o.length < 32))
  else if c.toNat = 34 ∧ (r.m = 2 ∨ r.m = 3) then (⟨r.o, r.m, 107, r.p⟩, decide (r.o.length < 32))
  else if ¬ (r.m = 0 ∨ r.m = 1) ∨ 32 ≤ r.o.length then (r, false)
  else if c.toNat = 34 then (⟨r.o, r.m, 115, []⟩, true)
  else if c.toNat = 45 ∨ digB c.toNat = true then (⟨r.o, r.m, 110, [c]⟩, true)
  else (⟨r.o, r.m, 119, [c]⟩, (wordS [c]).1)
def blL : List UInt8 := [32, 9, 10, 13]
theorem blL_one {c : Nat} (h : c < 256) : oneS blL c = decide (c = 32 ∨ c = 9 ∨ c = 10 ∨ c = 13) := by
  have : ∀ c : Fin 256, oneS blL c.val = decide (c.val = 32 ∨ c.val = 9 ∨ c.val = 10 ∨ c.val = 13) := by decide +kernel
  exact this ⟨c, h⟩
end Go.Proofs.Ytmfldffbafamnaa
