/- A state in a block, as the walks of ctxjson meet it. -/
import Derived.Test.YtmfldffbafamnaaCjF
namespace Go.Proofs.Ytmfldffbafamnaa
open Go.RowKit
set_option linter.unusedVariables false
set_option linter.unusedSimpArgs false
def Q.cs (q : Q) : Array Value := #[.int .i64 q.m, .string (strOf q.o), .string (strOf q.p)]
def StAt (w : World) (g : Nat) (q : Q) : Prop := Blk w g 25 q.cs
theorem StAt.facts {w : World} {g : Nat} {q : Q} (h : StAt w g q) :
    w.cell? ⟨g, 0, none⟩ = some (.int .i64 q.m) ∧ w.cell? ⟨g, 1, none⟩ = some (.string (strOf q.o)) ∧ w.cell? ⟨g, 2, none⟩ = some (.string (strOf q.p)) ∧
    w.frozen? ⟨g, 0, none⟩ = false ∧ w.frozen? ⟨g, 1, none⟩ = false ∧ w.frozen? ⟨g, 2, none⟩ = false :=
  ⟨Blk.cell h 0, Blk.cell h 1, Blk.cell h 2, Blk.frozen h 0, Blk.frozen h 1, Blk.frozen h 2⟩
theorem StAt.put {w : World} {g : Nat} {q : Q} (h : StAt w g q) (r : Q) :
    StAt (((w.setCell ⟨g, 0, none⟩ (.int .i64 r.m)).setCell ⟨g, 1, none⟩ (.string (strOf r.o))).setCell ⟨g, 2, none⟩ (.string (strOf r.p))) g r :=
  ((Blk.set_ h 0 (.int .i64 r.m)).set_ 1 (.string (strOf r.o))).set_ 2 (.string (strOf r.p))
theorem StAt.part {w : World} {g : Nat} {q : Q} (h : StAt w g q) (p : List UInt8) : StAt (w.setCell ⟨g, 2, none⟩ (.string (strOf p))) g ⟨q.m, q.o, p⟩ := Blk.set_ h 2 (.string (strOf p))
theorem StAt.far {w : World} {g : Nat} {q : Q} (h : StAt w g q) {a : Addr} (ha : g ≠ a.block) (u : Value) : StAt (w.setCell a u) g q := Blk.far h ha u
theorem StAt.below {w w' : World} {g B : Nat} {q : Q} (h : StAt w g q) (hb : Below B w w') (hg : g < B) : StAt w' g q := Blk.below h hb hg
theorem StAt.below' {w w' : World} {g : Nat} {q : Q} (h : StAt w g q) (hb : Below w.heap.size w w') : StAt w' g q := Blk.below h hb (Blk.lt h)
/-- The receiver's box, and the result's. -/
theorem boxes_new (w : World) (m : Nat) (o p : List UInt8) :
    StAt ((w.alloc (.cells #[.int .i64 m, .string (strOf o), .string (strOf p)] 25)).alloc (.cells #[.int .i64 0, .string ⟨#[]⟩, .string ⟨#[]⟩] 25)) w.heap.size ⟨m, o, p⟩ ∧
    StAt ((w.alloc (.cells #[.int .i64 m, .string (strOf o), .string (strOf p)] 25)).alloc (.cells #[.int .i64 0, .string ⟨#[]⟩, .string ⟨#[]⟩] 25)) (w.heap.size + 1) ⟨0, [], []⟩ ∧
    Below w.heap.size w ((w.alloc (.cells #[.int .i64 m, .string (strOf o), .string (strOf p)] 25)).alloc (.cells #[.int .i64 0, .string ⟨#[]⟩, .string ⟨#[]⟩] 25)) := by
  refine ⟨(Blk.new w _ _).alloc _, ?_, ((Below.refl _ w).alloc (Nat.le_refl _) _).alloc (by simp) _⟩
  have h := Blk.new (w.alloc (.cells #[.int .i64 m, .string (strOf o), .string (strOf p)] 25)) 25 #[.int .i64 0, .string ⟨#[]⟩, .string ⟨#[]⟩]
  rw [World.size_alloc] at h
  exact h
theorem below_put {B g : Nat} {a w : World} (h : Below B a w) (hg : B ≤ g) (u v x : Value) : Below B a (((w.setCell ⟨g, 0, none⟩ u).setCell ⟨g, 1, none⟩ v).setCell ⟨g, 2, none⟩ x) :=
  ((h.setCell (p := ⟨g, 0, none⟩) hg u).setCell (p := ⟨g, 1, none⟩) hg v).setCell (p := ⟨g, 2, none⟩) hg x
end Go.Proofs.Ytmfldffbafamnaa
