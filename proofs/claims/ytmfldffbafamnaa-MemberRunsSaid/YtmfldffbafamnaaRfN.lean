/- Walks: the reference's Hole and End. -/
import Derived.Test.YtmfldffbafamnaaRfE
import Derived.Test.YtmfldffbafamnaaRfC
namespace Go.Proofs.Ytmfldffbafamnaa
open Go.RowKit
set_option linter.unusedVariables false
set_option linter.unusedSimpArgs false
def holeR (r : RD) : Bool := (r.n : Int) == 115 && r.p.isEmpty
def endR (r : RD) : Bool := r.o.isEmpty && (((r.m : Int) == 5 && (r.n : Int) == 0) || ((r.n : Int) == 110 && (numR r.p).2))
theorem rhole_any (r : RD) (w : World) :
    Calls Try.prog 21 #[r.v] w fun x w' => x = .returned (.bool (holeR r)) ∧ Below w.heap.size w w' := by
  obtain ⟨o, m, n, p⟩ := r
  have hT := strOf_toList
  unfold RD.v holeR
  dsimp only
  cases hm : ((n : Int) == 115)
  all_goals
    go_enter Try.func21, Try.ntmps21
    go_wp2_with fail
    go_ret
    exact ⟨rfl, (Below.refl _ w).alloc (Nat.le_refl _) _⟩
theorem rend_any (r : RD) (w : World) (hp : r.p.length ≤ 60000) :
    Calls Try.prog 22 #[r.v] w fun x w' => x = .returned (.bool (endR r)) ∧ Below w.heap.size w w' := by
  obtain ⟨o, m, n, p⟩ := r
  dsimp only at hp
  have hT := strOf_toList
  have HN := Lib.hid (fun w => num_any p w hp)
  have K0 : Hid (endR ⟨o, m, n, p⟩ = (o.isEmpty && (((m : Int) == 5 && (n : Int) == 0) || ((n : Int) == 110 && (numR p).2)))) := by show _ = _; unfold endR; rfl
  unfold RD.v
  dsimp only
  generalize numR p = y at *
  obtain ⟨y1, y2⟩ := y
  dsimp only at HN K0
  cases h1 : o.isEmpty <;> cases h2 : ((m : Int) == 5) <;> cases h3 : ((n : Int) == 0) <;> cases h4 : ((n : Int) == 110)
  all_goals
    rw [h1, h2, h3, h4] at K0
    go_enter Try.func22, Try.ntmps22
    go_wp2_with fail
    refine (HN.out _).mono ?_
    rintro e w2 ⟨rfl, rfl⟩
    go_wp2_with fail
    go_ret
    exact ⟨by rw [K0.out]; rfl, (Below.refl _ w).alloc (Nat.le_refl _) _⟩
end Go.Proofs.Ytmfldffbafamnaa
