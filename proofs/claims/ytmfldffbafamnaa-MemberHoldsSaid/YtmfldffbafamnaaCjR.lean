/- Walks: ctxjson's Hole, End, Deep. -/
import Derived.Test.YtmfldffbafamnaaCjW
namespace Go.Proofs.Ytmfldffbafamnaa
open Go.RowKit
set_option linter.unusedVariables false
set_option linter.unusedSimpArgs false
def holeS (q : Q) : Bool := (q.m : Int) == 6 && q.p.isEmpty
def endS (q : Q) : Bool := ((q.m : Int) == 5 && q.o.isEmpty && q.p.isEmpty) || ((q.m : Int) == 9 && q.o.isEmpty && cntB q.p)
theorem hole_any (q : Q) (w : World) :
    Calls Try.prog 17 #[q.v] w fun x w' => x = .returned (.bool (holeS q)) ∧ Below w.heap.size w w' := by
  obtain ⟨m, o, p⟩ := q
  have hT := strOf_toList
  unfold Q.v sv holeS
  dsimp only
  cases hm : ((m : Int) == 6)
  all_goals
    go_enter Try.func17, Try.ntmps17
    go_wp2_with fail
    go_ret
    exact ⟨rfl, (Below.refl _ w).alloc (Nat.le_refl _) _⟩
theorem deep_any (q : Q) (w : World) (hq : q.fit) :
    Calls Try.prog 23 #[q.v] w fun x w' => x = .returned (.int .i64 q.o.length) ∧ Below w.heap.size w w' := by
  obtain ⟨m, o, p⟩ := q
  obtain ⟨_, h2, _⟩ := hq
  dsimp only at h2
  have hz := strOf_size o
  unfold Q.v sv
  dsimp only
  go_enter Try.func23, Try.ntmps23
  go_wp2_with fail
  go_ret
  exact ⟨rfl, (Below.refl _ w).alloc (Nat.le_refl _) _⟩
theorem end_any (q : Q) (w : World) :
    Calls Try.prog 16 #[q.v] w fun x w' => x = .returned (.bool (endS q)) ∧ Below w.heap.size w w' := by
  obtain ⟨m, o, p⟩ := q
  have hT := strOf_toList
  have HT := Lib.hid (fun w => counts_any p w)
  unfold Q.v sv
  dsimp only
  cases h5 : ((m : Int) == 5)
  · cases h9 : ((m : Int) == 9)
    · have K : Hid (endS ⟨m, o, p⟩ = false) := by show _ = _; unfold endS; dsimp only; rw [h5, h9]; rfl
      go_enter Try.func16, Try.ntmps16
      go_wp2_with fail
      go_ret
      exact ⟨by rw [K.out]; rfl, (Below.refl _ w).alloc (Nat.le_refl _) _⟩
    · cases ho : o.isEmpty
      · have K : Hid (endS ⟨m, o, p⟩ = false) := by show _ = _; unfold endS; dsimp only; rw [h5, h9, ho]; rfl
        go_enter Try.func16, Try.ntmps16
        go_wp2_with fail
        go_ret
        exact ⟨by rw [K.out]; rfl, (Below.refl _ w).alloc (Nat.le_refl _) _⟩
      · have K : Hid (endS ⟨m, o, p⟩ = cntB p) := by show _ = _; unfold endS; dsimp only; rw [h5, h9, ho]; simp
        go_enter Try.func16, Try.ntmps16
        go_wp2_with fail
        refine (HT.out _).mono ?_
        rintro x w2 ⟨rfl, rfl⟩
        go_wp2_with fail
        go_ret
        exact ⟨by rw [K.out]; rfl, (Below.refl _ w).alloc (Nat.le_refl _) _⟩
  · obtain rfl : m = 5 := by simp only [beq_iff_eq] at h5; omega
    have K : Hid (endS ⟨5, o, p⟩ = (o.isEmpty && p.isEmpty)) := by show _ = _; unfold endS; simp
    rcases o with _ | ⟨a, o⟩
    · rcases p with _ | ⟨b, p⟩
      · go_enter Try.func16, Try.ntmps16
        go_wp2_with fail
        go_ret
        exact ⟨by rw [K.out]; rfl, (Below.refl _ w).alloc (Nat.le_refl _) _⟩
      · go_enter Try.func16, Try.ntmps16
        go_wp2_with fail
        go_ret
        exact ⟨by rw [K.out]; rfl, (Below.refl _ w).alloc (Nat.le_refl _) _⟩
    · go_enter Try.func16, Try.ntmps16
      go_wp2_with fail
      go_ret
      exact ⟨by rw [K.out]; rfl, (Below.refl _ w).alloc (Nat.le_refl _) _⟩
end Go.Proofs.Ytmfldffbafamnaa
