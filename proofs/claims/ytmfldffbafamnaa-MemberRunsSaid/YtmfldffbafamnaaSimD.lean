/- Plain: what follows for whole texts. -/
import Derived.Test.YtmfldffbafamnaaSimC
import Derived.Test.YtmfldffbafamnaaRfM
import Derived.Test.YtmfldffbafamnaaRfN
import Derived.Test.YtmfldffbafamnaaCjU
namespace Go.Proofs.Ytmfldffbafamnaa
set_option linter.unusedVariables false
set_option linter.unusedSimpArgs false
theorem runS_cons (q : Q) (c : UInt8) (t : List UInt8) : runS q (c :: t) = if (nextS q c).2 = true then runS (nextS q c).1 t else (q, false) := rfl
theorem runR_cons (r : RD) (c : UInt8) (t : List UInt8) : runR r (c :: t) = if (nextR r c).2 = true then runR (nextR r c).1 t else (r, false) := rfl
theorem run_both {q : Q} {r : RD} (h : Sim q r) (l : List UInt8) : (runS q l).2 = (runR r l).2 ∧ Sim (runS q l).1 (runR r l).1 := by
  induction l generalizing q r with
  | nil => exact ⟨rfl, h⟩
  | cons c t ih =>
    obtain ⟨h1, h2⟩ := next_both h c
    rw [runS_cons, runR_cons, ← h1]
    by_cases e : (nextS q c).2 = true
    · rw [if_pos e, if_pos e]; exact ih (h2 e)
    · rw [if_neg e, if_neg e]; exact ⟨rfl, h⟩
theorem sim0 : Sim q0 r0 := ⟨rfl, Or.inl ⟨rfl, rfl, rfl, rfl, by decide⟩⟩
theorem hole_both {q : Q} {r : RD} (h : Sim q r) : holeS q = holeR r := by
  unfold holeS holeR
  rcases h.s with ⟨hn, hp, hp', hm, hm5⟩ | ⟨hn, hm, hp, he⟩ | ⟨hn, hm, hp, he⟩ | ⟨hn, hm, hp, hne⟩ | ⟨hn, hm, ha, hne⟩
  · have e1 : ((q.m : Int) == 6) = false := by simp only [beq_eq_false_iff_ne]; omega
    have e2 : ((r.n : Int) == 115) = false := by rw [hn]; rfl
    rw [e1, e2]; rfl
  · rw [hn, hm, hp]; rfl
  · rw [hn, hm]; rfl
  · rw [hn, hm]; rfl
  · rw [hn, hm]; rfl
theorem end_both {q : Q} {r : RD} (h : Sim q r) : endS q = endR r := by
  unfold endS endR
  rw [h.o]
  rcases h.s with ⟨hn, hp, hp', hm, hm5⟩ | ⟨hn, hm, hp, he⟩ | ⟨hn, hm, hp, he⟩ | ⟨hn, hm, hp, hne⟩ | ⟨hn, hm, ha, hne⟩
  · have e1 : ((r.m : Int) == 9) = false := by simp only [beq_eq_false_iff_ne]; omega
    rw [hn, hm, hp', e1]
    cases q.o.isEmpty <;> cases ((r.m : Int) == 5) <;> rfl
  · rw [hn, hm]
    cases q.o.isEmpty <;> cases ((r.m : Int) == 5) <;> rfl
  · rw [hn, hm]
    cases q.o.isEmpty <;> cases ((r.m : Int) == 5) <;> rfl
  · rw [hn, hm]
    cases q.o.isEmpty <;> cases ((r.m : Int) == 5) <;> rfl
  · have hB := numR_agree hne
    rw [hB.2 q.p ha, hn, hm]
    cases q.o.isEmpty <;> cases ((r.m : Int) == 5) <;> cases cntB q.p <;> rfl
/-- How much of a text may be read. -/
def lngR (r : RD) : List UInt8 → Nat
  | [] => 0
  | c :: t => if (nextR r c).2 = true then lngR (nextR r c).1 t + 1 else 0
theorem lngR_le (r : RD) (l : List UInt8) : lngR r l ≤ l.length := by
  induction l generalizing r with
  | nil => exact Nat.le_refl _
  | cons c t ih =>
    unfold lngR
    split
    · have := ih (nextR r c).1; simp; omega
    · simp
theorem runR_take (r : RD) (l : List UInt8) (j : Nat) (hj : j ≤ l.length) : (runR r (l.take j)).2 = decide (j ≤ lngR r l) := by
  induction l generalizing r j with
  | nil =>
    have : j = 0 := by simpa using hj
    subst this; rfl
  | cons c t ih =>
    cases j with
    | zero => simp [runR]
    | succ j =>
      rw [List.take_succ_cons, runR_cons]
      unfold lngR
      by_cases e : (nextR r c).2 = true
      · rw [if_pos e, if_pos e, ih _ _ (by simpa using hj), decide_eq_decide]; omega
      · rw [if_neg e, if_neg e]; simp
theorem runS_append (q : Q) (a b : List UInt8) (h : (runS q a).2 = true) : runS q (a ++ b) = runS (runS q a).1 b := by
  induction a generalizing q with
  | nil => rfl
  | cons c t ih =>
    rw [runS_cons] at h
    rw [List.cons_append, runS_cons, runS_cons]
    by_cases e : (nextS q c).2 = true
    · rw [if_pos e] at h ⊢
      rw [if_pos e]; exact ih _ h
    · rw [if_neg e] at h; cases h
theorem runR_append (q : RD) (a b : List UInt8) (h : (runR q a).2 = true) : runR q (a ++ b) = runR (runR q a).1 b := by
  induction a generalizing q with
  | nil => rfl
  | cons c t ih =>
    rw [runR_cons] at h
    rw [List.cons_append, runR_cons, runR_cons]
    by_cases e : (nextR q c).2 = true
    · rw [if_pos e] at h ⊢
      rw [if_pos e]; exact ih _ h
    · rw [if_neg e] at h; cases h
theorem runS_fail (q : Q) (a b : List UInt8) (h : (runS q a).2 = false) : runS q (a ++ b) = runS q a := by
  induction a generalizing q with
  | nil => cases h
  | cons c t ih =>
    rw [runS_cons] at h
    rw [List.cons_append, runS_cons, runS_cons]
    by_cases e : (nextS q c).2 = true
    · rw [if_pos e] at h ⊢
      rw [if_pos e]; exact ih _ h
    · rw [if_neg e, if_neg e]
def lng (l : List UInt8) : Nat := lngR r0 l
theorem lng_le (l : List UInt8) : lng l ≤ l.length := lngR_le _ _
theorem ok_take (l : List UInt8) (j : Nat) (hj : j ≤ lng l) : (runS q0 (l.take j)).2 = true := by
  rw [(run_both sim0 _).1, runR_take _ _ _ (Nat.le_trans hj (lng_le l))]
  exact decide_eq_true hj
theorem ok_all (l : List UInt8) : (runS q0 l).2 = decide (lng l = l.length) := by
  have h := runR_take r0 l l.length (Nat.le_refl _)
  rw [List.take_of_length_le (Nat.le_refl _), ← (run_both sim0 l).1] at h
  rw [h, decide_eq_decide]
  have := lng_le l
  unfold lng at *
  omega
/-- Where a text may not be read to its end, the state is that of the longest part. -/
theorem state_all (l : List UInt8) : (runS q0 l).1 = (runS q0 (l.take (lng l))).1 := by
  have gen : ∀ (q : Q) (r : RD) (l : List UInt8), Sim q r → (runS q l).1 = (runS q (l.take (lngR r l))).1 := by
    intro q r l
    induction l generalizing q r with
    | nil => intro _; rfl
    | cons c t ih =>
      intro h
      obtain ⟨h1, h2⟩ := next_both h c
      rw [runS_cons]
      unfold lngR
      by_cases e : (nextS q c).2 = true
      · rw [if_pos e, if_pos (by rw [← h1]; exact e), List.take_succ_cons, runS_cons, if_pos e]
        exact ih _ _ (h2 e)
      · rw [if_neg e, if_neg (by rw [← h1]; exact e)]; rfl
  exact gen q0 r0 l sim0
/-- A step and the document's reading of one byte more. -/
theorem step_law (l : List UInt8) (c : UInt8) : (stepS (runS q0 (l.take (lng l))).1 c).2 = (runR r0 (l.take (lng l) ++ [c])).2 ∧ ((stepS (runS q0 (l.take (lng l))).1 c).2 = false → (stepS (runS q0 (l.take (lng l))).1 c).1 = (runS q0 (l.take (lng l))).1) := by
  have hb := run_both sim0 (l.take (lng l))
  have hok := ok_take l (lng l) (Nat.le_refl _)
  rw [runR_append _ _ _ (by rw [← hb.1]; exact hok)]
  obtain ⟨h1, h2⟩ := next_both hb.2 c
  have e : (runR (runR r0 (l.take (lng l))).1 [c]).2 = (nextR (runR r0 (l.take (lng l))).1 c).2 := by
    rw [runR_cons]
    by_cases e : (nextR (runR r0 (l.take (lng l))).1 c).2 = true
    · rw [if_pos e, e]; rfl
    · rw [if_neg e]; simp only [Bool.not_eq_true] at e; rw [e]
  rw [e, ← h1]
  unfold stepS
  by_cases e : (nextS (runS q0 (l.take (lng l))).1 c).2 = true
  · rw [if_pos e]; exact ⟨e.symm, fun h => (by cases h)⟩
  · rw [if_neg e]
    simp only [Bool.not_eq_true] at e
    exact ⟨e.symm, fun _ => rfl⟩
end Go.Proofs.Ytmfldffbafamnaa
