/- Plain: the two machines go side by side. -/
import Derived.Test.YtmfldffbafamnaaCjT
import Derived.Test.YtmfldffbafamnaaRfJ
import Derived.Test.YtmfldffbafamnaaSimA
import Derived.Test.YtmfldffbafamnaaSimB
namespace Go.Proofs.Ytmfldffbafamnaa
set_option linter.unusedVariables false
set_option linter.unusedSimpArgs false
/-- The program's state and the document's say the same. -/
structure Sim (q : Q) (r : RD) : Prop where
  o : r.o = q.o
  s : (r.n = 0 ∧ r.p = [] ∧ q.p = [] ∧ q.m = r.m ∧ r.m ≤ 5) ∨ (r.n = 115 ∧ q.m = 6 ∧ q.p = r.p ∧ EscV r.p) ∨ (r.n = 107 ∧ q.m = 7 ∧ q.p = r.p ∧ EscV r.p) ∨
    (r.n = 119 ∧ q.m = 8 ∧ q.p = r.p ∧ r.p ≠ []) ∨ (r.n = 110 ∧ q.m = 9 ∧ accN r.p = some q.p ∧ r.p ≠ [])
def Both (x : Q × Bool) (y : RD × Bool) : Prop := x.2 = y.2 ∧ (x.2 = true → Sim x.1 y.1)
theorem Both.no {a : Q} {b : RD} {x : Q × Bool} {y : RD × Bool} (h1 : x.2 = false) (h2 : y.2 = false) : Both x y := ⟨by rw [h1, h2], fun h => by rw [h1] at h; cases h⟩
theorem bi {a b : Nat} : ((a : Int) == b) = (a == b) := by rw [Bool.eq_iff_iff]; simp only [beq_iff_eq]; omega
theorem bi0 {a : Nat} : ((a : Int) == 0) = (a == 0) := bi (b := 0)
theorem bi1 {a : Nat} : ((a : Int) == 1) = (a == 1) := bi (b := 1)
theorem bi2 {a : Nat} : ((a : Int) == 2) = (a == 2) := bi (b := 2)
theorem bi4 {a : Nat} : ((a : Int) == 4) = (a == 4) := bi (b := 4)
theorem bi5 {a : Nat} : ((a : Int) == 5) = (a == 5) := bi (b := 5)
theorem bi91 {a : Nat} : ((a : Int) == 91) = (a == 91) := bi (b := 91)
theorem bi123 {a : Nat} : ((a : Int) == 123) = (a == 123) := bi (b := 123)
theorem close_both (o : List UInt8) (m b e : Nat) (hb : b ≠ 0) :
    Both (closeS ⟨m, o, []⟩ b e) (⟨o.take (o.length - 1), 5, 0, []⟩, (inB o == b) && (m == e || m == 5)) := by
  unfold closeS
  dsimp only
  by_cases h : inB o ≠ b ∨ (m ≠ e ∧ m ≠ 5)
  · rw [if_pos h]
    refine ⟨?_, fun h => by cases h⟩
    dsimp only
    rcases h with h | ⟨h1, h2⟩
    · have : (inB o == b) = false := by simpa using h
      rw [this]; rfl
    · have e1 : (m == e) = false := by simpa using h1
      have e2 : (m == 5) = false := by simpa using h2
      rw [e1, e2]; simp
  · rw [if_neg h]
    refine ⟨?_, fun _ => ⟨rfl, Or.inl ⟨rfl, rfl, rfl, rfl, by simp⟩⟩⟩
    have h1 : inB o = b := by omega
    have h2 : m = e ∨ m = 5 := by omega
    dsimp only
    rw [h1]
    rcases h2 with h2 | h2 <;> simp [h2]
theorem byte_of {c : UInt8} {n : Nat} (h : c.toNat = n) (hn : n < 256) : c = UInt8.ofNat n := by
  apply UInt8.toNat.inj
  rw [h]; simp [Nat.mod_eq_of_lt hn]
theorem out_both (o : List UInt8) (m : Nat) (c : UInt8) (hm : m ≤ 5) : Both (outS ⟨m, o, []⟩ c) (outR ⟨o, m, 0, []⟩ c) := by
  have same : Sim ⟨m, o, []⟩ ⟨o, m, 0, []⟩ := ⟨rfl, Or.inl ⟨rfl, rfl, rfl, rfl, hm⟩⟩
  unfold outS outR
  dsimp only
  by_cases h1 : c.toNat = 32 ∨ c.toNat = 9 ∨ c.toNat = 10 ∨ c.toNat = 13
  · rw [if_pos h1, if_pos h1]; exact ⟨rfl, fun _ => same⟩
  rw [if_neg h1, if_neg h1]
  by_cases h2 : c.toNat = 93
  · rw [if_pos h2, if_pos h2, bi91, bi1, bi5]; exact close_both o m 91 1 (by decide)
  rw [if_neg h2, if_neg h2]
  by_cases h3 : c.toNat = 125
  · rw [if_pos h3, if_pos h3, bi123, bi2, bi5]; exact close_both o m 123 2 (by decide)
  rw [if_neg h3, if_neg h3]
  by_cases h4 : c.toNat = 44
  · rw [if_pos h4, if_pos h4, bi5]
    refine ⟨?_, fun _ => ⟨rfl, Or.inl ⟨rfl, rfl, rfl, rfl, ?_⟩⟩⟩
    · dsimp only
      cases o with
      | nil => simp
      | cons a t => simp
    · dsimp only; split <;> omega
  rw [if_neg h4, if_neg h4]
  by_cases h5 : c.toNat = 58
  · rw [if_pos h5, if_pos h5, bi4]
    exact ⟨rfl, fun _ => ⟨rfl, Or.inl ⟨rfl, rfl, rfl, rfl, by simp⟩⟩⟩
  rw [if_neg h5, if_neg h5]
  by_cases h6 : c.toNat = 34 ∧ (m = 2 ∨ m = 3)
  · rw [if_pos h6, if_neg (show ¬ (c.toNat = 91 ∨ c.toNat = 123) by omega), if_pos h6]
    exact ⟨rfl, fun _ => ⟨rfl, Or.inr (Or.inr (Or.inl ⟨rfl, rfl, rfl, Or.inl rfl⟩))⟩⟩
  rw [if_neg h6]
  unfold beginS
  dsimp only
  by_cases h7 : ¬ (m = 0 ∨ m = 1) ∨ 32 ≤ o.length
  · rw [if_pos h7]
    by_cases h8 : c.toNat = 91 ∨ c.toNat = 123
    · rw [if_pos h8]
      refine Both.no (a := ⟨m, o, []⟩) (b := ⟨o, m, 0, []⟩) rfl ?_
      dsimp only
      rw [bi0, bi1]
      rcases h7 with h7 | h7
      · have e1 : (m == 0) = false := by simp; omega
        have e2 : (m == 1) = false := by simp; omega
        rw [e1, e2]; rfl
      · rw [decide_eq_false (by omega)]; simp
    · rw [if_neg h8, if_neg h6, if_pos h7]
      exact Both.no (a := ⟨m, o, []⟩) (b := ⟨o, m, 0, []⟩) rfl rfl
  rw [if_neg h7]
  have hval : (((m : Int) == 0 || (m : Int) == 1) && decide (o.length < 32)) = true := by
    rw [bi0, bi1, decide_eq_true (by omega)]
    simp; omega
  by_cases h8 : c.toNat = 91
  · have hc : c = 91 := UInt8.toNat.inj (by rw [h8]; rfl)
    rw [if_pos h8, if_pos (Or.inl h8), hval, if_neg (by omega), hc]
    exact ⟨rfl, fun _ => ⟨rfl, Or.inl ⟨rfl, rfl, rfl, rfl, by simp⟩⟩⟩
  rw [if_neg h8]
  by_cases h9 : c.toNat = 123
  · have hc : c = 123 := UInt8.toNat.inj (by rw [h9]; rfl)
    rw [if_pos h9, if_pos (Or.inr h9), hval, if_pos h9, hc]
    exact ⟨rfl, fun _ => ⟨rfl, Or.inl ⟨rfl, rfl, rfl, rfl, by simp⟩⟩⟩
  rw [if_neg h9, if_neg (show ¬ (c.toNat = 91 ∨ c.toNat = 123) by omega), if_neg h6, if_neg h7]
  by_cases h10 : c.toNat = 34
  · rw [if_pos h10, if_pos h10]
    exact ⟨rfl, fun _ => ⟨rfl, Or.inr (Or.inl ⟨rfl, rfl, rfl, Or.inl rfl⟩)⟩⟩
  rw [if_neg h10, if_neg h10]
  by_cases h11 : c.toNat = 45
  · have hc : c = 45 := UInt8.toNat.inj (by rw [h11]; rfl)
    rw [if_pos h11, if_pos (Or.inl h11), hc]
    exact ⟨rfl, fun _ => ⟨rfl, Or.inr (Or.inr (Or.inr (Or.inr ⟨rfl, rfl, rfl, by simp⟩)))⟩⟩
  rw [if_neg h11]
  by_cases h12 : digit c.toNat
  · have hd : digB c.toNat = true := dig_iff.2 h12
    rw [if_pos h12, if_pos (Or.inr hd)]
    have hok : (numS [] c.toNat).2 = true := by
      unfold numS; rw [if_pos (by decide)]
      split
      · rfl
      · exact hd
    refine ⟨hok, fun _ => ⟨rfl, Or.inr (Or.inr (Or.inr (Or.inr ⟨rfl, rfl, ?_, by simp⟩)))⟩⟩
    have e : accN [c] = if c.toNat = 45 then accF [45] [] else accF [] [c] := rfl
    show accN [c] = some (numS [] c.toNat).1
    rw [e, if_neg h11, accF_cons, if_pos hok]; rfl
  · have hd : digB c.toNat = false := by
      cases h : digB c.toNat
      · rfl
      · exact absurd (dig_iff.1 h) h12
    rw [if_neg h12, if_neg (by rw [hd]; simp; exact h11)]
    exact ⟨rfl, fun _ => ⟨rfl, Or.inr (Or.inr (Or.inr (Or.inl ⟨rfl, rfl, rfl, by simp⟩)))⟩⟩
theorem next_both {q : Q} {r : RD} (h : Sim q r) (c : UInt8) : Both (nextS q c) (nextR r c) := by
  obtain ⟨m, o, p⟩ := q
  obtain ⟨o', m', n', p'⟩ := r
  obtain ⟨ho, hs⟩ := h
  dsimp only at ho hs
  subst ho
  rcases hs with ⟨hn, hp, hp', hm, hm5⟩ | ⟨hn, hm, hp, he⟩ | ⟨hn, hm, hp, he⟩ | ⟨hn, hm, hp, hne⟩ | ⟨hn, hm, ha, hne⟩
  · subst hn hp hp' hm
    have e1 : nextS ⟨m, o', []⟩ c = outS ⟨m, o', []⟩ c := by unfold nextS; rw [if_neg (by dsimp only; omega), if_neg (by dsimp only; omega), if_neg (by dsimp only; omega)]
    have e2 : nextR ⟨o', m, 0, []⟩ c = outR ⟨o', m, 0, []⟩ c := by unfold nextR; rw [if_neg (by dsimp only; omega), if_neg (by dsimp only; omega), if_neg (by dsimp only; omega)]
    rw [e1, e2]
    exact out_both o' m c hm5
  · subst hn hm hp
    unfold nextS nextR quoteS
    dsimp only
    rw [if_pos (show ((6 : Nat) = 6 ∨ (6 : Nat) = 7) by decide), if_pos (show ((115 : Nat) = 115 ∨ (115 : Nat) = 107) by decide)]
    by_cases hh : p ≠ [] ∨ c.toNat = 92
    · rw [if_pos hh, if_pos hh]
      obtain ⟨k1, k2, k3⟩ := esc_sim he hh
      refine ⟨k1, fun hx => ⟨rfl, Or.inr (Or.inl ⟨rfl, rfl, k2 hx, ?_⟩)⟩⟩
      have := k3 hx
      rw [k2 hx] at this
      exact this
    · rw [if_neg hh, if_neg hh]
      have hpe : p = [] := by
        by_cases e : p = []
        · exact e
        · exact absurd (Or.inl e) hh
      subst hpe
      by_cases h34 : c.toNat = 34
      · rw [if_neg (show ¬ (c.toNat = 34 ∧ (6 : Nat) = 7) by omega), if_pos h34, if_pos h34, if_neg (show ¬ ((115 : Nat) = 107) by decide)]
        exact ⟨rfl, fun _ => ⟨rfl, Or.inl ⟨rfl, rfl, rfl, rfl, by simp⟩⟩⟩
      · rw [if_neg (show ¬ (c.toNat = 34 ∧ (6 : Nat) = 7) by omega), if_neg h34, if_neg h34]
        exact ⟨rfl, fun _ => ⟨rfl, Or.inr (Or.inl ⟨rfl, rfl, rfl, he⟩)⟩⟩
  · subst hn hm hp
    unfold nextS nextR quoteS
    dsimp only
    rw [if_pos (show ((7 : Nat) = 6 ∨ (7 : Nat) = 7) by decide), if_pos (show ((107 : Nat) = 115 ∨ (107 : Nat) = 107) by decide)]
    by_cases hh : p ≠ [] ∨ c.toNat = 92
    · rw [if_pos hh, if_pos hh]
      obtain ⟨k1, k2, k3⟩ := esc_sim he hh
      refine ⟨k1, fun hx => ⟨rfl, Or.inr (Or.inr (Or.inl ⟨rfl, rfl, k2 hx, ?_⟩))⟩⟩
      have := k3 hx
      rw [k2 hx] at this
      exact this
    · rw [if_neg hh, if_neg hh]
      have hpe : p = [] := by
        by_cases e : p = []
        · exact e
        · exact absurd (Or.inl e) hh
      subst hpe
      by_cases h34 : c.toNat = 34
      · rw [if_pos (show (c.toNat = 34 ∧ (7 : Nat) = 7) from ⟨h34, rfl⟩), if_pos h34, if_pos (show (107 : Nat) = 107 from rfl)]
        exact ⟨rfl, fun _ => ⟨rfl, Or.inl ⟨rfl, rfl, rfl, rfl, by simp⟩⟩⟩
      · rw [if_neg (show ¬ (c.toNat = 34 ∧ (7 : Nat) = 7) by omega), if_neg h34, if_neg h34]
        exact ⟨rfl, fun _ => ⟨rfl, Or.inr (Or.inr (Or.inl ⟨rfl, rfl, rfl, he⟩))⟩⟩
  · subst hn hm hp
    unfold nextS nextR
    dsimp only
    rw [if_neg (show ¬ ((8 : Nat) = 6 ∨ (8 : Nat) = 7) by decide), if_pos (show (8 : Nat) = 8 from rfl), if_neg (show ¬ ((119 : Nat) = 115 ∨ (119 : Nat) = 107) by decide), if_pos (show (119 : Nat) = 119 from rfl)]
    split
    · exact ⟨rfl, fun _ => ⟨rfl, Or.inl ⟨rfl, rfl, rfl, rfl, by simp⟩⟩⟩
    · exact ⟨rfl, fun _ => ⟨rfl, Or.inr (Or.inr (Or.inr (Or.inl ⟨rfl, rfl, rfl, by simp⟩)))⟩⟩
  · subst hn hm
    unfold nextS nextR
    dsimp only
    rw [if_neg (show ¬ ((9 : Nat) = 6 ∨ (9 : Nat) = 7) by decide), if_neg (show ¬ ((9 : Nat) = 8) by decide), if_pos (show (9 : Nat) = 9 from rfl), if_neg (show ¬ ((110 : Nat) = 115 ∨ (110 : Nat) = 107) by decide), if_neg (show ¬ ((110 : Nat) = 119) by decide), if_pos (show (110 : Nat) = 110 from rfl)]
    have hA := numR_agree (s := p' ++ [c]) (by simp)
    have hB := numR_agree hne
    rw [accN_snoc c hne, ha] at hA
    rw [ha] at hB
    have hcnt := hB.2 p rfl
    by_cases hok : (numS p c.toNat).2 = true
    · have h1 : (numR (p' ++ [c])).1 = true := by rw [hA.1, Option.bind_some, if_pos hok]; rfl
      rw [if_pos hok, if_pos h1]
      refine ⟨rfl, fun _ => ⟨rfl, Or.inr (Or.inr (Or.inr (Or.inr ⟨rfl, rfl, ?_, by simp⟩)))⟩⟩
      dsimp only
      rw [accN_snoc c hne, ha, Option.bind_some, if_pos hok]
    · have h1 : ¬ (numR (p' ++ [c])).1 = true := by rw [hA.1, Option.bind_some, if_neg hok]; decide
      rw [if_neg hok, if_neg h1, hcnt]
      by_cases hc : cntB p = true
      · rw [if_pos hc, if_pos hc]
        exact out_both o' 5 c (by omega)
      · rw [if_neg hc, if_neg hc]
        exact Both.no (a := ⟨9, o', p⟩) (b := ⟨o', m', 110, p'⟩) rfl rfl
end Go.Proofs.Ytmfldffbafamnaa
