/- Plain: the two ways to read a number, and an escape, agree. -/
import Derived.Test.YtmfldffbafamnaaRfC
import Derived.Test.YtmfldffbafamnaaRfD
namespace Go.Proofs.Ytmfldffbafamnaa
set_option linter.unusedVariables false
set_option linter.unusedSimpArgs false
/-- How far a number was read, behind so many bytes; none: it is none. -/
def accF (k : List UInt8) : List UInt8 → Option (List UInt8)
  | [] => some k
  | c :: t => if (numS k c.toNat).2 = true then accF (numS k c.toNat).1 t else none
def accN (s : List UInt8) : Option (List UInt8) :=
  match s with
  | [] => some []
  | c :: t => if c.toNat = 45 then accF [45] t else accF [] (c :: t)
def Agree (x : Bool × Bool) (o : Option (List UInt8)) : Prop := x.1 = o.isSome ∧ ∀ k, o = some k → x.2 = cntB k
theorem accF_cons (k : List UInt8) (c : UInt8) (t : List UInt8) : accF k (c :: t) = if (numS k c.toNat).2 = true then accF (numS k c.toNat).1 t else none := rfl
theorem accF_append (k a b : List UInt8) : accF k (a ++ b) = (accF k a).bind (fun k' => accF k' b) := by
  induction a generalizing k with
  | nil => rfl
  | cons c t ih =>
    rw [List.cons_append, accF_cons, accF_cons]
    split
    · exact ih _
    · rfl
theorem accN_snoc {s : List UInt8} (c : UInt8) (h : s ≠ []) : accN (s ++ [c]) = (accN s).bind (fun k => if (numS k c.toNat).2 = true then some (numS k c.toNat).1 else none) := by
  have one : ∀ k, accF k [c] = if (numS k c.toNat).2 = true then some (numS k c.toNat).1 else none := fun k => rfl
  cases s with
  | nil => exact absurd rfl h
  | cons d t =>
    have e1 : accN (d :: t ++ [c]) = if d.toNat = 45 then accF [45] (t ++ [c]) else accF [] ((d :: t) ++ [c]) := rfl
    have e2 : accN (d :: t) = if d.toNat = 45 then accF [45] t else accF [] (d :: t) := rfl
    rw [e1, e2]
    split
    · rw [accF_append]; congr 1
    · rw [accF_append]; congr 1
theorem dig_iff {c : Nat} : digB c = true ↔ 48 ≤ c ∧ c ≤ 57 := by unfold digB; simp
theorem ndig_iff {c : Nat} : digB c = false ↔ ¬ (48 ≤ c ∧ c ≤ 57) := by unfold digB; simp
theorem eB_iff {c : Nat} : eB c = true ↔ (c = 101 ∨ c = 69) := by unfold eB; simp; omega
theorem dig_noE {c : Nat} (h : digB c = true) : eB c = false := by
  rw [dig_iff] at h
  cases e : eB c
  · rfl
  · rw [eB_iff] at e; omega
theorem num49 {c : Nat} (h : digB c = true) : numS [49] c = ([49], true) := by
  have h1 := dig_iff.1 h
  unfold numS
  rw [if_neg (by decide), if_pos (by decide), if_neg (by omega), dig_noE h, h]
  rfl
theorem num53 {c : Nat} (h : digB c = true) : numS [53] c = ([53], true) := by
  unfold numS
  rw [if_neg (by decide), if_neg (by decide), if_neg (by decide), if_pos rfl, dig_noE h, h]
  rfl
theorem num57 {c : Nat} (h : digB c = true) : numS [57] c = ([57], true) := by
  unfold numS
  rw [if_neg (by decide), if_neg (by decide), if_neg (by decide), if_neg (by decide), if_neg (by decide), h]
theorem num57n {c : Nat} (h : digB c = false) : (numS [57] c).2 = false := by
  unfold numS
  rw [if_neg (by decide), if_neg (by decide), if_neg (by decide), if_neg (by decide), if_neg (by decide), h]
theorem accF_digits {k : List UInt8} (hk : ∀ c, digB c = true → numS k c = (k, true)) (l : List UInt8) : accF k l = accF k (l.dropWhile (fun b => digB b.toNat)) := by
  induction l with
  | nil => rfl
  | cons c t ih =>
    rw [List.dropWhile_cons]
    cases h : digB c.toNat
    · rfl
    · rw [if_pos rfl, ← ih]
      show (if (numS k c.toNat).2 = true then accF (numS k c.toNat).1 t else none) = _
      rw [hk _ h]; rfl
theorem drop_dg (s : List UInt8) (t : Nat) : s.drop (dg s t) = (s.drop t).dropWhile (fun b => digB b.toNat) := by
  unfold dg
  rw [← List.drop_drop]
  generalize s.drop t = l
  induction l with
  | nil => rfl
  | cons c t ih =>
    rw [List.takeWhile_cons, List.dropWhile_cons]
    cases h : digB c.toNat
    · rfl
    · simpa using ih
/-- Behind the digits stands none. -/
theorem dg_stop {s : List UInt8} {t : Nat} (h : dg s t < s.length) : digB (bt s (dg s t)) = false := by
  obtain ⟨c, hc, hb⟩ := drop_step h
  rw [drop_dg] at hc
  rw [← hb]
  have := List.head?_dropWhile_not (fun b : UInt8 => digB b.toNat) (s.drop t)
  rw [hc] at this
  simpa using this
theorem dg_gt {s : List UInt8} {t : Nat} (h : dg s t ≠ t) : t < s.length ∧ digB (bt s t) = true := by
  by_cases hl : t < s.length
  · refine ⟨hl, ?_⟩
    cases hd : digB (bt s t)
    · exact absurd (dg_no hl hd) h
    · rfl
  · exact absurd (dg_end (by omega)) h
theorem dg_eq {s : List UInt8} {t : Nat} (hl : t < s.length) (h : dg s t = t) : digB (bt s t) = false := by
  cases hd : digB (bt s t)
  · rfl
  · have := dg_yes hl hd
    have := dg_ge s (t + 1)
    omega
theorem acc_cons {k : List UInt8} {s : List UInt8} {t : Nat} (h : t < s.length) :
    accF k (s.drop t) = if (numS k (bt s t)).2 = true then accF (numS k (bt s t)).1 (s.drop (t + 1)) else none := by
  obtain ⟨c, hc, hb⟩ := drop_step h
  rw [hc, ← hb]; rfl
theorem acc_end {k : List UInt8} {s : List UInt8} {t : Nat} (h : s.length ≤ t) : accF k (s.drop t) = some k := by
  rw [List.drop_eq_nil_of_le h]; rfl
theorem agree_none {b : Bool} : Agree (false, b) none := ⟨rfl, fun k h => by cases h⟩
theorem agree_end {k : List UInt8} {n m : Nat} {b : Bool} (h : n = m) (hb : b = cntB k) : Agree ((n : Int) == m, b) (some k) := by
  refine ⟨by simp [h], fun k' e => ?_⟩
  cases e; exact hb
theorem agree_short {n m : Nat} {b : Bool} (h : n ≠ m) : Agree ((n : Int) == m, b) none := by
  refine ⟨?_, fun k h => by cases h⟩
  show ((n : Int) == m) = false
  simp only [beq_eq_false_iff_ne]; omega
theorem numH_agree {s : List UInt8} {a : Nat} {k : List UInt8} (ha : a ≤ s.length) (hk : k = [101] ∨ k = [43]) (hs : k = [101] → a < s.length → bt s a ≠ 43 ∧ bt s a ≠ 45) :
    Agree (numH s a) (accF k (s.drop a)) := by
  unfold numH
  by_cases hd : dg s a = a
  · rw [if_pos hd]
    by_cases hl : a < s.length
    · rw [acc_cons hl]
      have hn := dg_eq hl hd
      have : (numS k (bt s a)).2 = false := by
        rcases hk with rfl | rfl
        · obtain ⟨h1, h2⟩ := hs rfl hl
          unfold numS
          rw [if_neg (by decide), if_neg (by decide), if_neg (by decide), if_neg (by decide), if_pos rfl, if_neg (by omega), hn]
        · unfold numS
          rw [if_neg (by decide), if_neg (by decide), if_neg (by decide), if_neg (by decide), if_neg (by decide), hn]
      rw [this]
      exact agree_short (by omega)
    · rw [acc_end (by omega)]
      exact agree_end (by omega) (by rcases hk with rfl | rfl <;> rfl)
  · rw [if_neg hd]
    obtain ⟨hl, hdig⟩ := dg_gt hd
    rw [acc_cons hl]
    have : numS k (bt s a) = ([57], true) := by
      have h1 := dig_iff.1 hdig
      rcases hk with rfl | rfl
      · unfold numS
        rw [if_neg (by decide), if_neg (by decide), if_neg (by decide), if_neg (by decide), if_pos rfl, if_neg (by omega), hdig]
      · unfold numS
        rw [if_neg (by decide), if_neg (by decide), if_neg (by decide), if_neg (by decide), if_neg (by decide), hdig]
    rw [this, if_pos rfl, accF_digits (fun c h => num57 h), ← drop_dg, ← dg_yes hl hdig]
    by_cases he : dg s a < s.length
    · rw [acc_cons he, num57n (dg_stop he)]
      exact agree_short (by omega)
    · rw [acc_end (by omega)]
      have := dg_le s a ha
      exact agree_end (by omega) rfl
theorem numE_agree {s : List UInt8} {t : Nat} {k : List UInt8} (ht : t ≤ s.length) (hk : k = [48] ∨ k = [49] ∨ k = [53]) (hd : k ≠ [48] → t < s.length → digB (bt s t) = false) (hp : k ≠ [53] → t < s.length → bt s t ≠ 46) :
    Agree (numE s t) (accF k (s.drop t)) := by
  unfold numE
  by_cases hl : t < s.length
  · rw [acc_cons hl]
    by_cases he : bt s t = 101 ∨ bt s t = 69
    · rw [if_pos ⟨hl, he⟩]
      have hn : numS k (bt s t) = ([101], true) := by
        have heb : eB (bt s t) = true := eB_iff.2 he
        rcases hk with rfl | rfl | rfl
        · unfold numS; rw [if_neg (by decide), if_pos (by decide), if_neg (by omega), heb]; rfl
        · unfold numS; rw [if_neg (by decide), if_pos (by decide), if_neg (by omega), heb]; rfl
        · unfold numS; rw [if_neg (by decide), if_neg (by decide), if_neg (by decide), if_pos rfl, heb]; rfl
      rw [hn, if_pos rfl]
      unfold sgnAt
      by_cases hsg : t + 1 < s.length ∧ (bt s (t + 1) = 43 ∨ bt s (t + 1) = 45)
      · rw [if_pos hsg, acc_cons hsg.1]
        have : numS [101] (bt s (t + 1)) = ([43], true) := by
          unfold numS
          rw [if_neg (by decide), if_neg (by decide), if_neg (by decide), if_neg (by decide), if_pos rfl, if_pos hsg.2]
        rw [this, if_pos rfl]
        exact numH_agree (by omega) (Or.inr rfl) (fun h => by cases h)
      · rw [if_neg hsg]
        exact numH_agree (by omega) (Or.inl rfl) (fun _ hlt => by omega)
    · rw [if_neg (fun h => he h.2)]
      have heb : eB (bt s t) = false := by
        cases e : eB (bt s t)
        · rfl
        · exact absurd (eB_iff.1 e) he
      have : (numS k (bt s t)).2 = false := by
        rcases hk with rfl | rfl | rfl
        · have := hp (by decide) hl
          unfold numS; rw [if_neg (by decide), if_pos (by decide), if_neg this, heb]; simp
        · have := hp (by decide) hl
          have hdd := hd (by decide) hl
          unfold numS; rw [if_neg (by decide), if_pos (by decide), if_neg this, heb, hdd]; rfl
        · have hdd := hd (by decide) hl
          unfold numS; rw [if_neg (by decide), if_neg (by decide), if_neg (by decide), if_pos rfl, heb, hdd]; rfl
      rw [this]
      exact agree_short (by omega)
  · rw [if_neg (fun h => hl h.1), acc_end (by omega)]
    exact agree_end (by omega) (by rcases hk with rfl | rfl | rfl <;> rfl)
theorem numF_agree {s : List UInt8} {t : Nat} {k : List UInt8} (ht : t ≤ s.length) (hk : k = [48] ∨ k = [49]) (hd : k ≠ [48] → t < s.length → digB (bt s t) = false) :
    Agree (numF s t) (accF k (s.drop t)) := by
  unfold numF
  by_cases hp : t < s.length ∧ bt s t = 46
  · rw [if_pos hp, acc_cons hp.1]
    have : numS k (bt s t) = ([46], true) := by
      rcases hk with rfl | rfl <;> (unfold numS; rw [if_neg (by decide), if_pos (by decide), if_pos hp.2])
    rw [this, if_pos rfl]
    unfold numG
    by_cases hd2 : dg s (t + 1) = t + 1
    · rw [if_pos hd2]
      by_cases hl : t + 1 < s.length
      · rw [acc_cons hl]
        have : (numS [46] (bt s (t + 1))).2 = false := by
          unfold numS
          rw [if_neg (by decide), if_neg (by decide), if_pos rfl, dg_eq hl hd2]
        rw [this]
        exact agree_short (by omega)
      · rw [acc_end (by omega)]
        exact agree_end (by omega) rfl
    · rw [if_neg hd2]
      obtain ⟨hl, hdig⟩ := dg_gt hd2
      rw [acc_cons hl]
      have : numS [46] (bt s (t + 1)) = ([53], true) := by
        unfold numS
        rw [if_neg (by decide), if_neg (by decide), if_pos rfl, hdig]
      rw [this, if_pos rfl, accF_digits (fun c h => num53 h), ← drop_dg, ← dg_yes hl hdig]
      exact numE_agree (dg_le s _ (by omega)) (Or.inr (Or.inr rfl)) (fun _ h => dg_stop h) (fun h => absurd rfl h)
  · rw [if_neg hp]
    exact numE_agree ht (by rcases hk with h | h <;> simp [h]) hd (fun _ hl h46 => hp ⟨hl, h46⟩)
theorem numB_agree {s : List UInt8} {a : Nat} {k : List UInt8} (ha : a < s.length) (hk : k = [] ∨ k = [45]) :
    Agree (numB s a (dg s a)) (accF k (s.drop a)) := by
  have hkn : ∀ c, numS k c = if c = 48 then ([48], true) else ([49], digB c) := by
    intro c; rcases hk with rfl | rfl <;> (unfold numS; rw [if_pos (by decide)])
  rw [acc_cons ha, hkn]
  unfold numB
  by_cases h1 : dg s a = a
  · rw [if_pos (Or.inl h1)]
    have hn := dg_eq ha h1
    have : bt s a ≠ 48 := fun h => by rw [ndig_iff] at hn; omega
    rw [if_neg this, hn]
    exact agree_none
  obtain ⟨_, hdig⟩ := dg_gt h1
  by_cases h2 : bt s a = 48 ∧ a + 1 < dg s a
  · rw [if_pos (Or.inr h2), if_pos h2.1, if_pos rfl]
    have hl : a + 1 < s.length := by have := dg_le s a (by omega); omega
    have hg := dg_yes ha hdig
    obtain ⟨_, hd2⟩ := dg_gt (s := s) (t := a + 1) (by omega)
    rw [acc_cons hl]
    have h3 := dig_iff.1 hd2
    have : (numS [48] (bt s (a + 1))).2 = false := by
      unfold numS; rw [if_neg (by decide), if_pos (by decide), if_neg (by omega), dig_noE hd2]; simp
    rw [this]
    exact agree_none
  · rw [if_neg (by omega)]
    by_cases h48 : bt s a = 48
    · have hg := dg_yes ha hdig
      have h4 := dg_ge s (a + 1)
      have e : dg s a = a + 1 := by omega
      rw [if_pos h48, if_pos rfl, e]
      exact numF_agree (by omega) (Or.inl rfl) (fun h => absurd rfl h)
    · rw [if_neg h48, hdig, if_pos rfl, accF_digits (fun c h => num49 h), ← drop_dg, ← dg_yes ha hdig]
      exact numF_agree (dg_le s a (by omega)) (Or.inr rfl) (fun _ h => dg_stop h)
theorem numR_agree {s : List UInt8} (h : s ≠ []) : Agree (numR s) (accN s) := by
  have h0 : 0 < s.length := List.length_pos_iff.2 h
  have e : accN s = if bt s 0 = 45 then accF [45] (s.drop 1) else accF [] (s.drop 0) := by
    cases s with
    | nil => exact absurd rfl h
    | cons c t =>
      have hb : bt (c :: t) 0 = c.toNat := by simp [bt]
      rw [hb]; rfl
  rw [e]
  unfold numR
  by_cases h45 : bt s 0 = 45
  · have hsg : sg s = 1 := by unfold sg; rw [if_pos ⟨h0, h45⟩]
    rw [hsg, if_pos h45]
    by_cases h1 : 1 = s.length
    · rw [if_pos h1, acc_end (by omega)]
      exact ⟨rfl, fun k e => by cases e; rfl⟩
    · rw [if_neg h1]
      exact numB_agree (by omega) (Or.inr rfl)
  · have hsg : sg s = 0 := by unfold sg; rw [if_neg (fun h => h45 h.2)]
    rw [hsg, if_neg h45, if_neg (by omega)]
    exact numB_agree h0 (Or.inl rfl)
end Go.Proofs.Ytmfldffbafamnaa
