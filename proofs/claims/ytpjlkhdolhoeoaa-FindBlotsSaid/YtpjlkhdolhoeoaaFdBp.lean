/- Plain: a text blotted hit by hit is the document's; by a byte that no text has, no hit is left (chapter 03). -/
import Derived.Test.YtpjlkhdolhoeoaaFdBlu
namespace Go.Proofs.Ytpjlkhdolhoeoaa
set_option linter.unusedVariables false
set_option linter.unusedSimpArgs false
/-- Is a place covered by a hit? -/
def cov1 (ls : List Bs) (h : Nat × Nat) (i : Nat) : Bool := decide (h.1 ≤ i) && decide (i < h.1 + (ls.getD h.2 []).length)
def covB (ls : List Bs) (l : List (Nat × Nat)) (i : Nat) : Bool := l.any fun h => cov1 ls h i
theorem covB_snoc (ls : List Bs) (l : List (Nat × Nat)) (h : Nat × Nat) (i : Nat) : covB ls (l ++ [h]) i = (covB ls l i || cov1 ls h i) := by simp [covB]
theorem covB_iff {ls : List Bs} {l : List (Nat × Nat)} {i : Nat} : covB ls l i = true ↔ ∃ h ∈ l, h.1 ≤ i ∧ i < h.1 + (ls.getD h.2 []).length := by
  unfold covB cov1
  rw [List.any_eq_true]
  constructor
  · rintro ⟨h, hm, hh⟩
    simp only [Bool.and_eq_true, decide_eq_true_eq] at hh
    exact ⟨h, hm, hh⟩
  · rintro ⟨h, hm, h1, h2⟩
    exact ⟨h, hm, by simp only [Bool.and_eq_true, decide_eq_true_eq]; exact ⟨h1, h2⟩⟩
/-- What the document writes: the first so many bytes, and how many of them are covered. -/
def blotTo (ls : List Bs) (by_ : UInt8) (l : List (Nat × Nat)) (s : Bs) (k : Nat) : Bs := (List.range k).map fun i => if covB ls l i then by_ else s.getD i 0
def covN (ls : List Bs) (l : List (Nat × Nat)) (k : Nat) : Nat := ((List.range k).filter (covB ls l)).length
theorem blotTo_len (ls : List Bs) (by_ : UInt8) (l : List (Nat × Nat)) (s : Bs) (k : Nat) : (blotTo ls by_ l s k).length = k := by simp [blotTo]
theorem blotTo_succ (ls : List Bs) (by_ : UInt8) (l : List (Nat × Nat)) (s : Bs) (k : Nat) : blotTo ls by_ l s (k + 1) = blotTo ls by_ l s k ++ [if covB ls l k then by_ else s.getD k 0] := by simp [blotTo, List.range_succ]
theorem covN_succ (ls : List Bs) (l : List (Nat × Nat)) (k : Nat) : covN ls l (k + 1) = covN ls l k + (if covB ls l k then 1 else 0) := by
  unfold covN
  rw [List.range_succ, List.filter_append, List.length_append]
  congr 1
  by_cases h : covB ls l k = true <;> simp [h]
theorem covN_le (ls : List Bs) (l : List (Nat × Nat)) (k : Nat) : covN ls l k ≤ k := by
  unfold covN
  exact Nat.le_trans (List.length_filter_le _ _) (by simp)
theorem blotTo_at {ls : List Bs} {by_ : UInt8} {l : List (Nat × Nat)} {s : Bs} {k i : Nat} (h : i < k) : (blotTo ls by_ l s k)[i]? = some (if covB ls l i then by_ else s.getD i 0) := by
  unfold blotTo
  simp [h]
theorem setR_at (by_ : UInt8) : ∀ (m : Nat) (X : Bs) (j i : Nat), j + m ≤ X.length → (setR X j by_ m)[i]? = if j ≤ i ∧ i < j + m then some by_ else X[i]?
  | 0, X, j, i, _ => by rw [if_neg (by omega)]; rfl
  | m + 1, X, j, i, h => by
    rw [setR, setR_at by_ m _ _ _ (by simp; omega)]
    by_cases h1 : j + 1 ≤ i ∧ i < j + 1 + m
    · rw [if_pos h1, if_pos (by omega)]
    · rw [if_neg h1]
      by_cases h2 : i = j
      · subst h2
        rw [if_pos (by omega), List.getElem?_set_self (by omega)]
      · rw [if_neg (by omega), List.getElem?_set_ne (by omega)]
/-- What holds while hits are blotted, in order. -/
structure BltP (ls : List Bs) (by_ : UInt8) (s : Bs) (l : List (Nat × Nat)) (st : Bs × Nat × Nat) : Prop where
  eq : st.1 = blotTo ls by_ l s s.length
  cnt : st.2.2 = covN ls l s.length
  last : st.2.1 = 0 ∨ ∃ h ∈ l, h.1 + (ls.getD h.2 []).length = st.2.1
  top : ∀ i, st.2.1 ≤ i → covB ls l i = false
theorem cov_count {p p' : Nat → Bool} {j e : Nat} (hje : j ≤ e) (h1 : ∀ i, p' i = (p i || (decide (j ≤ i) && decide (i < e)))) (h2 : ∀ i, j ≤ i → i < e → p i = false) : ∀ n, ((List.range n).filter p').length = ((List.range n).filter p).length + (min e n - min j n)
  | 0 => by simp
  | n + 1 => by
    have ih := cov_count hje h1 h2 n
    rw [List.range_succ, List.filter_append, List.filter_append, List.length_append, List.length_append, ih]
    have hn := h1 n
    by_cases hin : j ≤ n ∧ n < e
    · have hp : p n = false := h2 n hin.1 hin.2
      have hp' : p' n = true := by rw [hn, hp, decide_eq_true hin.1, decide_eq_true hin.2]; rfl
      simp [hp, hp']
      omega
    · have hp' : p' n = p n := by
        rw [hn]
        have : (decide (j ≤ n) && decide (n < e)) = false := by
          rcases Nat.lt_or_ge n j with q | q
          · rw [decide_eq_false (by omega : ¬ j ≤ n)]; rfl
          · rw [decide_eq_false (by omega : ¬ n < e), Bool.and_false]
        rw [this, Bool.or_false]
      cases hp : p n
      · simp [hp, hp' ▸ hp]
        omega
      · simp [hp, hp' ▸ hp]
        omega
theorem BltP.start (ls : List Bs) (by_ : UInt8) (s : Bs) : BltP ls by_ s [] (s, 0, 0) where
  eq := by
    apply List.ext_getElem?
    intro i
    by_cases h : i < s.length
    · rw [blotTo_at h]
      simp [covB, List.getElem?_eq_getElem h]
    · show s[i]? = _
      rw [List.getElem?_eq_none (by omega), List.getElem?_eq_none (by rw [blotTo_len]; omega)]
  cnt := by
    show 0 = covN ls [] s.length
    unfold covN
    rw [List.filter_eq_nil_iff.2 (fun i _ => by simp [covB])]; rfl
  last := .inl rfl
  top i _ := rfl
theorem BltP.step {ls : List Bs} {by_ : UInt8} {s : Bs} {l : List (Nat × Nat)} {st : Bs × Nat × Nat} (h : BltP ls by_ s l st) {a k : Nat} (ho : ∀ x ∈ l, x.1 ≤ a) (he : a + (ls.getD k []).length ≤ s.length) :
    BltP ls by_ s (l ++ [(a, k)]) (blot1 ls by_ st (a, k)) := by
  obtain ⟨X, dd, nn⟩ := st
  obtain ⟨h1, h2, h3, h4⟩ := h
  simp only at h1 h2 h3 h4
  obtain ⟨L, hL⟩ : ∃ L, (ls.getD k []).length = L := ⟨_, rfl⟩
  rw [hL] at he
  have hc1 : ∀ i, cov1 ls (a, k) i = (decide (a ≤ i) && decide (i < a + L)) := fun i => by unfold cov1; simp only [hL]
  -- what lies between the hit's place and 'done' is covered
  have hbt : ∀ i, a ≤ i → i < dd → covB ls l i = true := fun i hi hi' => by
    rcases h3 with h3 | ⟨x, hx, hxe⟩
    · omega
    · exact covB_iff.2 ⟨x, hx, by have := ho x hx; omega, by omega⟩
  unfold blot1
  simp only [hL]
  by_cases hj : max a dd < a + L
  · rw [if_pos hj]
    have hnew : ∀ i, covB ls (l ++ [(a, k)]) i = (covB ls l i || (decide (max a dd ≤ i) && decide (i < a + L))) := fun i => by
      rw [covB_snoc, hc1]
      by_cases hd : i < dd
      · by_cases ha : a ≤ i
        · rw [hbt i ha hd]; simp
        · rw [decide_eq_false ha, decide_eq_false (by omega : ¬ max a dd ≤ i)]
      · by_cases ha : a ≤ i
        · rw [decide_eq_true ha, decide_eq_true (by omega : max a dd ≤ i)]
        · rw [decide_eq_false ha, decide_eq_false (by omega : ¬ max a dd ≤ i)]
    refine ⟨?_, ?_, .inr ⟨(a, k), by simp, by simp only [hL]⟩, ?_⟩
    · simp only
      apply List.ext_getElem?
      intro i
      have hXl : X.length = s.length := by rw [h1, blotTo_len]
      rw [setR_at _ _ _ _ _ (by omega)]
      by_cases hi : i < s.length
      · rw [blotTo_at hi, hnew i]
        by_cases hin : max a dd ≤ i ∧ i < max a dd + (a + L - max a dd)
        · rw [if_pos hin, decide_eq_true hin.1, decide_eq_true (by omega : i < a + L)]; simp
        · rw [if_neg hin]
          have : (decide (max a dd ≤ i) && decide (i < a + L)) = false := by
            rcases Nat.lt_or_ge i (max a dd) with q | q
            · rw [decide_eq_false (by omega : ¬ max a dd ≤ i)]; rfl
            · rw [decide_eq_false (by omega : ¬ i < a + L), Bool.and_false]
          rw [this, Bool.or_false, h1, blotTo_at hi]
      · rw [if_neg (by omega), List.getElem?_eq_none (by omega), List.getElem?_eq_none (by rw [blotTo_len]; omega)]
    · simp only
      have := cov_count (p := covB ls l) (p' := covB ls (l ++ [(a, k)])) (j := max a dd) (e := a + L) (by omega) hnew (fun i hi hi' => h4 i (by omega)) s.length
      unfold covN
      rw [this, h2]
      unfold covN
      omega
    · intro i hi
      simp only at hi
      rw [hnew, h4 i (by omega), decide_eq_false (by omega : ¬ i < a + L), Bool.and_false]; rfl
  · rw [if_neg hj]
    have hnew : ∀ i, covB ls (l ++ [(a, k)]) i = covB ls l i := fun i => by
      rw [covB_snoc, hc1]
      by_cases hi : a ≤ i ∧ i < a + L
      · rw [hbt i hi.1 (by omega)]; simp
      · have : (decide (a ≤ i) && decide (i < a + L)) = false := by
          rcases Nat.lt_or_ge i a with q | q
          · rw [decide_eq_false (by omega : ¬ a ≤ i)]; rfl
          · rw [decide_eq_false (by omega : ¬ i < a + L), Bool.and_false]
        rw [this, Bool.or_false]
    have hfn : covB ls (l ++ [(a, k)]) = covB ls l := funext hnew
    refine ⟨?_, ?_, ?_, ?_⟩
    · simp only; rw [h1]; unfold blotTo; rw [hfn]
    · simp only; rw [h2]; unfold covN; rw [hfn]
    · rcases h3 with h3 | ⟨x, hx, hxe⟩
      · exact .inl h3
      · exact .inr ⟨x, List.mem_append_left _ hx, hxe⟩
    · intro i hi
      rw [hnew]; exact h4 i hi
theorem blt_all {ls : List Bs} {by_ : UInt8} {s : Bs} : ∀ (r l : List (Nat × Nat)), (l ++ r).Pairwise ltH → (∀ h ∈ r, h.1 + (ls.getD h.2 []).length ≤ s.length) → BltP ls by_ s l (blotL ls by_ l s) → BltP ls by_ s (l ++ r) (blotL ls by_ (l ++ r) s)
  | [], l, _, _, h => by rw [List.append_nil]; exact h
  | x :: r, l, hp, hi, h => by
    have e : l ++ x :: r = (l ++ [x]) ++ r := by simp
    rw [e]
    refine blt_all r (l ++ [x]) (by rw [← e]; exact hp) (fun y hy => hi y (by simp [hy])) ?_
    rw [blotL_snoc]
    refine h.step (a := x.1) (k := x.2) (fun y hy => ?_) (hi x (by simp))
    have := (List.pairwise_append.1 hp).2.2 y hy x (by simp)
    unfold ltH at this
    omega
theorem blot_doc (ls : List Bs) (by_ : UInt8) (s : Bs) : (blotL ls by_ (hitsJ ls s) s).1 = blotTo ls by_ (hitsJ ls s) s s.length ∧ (blotL ls by_ (hitsJ ls s) s).2.2 = covN ls (hitsJ ls s) s.length := by
  have h := blt_all (ls := ls) (by_ := by_) (s := s) (hitsJ ls s) [] (by simpa using hitsJ_sorted ls s) (fun h hh => (hits_in hh).2) (BltP.start ls by_ s)
  rw [List.nil_append] at h
  exact ⟨h.eq, h.cnt⟩
/-- No hit is left. -/
theorem blot_none {ls : List Bs} {by_ : UInt8} {s : Bs} (hn : ∀ x ∈ ls, by_ ∉ x) : hitsJ ls (blotTo ls by_ (hitsJ ls s) s s.length) = [] := by
  rw [List.eq_nil_iff_forall_not_mem]
  rintro ⟨k, w⟩ hh
  obtain ⟨x, h1, h2, i, h3, h4, h5⟩ := hitsJ_mem.1 hh
  rw [blotTo_len] at h3
  have hxm := hn x (List.mem_of_getElem? h1)
  -- x stands at k in the blotted text: byte by byte
  have hat : ∀ j, j < x.length → (blotTo ls by_ (hitsJ ls s) s s.length)[k + j]? = x[j]? := fun j hj => by
    obtain ⟨t, ht⟩ := h4
    have hl := congrArg List.length ht
    rw [List.length_append, List.length_take, blotTo_len] at hl
    have e := congrArg (fun z => z[k + j]?) ht
    rw [List.getElem?_append_right (by omega), List.getElem?_take_of_lt (by omega)] at e
    rw [← e]; congr 1; omega
  have hun : ∀ j, j < x.length → covB ls (hitsJ ls s) (k + j) = false := fun j hj => by
    cases hc : covB ls (hitsJ ls s) (k + j)
    · rfl
    · exfalso
      have := hat j hj
      rw [blotTo_at (by omega), hc, if_pos rfl] at this
      exact hxm (List.mem_of_getElem? this.symm)
  -- so it stands there in the text itself: a hit, that covers k
  have hs : (s.drop k).take x.length = x := by
    apply List.ext_getElem?
    intro j
    by_cases hj : j < x.length
    · rw [List.getElem?_take_of_lt hj, List.getElem?_drop]
      have := hat j hj
      rw [blotTo_at (by omega), hun j hj] at this
      rw [← this]
      simp only [Bool.false_eq_true, if_false]
      rw [List.getD_eq_getElem?_getD, List.getElem?_eq_getElem (by omega)]
      rfl
    · rw [List.getElem?_take_eq_none (by omega), List.getElem?_eq_none (by omega)]
  have hst : standsB s x k = true := by
    unfold standsB
    rw [decide_eq_true h2, decide_eq_true (by omega : k ≤ s.length), decide_eq_true hs]; rfl
  obtain ⟨i', q1, q2, q3⟩ := (stands_suffix h2).1 hst
  have hm : (k, w) ∈ hitsJ ls s := hitsJ_mem.2 ⟨x, h1, h2, i', q1, q2, q3⟩
  have hlp := List.length_pos_iff.2 h2
  have hc : covB ls (hitsJ ls s) (k + 0) = true := covB_iff.2 ⟨(k, w), hm, by omega, by
    have : ls.getD w [] = x := by rw [List.getD_eq_getElem?_getD, h1]; rfl
    simp only [this]; omega⟩
  rw [hun 0 hlp] at hc
  cases hc
end Go.Proofs.Ytpjlkhdolhoeoaa
