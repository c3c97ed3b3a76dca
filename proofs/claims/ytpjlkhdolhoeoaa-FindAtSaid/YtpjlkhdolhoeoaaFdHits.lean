/- Plain: the hits that the states tell are the document's (chapter 03). -/
import Derived.Test.YtpjlkhdolhoeoaaFdSpec
namespace Go.Proofs.Ytpjlkhdolhoeoaa
set_option linter.unusedVariables false
set_option linter.unusedSimpArgs false
/-- The states that are ends of a text, the longest first. -/
def chainJ (P : List Bs) : Bs → List Nat
  | [] => []
  | c :: t => match idx P (c :: t) with
    | some i => i :: chainJ P t
    | none => chainJ P t
theorem chainJ_cons (P : List Bs) (c : UInt8) (t : Bs) : chainJ P (c :: t) = match idx P (c :: t) with
    | some i => i :: chainJ P t
    | none => chainJ P t := rfl
theorem idx_pos {P : List Bs} (h : Trie P) {c : UInt8} {t : Bs} {i : Nat} (hi : idx P (c :: t) = some i) : 0 < i := by
  rcases Nat.eq_zero_or_pos i with h0 | h0
  · subst h0
    have h1 := idx_get hi
    have h2 := h.root
    rw [h1] at h2; cases h2
  · exact h0
theorem chain_end {P : List Bs} (h : Trie P) : ∀ y : Bs, sufI P y = 0 → chainJ P y = []
  | [], _ => rfl
  | c :: t, h0 => by
    cases hi : idx P (c :: t) with
    | some i =>
      have := idx_pos h hi
      rw [sufI_hit h hi] at h0; omega
    | none =>
      rw [sufI_miss hi] at h0
      rw [chainJ_cons, hi]
      exact chain_end h t h0
theorem chain_step {P : List Bs} (h : Trie P) : ∀ y : Bs, sufI P y ≠ 0 → ∃ c t, P[sufI P y]? = some (c :: t) ∧ chainJ P y = sufI P y :: chainJ P t ∧ (c :: t) <:+ y
  | [], h0 => absurd rfl h0
  | c :: t, h0 => by
    cases hi : idx P (c :: t) with
    | some i =>
      rw [sufI_hit h hi]
      exact ⟨c, t, idx_get hi, by rw [chainJ_cons, hi], List.suffix_refl _⟩
    | none =>
      rw [sufI_miss hi] at h0 ⊢
      obtain ⟨d, u, h1, h2, h3⟩ := chain_step h t h0
      exact ⟨d, u, h1, by rw [chainJ_cons, hi]; exact h2, h3.trans (List.suffix_cons _ _)⟩
theorem chain_mem {P : List Bs} (h : Trie P) (k : Nat) : ∀ y : Bs, k ∈ chainJ P y ↔ ∃ x, P[k]? = some x ∧ x ≠ [] ∧ x <:+ y
  | [] => by
    simp only [chainJ, List.not_mem_nil, false_iff, not_exists, not_and]
    intro x _ hx hs
    exact hx (List.suffix_nil.1 hs)
  | c :: t => by
    have ih := chain_mem h k t
    rw [chainJ_cons]
    cases hi : idx P (c :: t) with
    | some i =>
      simp only [List.mem_cons, ih]
      constructor
      · rintro (rfl | ⟨x, h1, h2, h3⟩)
        · exact ⟨_, idx_get hi, by simp, List.suffix_refl _⟩
        · exact ⟨x, h1, h2, h3.trans (List.suffix_cons _ _)⟩
      · rintro ⟨x, h1, h2, h3⟩
        rcases List.suffix_cons_iff.1 h3 with e | e
        · subst e
          have := idx_of h.nodup h1
          rw [hi] at this
          cases this; exact .inl rfl
        · exact .inr ⟨x, h1, h2, e⟩
    | none =>
      simp only [ih]
      constructor
      · rintro ⟨x, h1, h2, h3⟩
        exact ⟨x, h1, h2, h3.trans (List.suffix_cons _ _)⟩
      · rintro ⟨x, h1, h2, h3⟩
        rcases List.suffix_cons_iff.1 h3 with e | e
        · subst e
          exact absurd (List.mem_of_getElem? h1) (idx_none hi)
        · exact ⟨x, h1, h2, e⟩
theorem chain_nodup {P : List Bs} (h : Trie P) : ∀ y : Bs, (chainJ P y).Pairwise (· ≠ ·)
  | [] => List.Pairwise.nil
  | c :: t => by
    rw [chainJ_cons]
    cases hi : idx P (c :: t) with
    | some i =>
      refine List.pairwise_cons.2 ⟨fun k hk e => ?_, chain_nodup h t⟩
      subst e
      obtain ⟨x, h1, _, h3⟩ := (chain_mem h _ t).1 hk
      rw [idx_get hi] at h1
      cases h1
      have := h3.length_le
      simp only [List.length_cons] at this
      omega
    | none => exact chain_nodup h t
/-- The texts that end in a state. -/
def endsJ (ls : List Bs) (x : Bs) : List Nat := (List.range ls.length).filter fun w => decide (x ≠ [] ∧ ls[w]? = some x)
theorem endsJ_mem {ls : List Bs} {x : Bs} {w : Nat} : w ∈ endsJ ls x ↔ x ≠ [] ∧ ls[w]? = some x := by
  unfold endsJ
  rw [List.mem_filter, List.mem_range, decide_eq_true_iff]
  exact ⟨fun h => h.2, fun h => ⟨(List.getElem?_eq_some_iff.1 h.2).1, h⟩⟩
theorem endsJ_nodup (ls : List Bs) (x : Bs) : (endsJ ls x).Pairwise (· ≠ ·) := (List.nodup_range (n := ls.length)).sublist List.filter_sublist
/-- The hits that end behind a text. -/
def hitsAt (P : List Bs) (ls : List Bs) (y : Bs) : List (Nat × Nat) := (chainJ P y).flatMap fun k => (endsJ ls (P.getD k [])).map fun w => (y.length - (ls.getD w []).length, w)
/-- All hits, by their ends. -/
def hitsRun (P : List Bs) (ls : List Bs) (s : Bs) : List (Nat × Nat) := (List.range s.length).flatMap fun i => hitsAt P ls (s.take (i + 1))
/-- Does a text stand at a place? -/
def standsB (s x : Bs) (k : Nat) : Bool := decide (x ≠ []) && (decide (k ≤ s.length) && decide ((s.drop k).take x.length = x))
/-- The document's hits. -/
def hitsJ (ls : List Bs) (s : Bs) : List (Nat × Nat) := (List.range s.length).flatMap fun k => ((List.range ls.length).filter fun w => standsB s (ls.getD w []) k).map fun w => (k, w)
theorem stands_suffix {s x : Bs} {k : Nat} (hx : x ≠ []) : standsB s x k = true ↔ ∃ i, i < s.length ∧ x <:+ s.take (i + 1) ∧ k + x.length = i + 1 := by
  unfold standsB
  have hl := List.length_pos_iff.2 hx
  simp only [Bool.and_eq_true, decide_eq_true_eq]
  constructor
  · rintro ⟨_, hk, hd⟩
    have h1 := congrArg List.length hd
    rw [List.length_take, List.length_drop] at h1
    refine ⟨k + x.length - 1, by omega, ?_, by omega⟩
    rw [show k + x.length - 1 + 1 = k + x.length by omega]
    refine ⟨s.take k, ?_⟩
    rw [List.take_add, hd]
  · rintro ⟨i, hi, hs, hk⟩
    refine ⟨hx, by omega, ?_⟩
    obtain ⟨t, ht⟩ := hs
    have h1 := congrArg List.length ht
    rw [List.length_append, List.length_take] at h1
    have htk : t.length = k := by omega
    have h2 : s = t ++ x ++ s.drop (i + 1) := by rw [ht, List.take_append_drop]
    rw [h2, ← htk, List.append_assoc, List.drop_left, List.take_left]
theorem hitsRun_mem {P ls : List Bs} (h : Trie P) (hp : ∀ x ∈ ls, x ≠ [] → x ∈ P) {s : Bs} {k w : Nat} : (k, w) ∈ hitsRun P ls s ↔ ∃ x, ls[w]? = some x ∧ x ≠ [] ∧ ∃ i, i < s.length ∧ x <:+ s.take (i + 1) ∧ k + x.length = i + 1 := by
  unfold hitsRun hitsAt
  simp only [List.mem_flatMap, List.mem_range, List.mem_map, Prod.mk.injEq]
  constructor
  · rintro ⟨i, hi, j, hj, v, hv, he, rfl⟩
    obtain ⟨x, h1, h2, h3⟩ := (chain_mem h j _).1 hj
    rw [List.getD_eq_getElem?_getD, h1] at hv
    obtain ⟨_, hv2⟩ := endsJ_mem.1 hv
    have hv3 : ls[v]? = some x := hv2
    rw [List.getD_eq_getElem?_getD, hv3, List.length_take] at he
    have h4 := h3.length_le
    rw [List.length_take] at h4
    simp only [Option.getD_some] at he
    exact ⟨x, hv3, h2, i, hi, h3, by omega⟩
  · rintro ⟨x, h1, h2, i, hi, h3, hk⟩
    obtain ⟨j, hj⟩ := List.getElem?_of_mem (hp x (List.mem_of_getElem? h1) h2)
    refine ⟨i, hi, j, (chain_mem h j _).2 ⟨x, hj, h2, h3⟩, w, ?_, ?_, rfl⟩
    · rw [List.getD_eq_getElem?_getD, hj]
      exact endsJ_mem.2 ⟨h2, h1⟩
    · rw [List.getD_eq_getElem?_getD, h1, List.length_take]
      simp only [Option.getD_some]
      omega
theorem hitsJ_mem {ls : List Bs} {s : Bs} {k w : Nat} : (k, w) ∈ hitsJ ls s ↔ ∃ x, ls[w]? = some x ∧ x ≠ [] ∧ ∃ i, i < s.length ∧ x <:+ s.take (i + 1) ∧ k + x.length = i + 1 := by
  unfold hitsJ
  simp only [List.mem_flatMap, List.mem_range, List.mem_map, List.mem_filter, Prod.mk.injEq]
  constructor
  · rintro ⟨k', hk, w', ⟨hw, hs⟩, rfl, rfl⟩
    have hne : ls.getD w' [] ≠ [] := by
      unfold standsB at hs
      simp only [Bool.and_eq_true, decide_eq_true_eq] at hs
      exact hs.1
    have h1 : ls[w']? = some (ls.getD w' []) := by
      rw [List.getD_eq_getElem?_getD, List.getElem?_eq_getElem hw]; rfl
    exact ⟨_, h1, hne, (stands_suffix hne).1 hs⟩
  · rintro ⟨x, h1, h2, h3⟩
    have hw := (List.getElem?_eq_some_iff.1 h1).1
    have hx : ls.getD w [] = x := by rw [List.getD_eq_getElem?_getD, h1]; rfl
    have hl := List.length_pos_iff.2 h2
    refine ⟨k, ?_, w, ⟨hw, by rw [hx]; exact (stands_suffix h2).2 h3⟩, rfl, rfl⟩
    obtain ⟨i, hi, _, hk⟩ := h3
    omega
theorem hitsRun_nodup {P ls : List Bs} (h : Trie P) (s : Bs) : (hitsRun P ls s).Nodup := by
  unfold hitsRun
  refine List.pairwise_flatMap.2 ⟨fun i _ => ?_, ?_⟩
  · unfold hitsAt
    refine List.pairwise_flatMap.2 ⟨fun k _ => ?_, ?_⟩
    · rw [List.pairwise_map]
      exact (endsJ_nodup ls _).imp fun hne he => hne (Prod.mk.inj he).2
    · refine (List.pairwise_iff_getElem.2 fun a b ha hb hab => ?_ : List.Pairwise _ _)
      intro x hx y hy he
      obtain ⟨v, hv, rfl⟩ := List.mem_map.1 hx
      obtain ⟨u, hu, rfl⟩ := List.mem_map.1 hy
      obtain ⟨_, rfl⟩ := Prod.mk.inj he
      have h1 := (endsJ_mem.1 hv).2
      have h2 := (endsJ_mem.1 hu).2
      rw [h1] at h2
      have hm1 := List.getElem_mem ha
      have hm2 := List.getElem_mem hb
      obtain ⟨x1, e1, _⟩ := (chain_mem h _ _).1 hm1
      obtain ⟨x2, e2, _⟩ := (chain_mem h _ _).1 hm2
      rw [List.getD_eq_getElem?_getD, List.getD_eq_getElem?_getD, e1, e2] at h2
      simp only [Option.getD_some, Option.some.injEq] at h2
      subst h2
      have i1 := idx_of h.nodup e1
      have i2 := idx_of h.nodup e2
      rw [i1] at i2
      have hne := List.pairwise_iff_getElem.1 (chain_nodup h (s.take (i + 1))) a b ha hb hab
      exact hne (Option.some.inj i2)
  · refine (List.nodup_range (n := s.length)).imp_of_mem fun {i j} hi hj hij x hx y hy he => ?_
    subst he
    unfold hitsAt at hx hy
    simp only [List.mem_flatMap, List.mem_map] at hx hy
    obtain ⟨k, hk, v, hv, rfl⟩ := hx
    obtain ⟨k', hk', u, hu, he⟩ := hy
    obtain ⟨e1, rfl⟩ := Prod.mk.inj he
    obtain ⟨x1, p1, _, q1⟩ := (chain_mem h _ _).1 hk
    obtain ⟨x2, p2, _, q2⟩ := (chain_mem h _ _).1 hk'
    have h1 := (endsJ_mem.1 hv).2
    have h2 := (endsJ_mem.1 hu).2
    rw [List.getD_eq_getElem?_getD, p1] at h1
    rw [List.getD_eq_getElem?_getD, p2] at h2
    simp only [Option.getD_some] at h1 h2
    rw [List.getD_eq_getElem?_getD, h1, List.length_take, List.length_take] at e1
    rw [h1] at h2
    cases h2
    have l1 := q1.length_le
    have l2 := q2.length_le
    rw [List.length_take] at l1 l2
    simp only [Option.getD_some] at e1
    have := List.mem_range.1 hi
    have := List.mem_range.1 hj
    omega
/-- In order: by place, then by which. -/
def ltH (a b : Nat × Nat) : Prop := a.1 < b.1 ∨ (a.1 = b.1 ∧ a.2 < b.2)
theorem hitsJ_sorted (ls : List Bs) (s : Bs) : (hitsJ ls s).Pairwise ltH := by
  unfold hitsJ
  refine List.pairwise_flatMap.2 ⟨fun k _ => ?_, ?_⟩
  · rw [List.pairwise_map]
    exact ((List.pairwise_lt_range (n := ls.length)).sublist List.filter_sublist).imp fun h => .inr ⟨rfl, h⟩
  · refine (List.pairwise_lt_range (n := s.length)).imp fun {i j} hij x hx y hy => ?_
    obtain ⟨v, _, rfl⟩ := List.mem_map.1 hx
    obtain ⟨u, _, rfl⟩ := List.mem_map.1 hy
    exact .inl hij
theorem ltH_irrefl {a : Nat × Nat} (h : ltH a a) : False := by
  unfold ltH at h; omega
theorem hits_perm {P ls : List Bs} (h : Trie P) (hp : ∀ x ∈ ls, x ≠ [] → x ∈ P) (s : Bs) : (hitsRun P ls s).Perm (hitsJ ls s) := by
  refine (List.perm_ext_iff_of_nodup (hitsRun_nodup h s) (List.Pairwise.imp (R := ltH) (S := (· ≠ ·)) (fun {a b} (hab : ltH a b) (he : a = b) => by subst he; exact ltH_irrefl hab) (hitsJ_sorted ls s))).2 fun ⟨k, w⟩ => ?_
  rw [hitsRun_mem h hp, hitsJ_mem]
/-- A row that is the hits' in some order, and in order, is the document's. -/
theorem hits_sorted {P ls : List Bs} (h : Trie P) (hp : ∀ x ∈ ls, x ≠ [] → x ∈ P) {s : Bs} {l : List (Nat × Nat)} (hl : l.Perm (hitsRun P ls s)) (hs : l.Pairwise fun a b => ¬ ltH b a) : l = hitsJ ls s := by
  have h1 := hl.trans (hits_perm h hp s)
  refine List.Perm.eq_of_pairwise (le := fun a b => ¬ ltH b a) (fun a b _ _ h1 h2 => ?_) hs ((hitsJ_sorted ls s).imp fun {a b} hab hba => ?_) h1
  · unfold ltH at h1 h2
    have : a.1 = b.1 := by omega
    have : a.2 = b.2 := by omega
    exact Prod.ext (by assumption) (by assumption)
  · unfold ltH at hab hba; omega
end Go.Proofs.Ytpjlkhdolhoeoaa
