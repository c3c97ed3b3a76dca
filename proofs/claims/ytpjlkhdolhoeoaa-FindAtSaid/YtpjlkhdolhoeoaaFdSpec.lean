/- Plain: many texts looked for together (chapter 03): the states' strings, what is the longest end of a text among them, hits. -/
import Derived.Test.YtpjlkhdolhoeoaaMem
namespace Go.Proofs.Ytpjlkhdolhoeoaa
set_option linter.unusedVariables false
set_option linter.unusedSimpArgs false
abbrev Bs := List UInt8
/-- Where a string stands among the states'; none: it is none of theirs. -/
def idx : List Bs → Bs → Option Nat
  | [], _ => none
  | x :: P, y => if x = y then some 0 else (idx P y).map (· + 1)
theorem idx_cons (x : Bs) (P : List Bs) (y : Bs) : idx (x :: P) y = if x = y then some 0 else (idx P y).map (· + 1) := rfl
theorem idx_get : ∀ {P : List Bs} {y : Bs} {i : Nat}, idx P y = some i → P[i]? = some y
  | [], _, _, h => by cases h
  | x :: P, y, i, h => by
    rw [idx_cons] at h
    split at h
    · cases h; subst x; rfl
    · obtain ⟨j, hj, rfl⟩ := Option.map_eq_some_iff.1 h
      simpa using idx_get hj
theorem idx_lt {P : List Bs} {y : Bs} {i : Nat} (h : idx P y = some i) : i < P.length := (List.getElem?_eq_some_iff.1 (idx_get h)).1
theorem idx_none : ∀ {P : List Bs} {y : Bs}, idx P y = none → y ∉ P
  | [], _, _ => by simp
  | x :: P, y, h => by
    rw [idx_cons] at h
    split at h
    · cases h
    · rename_i hx
      have := idx_none (Option.map_eq_none_iff.1 h)
      simp only [List.mem_cons, not_or]
      exact ⟨fun e => hx e.symm, this⟩
theorem idx_some {P : List Bs} {y : Bs} (h : y ∈ P) : ∃ i, idx P y = some i := by
  cases hi : idx P y with
  | none => exact absurd h (idx_none hi)
  | some i => exact ⟨i, rfl⟩
theorem idx_of : ∀ {P : List Bs} {y : Bs} {i : Nat}, P.Nodup → P[i]? = some y → idx P y = some i
  | [], _, _, _, h => by simp at h
  | x :: P, y, 0, hd, h => by
    simp at h
    rw [idx_cons, if_pos h]
  | x :: P, y, i + 1, hd, h => by
    obtain ⟨h1, h2⟩ := List.nodup_cons.1 hd
    have h3 : P[i]? = some y := by simpa using h
    have hx : x ≠ y := fun e => h1 (e ▸ List.mem_of_getElem? h3)
    rw [idx_cons, if_neg hx, idx_of h2 h3]; rfl
theorem idx_app {P : List Bs} {y : Bs} {i : Nat} (z : Bs) (h : idx P y = some i) : idx (P ++ [z]) y = some i := by
  induction P generalizing i with
  | nil => cases h
  | cons x P ih =>
    rw [List.cons_append, idx_cons]
    rw [idx_cons] at h
    split
    · rename_i hx; rw [if_pos hx] at h; exact h
    · rename_i hx
      rw [if_neg hx] at h
      obtain ⟨j, hj, rfl⟩ := Option.map_eq_some_iff.1 h
      rw [ih hj]; rfl
theorem idx_new {P : List Bs} {z : Bs} (h : idx P z = none) : idx (P ++ [z]) z = some P.length := by
  induction P with
  | nil => simp [idx]
  | cons x P ih =>
    rw [idx_cons] at h
    split at h
    · cases h
    · rename_i hx
      rw [List.cons_append, idx_cons, if_neg hx, ih (Option.map_eq_none_iff.1 h)]; rfl
theorem idx_other {P : List Bs} {y z : Bs} (h : idx P y = none) (hn : y ≠ z) : idx (P ++ [z]) y = none := by
  induction P with
  | nil => simp [idx]; exact fun e => hn e.symm
  | cons x P ih =>
    rw [idx_cons] at h
    split at h
    · cases h
    · rename_i hx
      rw [List.cons_append, idx_cons, if_neg hx, ih (Option.map_eq_none_iff.1 h)]; rfl
/-- What holds of the states' strings. -/
structure Trie (P : List Bs) : Prop where
  root : P[0]? = some []
  nodup : P.Nodup
  pre : ∀ (i : Nat) (x : Bs) (c : UInt8), P[i]? = some (x ++ [c]) → ∃ j, j < i ∧ P[j]? = some x
theorem Trie.pos {P : List Bs} (h : Trie P) : 0 < P.length := (List.getElem?_eq_some_iff.1 h.root).1
theorem Trie.idx0 {P : List Bs} (h : Trie P) : idx P [] = some 0 := idx_of h.nodup h.root
theorem Trie.one : Trie [[]] := ⟨rfl, by simp, fun i x c h => by cases i <;> simp at h⟩
/-- A state more. -/
theorem Trie.snoc {P : List Bs} {x : Bs} {c : UInt8} {a : Nat} (h : Trie P) (hx : P[a]? = some x) (hn : idx P (x ++ [c]) = none) : Trie (P ++ [x ++ [c]]) := by
  have hal := (List.getElem?_eq_some_iff.1 hx).1
  refine ⟨?_, ?_, ?_⟩
  · rw [List.getElem?_append_left h.pos]; exact h.root
  · rw [List.nodup_append]
    refine ⟨h.nodup, by simp, fun y hy z hz => ?_⟩
    simp at hz
    subst hz
    exact fun e => idx_none hn (e ▸ hy)
  · intro i y d hy
    rcases Nat.lt_or_ge i P.length with hi | hi
    · rw [List.getElem?_append_left hi] at hy
      obtain ⟨j, hj, h2⟩ := h.pre i y d hy
      exact ⟨j, hj, by rw [List.getElem?_append_left (by omega)]; exact h2⟩
    · rw [List.getElem?_append_right hi] at hy
      have h0 : i - P.length = 0 := by
        rcases Nat.eq_zero_or_pos (i - P.length) with h0 | h0
        · exact h0
        · rw [List.getElem?_eq_none (by simp; omega)] at hy; cases hy
      rw [h0] at hy
      simp only [List.getElem?_cons_zero, Option.some.injEq] at hy
      have he := List.append_inj' hy (by simp)
      refine ⟨a, by omega, ?_⟩
      rw [List.getElem?_append_left hal, ← he.1]; exact hx
/-- The index of the longest end of a text that is among the states' strings. -/
def sufI (P : List Bs) : Bs → Nat
  | [] => 0
  | c :: t => match idx P (c :: t) with
    | some i => i
    | none => sufI P t
theorem sufI_nil (P : List Bs) : sufI P [] = 0 := rfl
theorem sufI_cons (P : List Bs) (c : UInt8) (t : Bs) : sufI P (c :: t) = match idx P (c :: t) with
    | some i => i
    | none => sufI P t := rfl
theorem sufI_hit {P : List Bs} (h : Trie P) {y : Bs} {i : Nat} (hi : idx P y = some i) : sufI P y = i := by
  cases y with
  | nil => rw [h.idx0] at hi; cases hi; rfl
  | cons c t => rw [sufI_cons, hi]
theorem sufI_miss {P : List Bs} {c : UInt8} {t : Bs} (hi : idx P (c :: t) = none) : sufI P (c :: t) = sufI P t := by rw [sufI_cons, hi]
/-- It is an end of the text, and the longest. -/
theorem sufI_spec {P : List Bs} (h : Trie P) : ∀ y : Bs, ∃ z, P[sufI P y]? = some z ∧ z <:+ y ∧ ∀ x, x ∈ P → x <:+ y → x <:+ z
  | [] => ⟨[], h.root, List.suffix_refl _, fun x _ hx => hx⟩
  | c :: t => by
    cases hi : idx P (c :: t) with
    | some i => rw [sufI_hit h hi]; exact ⟨_, idx_get hi, List.suffix_refl _, fun x _ hx => hx⟩
    | none =>
      rw [sufI_miss hi]
      obtain ⟨z, h1, h2, h3⟩ := sufI_spec h t
      refine ⟨z, h1, h2.trans (List.suffix_cons _ _), fun x hx hs => ?_⟩
      rcases List.suffix_cons_iff.1 hs with e | e
      · exact absurd (e ▸ hx) (idx_none hi)
      · exact h3 x hx e
theorem sufI_lt {P : List Bs} (h : Trie P) (y : Bs) : sufI P y < P.length := by
  obtain ⟨z, h1, _⟩ := sufI_spec h y
  exact (List.getElem?_eq_some_iff.1 h1).1
/-- Two texts whose longest ends among the states' are alike have the same one. -/
theorem sufI_same {P : List Bs} (h : Trie P) {y y' : Bs} (hs : ∀ x, x ∈ P → (x <:+ y ↔ x <:+ y')) : sufI P y = sufI P y' := by
  obtain ⟨z, h1, h2, h3⟩ := sufI_spec h y
  obtain ⟨z', k1, k2, k3⟩ := sufI_spec h y'
  have a : z <:+ z' := k3 z (List.mem_of_getElem? h1) ((hs z (List.mem_of_getElem? h1)).1 h2)
  have b : z' <:+ z := h3 z' (List.mem_of_getElem? k1) ((hs z' (List.mem_of_getElem? k1)).2 k2)
  have e : z = z' := a.eq_of_length (Nat.le_antisymm a.length_le b.length_le)
  subst e
  have e1 := idx_of h.nodup h1
  have e2 := idx_of h.nodup k1
  rw [e1] at e2
  exact Option.some.inj e2
theorem suffix_snoc {x y : Bs} {c : UInt8} : x ++ [c] <:+ y ++ [c] ↔ x <:+ y := by
  constructor
  · rintro ⟨t, h⟩
    rw [← List.append_assoc] at h
    exact ⟨t, (List.append_inj' h rfl).1⟩
  · rintro ⟨t, h⟩
    exact ⟨t, by rw [← List.append_assoc, h]⟩
theorem snoc_cases (x : Bs) : x = [] ∨ ∃ y c, x = y ++ [c] := by
  rcases List.eq_nil_or_concat x with h | ⟨y, c, h⟩
  · exact .inl h
  · exact .inr ⟨y, c, by simpa using h⟩
/-- One byte more: what was read may be forgotten but for its longest end. -/
theorem sufI_snoc {P : List Bs} (h : Trie P) {y z : Bs} (hz : P[sufI P y]? = some z) (c : UInt8) : sufI P (y ++ [c]) = sufI P (z ++ [c]) := by
  obtain ⟨z', h1, h2, h3⟩ := sufI_spec h y
  rw [hz] at h1
  cases h1
  refine sufI_same h fun x hx => ?_
  rcases snoc_cases x with rfl | ⟨x', d, rfl⟩
  · exact ⟨fun _ => List.nil_suffix, fun _ => List.nil_suffix⟩
  · obtain ⟨i, hi⟩ := List.getElem?_of_mem hx
    obtain ⟨j, _, hj⟩ := h.pre i x' d hi
    have hm := List.mem_of_getElem? hj
    constructor
    · intro hs
      obtain ⟨t, ht⟩ := hs
      rw [← List.append_assoc] at ht
      obtain ⟨e1, e2⟩ := List.append_inj' ht rfl
      cases e2
      exact suffix_snoc.2 (h3 x' hm ⟨t, e1⟩)
    · intro hs
      obtain ⟨t, ht⟩ := hs
      rw [← List.append_assoc] at ht
      obtain ⟨e1, e2⟩ := List.append_inj' ht rfl
      cases e2
      exact suffix_snoc.2 (List.IsSuffix.trans ⟨t, e1⟩ h2)
/-- How a state's back is told: it is the one of the longest end but itself. -/
def backI (P : List Bs) (i : Nat) : Nat := match P[i]? with
  | some (_ :: t) => sufI P t
  | _ => 0
theorem backI_cons {P : List Bs} {i : Nat} {c : UInt8} {t : Bs} (h : P[i]? = some (c :: t)) : backI P i = sufI P t := by unfold backI; rw [h]
theorem backI_root {P : List Bs} (h : Trie P) : backI P 0 = 0 := by unfold backI; rw [h.root]
/-- The step of 'next': there is no such state, and this one is not the first: go on from its back. -/
theorem next_back {P : List Bs} (h : Trie P) {a : Nat} {x z : Bs} {c : UInt8} (hx : P[a]? = some x) (ha : a ≠ 0) (hn : idx P (x ++ [c]) = none) (hz : P[backI P a]? = some z) : sufI P (x ++ [c]) = sufI P (z ++ [c]) := by
  cases x with
  | nil =>
    have := idx_of h.nodup hx
    rw [h.idx0] at this
    cases this; exact absurd rfl ha
  | cons d t =>
    rw [backI_cons hx] at hz
    rw [List.cons_append, sufI_miss (by rw [← List.cons_append]; exact hn)]
    exact sufI_snoc h hz c
theorem next_root {P : List Bs} (h : Trie P) {c : UInt8} (hn : idx P [c] = none) : sufI P [c] = 0 := by rw [sufI_miss hn, sufI_nil]
theorem back_short {P : List Bs} (h : Trie P) {a : Nat} {x z : Bs} (hx : P[a]? = some x) (ha : a ≠ 0) (hz : P[backI P a]? = some z) : z.length < x.length := by
  cases x with
  | nil =>
    have := idx_of h.nodup hx
    rw [h.idx0] at this
    cases this; exact absurd rfl ha
  | cons d t =>
    rw [backI_cons hx] at hz
    obtain ⟨z', h1, h2, _⟩ := sufI_spec h t
    rw [hz] at h1
    cases h1
    have := h2.length_le
    simp only [List.length_cons]; omega
end Go.Proofs.Ytpjlkhdolhoeoaa
