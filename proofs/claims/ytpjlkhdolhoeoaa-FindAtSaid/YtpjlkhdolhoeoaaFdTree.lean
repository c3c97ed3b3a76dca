/- Plain: texts are laid into the states, and the states' map (chapter 03). -/
import Derived.Test.YtpjlkhdolhoeoaaFdKey
import Derived.Test.YtpjlkhdolhoeoaaFdHits
import Derived.WalkArith
namespace Go.Proofs.Ytpjlkhdolhoeoaa
open Go.Maps
set_option linter.unusedVariables false
set_option linter.unusedSimpArgs false
theorem wfN {n : Nat} (h : n ≤ 1000000) : (Lit.int .i64 (n : Int)).wf = true := WalkArith.wf_i64 (by omega)
theorem u8_le (c : UInt8) : c.toNat ≤ 1000000 := by have := UInt8.toNat_lt c; omega
/-- The map tells, of a state and a byte, the state of the longer string. -/
structure MapP (D : DataW Unit) (P : List Bs) : Prop where
  isMap : IsMap D
  only : ∀ kl, Maps.has D kl = true → ∃ (i a : Nat) (x : Bs) (c : UInt8), P[i]? = some (x ++ [c]) ∧ P[a]? = some x ∧ kl = keyL a c.toNat
  all : ∀ (i a : Nat) (x : Bs) (c : UInt8), P[i]? = some (x ++ [c]) → P[a]? = some x → Maps.has D (keyL a c.toNat) = true ∧ D.atKey (keyL a c.toNat) (.lit (.int .i64 0)) = .lit (.int .i64 i)
theorem get_lt {α : Type} {l : List α} {i : Nat} {x : α} (h : l[i]? = some x) : i < l.length := (List.getElem?_eq_some_iff.1 h).1
theorem keyN_inj {a a' : Nat} {c c' : UInt8} (h1 : a ≤ 1000000) (h2 : a' ≤ 1000000) (h : keyL a c.toNat = keyL a' c'.toNat) : a = a' ∧ c = c' := by
  obtain ⟨e1, e2⟩ := keyL_inj (wfN h1) (wfN (u8_le c)) (wfN h2) (wfN (u8_le c')) h
  exact ⟨by omega, UInt8.toNat.inj (by omega)⟩
theorem MapP.empty : MapP (.map []) [[]] where
  isMap := ⟨_, rfl⟩
  only kl h := by cases h
  all i a x c h _ := by cases i <;> simp at h
theorem MapP.hit {D : DataW Unit} {P : List Bs} (h : MapP D P) {a i : Nat} {x : Bs} {c : UInt8} (hx : P[a]? = some x) (hi : idx P (x ++ [c]) = some i) : Maps.has D (keyL a c.toNat) = true ∧ D.atKey (keyL a c.toNat) (.lit (.int .i64 0)) = .lit (.int .i64 i) :=
  h.all i a x c (idx_get hi) hx
theorem MapP.miss {D : DataW Unit} {P : List Bs} (h : MapP D P) (hP : P.length ≤ 1000000) {a : Nat} {x : Bs} {c : UInt8} (hx : P[a]? = some x) (hi : idx P (x ++ [c]) = none) : Maps.has D (keyL a c.toNat) = false := by
  rw [Bool.eq_false_iff]
  intro hh
  obtain ⟨i, a', y, d, h1, h2, h3⟩ := h.only _ hh
  obtain ⟨rfl, rfl⟩ := keyN_inj (by have := get_lt hx; omega) (by have := get_lt h2; omega) h3
  rw [hx] at h2
  cases h2
  exact idx_none hi (List.mem_of_getElem? h1)
theorem keyN_isKey {a : Nat} {c : UInt8} (h : a ≤ 1000000) : WideAt.IsKeyLit (keyL a c.toNat) := lawStep.key (keyOf_step a c.toNat (wfN h) (wfN (u8_le c)))
theorem MapP.put {D : DataW Unit} {P : List Bs} (h : MapP D P) (hT : Trie P) (hP : P.length ≤ 1000000) {a : Nat} {x : Bs} {c : UInt8} (hx : P[a]? = some x) (hi : idx P (x ++ [c]) = none) : MapP (D.put (keyL a c.toNat) (.lit (.int .i64 P.length))) (P ++ [x ++ [c]]) := by
  have hal := get_lt hx
  have hT2 := hT.snoc hx hi
  refine ⟨?_, ?_, ?_⟩
  · obtain ⟨es, rfl⟩ := h.isMap
    exact ⟨_, rfl⟩
  · intro kl hk
    by_cases he : kl = keyL a c.toNat
    · refine ⟨P.length, a, x, c, ?_, ?_, he⟩
      · rw [List.getElem?_append_right (Nat.le_refl _), Nat.sub_self]; rfl
      · rw [List.getElem?_append_left hal]; exact hx
    · rw [has_put_other he] at hk
      obtain ⟨i, a', y, d, h1, h2, h3⟩ := h.only kl hk
      exact ⟨i, a', y, d, by rw [List.getElem?_append_left (get_lt h1)]; exact h1, by rw [List.getElem?_append_left (get_lt h2)]; exact h2, h3⟩
  · intro i a' y d h1 h2
    have hl := get_lt h1
    rw [List.length_append, List.length_singleton] at hl
    rcases Nat.lt_or_ge i P.length with hil | hil
    · have h1' : P[i]? = some (y ++ [d]) := by rw [List.getElem?_append_left hil] at h1; exact h1
      obtain ⟨j, hj, hy⟩ := hT.pre i y d h1'
      have hy2 : (P ++ [x ++ [c]])[j]? = some y := by rw [List.getElem?_append_left (get_lt hy)]; exact hy
      have e1 := idx_of hT2.nodup h2
      have e2 := idx_of hT2.nodup hy2
      rw [e1] at e2
      have haj := Option.some.inj e2
      subst haj
      have hne : keyL a' d.toNat ≠ keyL a c.toNat := fun e => by
        obtain ⟨rfl, rfl⟩ := keyN_inj (by have := get_lt hy; omega) (by omega) e
        rw [hx] at hy
        cases hy
        exact idx_none hi (List.mem_of_getElem? h1')
      rw [has_put_other hne, atKey_put_other hne]
      exact h.all i a' y d h1' hy
    · have h0 : i = P.length := by omega
      subst h0
      rw [List.getElem?_append_right (Nat.le_refl _), Nat.sub_self] at h1
      simp only [List.getElem?_cons_zero, Option.some.injEq] at h1
      obtain ⟨e1, e2⟩ := List.append_inj' h1 rfl
      cases e2
      subst e1
      have hx2 : (P ++ [x ++ [c]])[a]? = some x := by rw [List.getElem?_append_left hal]; exact hx
      have i1 := idx_of hT2.nodup h2
      have i2 := idx_of hT2.nodup hx2
      rw [i1] at i2
      have haj := Option.some.inj i2
      subst haj
      exact ⟨has_put_same h.isMap (keyN_isKey (by omega)) _, atKey_put_same h.isMap (keyN_isKey (by omega)) _ _⟩
/-- A text's states are laid, behind what of it is laid. -/
def layP (P : List Bs) (x : Bs) : Bs → List Bs
  | [] => P
  | c :: t => layP (match idx P (x ++ [c]) with | some _ => P | none => P ++ [x ++ [c]]) (x ++ [c]) t
def layAll (ls : List Bs) : List Bs := ls.foldl (fun P s => layP P [] s) [[]]
theorem layP_nil (P : List Bs) (x : Bs) : layP P x [] = P := rfl
theorem layP_hit {P : List Bs} {x t : Bs} {c : UInt8} {i : Nat} (h : idx P (x ++ [c]) = some i) : layP P x (c :: t) = layP P (x ++ [c]) t := by rw [layP, h]
theorem layP_miss {P : List Bs} {x t : Bs} {c : UInt8} (h : idx P (x ++ [c]) = none) : layP P x (c :: t) = layP (P ++ [x ++ [c]]) (x ++ [c]) t := by rw [layP, h]
/-- What laying leaves. -/
theorem layP_spec : ∀ (t : Bs) (P : List Bs) (x : Bs), Trie P → x ∈ P → Trie (layP P x t) ∧ (∃ Q, layP P x t = P ++ Q ∧ ∀ y ∈ Q, ∃ u, y = x ++ u ∧ u ≠ []) ∧ x ++ t ∈ layP P x t ∧ (layP P x t).length ≤ P.length + t.length
  | [], P, x, h, hx => ⟨h, ⟨[], by simp [layP], fun y hy => by simp at hy⟩, by rw [List.append_nil]; exact hx, by simp [layP]⟩
  | c :: t, P, x, h, hx => by
    have hg : ∀ {Q : List Bs}, (∀ y ∈ Q, ∃ u, y = (x ++ [c]) ++ u ∧ u ≠ []) → ∀ y ∈ Q, ∃ u, y = x ++ u ∧ u ≠ [] := fun hq y hy => by
      obtain ⟨u, rfl, hu⟩ := hq y hy
      exact ⟨c :: u, by simp, by simp⟩
    cases hi : idx P (x ++ [c]) with
    | some i =>
      rw [layP_hit hi]
      obtain ⟨h1, ⟨Q, h2, h2'⟩, h3, h4⟩ := layP_spec t P (x ++ [c]) h (List.mem_of_getElem? (idx_get hi))
      refine ⟨h1, ⟨Q, h2, hg h2'⟩, ?_, by simp only [List.length_cons]; omega⟩
      rw [List.append_assoc] at h3; exact h3
    | none =>
      rw [layP_miss hi]
      obtain ⟨a, ha⟩ := List.getElem?_of_mem hx
      obtain ⟨h1, ⟨Q, h2, h2'⟩, h3, h4⟩ := layP_spec t (P ++ [x ++ [c]]) (x ++ [c]) (h.snoc ha hi) (by simp)
      refine ⟨h1, ⟨[x ++ [c]] ++ Q, by rw [h2, List.append_assoc], fun y hy => ?_⟩, ?_, ?_⟩
      · rcases List.mem_append.1 hy with hy | hy
        · simp at hy; exact ⟨[c], hy, by simp⟩
        · exact hg h2' y hy
      · rw [List.append_assoc] at h3; exact h3
      · rw [List.length_append, List.length_singleton] at h4
        simp only [List.length_cons]; omega
/-- What the ends of the states are, when n texts are laid. -/
def EndsP (ls : List Bs) (n : Nat) (P : List Bs) (E : List (List Nat)) : Prop := E.length = P.length ∧ ∀ (k : Nat) (x : Bs), P[k]? = some x → E[k]? = some (endsJ (ls.take n) x)
/-- Every text that is laid is a state's string. -/
def LaidP (ls : List Bs) (n : Nat) (P : List Bs) : Prop := ∀ x ∈ ls.take n, x ≠ [] → x ∈ P
theorem endsJ_new {ls P : List Bs} {n : Nat} (h : LaidP ls n P) {y : Bs} (hy : idx P y = none) : endsJ (ls.take n) y = [] := by
  rw [List.eq_nil_iff_forall_not_mem]
  intro w hw
  obtain ⟨h1, h2⟩ := endsJ_mem.1 hw
  exact idx_none hy (h y (List.mem_of_getElem? h2) h1)
theorem EndsP.snoc {ls P : List Bs} {n : Nat} {E : List (List Nat)} (h : EndsP ls n P E) (hl : LaidP ls n P) {y : Bs} (hy : idx P y = none) : EndsP ls n (P ++ [y]) (E ++ [[]]) := by
  refine ⟨by rw [List.length_append, List.length_append, h.1]; rfl, fun k x hx => ?_⟩
  rcases Nat.lt_or_ge k P.length with hk | hk
  · rw [List.getElem?_append_left hk] at hx
    rw [List.getElem?_append_left (by rw [h.1]; exact hk)]
    exact h.2 k x hx
  · have hl2 := get_lt hx
    rw [List.length_append, List.length_singleton] at hl2
    have h0 : k = P.length := by omega
    subst h0
    rw [List.getElem?_append_right (Nat.le_refl _), Nat.sub_self] at hx
    simp only [List.getElem?_cons_zero, Option.some.injEq] at hx
    subst hx
    rw [List.getElem?_append_right (by rw [h.1]; exact Nat.le_refl _), h.1, Nat.sub_self, endsJ_new hl hy]; rfl
theorem LaidP.snoc {ls P Q : List Bs} {n : Nat} (h : LaidP ls n P) : LaidP ls n (P ++ Q) := fun x hx hn => List.mem_append_left _ (h x hx hn)
theorem take_next {ls : List Bs} {n : Nat} {s : Bs} (hs : ls[n]? = some s) : ls.take (n + 1) = ls.take n ++ [s] := by rw [List.take_add_one, hs]; rfl
theorem endsJ_next {ls : List Bs} {n : Nat} {s x : Bs} (hs : ls[n]? = some s) : endsJ (ls.take (n + 1)) x = endsJ (ls.take n) x ++ (if x ≠ [] ∧ s = x then [n] else []) := by
  have hn := get_lt hs
  have hl : (ls.take n).length = n := by rw [List.length_take]; omega
  unfold endsJ
  rw [take_next hs, List.length_append, List.length_singleton, hl, List.range_succ, List.filter_append]
  congr 1
  · refine List.filter_congr fun w hw => ?_
    have hw2 := List.mem_range.1 hw
    rw [List.getElem?_append_left (by rw [hl]; exact hw2)]
  · have e : (ls.take n ++ [s])[n]? = some s := by rw [List.getElem?_append_right (by omega), hl, Nat.sub_self]; rfl
    by_cases h : x ≠ [] ∧ s = x
    · rw [if_pos h, List.filter_cons_of_pos (by rw [e]; exact decide_eq_true ⟨h.1, congrArg some h.2⟩)]; rfl
    · rw [if_neg h, List.filter_cons_of_neg (by rw [e, decide_eq_false (fun h2 => h ⟨h2.1, Option.some.inj h2.2⟩)]; decide)]; rfl
/-- A text that is not empty is laid: its state's ends have it too. -/
theorem EndsP.lay {ls P : List Bs} {n at_ : Nat} {E : List (List Nat)} {s : Bs} (h : EndsP ls n P E) (hT : Trie P) (hs : ls[n]? = some s) (hne : s ≠ []) (ha : P[at_]? = some s) : EndsP ls (n + 1) P (E.set at_ (endsJ (ls.take n) s ++ [n])) := by
  refine ⟨by rw [List.length_set]; exact h.1, fun k x hx => ?_⟩
  have hk := get_lt hx
  rw [endsJ_next hs]
  by_cases he : k = at_
  · subst he
    rw [ha] at hx
    cases hx
    rw [List.getElem?_set_self (by rw [h.1]; exact hk), if_pos ⟨hne, rfl⟩]
  · rw [List.getElem?_set_ne (fun e => he e.symm), h.2 k x hx, if_neg, List.append_nil]
    rintro ⟨_, rfl⟩
    have e1 := idx_of hT.nodup hx
    have e2 := idx_of hT.nodup ha
    rw [e1] at e2
    exact he (Option.some.inj e2)
theorem EndsP.skip {ls P : List Bs} {n : Nat} {E : List (List Nat)} (h : EndsP ls n P E) (hs : ls[n]? = some []) : EndsP ls (n + 1) P E := by
  refine ⟨h.1, fun k x hx => ?_⟩
  rw [endsJ_next hs, h.2 k x hx, if_neg, List.append_nil]
  rintro ⟨h1, rfl⟩
  exact h1 rfl
theorem LaidP.next {ls P : List Bs} {n : Nat} {s : Bs} (h : LaidP ls n P) (hs : ls[n]? = some s) (hm : s ≠ [] → s ∈ P) : LaidP ls (n + 1) P := by
  intro x hx hn
  rw [take_next hs] at hx
  rcases List.mem_append.1 hx with hx | hx
  · exact h x hx hn
  · simp at hx; subst hx; exact hm hn
end Go.Proofs.Ytpjlkhdolhoeoaa
