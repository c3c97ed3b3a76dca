/- Plain: a page's tokens follow one another, and between them is nothing. -/
import Derived.Test.YtlogjghbdnaedaaTgSpec
namespace Go.Proofs.Ytlogjghbdnaedaa
set_option linter.unusedVariables false
set_option linter.unusedSimpArgs false
theorem sayJ_pos {e b : Nat} {l : List UInt8} {x : List UInt8} {n : Nat} (hl : l ≠ []) (h0 : bt l 0 ≠ e) (h : sayJ e b l = some (x, n)) : 1 ≤ n := by
  have hb := sayJ_bd e b _ l (Nat.le_refl _) x n h
  have := List.length_pos_iff.2 hl
  rcases Nat.eq_zero_or_pos n with h1 | h1
  · subst h1
    exact absurd (hb.2.2 this) h0
  · exact h1
/-- What holds of a token that stands at a place. -/
structure TgAt (l : List UInt8) (k : Nat) (t : Tg) : Prop where
  frm : t.frm = k
  lt : k < t.to
  le : t.to ≤ l.length
  kind : t.kind = 99 ∨ t.kind = 111 ∨ t.kind = 116
  name : t.name.length ≤ l.length
  text : t.text.length ≤ 4 * l.length
  atts : t.atts.length ≤ l.length
  head : t.kind = 116 → bt l k ≠ 60
  last : t.kind = 116 → t.to < l.length → bt l t.to = 60
theorem atS_lead {l : List UInt8} {k : Nat} {c d : UInt8} (h : atS l [c, d] k = true) : k + 2 ≤ l.length ∧ bt l k = c.toNat ∧ bt l (k + 1) = d.toNat := by
  unfold atS at h
  simp only [Bool.and_eq_true, decide_eq_true_eq] at h
  have h2 := h.2
  have := congrArg List.length h2
  rw [List.length_take, List.length_drop] at this
  have hl : ([c, d] : List UInt8).length = 2 := rfl
  have h3 : k + 2 ≤ l.length := by omega
  rw [List.drop_eq_getElem_cons (by omega), List.drop_eq_getElem_cons (by omega)] at h2
  simp only [List.length_cons, List.length_nil, List.take_succ_cons, List.take_zero, List.cons.injEq, and_true] at h2
  refine ⟨h3, ?_, ?_⟩
  · rw [← bt_get (by omega), h2.1]
  · rw [← bt_get (by omega), h2.2]
theorem oneG_at {l : List UInt8} {k : Nat} {t : Tg} (hk : k < l.length) (h : oneG l k = some t) : TgAt l k t := by
  unfold oneG at h
  split at h
  · rename_i h1
    obtain ⟨a1, a2, a3⟩ := atS_lead h1
    split at h
    · rename_i h2
      cases h
      have := bt_pos_lt (l := l) (k := runE nameB l (k + 2)) (by omega)
      have := runE_ge nameB l (k + 2)
      have := runT_len (P := nameB) (l := l) (k := k + 2) a1
      exact ⟨rfl, by dsimp only; omega, by dsimp only; omega, .inl rfl, by dsimp only; omega, by simp, by simp, fun h => by simp at h, fun h => by simp at h⟩
    · cases h
  · split at h
    · rename_i h1 h2
      split at h
      · cases ho : opnJ l (runE nameB l (k + 1)) [] with
        | none => rw [ho] at h; cases h
        | some p =>
          obtain ⟨bs, e⟩ := p
          rw [ho] at h
          simp only [Option.map_some, Option.some.injEq] at h
          subst h
          have h3 := runE_ge nameB l (k + 1)
          have h4 := runE_le nameB l (k + 1) hk
          have h5 := opnJ_bd l l.length _ [] bs e (by omega) h4 ho
          have h6 := runT_len (P := nameB) (l := l) (k := k + 1) hk
          simp only [List.length_nil] at h5
          exact ⟨rfl, by dsimp only; omega, by dsimp only; omega, .inr (.inl rfl), by dsimp only; omega, by simp, by dsimp only; omega, fun h => by simp at h, fun h => by simp at h⟩
      · cases h
    · rename_i h1 h2
      cases hs : sayJ 60 62 (l.drop k) with
      | none => rw [hs] at h; cases h
      | some p =>
        obtain ⟨x, n⟩ := p
        rw [hs] at h
        simp only [Option.map_some, Option.some.injEq] at h
        subst h
        have hp := sayJ_pos (fun e => by have := congrArg List.length e; rw [List.length_drop] at this; simp at this; omega) (by rw [bt_drop, Nat.add_zero]; exact h2) hs
        have hb := sayJ_bd 60 62 _ _ (Nat.le_refl _) x n hs
        rw [List.length_drop] at hb
        refine ⟨rfl, by dsimp only; omega, by dsimp only; omega, .inr (.inr rfl), by simp, by dsimp only; omega, by simp, fun _ => h2, fun _ h => ?_⟩
        have := hb.2.2 (by dsimp only at h; omega)
        rwa [bt_drop] at this
def tgsF : Nat → List UInt8 → Nat → Option (List Tg)
  | 0, _, _ => some []
  | f + 1, l, k => if l.length ≤ k then some [] else
    match oneG l k with
    | none => none
    | some t => (tgsF f l t.to).map (t :: ·)
def tgsAt (l : List UInt8) (k : Nat) : Option (List Tg) := tgsF (l.length - k) l k
theorem tgsF_more : ∀ (f g : Nat) (l : List UInt8) (k : Nat), l.length ≤ f + k → l.length ≤ g + k → tgsF f l k = tgsF g l k
  | 0, 0, _, _, _, _ => rfl
  | 0, g + 1, l, k, hf, _ => by unfold tgsF; rw [if_pos (by omega)]
  | f + 1, 0, l, k, _, hg => by unfold tgsF; rw [if_pos (by omega)]
  | f + 1, g + 1, l, k, hf, hg => by
    unfold tgsF
    split
    · rfl
    · split
      · rfl
      · rename_i h1 t ho
        have hb := oneG_at (by omega) ho
        have := hb.lt
        rw [tgsF_more f g l t.to (by omega) (by omega)]
theorem tgsAt_end {l : List UInt8} {k : Nat} (h : l.length ≤ k) : tgsAt l k = some [] := by
  unfold tgsAt
  rw [show l.length - k = 0 by omega]; rfl
theorem tgsAt_step {l : List UInt8} {k : Nat} (h : k < l.length) : tgsAt l k =
    match oneG l k with
    | none => none
    | some t => (tgsAt l t.to).map (t :: ·) := by
  unfold tgsAt
  obtain ⟨m, hm⟩ : ∃ m, l.length - k = m + 1 := ⟨l.length - k - 1, by omega⟩
  rw [hm, tgsF, if_neg (by omega)]
  split
  · rfl
  · rename_i t ho
    have := (oneG_at h ho).lt
    rw [tgsF_more m (l.length - t.to) l t.to (by omega) (by omega)]
/-- What a page is: its tokens. -/
def tagsJ (l : List UInt8) : Option (List Tg) := if good l = true then tgsAt l 0 else none
/-- Tokens that follow one another from a place on. -/
def Chain (l : List UInt8) : Nat → List Tg → Prop
  | k, [] => l.length ≤ k
  | k, t :: ts => k < l.length ∧ TgAt l k t ∧ Chain l t.to ts
theorem chain_of (l : List UInt8) : ∀ (m k : Nat) (ts : List Tg), l.length ≤ k + m → tgsAt l k = some ts → Chain l k ts
  | m, k, ts, hm, h => by
    by_cases hk : k < l.length
    · rw [tgsAt_step hk] at h
      split at h
      · cases h
      · rename_i t ho
        have ha := oneG_at hk ho
        have := ha.lt
        cases hr : tgsAt l t.to with
        | none => rw [hr] at h; cases h
        | some us =>
          rw [hr] at h
          cases h
          match m with
          | 0 => omega
          | m + 1 => exact ⟨hk, ha, chain_of l m t.to us (by omega) hr⟩
    · rw [tgsAt_end (by omega)] at h
      cases h
      exact Nat.le_of_not_lt hk
theorem Chain.at {l : List UInt8} : ∀ (ts : List Tg) (k i : Nat) (t : Tg), Chain l k ts → ts[i]? = some t → TgAt l t.frm t ∧ (i = 0 → t.frm = k) ∧ ∀ u, i ≠ 0 → ts[i - 1]? = some u → u.to = t.frm
  | [], k, i, t, _, ht => by simp at ht
  | u :: ts, k, 0, t, h, ht => by
    simp only [List.getElem?_cons_zero, Option.some.injEq] at ht
    subst ht
    obtain ⟨h1, h2, h3⟩ := h
    refine ⟨by rw [h2.frm]; exact h2, fun _ => h2.frm, fun _ h _ => absurd rfl h⟩
  | u :: ts, k, i + 1, t, h, ht => by
    obtain ⟨h1, h2, h3⟩ := h
    obtain ⟨a, b, c⟩ := Chain.at ts u.to i t h3 (by simpa using ht)
    refine ⟨a, fun h => by omega, fun v _ hv => ?_⟩
    cases i with
    | zero =>
      simp at hv
      subst hv
      exact (b rfl).symm
    | succ i => exact c v (by omega) (by simpa using hv)
theorem Chain.last {l : List UInt8} : ∀ (ts : List Tg) (k : Nat) (t : Tg), Chain l k ts → ts[ts.length - 1]? = some t → t.to = l.length
  | [], _, t, _, ht => by simp at ht
  | [u], k, t, h, ht => by
    obtain ⟨h1, h2, h3⟩ := h
    simp at ht
    subst ht
    have := h2.le
    unfold Chain at h3
    omega
  | u :: v :: ts, k, t, h, ht => by
    obtain ⟨h1, h2, h3⟩ := h
    exact Chain.last (v :: ts) u.to t h3 (by simpa using ht)
theorem Chain.none {l : List UInt8} {k : Nat} (h : Chain l k []) : l.length ≤ k := h
theorem Chain.len {l : List UInt8} : ∀ (ts : List Tg) (k : Nat), Chain l k ts → ts.length + k ≤ max l.length k
  | [], k, _ => by simp; omega
  | t :: ts, k, h => by
    obtain ⟨h1, h2, h3⟩ := h
    have := Chain.len ts t.to h3
    have := h2.lt
    have := h2.le
    simp only [List.length_cons]
    omega
/-- Two texts never stand side by side. -/
theorem Chain.apart {l : List UInt8} {ts : List Tg} {k i : Nat} {t u : Tg} (h : Chain l k ts) (hi : i ≠ 0) (ht : ts[i]? = some t) (hu : ts[i - 1]? = some u) : ¬ (t.kind = 116 ∧ u.kind = 116) := by
  rintro ⟨h1, h2⟩
  obtain ⟨a, _, c⟩ := Chain.at ts k i t h ht
  obtain ⟨a', _, _⟩ := Chain.at ts k (i - 1) u h hu
  have e := c u hi hu
  have h3 := a'.last h2
  rw [e] at h3
  have h4 := a.lt
  have h5 := a.le
  exact a.head h1 (h3 (by omega))
end Go.Proofs.Ytlogjghbdnaedaa
