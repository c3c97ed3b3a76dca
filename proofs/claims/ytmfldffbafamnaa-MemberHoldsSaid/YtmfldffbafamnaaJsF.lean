/- Walks: a token of a kind (chapter 10); the nodes in memory. -/
import Derived.Test.YtmfldffbafamnaaJsE
import Derived.Outline
namespace Go.Proofs.Ytmfldffbafamnaa
open Go.RowKit
set_option linter.unusedVariables false
set_option linter.unusedSimpArgs false
/-- Tokens that lie in a row, in a block below B. -/
def TokAt (w : World) (B : Nat) (ao : Option Addr) (ts : List Tok) : Prop :=
  ts = [] ∨ ∃ g, ao = some ⟨g, 0, none⟩ ∧ g < B ∧ ∀ m u, (tokCs ts)[m]? = some u → w.cell? ⟨g, m, none⟩ = some u
theorem TokAt.below {w w' : World} {B C : Nat} {ao : Option Addr} {ts : List Tok} (h : TokAt w B ao ts) (hb : Below C w w') (hC : B ≤ C) : TokAt w' B ao ts := by
  rcases h with h | ⟨g, hg, hl, hc⟩
  · exact .inl h
  · exact .inr ⟨g, hg, hl, fun m u hu => (hb.cell (p := ⟨g, m, none⟩) (by show g < C; omega)).trans (hc m u hu)⟩
theorem tokCs_at : ∀ (ts : List Tok) (j i : Nat) (t : Tok), ts[j]? = some t → i < 4 → (tokCs ts)[j * 4 + i]? = (tokC t)[i]?
  | [], j, i, t, h, _ => by simp at h
  | a :: ts, 0, i, t, h, hi => by
    simp only [List.getElem?_cons_zero, Option.some.injEq] at h
    subst h
    have : tokCs (a :: ts) = (tokC a).toList ++ tokCs ts := by unfold tokCs; rw [List.flatMap_cons]
    rw [this, Nat.zero_mul, Nat.zero_add, List.getElem?_append_left (by simp [tokC]; omega), Array.getElem?_toList]
  | a :: ts, j + 1, i, t, h, hi => by
    have : tokCs (a :: ts) = (tokC a).toList ++ tokCs ts := by unfold tokCs; rw [List.flatMap_cons]
    have hl : (tokC a).toList.length = 4 := rfl
    rw [this, List.getElem?_append_right (by rw [hl]; omega), hl, show (j + 1) * 4 + i - 4 = j * 4 + i by omega]
    exact tokCs_at ts j i t (by simpa using h) hi
theorem TokAt.facts {w : World} {B : Nat} {ao : Option Addr} {ts : List Tok} {j : Nat} {t : Tok} (h : TokAt w B ao ts) (ht : ts[j]? = some t) :
    ∃ g, ao = some ⟨g, 0, none⟩ ∧ g < B ∧ w.cell? ⟨g, j * 4, none⟩ = some (.int .u8 t.kind) ∧ w.cell? ⟨g, j * 4 + 1, none⟩ = some (.string (strOf t.text)) := by
  rcases h with h | ⟨g, hg, hl, hc⟩
  · subst h; simp at ht
  · exact ⟨g, hg, hl, hc _ _ (tokCs_at ts j 0 t ht (by omega)), hc _ _ (tokCs_at ts j 1 t ht (by omega))⟩
theorem isK_some {ts : List Tok} {k c : Nat} {t : Tok} (h : ts[k]? = some t) : isK ts k c = decide (t.kind = c) := by unfold isK; rw [h]
theorem isK_none {ts : List Tok} {k c : Nat} (h : ts[k]? = none) : isK ts k c = false := by unfold isK; rw [h]
theorem ris_tok (ts : List Tok) (ao : Option Addr) (cap k c : Nat) (B : Nat) (w : World) (hT : TokAt w B ao ts) (hl : ts.length ≤ 1000000) (hk : k ≤ 2000000) :
    Calls Try.prog 46 #[.slice ao ts.length cap, .int .i64 k, .int .u8 c] w fun e w' => e = .returned (.bool (isK ts k c)) ∧ w = w' := by
  by_cases hlt : k < ts.length
  · obtain ⟨t, ht⟩ : ∃ t, ts[k]? = some t := ⟨_, List.getElem?_eq_getElem hlt⟩
    obtain ⟨g, rfl, hg, c0, _⟩ := hT.facts ht
    have HV := Lib.hid (isK_some (c := c) ht)
    obtain ⟨b, hb, hb2⟩ : ∃ b, ((t.kind : Int) == (c : Int)) = b ∧ decide (t.kind = c) = b := by
      by_cases h : t.kind = c
      · exact ⟨true, by simp [h], decide_eq_true h⟩
      · exact ⟨false, by simp; omega, decide_eq_false h⟩
    rw [hb2] at HV
    clear hT hb2 ht
    generalize t.kind = q at *
    go_enter Try.func46, Try.ntmps46
    go_wp2
    go_ret
    exact ⟨by rw [HV.out]; rfl, rfl⟩
  · have HV := Lib.hid (isK_none (c := c) (List.getElem?_eq_none (Nat.le_of_not_lt hlt) : ts[k]? = none))
    clear hT
    go_enter Try.func46, Try.ntmps46
    go_wp2
    go_ret
    exact ⟨by rw [HV.out]; rfl, rfl⟩
end Go.Proofs.Ytmfldffbafamnaa
