/- A slice whose elements are known; a text put together of its runes. -/
import Derived.Test.YtlogjghbdnaedaaUtfO
import Derived.Test.YtlogjghbdnaedaaUtfP
import Derived.Laws.OwnMore
namespace Go.Proofs.Ytlogjghbdnaedaa
open Go.RowKit
set_option linter.unusedVariables false
set_option linter.unusedSimpArgs false
/-- A slice whose elements are known, in blocks below B. -/
def RowOf (w : World) (B : Nat) (v : Value) (N : Nat) (f : Nat → Value) : Prop :=
  ∃ ao cap, v = .slice ao N cap ∧ (N = 0 ∨ ∃ g, ao = some ⟨g, 0, none⟩ ∧ g < B ∧ ∀ j, j < N → w.cell? ⟨g, j, none⟩ = some (f j))
theorem RowOf.own {w : World} {base : Nat} {e : TypeId} {v : Value} {N : Nat} {xs : List Value} {f : Nat → Value} (h : w.ownsRow base e 1 v N xs) (hf : ∀ j, j < N → xs[j]? = some (f j)) : RowOf w w.heap.size v N f := by
  rcases h.2 with ⟨rfl, rfl⟩ | ⟨g, cap, cur, rfl, hb, hh, _⟩
  · exact ⟨none, 0, rfl, .inl rfl⟩
  · refine ⟨_, _, rfl, .inr ⟨g, rfl, (Array.getElem?_eq_some_iff.1 hh).1, fun j hj => ?_⟩⟩
    rw [h.cellAt j (by omega)]
    exact hf j hj
theorem RowOf.below {w w' : World} {B C : Nat} {v : Value} {N : Nat} {f : Nat → Value} (h : RowOf w B v N f) (hb : Below C w w') (hC : B ≤ C) : RowOf w' B v N f := by
  obtain ⟨ao, cap, hv, h⟩ := h
  refine ⟨ao, cap, hv, ?_⟩
  rcases h with h | ⟨g, hg, hl, hc⟩
  · exact .inl h
  · exact .inr ⟨g, hg, hl, fun j hj => (hb.cell (p := ⟨g, j, none⟩) (by show g < C; omega)).trans (hc j hj)⟩
theorem runes_top (l : List UInt8) : ∀ r ∈ runes l, r ≤ 1114111 := by
  intro r hr
  have e : runes l = (stps l).map (·.r) := by rw [runes, ← stps_map, List.map_map]; rfl
  rw [e] at hr
  obtain ⟨x, _, rfl⟩ := List.mem_map.1 hr
  exact x.hr
theorem joined_take (rs : List Nat) (k : Nat) (h : k < rs.length) : joined (rs.take (k + 1)) = joined (rs.take k) ++ enc ((rs.getD k 0 : Nat) : Int) := by
  unfold joined
  rw [List.take_add_one, List.getElem?_eq_getElem h, List.getD_eq_getElem?_getD, List.getElem?_eq_getElem h, List.map_append, List.flatten_append]
  simp
theorem joined_length (rs : List Nat) : (joined rs).length ≤ 4 * rs.length := by
  induction rs with
  | nil => simp [joined]
  | cons r t ih =>
    have e : joined (r :: t) = enc (r : Int) ++ joined t := rfl
    rw [e, List.length_append, List.length_cons]
    have := (enc_length (r : Int)).1
    omega
end Go.Proofs.Ytlogjghbdnaedaa
