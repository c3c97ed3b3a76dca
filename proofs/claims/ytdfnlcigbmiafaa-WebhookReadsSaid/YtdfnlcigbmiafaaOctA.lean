/- Walks: two digits of a byte; a text at a place (both layers). -/
import Derived.Test.YtdfnlcigbmiafaaUtfD
import Derived.Test.YtdfnlcigbmiafaaOctSpec
import Derived.Test.YtdfnlcigbmiafaaShelf
namespace Go.Proofs.Ytdfnlcigbmiafaa
open Go.RowKit
set_option linter.unusedVariables false
set_option linter.unusedSimpArgs false
theorem rdig_any (c : Nat) (w : World) (hc : c < 256) :
    Calls Try.prog 100 #[.int .u8 c] w fun e w' => e = .returned (.int .i64 (wth c)) ∧ w = w' := by
  have key : ∀ n : Int, n = (wth c : Nat) → Ending.returned (.int .i64 n) = Ending.returned (.int .i64 (wth c)) := fun n h => by rw [h]
  have K := Lib.hid key
  clear key
  go_enter Try.func100, Try.ntmps100
  go_wp2
  all_goals
    go_ret
    exact ⟨K.out _ (by unfold wth; split <;> (try split) <;> (try split) <;> omega), rfl⟩
/-- What the program says of a digit. -/
def worthV (c : Nat) : Value := if wth c < 16 then .tuple #[.int .u8 (wth c), .bool true] else .tuple #[.int .u8 0, .bool false]
def or32 (c : Nat) : Nat := c ||| 32
theorem or_32 (c : Nat) (h : c < 256) : bits BinOp.or IntKind.u8 (c : Int) 32 = ((or32 c : Nat) : Int) := by
  have : ∀ c : Fin 256, bits BinOp.or IntKind.u8 (c.val : Int) 32 = ((or32 c.val : Nat) : Int) := by decide +kernel
  exact this ⟨c, h⟩
theorem or32_lt (c : Nat) (h : c < 256) : or32 c < 256 := by
  have : ∀ c : Fin 256, or32 c.val < 256 := by decide +kernel
  exact this ⟨c, h⟩
theorem worthV_eq (c : Nat) (h : c < 256) : worthV c = if 48 ≤ c ∧ c ≤ 57 then .tuple #[.int .u8 ((c : Int) - 48), .bool true] else if 97 ≤ or32 c ∧ or32 c ≤ 102 then .tuple #[.int .u8 ((or32 c : Int) - 97 + 10), .bool true] else .tuple #[.int .u8 0, .bool false] := by
  have key : ∀ c : Fin 256, (wth c.val < 16 ↔ ((48 ≤ c.val ∧ c.val ≤ 57) ∨ (97 ≤ or32 c.val ∧ or32 c.val ≤ 102))) ∧ ((48 ≤ c.val ∧ c.val ≤ 57) → wth c.val + 48 = c.val) ∧
      (¬ (48 ≤ c.val ∧ c.val ≤ 57) → (97 ≤ or32 c.val ∧ or32 c.val ≤ 102) → wth c.val + 87 = or32 c.val) := by decide +kernel
  obtain ⟨k1, k2, k3⟩ := key ⟨c, h⟩
  dsimp only at k1 k2 k3
  unfold worthV
  by_cases h1 : 48 ≤ c ∧ c ≤ 57
  · have := k2 h1
    rw [if_pos (k1.2 (.inl h1)), if_pos h1]
    have e : ((wth c : Nat) : Int) = (c : Int) - 48 := by omega
    rw [e]
  · rw [if_neg h1]
    by_cases h2 : 97 ≤ or32 c ∧ or32 c ≤ 102
    · have := k3 h1 h2
      rw [if_pos (k1.2 (.inr h2)), if_pos h2]
      have e : ((wth c : Nat) : Int) = (or32 c : Int) - 97 + 10 := by omega
      rw [e]
    · rw [if_neg h2, if_neg (fun h => by rcases k1.1 h with h | h; exact h1 h; exact h2 h)]
theorem worth_any (c : Nat) (w : World) (hc : c < 256) :
    Calls Try.prog 103 #[.int .u8 c] w fun e w' => e = .returned (worthV c) ∧ w = w' := by
  have H := Lib.hid (worthV_eq c hc)
  have ho := or_32 c hc
  have hl := or32_lt c hc
  generalize or32 c = d at *
  by_cases h1 : 48 ≤ c ∧ c ≤ 57
  · obtain ⟨a, b⟩ := h1
    go_enter Try.func103, Try.ntmps103
    go_wp2
    go_ret2
    exact ⟨by rw [H.out, if_pos ⟨a, b⟩]; rfl, rfl⟩
  · by_cases h2 : 97 ≤ d ∧ d ≤ 102
    · obtain ⟨a, b⟩ := h2
      have HN := Lib.hid h1
      clear h1
      go_enter Try.func103, Try.ntmps103
      go_wp2
      · exact absurd ⟨by omega, by omega⟩ HN.out
      all_goals
        go_ret2
        exact ⟨by rw [H.out, if_neg HN.out, if_pos ⟨a, b⟩]; rfl, rfl⟩
    · have HN := Lib.hid h1
      have HM := Lib.hid h2
      clear h1 h2
      go_enter Try.func103, Try.ntmps103
      go_wp2
      all_goals first
        | exact absurd ⟨by omega, by omega⟩ HN.out
        | exact absurd ⟨by omega, by omega⟩ HM.out
        | (go_ret2; exact ⟨by rw [H.out, if_neg HN.out, if_neg HM.out]; rfl, rfl⟩)
end Go.Proofs.Ytdfnlcigbmiafaa
