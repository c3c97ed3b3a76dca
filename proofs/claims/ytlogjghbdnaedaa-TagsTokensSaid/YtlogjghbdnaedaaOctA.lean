/- Walks: two digits of a byte; a text at a place (both layers). -/
import Derived.Test.YtlogjghbdnaedaaUtfD
import Derived.Test.YtlogjghbdnaedaaOctSpec
import Derived.Test.YtlogjghbdnaedaaShelf
namespace Go.Proofs.Ytlogjghbdnaedaa
open Go.RowKit
set_option linter.unusedVariables false
set_option linter.unusedSimpArgs false
/-- What the program says of a digit. -/
def worthV (c : Nat) : Value := if wth c < 16 then .tuple #[.int .u8 (wth c), .bool true] else .tuple #[.int .u8 0, .bool false]
def or32 (c : Nat) : Nat := c ||| 32
theorem or_32 (c : Nat) (h : c < 256) : bits BinOp.or IntKind.u8 (c : Int) 32 = ((or32 c : Nat) : Int) := by
  have : ∀ c : Fin 256, bits BinOp.or IntKind.u8 (c.val : Int) 32 = ((or32 c.val : Nat) : Int) := by decide +kernel
  exact this ⟨c, h⟩
theorem or32_lt (c : Nat) (h : c < 256) : or32 c < 256 := by
  have : ∀ c : Fin 256, or32 c.val < 256 := by decide +kernel
  exact this ⟨c, h⟩
theorem worthV_eq (c : Nat) (h : c < 256) : worthV c = if 48 ≤ c ∧ c ≤ 57 then .tuple #[.int .u8 ((c : Int) - 48), .bool true] else if 97 ≤ or32 c ∧ or32 c ≤ 102 then .tuple #[.int .u8 ((or32 c : Int) - 97 + 10), .bool true] else .tuple #[.int .u8 0, .bool false] := by
  have key : ∀ c : Fin 256, (wth c.val < 16 ↔ ((48 ≤ c.val ∧ c.val ≤ 57) ∨ (97 ≤ or32 c.val ∧ or32 c.val ≤ 102))) ∧ ((48 ≤ c.val ∧ c.val ≤ 57) → wth c.val + 48 = c.val) ∧
      (¬ (48 ≤ c.val ∧ c.val ≤ 57) → (97 ≤ or32 c.val ∧ or32 c.val ≤ 102) → wth c.val + 87 = or32 c.val) := by decide +kernel
  obtain ⟨k1, k2, k3⟩ := key ⟨c, h⟩
  dsimp only at k1 k2 k3
  unfold worthV
  by_cases h1 : 48 ≤ c ∧ c ≤ 57
  · have := k2 h1
    rw [if_pos (k1.2 (.inl h1)), if_pos h1]
    have e : ((wth c : Nat) : Int) = (c : Int) - 48 := by omega
    rw [e]
  · rw [if_neg h1]
    by_cases h2 : 97 ≤ or32 c ∧ or32 c ≤ 102
    · have := k3 h1 h2
      rw [if_pos (k1.2 (.inr h2)), if_pos h2]
      have e : ((wth c : Nat) : Int) = (or32 c : Int) - 97 + 10 := by omega
      rw [e]
    · rw [if_neg h2, if_neg (fun h => by rcases k1.1 h with h | h; exact h1 h; exact h2 h)]
end Go.Proofs.Ytlogjghbdnaedaa
