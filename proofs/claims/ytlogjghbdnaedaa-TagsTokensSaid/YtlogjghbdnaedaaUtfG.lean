/- Walks: the reference's Clean. -/
import Derived.Test.YtlogjghbdnaedaaUtfF
namespace Go.Proofs.Ytlogjghbdnaedaa
open Go.RowKit
set_option linter.unusedVariables false
set_option linter.unusedSimpArgs false
theorem strOf_append (a b : List UInt8) : strOf a ++ strOf b = strOf (a ++ b) := by
  simp [strOf, ByteArray.mk_append_mk]
theorem strOf_nil : ({ data := #[] } : ByteArray) = strOf [] := rfl
theorem shown_bad {r : Nat} (h : (r < 32 ∧ r ≠ 9 ∧ r ≠ 10) ∨ (127 ≤ r ∧ r ≤ 159)) : shownN r = 65533 := by unfold shownN; rw [if_pos h]
theorem shown_self {r : Nat} (h : ¬ ((r < 32 ∧ r ≠ 9 ∧ r ≠ 10) ∨ (127 ≤ r ∧ r ≤ 159))) : shownN r = r := by unfold shownN; rw [if_neg h]
theorem piece_at {l : List UInt8} {r n : Nat} (h : next l = (r, n)) : piece l = if r = 13 then (if bt (l.drop n) 0 = 10 then [] else enc 10) else enc (shownN r) := by
  unfold piece; rw [h]
end Go.Proofs.Ytlogjghbdnaedaa
