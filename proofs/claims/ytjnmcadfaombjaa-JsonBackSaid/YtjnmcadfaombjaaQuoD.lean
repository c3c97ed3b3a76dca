/- Walks: the program's escape and One. -/
import Derived.Test.YtjnmcadfaombjaaQuoC
import Derived.Laws.RangeAny
namespace Go.Proofs.Ytjnmcadfaombjaa
open Go.RowKit
set_option linter.unusedVariables false
set_option linter.unusedSimpArgs false
theorem one_esc (s : ByteArray) (k : Nat) (hk : k < s.size) (h : bt s.data.toList k = 92) : oneJ (s.data.toList.drop k) = escJ (s.data.toList.drop k) := by
  unfold oneJ
  have := bt_drop s.data.toList k 0
  rw [if_neg (drop_ne (by rw [← sz_len]; exact hk)), this, Nat.add_zero, if_pos h]
theorem one_next (s : ByteArray) (k r n : Nat) (hk : k < s.size) (h : bt s.data.toList k ≠ 92) (hn : next (s.data.toList.drop k) = (r, n)) :
    oneJ (s.data.toList.drop k) = if r < 32 ∨ r = 34 ∨ (r = 65533 ∧ n = 1) then none else some (r, n) := by
  unfold oneJ
  have := bt_drop s.data.toList k 0
  rw [if_neg (drop_ne (by rw [← sz_len]; exact hk)), this, Nat.add_zero, if_neg h, hn]
end Go.Proofs.Ytjnmcadfaombjaa
