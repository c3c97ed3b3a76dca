/- Loops over the iterator: Clean. -/
import Derived.Test.YtmfldffbafamnaaUtfL
import Derived.Test.YtmfldffbafamnaaBW
namespace Go.Proofs.Ytmfldffbafamnaa
open Go.RowKit Go.Shelf
set_option linter.unusedVariables false
set_option linter.unusedSimpArgs false
attribute [local go_sem] Oper.semAt_some
theorem bt_ge {l : List UInt8} {k : Nat} (h : l.length ≤ k) : bt l k = 0 := by
  have := bt_drop l k 0
  rw [List.drop_eq_nil_of_le h] at this
  simpa [bt] using this.symm
end Go.Proofs.Ytmfldffbafamnaa
