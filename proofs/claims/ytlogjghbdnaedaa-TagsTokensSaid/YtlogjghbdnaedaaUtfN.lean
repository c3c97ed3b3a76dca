/- Loops over the iterator: Runes. -/
import Derived.Test.YtlogjghbdnaedaaUtfM
import Derived.RangeFuncBox
import Derived.OwnWalkIn
namespace Go.Proofs.Ytlogjghbdnaedaa
open Go.RowKit Go.Shelf
set_option linter.unusedVariables false
set_option linter.unusedSimpArgs false
attribute [local go_sem] Oper.semAt_some
theorem infoI32 : (Try.prog.info? 21).map (fun i => (i.zero, i.size, i.bytes)) = some (some (.int .i32 0), 1, 4) := by kernel_rfl
theorem infoInt : (Try.prog.info? 3).map (fun i => (i.zero, i.size, i.bytes)) = some (some (.int .i64 0), 1, 8) := by kernel_rfl
def v32 (r : Nat) : Value := .int .i32 r
def v64 (r : Nat) : Value := .int .i64 r
end Go.Proofs.Ytlogjghbdnaedaa
