/- The closed facts of the row of ChainRight. -/
import Derived.Test.YthgonaodmpegfaaGreatDoorTop
set_option linter.unusedVariables false
set_option linter.unusedSimpArgs false
namespace Go.Proofs.YthgonaodmpegfaaGreatDoor
open Go.RowKit Go.WideShapes Go.ChangeShapes Go.ChangeAt Lay Mk
theorem joined_ChainRight : joinedFacts Tryz.pinned.checked.prog 3 Tryz.f3 Rows.fnExactChainRightSpec Rows.fnExactChainRightRow = true := by kernel_rfl
end Go.Proofs.YthgonaodmpegfaaGreatDoor
