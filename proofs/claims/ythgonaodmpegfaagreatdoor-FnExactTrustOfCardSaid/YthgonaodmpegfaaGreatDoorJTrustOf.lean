/- The closed facts of the row of TrustOf. -/
import Derived.Test.YthgonaodmpegfaaGreatDoorTop
set_option linter.unusedVariables false
set_option linter.unusedSimpArgs false
namespace Go.Proofs.YthgonaodmpegfaaGreatDoor
open Go.RowKit Go.WideShapes Go.ChangeShapes Go.ChangeAt Lay Mk
theorem joined_TrustOf : joinedFacts Tryz.pinned.checked.prog 5 Tryz.f5 Rows.fnExactTrustOfSpec Rows.fnExactTrustOfRow = true := by kernel_rfl
end Go.Proofs.YthgonaodmpegfaaGreatDoor
