/- The closed facts of the row of RootsOf. -/
import Derived.Test.YthgonaodmpegfaaGreatDoorTop
set_option linter.unusedVariables false
set_option linter.unusedSimpArgs false
namespace Go.Proofs.YthgonaodmpegfaaGreatDoor
open Go.RowKit Go.WideShapes Go.ChangeShapes Go.ChangeAt Lay Mk
theorem joined_RootsOf : joinedFacts Tryz.pinned.checked.prog 6 Tryz.f6 Rows.fnExactRootsOfSpec Rows.fnExactRootsOfRow = true := by kernel_rfl
end Go.Proofs.YthgonaodmpegfaaGreatDoor
