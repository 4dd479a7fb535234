/- The closed facts of the row of CheckPast. -/
import Derived.Test.YtcbbjfafmmcfiaaGreatDoorB2
set_option linter.unusedVariables false
set_option linter.unusedSimpArgs false
namespace Go.Proofs.YtcbbjfafmmcfiaaGreatDoor
open Go.RowKit Go.WideShapes Go.ChangeShapes Go.ChangeAt Lay Mk
theorem joined_CheckPast : joinedFacts Tryz.pinned.checked.prog 4 Tryz.f4 Rows.fnExactCheckPastSpec Rows.fnExactCheckPastRow = true := by kernel_rfl
end Go.Proofs.YtcbbjfafmmcfiaaGreatDoor
