/- The closed facts of the row of LookServer. -/
import Derived.Test.YtcbbjfafmmcfiaaGreatDoorB2
set_option linter.unusedVariables false
set_option linter.unusedSimpArgs false
namespace Go.Proofs.YtcbbjfafmmcfiaaGreatDoor
open Go.RowKit Go.WideShapes Go.ChangeShapes Go.ChangeAt Lay Mk
theorem joined_LookServer : joinedFacts Tryz.pinned.checked.prog 3 Tryz.f3 Rows.fnExactLookServerSpec Rows.fnExactLookServerRow = true := by kernel_rfl
end Go.Proofs.YtcbbjfafmmcfiaaGreatDoor
