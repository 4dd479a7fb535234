/- The closed facts of the row of ManySays. -/
import Derived.Test.YtojbehmbeoemgaaDoorB2
set_option linter.unusedVariables false
set_option linter.unusedSimpArgs false
namespace Go.Proofs.YtojbehmbeoemgaaDoor
open Go.RowKit Go.WideShapes Go.ChangeShapes Go.ChangeAt Lay Mk
theorem joined_ManySays : joinedFacts Tryd.pinned.checked.prog 4 Tryd.f4 Rows.fnExactManySaysSpec Rows.fnExactManySaysRow = true := by kernel_rfl
end Go.Proofs.YtojbehmbeoemgaaDoor
