/- Walks: names and values. -/
import Derived.Test.YthgonaodmpegfaaGreatIn
import Derived.Lib.Hide
set_option linter.unusedVariables false
set_option linter.unusedSimpArgs false
namespace Go.Proofs.YthgonaodmpegfaaGreat
open Go.RowKit Lay Mk

end Go.Proofs.YthgonaodmpegfaaGreat
