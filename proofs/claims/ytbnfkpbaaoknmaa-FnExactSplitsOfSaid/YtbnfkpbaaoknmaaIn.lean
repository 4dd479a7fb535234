/- Walks: is a number within bounds. -/
import Derived.Test.YtbnfkpbaaoknmaaProg
import Derived.Test.YtbnfkpbaaoknmaaPl
set_option linter.unusedVariables false
set_option linter.unusedSimpArgs false
namespace Go.Proofs.Ytbnfkpbaaoknmaa
open Go.RowKit Lay Mk
theorem impl_in (n lo hi : Int) (w : World) : Calls Try.prog 143 #[.int .i64 n, .int .i64 lo, .int .i64 hi] w fun e w' => e = .returned (.bool (inB n lo hi)) ∧ w = w' := by
  go_enter Try.func143, Try.ntmps143
  go_wp2
  all_goals (go_ret; refine ⟨?_, rfl⟩; simp [inB]; try omega)

theorem spec_in (n lo hi : Int) (w : World) : Calls Try.prog 142 #[.int .i64 n, .int .i64 lo, .int .i64 hi] w fun e w' => e = .returned (.bool (inB n lo hi)) ∧ w = w' := by
  go_enter Try.func142, Try.ntmps142
  go_wp2
  all_goals (go_ret; refine ⟨?_, rfl⟩; simp [inB]; try omega)

end Go.Proofs.Ytbnfkpbaaoknmaa
