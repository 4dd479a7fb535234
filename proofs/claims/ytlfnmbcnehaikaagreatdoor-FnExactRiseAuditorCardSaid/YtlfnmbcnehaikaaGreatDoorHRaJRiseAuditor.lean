/- A part of the proof: what the laws need of it. -/
import Derived.Test.YtlfnmbcnehaikaaGreatDoorHRaL5xTop
set_option linter.unusedVariables false
set_option linter.unusedSimpArgs false
set_option linter.unusedVariables false
set_option linter.unusedSimpArgs false
namespace Go.Proofs.YtlfnmbcnehaikaaGreatDoor
open Go.RowKit Go.WideShapes Go.ChangeShapes Go.ChangeAt Lay Mk
theorem band_intro {a b : Bool} (h : a = true) (k : b = true) : (a && b) = true := by rw [h, k]; rfl
set_option maxRecDepth 20000 in set_option maxHeartbeats 16000000 in
theorem joined_RiseAuditor : joinedFacts Tryz.pinned.checked.prog 5 Tryz.f5 Rows.fnExactRiseAuditorSpec Rows.fnExactRiseAuditorRow = true := by
  unfold joinedFacts
  repeat' (with_reducible refine band_intro ?_ ?_)
  all_goals (as_aux_lemma => kernel_rfl)
end Go.Proofs.YtlfnmbcnehaikaaGreatDoor
