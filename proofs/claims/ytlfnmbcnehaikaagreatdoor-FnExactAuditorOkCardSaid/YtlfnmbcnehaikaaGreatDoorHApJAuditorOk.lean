/- A part of the proof. -/
import Derived.Test.YtlfnmbcnehaikaaGreatDoorHApL5xTop
set_option linter.unusedVariables false
set_option linter.unusedSimpArgs false
set_option maxRecDepth 20000
set_option maxHeartbeats 16000000
namespace Go.Proofs.YtlfnmbcnehaikaaGreatDoor
open Go.RowKit Go.WideShapes Go.ChangeShapes Go.ChangeAt Lay Mk
theorem band_intro {a b : Bool} (h : a = true) (k : b = true) : (a && b) = true:=by rw [h,k]; rfl
theorem joined_AuditorOk : joinedFacts Tryz.pinned.checked.prog 4 Tryz.f4 Rows.fnExactAuditorOkSpec Rows.fnExactAuditorOkRow = true:=by
 unfold joinedFacts
 repeat' (with_reducible refine band_intro ?_ ?_)
 all_goals (as_aux_lemma => kernel_rfl)
end Go.Proofs.YtlfnmbcnehaikaaGreatDoor
