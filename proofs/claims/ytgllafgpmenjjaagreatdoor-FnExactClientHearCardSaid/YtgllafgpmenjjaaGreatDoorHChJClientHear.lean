/- A part of the proof. -/
import Derived.Test.YtgllafgpmenjjaaGreatDoorHChL5xTop
set_option linter.unusedVariables false
set_option linter.unusedSimpArgs false
set_option maxRecDepth 20000
set_option maxHeartbeats 16000000
namespace Go.Proofs.YtgllafgpmenjjaaGreatDoor
open Go.RowKit Go.WideShapes Go.ChangeShapes Go.ChangeAt Lay Mk
theorem band_intro {a b : Bool} (h : a = true) (k : b = true) : (a && b) = true:=by rw [h,k]; rfl
theorem joined_ClientHear : joinedFacts Tryz.pinned.checked.prog 3 Tryz.f3 Rows.fnExactClientHearSpec Rows.fnExactClientHearRow = true:=by
 unfold joinedFacts
 repeat' (with_reducible refine band_intro ?_ ?_)
 all_goals (as_aux_lemma => kernel_rfl)
end Go.Proofs.YtgllafgpmenjjaaGreatDoor
