/- A part of the proof: what the laws need of it. -/
import Derived.Test.YtojbehmbeoemgaaDoorHEvL5xAq
set_option linter.unusedVariables false
set_option linter.unusedSimpArgs false
set_option linter.unusedVariables false
set_option linter.unusedSimpArgs false
namespace Go.Proofs.YtojbehmbeoemgaaDoor
open Go.RowKit Go.WideShapes Go.ChangeShapes Go.ChangeAt Lay Mk
theorem band_intro {a b : Bool} (h : a = true) (k : b = true) : (a && b) = true := by rw [h, k]; rfl
set_option maxRecDepth 20000 in set_option maxHeartbeats 16000000 in
theorem joined_FnEvidence : joinedFacts Tryd.pinned.checked.prog 3 Tryd.f3 Rows.fnEvidenceSpec Rows.fnEvidenceRow = true := by
  unfold joinedFacts
  repeat' (with_reducible refine band_intro ?_ ?_)
  all_goals (as_aux_lemma => kernel_rfl)
end Go.Proofs.YtojbehmbeoemgaaDoor
