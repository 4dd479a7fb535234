/- A part of the proof: what the laws need of it. -/
import Derived.Test.YtojbehmbeoemgaaDoorHMoL17xTg
import Derived.Test.YtojbehmbeoemgaaDoorHMoL6xInf
set_option linter.unusedVariables false
set_option linter.unusedSimpArgs false
set_option linter.unusedVariables false
set_option linter.unusedSimpArgs false
namespace Go.Proofs.YtojbehmbeoemgaaDoor
open Go.RowKit Lay Mk
theorem row_box {w : World} {b : Nat} (cap : Nat) (l : List ByteArray) (hc : ∀ j (h : j < l.length), w.cell? ⟨b, j, none⟩ = some (.string l[j]) ∧ l[j].size ≤ maxLen) : Row false w (some ⟨b, 0, none⟩) cap l (fun q => q = b) := by
  intro _
  refine ⟨b, 0, rfl, rfl, fun _ => none_, fun _ _ x => x.elim, fun h => by simp at h, fun i hi => ⟨[.string l[i]], fun j u hu => ?_, ⟨rfl, (hc i hi).2⟩⟩⟩
  have hj := (List.getElem?_eq_some_iff.1 hu).1
  have hj : j = 0 := by simpa using hj
  subst hj
  rw [← hu, show 0 + i * n ByteArray + 0 = i by rw [show n ByteArray = 1 from rfl]; omega]
  exact (hc i hi).1
end Go.Proofs.YtojbehmbeoemgaaDoor
