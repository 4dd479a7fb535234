/-
  DERIVED. GIVEN WITH THE SEED: THE CARDS: each row of YtbhpcjoohllfjaaDoorRows.lean that lists a variable, with what it lists TIED to the program's text (the seventh form; the later family's looks); each row that meets fmt, with fmt's text TOLD by the authors' own Lean function (tested against real Go, not proved from fmt's source: count such statements apart). THE CARD IS WHAT COUNTS. Prove the row's statement (the work); the ties are given (YtbhpcjoohllfjaaDoorTie.lean); close each card by the builder's one call (the guide's Derived/Test/ToyasCard.lean, 'card_holds'). Laid BY PROGRAM, IN A SANDBOX (cutbox-door.mjs). By AI agents, Wed Nov 11 2026. No macro, syntax, notation, axiom, sorry.
-/
import Derived.Test.YtbhpcjoohllfjaaDoorRows
import GoSem.ClaimSeven
namespace Go.Proofs.YtbhpcjoohllfjaaDoor
namespace Rows

/-- THE TIED CARD OF 'laws.FnEvidence'. -/
def fnEvidenceCard : Claim7 := { stood := { row := fnEvidenceRow, standIns := [], harness := (true, "a383e5087efbe95f515ec9d856f867ad0b065d12d5a1af5d83edfd9aa8e72d33"), looks := false }, kinds := [], alts := [], laidByText := true, laidKinds := [.data, .data], laidTests := true, laidLooks := .later }
def FnEvidenceCardSaid : Prop := Claim7.holds Tryd.pinned (.plain (OpenSpec.ofChange fnEvidenceSpec)) fnEvidenceCard

/-- THE TIED CARD OF 'laws.FnExactEvidenceOk'. -/
def fnExactEvidenceOkCard : Claim7 := { stood := { row := fnExactEvidenceOkRow, standIns := [], harness := (true, "a383e5087efbe95f515ec9d856f867ad0b065d12d5a1af5d83edfd9aa8e72d33"), looks := false }, kinds := [], alts := [], laidByText := true, laidKinds := [.data, .data], laidTests := true, laidLooks := .later }
def FnExactEvidenceOkCardSaid : Prop := Claim7.holds Tryd.pinned (.plain (OpenSpec.ofChange fnExactEvidenceOkSpec)) fnExactEvidenceOkCard

/-- THE SECOND FORM's CARD OF 'laws.FnEvidence'. -/
def fnEvidenceUptoCard : Claim7 := { stood := { row := fnEvidenceUptoRow, standIns := [], harness := (true, "a383e5087efbe95f515ec9d856f867ad0b065d12d5a1af5d83edfd9aa8e72d33"), looks := false }, kinds := [], alts := [], laidByText := true, laidKinds := [.data, .data], laidTests := true, laidLooks := .later }
def FnEvidenceUptoCardSaid : Prop := Claim7.holds Tryd.pinned (.plain (OpenSpec.upto fnEvidenceSpec)) fnEvidenceUptoCard

/-- THE SECOND FORM's CARD OF 'laws.FnExactEvidenceOk'. -/
def fnExactEvidenceOkUptoCard : Claim7 := { stood := { row := fnExactEvidenceOkUptoRow, standIns := [], harness := (true, "a383e5087efbe95f515ec9d856f867ad0b065d12d5a1af5d83edfd9aa8e72d33"), looks := false }, kinds := [], alts := [], laidByText := true, laidKinds := [.data, .data], laidTests := true, laidLooks := .later }
def FnExactEvidenceOkUptoCardSaid : Prop := Claim7.holds Tryd.pinned (.plain (OpenSpec.upto fnExactEvidenceOkSpec)) fnExactEvidenceOkUptoCard
end Rows
end Go.Proofs.YtbhpcjoohllfjaaDoor
