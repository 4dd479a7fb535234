/-
  DERIVED. GIVEN WITH THE SEED: THE CARDS: each row of YtojbehmbeoemgaaDoorRows.lean that lists a variable, with what it lists TIED to the program's text (the seventh form; the later family's looks); each row that meets fmt, with fmt's text TOLD by the authors' own Lean function (tested against real Go, not proved from fmt's source: count such statements apart). THE CARD IS WHAT COUNTS. Prove the row's statement (the work); the ties are given (YtojbehmbeoemgaaDoorTie.lean); close each card by the builder's one call (the guide's Derived/Test/ToyasCard.lean, 'card_holds'). Laid BY PROGRAM, IN A SANDBOX (cutbox-door.mjs). By AI agents, Wed Nov 11 2026. No macro, syntax, notation, axiom, sorry.
-/
import Derived.Test.YtojbehmbeoemgaaDoorRows
import GoSem.ClaimSeven
namespace Go.Proofs.YtojbehmbeoemgaaDoor
namespace Rows

/-- THE TIED CARD OF 'laws.FnEvidence'. -/
def fnEvidenceCard : Claim7 := { stood := { row := fnEvidenceRow, standIns := [], harness := (true, "7206628ec74574b0c0bb64fa712ff483c28076f6afd27a915104751e8c1d6aad"), looks := false }, kinds := [], alts := [], laidByText := true, laidKinds := [.data, .data], laidTests := true, laidLooks := .later }
def FnEvidenceCardSaid : Prop := Claim7.holds Tryd.pinned (.plain (OpenSpec.ofChange fnEvidenceSpec)) fnEvidenceCard

/-- THE TIED CARD OF 'laws.FnExactManySays'. -/
def fnExactManySaysCard : Claim7 := { stood := { row := fnExactManySaysRow, standIns := [], harness := (true, "7206628ec74574b0c0bb64fa712ff483c28076f6afd27a915104751e8c1d6aad"), looks := false }, kinds := [], alts := [], laidByText := true, laidKinds := [.data, .data], laidTests := true, laidLooks := .later }
def FnExactManySaysCardSaid : Prop := Claim7.holds Tryd.pinned (.plain (OpenSpec.ofChange fnExactManySaysSpec)) fnExactManySaysCard

/-- THE TIED CARD OF 'laws.FnManyOne'. -/
def fnManyOneCard : Claim7 := { stood := { row := fnManyOneRow, standIns := [], harness := (true, "7206628ec74574b0c0bb64fa712ff483c28076f6afd27a915104751e8c1d6aad"), looks := false }, kinds := [], alts := [], laidByText := true, laidKinds := [.data, .data], laidTests := true, laidLooks := .later }
def FnManyOneCardSaid : Prop := Claim7.holds Tryd.pinned (.plain (OpenSpec.ofChange fnManyOneSpec)) fnManyOneCard

/-- THE TIED CARD OF 'laws.FnExactManyRoot'. -/
def fnExactManyRootCard : Claim7 := { stood := { row := fnExactManyRootRow, standIns := [], harness := (true, "7206628ec74574b0c0bb64fa712ff483c28076f6afd27a915104751e8c1d6aad"), looks := false }, kinds := [], alts := [], laidByText := true, laidKinds := [.data, .data], laidTests := true, laidLooks := .later }
def FnExactManyRootCardSaid : Prop := Claim7.holds Tryd.pinned (.plain (OpenSpec.ofChange fnExactManyRootSpec)) fnExactManyRootCard

/-- THE TIED CARD OF 'laws.FnExactProveMany'. -/
def fnExactProveManyCard : Claim7 := { stood := { row := fnExactProveManyRow, standIns := [], harness := (true, "7206628ec74574b0c0bb64fa712ff483c28076f6afd27a915104751e8c1d6aad"), looks := false }, kinds := [], alts := [], laidByText := true, laidKinds := [.data, .data], laidTests := true, laidLooks := .later }
def FnExactProveManyCardSaid : Prop := Claim7.holds Tryd.pinned (.plain (OpenSpec.ofChange fnExactProveManySpec)) fnExactProveManyCard

/-- THE TIED CARD OF 'laws.FnExactManyText'. -/
def fnExactManyTextCard : Claim7 := { stood := { row := fnExactManyTextRow, standIns := [], harness := (true, "7206628ec74574b0c0bb64fa712ff483c28076f6afd27a915104751e8c1d6aad"), looks := false }, kinds := [], alts := [], laidByText := true, laidKinds := [.data, .data], laidTests := true, laidLooks := .later }
def FnExactManyTextCardSaid : Prop := Claim7.holds Tryd.pinned (.plain (OpenSpec.ofChange fnExactManyTextSpec)) fnExactManyTextCard

/-- THE SECOND FORM's CARD OF 'laws.FnEvidence'. -/
def fnEvidenceUptoCard : Claim7 := { stood := { row := fnEvidenceUptoRow, standIns := [], harness := (true, "7206628ec74574b0c0bb64fa712ff483c28076f6afd27a915104751e8c1d6aad"), looks := false }, kinds := [], alts := [], laidByText := true, laidKinds := [.data, .data], laidTests := true, laidLooks := .later }
def FnEvidenceUptoCardSaid : Prop := Claim7.holds Tryd.pinned (.plain (OpenSpec.upto fnEvidenceSpec)) fnEvidenceUptoCard

/-- THE SECOND FORM's CARD OF 'laws.FnExactManySays'. -/
def fnExactManySaysUptoCard : Claim7 := { stood := { row := fnExactManySaysUptoRow, standIns := [], harness := (true, "7206628ec74574b0c0bb64fa712ff483c28076f6afd27a915104751e8c1d6aad"), looks := false }, kinds := [], alts := [], laidByText := true, laidKinds := [.data, .data], laidTests := true, laidLooks := .later }
def FnExactManySaysUptoCardSaid : Prop := Claim7.holds Tryd.pinned (.plain (OpenSpec.upto fnExactManySaysSpec)) fnExactManySaysUptoCard

/-- THE SECOND FORM's CARD OF 'laws.FnManyOne'. -/
def fnManyOneUptoCard : Claim7 := { stood := { row := fnManyOneUptoRow, standIns := [], harness := (true, "7206628ec74574b0c0bb64fa712ff483c28076f6afd27a915104751e8c1d6aad"), looks := false }, kinds := [], alts := [], laidByText := true, laidKinds := [.data, .data], laidTests := true, laidLooks := .later }
def FnManyOneUptoCardSaid : Prop := Claim7.holds Tryd.pinned (.plain (OpenSpec.upto fnManyOneSpec)) fnManyOneUptoCard

/-- THE SECOND FORM's CARD OF 'laws.FnExactManyRoot'. -/
def fnExactManyRootUptoCard : Claim7 := { stood := { row := fnExactManyRootUptoRow, standIns := [], harness := (true, "7206628ec74574b0c0bb64fa712ff483c28076f6afd27a915104751e8c1d6aad"), looks := false }, kinds := [], alts := [], laidByText := true, laidKinds := [.data, .data], laidTests := true, laidLooks := .later }
def FnExactManyRootUptoCardSaid : Prop := Claim7.holds Tryd.pinned (.plain (OpenSpec.upto fnExactManyRootSpec)) fnExactManyRootUptoCard

/-- THE SECOND FORM's CARD OF 'laws.FnExactProveMany'. -/
def fnExactProveManyUptoCard : Claim7 := { stood := { row := fnExactProveManyUptoRow, standIns := [], harness := (true, "7206628ec74574b0c0bb64fa712ff483c28076f6afd27a915104751e8c1d6aad"), looks := false }, kinds := [], alts := [], laidByText := true, laidKinds := [.data, .data], laidTests := true, laidLooks := .later }
def FnExactProveManyUptoCardSaid : Prop := Claim7.holds Tryd.pinned (.plain (OpenSpec.upto fnExactProveManySpec)) fnExactProveManyUptoCard

/-- THE SECOND FORM's CARD OF 'laws.FnExactManyText'. -/
def fnExactManyTextUptoCard : Claim7 := { stood := { row := fnExactManyTextUptoRow, standIns := [], harness := (true, "7206628ec74574b0c0bb64fa712ff483c28076f6afd27a915104751e8c1d6aad"), looks := false }, kinds := [], alts := [], laidByText := true, laidKinds := [.data, .data], laidTests := true, laidLooks := .later }
def FnExactManyTextUptoCardSaid : Prop := Claim7.holds Tryd.pinned (.plain (OpenSpec.upto fnExactManyTextSpec)) fnExactManyTextUptoCard
end Rows
end Go.Proofs.YtojbehmbeoemgaaDoor
