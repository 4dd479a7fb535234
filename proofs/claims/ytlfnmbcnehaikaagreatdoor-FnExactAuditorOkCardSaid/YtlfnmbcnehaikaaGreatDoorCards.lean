/-
  DERIVED. GIVEN WITH THE SEED: THE CARDS: each row of YtlfnmbcnehaikaaGreatDoorRows.lean that lists a variable, with what it lists TIED to the program's text (the seventh form; the later family's looks); each row that meets fmt, with fmt's text TOLD by the authors' own Lean function (tested against real Go, not proved from fmt's source: count such statements apart). THE CARD IS WHAT COUNTS. Prove the row's statement (the work); the ties are given (YtlfnmbcnehaikaaGreatDoorTie.lean); close each card by the builder's one call (the guide's Derived/Test/ToyasCard.lean, 'card_holds'). Laid BY PROGRAM, IN A SANDBOX (cutbox-door.mjs). By AI agents, Wed Nov 11 2026. No macro, syntax, notation, axiom, sorry.
-/
import Derived.Test.YtlfnmbcnehaikaaGreatDoorRows
import GoSem.ClaimSeven
namespace Go.Proofs.YtlfnmbcnehaikaaGreatDoor
namespace Rows

/-- THE TIED CARD OF 'laws.FnExactAuditorNew'. -/
def fnExactAuditorNewCard : Claim7 := { stood := { row := fnExactAuditorNewRow, standIns := [], harness := (true, "1ce028fcb75d8d9591218738ff30d0428da6a6bc79ea365909989a7c63a14d50"), looks := false }, kinds := [], alts := [], laidByText := true, laidKinds := [.data, .data, .data, .data, .data], laidTests := true, laidLooks := .later }
def FnExactAuditorNewCardSaid : Prop := Claim7.holds Tryz.pinned (.plain (OpenSpec.ofChange fnExactAuditorNewSpec)) fnExactAuditorNewCard

/-- THE TIED CARD OF 'laws.FnExactAuditorOk'. -/
def fnExactAuditorOkCard : Claim7 := { stood := { row := fnExactAuditorOkRow, standIns := [], harness := (true, "1ce028fcb75d8d9591218738ff30d0428da6a6bc79ea365909989a7c63a14d50"), looks := false }, kinds := [], alts := [], laidByText := true, laidKinds := [.data, .data, .data, .data, .data], laidTests := true, laidLooks := .later }
def FnExactAuditorOkCardSaid : Prop := Claim7.holds Tryz.pinned (.plain (OpenSpec.ofChange fnExactAuditorOkSpec)) fnExactAuditorOkCard

/-- THE TIED CARD OF 'laws.FnExactRiseAuditor'. -/
def fnExactRiseAuditorCard : Claim7 := { stood := { row := fnExactRiseAuditorRow, standIns := [], harness := (true, "1ce028fcb75d8d9591218738ff30d0428da6a6bc79ea365909989a7c63a14d50"), looks := false }, kinds := [], alts := [], laidByText := true, laidKinds := [.data, .data, .data, .data, .data], laidTests := true, laidLooks := .later }
def FnExactRiseAuditorCardSaid : Prop := Claim7.holds Tryz.pinned (.plain (OpenSpec.ofChange fnExactRiseAuditorSpec)) fnExactRiseAuditorCard

/-- THE TIED CARD OF 'laws.FnExactHearPins'. -/
def fnExactHearPinsCard : Claim7 := { stood := { row := fnExactHearPinsRow, standIns := [], harness := (true, "1ce028fcb75d8d9591218738ff30d0428da6a6bc79ea365909989a7c63a14d50"), looks := false }, kinds := [], alts := [], laidByText := true, laidKinds := [.data, .data, .data, .data, .data], laidTests := true, laidLooks := .later }
def FnExactHearPinsCardSaid : Prop := Claim7.holds Tryz.pinned (.plain (OpenSpec.ofChange fnExactHearPinsSpec)) fnExactHearPinsCard

/-- THE SECOND FORM's CARD OF 'laws.FnExactAuditorNew'. -/
def fnExactAuditorNewUptoCard : Claim7 := { stood := { row := fnExactAuditorNewUptoRow, standIns := [], harness := (true, "1ce028fcb75d8d9591218738ff30d0428da6a6bc79ea365909989a7c63a14d50"), looks := false }, kinds := [], alts := [], laidByText := true, laidKinds := [.data, .data, .data, .data, .data], laidTests := true, laidLooks := .later }
def FnExactAuditorNewUptoCardSaid : Prop := Claim7.holds Tryz.pinned (.plain (OpenSpec.upto fnExactAuditorNewSpec)) fnExactAuditorNewUptoCard

/-- THE SECOND FORM's CARD OF 'laws.FnExactAuditorOk'. -/
def fnExactAuditorOkUptoCard : Claim7 := { stood := { row := fnExactAuditorOkUptoRow, standIns := [], harness := (true, "1ce028fcb75d8d9591218738ff30d0428da6a6bc79ea365909989a7c63a14d50"), looks := false }, kinds := [], alts := [], laidByText := true, laidKinds := [.data, .data, .data, .data, .data], laidTests := true, laidLooks := .later }
def FnExactAuditorOkUptoCardSaid : Prop := Claim7.holds Tryz.pinned (.plain (OpenSpec.upto fnExactAuditorOkSpec)) fnExactAuditorOkUptoCard

/-- THE SECOND FORM's CARD OF 'laws.FnExactRiseAuditor'. -/
def fnExactRiseAuditorUptoCard : Claim7 := { stood := { row := fnExactRiseAuditorUptoRow, standIns := [], harness := (true, "1ce028fcb75d8d9591218738ff30d0428da6a6bc79ea365909989a7c63a14d50"), looks := false }, kinds := [], alts := [], laidByText := true, laidKinds := [.data, .data, .data, .data, .data], laidTests := true, laidLooks := .later }
def FnExactRiseAuditorUptoCardSaid : Prop := Claim7.holds Tryz.pinned (.plain (OpenSpec.upto fnExactRiseAuditorSpec)) fnExactRiseAuditorUptoCard

/-- THE SECOND FORM's CARD OF 'laws.FnExactHearPins'. -/
def fnExactHearPinsUptoCard : Claim7 := { stood := { row := fnExactHearPinsUptoRow, standIns := [], harness := (true, "1ce028fcb75d8d9591218738ff30d0428da6a6bc79ea365909989a7c63a14d50"), looks := false }, kinds := [], alts := [], laidByText := true, laidKinds := [.data, .data, .data, .data, .data], laidTests := true, laidLooks := .later }
def FnExactHearPinsUptoCardSaid : Prop := Claim7.holds Tryz.pinned (.plain (OpenSpec.upto fnExactHearPinsSpec)) fnExactHearPinsUptoCard
end Rows
end Go.Proofs.YtlfnmbcnehaikaaGreatDoor
