/-
  DERIVED. GIVEN WITH THE SEED: THE CARDS: each row of YtgllafgpmenjjaaGreatDoorRows.lean that lists a variable, with what it lists TIED to the program's text (the seventh form; the later family's looks); each row that meets fmt, with fmt's text TOLD by the authors' own Lean function (tested against real Go, not proved from fmt's source: count such statements apart). THE CARD IS WHAT COUNTS. Prove the row's statement (the work); the ties are given (YtgllafgpmenjjaaGreatDoorTie.lean); close each card by the builder's one call (the guide's Derived/Test/ToyasCard.lean, 'card_holds'). Laid BY PROGRAM, IN A SANDBOX (cutbox-door.mjs). By AI agents, Wed Nov 11 2026. No macro, syntax, notation, axiom, sorry.
-/
import Derived.Test.YtgllafgpmenjjaaGreatDoorRows
import GoSem.ClaimSeven
namespace Go.Proofs.YtgllafgpmenjjaaGreatDoor
namespace Rows

/-- THE TIED CARD OF 'laws.FnExactClientHear'. -/
def fnExactClientHearCard : Claim7 := { stood := { row := fnExactClientHearRow, standIns := [], harness := (true, "b5b4ca3470716f72b964ef3d55d774aade4160eb6cd3be85fca5a1eb3a577193"), looks := false }, kinds := [], alts := [], laidByText := true, laidKinds := [.data, .data], laidTests := true, laidLooks := .later }
def FnExactClientHearCardSaid : Prop := Claim7.holds Tryz.pinned (.plain (OpenSpec.ofChange fnExactClientHearSpec)) fnExactClientHearCard

/-- THE TIED CARD OF 'laws.FnRemembers'. -/
def fnRemembersCard : Claim7 := { stood := { row := fnRemembersRow, standIns := [], harness := (true, "b5b4ca3470716f72b964ef3d55d774aade4160eb6cd3be85fca5a1eb3a577193"), looks := false }, kinds := [], alts := [], laidByText := true, laidKinds := [.data, .data], laidTests := true, laidLooks := .later }
def FnRemembersCardSaid : Prop := Claim7.holds Tryz.pinned (.plain (OpenSpec.ofChange fnRemembersSpec)) fnRemembersCard

/-- THE TIED CARD OF 'laws.FnPasts'. -/
def fnPastsCard : Claim7 := { stood := { row := fnPastsRow, standIns := [], harness := (true, "b5b4ca3470716f72b964ef3d55d774aade4160eb6cd3be85fca5a1eb3a577193"), looks := false }, kinds := [], alts := [], laidByText := true, laidKinds := [.data, .data], laidTests := true, laidLooks := .later }
def FnPastsCardSaid : Prop := Claim7.holds Tryz.pinned (.plain (OpenSpec.ofChange fnPastsSpec)) fnPastsCard

/-- THE SECOND FORM's CARD OF 'laws.FnExactClientHear'. -/
def fnExactClientHearUptoCard : Claim7 := { stood := { row := fnExactClientHearUptoRow, standIns := [], harness := (true, "b5b4ca3470716f72b964ef3d55d774aade4160eb6cd3be85fca5a1eb3a577193"), looks := false }, kinds := [], alts := [], laidByText := true, laidKinds := [.data, .data], laidTests := true, laidLooks := .later }
def FnExactClientHearUptoCardSaid : Prop := Claim7.holds Tryz.pinned (.plain (OpenSpec.upto fnExactClientHearSpec)) fnExactClientHearUptoCard

/-- THE SECOND FORM's CARD OF 'laws.FnRemembers'. -/
def fnRemembersUptoCard : Claim7 := { stood := { row := fnRemembersUptoRow, standIns := [], harness := (true, "b5b4ca3470716f72b964ef3d55d774aade4160eb6cd3be85fca5a1eb3a577193"), looks := false }, kinds := [], alts := [], laidByText := true, laidKinds := [.data, .data], laidTests := true, laidLooks := .later }
def FnRemembersUptoCardSaid : Prop := Claim7.holds Tryz.pinned (.plain (OpenSpec.upto fnRemembersSpec)) fnRemembersUptoCard

/-- THE SECOND FORM's CARD OF 'laws.FnPasts'. -/
def fnPastsUptoCard : Claim7 := { stood := { row := fnPastsUptoRow, standIns := [], harness := (true, "b5b4ca3470716f72b964ef3d55d774aade4160eb6cd3be85fca5a1eb3a577193"), looks := false }, kinds := [], alts := [], laidByText := true, laidKinds := [.data, .data], laidTests := true, laidLooks := .later }
def FnPastsUptoCardSaid : Prop := Claim7.holds Tryz.pinned (.plain (OpenSpec.upto fnPastsSpec)) fnPastsUptoCard
end Rows
end Go.Proofs.YtgllafgpmenjjaaGreatDoor
