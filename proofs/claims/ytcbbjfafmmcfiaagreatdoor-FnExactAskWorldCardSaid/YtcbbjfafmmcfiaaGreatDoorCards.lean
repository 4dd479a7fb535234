/-
  DERIVED. GIVEN WITH THE SEED: THE CARDS: each row of YtcbbjfafmmcfiaaGreatDoorRows.lean that lists a variable, with what it lists TIED to the program's text (the seventh form; the later family's looks); each row that meets fmt, with fmt's text TOLD by the authors' own Lean function (tested against real Go, not proved from fmt's source: count such statements apart). THE CARD IS WHAT COUNTS. Prove the row's statement (the work); the ties are given (YtcbbjfafmmcfiaaGreatDoorTie.lean); close each card by the builder's one call (the guide's Derived/Test/ToyasCard.lean, 'card_holds'). Laid BY PROGRAM, IN A SANDBOX (cutbox-door.mjs). By AI agents, Wed Nov 11 2026. No macro, syntax, notation, axiom, sorry.
-/
import Derived.Test.YtcbbjfafmmcfiaaGreatDoorRows
import GoSem.ClaimSeven
namespace Go.Proofs.YtcbbjfafmmcfiaaGreatDoor
namespace Rows

/-- THE TIED CARD OF 'laws.FnExactLookServer'. -/
def fnExactLookServerCard : Claim7 := { stood := { row := fnExactLookServerRow, standIns := [], harness := (true, "3c0416c5d432d859ed7de313f1fa1a5af09dec9b25d0853a23a2c7716f5e8068"), looks := false }, kinds := [], alts := [], laidByText := true, laidKinds := [.data, .data], laidTests := true, laidLooks := .later }
def FnExactLookServerCardSaid : Prop := Claim7.holds Tryz.pinned (.plain (OpenSpec.ofChange fnExactLookServerSpec)) fnExactLookServerCard

/-- THE TIED CARD OF 'laws.FnExactCheckPast'. -/
def fnExactCheckPastCard : Claim7 := { stood := { row := fnExactCheckPastRow, standIns := [], harness := (true, "3c0416c5d432d859ed7de313f1fa1a5af09dec9b25d0853a23a2c7716f5e8068"), looks := false }, kinds := [], alts := [], laidByText := true, laidKinds := [.data, .data], laidTests := true, laidLooks := .later }
def FnExactCheckPastCardSaid : Prop := Claim7.holds Tryz.pinned (.plain (OpenSpec.ofChange fnExactCheckPastSpec)) fnExactCheckPastCard

/-- THE TIED CARD OF 'laws.FnExactClientHear'. -/
def fnExactClientHearCard : Claim7 := { stood := { row := fnExactClientHearRow, standIns := [], harness := (true, "3c0416c5d432d859ed7de313f1fa1a5af09dec9b25d0853a23a2c7716f5e8068"), looks := false }, kinds := [], alts := [], laidByText := true, laidKinds := [.data, .data], laidTests := true, laidLooks := .later }
def FnExactClientHearCardSaid : Prop := Claim7.holds Tryz.pinned (.plain (OpenSpec.ofChange fnExactClientHearSpec)) fnExactClientHearCard

/-- THE TIED CARD OF 'laws.FnExactResolve'. -/
def fnExactResolveCard : Claim7 := { stood := { row := fnExactResolveRow, standIns := [], harness := (true, "3c0416c5d432d859ed7de313f1fa1a5af09dec9b25d0853a23a2c7716f5e8068"), looks := false }, kinds := [], alts := [], laidByText := true, laidKinds := [.data, .data], laidTests := true, laidLooks := .later }
def FnExactResolveCardSaid : Prop := Claim7.holds Tryz.pinned (.plain (OpenSpec.ofChange fnExactResolveSpec)) fnExactResolveCard

/-- THE TIED CARD OF 'laws.FnExactAskWorld'. -/
def fnExactAskWorldCard : Claim7 := { stood := { row := fnExactAskWorldRow, standIns := [], harness := (true, "3c0416c5d432d859ed7de313f1fa1a5af09dec9b25d0853a23a2c7716f5e8068"), looks := false }, kinds := [], alts := [], laidByText := true, laidKinds := [.data, .data], laidTests := true, laidLooks := .later }
def FnExactAskWorldCardSaid : Prop := Claim7.holds Tryz.pinned (.plain (OpenSpec.ofChange fnExactAskWorldSpec)) fnExactAskWorldCard

/-- THE TIED CARD OF 'laws.FnExactPastOf'. -/
def fnExactPastOfCard : Claim7 := { stood := { row := fnExactPastOfRow, standIns := [], harness := (true, "3c0416c5d432d859ed7de313f1fa1a5af09dec9b25d0853a23a2c7716f5e8068"), looks := false }, kinds := [], alts := [], laidByText := true, laidKinds := [.data, .data], laidTests := true, laidLooks := .later }
def FnExactPastOfCardSaid : Prop := Claim7.holds Tryz.pinned (.plain (OpenSpec.ofChange fnExactPastOfSpec)) fnExactPastOfCard

/-- THE SECOND FORM's CARD OF 'laws.FnExactLookServer'. -/
def fnExactLookServerUptoCard : Claim7 := { stood := { row := fnExactLookServerUptoRow, standIns := [], harness := (true, "3c0416c5d432d859ed7de313f1fa1a5af09dec9b25d0853a23a2c7716f5e8068"), looks := false }, kinds := [], alts := [], laidByText := true, laidKinds := [.data, .data], laidTests := true, laidLooks := .later }
def FnExactLookServerUptoCardSaid : Prop := Claim7.holds Tryz.pinned (.plain (OpenSpec.upto fnExactLookServerSpec)) fnExactLookServerUptoCard

/-- THE SECOND FORM's CARD OF 'laws.FnExactCheckPast'. -/
def fnExactCheckPastUptoCard : Claim7 := { stood := { row := fnExactCheckPastUptoRow, standIns := [], harness := (true, "3c0416c5d432d859ed7de313f1fa1a5af09dec9b25d0853a23a2c7716f5e8068"), looks := false }, kinds := [], alts := [], laidByText := true, laidKinds := [.data, .data], laidTests := true, laidLooks := .later }
def FnExactCheckPastUptoCardSaid : Prop := Claim7.holds Tryz.pinned (.plain (OpenSpec.upto fnExactCheckPastSpec)) fnExactCheckPastUptoCard

/-- THE SECOND FORM's CARD OF 'laws.FnExactClientHear'. -/
def fnExactClientHearUptoCard : Claim7 := { stood := { row := fnExactClientHearUptoRow, standIns := [], harness := (true, "3c0416c5d432d859ed7de313f1fa1a5af09dec9b25d0853a23a2c7716f5e8068"), looks := false }, kinds := [], alts := [], laidByText := true, laidKinds := [.data, .data], laidTests := true, laidLooks := .later }
def FnExactClientHearUptoCardSaid : Prop := Claim7.holds Tryz.pinned (.plain (OpenSpec.upto fnExactClientHearSpec)) fnExactClientHearUptoCard

/-- THE SECOND FORM's CARD OF 'laws.FnExactResolve'. -/
def fnExactResolveUptoCard : Claim7 := { stood := { row := fnExactResolveUptoRow, standIns := [], harness := (true, "3c0416c5d432d859ed7de313f1fa1a5af09dec9b25d0853a23a2c7716f5e8068"), looks := false }, kinds := [], alts := [], laidByText := true, laidKinds := [.data, .data], laidTests := true, laidLooks := .later }
def FnExactResolveUptoCardSaid : Prop := Claim7.holds Tryz.pinned (.plain (OpenSpec.upto fnExactResolveSpec)) fnExactResolveUptoCard

/-- THE SECOND FORM's CARD OF 'laws.FnExactAskWorld'. -/
def fnExactAskWorldUptoCard : Claim7 := { stood := { row := fnExactAskWorldUptoRow, standIns := [], harness := (true, "3c0416c5d432d859ed7de313f1fa1a5af09dec9b25d0853a23a2c7716f5e8068"), looks := false }, kinds := [], alts := [], laidByText := true, laidKinds := [.data, .data], laidTests := true, laidLooks := .later }
def FnExactAskWorldUptoCardSaid : Prop := Claim7.holds Tryz.pinned (.plain (OpenSpec.upto fnExactAskWorldSpec)) fnExactAskWorldUptoCard

/-- THE SECOND FORM's CARD OF 'laws.FnExactPastOf'. -/
def fnExactPastOfUptoCard : Claim7 := { stood := { row := fnExactPastOfUptoRow, standIns := [], harness := (true, "3c0416c5d432d859ed7de313f1fa1a5af09dec9b25d0853a23a2c7716f5e8068"), looks := false }, kinds := [], alts := [], laidByText := true, laidKinds := [.data, .data], laidTests := true, laidLooks := .later }
def FnExactPastOfUptoCardSaid : Prop := Claim7.holds Tryz.pinned (.plain (OpenSpec.upto fnExactPastOfSpec)) fnExactPastOfUptoCard
end Rows
end Go.Proofs.YtcbbjfafmmcfiaaGreatDoor
