/-
  DERIVED. GIVEN WITH THE SEED: THE CARDS: each row of YtbnfkpbaaoknmaaDoorRows.lean that lists a variable, with what it lists TIED to the program's text (the seventh form; the later family's looks); each row that meets fmt, with fmt's text TOLD by the authors' own Lean function (tested against real Go, not proved from fmt's source: count such statements apart). THE CARD IS WHAT COUNTS. Prove the row's statement (the work); the ties are given (YtbnfkpbaaoknmaaDoorTie.lean); close each card by the builder's one call (the guide's Derived/Test/ToyasCard.lean, 'card_holds'). Laid BY PROGRAM, IN A SANDBOX (cutbox-door.mjs). By AI agents, Wed Nov 11 2026. No macro, syntax, notation, axiom, sorry.
-/
import Derived.Test.YtbnfkpbaaoknmaaDoorRows
import GoSem.ClaimSeven
namespace Go.Proofs.YtbnfkpbaaoknmaaDoor
namespace Rows

/-- THE TIED CARD OF 'laws.FnExactSeedOf'. -/
def fnExactSeedOfCard : Claim7 := { stood := { row := fnExactSeedOfRow, standIns := [], harness := (true, "8b9099c351f541d6766050b4ff2b72bdfc34c676afdf48c6d892ce6f7baee54e"), looks := false }, kinds := [], alts := [], laidByText := true, laidKinds := [.data, .data, .data], laidTests := true, laidLooks := .later }
def FnExactSeedOfCardSaid : Prop := Claim7.holds Tryd.pinned (.plain (OpenSpec.ofChange fnExactSeedOfSpec)) fnExactSeedOfCard

/-- THE TIED CARD OF 'laws.FnBlocks'. -/
def fnBlocksCard : Claim7 := { stood := { row := fnBlocksRow, standIns := [], harness := (true, "8b9099c351f541d6766050b4ff2b72bdfc34c676afdf48c6d892ce6f7baee54e"), looks := false }, kinds := [], alts := [], laidByText := true, laidKinds := [.data, .data], laidTests := true, laidLooks := .later }
def FnBlocksCardSaid : Prop := Claim7.holds Tryd.pinned (.plain (OpenSpec.ofChange fnBlocksSpec)) fnBlocksCard

/-- THE TIED CARD OF 'laws.FnExactClientOk'. -/
def fnExactClientOkCard : Claim7 := { stood := { row := fnExactClientOkRow, standIns := [], harness := (true, "8b9099c351f541d6766050b4ff2b72bdfc34c676afdf48c6d892ce6f7baee54e"), looks := false }, kinds := [], alts := [], laidByText := true, laidKinds := [.data, .data], laidTests := true, laidLooks := .later }
def FnExactClientOkCardSaid : Prop := Claim7.holds Tryd.pinned (.plain (OpenSpec.ofChange fnExactClientOkSpec)) fnExactClientOkCard

/-- THE TIED CARD OF 'laws.FnExactIndexesOf'. -/
def fnExactIndexesOfCard : Claim7 := { stood := { row := fnExactIndexesOfRow, standIns := [], harness := (true, "8b9099c351f541d6766050b4ff2b72bdfc34c676afdf48c6d892ce6f7baee54e"), looks := false }, kinds := [], alts := [], laidByText := true, laidKinds := [.data, .data], laidTests := true, laidLooks := .later }
def FnExactIndexesOfCardSaid : Prop := Claim7.holds Tryd.pinned (.plain (OpenSpec.ofChange fnExactIndexesOfSpec)) fnExactIndexesOfCard

/-- THE SECOND FORM's CARD OF 'laws.FnExactSeedOf'. -/
def fnExactSeedOfUptoCard : Claim7 := { stood := { row := fnExactSeedOfUptoRow, standIns := [], harness := (true, "8b9099c351f541d6766050b4ff2b72bdfc34c676afdf48c6d892ce6f7baee54e"), looks := false }, kinds := [], alts := [], laidByText := true, laidKinds := [.data, .data, .data], laidTests := true, laidLooks := .later }
def FnExactSeedOfUptoCardSaid : Prop := Claim7.holds Tryd.pinned (.plain (OpenSpec.upto fnExactSeedOfSpec)) fnExactSeedOfUptoCard

/-- THE SECOND FORM's CARD OF 'laws.FnBlocks'. -/
def fnBlocksUptoCard : Claim7 := { stood := { row := fnBlocksUptoRow, standIns := [], harness := (true, "8b9099c351f541d6766050b4ff2b72bdfc34c676afdf48c6d892ce6f7baee54e"), looks := false }, kinds := [], alts := [], laidByText := true, laidKinds := [.data, .data], laidTests := true, laidLooks := .later }
def FnBlocksUptoCardSaid : Prop := Claim7.holds Tryd.pinned (.plain (OpenSpec.upto fnBlocksSpec)) fnBlocksUptoCard

/-- THE SECOND FORM's CARD OF 'laws.FnExactClientOk'. -/
def fnExactClientOkUptoCard : Claim7 := { stood := { row := fnExactClientOkUptoRow, standIns := [], harness := (true, "8b9099c351f541d6766050b4ff2b72bdfc34c676afdf48c6d892ce6f7baee54e"), looks := false }, kinds := [], alts := [], laidByText := true, laidKinds := [.data, .data], laidTests := true, laidLooks := .later }
def FnExactClientOkUptoCardSaid : Prop := Claim7.holds Tryd.pinned (.plain (OpenSpec.upto fnExactClientOkSpec)) fnExactClientOkUptoCard

/-- THE SECOND FORM's CARD OF 'laws.FnExactIndexesOf'. -/
def fnExactIndexesOfUptoCard : Claim7 := { stood := { row := fnExactIndexesOfUptoRow, standIns := [], harness := (true, "8b9099c351f541d6766050b4ff2b72bdfc34c676afdf48c6d892ce6f7baee54e"), looks := false }, kinds := [], alts := [], laidByText := true, laidKinds := [.data, .data], laidTests := true, laidLooks := .later }
def FnExactIndexesOfUptoCardSaid : Prop := Claim7.holds Tryd.pinned (.plain (OpenSpec.upto fnExactIndexesOfSpec)) fnExactIndexesOfUptoCard
end Rows
end Go.Proofs.YtbnfkpbaaoknmaaDoor
