/-
  DERIVED. GIVEN WITH THE SEED: THE CARDS: each row of YthgonaodmpegfaaGreatDoorRows.lean that lists a variable, with what it lists TIED to the program's text (the seventh form; the later family's looks); each row that meets fmt, with fmt's text TOLD by the authors' own Lean function (tested against real Go, not proved from fmt's source: count such statements apart). THE CARD IS WHAT COUNTS. Prove the row's statement (the work); the ties are given (YthgonaodmpegfaaGreatDoorTie.lean); close each card by the builder's one call (the guide's Derived/Test/ToyasCard.lean, 'card_holds'). Laid BY PROGRAM, IN A SANDBOX (cutbox-door.mjs). By AI agents, Wed Nov 11 2026. No macro, syntax, notation, axiom, sorry.
-/
import Derived.Test.YthgonaodmpegfaaGreatDoorRows
import GoSem.ClaimSeven
namespace Go.Proofs.YthgonaodmpegfaaGreatDoor
namespace Rows

/-- THE TIED CARD OF 'laws.FnExactChainRight'. -/
def fnExactChainRightCard : Claim7 := { stood := { row := fnExactChainRightRow, standIns := [], harness := (true, "df8f99cd378833dc7e7bd45f83c3ece5e9365751ae53c8bbeb74b8e3d7d59b3d"), looks := false }, kinds := [], alts := [], laidByText := true, laidKinds := [.data, .data], laidTests := true, laidLooks := .later }
def FnExactChainRightCardSaid : Prop := Claim7.holds Tryz.pinned (.plain (OpenSpec.ofChange fnExactChainRightSpec)) fnExactChainRightCard

/-- THE TIED CARD OF 'laws.FnExactCheckPast'. -/
def fnExactCheckPastCard : Claim7 := { stood := { row := fnExactCheckPastRow, standIns := [], harness := (true, "df8f99cd378833dc7e7bd45f83c3ece5e9365751ae53c8bbeb74b8e3d7d59b3d"), looks := false }, kinds := [], alts := [], laidByText := true, laidKinds := [.data, .data], laidTests := true, laidLooks := .later }
def FnExactCheckPastCardSaid : Prop := Claim7.holds Tryz.pinned (.plain (OpenSpec.ofChange fnExactCheckPastSpec)) fnExactCheckPastCard

/-- THE TIED CARD OF 'laws.FnExactTrustOf'. -/
def fnExactTrustOfCard : Claim7 := { stood := { row := fnExactTrustOfRow, standIns := [], harness := (true, "df8f99cd378833dc7e7bd45f83c3ece5e9365751ae53c8bbeb74b8e3d7d59b3d"), looks := false }, kinds := [], alts := [], laidByText := true, laidKinds := [.data, .data], laidTests := true, laidLooks := .later }
def FnExactTrustOfCardSaid : Prop := Claim7.holds Tryz.pinned (.plain (OpenSpec.ofChange fnExactTrustOfSpec)) fnExactTrustOfCard

/-- THE TIED CARD OF 'laws.FnExactRootsOf'. -/
def fnExactRootsOfCard : Claim7 := { stood := { row := fnExactRootsOfRow, standIns := [], harness := (true, "df8f99cd378833dc7e7bd45f83c3ece5e9365751ae53c8bbeb74b8e3d7d59b3d"), looks := false }, kinds := [], alts := [], laidByText := true, laidKinds := [.data, .data], laidTests := true, laidLooks := .later }
def FnExactRootsOfCardSaid : Prop := Claim7.holds Tryz.pinned (.plain (OpenSpec.ofChange fnExactRootsOfSpec)) fnExactRootsOfCard

/-- THE SECOND FORM's CARD OF 'laws.FnExactChainRight'. -/
def fnExactChainRightUptoCard : Claim7 := { stood := { row := fnExactChainRightUptoRow, standIns := [], harness := (true, "df8f99cd378833dc7e7bd45f83c3ece5e9365751ae53c8bbeb74b8e3d7d59b3d"), looks := false }, kinds := [], alts := [], laidByText := true, laidKinds := [.data, .data], laidTests := true, laidLooks := .later }
def FnExactChainRightUptoCardSaid : Prop := Claim7.holds Tryz.pinned (.plain (OpenSpec.upto fnExactChainRightSpec)) fnExactChainRightUptoCard

/-- THE SECOND FORM's CARD OF 'laws.FnExactCheckPast'. -/
def fnExactCheckPastUptoCard : Claim7 := { stood := { row := fnExactCheckPastUptoRow, standIns := [], harness := (true, "df8f99cd378833dc7e7bd45f83c3ece5e9365751ae53c8bbeb74b8e3d7d59b3d"), looks := false }, kinds := [], alts := [], laidByText := true, laidKinds := [.data, .data], laidTests := true, laidLooks := .later }
def FnExactCheckPastUptoCardSaid : Prop := Claim7.holds Tryz.pinned (.plain (OpenSpec.upto fnExactCheckPastSpec)) fnExactCheckPastUptoCard

/-- THE SECOND FORM's CARD OF 'laws.FnExactTrustOf'. -/
def fnExactTrustOfUptoCard : Claim7 := { stood := { row := fnExactTrustOfUptoRow, standIns := [], harness := (true, "df8f99cd378833dc7e7bd45f83c3ece5e9365751ae53c8bbeb74b8e3d7d59b3d"), looks := false }, kinds := [], alts := [], laidByText := true, laidKinds := [.data, .data], laidTests := true, laidLooks := .later }
def FnExactTrustOfUptoCardSaid : Prop := Claim7.holds Tryz.pinned (.plain (OpenSpec.upto fnExactTrustOfSpec)) fnExactTrustOfUptoCard

/-- THE SECOND FORM's CARD OF 'laws.FnExactRootsOf'. -/
def fnExactRootsOfUptoCard : Claim7 := { stood := { row := fnExactRootsOfUptoRow, standIns := [], harness := (true, "df8f99cd378833dc7e7bd45f83c3ece5e9365751ae53c8bbeb74b8e3d7d59b3d"), looks := false }, kinds := [], alts := [], laidByText := true, laidKinds := [.data, .data], laidTests := true, laidLooks := .later }
def FnExactRootsOfUptoCardSaid : Prop := Claim7.holds Tryz.pinned (.plain (OpenSpec.upto fnExactRootsOfSpec)) fnExactRootsOfUptoCard
end Rows
end Go.Proofs.YthgonaodmpegfaaGreatDoor
