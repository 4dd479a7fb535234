/-
  No cell of these rows narrows 'for every input' (looked for: loops, veiled, ifaces, maps, wideKeys, modest, calm, conditions, laid).
  DERIVED. THE GIVEN ROWS OF THIS SEAT. 8 by the template 'for every input the law returns true; each argument reads behind the call as it read before'; 0 by the template 'total and deterministic' (their statements: YtbnfkpbaaoknmaaTotals.lean).
  GIVEN WITH THE SEED: the statements are not yours to turn. If you find one false, say at which input.
  Laid BY PROGRAM, IN A SANDBOX (cutbox-rows.mjs): the forced cells as the released guide's own fill.sh prints them over the translation 52e8a06652e084bc… (all of the seat's roots in one cut). By AI agents, Wed Nov 11 2026. No macro, syntax, notation, axiom, sorry.
-/
import Derived.Test.YtbnfkpbaaoknmaaChecked
import GoSem.Claim
import GoSem.ClaimJoined
import GoSem.ClaimMapViews
import Derived.JoinedTies
import Derived.KernelRfl
namespace Go.Proofs.Ytbnfkpbaaoknmaa
/- THE CELL 'sum', in the pinned program and in every row, IS THE sha256 OF THE DUMP (.gsa) THAT YtbnfkpbaaoknmaaProg.lean LOADS. Nothing in Lean hashes anything: it is a label: what it is worth is what the hold of that sum in a sandbox is worth. -/
noncomputable def Try.pinned : Pinned := { name := "ytbnfkpbaaoknmaa", sum := "52e8a06652e084bc07cec8167f46738f1c4b1096626543575f289e4416565353", checked := Try.checked }
namespace Rows
def none {H : Type} : Left H := { results := [], args := [] }

/-- 'laws.FnExactApplyChange': WHATEVER THE INPUT: true; the input reads as it did. -/
def fnExactApplyChangeSpec : ChangeSpec := { name := "fnExactApplyChange", fn := fun _ => fun
  | [d1, d2] => { results := [.lit (.bool true)], args := [d1, d2] }
  | _ => none }
def fnExactApplyChangeRow : OpenClaim := { program := "ytbnfkpbaaoknmaa", sum := "52e8a06652e084bc07cec8167f46738f1c4b1096626543575f289e4416565353", func := "loop.example/g00284/laws.FnExactApplyChange", spec := "fnExactApplyChange", apart := false }
def FnExactApplyChangeSaid : Prop := fnExactApplyChangeRow.holds Try.pinned (OpenSpec.ofChange fnExactApplyChangeSpec)

/-- ITS FALSE NEIGHBOUR: 'it returns false'. Refute it at one input. -/
def fnExactApplyChangeWrong : ChangeSpec := { name := "fnExactApplyChange", fn := fun _ => fun
  | [d1, d2] => { results := [.lit (.bool false)], args := [d1, d2] }
  | _ => none }
def FnExactApplyChangeWrongFalsely : Prop := fnExactApplyChangeRow.holds Try.pinned (OpenSpec.ofChange fnExactApplyChangeWrong)

/-- 'laws.FnExactApplyAll': WHATEVER THE INPUT: true; the input reads as it did. -/
def fnExactApplyAllSpec : ChangeSpec := { name := "fnExactApplyAll", fn := fun _ => fun
  | [d1, d2] => { results := [.lit (.bool true)], args := [d1, d2] }
  | _ => none }
def fnExactApplyAllRow : OpenClaim := { program := "ytbnfkpbaaoknmaa", sum := "52e8a06652e084bc07cec8167f46738f1c4b1096626543575f289e4416565353", func := "loop.example/g00284/laws.FnExactApplyAll", spec := "fnExactApplyAll", apart := false }
def FnExactApplyAllSaid : Prop := fnExactApplyAllRow.holds Try.pinned (OpenSpec.ofChange fnExactApplyAllSpec)

/-- ITS FALSE NEIGHBOUR: 'it returns false'. Refute it at one input. -/
def fnExactApplyAllWrong : ChangeSpec := { name := "fnExactApplyAll", fn := fun _ => fun
  | [d1, d2] => { results := [.lit (.bool false)], args := [d1, d2] }
  | _ => none }
def FnExactApplyAllWrongFalsely : Prop := fnExactApplyAllRow.holds Try.pinned (OpenSpec.ofChange fnExactApplyAllWrong)

/-- 'laws.FnExactAgree': WHATEVER THE INPUT: true; the input reads as it did. -/
def fnExactAgreeSpec : ChangeSpec := { name := "fnExactAgree", fn := fun _ => fun
  | [d1, d2] => { results := [.lit (.bool true)], args := [d1, d2] }
  | _ => none }
def fnExactAgreeRow : OpenClaim := { program := "ytbnfkpbaaoknmaa", sum := "52e8a06652e084bc07cec8167f46738f1c4b1096626543575f289e4416565353", func := "loop.example/g00284/laws.FnExactAgree", spec := "fnExactAgree", apart := false }
def FnExactAgreeSaid : Prop := fnExactAgreeRow.holds Try.pinned (OpenSpec.ofChange fnExactAgreeSpec)

/-- ITS FALSE NEIGHBOUR: 'it returns false'. Refute it at one input. -/
def fnExactAgreeWrong : ChangeSpec := { name := "fnExactAgree", fn := fun _ => fun
  | [d1, d2] => { results := [.lit (.bool false)], args := [d1, d2] }
  | _ => none }
def FnExactAgreeWrongFalsely : Prop := fnExactAgreeRow.holds Try.pinned (OpenSpec.ofChange fnExactAgreeWrong)

/-- 'laws.FnExactWaitsOf': WHATEVER THE INPUT: true; the input reads as it did. -/
def fnExactWaitsOfSpec : ChangeSpec := { name := "fnExactWaitsOf", fn := fun _ => fun
  | [d] => { results := [.lit (.bool true)], args := [d] }
  | _ => none }
def fnExactWaitsOfRow : OpenClaim := { program := "ytbnfkpbaaoknmaa", sum := "52e8a06652e084bc07cec8167f46738f1c4b1096626543575f289e4416565353", func := "loop.example/g00284/laws.FnExactWaitsOf", spec := "fnExactWaitsOf", apart := false }
def FnExactWaitsOfSaid : Prop := fnExactWaitsOfRow.holds Try.pinned (OpenSpec.ofChange fnExactWaitsOfSpec)

/-- ITS FALSE NEIGHBOUR: 'it returns false'. Refute it at one input. -/
def fnExactWaitsOfWrong : ChangeSpec := { name := "fnExactWaitsOf", fn := fun _ => fun
  | [d] => { results := [.lit (.bool false)], args := [d] }
  | _ => none }
def FnExactWaitsOfWrongFalsely : Prop := fnExactWaitsOfRow.holds Try.pinned (OpenSpec.ofChange fnExactWaitsOfWrong)

/-- 'laws.FnExactPinsOf': WHATEVER THE INPUT: true; the input reads as it did. -/
def fnExactPinsOfSpec : ChangeSpec := { name := "fnExactPinsOf", fn := fun _ => fun
  | [d1, d2] => { results := [.lit (.bool true)], args := [d1, d2] }
  | _ => none }
def fnExactPinsOfRow : OpenClaim := { program := "ytbnfkpbaaoknmaa", sum := "52e8a06652e084bc07cec8167f46738f1c4b1096626543575f289e4416565353", func := "loop.example/g00284/laws.FnExactPinsOf", spec := "fnExactPinsOf", apart := false }
def FnExactPinsOfSaid : Prop := fnExactPinsOfRow.holds Try.pinned (OpenSpec.ofChange fnExactPinsOfSpec)

/-- ITS FALSE NEIGHBOUR: 'it returns false'. Refute it at one input. -/
def fnExactPinsOfWrong : ChangeSpec := { name := "fnExactPinsOf", fn := fun _ => fun
  | [d1, d2] => { results := [.lit (.bool false)], args := [d1, d2] }
  | _ => none }
def FnExactPinsOfWrongFalsely : Prop := fnExactPinsOfRow.holds Try.pinned (OpenSpec.ofChange fnExactPinsOfWrong)

/-- 'laws.FnExactSplitsOf': WHATEVER THE INPUT: true; the input reads as it did. -/
def fnExactSplitsOfSpec : ChangeSpec := { name := "fnExactSplitsOf", fn := fun _ => fun
  | [d1, d2] => { results := [.lit (.bool true)], args := [d1, d2] }
  | _ => none }
def fnExactSplitsOfRow : OpenClaim := { program := "ytbnfkpbaaoknmaa", sum := "52e8a06652e084bc07cec8167f46738f1c4b1096626543575f289e4416565353", func := "loop.example/g00284/laws.FnExactSplitsOf", spec := "fnExactSplitsOf", apart := false }
def FnExactSplitsOfSaid : Prop := fnExactSplitsOfRow.holds Try.pinned (OpenSpec.ofChange fnExactSplitsOfSpec)

/-- ITS FALSE NEIGHBOUR: 'it returns false'. Refute it at one input. -/
def fnExactSplitsOfWrong : ChangeSpec := { name := "fnExactSplitsOf", fn := fun _ => fun
  | [d1, d2] => { results := [.lit (.bool false)], args := [d1, d2] }
  | _ => none }
def FnExactSplitsOfWrongFalsely : Prop := fnExactSplitsOfRow.holds Try.pinned (OpenSpec.ofChange fnExactSplitsOfWrong)

/-- 'laws.FnExactTickCoord': WHATEVER THE INPUT: true; the input reads as it did. -/
def fnExactTickCoordSpec : ChangeSpec := { name := "fnExactTickCoord", fn := fun _ => fun
  | [d] => { results := [.lit (.bool true)], args := [d] }
  | _ => none }
def fnExactTickCoordRow : OpenClaim := { program := "ytbnfkpbaaoknmaa", sum := "52e8a06652e084bc07cec8167f46738f1c4b1096626543575f289e4416565353", func := "loop.example/g00284/laws.FnExactTickCoord", spec := "fnExactTickCoord", unfollowed := true, recurses := true, apart := false }
def FnExactTickCoordSaid : Prop := fnExactTickCoordRow.holds Try.pinned (OpenSpec.ofChange fnExactTickCoordSpec)

/-- ITS FALSE NEIGHBOUR: 'it returns false'. Refute it at one input. -/
def fnExactTickCoordWrong : ChangeSpec := { name := "fnExactTickCoord", fn := fun _ => fun
  | [d] => { results := [.lit (.bool false)], args := [d] }
  | _ => none }
def FnExactTickCoordWrongFalsely : Prop := fnExactTickCoordRow.holds Try.pinned (OpenSpec.ofChange fnExactTickCoordWrong)

/-- 'laws.FnExactBlamedIn': WHATEVER THE INPUT: true; the input reads as it did. -/
def fnExactBlamedInSpec : ChangeSpec := { name := "fnExactBlamedIn", fn := fun _ => fun
  | [d] => { results := [.lit (.bool true)], args := [d] }
  | _ => none }
def fnExactBlamedInRow : OpenClaim := { program := "ytbnfkpbaaoknmaa", sum := "52e8a06652e084bc07cec8167f46738f1c4b1096626543575f289e4416565353", func := "loop.example/g00284/laws.FnExactBlamedIn", spec := "fnExactBlamedIn", recurses := true, apart := false }
def FnExactBlamedInSaid : Prop := fnExactBlamedInRow.holds Try.pinned (OpenSpec.ofChange fnExactBlamedInSpec)

/-- ITS FALSE NEIGHBOUR: 'it returns false'. Refute it at one input. -/
def fnExactBlamedInWrong : ChangeSpec := { name := "fnExactBlamedIn", fn := fun _ => fun
  | [d] => { results := [.lit (.bool false)], args := [d] }
  | _ => none }
def FnExactBlamedInWrongFalsely : Prop := fnExactBlamedInRow.holds Try.pinned (OpenSpec.ofChange fnExactBlamedInWrong)

/- THE SECOND FORM. 'bulk': how many values and letters a reading holds, each counted each time it is reached (what is shared counts as often as it is met; a slice's spare places count too). A statement '..UptoSaid' is the law's where the arguments, and the package variables that the reading takes, are together of bulk at most 1048576: NARROWER than '..Said'. Prove '..Said' where nothing that the law and all that it calls make is longer than what came in: it says more and counts as full. Else prove '..UptoSaid'. A law counts once. -/
mutual
def uptoBulk {H : Type} : DataW H → Nat
  | .lit (.string bytes) => bytes.length + 1
  | .lit _ => 1
  | .nil => 1
  | .ptr d => uptoBulk d + 1
  | .slice elems spare => uptoBulkAll elems + uptoBulkAll spare + 1
  | .agg parts => uptoBulkAll parts + 1
  | .iface _ d => uptoBulk d + 1
  | .map entries => uptoBulkEntries entries + 1
  | .held _ => 1
def uptoBulkAll {H : Type} : List (DataW H) → Nat
  | [] => 0
  | d :: r => uptoBulk d + uptoBulkAll r
def uptoBulkEntries {H : Type} : List (Lit × DataW H) → Nat
  | [] => 0
  | x :: r => uptoBulkEntry x + uptoBulkEntries r
def uptoBulkEntry {H : Type} : Lit × DataW H → Nat
  | (.string bytes, d) => bytes.length + uptoBulk d + 1
  | (_, d) => uptoBulk d + 1
 end
def uptoSmall : (H : Type) → List (DataW H) → Bool := fun _ ds => decide (uptoBulkAll ds ≤ 1048576)
def OpenSpec.upto (s : _root_.Go.ChangeSpec) : _root_.Go.OpenSpec := { _root_.Go.OpenSpec.ofChange s with cond := some uptoSmall }

/-- 'laws.FnExactApplyChange', WHERE WHAT IT READS IS OF BULK AT MOST 1048576: true; the input reads as it did. -/
def fnExactApplyChangeUptoRow : OpenClaim := { program := "ytbnfkpbaaoknmaa", sum := "52e8a06652e084bc07cec8167f46738f1c4b1096626543575f289e4416565353", func := "loop.example/g00284/laws.FnExactApplyChange", spec := "fnExactApplyChange", apart := false, narrowed := true }
def FnExactApplyChangeUptoSaid : Prop := fnExactApplyChangeUptoRow.holds Try.pinned (OpenSpec.upto fnExactApplyChangeSpec)

/-- 'laws.FnExactApplyAll', WHERE WHAT IT READS IS OF BULK AT MOST 1048576: true; the input reads as it did. -/
def fnExactApplyAllUptoRow : OpenClaim := { program := "ytbnfkpbaaoknmaa", sum := "52e8a06652e084bc07cec8167f46738f1c4b1096626543575f289e4416565353", func := "loop.example/g00284/laws.FnExactApplyAll", spec := "fnExactApplyAll", apart := false, narrowed := true }
def FnExactApplyAllUptoSaid : Prop := fnExactApplyAllUptoRow.holds Try.pinned (OpenSpec.upto fnExactApplyAllSpec)

/-- 'laws.FnExactAgree', WHERE WHAT IT READS IS OF BULK AT MOST 1048576: true; the input reads as it did. -/
def fnExactAgreeUptoRow : OpenClaim := { program := "ytbnfkpbaaoknmaa", sum := "52e8a06652e084bc07cec8167f46738f1c4b1096626543575f289e4416565353", func := "loop.example/g00284/laws.FnExactAgree", spec := "fnExactAgree", apart := false, narrowed := true }
def FnExactAgreeUptoSaid : Prop := fnExactAgreeUptoRow.holds Try.pinned (OpenSpec.upto fnExactAgreeSpec)

/-- 'laws.FnExactWaitsOf', WHERE WHAT IT READS IS OF BULK AT MOST 1048576: true; the input reads as it did. -/
def fnExactWaitsOfUptoRow : OpenClaim := { program := "ytbnfkpbaaoknmaa", sum := "52e8a06652e084bc07cec8167f46738f1c4b1096626543575f289e4416565353", func := "loop.example/g00284/laws.FnExactWaitsOf", spec := "fnExactWaitsOf", apart := false, narrowed := true }
def FnExactWaitsOfUptoSaid : Prop := fnExactWaitsOfUptoRow.holds Try.pinned (OpenSpec.upto fnExactWaitsOfSpec)

/-- 'laws.FnExactPinsOf', WHERE WHAT IT READS IS OF BULK AT MOST 1048576: true; the input reads as it did. -/
def fnExactPinsOfUptoRow : OpenClaim := { program := "ytbnfkpbaaoknmaa", sum := "52e8a06652e084bc07cec8167f46738f1c4b1096626543575f289e4416565353", func := "loop.example/g00284/laws.FnExactPinsOf", spec := "fnExactPinsOf", apart := false, narrowed := true }
def FnExactPinsOfUptoSaid : Prop := fnExactPinsOfUptoRow.holds Try.pinned (OpenSpec.upto fnExactPinsOfSpec)

/-- 'laws.FnExactSplitsOf', WHERE WHAT IT READS IS OF BULK AT MOST 1048576: true; the input reads as it did. -/
def fnExactSplitsOfUptoRow : OpenClaim := { program := "ytbnfkpbaaoknmaa", sum := "52e8a06652e084bc07cec8167f46738f1c4b1096626543575f289e4416565353", func := "loop.example/g00284/laws.FnExactSplitsOf", spec := "fnExactSplitsOf", apart := false, narrowed := true }
def FnExactSplitsOfUptoSaid : Prop := fnExactSplitsOfUptoRow.holds Try.pinned (OpenSpec.upto fnExactSplitsOfSpec)

/-- 'laws.FnExactTickCoord', WHERE WHAT IT READS IS OF BULK AT MOST 1048576: true; the input reads as it did. -/
def fnExactTickCoordUptoRow : OpenClaim := { program := "ytbnfkpbaaoknmaa", sum := "52e8a06652e084bc07cec8167f46738f1c4b1096626543575f289e4416565353", func := "loop.example/g00284/laws.FnExactTickCoord", spec := "fnExactTickCoord", unfollowed := true, recurses := true, apart := false, narrowed := true }
def FnExactTickCoordUptoSaid : Prop := fnExactTickCoordUptoRow.holds Try.pinned (OpenSpec.upto fnExactTickCoordSpec)

/-- 'laws.FnExactBlamedIn', WHERE WHAT IT READS IS OF BULK AT MOST 1048576: true; the input reads as it did. -/
def fnExactBlamedInUptoRow : OpenClaim := { program := "ytbnfkpbaaoknmaa", sum := "52e8a06652e084bc07cec8167f46738f1c4b1096626543575f289e4416565353", func := "loop.example/g00284/laws.FnExactBlamedIn", spec := "fnExactBlamedIn", recurses := true, apart := false, narrowed := true }
def FnExactBlamedInUptoSaid : Prop := fnExactBlamedInUptoRow.holds Try.pinned (OpenSpec.upto fnExactBlamedInSpec)

end Rows
end Go.Proofs.Ytbnfkpbaaoknmaa
