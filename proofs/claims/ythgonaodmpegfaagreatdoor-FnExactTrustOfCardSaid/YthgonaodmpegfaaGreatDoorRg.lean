/- Operations of a drawn region that yield in any world. -/
import Derived.Test.YthgonaodmpegfaaGreatDoorLw
set_option linter.unusedVariables false
set_option linter.unusedSimpArgs false
namespace Go.Proofs.YthgonaodmpegfaaGreatDoor
open Go.RowKit Lay Mk
theorem yieldsIf_move {P : Program} {ops : Array Oper} {S : World → Prop} {o : Oper} {a : Act} (hw : Region.wanted o (yielded ops a.tmps) = true) (x : Operand) (ho : o.op = .move x) {v : Value} (hx : a.eval x = v) : YieldsIf P ops S o v a := by
  subst hx
  refine .inl ⟨hw, fun w hS => ?_⟩
  unfold execOp
  simp only [ho]
  rfl
end Go.Proofs.YthgonaodmpegfaaGreatDoor
