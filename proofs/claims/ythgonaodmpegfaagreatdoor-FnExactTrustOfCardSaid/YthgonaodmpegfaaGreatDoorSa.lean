/- A law: an append inside a held region. -/
import Derived.Test.YthgonaodmpegfaaGreatDoorFd
set_option linter.unusedVariables false
set_option linter.unusedSimpArgs false
namespace Go.Proofs.YthgonaodmpegfaaGreatDoor
open Go.RowKit Lay Mk
theorem step_app {α : Type} [Lay α] [SlTy α] [Inf α] {ops : Array Oper} {o : Oper} {a : Act} {K : Act → World → Prop} {Q : Exit → Act → World → Prop} {E : Prop} {w : World} (hgd : o.guard = none) (s x : Operand)
    (ho : o.op = .call { callee := .builtin .append, args := #[s, x], argTypes := #[SlTy.st α, SlTy.st α] })
    {A A2 : Option Addr} {cap c2 k m : Nat} {xs ys : List α} {S T : Blks} (hs : a.eval s = .slice A k cap) (hk : k = xs.length) (hrow : Row true w A cap xs S) (hle : k ≤ cap) (hcm : cap ≤ maxLen)
    (hx : a.eval x = .slice A2 m c2) (hm : m = ys.length) (hsrc : Src w A2 ys T) (hd : disj S T) (hb : k + m ≤ 4000000000)
    (h : ∀ A' cap' w', k + m ≤ cap' → cap' ≤ maxLen → Row true w' A' cap' (xs ++ ys) (fun b => S b ∨ T b ∨ (w.heap.size ≤ b ∧ b < w'.heap.size)) → Chg S w w' → K (a.put o.dst (.slice A' (k + m) cap')) w') :
    if Region.wanted o (yielded ops a.tmps) = true then Oper.wp Tryz.prog o a w K Q else E := by
  have hw : Region.wanted o (yielded ops a.tmps) = true := by simp [Region.wanted, hgd]
  rw [if_pos hw]
  subst hk; subst hm
  obtain ⟨z, bytes, e, hz, hby⟩ := Inf.ex (α := α)
  obtain ⟨i, hi, h0, h1, h2⟩ := info_parts e
  obtain ⟨A', cap', w', hr, h3, h4, h5, h6⟩ := run_app (P := Tryz.prog) (c2 := c2) (SlTy.st α) o.type i z bytes Inf.st hi h0 h1 h2 hz hrow hle hcm hsrc hd (by unfold maxLen; omega)
    (Nat.le_trans (Nat.mul_le_mul hb hby) (by decide))
  unfold Oper.wp execOp
  simp only [ho, resolve, invoke, builtin, Sem.run_bind, Sem.run_pure, Result.andThen_ok, List.map_toArray, List.map_cons, List.map_nil, hs, hx, hr]
  exact h A' cap' w' h3 h4 h5 h6

end Go.Proofs.YthgonaodmpegfaaGreatDoor
