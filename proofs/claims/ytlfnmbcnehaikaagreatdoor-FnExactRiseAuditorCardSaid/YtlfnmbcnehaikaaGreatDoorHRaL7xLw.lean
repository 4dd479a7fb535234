/- A part of the proof: what the laws need of it. -/
import Derived.Deep.RegionHeld3
import Derived.Test.YtlfnmbcnehaikaaGreatDoorHRaL5xTop
import Derived.Test.YtlfnmbcnehaikaaGreatDoorHRaL6xOq
set_option linter.unusedVariables false
set_option linter.unusedSimpArgs false
set_option linter.unusedVariables false
set_option linter.unusedSimpArgs false
namespace Go.Proofs.YtlfnmbcnehaikaaGreatDoor
open Go.RowKit Lay Mk
theorem Below.via {w w' : World} {o : Obj} (hb : Below (w.alloc o).heap.size (w.alloc o) w') : Below w.heap.size w w' := ((Below.refl _ _).alloc (Nat.le_refl _) _).trans (hb.mono (by simp))
theorem Below.viad {w w' : World} (hb : Below w.drew.heap.size w.drew w') : Below w.heap.size w w' := ((Below.refl _ _).drew).trans (hb.mono (Nat.le_refl _))
theorem Below.step {a b c : World} (h : Below a.heap.size a b) (k : Below b.heap.size b c) : Below a.heap.size a c := h.trans (k.mono h.size)
theorem Below.stepc {a b c : World} {S : Blks} (h : Below a.heap.size a b) (k : Chg S b c) (hs : ∀ x, S x → a.heap.size ≤ x) : Below a.heap.size a c := h.trans (k.to_below h.size hs)
theorem disjS {S T : Blks} {a b c d : Nat} (h1 : sub S (rng a b)) (h2 : sub T (rng c d)) (h : b ≤ c ∨ d ≤ a) : disj S T := fun x hx hy => by
  have := h1 x hx
  have := h2 x hy
  unfold rng at *
  omega
theorem not_rng {S : Blks} {a b x : Nat} (h : sub S (rng a b)) (k : x < a ∨ b ≤ x) : ¬ S x := fun hx => by
  have := h x hx
  unfold rng at *
  omega
theorem cell_alloc {w : World} {o : Obj} {b i : Nat} {v : Value} (h : w.cell? ⟨b, i, none⟩ = some v) : (w.alloc o).cell? ⟨b, i, none⟩ = some v :=
  (World.cell?_of_block (a := ⟨b, i, none⟩) (Below.heap_alloc w o b (block_lt_of_cell (a := ⟨b, i, none⟩) h))).trans h
theorem old_rng {α : Type} [Lay α] {m : Bool} {w : World} {cs : List Value} {x : α} {S : Blks} (h : rd m w cs x S) : rd m w cs x (rng 0 w.heap.size) := Lay.mono (Lay.tight h) (fun _ x => ⟨Nat.zero_le _, x.2⟩)
theorem yieldsIf_loadT {P : Program} {ops : Array Oper} {S : World → Prop} {o : Oper} {a : Act} (hw : Region.wanted o (yielded ops a.tmps) = true) (t : TypeId) (x : Operand) (ho : o.op = .load t x) {b off : Nat} (hx : a.eval x = .pointer (some ⟨b, off, none⟩)) {cs : List Value} (ha : ∀ w, S w → At w b off cs) {fs : Array Field}
    (hu : P.underlying t = some (.struct fs)) {k : Nat} (hi : (P.info? t).map (·.size) = some k) (hk : cs.length = k) : YieldsIf P ops S o (.agg cs.toArray) a := by
  subst hk
  refine .inl ⟨hw, fun w hS => ?_⟩
  unfold execOp
  simp only [ho, hx, Instr.loadAt, Instr.sureAddr, Sem.run_bind, Sem.run_pure, Result.andThen_ok, run_loadAt (ha w hS) hu hi]
theorem szR_cases {n left : Int} {s : Nat} (h : SzR n left s) (hl : left ≤ 1048576) : n = -1 ∨ (0 ≤ n ∧ n ≤ 1048576 ∧ s ≤ 1048576) := by
  unfold SzR at h; omega
end Go.Proofs.YtlfnmbcnehaikaaGreatDoor

set_option linter.unusedVariables false
set_option linter.unusedSimpArgs false
namespace Go.Proofs.YtlfnmbcnehaikaaGreatDoor
open Go.RowKit Lay
section
variable {P : Program} {ops : Array Oper} {rest : List Oper} {o : Oper} {a : Act} {w : World} {Q : Exit → Act → World → Prop}
theorem wpList_loadTG (hw : Region.wanted o (yielded ops a.tmps) = true) (t : TypeId) (x : Operand) (ho : o.op = .load t x) {b off : Nat} (hx : a.eval x = .pointer (some ⟨b, off, none⟩)) {cs : List Value} (ha : At w b off cs) {fs : Array Field}
    (hu : P.underlying t = some (.struct fs)) {k : Nat} (hi : (P.info? t).map (·.size) = some k) (hk : cs.length = k)
    (h : wpList P ops Q rest (a.put o.dst (.agg cs.toArray)) w) : wpList P ops Q (o :: rest) a w := by
  refine wpList_step fun K hK => ?_
  rw [if_pos hw]
  subst hk
  unfold Oper.wp execOp
  simp only [ho, hx, Instr.loadAt, Instr.sureAddr, Sem.run_bind, Sem.run_pure, Result.andThen_ok, run_loadAt ha hu hi]
  exact hK _ _ h
end
end Go.Proofs.YtlfnmbcnehaikaaGreatDoor
