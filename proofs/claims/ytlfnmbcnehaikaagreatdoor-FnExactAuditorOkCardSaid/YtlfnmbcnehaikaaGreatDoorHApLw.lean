/- A part of the proof. -/
import Derived.Deep.RegionHeld3
import Derived.Test.YtlfnmbcnehaikaaGreatDoorHApL6xOq
set_option linter.unusedVariables false
set_option linter.unusedSimpArgs false
namespace Go.Proofs.YtlfnmbcnehaikaaGreatDoor
open Go.RowKit Lay Mk
theorem Below.via {w w' : World} {o : Obj} (hb : Below (w.alloc o).heap.size (w.alloc o) w') : Below w.heap.size w w':=((Below.refl _ _).alloc (Nat.le_refl _) _).trans (hb.mono zz17)
theorem Below.viad {w w' : World} (hb : Below w.drew.heap.size w.drew w') : Below w.heap.size w w':=((Below.refl _ _).drew).trans (hb.mono (Nat.le_refl _))
theorem Below.step {a b c : World} (h : Below a.heap.size a b) (k : Below b.heap.size b c) : Below a.heap.size a c:=h.trans (k.mono h.size)
theorem rngS {a b c d : Nat} (h : c ≤ a) (k : b ≤ d) : sub (rng a b) (rng c d):=fun x hx => by unfold rng at *; omega
theorem cell_alloc {w : World} {o : Obj} {b i : Nat} {v : Value} (h : w.cell? ⟨b,i,none⟩ = some v) : (w.alloc o).cell? ⟨b,i,none⟩ = some v :=
 (World.cell?_of_block (a:=⟨b,i,none⟩) (Below.heap_alloc w o b (block_lt_of_cell (a:=⟨b,i,none⟩) h))).trans h
theorem old_rng {α : Type} [Lay α] {m : Bool} {w : World} {cs : List Value} {x : α} {S : Blks} (h : rd m w cs x S) : rd m w cs x (rng 0 w.heap.size):=Lay.mono (Lay.tight h) (fun _ x => ⟨Nat.zero_le _,x.2⟩)
theorem old_rngR {α : Type} [Lay α] {m : Bool} {w : World} {A : Option Addr} {cap : Nat} {xs : List α} {S : Blks} (h : Row m w A cap xs S) : Row m w A cap xs (rng 0 w.heap.size):=h.tight.mono (fun _ x => ⟨Nat.zero_le _,x.2⟩)
theorem nagg_slice {P : Program} {W : World} {r : Reach} {base : Nat} {t e : TypeId} {v : Value} (ht : P.underlying t = some (.slice e)) (h : Value.okWide P W r base t v) : ∀ cs,v ≠ .agg cs:=by
 rintro cs rfl
 unfold Value.okWide at h
 rw [ht] at h
 simp [Cell.okWide,Cell.ok,ht] at h
theorem cells_one {v u : Value} (h : v.cells.toList = [u]) (hn : ∀ cs,v ≠ .agg cs) : v = u:=by
 cases v <;> first | (exfalso; exact hn _ rfl) | (simpa [Value.cells] using h)
theorem ya7 {P : Program} {ops : Array Oper} {S : World → Prop} {o : Oper} {a : Act} (hw : Region.wanted o (yielded ops a.tmps) = true) (t : TypeId) (x : Operand) (ho : o.op = .load t x) {b off : Nat} (hx : a.eval x = .pointer (some ⟨b,off,none⟩)) {cs : List Value} (ha : ∀ w,S w → At w b off cs) {fs : Array Field}
  (hu : P.underlying t = some (.struct fs)) {k : Nat} (hi : (P.info? t).map (·.size) = some k) (hk : cs.length = k) : YieldsIf P ops S o (.agg cs.toArray) a:=by
 subst hk
 refine .inl ⟨hw,fun w hS => ?_⟩
 unfold execOp
 simp only [ho,hx,Instr.loadAt,Instr.sureAddr,Sem.run_bind,Sem.run_pure,Result.andThen_ok,run_loadAt (ha w hS) hu hi]
theorem szR_cases {n left : Int} {s : Nat} (h : SzR n left s) (hl : left ≤ 1048576) : n = -1 ∨ (0 ≤ n ∧ n ≤ 1048576 ∧ s ≤ 1048576):=by
 unfold SzR at h; omega
end Go.Proofs.YtlfnmbcnehaikaaGreatDoor
