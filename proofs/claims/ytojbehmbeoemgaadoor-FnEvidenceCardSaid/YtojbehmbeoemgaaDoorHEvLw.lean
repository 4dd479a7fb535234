/- A part of the proof: what the laws need of it. -/
import Derived.Deep.RegionHeld3
import Derived.Test.YtojbehmbeoemgaaDoorHEvL5xAq
import Derived.Test.YtojbehmbeoemgaaDoorHEvL6xInf
set_option linter.unusedVariables false
set_option linter.unusedSimpArgs false
set_option linter.unusedVariables false
set_option linter.unusedSimpArgs false
namespace Go.Proofs.YtojbehmbeoemgaaDoor
open Go.RowKit Lay Mk
theorem Below.via {w w' : World} {o : Obj} (hb : Below (w.alloc o).heap.size (w.alloc o) w') : Below w.heap.size w w' := ((Below.refl _ _).alloc (Nat.le_refl _) _).trans (hb.mono (by simp))
theorem Below.viad {w w' : World} (hb : Below w.drew.heap.size w.drew w') : Below w.heap.size w w' := ((Below.refl _ _).drew).trans (hb.mono (Nat.le_refl _))
theorem Below.step {a b c : World} (h : Below a.heap.size a b) (k : Below b.heap.size b c) : Below a.heap.size a c := h.trans (k.mono h.size)
theorem cell_alloc {w : World} {o : Obj} {b i : Nat} {v : Value} (h : w.cell? ⟨b, i, none⟩ = some v) : (w.alloc o).cell? ⟨b, i, none⟩ = some v :=
  (World.cell?_of_block (a := ⟨b, i, none⟩) (Below.heap_alloc w o b (block_lt_of_cell (a := ⟨b, i, none⟩) h))).trans h
theorem old_rng {α : Type} [Lay α] {m : Bool} {w : World} {cs : List Value} {x : α} {S : Blks} (h : rd m w cs x S) : rd m w cs x (rng 0 w.heap.size) := Lay.mono (Lay.tight h) (fun _ x => ⟨Nat.zero_le _, x.2⟩)
theorem old_rngR {α : Type} [Lay α] {m : Bool} {w : World} {A : Option Addr} {cap : Nat} {xs : List α} {S : Blks} (h : Row m w A cap xs S) : Row m w A cap xs (rng 0 w.heap.size) := h.tight.mono (fun _ x => ⟨Nat.zero_le _, x.2⟩)
theorem nagg_slice {P : Program} {W : World} {r : Reach} {base : Nat} {t e : TypeId} {v : Value} (ht : P.underlying t = some (.slice e)) (h : Value.okWide P W r base t v) : ∀ cs, v ≠ .agg cs := by
  rintro cs rfl
  unfold Value.okWide at h
  rw [ht] at h
  simp [Cell.okWide, Cell.ok, ht] at h
theorem cells_one {v u : Value} (h : v.cells.toList = [u]) (hn : ∀ cs, v ≠ .agg cs) : v = u := by
  cases v <;> first | (exfalso; exact hn _ rfl) | (simpa [Value.cells] using h)
end Go.Proofs.YtojbehmbeoemgaaDoor
