/- Regions that draw their order, whose operations read and whose callees only make memory: one walk in the text's order (the kit's quiet walk, over the class of the worlds that have only grown). -/
import Derived.Test.YthgonaodmpegfaaGreatDoorFd
import Derived.Deep.QuietTactic
import Derived.BigQuiet
set_option linter.unusedVariables false
set_option linter.unusedSimpArgs false
namespace Go.Proofs.YthgonaodmpegfaaGreatDoor
open Go.RowKit Lay Mk
/-- a world that has only grown out of W -/
structure Grown (W : World) where
  w : World
  ok : Below W.heap.size W w
instance {W : World} : Nonempty (Grown W) := ⟨⟨W, Below.refl _ _⟩⟩
theorem Grown.size {W : World} (g : Grown W) : W.heap.size ≤ g.w.heap.size := g.ok.size
theorem Grown.cell {W : World} {p : Addr} {v : Value} (h : W.cell? p = some v) : ∀ g : Grown W, g.w.cell? p = some v := fun g => (g.ok.cell (p := p) (World.block_lt_of_cell? W p h)).trans h
theorem grown_call {P : Program} {f : FuncId} {args : Array Value} {W : World} {v : Value} {g : Grown W} (h : Calls P f args g.w fun e w' => e = .returned v ∧ Below g.w.heap.size g.w w') : Calls P f args g.w fun e w' => e = .returned v ∧ ∃ g' : Grown W, w' = g'.w :=
  h.mono fun _ _ ⟨he, hb⟩ => ⟨he, ⟨_, g.ok.trans (hb.mono g.size)⟩, rfl⟩
theorem grown_same {P : Program} {f : FuncId} {args : Array Value} {W : World} {v : Value} {g : Grown W} (h : Calls P f args g.w fun e w' => e = .returned v ∧ g.w = w') : Calls P f args g.w fun e w' => e = .returned v ∧ ∃ g' : Grown W, w' = g'.w :=
  h.mono fun _ _ ⟨he, hb⟩ => ⟨he, g, hb.symm⟩
theorem grown_below {W w : World} (h : ∃ g : Grown W, w = g.w) : Below W.heap.size W w := by
  obtain ⟨g, rfl⟩ := h
  exact g.ok
theorem wp_region_grown {P : Program} {id : Nat} {Q : Exit → Act → World → Prop} {a : Act} {W : World} {l : List Oper} (hm : P.follows .mixedOrders = true) (hB : Region.lexB .any l.toArray = true)
    (h : wpQuiet P l.toArray (fun w' => ∃ g : Grown W, w' = g.w) (fun a' => ∀ w', (∃ g : Grown W, w' = g.w) → Q .normal a' w') l a) : (Code.region id l.toArray true).wp P Q a W :=
  wp_region_quiet (C := fun w' => ∃ g : Grown W, w' = g.w) hm hB ⟨⟨_, (Below.refl _ _).drew⟩, rfl⟩ (by simpa using h)
end Go.Proofs.YthgonaodmpegfaaGreatDoor
