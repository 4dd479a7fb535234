/- Arrays of words, each in a block of its own. No program is in sight here. -/
import Derived.Test.YthgonaodmpegfaaGreatDoorRd
set_option linter.unusedVariables false
set_option linter.unusedSimpArgs false
namespace Go.Proofs.YthgonaodmpegfaaGreatDoor
open Go.RowKit Lay Mk
def u32v (x : Int) : Value := .int .u32 x
def arr (l : List Int) : Array Value := (l.map u32v).toArray
theorem arr_size (l : List Int) : (arr l).size = l.length := by simp [arr]
/-- a block that is an array of words -/
def Arr (w : World) (b : Nat) (t : TypeId) (l : List Int) : Prop := w.heap[b]? = some (.cells (arr l) t (0, 0))
theorem Arr.cell {w : World} {b t : Nat} {l : List Int} (h : Arr w b t l) {i : Nat} (hi : i < l.length) : w.cell? ⟨b, i, none⟩ = some (.int .u32 l[i]) := by
  rw [cell_of_row w b i _ t (0, 0) h]; simp [arr, u32v, hi]
theorem Arr.lt {w : World} {b t : Nat} {l : List Int} (h : Arr w b t l) : b < w.heap.size := heap_lt h
theorem Arr.frozen {w : World} {b t : Nat} {l : List Int} (h : Arr w b t l) (o : Nat) : w.frozen? ⟨b, o, none⟩ = false := frozen_of_row w b o _ t h
theorem Arr.set {w : World} {b t : Nat} {l : List Int} (h : Arr w b t l) (i : Nat) (x : Int) : Arr (w.setCell ⟨b, i, none⟩ (.int .u32 x)) b t (l.set i x) := by
  unfold Arr at *
  simp only [World.setCell, Array.getElem?_modify, h]
  simp only [if_true, Option.map_some, Option.some.injEq]
  simp [arr, u32v, List.map_set]
theorem Arr.setO {w : World} {b t : Nat} {l : List Int} (h : Arr w b t l) {p : Addr} (hp : b ≠ p.block) (u : Value) : Arr (w.setCell p u) b t l := (Below.heap_setCell w p u b hp).trans h
theorem Arr.alloc {w : World} {b t : Nat} {l : List Int} (h : Arr w b t l) (o : Obj) : Arr (w.alloc o) b t l := (Below.heap_alloc w o b (heap_lt h)).trans h
theorem Arr.drew {w : World} {b t : Nat} {l : List Int} (h : Arr w b t l) : Arr w.drew b t l := h
theorem Arr.drewN {w : World} {b t : Nat} {l : List Int} (h : Arr w b t l) (n : Nat) : Arr (w.drewN n) b t l := h
theorem Arr.keep {w w' : World} {b t : Nat} {l : List Int} (h : Arr w b t l) (k : w'.heap[b]? = w.heap[b]?) : Arr w' b t l := k.trans h
theorem Arr.new (w : World) (l : List Int) (t : TypeId) : Arr (w.alloc (.cells (arr l) t)) w.heap.size t l := heap_alloc_new w _
theorem arr_one (l : List Int) : ∀ u ∈ (arr l).toList, u.oneCell' = true := by
  intro u hu
  simp only [arr, List.mem_map] at hu
  obtain ⟨x, _, rfl⟩ := hu
  rfl
theorem arr_new {w : World} {C : Array Value} {l : List Int} {t b : Nat} (hb : b = w.heap.size) (h : C = arr l) : Arr (w.alloc (.cells C t)) b t l := by subst hb; subst h; exact Arr.new w l t
end Go.Proofs.YthgonaodmpegfaaGreatDoor
