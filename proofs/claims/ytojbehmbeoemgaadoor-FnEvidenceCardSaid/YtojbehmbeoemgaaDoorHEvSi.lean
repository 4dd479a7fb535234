/- A part of the proof: what the laws need of it. -/
import Derived.Test.YtojbehmbeoemgaaDoorHEvL19xSg
import Derived.Test.YtojbehmbeoemgaaDoorHEvL9xFd
set_option linter.unusedVariables false
set_option linter.unusedSimpArgs false
set_option linter.unusedVariables false
set_option linter.unusedSimpArgs false
namespace Go.Proofs.YtojbehmbeoemgaaDoor
open Go.RowKit Lay Mk
def One (w : World) (g : Nat) (t : TypeId) (v : Value) : Prop := w.heap[g]? = some (.cells #[v] t (0, 0))
theorem One.lt {w : World} {g : Nat} {t : TypeId} {v : Value} (h : One w g t v) : g < w.heap.size := heap_lt h
theorem One.cell {w : World} {g : Nat} {t : TypeId} {v : Value} (h : One w g t v) : w.cell? ⟨g, 0, none⟩ = some v := by rw [cell_of_row w g 0 _ _ (0, 0) h]; rfl
theorem One.frozen {w : World} {g : Nat} {t : TypeId} {v : Value} (h : One w g t v) : w.frozen? ⟨g, 0, none⟩ = false := frozen_of_row w g 0 _ _ h
theorem One.set {w : World} {g : Nat} {t : TypeId} {v : Value} (h : One w g t v) (u : Value) : One (w.setCell ⟨g, 0, none⟩ u) g t u := by
  unfold One at *
  simp only [World.setCell, Array.getElem?_modify, h]
  simp
theorem One.keep {w w' : World} {g : Nat} {t : TypeId} {v : Value} (h : One w g t v) (k : w'.heap[g]? = w.heap[g]?) : One w' g t v := k.trans h
theorem One.below {w w' : World} {B g : Nat} {t : TypeId} {v : Value} (h : One w g t v) (hb : Below B w w') (hB : g < B) : One w' g t v := h.keep (hb.block g hB)
theorem One.later {w w' : World} {g : Nat} {t : TypeId} {v : Value} (h : One w g t v) (hb : Below w.heap.size w w') : One w' g t v := h.below hb h.lt
theorem One.chg {w w' : World} {S : Blks} {g : Nat} {t : TypeId} {v : Value} (h : One w g t v) (hb : Chg S w w') (hn : ¬ S g) : One w' g t v := h.keep (hb.block g h.lt hn)
theorem One.alloc {w : World} {g : Nat} {t : TypeId} {v : Value} (h : One w g t v) (o : Obj) : One (w.alloc o) g t v := h.keep (Below.heap_alloc w o g (heap_lt h))
theorem One.new (w : World) (t : TypeId) (v : Value) : One (w.alloc (.cells #[v] t)) w.heap.size t v := heap_alloc_new w _
theorem row_one (w : World) (t : ByteArray) (h : t.size ≤ maxLen) (ty : TypeId) : Row false (w.alloc (.cells #[.string t] ty)) (some ⟨w.heap.size, 0, none⟩) 1 [t] (fun q => q = w.heap.size) := by
  refine row_box 1 [t] ?_
  intro j hj
  have hj : j = 0 := by simpa using hj
  subst hj
  exact ⟨box_cell _ _ _ _ _ rfl, by simpa using h⟩
theorem row_pair (w : World) (s t : ByteArray) (hs : s.size ≤ maxLen) (h : t.size ≤ maxLen) (ty : TypeId) : Row false (w.alloc (.cells #[.string s, .string t] ty)) (some ⟨w.heap.size, 0, none⟩) 2 [s, t] (fun q => q = w.heap.size) := by
  refine row_box 2 [s, t] ?_
  intro j hj
  have hj : j = 0 ∨ j = 1 := by simp at hj; omega
  rcases hj with rfl | rfl
  · exact ⟨box_cell _ _ _ _ _ rfl, by simpa using hs⟩
  · exact ⟨box_cell _ _ _ _ _ rfl, by simpa using h⟩
theorem ml {n k : Nat} (h : n ≤ k) (hk : k ≤ 1000000) : n ≤ maxLen := by unfold maxLen; omega

set_option maxRecDepth 20000 in set_option maxHeartbeats 4000000 in
theorem impl_SignBitsOf (w : World) (t : ByteArray) (ht : t.size ≤ 200) (hT : Tabs w) : Calls Tryd.prog 157 #[.string t] w fun e w' => e = .returned (.int .i64 (signBits t)) ∧ Below w.heap.size w w' := by
  have hok := tag_one (kind := 7) (s := t) (by decide) ht
  have hs := tagHash_size hok
  have HI : Hid (∀ h, (signBits t : Int) = ((tagHash 7 [t] 16)[0]'h).toNat) := Lib.hid (fun h => by rw [signBits_at h])
  have hne : ((tagHash 7 [t] 16).toList == ([] : List UInt8)) = false := by
    rw [empty_eq, decide_eq_false_iff_not]; intro h; rw [h] at hs; exact absurd hs (by decide)
  clear hok
  go_enter Tryd.func157, Tryd.ntmps157
  go_wp2_with (fail)
  refine (impl_hashOf _ 7 (by unfold I64; omega) [t] _ _ _ (row_one w t (ml ht (by omega)) _) (by simp) 16 (by unfold I64; omega) (hT.later ((Below.refl _ _).alloc (Nat.le_refl _) _))).mono ?_
  rintro e1 w1 ⟨rfl, hb⟩
  have hB : Below w.heap.size w w1 := ((Below.refl _ _).alloc (Nat.le_refl _) _).trans (hb.mono (by simp))
  go_wp2
  go_ret
  exact ⟨by rw [HI.out (by rw [hs]; omega)]; exact ret_int (IntWalk.wrap64_in _ (by have := ((tagHash 7 [t] 16)[0]'(by rw [hs]; omega)).toNat_lt; omega)), hB⟩

set_option maxRecDepth 20000 in set_option maxHeartbeats 4000000 in
theorem spec_SignBitsOf (w : World) (t : ByteArray) (ht : t.size ≤ 200) : Calls Tryd.prog 109 #[.string t] w fun e w' => e = .returned (.int .i64 (signBits t)) ∧ Below w.heap.size w w' := by
  have hok := tag_one (kind := 7) (s := t) (by decide) ht
  have hs := tagHash_size hok
  have HI : Hid (∀ h, (signBits t : Int) = ((tagHash 7 [t] 16)[0]'h).toNat) := Lib.hid (fun h => by rw [signBits_at h])
  have hne : ((tagHash 7 [t] 16).toList == ([] : List UInt8)) = false := by
    rw [empty_eq, decide_eq_false_iff_not]; intro h; rw [h] at hs; exact absurd hs (by decide)
  clear hok
  go_enter Tryd.func109, Tryd.ntmps109
  go_wp2_with (fail)
  refine (spec_TagHash _ 7 (by unfold I64; omega) [t] _ _ _ (row_one w t (ml ht (by omega)) _) (by simp) 16 (by unfold I64; omega)).mono ?_
  rintro e1 w1 ⟨rfl, hb⟩
  have hB : Below w.heap.size w w1 := ((Below.refl _ _).alloc (Nat.le_refl _) _).trans (hb.mono (by simp))
  go_wp2
  go_ret
  exact ⟨by rw [HI.out (by rw [hs]; omega)]; exact ret_int (IntWalk.wrap64_in _ (by have := ((tagHash 7 [t] 16)[0]'(by rw [hs]; omega)).toNat_lt; omega)), hB⟩

end Go.Proofs.YtojbehmbeoemgaaDoor
