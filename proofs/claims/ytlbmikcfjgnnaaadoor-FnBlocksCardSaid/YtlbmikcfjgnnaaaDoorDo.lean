/- Walks: a drawn text of one of some lengths. -/
import Derived.Test.YtlbmikcfjgnnaaaDoorDj
set_option linter.unusedVariables false
set_option linter.unusedSimpArgs false
namespace Go.Proofs.YtlbmikcfjgnnaaaDoor
open Go.RowKit Lay Mk
def someLens : List Int := [0, 1, 3, 9, 54, 55, 56, 63, 64, 65, 119, 120, 200]
theorem some_ok : ∀ x ∈ someLens, 0 ≤ x ∧ x ≤ 200 := by decide
set_option maxRecDepth 20000 in set_option maxHeartbeats 4000000 in
theorem spec_l03Some (w : World) (g : Nat) (xs : List UInt8) (A : Option Addr) (cap : Nat) (S : Blks) (hc : Cur w g xs A cap) (hx : Row false w A cap xs S) (hS : ∀ b, S b → b < g) (hg : g < w.heap.size) (hl : xs.length ≤ 1048576) : Calls Tryd.prog 15 #[.pointer (some ⟨g, 0, none⟩)] w fun e w' => ∃ t : ByteArray, e = .returned (.string t) ∧ t.size ≤ 5000 ∧ Cur w' g xs A cap ∧ Chg (fun b => b = g ∨ w.heap.size ≤ b) w w' := by
  have hSg : ¬ S g := fun h => by have := hS g h; omega
  go_enter Tryd.func15, Tryd.ntmps15
  go_wp2_with (fail)
  have hcell : ∀ j (h : j < someLens.length), (w.alloc (.cells #[.int .i64 0, .int .i64 1, .int .i64 3, .int .i64 9, .int .i64 54, .int .i64 55, .int .i64 56, .int .i64 63, .int .i64 64, .int .i64 65, .int .i64 119, .int .i64 120, .int .i64 200] 3)).cell? ⟨w.heap.size, j, none⟩ = some (.int .i64 someLens[j]) ∧ I64 someLens[j] := by
    intro j hj
    have hb := some_ok _ (List.getElem_mem hj)
    refine ⟨?_, by unfold I64; omega⟩
    rw [World.cell?_alloc_mark]
    have hj : j < 13 := hj
    rcases (show j = 0 ∨ j = 1 ∨ j = 2 ∨ j = 3 ∨ j = 4 ∨ j = 5 ∨ j = 6 ∨ j = 7 ∨ j = 8 ∨ j = 9 ∨ j = 10 ∨ j = 11 ∨ j = 12 by omega) with rfl | rfl | rfl | rfl | rfl | rfl | rfl | rfl | rfl | rfl | rfl | rfl | rfl <;> rfl
  refine (spec_l01PickInt _ g xs A cap S (hc.keep (Below.heap_alloc w _ _ hg)) (Row.later hx ((Below.refl _ _).alloc (Nat.le_refl _) _)) hSg hl someLens _ 13 _ (row_boxi 13 _ hcell) (by omega) (by decide) (by decide)).mono ?_
  rintro e0 w1 ⟨x, rfl, hxm, hc1, hch⟩
  obtain ⟨hx0, hx1⟩ := some_ok x hxm
  obtain ⟨n, rfl⟩ : ∃ n : Nat, x = n := ⟨x.toNat, by omega⟩
  have hz1 := hch.size
  simp only [World.size_alloc] at hz1
  have hchA : Chg (fun b => b = g ∨ w.heap.size ≤ b) w w1 := ((Chg.refl _ _).alloc _).trans (hch.mono (fun b _ h => .inl h))
  have hxr : Row false w1 A cap xs S := Row.keep hx (fun b hb => hchA.block b (by have := hS b hb; omega) (by have := hS b hb; omega))
  clear hcell hch
  go_wp2_with (fail)
  refine (spec_l01Text w1 g xs A cap S hc1 hxr hS (by omega) hl n (by omega)).mono ?_
  rintro e2 w2 ⟨t, rfl, ht, hc2, hch2⟩
  go_wp2
  go_ret
  exact ⟨t, rfl, by omega, hc2, hchA.trans (hch2.mono (fun b _ h => h.elim .inl (fun q => .inr (by omega))))⟩
set_option maxRecDepth 20000 in set_option maxHeartbeats 4000000 in
theorem spec_DrawTextOf (w : World) (xs : List UInt8) (A : Option Addr) (cap : Nat) (S : Blks) (hx : Row false w A cap xs S) (hS : ∀ b, S b → b < w.heap.size) (hl : xs.length ≤ 1048576) : Calls Tryd.prog 5 #[.slice A xs.length cap] w fun e w' => ∃ t : ByteArray, e = .returned (.string t) ∧ t.size ≤ 5000 ∧ Below w.heap.size w w' := by
  go_enter Tryd.func5, Tryd.ntmps5
  go_wp2_with (fail)
  refine (spec_l01New w xs A cap S hx hl).mono ?_
  rintro e0 w1 ⟨g, rfl, hg, hc, hb⟩
  have hgl : g < w1.heap.size := by obtain ⟨i, h, _, h2⟩ := hc; exact (Array.getElem?_eq_some_iff.1 h2).1
  have hz := hb.size
  go_wp2_with (fail)
  refine (spec_l03Some w1 g xs A cap S hc (Row.later hx hb) (fun b h => by have := hS b h; omega) hgl hl).mono ?_
  rintro e2 w2 ⟨t, rfl, ht, hc2, hch⟩
  go_wp2
  go_ret
  exact ⟨t, rfl, ht, hb.trans (hch.to_below hz (fun b h => by omega))⟩
end Go.Proofs.YtlbmikcfjgnnaaaDoor
