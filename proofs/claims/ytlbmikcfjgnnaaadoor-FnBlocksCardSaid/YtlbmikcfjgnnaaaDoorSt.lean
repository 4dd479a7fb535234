/- Walks: the initial words of the digest, as numbers. -/
import Derived.Test.YtlbmikcfjgnnaaaDoorDg
import Derived.Test.YtlbmikcfjgnnaaaDoorFd
set_option linter.unusedVariables false
set_option linter.unusedSimpArgs false
namespace Go.Proofs.YtlbmikcfjgnnaaaDoor
open Go.RowKit Lay Mk
theorem row_nw8 {w' : World} {A : Option Addr} {cap B lo hi : Nat} {xs : List Int} (h : Row true w' A cap xs (fun b => nw B b ∨ none_ b ∨ (lo ≤ b ∧ b < hi))) (hB : B ≤ lo) : Row true w' A cap xs (nw B) :=
  row_og h (fun b hb => Nat.le_trans hB hb)
set_option maxRecDepth 20000 in set_option maxHeartbeats 8000000 in
theorem impl_ShaStart (w : World) (hT : Tabs w) : Calls Tryd.prog 7 #[] w fun e w' => ∃ A' cap', e = .returned (.slice A' 8 cap') ∧ 8 ≤ cap' ∧ cap' ≤ maxLen ∧ Row true w' A' cap' shaFirst.l (rng w.heap.size w'.heap.size) ∧ Below w.heap.size w w' := by
  have g0 := hT.2 0 (by omega)
  have g1 := hT.2 1 (by omega)
  have g2 := hT.2 2 (by omega)
  have g3 := hT.2 3 (by omega)
  have g4 := hT.2 4 (by omega)
  have g5 := hT.2 5 (by omega)
  have g6 := hT.2 6 (by omega)
  have g7 := hT.2 7 (by omega)
  simp only [S8.l, shaFirst, List.getD_cons_zero, List.getD_cons_succ] at g0 g1 g2 g3 g4 g5 g6 g7
  go_enter Tryd.func7, Tryd.ntmps7
  go_wp2
  clear g0 g1 g2 g3 g4 g5 g6 g7
  go_loopw [1, 5] (fun u i wr => ∃ (k : Nat) (A : Option Addr) (cap : Nat), k ≤ 8 ∧ i = .int .i64 k ∧ u = .slice A k cap ∧ k ≤ cap ∧ cap ≤ maxLen ∧ Row true wr A cap (shaFirst.l.take k) (nw (w.heap.size)) ∧ Below w.heap.size w wr) (fun _ i _ => 8 - (intOf i).toNat)
  case atStart => exact ⟨0, none, 0, by omega, rfl, rfl, Nat.le_refl _, by decide, row_nil _ _, Below.refl _ _⟩
  case round =>
    obtain ⟨k, A, cap, hk, rfl, rfl, hle, hcm, hrow, hB⟩ := hrel
    have hz := hB.size
    by_cases hlt : k < 8
    · rcases (show k = 0 ∨ k = 1 ∨ k = 2 ∨ k = 3 ∨ k = 4 ∨ k = 5 ∨ k = 6 ∨ k = 7 by omega) with rfl | rfl | rfl | rfl | rfl | rfl | rfl | rfl
      · have hzz : w.heap.size ≤ (wr.alloc (.cells #[.int .i64 1779033703] 3)).heap.size := by simp; omega
        have hix : ∀ W : World, (Instr.index 38 (.agg #[.int .u32 1779033703, .int .u32 3144134277, .int .u32 1013904242, .int .u32 2773480762, .int .u32 1359893119, .int .u32 2600822924, .int .u32 528734635, .int .u32 1541459225]) (.int .i64 0)).run Tryd.prog W = .ok (.int .u32 1779033703) W := fun W => by
          have h1 := index_arr8 W (l := shaFirst.l) (k := 0) (by omega) rfl
          rw [first_arr] at h1
          exact h1
        go_wp2_with (at_builtin; refine wpList_app (α := Int) (xs := shaFirst.l.take 0) rfl _ _ rfl rfl rfl (hrow.allocC _) hle hcm rfl rfl (src_newb _ (1779033703 : Int) (by unfold Flat.ok; show I64 _; unfold I64; omega) _ _ _ (by first | rfl | simp) rfl) (disj_none_ _) (by decide) ?_; intro A' cap' w4 h1 h2 h3 h4)
        go_roundw
        case rel => exact ⟨0 + 1, A', cap', by omega, by first | rfl | simp, by first | rfl | simp, by simpa using h1, h2, row_nw8 h3 hzz, (hB.alloc hz _).trans (h4.to_below (by simp; omega) (fun b hb => by unfold nw at hb; omega))⟩
        case measure => simp [intOf]
      · have hzz : w.heap.size ≤ (wr.alloc (.cells #[.int .i64 3144134277] 3)).heap.size := by simp; omega
        have hix : ∀ W : World, (Instr.index 38 (.agg #[.int .u32 1779033703, .int .u32 3144134277, .int .u32 1013904242, .int .u32 2773480762, .int .u32 1359893119, .int .u32 2600822924, .int .u32 528734635, .int .u32 1541459225]) (.int .i64 1)).run Tryd.prog W = .ok (.int .u32 3144134277) W := fun W => by
          have h1 := index_arr8 W (l := shaFirst.l) (k := 1) (by omega) rfl
          rw [first_arr] at h1
          exact h1
        go_wp2_with (at_builtin; refine wpList_app (α := Int) (xs := shaFirst.l.take 1) rfl _ _ rfl rfl rfl (hrow.allocC _) hle hcm rfl rfl (src_newb _ (3144134277 : Int) (by unfold Flat.ok; show I64 _; unfold I64; omega) _ _ _ (by first | rfl | simp) rfl) (disj_none_ _) (by decide) ?_; intro A' cap' w4 h1 h2 h3 h4)
        go_roundw
        case rel => exact ⟨1 + 1, A', cap', by omega, by first | rfl | simp, by first | rfl | simp, by simpa using h1, h2, row_nw8 h3 hzz, (hB.alloc hz _).trans (h4.to_below (by simp; omega) (fun b hb => by unfold nw at hb; omega))⟩
        case measure => simp [intOf]
      · have hzz : w.heap.size ≤ (wr.alloc (.cells #[.int .i64 1013904242] 3)).heap.size := by simp; omega
        have hix : ∀ W : World, (Instr.index 38 (.agg #[.int .u32 1779033703, .int .u32 3144134277, .int .u32 1013904242, .int .u32 2773480762, .int .u32 1359893119, .int .u32 2600822924, .int .u32 528734635, .int .u32 1541459225]) (.int .i64 2)).run Tryd.prog W = .ok (.int .u32 1013904242) W := fun W => by
          have h1 := index_arr8 W (l := shaFirst.l) (k := 2) (by omega) rfl
          rw [first_arr] at h1
          exact h1
        go_wp2_with (at_builtin; refine wpList_app (α := Int) (xs := shaFirst.l.take 2) rfl _ _ rfl rfl rfl (hrow.allocC _) hle hcm rfl rfl (src_newb _ (1013904242 : Int) (by unfold Flat.ok; show I64 _; unfold I64; omega) _ _ _ (by first | rfl | simp) rfl) (disj_none_ _) (by decide) ?_; intro A' cap' w4 h1 h2 h3 h4)
        go_roundw
        case rel => exact ⟨2 + 1, A', cap', by omega, by first | rfl | simp, by first | rfl | simp, by simpa using h1, h2, row_nw8 h3 hzz, (hB.alloc hz _).trans (h4.to_below (by simp; omega) (fun b hb => by unfold nw at hb; omega))⟩
        case measure => simp [intOf]
      · have hzz : w.heap.size ≤ (wr.alloc (.cells #[.int .i64 2773480762] 3)).heap.size := by simp; omega
        have hix : ∀ W : World, (Instr.index 38 (.agg #[.int .u32 1779033703, .int .u32 3144134277, .int .u32 1013904242, .int .u32 2773480762, .int .u32 1359893119, .int .u32 2600822924, .int .u32 528734635, .int .u32 1541459225]) (.int .i64 3)).run Tryd.prog W = .ok (.int .u32 2773480762) W := fun W => by
          have h1 := index_arr8 W (l := shaFirst.l) (k := 3) (by omega) rfl
          rw [first_arr] at h1
          exact h1
        go_wp2_with (at_builtin; refine wpList_app (α := Int) (xs := shaFirst.l.take 3) rfl _ _ rfl rfl rfl (hrow.allocC _) hle hcm rfl rfl (src_newb _ (2773480762 : Int) (by unfold Flat.ok; show I64 _; unfold I64; omega) _ _ _ (by first | rfl | simp) rfl) (disj_none_ _) (by decide) ?_; intro A' cap' w4 h1 h2 h3 h4)
        go_roundw
        case rel => exact ⟨3 + 1, A', cap', by omega, by first | rfl | simp, by first | rfl | simp, by simpa using h1, h2, row_nw8 h3 hzz, (hB.alloc hz _).trans (h4.to_below (by simp; omega) (fun b hb => by unfold nw at hb; omega))⟩
        case measure => simp [intOf]
      · have hzz : w.heap.size ≤ (wr.alloc (.cells #[.int .i64 1359893119] 3)).heap.size := by simp; omega
        have hix : ∀ W : World, (Instr.index 38 (.agg #[.int .u32 1779033703, .int .u32 3144134277, .int .u32 1013904242, .int .u32 2773480762, .int .u32 1359893119, .int .u32 2600822924, .int .u32 528734635, .int .u32 1541459225]) (.int .i64 4)).run Tryd.prog W = .ok (.int .u32 1359893119) W := fun W => by
          have h1 := index_arr8 W (l := shaFirst.l) (k := 4) (by omega) rfl
          rw [first_arr] at h1
          exact h1
        go_wp2_with (at_builtin; refine wpList_app (α := Int) (xs := shaFirst.l.take 4) rfl _ _ rfl rfl rfl (hrow.allocC _) hle hcm rfl rfl (src_newb _ (1359893119 : Int) (by unfold Flat.ok; show I64 _; unfold I64; omega) _ _ _ (by first | rfl | simp) rfl) (disj_none_ _) (by decide) ?_; intro A' cap' w4 h1 h2 h3 h4)
        go_roundw
        case rel => exact ⟨4 + 1, A', cap', by omega, by first | rfl | simp, by first | rfl | simp, by simpa using h1, h2, row_nw8 h3 hzz, (hB.alloc hz _).trans (h4.to_below (by simp; omega) (fun b hb => by unfold nw at hb; omega))⟩
        case measure => simp [intOf]
      · have hzz : w.heap.size ≤ (wr.alloc (.cells #[.int .i64 2600822924] 3)).heap.size := by simp; omega
        have hix : ∀ W : World, (Instr.index 38 (.agg #[.int .u32 1779033703, .int .u32 3144134277, .int .u32 1013904242, .int .u32 2773480762, .int .u32 1359893119, .int .u32 2600822924, .int .u32 528734635, .int .u32 1541459225]) (.int .i64 5)).run Tryd.prog W = .ok (.int .u32 2600822924) W := fun W => by
          have h1 := index_arr8 W (l := shaFirst.l) (k := 5) (by omega) rfl
          rw [first_arr] at h1
          exact h1
        go_wp2_with (at_builtin; refine wpList_app (α := Int) (xs := shaFirst.l.take 5) rfl _ _ rfl rfl rfl (hrow.allocC _) hle hcm rfl rfl (src_newb _ (2600822924 : Int) (by unfold Flat.ok; show I64 _; unfold I64; omega) _ _ _ (by first | rfl | simp) rfl) (disj_none_ _) (by decide) ?_; intro A' cap' w4 h1 h2 h3 h4)
        go_roundw
        case rel => exact ⟨5 + 1, A', cap', by omega, by first | rfl | simp, by first | rfl | simp, by simpa using h1, h2, row_nw8 h3 hzz, (hB.alloc hz _).trans (h4.to_below (by simp; omega) (fun b hb => by unfold nw at hb; omega))⟩
        case measure => simp [intOf]
      · have hzz : w.heap.size ≤ (wr.alloc (.cells #[.int .i64 528734635] 3)).heap.size := by simp; omega
        have hix : ∀ W : World, (Instr.index 38 (.agg #[.int .u32 1779033703, .int .u32 3144134277, .int .u32 1013904242, .int .u32 2773480762, .int .u32 1359893119, .int .u32 2600822924, .int .u32 528734635, .int .u32 1541459225]) (.int .i64 6)).run Tryd.prog W = .ok (.int .u32 528734635) W := fun W => by
          have h1 := index_arr8 W (l := shaFirst.l) (k := 6) (by omega) rfl
          rw [first_arr] at h1
          exact h1
        go_wp2_with (at_builtin; refine wpList_app (α := Int) (xs := shaFirst.l.take 6) rfl _ _ rfl rfl rfl (hrow.allocC _) hle hcm rfl rfl (src_newb _ (528734635 : Int) (by unfold Flat.ok; show I64 _; unfold I64; omega) _ _ _ (by first | rfl | simp) rfl) (disj_none_ _) (by decide) ?_; intro A' cap' w4 h1 h2 h3 h4)
        go_roundw
        case rel => exact ⟨6 + 1, A', cap', by omega, by first | rfl | simp, by first | rfl | simp, by simpa using h1, h2, row_nw8 h3 hzz, (hB.alloc hz _).trans (h4.to_below (by simp; omega) (fun b hb => by unfold nw at hb; omega))⟩
        case measure => simp [intOf]
      · have hzz : w.heap.size ≤ (wr.alloc (.cells #[.int .i64 1541459225] 3)).heap.size := by simp; omega
        have hix : ∀ W : World, (Instr.index 38 (.agg #[.int .u32 1779033703, .int .u32 3144134277, .int .u32 1013904242, .int .u32 2773480762, .int .u32 1359893119, .int .u32 2600822924, .int .u32 528734635, .int .u32 1541459225]) (.int .i64 7)).run Tryd.prog W = .ok (.int .u32 1541459225) W := fun W => by
          have h1 := index_arr8 W (l := shaFirst.l) (k := 7) (by omega) rfl
          rw [first_arr] at h1
          exact h1
        go_wp2_with (at_builtin; refine wpList_app (α := Int) (xs := shaFirst.l.take 7) rfl _ _ rfl rfl rfl (hrow.allocC _) hle hcm rfl rfl (src_newb _ (1541459225 : Int) (by unfold Flat.ok; show I64 _; unfold I64; omega) _ _ _ (by first | rfl | simp) rfl) (disj_none_ _) (by decide) ?_; intro A' cap' w4 h1 h2 h3 h4)
        go_roundw
        case rel => exact ⟨7 + 1, A', cap', by omega, by first | rfl | simp, by first | rfl | simp, by simpa using h1, h2, row_nw8 h3 hzz, (hB.alloc hz _).trans (h4.to_below (by simp; omega) (fun b hb => by unfold nw at hb; omega))⟩
        case measure => simp [intOf]
    · have hke : k = 8 := by omega
      subst hke
      go_wp2
      go_ret
      exact ⟨A, cap, rfl, hle, hcm, to_rng (hrow.mono (fun b hb => by unfold nw at *; omega)), hB⟩
set_option maxRecDepth 20000 in set_option maxHeartbeats 8000000 in
theorem spec_ShaStart (w : World) : Calls Tryd.prog 22 #[] w fun e w' => ∃ A' cap', e = .returned (.slice A' 8 cap') ∧ 8 ≤ cap' ∧ cap' ≤ maxLen ∧ Row true w' A' cap' shaFirst.l (rng w.heap.size w'.heap.size) ∧ Below w.heap.size w w' := by
  go_enter Tryd.func22, Tryd.ntmps22
  go_wp2_with (fail)
  refine (spec_l03First _).mono ?_
  rintro e0 w1 ⟨rfl, hb1⟩
  have hz1 := hb1.size
  go_wp2_with (refine wpList_newArr (l' := shaFirst.l) rfl 38 _ _ rfl rfl rfl rfl rfl (by kernel_rfl) ?_)
  have A3 : Arr ((w1.alloc (.cells (arr shaFirst.l) 38)).alloc (.cells #[] 3)) w1.heap.size 38 shaFirst.l := (Arr.new w1 _ _).alloc _
  have hr0 := row_lit0 (α := Int) (w1.alloc (.cells (arr shaFirst.l) 38)) 3 (nw (w1.heap.size + 1)) rfl (by unfold nw; simp)
  have hB0 : Below w.heap.size w ((w1.alloc (.cells (arr shaFirst.l) 38)).alloc (.cells #[] 3)) := (hb1.alloc hz1 _).alloc (by simp; omega) _
  obtain ⟨B, hBe⟩ : ∃ B, w1.heap.size = B := ⟨_, rfl⟩
  simp only [World.size_alloc] at hr0
  rw [hBe] at A3 hr0 hz1
  try simp only [hBe]
  go_loopw [2, 3] (fun u i wr => ∃ (k : Nat) (A : Option Addr) (cap : Nat), k ≤ 8 ∧ i = .int .i64 k ∧ u = .slice A k cap ∧ k ≤ cap ∧ cap ≤ maxLen ∧ Row true wr A cap (shaFirst.l.take k) (nw (B + 1)) ∧ Arr wr B 38 shaFirst.l ∧ B < wr.heap.size ∧ Below w.heap.size w wr) (fun _ i _ => 8 - (intOf i).toNat)
  case atStart => exact ⟨0, _, 0, by omega, rfl, rfl, Nat.le_refl _, by decide, hr0, A3, by simp; omega, hB0⟩
  case round =>
    obtain ⟨k, A, cap, hk, rfl, rfl, hle, hcm, hrow, hA, hBl, hB⟩ := hrel
    have hz := hB.size
    by_cases hlt : k < 8
    · rcases (show k = 0 ∨ k = 1 ∨ k = 2 ∨ k = 3 ∨ k = 4 ∨ k = 5 ∨ k = 6 ∨ k = 7 by omega) with rfl | rfl | rfl | rfl | rfl | rfl | rfl | rfl
      · have hzz : B + 1 ≤ (wr.alloc (.cells #[.int .i64 1779033703] 3)).heap.size := by simp; omega
        have hc := hA.cell (i := 0) (by decide)
        have hc2 : wr.cell? ⟨B, 0, none⟩ = some (.int .u32 1779033703) := hc
        clear hc
        go_wp2_with (at_builtin; refine wpList_app (α := Int) (xs := shaFirst.l.take 0) rfl _ _ rfl rfl rfl (hrow.allocC _) hle hcm rfl rfl (src_newb _ (1779033703 : Int) (by unfold Flat.ok; show I64 _; unfold I64; omega) _ _ _ (by first | rfl | simp) rfl) (disj_none_ _) (by decide) ?_; intro A' cap' w4 h1 h2 h3 h4)
        go_roundw
        case rel => exact ⟨0 + 1, A', cap', by omega, by first | rfl | simp, by first | rfl | simp, by simpa using h1, h2, row_nw8 h3 hzz, (hA.alloc _).keep (h4.block _ (by simp; omega) (by unfold nw; omega)), Nat.lt_of_lt_of_le hBl (Nat.le_trans (by simp) h4.size), (hB.alloc hz _).trans (h4.to_below (by simp; omega) (fun b hb => by unfold nw at hb; omega))⟩
        case measure => simp [intOf]
      · have hzz : B + 1 ≤ (wr.alloc (.cells #[.int .i64 3144134277] 3)).heap.size := by simp; omega
        have hc := hA.cell (i := 1) (by decide)
        have hc2 : wr.cell? ⟨B, 1, none⟩ = some (.int .u32 3144134277) := hc
        clear hc
        go_wp2_with (at_builtin; refine wpList_app (α := Int) (xs := shaFirst.l.take 1) rfl _ _ rfl rfl rfl (hrow.allocC _) hle hcm rfl rfl (src_newb _ (3144134277 : Int) (by unfold Flat.ok; show I64 _; unfold I64; omega) _ _ _ (by first | rfl | simp) rfl) (disj_none_ _) (by decide) ?_; intro A' cap' w4 h1 h2 h3 h4)
        go_roundw
        case rel => exact ⟨1 + 1, A', cap', by omega, by first | rfl | simp, by first | rfl | simp, by simpa using h1, h2, row_nw8 h3 hzz, (hA.alloc _).keep (h4.block _ (by simp; omega) (by unfold nw; omega)), Nat.lt_of_lt_of_le hBl (Nat.le_trans (by simp) h4.size), (hB.alloc hz _).trans (h4.to_below (by simp; omega) (fun b hb => by unfold nw at hb; omega))⟩
        case measure => simp [intOf]
      · have hzz : B + 1 ≤ (wr.alloc (.cells #[.int .i64 1013904242] 3)).heap.size := by simp; omega
        have hc := hA.cell (i := 2) (by decide)
        have hc2 : wr.cell? ⟨B, 2, none⟩ = some (.int .u32 1013904242) := hc
        clear hc
        go_wp2_with (at_builtin; refine wpList_app (α := Int) (xs := shaFirst.l.take 2) rfl _ _ rfl rfl rfl (hrow.allocC _) hle hcm rfl rfl (src_newb _ (1013904242 : Int) (by unfold Flat.ok; show I64 _; unfold I64; omega) _ _ _ (by first | rfl | simp) rfl) (disj_none_ _) (by decide) ?_; intro A' cap' w4 h1 h2 h3 h4)
        go_roundw
        case rel => exact ⟨2 + 1, A', cap', by omega, by first | rfl | simp, by first | rfl | simp, by simpa using h1, h2, row_nw8 h3 hzz, (hA.alloc _).keep (h4.block _ (by simp; omega) (by unfold nw; omega)), Nat.lt_of_lt_of_le hBl (Nat.le_trans (by simp) h4.size), (hB.alloc hz _).trans (h4.to_below (by simp; omega) (fun b hb => by unfold nw at hb; omega))⟩
        case measure => simp [intOf]
      · have hzz : B + 1 ≤ (wr.alloc (.cells #[.int .i64 2773480762] 3)).heap.size := by simp; omega
        have hc := hA.cell (i := 3) (by decide)
        have hc2 : wr.cell? ⟨B, 3, none⟩ = some (.int .u32 2773480762) := hc
        clear hc
        go_wp2_with (at_builtin; refine wpList_app (α := Int) (xs := shaFirst.l.take 3) rfl _ _ rfl rfl rfl (hrow.allocC _) hle hcm rfl rfl (src_newb _ (2773480762 : Int) (by unfold Flat.ok; show I64 _; unfold I64; omega) _ _ _ (by first | rfl | simp) rfl) (disj_none_ _) (by decide) ?_; intro A' cap' w4 h1 h2 h3 h4)
        go_roundw
        case rel => exact ⟨3 + 1, A', cap', by omega, by first | rfl | simp, by first | rfl | simp, by simpa using h1, h2, row_nw8 h3 hzz, (hA.alloc _).keep (h4.block _ (by simp; omega) (by unfold nw; omega)), Nat.lt_of_lt_of_le hBl (Nat.le_trans (by simp) h4.size), (hB.alloc hz _).trans (h4.to_below (by simp; omega) (fun b hb => by unfold nw at hb; omega))⟩
        case measure => simp [intOf]
      · have hzz : B + 1 ≤ (wr.alloc (.cells #[.int .i64 1359893119] 3)).heap.size := by simp; omega
        have hc := hA.cell (i := 4) (by decide)
        have hc2 : wr.cell? ⟨B, 4, none⟩ = some (.int .u32 1359893119) := hc
        clear hc
        go_wp2_with (at_builtin; refine wpList_app (α := Int) (xs := shaFirst.l.take 4) rfl _ _ rfl rfl rfl (hrow.allocC _) hle hcm rfl rfl (src_newb _ (1359893119 : Int) (by unfold Flat.ok; show I64 _; unfold I64; omega) _ _ _ (by first | rfl | simp) rfl) (disj_none_ _) (by decide) ?_; intro A' cap' w4 h1 h2 h3 h4)
        go_roundw
        case rel => exact ⟨4 + 1, A', cap', by omega, by first | rfl | simp, by first | rfl | simp, by simpa using h1, h2, row_nw8 h3 hzz, (hA.alloc _).keep (h4.block _ (by simp; omega) (by unfold nw; omega)), Nat.lt_of_lt_of_le hBl (Nat.le_trans (by simp) h4.size), (hB.alloc hz _).trans (h4.to_below (by simp; omega) (fun b hb => by unfold nw at hb; omega))⟩
        case measure => simp [intOf]
      · have hzz : B + 1 ≤ (wr.alloc (.cells #[.int .i64 2600822924] 3)).heap.size := by simp; omega
        have hc := hA.cell (i := 5) (by decide)
        have hc2 : wr.cell? ⟨B, 5, none⟩ = some (.int .u32 2600822924) := hc
        clear hc
        go_wp2_with (at_builtin; refine wpList_app (α := Int) (xs := shaFirst.l.take 5) rfl _ _ rfl rfl rfl (hrow.allocC _) hle hcm rfl rfl (src_newb _ (2600822924 : Int) (by unfold Flat.ok; show I64 _; unfold I64; omega) _ _ _ (by first | rfl | simp) rfl) (disj_none_ _) (by decide) ?_; intro A' cap' w4 h1 h2 h3 h4)
        go_roundw
        case rel => exact ⟨5 + 1, A', cap', by omega, by first | rfl | simp, by first | rfl | simp, by simpa using h1, h2, row_nw8 h3 hzz, (hA.alloc _).keep (h4.block _ (by simp; omega) (by unfold nw; omega)), Nat.lt_of_lt_of_le hBl (Nat.le_trans (by simp) h4.size), (hB.alloc hz _).trans (h4.to_below (by simp; omega) (fun b hb => by unfold nw at hb; omega))⟩
        case measure => simp [intOf]
      · have hzz : B + 1 ≤ (wr.alloc (.cells #[.int .i64 528734635] 3)).heap.size := by simp; omega
        have hc := hA.cell (i := 6) (by decide)
        have hc2 : wr.cell? ⟨B, 6, none⟩ = some (.int .u32 528734635) := hc
        clear hc
        go_wp2_with (at_builtin; refine wpList_app (α := Int) (xs := shaFirst.l.take 6) rfl _ _ rfl rfl rfl (hrow.allocC _) hle hcm rfl rfl (src_newb _ (528734635 : Int) (by unfold Flat.ok; show I64 _; unfold I64; omega) _ _ _ (by first | rfl | simp) rfl) (disj_none_ _) (by decide) ?_; intro A' cap' w4 h1 h2 h3 h4)
        go_roundw
        case rel => exact ⟨6 + 1, A', cap', by omega, by first | rfl | simp, by first | rfl | simp, by simpa using h1, h2, row_nw8 h3 hzz, (hA.alloc _).keep (h4.block _ (by simp; omega) (by unfold nw; omega)), Nat.lt_of_lt_of_le hBl (Nat.le_trans (by simp) h4.size), (hB.alloc hz _).trans (h4.to_below (by simp; omega) (fun b hb => by unfold nw at hb; omega))⟩
        case measure => simp [intOf]
      · have hzz : B + 1 ≤ (wr.alloc (.cells #[.int .i64 1541459225] 3)).heap.size := by simp; omega
        have hc := hA.cell (i := 7) (by decide)
        have hc2 : wr.cell? ⟨B, 7, none⟩ = some (.int .u32 1541459225) := hc
        clear hc
        go_wp2_with (at_builtin; refine wpList_app (α := Int) (xs := shaFirst.l.take 7) rfl _ _ rfl rfl rfl (hrow.allocC _) hle hcm rfl rfl (src_newb _ (1541459225 : Int) (by unfold Flat.ok; show I64 _; unfold I64; omega) _ _ _ (by first | rfl | simp) rfl) (disj_none_ _) (by decide) ?_; intro A' cap' w4 h1 h2 h3 h4)
        go_roundw
        case rel => exact ⟨7 + 1, A', cap', by omega, by first | rfl | simp, by first | rfl | simp, by simpa using h1, h2, row_nw8 h3 hzz, (hA.alloc _).keep (h4.block _ (by simp; omega) (by unfold nw; omega)), Nat.lt_of_lt_of_le hBl (Nat.le_trans (by simp) h4.size), (hB.alloc hz _).trans (h4.to_below (by simp; omega) (fun b hb => by unfold nw at hb; omega))⟩
        case measure => simp [intOf]
    · have hke : k = 8 := by omega
      subst hke
      go_wp2
      go_ret
      exact ⟨A, cap, rfl, hle, hcm, to_rng (hrow.mono (fun b hb => by unfold nw at *; omega)), hB⟩
end Go.Proofs.YtlbmikcfjgnnaaaDoor
