/- The program's Agree answers as the reference's, for every argument. No condition. -/
import Derived.Test.YtbnfkpbaaoknmaaLw
import Derived.Test.YtbnfkpbaaoknmaaBt
import Derived.Test.YtbnfkpbaaoknmaaSz
import Derived.Test.YtbnfkpbaaoknmaaTo
import Derived.Test.YtbnfkpbaaoknmaaEq
import Derived.Test.YtbnfkpbaaoknmaaMa
import Derived.Test.YtbnfkpbaaoknmaaHd
import Derived.Test.YtbnfkpbaaoknmaaCb
import Derived.Test.YtbnfkpbaaoknmaaAg
import Derived.Test.YtbnfkpbaaoknmaaRg
set_option linter.unusedVariables false
set_option linter.unusedSimpArgs false
namespace Go.Proofs.Ytbnfkpbaaoknmaa
open Go.RowKit Go.WideShapes Go.ChangeShapes Go.ChangeAt Lay Mk
set_option maxRecDepth 20000 in set_option maxHeartbeats 8000000 in
theorem law_Agree (w : World) (p0 : Auditor) (cp0 : List Value) (Sp0 : Blks) (hp0 : rd false w cp0 p0 Sp0) (p1 : Auditor) (cp1 : List Value) (Sp1 : Blks) (hp1 : rd false w cp1 p1 Sp1) : Calls Try.prog 5 #[.agg cp0.toArray, .agg cp1.toArray] w fun e w' => e = .returned (.bool true) ∧ Below w.heap.size w w' := by
  replace hp0 := old_rng hp0
  have HR_p0 := Lib.hid hp0; clear hp0
  have ln_p0 := Lay.len HR_p0.out
  replace hp1 := old_rng hp1
  have HR_p1 := Lib.hid hp1; clear hp1
  have ln_p1 := Lay.len HR_p1.out
  have k_p0 : (Try.prog.info? 50).map (·.size) = some (Lay.n Auditor) := by kernel_rfl
  have k_p1 : (Try.prog.info? 50).map (·.size) = some (Lay.n Auditor) := by kernel_rfl
  go_enter Try.func5, Try.ntmps5
  go_wp2_with (first | (refine wpList_box rfl _ _ rfl rfl ?_) | (refine wpList_loadT rfl _ _ rfl rfl ((At.new _ cp0 _ (0, 0)).alloc (by simp) _) Try.underlying50 k_p0 ln_p0 ?_) | (refine wpList_loadT rfl _ _ rfl rfl (At.new _ cp1 _ (0, 0)) Try.underlying50 k_p1 ln_p1 ?_))
  refine (sz_Auditor p0 _ _ _ _ (Lay.later (Lay.later HR_p0.out ((Below.refl _ _).alloc (Nat.le_refl _) _)) ((Below.refl _ _).alloc (Nat.le_refl _) _)) (by omega) (by omega)).mono ?_
  rintro e1 w1 ⟨⟨n1, rfl, hn1⟩, hb1⟩
  have hl1 : Below w.heap.size w w1 := (Below.via (Below.via hb1))
  have hB1 : Below w.heap.size w w1 := hl1
  have hz1 : w.heap.size + 2 ≤ w1.heap.size := by have := hb1.size; (try simp at this); omega
  replace HR_p0 := Lib.hid (Lay.later HR_p0.out hl1)
  replace HR_p1 := Lib.hid (Lay.later HR_p1.out hl1)
  have HA_p0 : Hid (At w1 (w.heap.size) 0 cp0) := Lib.hid (by have := ((At.new _ cp0 _ (0, 0)).alloc (by simp) _).below hb1 (by first | omega | (simp; done) | (simp; omega)); simpa using this)
  have lt_p0 : w.heap.size < w1.heap.size := by omega
  have HA_p1 : Hid (At w1 (w.heap.size + 1) 0 cp1) := Lib.hid (by have := (At.new _ cp1 _ (0, 0)).below hb1 (by first | omega | (simp; done) | (simp; omega)); simpa using this)
  have lt_p1 : w.heap.size + 1 < w1.heap.size := by omega
  rcases szR_cases hn1 (by omega) with rfl | ⟨hn1a, hn1b, sz_p0⟩
  · go_wp2_with (fail)
    go_ret; exact ⟨rfl, hB1⟩
  clear hn1
  go_wp2_with (first | (refine wpList_loadT rfl _ _ rfl rfl HA_p0.out Try.underlying50 k_p0 ln_p0 ?_) | (refine wpList_loadT rfl _ _ rfl rfl HA_p1.out Try.underlying50 k_p1 ln_p1 ?_))
  refine (sz_Auditor p1 _ _ _ _ HR_p1.out (by omega) (by omega)).mono ?_
  rintro e2 w2 ⟨⟨n2, rfl, hn2⟩, hb2⟩
  have hl2 := hb2
  have hB2 : Below w.heap.size w w2 := Below.step hB1 hl2
  have hz2 : w1.heap.size + 0 ≤ w2.heap.size := by have := hb2.size; (try simp at this); omega
  replace HR_p0 := Lib.hid (Lay.later HR_p0.out hl2)
  replace HR_p1 := Lib.hid (Lay.later HR_p1.out hl2)
  replace HA_p0 := Lib.hid (HA_p0.out.below hl2 lt_p0); replace lt_p0 := Nat.lt_of_lt_of_le lt_p0 hl2.size
  replace HA_p1 := Lib.hid (HA_p1.out.below hl2 lt_p1); replace lt_p1 := Nat.lt_of_lt_of_le lt_p1 hl2.size
  rcases szR_cases hn2 (by omega) with rfl | ⟨hn2a, hn2b, sz_p1⟩
  · go_wp2_with (fail)
    go_ret; exact ⟨rfl, hB2⟩
  clear hn2
  go_wp2_with (first | (refine wpList_loadT rfl _ _ rfl rfl HA_p0.out Try.underlying50 k_p0 ln_p0 ?_) | (refine wpList_loadT rfl _ _ rfl rfl HA_p1.out Try.underlying50 k_p1 ln_p1 ?_))
  refine wp_region_held_drew (S := fun W' => At W' (w.heap.size) 0 cp0 ∧ At W' (w.heap.size + 1) 0 cp1) (by kernel_rfl) ⟨HA_p0.out, HA_p1.out⟩ (fun hS => ?_)
  refine wpAnyH_take (i := 0) (v := .agg cp0.toArray) rfl (by kernel_rfl) (by kernel_rfl) (by kernel_rfl) (fun _ _ _ h => h) (yieldsIf_loadT (by rfl) _ _ rfl rfl (fun _ h => h.1) Try.underlying50 k_p0 ln_p0) hS ?_
  (try simp only [Act.put, List.setIfInBounds_toArray, List.set_cons_zero, List.set_cons_succ])
  refine wpAnyH_take (i := 2) (v := .agg cp1.toArray) rfl (by kernel_rfl) (by kernel_rfl) (by kernel_rfl) (fun _ _ _ h => h) (yieldsIf_loadT (by rfl) _ _ rfl rfl (fun _ h => h.2) Try.underlying50 k_p1 ln_p1) hS ?_
  (try simp only [Act.put, List.setIfInBounds_toArray, List.set_cons_zero, List.set_cons_succ])
  refine wpAnyH_ready (rs := [1]) (by kernel_rfl) (by simp) (AllReadyH.cons rfl (fun K hK => ?_) AllReadyH.nil)
  (try rw [if_pos (by rfl)])
  clear hS
  go_simp
  refine (to_Auditor p0 _ _ _ (Lay.later HR_p0.out ((Below.refl _ _).drew)) sz_p0).mono ?_
  rintro e3 w3 ⟨c_t3, rfl, hr_, hb3⟩
  have hb3 := Below.viad hb3
  have hl3 := hb3
  have hB3 : Below w.heap.size w w3 := Below.step hB2 hl3
  have hz3 : w2.heap.size + 0 ≤ w3.heap.size := by have := hb3.size; (try simp at this); omega
  replace HR_p0 := Lib.hid (Lay.later HR_p0.out hl3)
  replace HR_p1 := Lib.hid (Lay.later HR_p1.out hl3)
  replace HA_p0 := Lib.hid (HA_p0.out.below hl3 lt_p0); replace lt_p0 := Nat.lt_of_lt_of_le lt_p0 hl3.size
  replace HA_p1 := Lib.hid (HA_p1.out.below hl3 lt_p1); replace lt_p1 := Nat.lt_of_lt_of_le lt_p1 hl3.size
  have HR_t3 := Lib.hid (Lay.mono hr_ (S' := rng (w2.heap.size) (w3.heap.size)) (fun b h => by unfold rng at h ⊢; (try simp at h); omega)); clear hr_
  have sb_t3 : sub (rng (w2.heap.size) (w3.heap.size)) (rng (w2.heap.size) (w3.heap.size)) := sub_refl _
  refine hK.out _ _ ⟨HA_p0.out, HA_p1.out⟩ (fun hS => ?_)
  clear hK K
  (try simp only [Act.put, List.setIfInBounds_toArray, List.set_cons_zero, List.set_cons_succ])
  refine wpAnyH_ready (rs := [3]) (by kernel_rfl) (by simp) (AllReadyH.cons rfl (fun K hK => ?_) AllReadyH.nil)
  (try rw [if_pos (by rfl)])
  clear hS
  go_simp
  refine (to_Auditor p1 _ _ _ HR_p1.out sz_p1).mono ?_
  rintro e4 w4 ⟨c_t4, rfl, hr_, hb4⟩
  have hl4 := hb4
  have hB4 : Below w.heap.size w w4 := Below.step hB3 hl4
  have hz4 : w3.heap.size + 0 ≤ w4.heap.size := by have := hb4.size; (try simp at this); omega
  replace HR_p0 := Lib.hid (Lay.later HR_p0.out hl4)
  replace HR_p1 := Lib.hid (Lay.later HR_p1.out hl4)
  replace HR_t3 := Lib.hid (Lay.later HR_t3.out hl4)
  replace HA_p0 := Lib.hid (HA_p0.out.below hl4 lt_p0); replace lt_p0 := Nat.lt_of_lt_of_le lt_p0 hl4.size
  replace HA_p1 := Lib.hid (HA_p1.out.below hl4 lt_p1); replace lt_p1 := Nat.lt_of_lt_of_le lt_p1 hl4.size
  have HR_t4 := Lib.hid (Lay.mono hr_ (S' := rng (w3.heap.size) (w4.heap.size)) (fun b h => by unfold rng at h ⊢; (try simp at h); omega)); clear hr_
  have sb_t4 : sub (rng (w3.heap.size) (w4.heap.size)) (rng (w3.heap.size) (w4.heap.size)) := sub_refl _
  refine hK.out _ _ ⟨HA_p0.out, HA_p1.out⟩ (fun hS => ?_)
  clear hK K
  (try simp only [Act.put, List.setIfInBounds_toArray, List.set_cons_zero, List.set_cons_succ])
  refine wpAnyH_ready (rs := [4]) (by kernel_rfl) (by simp) (AllReadyH.cons rfl (fun K hK => ?_) AllReadyH.nil)
  (try rw [if_pos (by rfl)])
  clear hS
  go_simp
  refine (spec_Agree _ p0 c_t3 _ (Lay.weak HR_t3.out) sz_p0 p1 c_t4 _ (Lay.weak HR_t4.out) sz_p1).mono ?_
  rintro e5 w5 ⟨rfl, hb5⟩
  have hl5 := hb5
  have hB5 : Below w.heap.size w w5 := Below.step hB4 hl5
  have hz5 : w4.heap.size + 0 ≤ w5.heap.size := by have := hb5.size; (try simp at this); omega
  replace HR_p0 := Lib.hid (Lay.later HR_p0.out hl5)
  replace HR_p1 := Lib.hid (Lay.later HR_p1.out hl5)
  replace HR_t3 := Lib.hid (Lay.later HR_t3.out hl5)
  replace HR_t4 := Lib.hid (Lay.later HR_t4.out hl5)
  replace HA_p0 := Lib.hid (HA_p0.out.below hl5 lt_p0); replace lt_p0 := Nat.lt_of_lt_of_le lt_p0 hl5.size
  replace HA_p1 := Lib.hid (HA_p1.out.below hl5 lt_p1); replace lt_p1 := Nat.lt_of_lt_of_le lt_p1 hl5.size
  refine hK.out _ _ ⟨HA_p0.out, HA_p1.out⟩ (fun hS => ?_)
  clear hK K
  (try simp only [Act.put, List.setIfInBounds_toArray, List.set_cons_zero, List.set_cons_succ])
  refine wpAnyH_ready (rs := [5]) (by kernel_rfl) (by simp) (AllReadyH.cons rfl (fun K hK => ?_) AllReadyH.nil)
  go_simp
  refine hK.out _ _ hS (fun hS => ?_)
  clear hK K
  (try (try simp only [Act.put, List.setIfInBounds_toArray, List.set_cons_zero, List.set_cons_succ]))
  refine wpAnyH_done (by kernel_rfl) ?_ _
  clear hS
  clear HR_t3
  clear HR_t4
  go_wp2_with (first | (refine wpList_loadT rfl _ _ rfl rfl HA_p0.out Try.underlying50 k_p0 ln_p0 ?_) | (refine wpList_loadT rfl _ _ rfl rfl HA_p1.out Try.underlying50 k_p1 ln_p1 ?_))
  refine (to_Auditor p0 _ _ _ HR_p0.out sz_p0).mono ?_
  rintro e6 w6 ⟨c_x0, rfl, hr_, hb6⟩
  have hl6 := hb6
  have hB6 : Below w.heap.size w w6 := Below.step hB5 hl6
  have hz6 : w5.heap.size + 0 ≤ w6.heap.size := by have := hb6.size; (try simp at this); omega
  replace HR_p0 := Lib.hid (Lay.later HR_p0.out hl6)
  replace HR_p1 := Lib.hid (Lay.later HR_p1.out hl6)
  replace HA_p0 := Lib.hid (HA_p0.out.below hl6 lt_p0); replace lt_p0 := Nat.lt_of_lt_of_le lt_p0 hl6.size
  replace HA_p1 := Lib.hid (HA_p1.out.below hl6 lt_p1); replace lt_p1 := Nat.lt_of_lt_of_le lt_p1 hl6.size
  have HR_x0 := Lib.hid (Lay.mono hr_ (S' := rng (w5.heap.size) (w6.heap.size)) (fun b h => by unfold rng at h ⊢; (try simp at h); omega)); clear hr_
  have sb_x0 : sub (rng (w5.heap.size) (w6.heap.size)) (rng (w5.heap.size) (w6.heap.size)) := sub_refl _
  have ln_x0 := Lay.len HR_x0.out
  have on_x0 := Lay.one HR_x0.out
  have k_x0 : (Try.prog.info? 59).map (·.size) = some (Lay.n Auditor) := by kernel_rfl
  go_wp2_with (first | (refine wpList_storeNew (cs := c_x0.toArray) rfl _ _ _ rfl rfl rfl rfl (k_x0.trans (congrArg some ln_x0.symm)) (Eq.trans (b := Lay.n Auditor) rfl ln_x0.symm) (by simpa using on_x0) ?_) | (refine wpList_loadT rfl _ _ rfl rfl (At.new _ c_x0 _ (0, 0)) Try.underlying59 k_x0 ln_x0 ?_) | (refine wpList_loadT rfl _ _ rfl rfl (HA_p0.out.alloc lt_p0 _) Try.underlying50 k_p0 ln_p0 ?_) | (refine wpList_loadT rfl _ _ rfl rfl (HA_p1.out.alloc lt_p1 _) Try.underlying50 k_p1 ln_p1 ?_))
  refine (to_Auditor p1 _ _ _ (Lay.later HR_p1.out ((Below.refl _ _).alloc (Nat.le_refl _) _)) sz_p1).mono ?_
  rintro e7 w7 ⟨c_x1, rfl, hr_, hb7⟩
  have hl7 : Below w6.heap.size w6 w7 := (Below.via hb7)
  have hB7 : Below w.heap.size w w7 := Below.step hB6 hl7
  have hz7 : w6.heap.size + 1 ≤ w7.heap.size := by have := hb7.size; (try simp at this); omega
  replace HR_p0 := Lib.hid (Lay.later HR_p0.out hl7)
  replace HR_p1 := Lib.hid (Lay.later HR_p1.out hl7)
  replace HR_x0 := Lib.hid (Lay.later HR_x0.out hl7)
  replace HA_p0 := Lib.hid (HA_p0.out.below hl7 lt_p0); replace lt_p0 := Nat.lt_of_lt_of_le lt_p0 hl7.size
  replace HA_p1 := Lib.hid (HA_p1.out.below hl7 lt_p1); replace lt_p1 := Nat.lt_of_lt_of_le lt_p1 hl7.size
  have HA_x0 : Hid (At w7 (w6.heap.size) 0 c_x0) := Lib.hid (by have := (At.new w6 c_x0 _ (0, 0)).below (b := w6.heap.size) hb7 (by simp); simpa using this)
  have lt_x0 : w6.heap.size < w7.heap.size := by omega
  have HR_x1 := Lib.hid (Lay.mono hr_ (S' := rng (w6.heap.size + 1) (w7.heap.size)) (fun b h => by unfold rng at h ⊢; (try simp at h); omega)); clear hr_
  have sb_x1 : sub (rng (w6.heap.size + 1) (w7.heap.size)) (rng (w6.heap.size + 1) (w7.heap.size)) := sub_refl _
  have ln_x1 := Lay.len HR_x1.out
  have on_x1 := Lay.one HR_x1.out
  have k_x1 : (Try.prog.info? 59).map (·.size) = some (Lay.n Auditor) := by kernel_rfl
  go_wp2_with (first | (refine wpList_storeNew (cs := c_x1.toArray) rfl _ _ _ rfl rfl rfl rfl (k_x1.trans (congrArg some ln_x1.symm)) (Eq.trans (b := Lay.n Auditor) rfl ln_x1.symm) (by simpa using on_x1) ?_) | (refine wpList_loadT rfl _ _ rfl rfl (At.new _ c_x1 _ (0, 0)) Try.underlying59 k_x1 ln_x1 ?_) | (refine wpList_loadT rfl _ _ rfl rfl (HA_p0.out.alloc lt_p0 _) Try.underlying50 k_p0 ln_p0 ?_) | (refine wpList_loadT rfl _ _ rfl rfl (HA_p1.out.alloc lt_p1 _) Try.underlying50 k_p1 ln_p1 ?_) | (refine wpList_loadT rfl _ _ rfl rfl (HA_x0.out.alloc lt_x0 _) Try.underlying59 k_x0 ln_x0 ?_))
  refine (impl_Agree _ p0 c_x0 _ (Lay.weak (Lay.later HR_x0.out ((Below.refl _ _).alloc (Nat.le_refl _) _))) sz_p0 p1 c_x1 _ (Lay.weak (Lay.later HR_x1.out ((Below.refl _ _).alloc (Nat.le_refl _) _))) sz_p1).mono ?_
  rintro e8 w8 ⟨rfl, hb8⟩
  have hl8 : Below w7.heap.size w7 w8 := (Below.via hb8)
  have hB8 : Below w.heap.size w w8 := Below.step hB7 hl8
  have hz8 : w7.heap.size + 1 ≤ w8.heap.size := by have := hb8.size; (try simp at this); omega
  replace HR_p0 := Lib.hid (Lay.later HR_p0.out hl8)
  replace HR_p1 := Lib.hid (Lay.later HR_p1.out hl8)
  replace HR_x0 := Lib.hid (Lay.later HR_x0.out hl8)
  replace HR_x1 := Lib.hid (Lay.later HR_x1.out hl8)
  replace HA_p0 := Lib.hid (HA_p0.out.below hl8 lt_p0); replace lt_p0 := Nat.lt_of_lt_of_le lt_p0 hl8.size
  replace HA_p1 := Lib.hid (HA_p1.out.below hl8 lt_p1); replace lt_p1 := Nat.lt_of_lt_of_le lt_p1 hl8.size
  replace HA_x0 := Lib.hid (HA_x0.out.below hl8 lt_x0); replace lt_x0 := Nat.lt_of_lt_of_le lt_x0 hl8.size
  have HA_x1 : Hid (At w8 (w7.heap.size) 0 c_x1) := Lib.hid (by have := (At.new w7 c_x1 _ (0, 0)).below (b := w7.heap.size) hb8 (by simp); simpa using this)
  have lt_x1 : w7.heap.size < w8.heap.size := by omega
  go_wp2_with (first | (refine wpList_loadT rfl _ _ rfl rfl HA_p0.out Try.underlying50 k_p0 ln_p0 ?_) | (refine wpList_loadT rfl _ _ rfl rfl HA_p1.out Try.underlying50 k_p1 ln_p1 ?_) | (refine wpList_loadT rfl _ _ rfl rfl HA_x0.out Try.underlying59 k_x0 ln_x0 ?_) | (refine wpList_loadT rfl _ _ rfl rfl HA_x1.out Try.underlying59 k_x1 ln_x1 ?_))
  refine wp_region_held_drew (S := fun W' => At W' (w6.heap.size) 0 c_x0 ∧ At W' (w.heap.size) 0 cp0) (by kernel_rfl) ⟨HA_x0.out, HA_p0.out⟩ (fun hS => ?_)
  refine wpAnyH_take (i := 0) (v := .agg c_x0.toArray) rfl (by kernel_rfl) (by kernel_rfl) (by kernel_rfl) (fun _ _ _ h => h) (yieldsIf_loadT (by rfl) _ _ rfl rfl (fun _ h => h.1) Try.underlying59 k_x0 ln_x0) hS ?_
  (try simp only [Act.put, List.setIfInBounds_toArray, List.set_cons_zero, List.set_cons_succ])
  refine wpAnyH_take (i := 1) (v := .agg cp0.toArray) rfl (by kernel_rfl) (by kernel_rfl) (by kernel_rfl) (fun _ _ _ h => h) (yieldsIf_loadT (by rfl) _ _ rfl rfl (fun _ h => h.2) Try.underlying50 k_p0 ln_p0) hS ?_
  (try simp only [Act.put, List.setIfInBounds_toArray, List.set_cons_zero, List.set_cons_succ])
  refine wpAnyH_ready (rs := [2]) (by kernel_rfl) (by simp) (AllReadyH.cons rfl (fun K hK => ?_) AllReadyH.nil)
  (try rw [if_pos (by rfl)])
  clear hS
  go_simp
  refine (to_Auditor p0 _ _ _ (Lay.later HR_p0.out ((Below.refl _ _).drew)) sz_p0).mono ?_
  rintro e9 w9 ⟨c_t9, rfl, hr_, hb9⟩
  have hb9 := Below.viad hb9
  have hl9 := hb9
  have hB9 : Below w.heap.size w w9 := Below.step hB8 hl9
  have hz9 : w8.heap.size + 0 ≤ w9.heap.size := by have := hb9.size; (try simp at this); omega
  replace HR_p0 := Lib.hid (Lay.later HR_p0.out hl9)
  replace HR_p1 := Lib.hid (Lay.later HR_p1.out hl9)
  replace HR_x0 := Lib.hid (Lay.later HR_x0.out hl9)
  replace HR_x1 := Lib.hid (Lay.later HR_x1.out hl9)
  replace HA_p0 := Lib.hid (HA_p0.out.below hl9 lt_p0); replace lt_p0 := Nat.lt_of_lt_of_le lt_p0 hl9.size
  replace HA_p1 := Lib.hid (HA_p1.out.below hl9 lt_p1); replace lt_p1 := Nat.lt_of_lt_of_le lt_p1 hl9.size
  replace HA_x0 := Lib.hid (HA_x0.out.below hl9 lt_x0); replace lt_x0 := Nat.lt_of_lt_of_le lt_x0 hl9.size
  replace HA_x1 := Lib.hid (HA_x1.out.below hl9 lt_x1); replace lt_x1 := Nat.lt_of_lt_of_le lt_x1 hl9.size
  have HR_t9 := Lib.hid (Lay.mono hr_ (S' := rng (w8.heap.size) (w9.heap.size)) (fun b h => by unfold rng at h ⊢; (try simp at h); omega)); clear hr_
  have sb_t9 : sub (rng (w8.heap.size) (w9.heap.size)) (rng (w8.heap.size) (w9.heap.size)) := sub_refl _
  refine hK.out _ _ ⟨HA_x0.out, HA_p0.out⟩ (fun hS => ?_)
  clear hK K
  (try simp only [Act.put, List.setIfInBounds_toArray, List.set_cons_zero, List.set_cons_succ])
  refine wpAnyH_ready (rs := [3]) (by kernel_rfl) (by simp) (AllReadyH.cons rfl (fun K hK => ?_) AllReadyH.nil)
  (try rw [if_pos (by rfl)])
  clear hS
  go_simp
  refine (eq_Auditor p0 _ _ _ _ _ (Lay.weak HR_x0.out) (Lay.weak HR_t9.out)).mono ?_
  rintro e10 w10 ⟨rfl, hb10⟩
  have hl10 := hb10
  have hB10 : Below w.heap.size w w10 := Below.step hB9 hl10
  have hz10 : w9.heap.size + 0 ≤ w10.heap.size := by have := hb10.size; (try simp at this); omega
  replace HR_p0 := Lib.hid (Lay.later HR_p0.out hl10)
  replace HR_p1 := Lib.hid (Lay.later HR_p1.out hl10)
  replace HR_x0 := Lib.hid (Lay.later HR_x0.out hl10)
  replace HR_x1 := Lib.hid (Lay.later HR_x1.out hl10)
  replace HR_t9 := Lib.hid (Lay.later HR_t9.out hl10)
  replace HA_p0 := Lib.hid (HA_p0.out.below hl10 lt_p0); replace lt_p0 := Nat.lt_of_lt_of_le lt_p0 hl10.size
  replace HA_p1 := Lib.hid (HA_p1.out.below hl10 lt_p1); replace lt_p1 := Nat.lt_of_lt_of_le lt_p1 hl10.size
  replace HA_x0 := Lib.hid (HA_x0.out.below hl10 lt_x0); replace lt_x0 := Nat.lt_of_lt_of_le lt_x0 hl10.size
  replace HA_x1 := Lib.hid (HA_x1.out.below hl10 lt_x1); replace lt_x1 := Nat.lt_of_lt_of_le lt_x1 hl10.size
  refine hK.out _ _ ⟨HA_x0.out, HA_p0.out⟩ (fun hS => ?_)
  clear hK K
  (try simp only [Act.put, List.setIfInBounds_toArray, List.set_cons_zero, List.set_cons_succ])
  refine wpAnyH_ready (rs := [4]) (by kernel_rfl) (by simp) (AllReadyH.cons rfl (fun K hK => ?_) AllReadyH.nil)
  go_simp
  refine hK.out _ _ hS (fun hS => ?_)
  clear hK K
  (try (try simp only [Act.put, List.setIfInBounds_toArray, List.set_cons_zero, List.set_cons_succ]))
  refine wpAnyH_done (by kernel_rfl) ?_ _
  clear hS
  clear HR_t9
  go_wp2_with (first | (refine wpList_loadT rfl _ _ rfl rfl HA_p0.out Try.underlying50 k_p0 ln_p0 ?_) | (refine wpList_loadT rfl _ _ rfl rfl HA_p1.out Try.underlying50 k_p1 ln_p1 ?_) | (refine wpList_loadT rfl _ _ rfl rfl HA_x0.out Try.underlying59 k_x0 ln_x0 ?_) | (refine wpList_loadT rfl _ _ rfl rfl HA_x1.out Try.underlying59 k_x1 ln_x1 ?_))
  refine wp_region_held_drew (S := fun W' => At W' (w7.heap.size) 0 c_x1 ∧ At W' (w.heap.size + 1) 0 cp1) (by kernel_rfl) ⟨HA_x1.out, HA_p1.out⟩ (fun hS => ?_)
  refine wpAnyH_take (i := 0) (v := .agg c_x1.toArray) rfl (by kernel_rfl) (by kernel_rfl) (by kernel_rfl) (fun _ _ _ h => h) (yieldsIf_loadT (by rfl) _ _ rfl rfl (fun _ h => h.1) Try.underlying59 k_x1 ln_x1) hS ?_
  (try simp only [Act.put, List.setIfInBounds_toArray, List.set_cons_zero, List.set_cons_succ])
  refine wpAnyH_take (i := 1) (v := .agg cp1.toArray) rfl (by kernel_rfl) (by kernel_rfl) (by kernel_rfl) (fun _ _ _ h => h) (yieldsIf_loadT (by rfl) _ _ rfl rfl (fun _ h => h.2) Try.underlying50 k_p1 ln_p1) hS ?_
  (try simp only [Act.put, List.setIfInBounds_toArray, List.set_cons_zero, List.set_cons_succ])
  refine wpAnyH_ready (rs := [2]) (by kernel_rfl) (by simp) (AllReadyH.cons rfl (fun K hK => ?_) AllReadyH.nil)
  (try rw [if_pos (by rfl)])
  clear hS
  go_simp
  refine (to_Auditor p1 _ _ _ (Lay.later HR_p1.out ((Below.refl _ _).drew)) sz_p1).mono ?_
  rintro e11 w11 ⟨c_t11, rfl, hr_, hb11⟩
  have hb11 := Below.viad hb11
  have hl11 := hb11
  have hB11 : Below w.heap.size w w11 := Below.step hB10 hl11
  have hz11 : w10.heap.size + 0 ≤ w11.heap.size := by have := hb11.size; (try simp at this); omega
  replace HR_p0 := Lib.hid (Lay.later HR_p0.out hl11)
  replace HR_p1 := Lib.hid (Lay.later HR_p1.out hl11)
  replace HR_x0 := Lib.hid (Lay.later HR_x0.out hl11)
  replace HR_x1 := Lib.hid (Lay.later HR_x1.out hl11)
  replace HA_p0 := Lib.hid (HA_p0.out.below hl11 lt_p0); replace lt_p0 := Nat.lt_of_lt_of_le lt_p0 hl11.size
  replace HA_p1 := Lib.hid (HA_p1.out.below hl11 lt_p1); replace lt_p1 := Nat.lt_of_lt_of_le lt_p1 hl11.size
  replace HA_x0 := Lib.hid (HA_x0.out.below hl11 lt_x0); replace lt_x0 := Nat.lt_of_lt_of_le lt_x0 hl11.size
  replace HA_x1 := Lib.hid (HA_x1.out.below hl11 lt_x1); replace lt_x1 := Nat.lt_of_lt_of_le lt_x1 hl11.size
  have HR_t11 := Lib.hid (Lay.mono hr_ (S' := rng (w10.heap.size) (w11.heap.size)) (fun b h => by unfold rng at h ⊢; (try simp at h); omega)); clear hr_
  have sb_t11 : sub (rng (w10.heap.size) (w11.heap.size)) (rng (w10.heap.size) (w11.heap.size)) := sub_refl _
  refine hK.out _ _ ⟨HA_x1.out, HA_p1.out⟩ (fun hS => ?_)
  clear hK K
  (try simp only [Act.put, List.setIfInBounds_toArray, List.set_cons_zero, List.set_cons_succ])
  refine wpAnyH_ready (rs := [3]) (by kernel_rfl) (by simp) (AllReadyH.cons rfl (fun K hK => ?_) AllReadyH.nil)
  (try rw [if_pos (by rfl)])
  clear hS
  go_simp
  refine (eq_Auditor p1 _ _ _ _ _ (Lay.weak HR_x1.out) (Lay.weak HR_t11.out)).mono ?_
  rintro e12 w12 ⟨rfl, hb12⟩
  have hl12 := hb12
  have hB12 : Below w.heap.size w w12 := Below.step hB11 hl12
  have hz12 : w11.heap.size + 0 ≤ w12.heap.size := by have := hb12.size; (try simp at this); omega
  replace HR_p0 := Lib.hid (Lay.later HR_p0.out hl12)
  replace HR_p1 := Lib.hid (Lay.later HR_p1.out hl12)
  replace HR_x0 := Lib.hid (Lay.later HR_x0.out hl12)
  replace HR_x1 := Lib.hid (Lay.later HR_x1.out hl12)
  replace HR_t11 := Lib.hid (Lay.later HR_t11.out hl12)
  replace HA_p0 := Lib.hid (HA_p0.out.below hl12 lt_p0); replace lt_p0 := Nat.lt_of_lt_of_le lt_p0 hl12.size
  replace HA_p1 := Lib.hid (HA_p1.out.below hl12 lt_p1); replace lt_p1 := Nat.lt_of_lt_of_le lt_p1 hl12.size
  replace HA_x0 := Lib.hid (HA_x0.out.below hl12 lt_x0); replace lt_x0 := Nat.lt_of_lt_of_le lt_x0 hl12.size
  replace HA_x1 := Lib.hid (HA_x1.out.below hl12 lt_x1); replace lt_x1 := Nat.lt_of_lt_of_le lt_x1 hl12.size
  refine hK.out _ _ ⟨HA_x1.out, HA_p1.out⟩ (fun hS => ?_)
  clear hK K
  (try simp only [Act.put, List.setIfInBounds_toArray, List.set_cons_zero, List.set_cons_succ])
  refine wpAnyH_ready (rs := [4]) (by kernel_rfl) (by simp) (AllReadyH.cons rfl (fun K hK => ?_) AllReadyH.nil)
  go_simp
  refine hK.out _ _ hS (fun hS => ?_)
  clear hK K
  (try (try simp only [Act.put, List.setIfInBounds_toArray, List.set_cons_zero, List.set_cons_succ]))
  refine wpAnyH_done (by kernel_rfl) ?_ _
  clear hS
  clear HR_t11
  go_wp2_with (first | (refine wpList_loadT rfl _ _ rfl rfl HA_p0.out Try.underlying50 k_p0 ln_p0 ?_) | (refine wpList_loadT rfl _ _ rfl rfl HA_p1.out Try.underlying50 k_p1 ln_p1 ?_) | (refine wpList_loadT rfl _ _ rfl rfl HA_x0.out Try.underlying59 k_x0 ln_x0 ?_) | (refine wpList_loadT rfl _ _ rfl rfl HA_x1.out Try.underlying59 k_x1 ln_x1 ?_))
  go_ret; exact ⟨rfl, hB12⟩
set_option maxRecDepth 100000 in
theorem lifted_Agree (os : Os) (started : os.Started) (H : Type) (enc : TypeId × Value → H) :
    ReturnsInHanded {} Try.checked os 5 .any (Rows.fnExactAgreeSpec.pre6 enc Try.prog Try.f5 Rows.fnExactAgreeRow.domain false) (Rows.fnExactAgreeSpec.post enc Try.prog Try.f5 false true false false) := by
  refine returnsInHanded_of_change (C := Try.checked) own_ started (by kernel_rfl) Try.func5
    (ChangeSpec.witness6 (enc := enc) (C := Try.checked) false ⟨#[], #[.agg #[.int .i64 0, .bool false, .slice none 0 0, .slice none 0 0, .slice none 0 0, .slice none 0 0], .agg #[.int .i64 0, .bool false, .slice none 0 0, .slice none 0 0, .slice none 0 0, .slice none 0 0]], []⟩ 8 (by kernel_rfl) (by kernel_rfl) (by kernel_rfl) (by kernel_rfl)) ?_
  intro W base args ds gs before hval0 hW hcnd _
  have hval : ∀ (j : Nat) t v, Try.f5.params[j]? = some t → args[j]? = some v → Value.okWide Try.prog W .any base t v := hval0
  have hW' := hW
  obtain ⟨p, q, hA0, hV, rfl, hfz, hnd⟩ := hW
  have hA : DataW.TrodAll enc Try.prog W 0 (fun _ => true) true Try.f5.params.toList args.toList ds p := hA0
  rw [Try.params5] at hA hval
  have hA2 := hA
  obtain ⟨v0, vs0, d0, ds0, p0, q0, hargs0, rfl, rfl, h0, r0⟩ := trodAll_cons hA
  obtain ⟨v1, vs1, d1, ds1, p1, q1, hargs1, rfl, rfl, h1, r1⟩ := trodAll_cons r0
  obtain ⟨rfl, rfl, rfl⟩ := trodAll_nil r1
  try subst hargs1
  obtain rfl : args = #[v0, v1] := by cases args; simp_all
  obtain ⟨rfl, rfl⟩ := trodVars_none hV
  obtain ⟨c0, rfl⟩ := okWide_agg Try.underlying50 (hval 0 50 v0 rfl rfl)
  obtain ⟨fu0, hf0⟩ := h0
  obtain ⟨x0, hx0⟩ := rdb_Auditor H enc W 0 _ _ fu0 _ _ hf0
  obtain ⟨c1, rfl⟩ := okWide_agg Try.underlying50 (hval 1 50 v1 rfl rfl)
  obtain ⟨fu1, hf1⟩ := h1
  obtain ⟨x1, hx1⟩ := rdb_Auditor H enc W 0 _ _ fu1 _ _ hf1
  refine (law_Agree W x0 c0.toList All hx0 x1 c1.toList All hx1).mono fun e W' ⟨he, hb⟩ => ?_
  subst he
  refine ⟨_, rfl, post_below (pa := p0 ++ (p1 ++ [])) (pv := []) hW' (fun _ _ _ => trodAll_mk1 (shut_bool Try.underlying4 true)) (fun sp hsp => ?_) (fun _ _ => rfl) (by simp) hb (ok_one (by kernel_rfl) rfl (okWide_bool_mk Try.underlying4 true))⟩
  rw [show Try.f5.params.toList = _ from congrArg Array.toList Try.params5]
  exact trodAll_stays laidOut_ hb _ _ _ _ (by intro t ht; simp at ht; rcases ht with rfl | rfl <;> exact ⟨by kernel_rfl, by decide +kernel⟩) hA2 (fun x hx => hW'.lt x (by simpa using hx)) (fun x hx => hsp x (by simpa using hx))
theorem holds_Agree : Rows.FnExactAgreeSaid :=
  OpenClaim.holds_of_wide 5 Try.f5 rfl rfl rfl rfl rfl rfl rfl ⟨rfl, rfl, rfl, rfl, rfl⟩ rfl rfl rfl rfl rfl (by kernel_rfl) Try.func5 (by kernel_rfl)
    (of_decide_eq_true (by kernel_rfl)) (by unfold Func.isWrapper; first | (rw [if_pos (by decide +kernel)]; kernel_rfl) | (rw [if_neg (by decide +kernel)]; exact ⟨rfl, rfl⟩))
    (fun os started H enc _ => lifted_Agree os started H enc)
end Go.Proofs.Ytbnfkpbaaoknmaa
