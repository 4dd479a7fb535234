/- A part of the proof: what the laws need of it. -/
import Derived.Test.YtlfnmbcnehaikaaGreatDoorTie
import Derived.Test.YtlfnmbcnehaikaaGreatDoorCards
import Derived.Test.YtlfnmbcnehaikaaGreatDoorHRaL7xLw
import Derived.Test.YtlfnmbcnehaikaaGreatDoorHRaL5xTop
import Derived.Test.YtlfnmbcnehaikaaGreatDoorHRaSz
import Derived.Test.YtlfnmbcnehaikaaGreatDoorHRaTo
import Derived.Test.YtlfnmbcnehaikaaGreatDoorHRaEq
import Derived.Test.YtlfnmbcnehaikaaGreatDoorHRaMa
import Derived.Test.YtlfnmbcnehaikaaGreatDoorHRaHd
import Derived.Test.YtlfnmbcnehaikaaGreatDoorHRaL13xDl
import Derived.Test.YtlfnmbcnehaikaaGreatDoorHRaL12xDh
import Derived.Test.YtlfnmbcnehaikaaGreatDoorHRaUh
import Derived.Test.YtlfnmbcnehaikaaGreatDoorHRaL14xRf
import Derived.Test.YtlfnmbcnehaikaaGreatDoorHRaJRiseAuditor
set_option linter.unusedVariables false
set_option linter.unusedSimpArgs false
set_option linter.unusedVariables false
set_option linter.unusedSimpArgs false
namespace Go.Proofs.YtlfnmbcnehaikaaGreatDoor
open Go.RowKit Go.WideShapes Go.ChangeShapes Go.ChangeAt Lay Mk
set_option maxRecDepth 20000 in set_option maxHeartbeats 8000000 in
theorem law_RiseAuditor (w : World) (p0 : Auditor) (cp0 : List Value) (Sp0 : Blks) (hp0 : rd false w cp0 p0 Sp0) (hT : Tabs w) : Calls Tryz.prog 5 #[.agg cp0.toArray] w fun e w' => e = .returned (.bool true) ∧ Below w.heap.size w w' := by
  have HTb := Lib.hid hT; clear hT
  replace hp0 := old_rng hp0
  have HR_p0 := Lib.hid hp0; clear hp0
  have ln_p0 := Lay.len HR_p0.out
  have k_p0 : (Tryz.prog.info? 44).map (·.size) = some (Lay.n Auditor) := by kernel_rfl
  go_enter Tryz.func5, Tryz.ntmps5
  go_wp2_with (first | (refine wpList_box rfl _ _ rfl rfl ?_) | (refine wpList_loadT rfl _ _ rfl rfl (At.new _ cp0 _ (0, 0)) Tryz.underlying44 k_p0 ln_p0 ?_))
  refine (sz_Auditor p0 _ _ _ _ (Lay.later HR_p0.out ((Below.refl _ _).alloc (Nat.le_refl _) _)) (by omega) (by omega)).mono ?_
  rintro e1 w1 ⟨⟨n1, rfl, hn1⟩, hb1⟩
  have hl1 : Below w.heap.size w w1 := (Below.via hb1)
  have hB1 : Below w.heap.size w w1 := hl1
  have hz1 : w.heap.size + 1 ≤ w1.heap.size := by have := hb1.size; (try simp at this); omega
  replace HR_p0 := Lib.hid (Lay.later HR_p0.out hl1)
  have HA_p0 : Hid (At w1 (w.heap.size) 0 cp0) := Lib.hid (by have := (At.new w cp0 _ (0, 0)).below (b := w.heap.size) hb1 (by simp); simpa using this)
  have lt_p0 : w.heap.size < w1.heap.size := by omega
  rcases szR_cases hn1 (by omega) with rfl | ⟨hn1a, hn1b, sz_p0⟩
  · go_wp2_with (fail)
    go_ret; exact ⟨rfl, hB1⟩
  clear hn1
  go_wp2_with (first | (refine wpList_loadT rfl _ _ rfl rfl HA_p0.out Tryz.underlying44 k_p0 ln_p0 ?_))
  refine (to_Auditor p0 _ _ _ HR_p0.out sz_p0).mono ?_
  rintro e2 w2 ⟨c_t2, rfl, hr_, hb2⟩
  have hl2 := hb2
  have hB2 : Below w.heap.size w w2 := Below.step hB1 hl2
  have hz2 : w1.heap.size + 0 ≤ w2.heap.size := by have := hb2.size; (try simp at this); omega
  replace HR_p0 := Lib.hid (Lay.later HR_p0.out hl2)
  replace HA_p0 := Lib.hid (HA_p0.out.below hl2 lt_p0); replace lt_p0 := Nat.lt_of_lt_of_le lt_p0 hl2.size
  have HR_t2 := Lib.hid (Lay.mono hr_ (S' := rng (w1.heap.size) (w2.heap.size)) (fun b h => by unfold rng at h ⊢; (try simp at h); omega)); clear hr_
  have sb_t2 : sub (rng (w1.heap.size) (w2.heap.size)) (rng (w1.heap.size) (w2.heap.size)) := sub_refl _
  go_wp2_with (first | (refine wpList_loadT rfl _ _ rfl rfl HA_p0.out Tryz.underlying44 k_p0 ln_p0 ?_))
  refine (spec_RiseAuditor _ p0 c_t2 _ (Lay.weak HR_t2.out) sz_p0).mono ?_
  rintro e3 w3 ⟨c_w0, rfl, hr_w0, hb3⟩
  have hl3 := hb3
  have hB3 : Below w.heap.size w w3 := Below.step hB2 hl3
  have hz3 : w2.heap.size + 0 ≤ w3.heap.size := by have := hb3.size; (try simp at this); omega
  replace HR_p0 := Lib.hid (Lay.later HR_p0.out hl3)
  replace HR_t2 := Lib.hid (Lay.later HR_t2.out hl3)
  replace HA_p0 := Lib.hid (HA_p0.out.below hl3 lt_p0); replace lt_p0 := Nat.lt_of_lt_of_le lt_p0 hl3.size
  have hr_ := hr_w0; clear hr_w0
  have HR_w0 := Lib.hid (Lay.mono hr_ (S' := rng (w2.heap.size) (w3.heap.size)) (fun b h => by unfold rng at h ⊢; (try simp at h); omega)); clear hr_
  have sb_w0 : sub (rng (w2.heap.size) (w3.heap.size)) (rng (w2.heap.size) (w3.heap.size)) := sub_refl _
  clear HR_t2
  have ln_w0 := Lay.len HR_w0.out
  have on_w0 := Lay.one HR_w0.out
  have k_w0 : (Tryz.prog.info? 33).map (·.size) = some (Lay.n Auditor) := by kernel_rfl
  go_wp2_with (first | (refine wpList_storeNew (cs := c_w0.toArray) rfl _ _ _ rfl rfl rfl rfl (k_w0.trans (congrArg some ln_w0.symm)) (Eq.trans (b := Lay.n Auditor) rfl ln_w0.symm) (by simpa using on_w0) ?_) | (refine wpList_loadT rfl _ _ rfl rfl (At.new _ c_w0 _ (0, 0)) Tryz.underlying33 k_w0 ln_w0 ?_) | (refine wpList_loadTG (by first | rfl | simp [Region.wanted, yielded]) _ _ rfl rfl (At.new _ c_w0 _ (0, 0)) Tryz.underlying33 k_w0 ln_w0 ?_) | (refine wpList_loadT rfl _ _ rfl rfl (HA_p0.out.alloc lt_p0 _) Tryz.underlying44 k_p0 ln_p0 ?_))
  refine (to_Auditor p0 _ _ _ (Lay.later HR_p0.out ((Below.refl _ _).alloc (Nat.le_refl _) _)) sz_p0).mono ?_
  rintro e4 w4 ⟨c_x0, rfl, hr_, hb4⟩
  have hl4 : Below w3.heap.size w3 w4 := (Below.via hb4)
  have hB4 : Below w.heap.size w w4 := Below.step hB3 hl4
  have hz4 : w3.heap.size + 1 ≤ w4.heap.size := by have := hb4.size; (try simp at this); omega
  replace HR_p0 := Lib.hid (Lay.later HR_p0.out hl4)
  replace HR_w0 := Lib.hid (Lay.later HR_w0.out hl4)
  replace HA_p0 := Lib.hid (HA_p0.out.below hl4 lt_p0); replace lt_p0 := Nat.lt_of_lt_of_le lt_p0 hl4.size
  have HA_w0 : Hid (At w4 (w3.heap.size) 0 c_w0) := Lib.hid (by have := (At.new w3 c_w0 _ (0, 0)).below (b := w3.heap.size) hb4 (by simp); simpa using this)
  have lt_w0 : w3.heap.size < w4.heap.size := by omega
  have HR_x0 := Lib.hid (Lay.mono hr_ (S' := rng (w3.heap.size + 1) (w4.heap.size)) (fun b h => by unfold rng at h ⊢; (try simp at h); omega)); clear hr_
  have sb_x0 : sub (rng (w3.heap.size + 1) (w4.heap.size)) (rng (w3.heap.size + 1) (w4.heap.size)) := sub_refl _
  have ln_x0 := Lay.len HR_x0.out
  have on_x0 := Lay.one HR_x0.out
  have k_x0 : (Tryz.prog.info? 33).map (·.size) = some (Lay.n Auditor) := by kernel_rfl
  go_wp2_with (first | (refine wpList_storeNew (cs := c_x0.toArray) rfl _ _ _ rfl rfl rfl rfl (k_x0.trans (congrArg some ln_x0.symm)) (Eq.trans (b := Lay.n Auditor) rfl ln_x0.symm) (by simpa using on_x0) ?_) | (refine wpList_loadT rfl _ _ rfl rfl (At.new _ c_x0 _ (0, 0)) Tryz.underlying33 k_x0 ln_x0 ?_) | (refine wpList_loadT rfl _ _ rfl rfl (HA_p0.out.alloc lt_p0 _) Tryz.underlying44 k_p0 ln_p0 ?_) | (refine wpList_loadT rfl _ _ rfl rfl (HA_w0.out.alloc lt_w0 _) Tryz.underlying33 k_w0 ln_w0 ?_) | (refine wpList_loadTG (by first | rfl | simp [Region.wanted, yielded]) _ _ rfl rfl (HA_w0.out.alloc lt_w0 _) Tryz.underlying33 k_w0 ln_w0 ?_))
  refine (impl_RiseAuditor _ p0 c_x0 _ (Lay.weak (Lay.later HR_x0.out ((Below.refl _ _).alloc (Nat.le_refl _) _))) sz_p0 (Tabs.later (Tabs.later HTb.out hB4) ((Below.refl _ _).alloc (Nat.le_refl _) _))).mono ?_
  rintro e5 w5 ⟨c_g0, rfl, hr_g0, hb5⟩
  have hl5 : Below w4.heap.size w4 w5 := (Below.via hb5)
  have hB5 : Below w.heap.size w w5 := Below.step hB4 hl5
  have hz5 : w4.heap.size + 1 ≤ w5.heap.size := by have := hb5.size; (try simp at this); omega
  replace HR_p0 := Lib.hid (Lay.later HR_p0.out hl5)
  replace HR_w0 := Lib.hid (Lay.later HR_w0.out hl5)
  replace HR_x0 := Lib.hid (Lay.later HR_x0.out hl5)
  replace HA_p0 := Lib.hid (HA_p0.out.below hl5 lt_p0); replace lt_p0 := Nat.lt_of_lt_of_le lt_p0 hl5.size
  replace HA_w0 := Lib.hid (HA_w0.out.below hl5 lt_w0); replace lt_w0 := Nat.lt_of_lt_of_le lt_w0 hl5.size
  have HA_x0 : Hid (At w5 (w4.heap.size) 0 c_x0) := Lib.hid (by have := (At.new w4 c_x0 _ (0, 0)).below (b := w4.heap.size) hb5 (by simp); simpa using this)
  have lt_x0 : w4.heap.size < w5.heap.size := by omega
  have hr_ := hr_g0; clear hr_g0
  have HR_g0 := Lib.hid (Lay.mono hr_ (S' := rng (w4.heap.size + 1) (w5.heap.size)) (fun b h => by unfold rng at h ⊢; (try simp at h); omega)); clear hr_
  have sb_g0 : sub (rng (w4.heap.size + 1) (w5.heap.size)) (rng (w4.heap.size + 1) (w5.heap.size)) := sub_refl _
  have ln_g0 := Lay.len HR_g0.out
  have on_g0 := Lay.one HR_g0.out
  have k_g0 : (Tryz.prog.info? 33).map (·.size) = some (Lay.n Auditor) := by kernel_rfl
  go_wp2_with (first | (refine wpList_storeNew (cs := c_g0.toArray) rfl _ _ _ rfl rfl rfl rfl (k_g0.trans (congrArg some ln_g0.symm)) (Eq.trans (b := Lay.n Auditor) rfl ln_g0.symm) (by simpa using on_g0) ?_) | (refine wpList_loadT rfl _ _ rfl rfl (At.new _ c_g0 _ (0, 0)) Tryz.underlying33 k_g0 ln_g0 ?_) | (refine wpList_loadTG (by first | rfl | simp [Region.wanted, yielded]) _ _ rfl rfl (At.new _ c_g0 _ (0, 0)) Tryz.underlying33 k_g0 ln_g0 ?_) | (refine wpList_loadT rfl _ _ rfl rfl (HA_p0.out.alloc lt_p0 _) Tryz.underlying44 k_p0 ln_p0 ?_) | (refine wpList_loadT rfl _ _ rfl rfl (HA_w0.out.alloc lt_w0 _) Tryz.underlying33 k_w0 ln_w0 ?_) | (refine wpList_loadTG (by first | rfl | simp [Region.wanted, yielded]) _ _ rfl rfl (HA_w0.out.alloc lt_w0 _) Tryz.underlying33 k_w0 ln_w0 ?_) | (refine wpList_loadT rfl _ _ rfl rfl (HA_x0.out.alloc lt_x0 _) Tryz.underlying33 k_x0 ln_x0 ?_))
  refine (eq_Auditor (riseAuditor p0) _ _ _ _ _ (Lay.weak (Lay.later HR_g0.out ((Below.refl _ _).alloc (Nat.le_refl _) _))) (Lay.weak (Lay.later HR_w0.out ((Below.refl _ _).alloc (Nat.le_refl _) _)))).mono ?_
  rintro e6 w6 ⟨rfl, hb6⟩
  have hl6 : Below w5.heap.size w5 w6 := (Below.via hb6)
  have hB6 : Below w.heap.size w w6 := Below.step hB5 hl6
  have hz6 : w5.heap.size + 1 ≤ w6.heap.size := by have := hb6.size; (try simp at this); omega
  replace HR_p0 := Lib.hid (Lay.later HR_p0.out hl6)
  replace HR_w0 := Lib.hid (Lay.later HR_w0.out hl6)
  replace HR_x0 := Lib.hid (Lay.later HR_x0.out hl6)
  replace HR_g0 := Lib.hid (Lay.later HR_g0.out hl6)
  replace HA_p0 := Lib.hid (HA_p0.out.below hl6 lt_p0); replace lt_p0 := Nat.lt_of_lt_of_le lt_p0 hl6.size
  replace HA_w0 := Lib.hid (HA_w0.out.below hl6 lt_w0); replace lt_w0 := Nat.lt_of_lt_of_le lt_w0 hl6.size
  replace HA_x0 := Lib.hid (HA_x0.out.below hl6 lt_x0); replace lt_x0 := Nat.lt_of_lt_of_le lt_x0 hl6.size
  have HA_g0 : Hid (At w6 (w5.heap.size) 0 c_g0) := Lib.hid (by have := (At.new w5 c_g0 _ (0, 0)).below (b := w5.heap.size) hb6 (by simp); simpa using this)
  have lt_g0 : w5.heap.size < w6.heap.size := by omega
  go_wp2_with (first | (refine wpList_loadT rfl _ _ rfl rfl HA_p0.out Tryz.underlying44 k_p0 ln_p0 ?_) | (refine wpList_loadT rfl _ _ rfl rfl HA_w0.out Tryz.underlying33 k_w0 ln_w0 ?_) | (refine wpList_loadTG (by first | rfl | simp [Region.wanted, yielded]) _ _ rfl rfl HA_w0.out Tryz.underlying33 k_w0 ln_w0 ?_) | (refine wpList_loadT rfl _ _ rfl rfl HA_x0.out Tryz.underlying33 k_x0 ln_x0 ?_) | (refine wpList_loadT rfl _ _ rfl rfl HA_g0.out Tryz.underlying33 k_g0 ln_g0 ?_) | (refine wpList_loadTG (by first | rfl | simp [Region.wanted, yielded]) _ _ rfl rfl HA_g0.out Tryz.underlying33 k_g0 ln_g0 ?_))
  refine wp_region_held_drew (S := fun W' => At W' (w4.heap.size) 0 c_x0 ∧ At W' (w.heap.size) 0 cp0) (by kernel_rfl) ⟨HA_x0.out, HA_p0.out⟩ (fun hS => ?_)
  refine wpAnyH_take (i := 0) (v := .agg c_x0.toArray) rfl (by kernel_rfl) (by kernel_rfl) (by kernel_rfl) (fun _ _ _ h => h) (yieldsIf_loadT (by rfl) _ _ rfl rfl (fun _ h => h.1) Tryz.underlying33 k_x0 ln_x0) hS ?_
  (try simp only [Act.put, List.getElem_toArray, List.getElem_cons_succ, List.getElem_cons_zero, List.setIfInBounds_toArray, List.set_cons_zero, List.set_cons_succ])
  refine wpAnyH_take (i := 1) (v := .agg cp0.toArray) rfl (by kernel_rfl) (by kernel_rfl) (by kernel_rfl) (fun _ _ _ h => h) (yieldsIf_loadT (by rfl) _ _ rfl rfl (fun _ h => h.2) Tryz.underlying44 k_p0 ln_p0) hS ?_
  (try simp only [Act.put, List.getElem_toArray, List.getElem_cons_succ, List.getElem_cons_zero, List.setIfInBounds_toArray, List.set_cons_zero, List.set_cons_succ])
  refine wpAnyH_ready (rs := [2]) (by kernel_rfl) (by simp) (AllReadyH.cons rfl (fun K hK => ?_) AllReadyH.nil)
  (try rw [if_pos (by rfl)])
  clear hS
  go_simp
  refine (to_Auditor p0 _ _ _ (Lay.later HR_p0.out ((Below.refl _ _).drew)) sz_p0).mono ?_
  rintro e7 w7 ⟨c_t7, rfl, hr_, hb7⟩
  have hb7 := Below.viad hb7
  have hl7 := hb7
  have hB7 : Below w.heap.size w w7 := Below.step hB6 hl7
  have hz7 : w6.heap.size + 0 ≤ w7.heap.size := by have := hb7.size; (try simp at this); omega
  replace HR_p0 := Lib.hid (Lay.later HR_p0.out hl7)
  replace HR_w0 := Lib.hid (Lay.later HR_w0.out hl7)
  replace HR_x0 := Lib.hid (Lay.later HR_x0.out hl7)
  replace HR_g0 := Lib.hid (Lay.later HR_g0.out hl7)
  replace HA_p0 := Lib.hid (HA_p0.out.below hl7 lt_p0); replace lt_p0 := Nat.lt_of_lt_of_le lt_p0 hl7.size
  replace HA_w0 := Lib.hid (HA_w0.out.below hl7 lt_w0); replace lt_w0 := Nat.lt_of_lt_of_le lt_w0 hl7.size
  replace HA_x0 := Lib.hid (HA_x0.out.below hl7 lt_x0); replace lt_x0 := Nat.lt_of_lt_of_le lt_x0 hl7.size
  replace HA_g0 := Lib.hid (HA_g0.out.below hl7 lt_g0); replace lt_g0 := Nat.lt_of_lt_of_le lt_g0 hl7.size
  have HR_t7 := Lib.hid (Lay.mono hr_ (S' := rng (w6.heap.size) (w7.heap.size)) (fun b h => by unfold rng at h ⊢; (try simp at h); omega)); clear hr_
  have sb_t7 : sub (rng (w6.heap.size) (w7.heap.size)) (rng (w6.heap.size) (w7.heap.size)) := sub_refl _
  refine hK.out _ _ ⟨HA_x0.out, HA_p0.out⟩ (fun hS => ?_)
  clear hK K
  (try simp only [Act.put, List.getElem_toArray, List.getElem_cons_succ, List.getElem_cons_zero, List.setIfInBounds_toArray, List.set_cons_zero, List.set_cons_succ])
  refine wpAnyH_ready (rs := [3]) (by kernel_rfl) (by simp) (AllReadyH.cons rfl (fun K hK => ?_) AllReadyH.nil)
  (try rw [if_pos (by rfl)])
  clear hS
  go_simp
  refine (eq_Auditor p0 _ _ _ _ _ (Lay.weak HR_x0.out) (Lay.weak HR_t7.out)).mono ?_
  rintro e8 w8 ⟨rfl, hb8⟩
  have hl8 := hb8
  have hB8 : Below w.heap.size w w8 := Below.step hB7 hl8
  have hz8 : w7.heap.size + 0 ≤ w8.heap.size := by have := hb8.size; (try simp at this); omega
  replace HR_p0 := Lib.hid (Lay.later HR_p0.out hl8)
  replace HR_w0 := Lib.hid (Lay.later HR_w0.out hl8)
  replace HR_x0 := Lib.hid (Lay.later HR_x0.out hl8)
  replace HR_g0 := Lib.hid (Lay.later HR_g0.out hl8)
  replace HR_t7 := Lib.hid (Lay.later HR_t7.out hl8)
  replace HA_p0 := Lib.hid (HA_p0.out.below hl8 lt_p0); replace lt_p0 := Nat.lt_of_lt_of_le lt_p0 hl8.size
  replace HA_w0 := Lib.hid (HA_w0.out.below hl8 lt_w0); replace lt_w0 := Nat.lt_of_lt_of_le lt_w0 hl8.size
  replace HA_x0 := Lib.hid (HA_x0.out.below hl8 lt_x0); replace lt_x0 := Nat.lt_of_lt_of_le lt_x0 hl8.size
  replace HA_g0 := Lib.hid (HA_g0.out.below hl8 lt_g0); replace lt_g0 := Nat.lt_of_lt_of_le lt_g0 hl8.size
  refine hK.out _ _ ⟨HA_x0.out, HA_p0.out⟩ (fun hS => ?_)
  clear hK K
  (try simp only [Act.put, List.getElem_toArray, List.getElem_cons_succ, List.getElem_cons_zero, List.setIfInBounds_toArray, List.set_cons_zero, List.set_cons_succ])
  refine wpAnyH_ready (rs := [4]) (by kernel_rfl) (by simp) (AllReadyH.cons rfl (fun K hK => ?_) AllReadyH.nil)
  go_simp
  refine hK.out _ _ hS (fun hS => ?_)
  clear hK K
  (try (try simp only [Act.put, List.getElem_toArray, List.getElem_cons_succ, List.getElem_cons_zero, List.setIfInBounds_toArray, List.set_cons_zero, List.set_cons_succ]))
  refine wpAnyH_done (by kernel_rfl) ?_ _
  clear hS
  clear HR_t7
  go_wp2_with (first | (refine wpList_loadT rfl _ _ rfl rfl HA_p0.out Tryz.underlying44 k_p0 ln_p0 ?_) | (refine wpList_loadT rfl _ _ rfl rfl HA_w0.out Tryz.underlying33 k_w0 ln_w0 ?_) | (refine wpList_loadTG (by first | rfl | simp [Region.wanted, yielded]) _ _ rfl rfl HA_w0.out Tryz.underlying33 k_w0 ln_w0 ?_) | (refine wpList_loadT rfl _ _ rfl rfl HA_x0.out Tryz.underlying33 k_x0 ln_x0 ?_) | (refine wpList_loadT rfl _ _ rfl rfl HA_g0.out Tryz.underlying33 k_g0 ln_g0 ?_) | (refine wpList_loadTG (by first | rfl | simp [Region.wanted, yielded]) _ _ rfl rfl HA_g0.out Tryz.underlying33 k_g0 ln_g0 ?_))
  have cb1 : p0.ct ≤ 1000000000000 := by have := ctb_Auditor p0; have := sz_p0; omega
  refine (mark_Auditor p0 _ _ _ _ 1 (by first | rfl | simp) (by omega) HR_x0.out).mono ?_
  obtain ⟨K1, hK_K1⟩ : ∃ K, 1 + p0.ct = K := ⟨_, rfl⟩
  rw [hK_K1]
  have bK_K1 : K1 ≤ 2000000000004 := by omega
  rintro e9 w9 ⟨rfl, hr_, hb9⟩
  have hB9 : Below w.heap.size w w9 := Below.stepc hB8 hb9 (fun x hx => by have := sb_x0 x hx; unfold rng at this; have := hB8.size; omega)
  have hz9 : w8.heap.size ≤ w9.heap.size := hb9.size
  replace HR_p0 := Lib.hid (Lay.chg HR_p0.out hb9 (disjS (sub_refl _) sb_x0 (by omega)))
  replace HR_w0 := Lib.hid (Lay.chg HR_w0.out hb9 (disjS sb_w0 sb_x0 (by omega)))
  replace HR_g0 := Lib.hid (Lay.chg HR_g0.out hb9 (disjS sb_g0 sb_x0 (by omega)))
  replace HA_p0 := Lib.hid (HA_p0.out.chg hb9 lt_p0 (not_rng sb_x0 (by omega))); replace lt_p0 := Nat.lt_of_lt_of_le lt_p0 hb9.size
  replace HA_w0 := Lib.hid (HA_w0.out.chg hb9 lt_w0 (not_rng sb_x0 (by omega))); replace lt_w0 := Nat.lt_of_lt_of_le lt_w0 hb9.size
  replace HA_x0 := Lib.hid (HA_x0.out.chg hb9 lt_x0 (not_rng sb_x0 (by omega))); replace lt_x0 := Nat.lt_of_lt_of_le lt_x0 hb9.size
  replace HA_g0 := Lib.hid (HA_g0.out.chg hb9 lt_g0 (not_rng sb_x0 (by omega))); replace lt_g0 := Nat.lt_of_lt_of_le lt_g0 hb9.size
  replace HR_x0 := Lib.hid hr_; clear hr_
  go_wp2_with (first | (refine wpList_loadT rfl _ _ rfl rfl HA_p0.out Tryz.underlying44 k_p0 ln_p0 ?_) | (refine wpList_loadT rfl _ _ rfl rfl HA_w0.out Tryz.underlying33 k_w0 ln_w0 ?_) | (refine wpList_loadTG (by first | rfl | simp [Region.wanted, yielded]) _ _ rfl rfl HA_w0.out Tryz.underlying33 k_w0 ln_w0 ?_) | (refine wpList_loadT rfl _ _ rfl rfl HA_x0.out Tryz.underlying33 k_x0 ln_x0 ?_) | (refine wpList_loadT rfl _ _ rfl rfl HA_g0.out Tryz.underlying33 k_g0 ln_g0 ?_) | (refine wpList_loadTG (by first | rfl | simp [Region.wanted, yielded]) _ _ rfl rfl HA_g0.out Tryz.underlying33 k_g0 ln_g0 ?_))
  refine (eq_Auditor (riseAuditor p0) _ _ _ _ _ (Lay.weak HR_g0.out) (Lay.weak HR_w0.out)).mono ?_
  rintro e10 w10 ⟨rfl, hb10⟩
  have hl10 := hb10
  have hB10 : Below w.heap.size w w10 := Below.step hB9 hl10
  have hz10 : w9.heap.size + 0 ≤ w10.heap.size := by have := hb10.size; (try simp at this); omega
  replace HR_p0 := Lib.hid (Lay.later HR_p0.out hl10)
  replace HR_w0 := Lib.hid (Lay.later HR_w0.out hl10)
  replace HR_x0 := Lib.hid (Lay.later HR_x0.out hl10)
  replace HR_g0 := Lib.hid (Lay.later HR_g0.out hl10)
  replace HA_p0 := Lib.hid (HA_p0.out.below hl10 lt_p0); replace lt_p0 := Nat.lt_of_lt_of_le lt_p0 hl10.size
  replace HA_w0 := Lib.hid (HA_w0.out.below hl10 lt_w0); replace lt_w0 := Nat.lt_of_lt_of_le lt_w0 hl10.size
  replace HA_x0 := Lib.hid (HA_x0.out.below hl10 lt_x0); replace lt_x0 := Nat.lt_of_lt_of_le lt_x0 hl10.size
  replace HA_g0 := Lib.hid (HA_g0.out.below hl10 lt_g0); replace lt_g0 := Nat.lt_of_lt_of_le lt_g0 hl10.size
  go_wp2_with (first | (refine wpList_loadT rfl _ _ rfl rfl HA_p0.out Tryz.underlying44 k_p0 ln_p0 ?_) | (refine wpList_loadT rfl _ _ rfl rfl HA_w0.out Tryz.underlying33 k_w0 ln_w0 ?_) | (refine wpList_loadTG (by first | rfl | simp [Region.wanted, yielded]) _ _ rfl rfl HA_w0.out Tryz.underlying33 k_w0 ln_w0 ?_) | (refine wpList_loadT rfl _ _ rfl rfl HA_x0.out Tryz.underlying33 k_x0 ln_x0 ?_) | (refine wpList_loadT rfl _ _ rfl rfl HA_g0.out Tryz.underlying33 k_g0 ln_g0 ?_) | (refine wpList_loadTG (by first | rfl | simp [Region.wanted, yielded]) _ _ rfl rfl HA_g0.out Tryz.underlying33 k_g0 ln_g0 ?_))
  have cb2 : (riseAuditor p0).ct ≤ 1000000000000 := cnb_riseAuditor p0 sz_p0
  refine (mark_Auditor (riseAuditor p0) _ _ _ _ 1 (by first | rfl | simp) (by omega) HR_g0.out).mono ?_
  obtain ⟨K2, hK_K2⟩ : ∃ K, 1 + (riseAuditor p0).ct = K := ⟨_, rfl⟩
  rw [hK_K2]
  have bK_K2 : K2 ≤ 3000000000006 := by omega
  rintro e11 w11 ⟨rfl, hr_, hb11⟩
  have hB11 : Below w.heap.size w w11 := Below.stepc hB10 hb11 (fun x hx => by have := sb_g0 x hx; unfold rng at this; have := hB10.size; omega)
  have hz11 : w10.heap.size ≤ w11.heap.size := hb11.size
  replace HR_p0 := Lib.hid (Lay.chg HR_p0.out hb11 (disjS (sub_refl _) sb_g0 (by omega)))
  replace HR_w0 := Lib.hid (Lay.chg HR_w0.out hb11 (disjS sb_w0 sb_g0 (by omega)))
  replace HR_x0 := Lib.hid (Lay.chg HR_x0.out hb11 (disjS sb_x0 sb_g0 (by omega)))
  replace HA_p0 := Lib.hid (HA_p0.out.chg hb11 lt_p0 (not_rng sb_g0 (by omega))); replace lt_p0 := Nat.lt_of_lt_of_le lt_p0 hb11.size
  replace HA_w0 := Lib.hid (HA_w0.out.chg hb11 lt_w0 (not_rng sb_g0 (by omega))); replace lt_w0 := Nat.lt_of_lt_of_le lt_w0 hb11.size
  replace HA_x0 := Lib.hid (HA_x0.out.chg hb11 lt_x0 (not_rng sb_g0 (by omega))); replace lt_x0 := Nat.lt_of_lt_of_le lt_x0 hb11.size
  replace HA_g0 := Lib.hid (HA_g0.out.chg hb11 lt_g0 (not_rng sb_g0 (by omega))); replace lt_g0 := Nat.lt_of_lt_of_le lt_g0 hb11.size
  replace HR_g0 := Lib.hid hr_; clear hr_
  go_wp2_with (first | (refine wpList_loadT rfl _ _ rfl rfl HA_p0.out Tryz.underlying44 k_p0 ln_p0 ?_) | (refine wpList_loadT rfl _ _ rfl rfl HA_w0.out Tryz.underlying33 k_w0 ln_w0 ?_) | (refine wpList_loadTG (by first | rfl | simp [Region.wanted, yielded]) _ _ rfl rfl HA_w0.out Tryz.underlying33 k_w0 ln_w0 ?_) | (refine wpList_loadT rfl _ _ rfl rfl HA_x0.out Tryz.underlying33 k_x0 ln_x0 ?_) | (refine wpList_loadT rfl _ _ rfl rfl HA_g0.out Tryz.underlying33 k_g0 ln_g0 ?_) | (refine wpList_loadTG (by first | rfl | simp [Region.wanted, yielded]) _ _ rfl rfl HA_g0.out Tryz.underlying33 k_g0 ln_g0 ?_))
  refine (held_Auditor (riseAuditor p0) _ _ _ _ 1 (by first | rfl | simp) (by omega) (Lay.weak HR_g0.out)).mono ?_
  rw [hK_K2]
  rintro e12 w12 ⟨rfl, hb12⟩
  have hl12 := hb12
  have hB12 : Below w.heap.size w w12 := Below.step hB11 hl12
  have hz12 : w11.heap.size + 0 ≤ w12.heap.size := by have := hb12.size; (try simp at this); omega
  replace HR_p0 := Lib.hid (Lay.later HR_p0.out hl12)
  replace HR_w0 := Lib.hid (Lay.later HR_w0.out hl12)
  replace HR_x0 := Lib.hid (Lay.later HR_x0.out hl12)
  replace HR_g0 := Lib.hid (Lay.later HR_g0.out hl12)
  replace HA_p0 := Lib.hid (HA_p0.out.below hl12 lt_p0); replace lt_p0 := Nat.lt_of_lt_of_le lt_p0 hl12.size
  replace HA_w0 := Lib.hid (HA_w0.out.below hl12 lt_w0); replace lt_w0 := Nat.lt_of_lt_of_le lt_w0 hl12.size
  replace HA_x0 := Lib.hid (HA_x0.out.below hl12 lt_x0); replace lt_x0 := Nat.lt_of_lt_of_le lt_x0 hl12.size
  replace HA_g0 := Lib.hid (HA_g0.out.below hl12 lt_g0); replace lt_g0 := Nat.lt_of_lt_of_le lt_g0 hl12.size
  go_wp2_with (first | (refine wpList_loadT rfl _ _ rfl rfl HA_p0.out Tryz.underlying44 k_p0 ln_p0 ?_) | (refine wpList_loadT rfl _ _ rfl rfl HA_w0.out Tryz.underlying33 k_w0 ln_w0 ?_) | (refine wpList_loadTG (by first | rfl | simp [Region.wanted, yielded]) _ _ rfl rfl HA_w0.out Tryz.underlying33 k_w0 ln_w0 ?_) | (refine wpList_loadT rfl _ _ rfl rfl HA_x0.out Tryz.underlying33 k_x0 ln_x0 ?_) | (refine wpList_loadT rfl _ _ rfl rfl HA_g0.out Tryz.underlying33 k_g0 ln_g0 ?_) | (refine wpList_loadTG (by first | rfl | simp [Region.wanted, yielded]) _ _ rfl rfl HA_g0.out Tryz.underlying33 k_g0 ln_g0 ?_))
  refine (to_Auditor p0 _ _ _ HR_p0.out sz_p0).mono ?_
  rintro e13 w13 ⟨c_t13, rfl, hr_, hb13⟩
  have hl13 := hb13
  have hB13 : Below w.heap.size w w13 := Below.step hB12 hl13
  have hz13 : w12.heap.size + 0 ≤ w13.heap.size := by have := hb13.size; (try simp at this); omega
  replace HR_p0 := Lib.hid (Lay.later HR_p0.out hl13)
  replace HR_w0 := Lib.hid (Lay.later HR_w0.out hl13)
  replace HR_x0 := Lib.hid (Lay.later HR_x0.out hl13)
  replace HR_g0 := Lib.hid (Lay.later HR_g0.out hl13)
  replace HA_p0 := Lib.hid (HA_p0.out.below hl13 lt_p0); replace lt_p0 := Nat.lt_of_lt_of_le lt_p0 hl13.size
  replace HA_w0 := Lib.hid (HA_w0.out.below hl13 lt_w0); replace lt_w0 := Nat.lt_of_lt_of_le lt_w0 hl13.size
  replace HA_x0 := Lib.hid (HA_x0.out.below hl13 lt_x0); replace lt_x0 := Nat.lt_of_lt_of_le lt_x0 hl13.size
  replace HA_g0 := Lib.hid (HA_g0.out.below hl13 lt_g0); replace lt_g0 := Nat.lt_of_lt_of_le lt_g0 hl13.size
  have HR_t13 := Lib.hid (Lay.mono hr_ (S' := rng (w12.heap.size) (w13.heap.size)) (fun b h => by unfold rng at h ⊢; (try simp at h); omega)); clear hr_
  have sb_t13 : sub (rng (w12.heap.size) (w13.heap.size)) (rng (w12.heap.size) (w13.heap.size)) := sub_refl _
  go_wp2_with (first | (refine wpList_loadT rfl _ _ rfl rfl HA_p0.out Tryz.underlying44 k_p0 ln_p0 ?_) | (refine wpList_loadT rfl _ _ rfl rfl HA_w0.out Tryz.underlying33 k_w0 ln_w0 ?_) | (refine wpList_loadTG (by first | rfl | simp [Region.wanted, yielded]) _ _ rfl rfl HA_w0.out Tryz.underlying33 k_w0 ln_w0 ?_) | (refine wpList_loadT rfl _ _ rfl rfl HA_x0.out Tryz.underlying33 k_x0 ln_x0 ?_) | (refine wpList_loadT rfl _ _ rfl rfl HA_g0.out Tryz.underlying33 k_g0 ln_g0 ?_) | (refine wpList_loadTG (by first | rfl | simp [Region.wanted, yielded]) _ _ rfl rfl HA_g0.out Tryz.underlying33 k_g0 ln_g0 ?_))
  refine (impl_RiseAuditor _ p0 c_t13 _ (Lay.weak HR_t13.out) sz_p0 (Tabs.later HTb.out hB13)).mono ?_
  rintro e14 w14 ⟨c_h0, rfl, hr_h0, hb14⟩
  have hl14 := hb14
  have hB14 : Below w.heap.size w w14 := Below.step hB13 hl14
  have hz14 : w13.heap.size + 0 ≤ w14.heap.size := by have := hb14.size; (try simp at this); omega
  replace HR_p0 := Lib.hid (Lay.later HR_p0.out hl14)
  replace HR_w0 := Lib.hid (Lay.later HR_w0.out hl14)
  replace HR_x0 := Lib.hid (Lay.later HR_x0.out hl14)
  replace HR_g0 := Lib.hid (Lay.later HR_g0.out hl14)
  replace HR_t13 := Lib.hid (Lay.later HR_t13.out hl14)
  replace HA_p0 := Lib.hid (HA_p0.out.below hl14 lt_p0); replace lt_p0 := Nat.lt_of_lt_of_le lt_p0 hl14.size
  replace HA_w0 := Lib.hid (HA_w0.out.below hl14 lt_w0); replace lt_w0 := Nat.lt_of_lt_of_le lt_w0 hl14.size
  replace HA_x0 := Lib.hid (HA_x0.out.below hl14 lt_x0); replace lt_x0 := Nat.lt_of_lt_of_le lt_x0 hl14.size
  replace HA_g0 := Lib.hid (HA_g0.out.below hl14 lt_g0); replace lt_g0 := Nat.lt_of_lt_of_le lt_g0 hl14.size
  have hr_ := hr_h0; clear hr_h0
  have HR_h0 := Lib.hid (Lay.mono hr_ (S' := rng (w13.heap.size) (w14.heap.size)) (fun b h => by unfold rng at h ⊢; (try simp at h); omega)); clear hr_
  have sb_h0 : sub (rng (w13.heap.size) (w14.heap.size)) (rng (w13.heap.size) (w14.heap.size)) := sub_refl _
  clear HR_t13
  have ln_h0 := Lay.len HR_h0.out
  have on_h0 := Lay.one HR_h0.out
  have k_h0 : (Tryz.prog.info? 33).map (·.size) = some (Lay.n Auditor) := by kernel_rfl
  go_wp2_with (first | (refine wpList_storeNew (cs := c_h0.toArray) rfl _ _ _ rfl rfl rfl rfl (k_h0.trans (congrArg some ln_h0.symm)) (Eq.trans (b := Lay.n Auditor) rfl ln_h0.symm) (by simpa using on_h0) ?_) | (refine wpList_loadT rfl _ _ rfl rfl (At.new _ c_h0 _ (0, 0)) Tryz.underlying33 k_h0 ln_h0 ?_) | (refine wpList_loadTG (by first | rfl | simp [Region.wanted, yielded]) _ _ rfl rfl (At.new _ c_h0 _ (0, 0)) Tryz.underlying33 k_h0 ln_h0 ?_) | (refine wpList_loadT rfl _ _ rfl rfl (HA_p0.out.alloc lt_p0 _) Tryz.underlying44 k_p0 ln_p0 ?_) | (refine wpList_loadT rfl _ _ rfl rfl (HA_w0.out.alloc lt_w0 _) Tryz.underlying33 k_w0 ln_w0 ?_) | (refine wpList_loadTG (by first | rfl | simp [Region.wanted, yielded]) _ _ rfl rfl (HA_w0.out.alloc lt_w0 _) Tryz.underlying33 k_w0 ln_w0 ?_) | (refine wpList_loadT rfl _ _ rfl rfl (HA_x0.out.alloc lt_x0 _) Tryz.underlying33 k_x0 ln_x0 ?_) | (refine wpList_loadT rfl _ _ rfl rfl (HA_g0.out.alloc lt_g0 _) Tryz.underlying33 k_g0 ln_g0 ?_) | (refine wpList_loadTG (by first | rfl | simp [Region.wanted, yielded]) _ _ rfl rfl (HA_g0.out.alloc lt_g0 _) Tryz.underlying33 k_g0 ln_g0 ?_))
  refine (eq_Auditor (riseAuditor p0) _ _ _ _ _ (Lay.weak (Lay.later HR_h0.out ((Below.refl _ _).alloc (Nat.le_refl _) _))) (Lay.weak (Lay.later HR_w0.out ((Below.refl _ _).alloc (Nat.le_refl _) _)))).mono ?_
  rintro e15 w15 ⟨rfl, hb15⟩
  have hl15 : Below w14.heap.size w14 w15 := (Below.via hb15)
  have hB15 : Below w.heap.size w w15 := Below.step hB14 hl15
  have hz15 : w14.heap.size + 1 ≤ w15.heap.size := by have := hb15.size; (try simp at this); omega
  replace HR_p0 := Lib.hid (Lay.later HR_p0.out hl15)
  replace HR_w0 := Lib.hid (Lay.later HR_w0.out hl15)
  replace HR_x0 := Lib.hid (Lay.later HR_x0.out hl15)
  replace HR_g0 := Lib.hid (Lay.later HR_g0.out hl15)
  replace HR_h0 := Lib.hid (Lay.later HR_h0.out hl15)
  replace HA_p0 := Lib.hid (HA_p0.out.below hl15 lt_p0); replace lt_p0 := Nat.lt_of_lt_of_le lt_p0 hl15.size
  replace HA_w0 := Lib.hid (HA_w0.out.below hl15 lt_w0); replace lt_w0 := Nat.lt_of_lt_of_le lt_w0 hl15.size
  replace HA_x0 := Lib.hid (HA_x0.out.below hl15 lt_x0); replace lt_x0 := Nat.lt_of_lt_of_le lt_x0 hl15.size
  replace HA_g0 := Lib.hid (HA_g0.out.below hl15 lt_g0); replace lt_g0 := Nat.lt_of_lt_of_le lt_g0 hl15.size
  have HA_h0 : Hid (At w15 (w14.heap.size) 0 c_h0) := Lib.hid (by have := (At.new w14 c_h0 _ (0, 0)).below (b := w14.heap.size) hb15 (by simp); simpa using this)
  have lt_h0 : w14.heap.size < w15.heap.size := by omega
  go_wp2_with (first | (refine wpList_loadT rfl _ _ rfl rfl HA_p0.out Tryz.underlying44 k_p0 ln_p0 ?_) | (refine wpList_loadT rfl _ _ rfl rfl HA_w0.out Tryz.underlying33 k_w0 ln_w0 ?_) | (refine wpList_loadTG (by first | rfl | simp [Region.wanted, yielded]) _ _ rfl rfl HA_w0.out Tryz.underlying33 k_w0 ln_w0 ?_) | (refine wpList_loadT rfl _ _ rfl rfl HA_x0.out Tryz.underlying33 k_x0 ln_x0 ?_) | (refine wpList_loadT rfl _ _ rfl rfl HA_g0.out Tryz.underlying33 k_g0 ln_g0 ?_) | (refine wpList_loadTG (by first | rfl | simp [Region.wanted, yielded]) _ _ rfl rfl HA_g0.out Tryz.underlying33 k_g0 ln_g0 ?_) | (refine wpList_loadT rfl _ _ rfl rfl HA_h0.out Tryz.underlying33 k_h0 ln_h0 ?_) | (refine wpList_loadTG (by first | rfl | simp [Region.wanted, yielded]) _ _ rfl rfl HA_h0.out Tryz.underlying33 k_h0 ln_h0 ?_))
  refine (held_Auditor (riseAuditor p0) _ _ _ _ 1 (by first | rfl | simp) (by omega) (Lay.weak HR_g0.out)).mono ?_
  rw [hK_K2]
  rintro e16 w16 ⟨rfl, hb16⟩
  have hl16 := hb16
  have hB16 : Below w.heap.size w w16 := Below.step hB15 hl16
  have hz16 : w15.heap.size + 0 ≤ w16.heap.size := by have := hb16.size; (try simp at this); omega
  replace HR_p0 := Lib.hid (Lay.later HR_p0.out hl16)
  replace HR_w0 := Lib.hid (Lay.later HR_w0.out hl16)
  replace HR_x0 := Lib.hid (Lay.later HR_x0.out hl16)
  replace HR_g0 := Lib.hid (Lay.later HR_g0.out hl16)
  replace HR_h0 := Lib.hid (Lay.later HR_h0.out hl16)
  replace HA_p0 := Lib.hid (HA_p0.out.below hl16 lt_p0); replace lt_p0 := Nat.lt_of_lt_of_le lt_p0 hl16.size
  replace HA_w0 := Lib.hid (HA_w0.out.below hl16 lt_w0); replace lt_w0 := Nat.lt_of_lt_of_le lt_w0 hl16.size
  replace HA_x0 := Lib.hid (HA_x0.out.below hl16 lt_x0); replace lt_x0 := Nat.lt_of_lt_of_le lt_x0 hl16.size
  replace HA_g0 := Lib.hid (HA_g0.out.below hl16 lt_g0); replace lt_g0 := Nat.lt_of_lt_of_le lt_g0 hl16.size
  replace HA_h0 := Lib.hid (HA_h0.out.below hl16 lt_h0); replace lt_h0 := Nat.lt_of_lt_of_le lt_h0 hl16.size
  go_wp2_with (first | (refine wpList_loadT rfl _ _ rfl rfl HA_p0.out Tryz.underlying44 k_p0 ln_p0 ?_) | (refine wpList_loadT rfl _ _ rfl rfl HA_w0.out Tryz.underlying33 k_w0 ln_w0 ?_) | (refine wpList_loadTG (by first | rfl | simp [Region.wanted, yielded]) _ _ rfl rfl HA_w0.out Tryz.underlying33 k_w0 ln_w0 ?_) | (refine wpList_loadT rfl _ _ rfl rfl HA_x0.out Tryz.underlying33 k_x0 ln_x0 ?_) | (refine wpList_loadT rfl _ _ rfl rfl HA_g0.out Tryz.underlying33 k_g0 ln_g0 ?_) | (refine wpList_loadTG (by first | rfl | simp [Region.wanted, yielded]) _ _ rfl rfl HA_g0.out Tryz.underlying33 k_g0 ln_g0 ?_) | (refine wpList_loadT rfl _ _ rfl rfl HA_h0.out Tryz.underlying33 k_h0 ln_h0 ?_) | (refine wpList_loadTG (by first | rfl | simp [Region.wanted, yielded]) _ _ rfl rfl HA_h0.out Tryz.underlying33 k_h0 ln_h0 ?_))
  go_ret; exact ⟨rfl, hB16⟩
set_option maxRecDepth 100000 in
theorem lifted_RiseAuditor (os : Os) (started : os.Started) (H : Type) (enc : TypeId × Value → H) :
    ReturnsInHanded {} Tryz.checked os 5 .any (fun w args => (Rows.fnExactRiseAuditorSpec.pre enc Tryz.prog Tryz.f5 [] false w args ∧ laidMetH Tryz.prog laidFive w) ∧ sizedMet enc Tryz.prog Tryz.f5 (OpenSpec.ofChange Rows.fnExactRiseAuditorSpec) false w args)
      (Rows.fnExactRiseAuditorSpec.post enc Tryz.prog Tryz.f5 false true false false) := by
  refine returnsInHanded_of_change_and (C := Tryz.checked) (X := fun w _ => laidMetH Tryz.prog laidFive w) (fun _ _ _ hh h => h.of_heap hh) own_ started (by kernel_rfl) Tryz.func5
    (ChangeSpec.witness_shaped (enc := enc) (C := Tryz.checked) (os := os) (X := fun w _ => laidMetH Tryz.prog laidFive w) false (World.doorLaid Tryz.prog 34 os) #[.agg #[.int .i64 0, .bool false, .slice none 0 0, .slice none 0 0, .slice none 0 0, .slice none 0 0]] 8 rfl (World.shaped_of_RefB (by kernel_rfl) (by kernel_rfl)) (by kernel_rfl) (by kernel_rfl) (by kernel_rfl) (door_met5 os _)) ?_
  intro W base args ds gs before hval0 hW hcnd _ hLaid _
  have hval : ∀ (j : Nat) t v, Tryz.f5.params[j]? = some t → args[j]? = some v → Value.okWide Tryz.prog W .any base t v := hval0
  have hW' := hW
  obtain ⟨p, q, hA0, hV, rfl, hfz, hnd⟩ := hW
  have hA : DataW.TrodAll enc Tryz.prog W 0 (fun _ => true) true Tryz.f5.params.toList args.toList ds p := hA0
  rw [Tryz.params5] at hA hval
  have hA2 := hA
  obtain ⟨v0, vs0, d0, ds0, p0, q0, hargs0, rfl, rfl, h0, r0⟩ := trodAll_cons hA
  obtain ⟨rfl, rfl, rfl⟩ := trodAll_nil r0
  obtain rfl : args = #[v0] := by cases args; simp_all
  have hV2 := hV
  obtain ⟨_, _, _, _, g0, _, _, _, _, _, g1, _, hgs, _⟩ := trodVars_two hV2
  subst hgs
  obtain ⟨c0, rfl⟩ := okWide_agg Tryz.underlying44 (hval 0 44 v0 rfl rfl)
  obtain ⟨fu0, hf0⟩ := h0
  obtain ⟨x0, hx0⟩ := rdb_Auditor H enc W 0 _ _ fu0 _ _ hf0
  refine (law_RiseAuditor W x0 c0.toList All hx0 (tabs_of_five hLaid)).mono fun e W' ⟨he, hb⟩ => ?_
  subst he
  refine ⟨_, rfl, post_below (pa := p0 ++ []) (pv := q) hW' (fun _ _ _ => trodAll_mk1 (shut_bool Tryz.underlying4 true)) (fun sp hsp => ?_) (fun sp hsp => trodVars_stays laidOut_ hb (by kernel_rfl) hV (fun x hx => hsp x (by simp [hx]))) (by simp) hb (ok_one (by kernel_rfl) rfl (okWide_bool_mk Tryz.underlying4 true))⟩
  rw [show Tryz.f5.params.toList = _ from congrArg Array.toList Tryz.params5]
  exact trodAll_stays laidOut_ hb _ _ _ _ (by intro t ht; simp at ht; subst ht; exact ⟨by kernel_rfl, by decide +kernel⟩) hA2 (fun x hx => hW'.lt x (by first | (simpa using Or.inl hx) | (simp at hx ⊢; rcases hx with hx | hx | hx | hx | hx <;> simp [hx]) | (simp at hx ⊢; rcases hx with hx | hx | hx | hx <;> simp [hx]) | (simp at hx ⊢; rcases hx with hx | hx | hx <;> simp [hx]) | (simp at hx ⊢; rcases hx with hx | hx <;> simp [hx]))) (fun x hx => hsp x (by first | (simpa using Or.inl hx) | (simp at hx ⊢; rcases hx with hx | hx | hx | hx | hx <;> simp [hx]) | (simp at hx ⊢; rcases hx with hx | hx | hx | hx <;> simp [hx]) | (simp at hx ⊢; rcases hx with hx | hx | hx <;> simp [hx]) | (simp at hx ⊢; rcases hx with hx | hx <;> simp [hx])))
theorem row_RiseAuditor : Rows.FnExactRiseAuditorSaid :=
  OpenClaim.holds_of_wide 5 Tryz.f5 rfl rfl rfl rfl rfl rfl rfl ⟨rfl, rfl, rfl, rfl, rfl⟩ rfl rfl rfl rfl rfl (by kernel_rfl) Tryz.func5 joined_RiseAuditor
    (of_decide_eq_true (by kernel_rfl)) (by unfold Func.isWrapper; first | (rw [if_pos (by decide +kernel)]; kernel_rfl) | (rw [if_neg (by decide +kernel)]; exact ⟨rfl, rfl⟩))
    (fun os started H enc _ => lifted_RiseAuditor os started H enc)
theorem holds_RiseAuditor : Rows.FnExactRiseAuditorCardSaid :=
  Claim7.holds_tied_plain_at .later [] Rows.fnExactRiseAuditorCard.laidKinds true Rows.fnExactRiseAuditorCard.stood.harness false
    row_RiseAuditor (fun _ h => by cases h) (by as_aux_lemma => kernel_rfl) (fun _ h => by cases h) fnExactRiseAuditor_row_tie rfl ⟨rfl, rfl⟩ (by as_aux_lemma => kernel_rfl) rfl
    (fun f fn hf hfn => by
      obtain rfl : f = 5 := Option.some.inj ((show Tryz.prog.funcNamed "loop.example/g00284/laws.FnExactRiseAuditor" = some 5 by as_aux_lemma => kernel_rfl).symm.trans hf) |>.symm
      obtain rfl : fn = Tryz.f5 := (Option.some.inj (Tryz.func5.symm.trans hfn)).symm
      exact ⟨by as_aux_lemma => kernel_rfl, fun j t ht => by
        rw [Tryz.params5] at ht
        have hm : t ∈ [44] := by simpa using Array.mem_of_getElem? ht
        have hall : ([44].all fun u => !Tryz.prog.wantsStandIn u) = true := by as_aux_lemma => kernel_rfl
        exact (show Tryz.prog.wantsStandIn t = false by simpa using List.all_eq_true.1 hall t hm)⟩)
    (by as_aux_lemma => kernel_rfl)
end Go.Proofs.YtlfnmbcnehaikaaGreatDoor
