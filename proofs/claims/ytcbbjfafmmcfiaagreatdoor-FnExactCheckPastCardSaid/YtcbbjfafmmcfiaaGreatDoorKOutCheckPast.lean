/- The program's CheckPast answers as the reference's, for every argument. No condition. -/
import Derived.Test.YtcbbjfafmmcfiaaGreatDoorB2
import Derived.Test.YtcbbjfafmmcfiaaGreatDoorKSCheckPastBt1
import Derived.Test.YtcbbjfafmmcfiaaGreatDoorKSCheckPastSz1
import Derived.Test.YtcbbjfafmmcfiaaGreatDoorKSCheckPastTo1
import Derived.Test.YtcbbjfafmmcfiaaGreatDoorKSCheckPastEq1
import Derived.Test.YtcbbjfafmmcfiaaGreatDoorKSCheckPastMa1
import Derived.Test.YtcbbjfafmmcfiaaGreatDoorKSCheckPastHd1
import Derived.Test.YtcbbjfafmmcfiaaGreatDoorKDl
import Derived.Test.YtcbbjfafmmcfiaaGreatDoorKPw
import Derived.Test.YtcbbjfafmmcfiaaGreatDoorTie
import Derived.Test.YtcbbjfafmmcfiaaGreatDoorCards
import Derived.Test.YtcbbjfafmmcfiaaGreatDoorKJCheckPast
set_option linter.unusedVariables false
set_option linter.unusedSimpArgs false
namespace Go.Proofs.YtcbbjfafmmcfiaaGreatDoor
open Go.RowKit Go.WideShapes Go.ChangeShapes Go.ChangeAt Lay Mk
set_option maxRecDepth 20000 in set_option maxHeartbeats 8000000 in
theorem law_CheckPast (w : World) (p0 : Trust) (cp0 : List Value) (Sp0 : Blks) (hp0 : rd false w cp0 p0 Sp0) (p1 : Int) (hp1 : I64 p1) (p2 : ByteArray) (hp2 : p2.size ≤ maxLen) (p3 : Past) (cp3 : List Value) (Sp3 : Blks) (hp3 : rd false w cp3 p3 Sp3) (hT : Tabs w) : Calls Tryz.prog 4 #[.agg cp0.toArray, .int .i64 p1, .string p2, .agg cp3.toArray] w fun e w' => e = .returned (.bool true) ∧ Below w.heap.size w w' := by
  have HTb := Lib.hid hT; clear hT
  replace hp0 := old_rng hp0
  have HR_p0 := Lib.hid hp0; clear hp0
  have ln_p0 := Lay.len HR_p0.out
  replace hp3 := old_rng hp3
  have HR_p3 := Lib.hid hp3; clear hp3
  have ln_p3 := Lay.len HR_p3.out
  have k_p0 : (Tryz.prog.info? 54).map (·.size) = some (Lay.n Trust) := by kernel_rfl
  have k_p3 : (Tryz.prog.info? 57).map (·.size) = some (Lay.n Past) := by kernel_rfl
  by_cases zp2 : p2.size ≤ 1048576
  rotate_left
  · go_enter Tryz.func4, Tryz.ntmps4
    have qp2 : 1048576 < p2.size := by omega
    unfold maxLen at hp2
    go_wp2_with (first | (refine wpList_box rfl _ _ rfl rfl ?_) | (refine wpList_loadT rfl _ _ rfl rfl ((At.new _ cp0 _ (0, 0)).alloc (by simp) _) Tryz.underlying54 k_p0 ln_p0 ?_) | (refine wpList_loadT rfl _ _ rfl rfl (At.new _ cp3 _ (0, 0)) Tryz.underlying57 k_p3 ln_p3 ?_))
    go_ret; exact ⟨rfl, ((Below.refl _ _).alloc (by simp) _).alloc (by simp) _⟩
  go_enter Tryz.func4, Tryz.ntmps4
  go_wp2_with (first | (refine wpList_box rfl _ _ rfl rfl ?_) | (refine wpList_loadT rfl _ _ rfl rfl ((At.new _ cp0 _ (0, 0)).alloc (by simp) _) Tryz.underlying54 k_p0 ln_p0 ?_) | (refine wpList_loadT rfl _ _ rfl rfl (At.new _ cp3 _ (0, 0)) Tryz.underlying57 k_p3 ln_p3 ?_))
  refine (sz_Trust p0 _ _ _ _ (Lay.later (Lay.later HR_p0.out ((Below.refl _ _).alloc (Nat.le_refl _) _)) ((Below.refl _ _).alloc (Nat.le_refl _) _)) (by omega) (by omega)).mono ?_
  rintro e1 w1 ⟨⟨n1, rfl, hn1⟩, hb1⟩
  have hl1 : Below w.heap.size w w1 := (Below.via (Below.via hb1))
  have hB1 : Below w.heap.size w w1 := hl1
  have hz1 : w.heap.size + 2 ≤ w1.heap.size := by have := hb1.size; (try simp at this); omega
  replace HR_p0 := Lib.hid (Lay.later HR_p0.out hl1)
  replace HR_p3 := Lib.hid (Lay.later HR_p3.out hl1)
  have HA_p0 : Hid (At w1 (w.heap.size) 0 cp0) := Lib.hid (by have := ((At.new _ cp0 _ (0, 0)).alloc (by simp) _).below hb1 (by first | omega | (simp; done) | (simp; omega)); simpa using this)
  have lt_p0 : w.heap.size < w1.heap.size := by omega
  have HA_p3 : Hid (At w1 (w.heap.size + 1) 0 cp3) := Lib.hid (by have := (At.new _ cp3 _ (0, 0)).below hb1 (by first | omega | (simp; done) | (simp; omega)); simpa using this)
  have lt_p3 : w.heap.size + 1 < w1.heap.size := by omega
  rcases szR_cases hn1 (by omega) with rfl | ⟨hn1a, hn1b, sz_p0⟩
  · go_wp2_with (fail)
    go_ret; exact ⟨rfl, hB1⟩
  clear hn1
  go_wp2_with (first | (refine wpList_loadT rfl _ _ rfl rfl HA_p0.out Tryz.underlying54 k_p0 ln_p0 ?_) | (refine wpList_loadT rfl _ _ rfl rfl HA_p3.out Tryz.underlying57 k_p3 ln_p3 ?_))
  refine (sz_Past p3 _ _ _ _ HR_p3.out (by omega) (by omega)).mono ?_
  rintro e2 w2 ⟨⟨n2, rfl, hn2⟩, hb2⟩
  have hl2 := hb2
  have hB2 : Below w.heap.size w w2 := Below.step hB1 hl2
  have hz2 : w1.heap.size + 0 ≤ w2.heap.size := by have := hb2.size; (try simp at this); omega
  replace HR_p0 := Lib.hid (Lay.later HR_p0.out hl2)
  replace HR_p3 := Lib.hid (Lay.later HR_p3.out hl2)
  replace HA_p0 := Lib.hid (HA_p0.out.below hl2 lt_p0); replace lt_p0 := Nat.lt_of_lt_of_le lt_p0 hl2.size
  replace HA_p3 := Lib.hid (HA_p3.out.below hl2 lt_p3); replace lt_p3 := Nat.lt_of_lt_of_le lt_p3 hl2.size
  rcases szR_cases hn2 (by omega) with rfl | ⟨hn2a, hn2b, sz_p3⟩
  · go_wp2_with (fail)
    go_ret; exact ⟨rfl, hB2⟩
  clear hn2
  go_wp2_with (first | (refine wpList_loadT rfl _ _ rfl rfl HA_p0.out Tryz.underlying54 k_p0 ln_p0 ?_) | (refine wpList_loadT rfl _ _ rfl rfl HA_p3.out Tryz.underlying57 k_p3 ln_p3 ?_))
  refine wp_region_held_drew (S := fun W' => At W' (w.heap.size) 0 cp0 ∧ At W' (w.heap.size + 1) 0 cp3) (by kernel_rfl) ⟨HA_p0.out, HA_p3.out⟩ (fun hS => ?_)
  refine wpAnyH_take (i := 0) (v := .agg cp0.toArray) rfl (by kernel_rfl) (by kernel_rfl) (by kernel_rfl) (fun _ _ _ h => h) (yieldsIf_loadT (by rfl) _ _ rfl rfl (fun _ h => h.1) Tryz.underlying54 k_p0 ln_p0) hS ?_
  (try simp only [Act.put, List.setIfInBounds_toArray, List.set_cons_zero, List.set_cons_succ])
  refine wpAnyH_take (i := 4) (v := .agg cp3.toArray) rfl (by kernel_rfl) (by kernel_rfl) (by kernel_rfl) (fun _ _ _ h => h) (yieldsIf_loadT (by rfl) _ _ rfl rfl (fun _ h => h.2) Tryz.underlying57 k_p3 ln_p3) hS ?_
  (try simp only [Act.put, List.setIfInBounds_toArray, List.set_cons_zero, List.set_cons_succ])
  refine wpAnyH_take (i := 2) (v := .int .i64 p1) rfl (by kernel_rfl) (by kernel_rfl) (by kernel_rfl) (fun _ _ _ h => h) (yieldsIf_move (by rfl) _ rfl (by rfl)) hS ?_
  (try simp only [Act.put, List.setIfInBounds_toArray, List.set_cons_zero, List.set_cons_succ])
  refine wpAnyH_take (i := 3) (v := .string p2) rfl (by kernel_rfl) (by kernel_rfl) (by kernel_rfl) (fun _ _ _ h => h) (yieldsIf_move (by rfl) _ rfl (by rfl)) hS ?_
  (try simp only [Act.put, List.setIfInBounds_toArray, List.set_cons_zero, List.set_cons_succ])
  refine wpAnyH_ready (rs := [1]) (by kernel_rfl) (by simp) (AllReadyH.cons rfl (fun K hK => ?_) AllReadyH.nil)
  (try rw [if_pos (by rfl)])
  clear hS
  go_simp
  refine (to_Trust p0 _ _ _ (Lay.later HR_p0.out ((Below.refl _ _).drew)) sz_p0).mono ?_
  rintro e3 w3 ⟨c_t3, rfl, hr_, hb3⟩
  have hb3 := Below.viad hb3
  have hl3 := hb3
  have hB3 : Below w.heap.size w w3 := Below.step hB2 hl3
  have hz3 : w2.heap.size + 0 ≤ w3.heap.size := by have := hb3.size; (try simp at this); omega
  replace HR_p0 := Lib.hid (Lay.later HR_p0.out hl3)
  replace HR_p3 := Lib.hid (Lay.later HR_p3.out hl3)
  replace HA_p0 := Lib.hid (HA_p0.out.below hl3 lt_p0); replace lt_p0 := Nat.lt_of_lt_of_le lt_p0 hl3.size
  replace HA_p3 := Lib.hid (HA_p3.out.below hl3 lt_p3); replace lt_p3 := Nat.lt_of_lt_of_le lt_p3 hl3.size
  have HR_t3 := Lib.hid (Lay.mono hr_ (S' := rng (w2.heap.size) (w3.heap.size)) (fun b h => by unfold rng at h ⊢; (try simp at h); omega)); clear hr_
  have sb_t3 : sub (rng (w2.heap.size) (w3.heap.size)) (rng (w2.heap.size) (w3.heap.size)) := sub_refl _
  refine hK.out _ _ ⟨HA_p0.out, HA_p3.out⟩ (fun hS => ?_)
  clear hK K
  (try simp only [Act.put, List.setIfInBounds_toArray, List.set_cons_zero, List.set_cons_succ])
  refine wpAnyH_ready (rs := [5]) (by kernel_rfl) (by simp) (AllReadyH.cons rfl (fun K hK => ?_) AllReadyH.nil)
  (try rw [if_pos (by rfl)])
  clear hS
  go_simp
  refine (to_Past p3 _ _ _ HR_p3.out sz_p3).mono ?_
  rintro e4 w4 ⟨c_t4, rfl, hr_, hb4⟩
  have hl4 := hb4
  have hB4 : Below w.heap.size w w4 := Below.step hB3 hl4
  have hz4 : w3.heap.size + 0 ≤ w4.heap.size := by have := hb4.size; (try simp at this); omega
  replace HR_p0 := Lib.hid (Lay.later HR_p0.out hl4)
  replace HR_p3 := Lib.hid (Lay.later HR_p3.out hl4)
  replace HR_t3 := Lib.hid (Lay.later HR_t3.out hl4)
  replace HA_p0 := Lib.hid (HA_p0.out.below hl4 lt_p0); replace lt_p0 := Nat.lt_of_lt_of_le lt_p0 hl4.size
  replace HA_p3 := Lib.hid (HA_p3.out.below hl4 lt_p3); replace lt_p3 := Nat.lt_of_lt_of_le lt_p3 hl4.size
  have HR_t4 := Lib.hid (Lay.mono hr_ (S' := rng (w3.heap.size) (w4.heap.size)) (fun b h => by unfold rng at h ⊢; (try simp at h); omega)); clear hr_
  have sb_t4 : sub (rng (w3.heap.size) (w4.heap.size)) (rng (w3.heap.size) (w4.heap.size)) := sub_refl _
  refine hK.out _ _ ⟨HA_p0.out, HA_p3.out⟩ (fun hS => ?_)
  clear hK K
  (try simp only [Act.put, List.setIfInBounds_toArray, List.set_cons_zero, List.set_cons_succ])
  refine wpAnyH_ready (rs := [6]) (by kernel_rfl) (by simp) (AllReadyH.cons rfl (fun K hK => ?_) AllReadyH.nil)
  (try rw [if_pos (by rfl)])
  clear hS
  go_simp
  refine (spec_CheckPast _ p0 c_t3 _ (Lay.weak HR_t3.out) sz_p0 p1 hp1 p2 zp2 p3 c_t4 _ (Lay.weak HR_t4.out) sz_p3).mono ?_
  rintro e5 w5 ⟨A_w0, c_w0, rfl, lw0, mw0, hr_w0, hb5⟩
  have hl5 := hb5
  have hB5 : Below w.heap.size w w5 := Below.step hB4 hl5
  have hz5 : w4.heap.size + 0 ≤ w5.heap.size := by have := hb5.size; (try simp at this); omega
  replace HR_p0 := Lib.hid (Lay.later HR_p0.out hl5)
  replace HR_p3 := Lib.hid (Lay.later HR_p3.out hl5)
  replace HR_t3 := Lib.hid (Lay.later HR_t3.out hl5)
  replace HR_t4 := Lib.hid (Lay.later HR_t4.out hl5)
  replace HA_p0 := Lib.hid (HA_p0.out.below hl5 lt_p0); replace lt_p0 := Nat.lt_of_lt_of_le lt_p0 hl5.size
  replace HA_p3 := Lib.hid (HA_p3.out.below hl5 lt_p3); replace lt_p3 := Nat.lt_of_lt_of_le lt_p3 hl5.size
  have hr_ := hr_w0; clear hr_w0
  have HR_w0 := Lib.hid (Row.mono hr_ (S' := rng (w4.heap.size) (w5.heap.size)) (fun b h => by unfold rng at h ⊢; (try simp at h); omega)); clear hr_
  have sb_w0 : sub (rng (w4.heap.size) (w5.heap.size)) (rng (w4.heap.size) (w5.heap.size)) := sub_refl _
  refine hK.out _ _ ⟨HA_p0.out, HA_p3.out⟩ (fun hS => ?_)
  clear hK K
  (try simp only [Act.put, List.setIfInBounds_toArray, List.set_cons_zero, List.set_cons_succ])
  refine wpAnyH_take (i := 7) (v := .tuple #[.slice A_w0 (checkPastP p0 p1 p2 p3).1.length c_w0, .int .i64 (checkPastP p0 p1 p2 p3).2]) rfl (by kernel_rfl) (by kernel_rfl) (by kernel_rfl) (fun _ _ _ h => h) (yieldsIf_move (by rfl) _ rfl (by rfl)) hS ?_
  (try simp only [Act.put, List.setIfInBounds_toArray, List.set_cons_zero, List.set_cons_succ])
  refine wpAnyH_take (i := 8) (v := .slice A_w0 (checkPastP p0 p1 p2 p3).1.length c_w0) rfl (by kernel_rfl) (by kernel_rfl) (by kernel_rfl) (fun _ _ _ h => h) (yieldsIf_extract (by rfl) _ 0 rfl (by rfl) (by rfl)) hS ?_
  (try simp only [Act.put, List.setIfInBounds_toArray, List.set_cons_zero, List.set_cons_succ])
  refine wpAnyH_take (i := 9) (v := .int .i64 (checkPastP p0 p1 p2 p3).2) rfl (by kernel_rfl) (by kernel_rfl) (by kernel_rfl) (fun _ _ _ h => h) (yieldsIf_extract (by rfl) _ 1 rfl (by rfl) (by rfl)) hS ?_
  (try simp only [Act.put, List.setIfInBounds_toArray, List.set_cons_zero, List.set_cons_succ])
  refine wpAnyH_take (i := 10) (v := .slice A_w0 (checkPastP p0 p1 p2 p3).1.length c_w0) rfl (by kernel_rfl) (by kernel_rfl) (by kernel_rfl) (fun _ _ _ h => h) (yieldsIf_assign (by rfl) _ rfl (by rfl)) hS ?_
  (try simp only [Act.put, List.setIfInBounds_toArray, List.set_cons_zero, List.set_cons_succ])
  refine wpAnyH_take (i := 11) (v := .int .i64 (checkPastP p0 p1 p2 p3).2) rfl (by kernel_rfl) (by kernel_rfl) (by kernel_rfl) (fun _ _ _ h => h) (yieldsIf_assign (by rfl) _ rfl (by rfl)) hS ?_
  (try simp only [Act.put, List.setIfInBounds_toArray, List.set_cons_zero, List.set_cons_succ])
  refine wpAnyH_done (by kernel_rfl) ?_ _
  clear hS
  clear HR_t3
  clear HR_t4
  go_wp2_with (first | (refine wpList_loadT rfl _ _ rfl rfl HA_p0.out Tryz.underlying54 k_p0 ln_p0 ?_) | (refine wpList_loadT rfl _ _ rfl rfl HA_p3.out Tryz.underlying57 k_p3 ln_p3 ?_))
  refine (to_Trust p0 _ _ _ HR_p0.out sz_p0).mono ?_
  rintro e6 w6 ⟨c_x0, rfl, hr_, hb6⟩
  have hl6 := hb6
  have hB6 : Below w.heap.size w w6 := Below.step hB5 hl6
  have hz6 : w5.heap.size + 0 ≤ w6.heap.size := by have := hb6.size; (try simp at this); omega
  replace HR_p0 := Lib.hid (Lay.later HR_p0.out hl6)
  replace HR_p3 := Lib.hid (Lay.later HR_p3.out hl6)
  replace HR_w0 := Lib.hid (Row.later HR_w0.out hl6)
  replace HA_p0 := Lib.hid (HA_p0.out.below hl6 lt_p0); replace lt_p0 := Nat.lt_of_lt_of_le lt_p0 hl6.size
  replace HA_p3 := Lib.hid (HA_p3.out.below hl6 lt_p3); replace lt_p3 := Nat.lt_of_lt_of_le lt_p3 hl6.size
  have HR_x0 := Lib.hid (Lay.mono hr_ (S' := rng (w5.heap.size) (w6.heap.size)) (fun b h => by unfold rng at h ⊢; (try simp at h); omega)); clear hr_
  have sb_x0 : sub (rng (w5.heap.size) (w6.heap.size)) (rng (w5.heap.size) (w6.heap.size)) := sub_refl _
  have ln_x0 := Lay.len HR_x0.out
  have on_x0 := Lay.one HR_x0.out
  have k_x0 : (Tryz.prog.info? 62).map (·.size) = some (Lay.n Trust) := by kernel_rfl
  go_wp2_with (first | (refine wpList_storeNew (cs := c_x0.toArray) rfl _ _ _ rfl rfl rfl rfl (k_x0.trans (congrArg some ln_x0.symm)) (Eq.trans (b := Lay.n Trust) rfl ln_x0.symm) (by simpa using on_x0) ?_) | (refine wpList_loadT rfl _ _ rfl rfl (At.new _ c_x0 _ (0, 0)) Tryz.underlying62 k_x0 ln_x0 ?_) | (refine wpList_loadT rfl _ _ rfl rfl (HA_p0.out.alloc lt_p0 _) Tryz.underlying54 k_p0 ln_p0 ?_) | (refine wpList_loadT rfl _ _ rfl rfl (HA_p3.out.alloc lt_p3 _) Tryz.underlying57 k_p3 ln_p3 ?_))
  refine (to_Past p3 _ _ _ (Lay.later HR_p3.out ((Below.refl _ _).alloc (Nat.le_refl _) _)) sz_p3).mono ?_
  rintro e7 w7 ⟨c_x3, rfl, hr_, hb7⟩
  have hl7 : Below w6.heap.size w6 w7 := (Below.via hb7)
  have hB7 : Below w.heap.size w w7 := Below.step hB6 hl7
  have hz7 : w6.heap.size + 1 ≤ w7.heap.size := by have := hb7.size; (try simp at this); omega
  replace HR_p0 := Lib.hid (Lay.later HR_p0.out hl7)
  replace HR_p3 := Lib.hid (Lay.later HR_p3.out hl7)
  replace HR_w0 := Lib.hid (Row.later HR_w0.out hl7)
  replace HR_x0 := Lib.hid (Lay.later HR_x0.out hl7)
  replace HA_p0 := Lib.hid (HA_p0.out.below hl7 lt_p0); replace lt_p0 := Nat.lt_of_lt_of_le lt_p0 hl7.size
  replace HA_p3 := Lib.hid (HA_p3.out.below hl7 lt_p3); replace lt_p3 := Nat.lt_of_lt_of_le lt_p3 hl7.size
  have HA_x0 : Hid (At w7 (w6.heap.size) 0 c_x0) := Lib.hid (by have := (At.new w6 c_x0 _ (0, 0)).below (b := w6.heap.size) hb7 (by simp); simpa using this)
  have lt_x0 : w6.heap.size < w7.heap.size := by omega
  have HR_x3 := Lib.hid (Lay.mono hr_ (S' := rng (w6.heap.size + 1) (w7.heap.size)) (fun b h => by unfold rng at h ⊢; (try simp at h); omega)); clear hr_
  have sb_x3 : sub (rng (w6.heap.size + 1) (w7.heap.size)) (rng (w6.heap.size + 1) (w7.heap.size)) := sub_refl _
  have ln_x3 := Lay.len HR_x3.out
  have on_x3 := Lay.one HR_x3.out
  have k_x3 : (Tryz.prog.info? 66).map (·.size) = some (Lay.n Past) := by kernel_rfl
  go_wp2_with (first | (refine wpList_storeNew (cs := c_x3.toArray) rfl _ _ _ rfl rfl rfl rfl (k_x3.trans (congrArg some ln_x3.symm)) (Eq.trans (b := Lay.n Past) rfl ln_x3.symm) (by simpa using on_x3) ?_) | (refine wpList_loadT rfl _ _ rfl rfl (At.new _ c_x3 _ (0, 0)) Tryz.underlying66 k_x3 ln_x3 ?_) | (refine wpList_loadT rfl _ _ rfl rfl (HA_p0.out.alloc lt_p0 _) Tryz.underlying54 k_p0 ln_p0 ?_) | (refine wpList_loadT rfl _ _ rfl rfl (HA_p3.out.alloc lt_p3 _) Tryz.underlying57 k_p3 ln_p3 ?_) | (refine wpList_loadT rfl _ _ rfl rfl (HA_x0.out.alloc lt_x0 _) Tryz.underlying62 k_x0 ln_x0 ?_))
  refine (impl_CheckPast _ p0 c_x0 _ (Lay.weak (Lay.later HR_x0.out ((Below.refl _ _).alloc (Nat.le_refl _) _))) sz_p0 p1 hp1 p2 zp2 p3 c_x3 _ (Lay.weak (Lay.later HR_x3.out ((Below.refl _ _).alloc (Nat.le_refl _) _))) sz_p3 (Tabs.later (Tabs.later HTb.out hB7) ((Below.refl _ _).alloc (Nat.le_refl _) _))).mono ?_
  rintro e8 w8 ⟨A_g0, c_g0, rfl, lg0, mg0, hr_g0, hb8⟩
  have hl8 : Below w7.heap.size w7 w8 := (Below.via hb8)
  have hB8 : Below w.heap.size w w8 := Below.step hB7 hl8
  have hz8 : w7.heap.size + 1 ≤ w8.heap.size := by have := hb8.size; (try simp at this); omega
  replace HR_p0 := Lib.hid (Lay.later HR_p0.out hl8)
  replace HR_p3 := Lib.hid (Lay.later HR_p3.out hl8)
  replace HR_w0 := Lib.hid (Row.later HR_w0.out hl8)
  replace HR_x0 := Lib.hid (Lay.later HR_x0.out hl8)
  replace HR_x3 := Lib.hid (Lay.later HR_x3.out hl8)
  replace HA_p0 := Lib.hid (HA_p0.out.below hl8 lt_p0); replace lt_p0 := Nat.lt_of_lt_of_le lt_p0 hl8.size
  replace HA_p3 := Lib.hid (HA_p3.out.below hl8 lt_p3); replace lt_p3 := Nat.lt_of_lt_of_le lt_p3 hl8.size
  replace HA_x0 := Lib.hid (HA_x0.out.below hl8 lt_x0); replace lt_x0 := Nat.lt_of_lt_of_le lt_x0 hl8.size
  have HA_x3 : Hid (At w8 (w7.heap.size) 0 c_x3) := Lib.hid (by have := (At.new w7 c_x3 _ (0, 0)).below (b := w7.heap.size) hb8 (by simp); simpa using this)
  have lt_x3 : w7.heap.size < w8.heap.size := by omega
  have hr_ := hr_g0; clear hr_g0
  have HR_g0 := Lib.hid (Row.mono hr_ (S' := rng (w7.heap.size + 1) (w8.heap.size)) (fun b h => by unfold rng at h ⊢; (try simp at h); omega)); clear hr_
  have sb_g0 : sub (rng (w7.heap.size + 1) (w8.heap.size)) (rng (w7.heap.size + 1) (w8.heap.size)) := sub_refl _
  go_wp2_with (first | (refine wpList_loadT rfl _ _ rfl rfl HA_p0.out Tryz.underlying54 k_p0 ln_p0 ?_) | (refine wpList_loadT rfl _ _ rfl rfl HA_p3.out Tryz.underlying57 k_p3 ln_p3 ?_) | (refine wpList_loadT rfl _ _ rfl rfl HA_x0.out Tryz.underlying62 k_x0 ln_x0 ?_) | (refine wpList_loadT rfl _ _ rfl rfl HA_x3.out Tryz.underlying66 k_x3 ln_x3 ?_))
  refine (eq_StringS (checkPastP p0 p1 p2 p3).1 _ A_g0 A_w0 c_g0 c_w0 _ _ (Row.weak HR_g0.out) (Row.weak HR_w0.out) (Nat.le_trans lg0 mg0)).mono ?_
  rintro e9 w9 ⟨rfl, hb9⟩
  have hl9 := hb9
  have hB9 : Below w.heap.size w w9 := Below.step hB8 hl9
  have hz9 : w8.heap.size + 0 ≤ w9.heap.size := by have := hb9.size; (try simp at this); omega
  replace HR_p0 := Lib.hid (Lay.later HR_p0.out hl9)
  replace HR_p3 := Lib.hid (Lay.later HR_p3.out hl9)
  replace HR_w0 := Lib.hid (Row.later HR_w0.out hl9)
  replace HR_x0 := Lib.hid (Lay.later HR_x0.out hl9)
  replace HR_x3 := Lib.hid (Lay.later HR_x3.out hl9)
  replace HR_g0 := Lib.hid (Row.later HR_g0.out hl9)
  replace HA_p0 := Lib.hid (HA_p0.out.below hl9 lt_p0); replace lt_p0 := Nat.lt_of_lt_of_le lt_p0 hl9.size
  replace HA_p3 := Lib.hid (HA_p3.out.below hl9 lt_p3); replace lt_p3 := Nat.lt_of_lt_of_le lt_p3 hl9.size
  replace HA_x0 := Lib.hid (HA_x0.out.below hl9 lt_x0); replace lt_x0 := Nat.lt_of_lt_of_le lt_x0 hl9.size
  replace HA_x3 := Lib.hid (HA_x3.out.below hl9 lt_x3); replace lt_x3 := Nat.lt_of_lt_of_le lt_x3 hl9.size
  go_wp2_with (first | (refine wpList_loadT rfl _ _ rfl rfl HA_p0.out Tryz.underlying54 k_p0 ln_p0 ?_) | (refine wpList_loadT rfl _ _ rfl rfl HA_p3.out Tryz.underlying57 k_p3 ln_p3 ?_) | (refine wpList_loadT rfl _ _ rfl rfl HA_x0.out Tryz.underlying62 k_x0 ln_x0 ?_) | (refine wpList_loadT rfl _ _ rfl rfl HA_x3.out Tryz.underlying66 k_x3 ln_x3 ?_))
  refine wp_region_held_drew (S := fun W' => At W' (w6.heap.size) 0 c_x0 ∧ At W' (w.heap.size) 0 cp0) (by kernel_rfl) ⟨HA_x0.out, HA_p0.out⟩ (fun hS => ?_)
  refine wpAnyH_take (i := 0) (v := .agg c_x0.toArray) rfl (by kernel_rfl) (by kernel_rfl) (by kernel_rfl) (fun _ _ _ h => h) (yieldsIf_loadT (by rfl) _ _ rfl rfl (fun _ h => h.1) Tryz.underlying62 k_x0 ln_x0) hS ?_
  (try simp only [Act.put, List.setIfInBounds_toArray, List.set_cons_zero, List.set_cons_succ])
  refine wpAnyH_take (i := 1) (v := .agg cp0.toArray) rfl (by kernel_rfl) (by kernel_rfl) (by kernel_rfl) (fun _ _ _ h => h) (yieldsIf_loadT (by rfl) _ _ rfl rfl (fun _ h => h.2) Tryz.underlying54 k_p0 ln_p0) hS ?_
  (try simp only [Act.put, List.setIfInBounds_toArray, List.set_cons_zero, List.set_cons_succ])
  refine wpAnyH_ready (rs := [2]) (by kernel_rfl) (by simp) (AllReadyH.cons rfl (fun K hK => ?_) AllReadyH.nil)
  (try rw [if_pos (by rfl)])
  clear hS
  go_simp
  refine (to_Trust p0 _ _ _ (Lay.later HR_p0.out ((Below.refl _ _).drew)) sz_p0).mono ?_
  rintro e10 w10 ⟨c_t10, rfl, hr_, hb10⟩
  have hb10 := Below.viad hb10
  have hl10 := hb10
  have hB10 : Below w.heap.size w w10 := Below.step hB9 hl10
  have hz10 : w9.heap.size + 0 ≤ w10.heap.size := by have := hb10.size; (try simp at this); omega
  replace HR_p0 := Lib.hid (Lay.later HR_p0.out hl10)
  replace HR_p3 := Lib.hid (Lay.later HR_p3.out hl10)
  replace HR_w0 := Lib.hid (Row.later HR_w0.out hl10)
  replace HR_x0 := Lib.hid (Lay.later HR_x0.out hl10)
  replace HR_x3 := Lib.hid (Lay.later HR_x3.out hl10)
  replace HR_g0 := Lib.hid (Row.later HR_g0.out hl10)
  replace HA_p0 := Lib.hid (HA_p0.out.below hl10 lt_p0); replace lt_p0 := Nat.lt_of_lt_of_le lt_p0 hl10.size
  replace HA_p3 := Lib.hid (HA_p3.out.below hl10 lt_p3); replace lt_p3 := Nat.lt_of_lt_of_le lt_p3 hl10.size
  replace HA_x0 := Lib.hid (HA_x0.out.below hl10 lt_x0); replace lt_x0 := Nat.lt_of_lt_of_le lt_x0 hl10.size
  replace HA_x3 := Lib.hid (HA_x3.out.below hl10 lt_x3); replace lt_x3 := Nat.lt_of_lt_of_le lt_x3 hl10.size
  have HR_t10 := Lib.hid (Lay.mono hr_ (S' := rng (w9.heap.size) (w10.heap.size)) (fun b h => by unfold rng at h ⊢; (try simp at h); omega)); clear hr_
  have sb_t10 : sub (rng (w9.heap.size) (w10.heap.size)) (rng (w9.heap.size) (w10.heap.size)) := sub_refl _
  refine hK.out _ _ ⟨HA_x0.out, HA_p0.out⟩ (fun hS => ?_)
  clear hK K
  (try simp only [Act.put, List.setIfInBounds_toArray, List.set_cons_zero, List.set_cons_succ])
  refine wpAnyH_ready (rs := [3]) (by kernel_rfl) (by simp) (AllReadyH.cons rfl (fun K hK => ?_) AllReadyH.nil)
  (try rw [if_pos (by rfl)])
  clear hS
  go_simp
  refine (eq_Trust p0 _ _ _ _ _ (Lay.weak HR_x0.out) (Lay.weak HR_t10.out)).mono ?_
  rintro e11 w11 ⟨rfl, hb11⟩
  have hl11 := hb11
  have hB11 : Below w.heap.size w w11 := Below.step hB10 hl11
  have hz11 : w10.heap.size + 0 ≤ w11.heap.size := by have := hb11.size; (try simp at this); omega
  replace HR_p0 := Lib.hid (Lay.later HR_p0.out hl11)
  replace HR_p3 := Lib.hid (Lay.later HR_p3.out hl11)
  replace HR_w0 := Lib.hid (Row.later HR_w0.out hl11)
  replace HR_x0 := Lib.hid (Lay.later HR_x0.out hl11)
  replace HR_x3 := Lib.hid (Lay.later HR_x3.out hl11)
  replace HR_g0 := Lib.hid (Row.later HR_g0.out hl11)
  replace HR_t10 := Lib.hid (Lay.later HR_t10.out hl11)
  replace HA_p0 := Lib.hid (HA_p0.out.below hl11 lt_p0); replace lt_p0 := Nat.lt_of_lt_of_le lt_p0 hl11.size
  replace HA_p3 := Lib.hid (HA_p3.out.below hl11 lt_p3); replace lt_p3 := Nat.lt_of_lt_of_le lt_p3 hl11.size
  replace HA_x0 := Lib.hid (HA_x0.out.below hl11 lt_x0); replace lt_x0 := Nat.lt_of_lt_of_le lt_x0 hl11.size
  replace HA_x3 := Lib.hid (HA_x3.out.below hl11 lt_x3); replace lt_x3 := Nat.lt_of_lt_of_le lt_x3 hl11.size
  refine hK.out _ _ ⟨HA_x0.out, HA_p0.out⟩ (fun hS => ?_)
  clear hK K
  (try simp only [Act.put, List.setIfInBounds_toArray, List.set_cons_zero, List.set_cons_succ])
  refine wpAnyH_ready (rs := [4]) (by kernel_rfl) (by simp) (AllReadyH.cons rfl (fun K hK => ?_) AllReadyH.nil)
  go_simp
  refine hK.out _ _ hS (fun hS => ?_)
  clear hK K
  (try (try simp only [Act.put, List.setIfInBounds_toArray, List.set_cons_zero, List.set_cons_succ]))
  refine wpAnyH_done (by kernel_rfl) ?_ _
  clear hS
  clear HR_t10
  go_wp2_with (first | (refine wpList_loadT rfl _ _ rfl rfl HA_p0.out Tryz.underlying54 k_p0 ln_p0 ?_) | (refine wpList_loadT rfl _ _ rfl rfl HA_p3.out Tryz.underlying57 k_p3 ln_p3 ?_) | (refine wpList_loadT rfl _ _ rfl rfl HA_x0.out Tryz.underlying62 k_x0 ln_x0 ?_) | (refine wpList_loadT rfl _ _ rfl rfl HA_x3.out Tryz.underlying66 k_x3 ln_x3 ?_))
  refine wp_region_held_drew (S := fun W' => At W' (w7.heap.size) 0 c_x3 ∧ At W' (w.heap.size + 1) 0 cp3) (by kernel_rfl) ⟨HA_x3.out, HA_p3.out⟩ (fun hS => ?_)
  refine wpAnyH_take (i := 0) (v := .agg c_x3.toArray) rfl (by kernel_rfl) (by kernel_rfl) (by kernel_rfl) (fun _ _ _ h => h) (yieldsIf_loadT (by rfl) _ _ rfl rfl (fun _ h => h.1) Tryz.underlying66 k_x3 ln_x3) hS ?_
  (try simp only [Act.put, List.setIfInBounds_toArray, List.set_cons_zero, List.set_cons_succ])
  refine wpAnyH_take (i := 1) (v := .agg cp3.toArray) rfl (by kernel_rfl) (by kernel_rfl) (by kernel_rfl) (fun _ _ _ h => h) (yieldsIf_loadT (by rfl) _ _ rfl rfl (fun _ h => h.2) Tryz.underlying57 k_p3 ln_p3) hS ?_
  (try simp only [Act.put, List.setIfInBounds_toArray, List.set_cons_zero, List.set_cons_succ])
  refine wpAnyH_ready (rs := [2]) (by kernel_rfl) (by simp) (AllReadyH.cons rfl (fun K hK => ?_) AllReadyH.nil)
  (try rw [if_pos (by rfl)])
  clear hS
  go_simp
  refine (to_Past p3 _ _ _ (Lay.later HR_p3.out ((Below.refl _ _).drew)) sz_p3).mono ?_
  rintro e12 w12 ⟨c_t12, rfl, hr_, hb12⟩
  have hb12 := Below.viad hb12
  have hl12 := hb12
  have hB12 : Below w.heap.size w w12 := Below.step hB11 hl12
  have hz12 : w11.heap.size + 0 ≤ w12.heap.size := by have := hb12.size; (try simp at this); omega
  replace HR_p0 := Lib.hid (Lay.later HR_p0.out hl12)
  replace HR_p3 := Lib.hid (Lay.later HR_p3.out hl12)
  replace HR_w0 := Lib.hid (Row.later HR_w0.out hl12)
  replace HR_x0 := Lib.hid (Lay.later HR_x0.out hl12)
  replace HR_x3 := Lib.hid (Lay.later HR_x3.out hl12)
  replace HR_g0 := Lib.hid (Row.later HR_g0.out hl12)
  replace HA_p0 := Lib.hid (HA_p0.out.below hl12 lt_p0); replace lt_p0 := Nat.lt_of_lt_of_le lt_p0 hl12.size
  replace HA_p3 := Lib.hid (HA_p3.out.below hl12 lt_p3); replace lt_p3 := Nat.lt_of_lt_of_le lt_p3 hl12.size
  replace HA_x0 := Lib.hid (HA_x0.out.below hl12 lt_x0); replace lt_x0 := Nat.lt_of_lt_of_le lt_x0 hl12.size
  replace HA_x3 := Lib.hid (HA_x3.out.below hl12 lt_x3); replace lt_x3 := Nat.lt_of_lt_of_le lt_x3 hl12.size
  have HR_t12 := Lib.hid (Lay.mono hr_ (S' := rng (w11.heap.size) (w12.heap.size)) (fun b h => by unfold rng at h ⊢; (try simp at h); omega)); clear hr_
  have sb_t12 : sub (rng (w11.heap.size) (w12.heap.size)) (rng (w11.heap.size) (w12.heap.size)) := sub_refl _
  refine hK.out _ _ ⟨HA_x3.out, HA_p3.out⟩ (fun hS => ?_)
  clear hK K
  (try simp only [Act.put, List.setIfInBounds_toArray, List.set_cons_zero, List.set_cons_succ])
  refine wpAnyH_ready (rs := [3]) (by kernel_rfl) (by simp) (AllReadyH.cons rfl (fun K hK => ?_) AllReadyH.nil)
  (try rw [if_pos (by rfl)])
  clear hS
  go_simp
  refine (eq_Past p3 _ _ _ _ _ (Lay.weak HR_x3.out) (Lay.weak HR_t12.out)).mono ?_
  rintro e13 w13 ⟨rfl, hb13⟩
  have hl13 := hb13
  have hB13 : Below w.heap.size w w13 := Below.step hB12 hl13
  have hz13 : w12.heap.size + 0 ≤ w13.heap.size := by have := hb13.size; (try simp at this); omega
  replace HR_p0 := Lib.hid (Lay.later HR_p0.out hl13)
  replace HR_p3 := Lib.hid (Lay.later HR_p3.out hl13)
  replace HR_w0 := Lib.hid (Row.later HR_w0.out hl13)
  replace HR_x0 := Lib.hid (Lay.later HR_x0.out hl13)
  replace HR_x3 := Lib.hid (Lay.later HR_x3.out hl13)
  replace HR_g0 := Lib.hid (Row.later HR_g0.out hl13)
  replace HR_t12 := Lib.hid (Lay.later HR_t12.out hl13)
  replace HA_p0 := Lib.hid (HA_p0.out.below hl13 lt_p0); replace lt_p0 := Nat.lt_of_lt_of_le lt_p0 hl13.size
  replace HA_p3 := Lib.hid (HA_p3.out.below hl13 lt_p3); replace lt_p3 := Nat.lt_of_lt_of_le lt_p3 hl13.size
  replace HA_x0 := Lib.hid (HA_x0.out.below hl13 lt_x0); replace lt_x0 := Nat.lt_of_lt_of_le lt_x0 hl13.size
  replace HA_x3 := Lib.hid (HA_x3.out.below hl13 lt_x3); replace lt_x3 := Nat.lt_of_lt_of_le lt_x3 hl13.size
  refine hK.out _ _ ⟨HA_x3.out, HA_p3.out⟩ (fun hS => ?_)
  clear hK K
  (try simp only [Act.put, List.setIfInBounds_toArray, List.set_cons_zero, List.set_cons_succ])
  refine wpAnyH_ready (rs := [4]) (by kernel_rfl) (by simp) (AllReadyH.cons rfl (fun K hK => ?_) AllReadyH.nil)
  go_simp
  refine hK.out _ _ hS (fun hS => ?_)
  clear hK K
  (try (try simp only [Act.put, List.setIfInBounds_toArray, List.set_cons_zero, List.set_cons_succ]))
  refine wpAnyH_done (by kernel_rfl) ?_ _
  clear hS
  clear HR_t12
  go_wp2_with (first | (refine wpList_loadT rfl _ _ rfl rfl HA_p0.out Tryz.underlying54 k_p0 ln_p0 ?_) | (refine wpList_loadT rfl _ _ rfl rfl HA_p3.out Tryz.underlying57 k_p3 ln_p3 ?_) | (refine wpList_loadT rfl _ _ rfl rfl HA_x0.out Tryz.underlying62 k_x0 ln_x0 ?_) | (refine wpList_loadT rfl _ _ rfl rfl HA_x3.out Tryz.underlying66 k_x3 ln_x3 ?_))
  have cb1 : p0.ct ≤ 1000000000000 := by have := ctb_Trust p0; have := sz_p0; omega
  refine (mark_Trust p0 _ _ _ _ 1 (by first | rfl | simp) (by omega) HR_x0.out).mono ?_
  obtain ⟨K1, hK_K1⟩ : ∃ K, 1 + p0.ct = K := ⟨_, rfl⟩
  rw [hK_K1]
  have bK_K1 : K1 ≤ 2000000000004 := by omega
  rintro e14 w14 ⟨rfl, hr_, hb14⟩
  have hB14 : Below w.heap.size w w14 := Below.stepc hB13 hb14 (fun x hx => by have := sb_x0 x hx; unfold rng at this; have := hB13.size; omega)
  have hz14 : w13.heap.size ≤ w14.heap.size := hb14.size
  replace HR_p0 := Lib.hid (Lay.chg HR_p0.out hb14 (disjS (sub_refl _) sb_x0 (by omega)))
  replace HR_p3 := Lib.hid (Lay.chg HR_p3.out hb14 (disjS (sub_refl _) sb_x0 (by omega)))
  replace HR_w0 := Lib.hid (Row.chg HR_w0.out hb14 (disjS sb_w0 sb_x0 (by omega)))
  replace HR_x3 := Lib.hid (Lay.chg HR_x3.out hb14 (disjS sb_x3 sb_x0 (by omega)))
  replace HR_g0 := Lib.hid (Row.chg HR_g0.out hb14 (disjS sb_g0 sb_x0 (by omega)))
  replace HA_p0 := Lib.hid (HA_p0.out.chg hb14 lt_p0 (not_rng sb_x0 (by omega))); replace lt_p0 := Nat.lt_of_lt_of_le lt_p0 hb14.size
  replace HA_p3 := Lib.hid (HA_p3.out.chg hb14 lt_p3 (not_rng sb_x0 (by omega))); replace lt_p3 := Nat.lt_of_lt_of_le lt_p3 hb14.size
  replace HA_x0 := Lib.hid (HA_x0.out.chg hb14 lt_x0 (not_rng sb_x0 (by omega))); replace lt_x0 := Nat.lt_of_lt_of_le lt_x0 hb14.size
  replace HA_x3 := Lib.hid (HA_x3.out.chg hb14 lt_x3 (not_rng sb_x0 (by omega))); replace lt_x3 := Nat.lt_of_lt_of_le lt_x3 hb14.size
  replace HR_x0 := Lib.hid hr_; clear hr_
  go_wp2_with (first | (refine wpList_loadT rfl _ _ rfl rfl HA_p0.out Tryz.underlying54 k_p0 ln_p0 ?_) | (refine wpList_loadT rfl _ _ rfl rfl HA_p3.out Tryz.underlying57 k_p3 ln_p3 ?_) | (refine wpList_loadT rfl _ _ rfl rfl HA_x0.out Tryz.underlying62 k_x0 ln_x0 ?_) | (refine wpList_loadT rfl _ _ rfl rfl HA_x3.out Tryz.underlying66 k_x3 ln_x3 ?_))
  have cb2 : p3.ct ≤ 1000000000000 := by have := ctb_Past p3; have := sz_p3; omega
  refine (mark_Past p3 _ _ _ _ K1 (by first | rfl | simp) (by omega) HR_x3.out).mono ?_
  obtain ⟨K2, hK_K2⟩ : ∃ K, K1 + p3.ct = K := ⟨_, rfl⟩
  rw [hK_K2]
  have bK_K2 : K2 ≤ 3000000000006 := by omega
  rintro e15 w15 ⟨rfl, hr_, hb15⟩
  have hB15 : Below w.heap.size w w15 := Below.stepc hB14 hb15 (fun x hx => by have := sb_x3 x hx; unfold rng at this; have := hB14.size; omega)
  have hz15 : w14.heap.size ≤ w15.heap.size := hb15.size
  replace HR_p0 := Lib.hid (Lay.chg HR_p0.out hb15 (disjS (sub_refl _) sb_x3 (by omega)))
  replace HR_p3 := Lib.hid (Lay.chg HR_p3.out hb15 (disjS (sub_refl _) sb_x3 (by omega)))
  replace HR_w0 := Lib.hid (Row.chg HR_w0.out hb15 (disjS sb_w0 sb_x3 (by omega)))
  replace HR_x0 := Lib.hid (Lay.chg HR_x0.out hb15 (disjS sb_x0 sb_x3 (by omega)))
  replace HR_g0 := Lib.hid (Row.chg HR_g0.out hb15 (disjS sb_g0 sb_x3 (by omega)))
  replace HA_p0 := Lib.hid (HA_p0.out.chg hb15 lt_p0 (not_rng sb_x3 (by omega))); replace lt_p0 := Nat.lt_of_lt_of_le lt_p0 hb15.size
  replace HA_p3 := Lib.hid (HA_p3.out.chg hb15 lt_p3 (not_rng sb_x3 (by omega))); replace lt_p3 := Nat.lt_of_lt_of_le lt_p3 hb15.size
  replace HA_x0 := Lib.hid (HA_x0.out.chg hb15 lt_x0 (not_rng sb_x3 (by omega))); replace lt_x0 := Nat.lt_of_lt_of_le lt_x0 hb15.size
  replace HA_x3 := Lib.hid (HA_x3.out.chg hb15 lt_x3 (not_rng sb_x3 (by omega))); replace lt_x3 := Nat.lt_of_lt_of_le lt_x3 hb15.size
  replace HR_x3 := Lib.hid hr_; clear hr_
  go_wp2_with (first | (refine wpList_loadT rfl _ _ rfl rfl HA_p0.out Tryz.underlying54 k_p0 ln_p0 ?_) | (refine wpList_loadT rfl _ _ rfl rfl HA_p3.out Tryz.underlying57 k_p3 ln_p3 ?_) | (refine wpList_loadT rfl _ _ rfl rfl HA_x0.out Tryz.underlying62 k_x0 ln_x0 ?_) | (refine wpList_loadT rfl _ _ rfl rfl HA_x3.out Tryz.underlying66 k_x3 ln_x3 ?_))
  refine (eq_StringS (checkPastP p0 p1 p2 p3).1 _ A_g0 A_w0 c_g0 c_w0 _ _ (Row.weak HR_g0.out) (Row.weak HR_w0.out) (Nat.le_trans lg0 mg0)).mono ?_
  rintro e16 w16 ⟨rfl, hb16⟩
  have hl16 := hb16
  have hB16 : Below w.heap.size w w16 := Below.step hB15 hl16
  have hz16 : w15.heap.size + 0 ≤ w16.heap.size := by have := hb16.size; (try simp at this); omega
  replace HR_p0 := Lib.hid (Lay.later HR_p0.out hl16)
  replace HR_p3 := Lib.hid (Lay.later HR_p3.out hl16)
  replace HR_w0 := Lib.hid (Row.later HR_w0.out hl16)
  replace HR_x0 := Lib.hid (Lay.later HR_x0.out hl16)
  replace HR_x3 := Lib.hid (Lay.later HR_x3.out hl16)
  replace HR_g0 := Lib.hid (Row.later HR_g0.out hl16)
  replace HA_p0 := Lib.hid (HA_p0.out.below hl16 lt_p0); replace lt_p0 := Nat.lt_of_lt_of_le lt_p0 hl16.size
  replace HA_p3 := Lib.hid (HA_p3.out.below hl16 lt_p3); replace lt_p3 := Nat.lt_of_lt_of_le lt_p3 hl16.size
  replace HA_x0 := Lib.hid (HA_x0.out.below hl16 lt_x0); replace lt_x0 := Nat.lt_of_lt_of_le lt_x0 hl16.size
  replace HA_x3 := Lib.hid (HA_x3.out.below hl16 lt_x3); replace lt_x3 := Nat.lt_of_lt_of_le lt_x3 hl16.size
  go_wp2_with (first | (refine wpList_loadT rfl _ _ rfl rfl HA_p0.out Tryz.underlying54 k_p0 ln_p0 ?_) | (refine wpList_loadT rfl _ _ rfl rfl HA_p3.out Tryz.underlying57 k_p3 ln_p3 ?_) | (refine wpList_loadT rfl _ _ rfl rfl HA_x0.out Tryz.underlying62 k_x0 ln_x0 ?_) | (refine wpList_loadT rfl _ _ rfl rfl HA_x3.out Tryz.underlying66 k_x3 ln_x3 ?_))
  have cb3 : cnL (checkPastP p0 p1 p2 p3).1 ≤ 1000000000000 := cnb_checkPastP p0 p1 p2 p3 sz_p0 sz_p3 zp2
  refine (mark_StringS (checkPastP p0 p1 p2 p3).1 _ A_g0 c_g0 _ _ 1 (by first | rfl | simp) (by omega) HR_g0.out (Nat.le_trans lg0 mg0)).mono ?_
  obtain ⟨K3, hK_K3⟩ : ∃ K, 1 + cnL (checkPastP p0 p1 p2 p3).1 = K := ⟨_, rfl⟩
  rw [hK_K3]
  have bK_K3 : K3 ≤ 4000000000008 := by omega
  rintro e17 w17 ⟨rfl, hr_, hb17⟩
  have hB17 : Below w.heap.size w w17 := Below.stepc hB16 hb17 (fun x hx => by have := sb_g0 x hx; unfold rng at this; have := hB16.size; omega)
  have hz17 : w16.heap.size ≤ w17.heap.size := hb17.size
  replace HR_p0 := Lib.hid (Lay.chg HR_p0.out hb17 (disjS (sub_refl _) sb_g0 (by omega)))
  replace HR_p3 := Lib.hid (Lay.chg HR_p3.out hb17 (disjS (sub_refl _) sb_g0 (by omega)))
  replace HR_w0 := Lib.hid (Row.chg HR_w0.out hb17 (disjS sb_w0 sb_g0 (by omega)))
  replace HR_x0 := Lib.hid (Lay.chg HR_x0.out hb17 (disjS sb_x0 sb_g0 (by omega)))
  replace HR_x3 := Lib.hid (Lay.chg HR_x3.out hb17 (disjS sb_x3 sb_g0 (by omega)))
  replace HA_p0 := Lib.hid (HA_p0.out.chg hb17 lt_p0 (not_rng sb_g0 (by omega))); replace lt_p0 := Nat.lt_of_lt_of_le lt_p0 hb17.size
  replace HA_p3 := Lib.hid (HA_p3.out.chg hb17 lt_p3 (not_rng sb_g0 (by omega))); replace lt_p3 := Nat.lt_of_lt_of_le lt_p3 hb17.size
  replace HA_x0 := Lib.hid (HA_x0.out.chg hb17 lt_x0 (not_rng sb_g0 (by omega))); replace lt_x0 := Nat.lt_of_lt_of_le lt_x0 hb17.size
  replace HA_x3 := Lib.hid (HA_x3.out.chg hb17 lt_x3 (not_rng sb_g0 (by omega))); replace lt_x3 := Nat.lt_of_lt_of_le lt_x3 hb17.size
  replace HR_g0 := Lib.hid hr_; clear hr_
  go_wp2_with (first | (refine wpList_loadT rfl _ _ rfl rfl HA_p0.out Tryz.underlying54 k_p0 ln_p0 ?_) | (refine wpList_loadT rfl _ _ rfl rfl HA_p3.out Tryz.underlying57 k_p3 ln_p3 ?_) | (refine wpList_loadT rfl _ _ rfl rfl HA_x0.out Tryz.underlying62 k_x0 ln_x0 ?_) | (refine wpList_loadT rfl _ _ rfl rfl HA_x3.out Tryz.underlying66 k_x3 ln_x3 ?_))
  refine (held_StringS (checkPastP p0 p1 p2 p3).1 _ A_g0 c_g0 _ _ 1 (by first | rfl | simp) (by omega) (Row.weak HR_g0.out) (Nat.le_trans lg0 mg0)).mono ?_
  rw [hK_K3]
  rintro e18 w18 ⟨rfl, hb18⟩
  have hl18 := hb18
  have hB18 : Below w.heap.size w w18 := Below.step hB17 hl18
  have hz18 : w17.heap.size + 0 ≤ w18.heap.size := by have := hb18.size; (try simp at this); omega
  replace HR_p0 := Lib.hid (Lay.later HR_p0.out hl18)
  replace HR_p3 := Lib.hid (Lay.later HR_p3.out hl18)
  replace HR_w0 := Lib.hid (Row.later HR_w0.out hl18)
  replace HR_x0 := Lib.hid (Lay.later HR_x0.out hl18)
  replace HR_x3 := Lib.hid (Lay.later HR_x3.out hl18)
  replace HR_g0 := Lib.hid (Row.later HR_g0.out hl18)
  replace HA_p0 := Lib.hid (HA_p0.out.below hl18 lt_p0); replace lt_p0 := Nat.lt_of_lt_of_le lt_p0 hl18.size
  replace HA_p3 := Lib.hid (HA_p3.out.below hl18 lt_p3); replace lt_p3 := Nat.lt_of_lt_of_le lt_p3 hl18.size
  replace HA_x0 := Lib.hid (HA_x0.out.below hl18 lt_x0); replace lt_x0 := Nat.lt_of_lt_of_le lt_x0 hl18.size
  replace HA_x3 := Lib.hid (HA_x3.out.below hl18 lt_x3); replace lt_x3 := Nat.lt_of_lt_of_le lt_x3 hl18.size
  go_wp2_with (first | (refine wpList_loadT rfl _ _ rfl rfl HA_p0.out Tryz.underlying54 k_p0 ln_p0 ?_) | (refine wpList_loadT rfl _ _ rfl rfl HA_p3.out Tryz.underlying57 k_p3 ln_p3 ?_) | (refine wpList_loadT rfl _ _ rfl rfl HA_x0.out Tryz.underlying62 k_x0 ln_x0 ?_) | (refine wpList_loadT rfl _ _ rfl rfl HA_x3.out Tryz.underlying66 k_x3 ln_x3 ?_))
  refine wp_region_held_drew (S := fun W' => At W' (w.heap.size) 0 cp0 ∧ At W' (w.heap.size + 1) 0 cp3) (by kernel_rfl) ⟨HA_p0.out, HA_p3.out⟩ (fun hS => ?_)
  refine wpAnyH_take (i := 0) (v := .agg cp0.toArray) rfl (by kernel_rfl) (by kernel_rfl) (by kernel_rfl) (fun _ _ _ h => h) (yieldsIf_loadT (by rfl) _ _ rfl rfl (fun _ h => h.1) Tryz.underlying54 k_p0 ln_p0) hS ?_
  (try simp only [Act.put, List.setIfInBounds_toArray, List.set_cons_zero, List.set_cons_succ])
  refine wpAnyH_take (i := 4) (v := .agg cp3.toArray) rfl (by kernel_rfl) (by kernel_rfl) (by kernel_rfl) (fun _ _ _ h => h) (yieldsIf_loadT (by rfl) _ _ rfl rfl (fun _ h => h.2) Tryz.underlying57 k_p3 ln_p3) hS ?_
  (try simp only [Act.put, List.setIfInBounds_toArray, List.set_cons_zero, List.set_cons_succ])
  refine wpAnyH_take (i := 2) (v := .int .i64 p1) rfl (by kernel_rfl) (by kernel_rfl) (by kernel_rfl) (fun _ _ _ h => h) (yieldsIf_move (by rfl) _ rfl (by rfl)) hS ?_
  (try simp only [Act.put, List.setIfInBounds_toArray, List.set_cons_zero, List.set_cons_succ])
  refine wpAnyH_take (i := 3) (v := .string p2) rfl (by kernel_rfl) (by kernel_rfl) (by kernel_rfl) (fun _ _ _ h => h) (yieldsIf_move (by rfl) _ rfl (by rfl)) hS ?_
  (try simp only [Act.put, List.setIfInBounds_toArray, List.set_cons_zero, List.set_cons_succ])
  refine wpAnyH_ready (rs := [1]) (by kernel_rfl) (by simp) (AllReadyH.cons rfl (fun K hK => ?_) AllReadyH.nil)
  (try rw [if_pos (by rfl)])
  clear hS
  go_simp
  refine (to_Trust p0 _ _ _ (Lay.later HR_p0.out ((Below.refl _ _).drew)) sz_p0).mono ?_
  rintro e19 w19 ⟨c_t19, rfl, hr_, hb19⟩
  have hb19 := Below.viad hb19
  have hl19 := hb19
  have hB19 : Below w.heap.size w w19 := Below.step hB18 hl19
  have hz19 : w18.heap.size + 0 ≤ w19.heap.size := by have := hb19.size; (try simp at this); omega
  replace HR_p0 := Lib.hid (Lay.later HR_p0.out hl19)
  replace HR_p3 := Lib.hid (Lay.later HR_p3.out hl19)
  replace HR_w0 := Lib.hid (Row.later HR_w0.out hl19)
  replace HR_x0 := Lib.hid (Lay.later HR_x0.out hl19)
  replace HR_x3 := Lib.hid (Lay.later HR_x3.out hl19)
  replace HR_g0 := Lib.hid (Row.later HR_g0.out hl19)
  replace HA_p0 := Lib.hid (HA_p0.out.below hl19 lt_p0); replace lt_p0 := Nat.lt_of_lt_of_le lt_p0 hl19.size
  replace HA_p3 := Lib.hid (HA_p3.out.below hl19 lt_p3); replace lt_p3 := Nat.lt_of_lt_of_le lt_p3 hl19.size
  replace HA_x0 := Lib.hid (HA_x0.out.below hl19 lt_x0); replace lt_x0 := Nat.lt_of_lt_of_le lt_x0 hl19.size
  replace HA_x3 := Lib.hid (HA_x3.out.below hl19 lt_x3); replace lt_x3 := Nat.lt_of_lt_of_le lt_x3 hl19.size
  have HR_t19 := Lib.hid (Lay.mono hr_ (S' := rng (w18.heap.size) (w19.heap.size)) (fun b h => by unfold rng at h ⊢; (try simp at h); omega)); clear hr_
  have sb_t19 : sub (rng (w18.heap.size) (w19.heap.size)) (rng (w18.heap.size) (w19.heap.size)) := sub_refl _
  refine hK.out _ _ ⟨HA_p0.out, HA_p3.out⟩ (fun hS => ?_)
  clear hK K
  (try simp only [Act.put, List.setIfInBounds_toArray, List.set_cons_zero, List.set_cons_succ])
  refine wpAnyH_ready (rs := [5]) (by kernel_rfl) (by simp) (AllReadyH.cons rfl (fun K hK => ?_) AllReadyH.nil)
  (try rw [if_pos (by rfl)])
  clear hS
  go_simp
  refine (to_Past p3 _ _ _ HR_p3.out sz_p3).mono ?_
  rintro e20 w20 ⟨c_t20, rfl, hr_, hb20⟩
  have hl20 := hb20
  have hB20 : Below w.heap.size w w20 := Below.step hB19 hl20
  have hz20 : w19.heap.size + 0 ≤ w20.heap.size := by have := hb20.size; (try simp at this); omega
  replace HR_p0 := Lib.hid (Lay.later HR_p0.out hl20)
  replace HR_p3 := Lib.hid (Lay.later HR_p3.out hl20)
  replace HR_w0 := Lib.hid (Row.later HR_w0.out hl20)
  replace HR_x0 := Lib.hid (Lay.later HR_x0.out hl20)
  replace HR_x3 := Lib.hid (Lay.later HR_x3.out hl20)
  replace HR_g0 := Lib.hid (Row.later HR_g0.out hl20)
  replace HR_t19 := Lib.hid (Lay.later HR_t19.out hl20)
  replace HA_p0 := Lib.hid (HA_p0.out.below hl20 lt_p0); replace lt_p0 := Nat.lt_of_lt_of_le lt_p0 hl20.size
  replace HA_p3 := Lib.hid (HA_p3.out.below hl20 lt_p3); replace lt_p3 := Nat.lt_of_lt_of_le lt_p3 hl20.size
  replace HA_x0 := Lib.hid (HA_x0.out.below hl20 lt_x0); replace lt_x0 := Nat.lt_of_lt_of_le lt_x0 hl20.size
  replace HA_x3 := Lib.hid (HA_x3.out.below hl20 lt_x3); replace lt_x3 := Nat.lt_of_lt_of_le lt_x3 hl20.size
  have HR_t20 := Lib.hid (Lay.mono hr_ (S' := rng (w19.heap.size) (w20.heap.size)) (fun b h => by unfold rng at h ⊢; (try simp at h); omega)); clear hr_
  have sb_t20 : sub (rng (w19.heap.size) (w20.heap.size)) (rng (w19.heap.size) (w20.heap.size)) := sub_refl _
  refine hK.out _ _ ⟨HA_p0.out, HA_p3.out⟩ (fun hS => ?_)
  clear hK K
  (try simp only [Act.put, List.setIfInBounds_toArray, List.set_cons_zero, List.set_cons_succ])
  refine wpAnyH_ready (rs := [6]) (by kernel_rfl) (by simp) (AllReadyH.cons rfl (fun K hK => ?_) AllReadyH.nil)
  (try rw [if_pos (by rfl)])
  clear hS
  go_simp
  refine (impl_CheckPast _ p0 c_t19 _ (Lay.weak HR_t19.out) sz_p0 p1 hp1 p2 zp2 p3 c_t20 _ (Lay.weak HR_t20.out) sz_p3 (Tabs.later HTb.out hB20)).mono ?_
  rintro e21 w21 ⟨A_h0, c_h0, rfl, lh0, mh0, hr_h0, hb21⟩
  have hl21 := hb21
  have hB21 : Below w.heap.size w w21 := Below.step hB20 hl21
  have hz21 : w20.heap.size + 0 ≤ w21.heap.size := by have := hb21.size; (try simp at this); omega
  replace HR_p0 := Lib.hid (Lay.later HR_p0.out hl21)
  replace HR_p3 := Lib.hid (Lay.later HR_p3.out hl21)
  replace HR_w0 := Lib.hid (Row.later HR_w0.out hl21)
  replace HR_x0 := Lib.hid (Lay.later HR_x0.out hl21)
  replace HR_x3 := Lib.hid (Lay.later HR_x3.out hl21)
  replace HR_g0 := Lib.hid (Row.later HR_g0.out hl21)
  replace HR_t19 := Lib.hid (Lay.later HR_t19.out hl21)
  replace HR_t20 := Lib.hid (Lay.later HR_t20.out hl21)
  replace HA_p0 := Lib.hid (HA_p0.out.below hl21 lt_p0); replace lt_p0 := Nat.lt_of_lt_of_le lt_p0 hl21.size
  replace HA_p3 := Lib.hid (HA_p3.out.below hl21 lt_p3); replace lt_p3 := Nat.lt_of_lt_of_le lt_p3 hl21.size
  replace HA_x0 := Lib.hid (HA_x0.out.below hl21 lt_x0); replace lt_x0 := Nat.lt_of_lt_of_le lt_x0 hl21.size
  replace HA_x3 := Lib.hid (HA_x3.out.below hl21 lt_x3); replace lt_x3 := Nat.lt_of_lt_of_le lt_x3 hl21.size
  have hr_ := hr_h0; clear hr_h0
  have HR_h0 := Lib.hid (Row.mono hr_ (S' := rng (w20.heap.size) (w21.heap.size)) (fun b h => by unfold rng at h ⊢; (try simp at h); omega)); clear hr_
  have sb_h0 : sub (rng (w20.heap.size) (w21.heap.size)) (rng (w20.heap.size) (w21.heap.size)) := sub_refl _
  refine hK.out _ _ ⟨HA_p0.out, HA_p3.out⟩ (fun hS => ?_)
  clear hK K
  (try simp only [Act.put, List.setIfInBounds_toArray, List.set_cons_zero, List.set_cons_succ])
  refine wpAnyH_take (i := 7) (v := .tuple #[.slice A_h0 (checkPastP p0 p1 p2 p3).1.length c_h0, .int .i64 (checkPastP p0 p1 p2 p3).2]) rfl (by kernel_rfl) (by kernel_rfl) (by kernel_rfl) (fun _ _ _ h => h) (yieldsIf_move (by rfl) _ rfl (by rfl)) hS ?_
  (try simp only [Act.put, List.setIfInBounds_toArray, List.set_cons_zero, List.set_cons_succ])
  refine wpAnyH_take (i := 8) (v := .slice A_h0 (checkPastP p0 p1 p2 p3).1.length c_h0) rfl (by kernel_rfl) (by kernel_rfl) (by kernel_rfl) (fun _ _ _ h => h) (yieldsIf_extract (by rfl) _ 0 rfl (by rfl) (by rfl)) hS ?_
  (try simp only [Act.put, List.setIfInBounds_toArray, List.set_cons_zero, List.set_cons_succ])
  refine wpAnyH_take (i := 9) (v := .int .i64 (checkPastP p0 p1 p2 p3).2) rfl (by kernel_rfl) (by kernel_rfl) (by kernel_rfl) (fun _ _ _ h => h) (yieldsIf_extract (by rfl) _ 1 rfl (by rfl) (by rfl)) hS ?_
  (try simp only [Act.put, List.setIfInBounds_toArray, List.set_cons_zero, List.set_cons_succ])
  refine wpAnyH_take (i := 10) (v := .slice A_h0 (checkPastP p0 p1 p2 p3).1.length c_h0) rfl (by kernel_rfl) (by kernel_rfl) (by kernel_rfl) (fun _ _ _ h => h) (yieldsIf_assign (by rfl) _ rfl (by rfl)) hS ?_
  (try simp only [Act.put, List.setIfInBounds_toArray, List.set_cons_zero, List.set_cons_succ])
  refine wpAnyH_take (i := 11) (v := .int .i64 (checkPastP p0 p1 p2 p3).2) rfl (by kernel_rfl) (by kernel_rfl) (by kernel_rfl) (fun _ _ _ h => h) (yieldsIf_assign (by rfl) _ rfl (by rfl)) hS ?_
  (try simp only [Act.put, List.setIfInBounds_toArray, List.set_cons_zero, List.set_cons_succ])
  refine wpAnyH_done (by kernel_rfl) ?_ _
  clear hS
  clear HR_t19
  clear HR_t20
  go_wp2_with (first | (refine wpList_loadT rfl _ _ rfl rfl HA_p0.out Tryz.underlying54 k_p0 ln_p0 ?_) | (refine wpList_loadT rfl _ _ rfl rfl HA_p3.out Tryz.underlying57 k_p3 ln_p3 ?_) | (refine wpList_loadT rfl _ _ rfl rfl HA_x0.out Tryz.underlying62 k_x0 ln_x0 ?_) | (refine wpList_loadT rfl _ _ rfl rfl HA_x3.out Tryz.underlying66 k_x3 ln_x3 ?_))
  refine (eq_StringS (checkPastP p0 p1 p2 p3).1 _ A_h0 A_w0 c_h0 c_w0 _ _ (Row.weak HR_h0.out) (Row.weak HR_w0.out) (Nat.le_trans lh0 mh0)).mono ?_
  rintro e22 w22 ⟨rfl, hb22⟩
  have hl22 := hb22
  have hB22 : Below w.heap.size w w22 := Below.step hB21 hl22
  have hz22 : w21.heap.size + 0 ≤ w22.heap.size := by have := hb22.size; (try simp at this); omega
  replace HR_p0 := Lib.hid (Lay.later HR_p0.out hl22)
  replace HR_p3 := Lib.hid (Lay.later HR_p3.out hl22)
  replace HR_w0 := Lib.hid (Row.later HR_w0.out hl22)
  replace HR_x0 := Lib.hid (Lay.later HR_x0.out hl22)
  replace HR_x3 := Lib.hid (Lay.later HR_x3.out hl22)
  replace HR_g0 := Lib.hid (Row.later HR_g0.out hl22)
  replace HR_h0 := Lib.hid (Row.later HR_h0.out hl22)
  replace HA_p0 := Lib.hid (HA_p0.out.below hl22 lt_p0); replace lt_p0 := Nat.lt_of_lt_of_le lt_p0 hl22.size
  replace HA_p3 := Lib.hid (HA_p3.out.below hl22 lt_p3); replace lt_p3 := Nat.lt_of_lt_of_le lt_p3 hl22.size
  replace HA_x0 := Lib.hid (HA_x0.out.below hl22 lt_x0); replace lt_x0 := Nat.lt_of_lt_of_le lt_x0 hl22.size
  replace HA_x3 := Lib.hid (HA_x3.out.below hl22 lt_x3); replace lt_x3 := Nat.lt_of_lt_of_le lt_x3 hl22.size
  go_wp2_with (first | (refine wpList_loadT rfl _ _ rfl rfl HA_p0.out Tryz.underlying54 k_p0 ln_p0 ?_) | (refine wpList_loadT rfl _ _ rfl rfl HA_p3.out Tryz.underlying57 k_p3 ln_p3 ?_) | (refine wpList_loadT rfl _ _ rfl rfl HA_x0.out Tryz.underlying62 k_x0 ln_x0 ?_) | (refine wpList_loadT rfl _ _ rfl rfl HA_x3.out Tryz.underlying66 k_x3 ln_x3 ?_))
  refine (held_StringS (checkPastP p0 p1 p2 p3).1 _ A_g0 c_g0 _ _ 1 (by first | rfl | simp) (by omega) (Row.weak HR_g0.out) (Nat.le_trans lg0 mg0)).mono ?_
  rw [hK_K3]
  rintro e23 w23 ⟨rfl, hb23⟩
  have hl23 := hb23
  have hB23 : Below w.heap.size w w23 := Below.step hB22 hl23
  have hz23 : w22.heap.size + 0 ≤ w23.heap.size := by have := hb23.size; (try simp at this); omega
  replace HR_p0 := Lib.hid (Lay.later HR_p0.out hl23)
  replace HR_p3 := Lib.hid (Lay.later HR_p3.out hl23)
  replace HR_w0 := Lib.hid (Row.later HR_w0.out hl23)
  replace HR_x0 := Lib.hid (Lay.later HR_x0.out hl23)
  replace HR_x3 := Lib.hid (Lay.later HR_x3.out hl23)
  replace HR_g0 := Lib.hid (Row.later HR_g0.out hl23)
  replace HR_h0 := Lib.hid (Row.later HR_h0.out hl23)
  replace HA_p0 := Lib.hid (HA_p0.out.below hl23 lt_p0); replace lt_p0 := Nat.lt_of_lt_of_le lt_p0 hl23.size
  replace HA_p3 := Lib.hid (HA_p3.out.below hl23 lt_p3); replace lt_p3 := Nat.lt_of_lt_of_le lt_p3 hl23.size
  replace HA_x0 := Lib.hid (HA_x0.out.below hl23 lt_x0); replace lt_x0 := Nat.lt_of_lt_of_le lt_x0 hl23.size
  replace HA_x3 := Lib.hid (HA_x3.out.below hl23 lt_x3); replace lt_x3 := Nat.lt_of_lt_of_le lt_x3 hl23.size
  go_wp2_with (first | (refine wpList_loadT rfl _ _ rfl rfl HA_p0.out Tryz.underlying54 k_p0 ln_p0 ?_) | (refine wpList_loadT rfl _ _ rfl rfl HA_p3.out Tryz.underlying57 k_p3 ln_p3 ?_) | (refine wpList_loadT rfl _ _ rfl rfl HA_x0.out Tryz.underlying62 k_x0 ln_x0 ?_) | (refine wpList_loadT rfl _ _ rfl rfl HA_x3.out Tryz.underlying66 k_x3 ln_x3 ?_))
  go_ret; exact ⟨rfl, hB23⟩
set_option maxRecDepth 100000 in
theorem lifted_CheckPast (os : Os) (started : os.Started) (H : Type) (enc : TypeId × Value → H) :
    ReturnsInHanded {} Tryz.checked os 4 .any (fun w args => (Rows.fnExactCheckPastSpec.pre enc Tryz.prog Tryz.f4 [] false w args ∧ laidMetH Tryz.prog laidSha w) ∧ sizedMet enc Tryz.prog Tryz.f4 (OpenSpec.ofChange Rows.fnExactCheckPastSpec) false w args)
      (Rows.fnExactCheckPastSpec.post enc Tryz.prog Tryz.f4 false true false false) := by
  refine returnsInHanded_of_change_and (C := Tryz.checked) (X := fun w _ => laidMetH Tryz.prog laidSha w) (fun _ _ _ hh h => h.of_heap hh) own_ started (by kernel_rfl) Tryz.func4
    (ChangeSpec.witness_shaped (enc := enc) (C := Tryz.checked) (os := os) (X := fun w _ => laidMetH Tryz.prog laidSha w) false (World.doorLaid Tryz.prog 34 os) #[.agg #[.slice none 0 0, .int .i64 0, .int .i64 0], .int .i64 0, .string ⟨#[]⟩, .agg #[.slice none 0 0]] 8 rfl (World.shaped_of_RefB (by kernel_rfl) (by kernel_rfl)) (by kernel_rfl) (by kernel_rfl) (by kernel_rfl) (door_met os _)) ?_
  intro W base args ds gs before hval0 hW hcnd _ hLaid _
  have hval : ∀ (j : Nat) t v, Tryz.f4.params[j]? = some t → args[j]? = some v → Value.okWide Tryz.prog W .any base t v := hval0
  have hW' := hW
  obtain ⟨p, q, hA0, hV, rfl, hfz, hnd⟩ := hW
  have hA : DataW.TrodAll enc Tryz.prog W 0 (fun _ => true) true Tryz.f4.params.toList args.toList ds p := hA0
  rw [Tryz.params4] at hA hval
  have hA2 := hA
  obtain ⟨v0, vs0, d0, ds0, p0, q0, hargs0, rfl, rfl, h0, r0⟩ := trodAll_cons hA
  obtain ⟨v1, vs1, d1, ds1, p1, q1, hargs1, rfl, rfl, h1, r1⟩ := trodAll_cons r0
  obtain ⟨v2, vs2, d2, ds2, p2, q2, hargs2, rfl, rfl, h2, r2⟩ := trodAll_cons r1
  obtain ⟨v3, vs3, d3, ds3, p3, q3, hargs3, rfl, rfl, h3, r3⟩ := trodAll_cons r2
  obtain ⟨rfl, rfl, rfl⟩ := trodAll_nil r3
  try subst hargs1
  try subst hargs2
  try subst hargs3
  obtain rfl : args = #[v0, v1, v2, v3] := by cases args; simp_all
  have hV2 := hV
  obtain ⟨_, _, _, _, g0, _, _, _, _, _, g1, _, hgs, _⟩ := trodVars_two hV2
  subst hgs
  obtain ⟨c0, rfl⟩ := okWide_agg Tryz.underlying54 (hval 0 54 v0 rfl rfl)
  obtain ⟨fu0, hf0⟩ := h0
  obtain ⟨x0, hx0⟩ := rdb_Trust H enc W 0 _ _ fu0 _ _ hf0
  have ng1 := nagg_int Tryz.underlying3 (hval 1 3 v1 rfl rfl)
  obtain ⟨fu1, hf1⟩ := h1
  obtain ⟨x1, hx1⟩ := rdb_int (Tryz.underlying3) H enc W 0 _ _ fu1 _ _ hf1
  obtain ⟨hc1, hi1⟩ := open_int hx1
  obtain rfl := cells_one hc1 ng1
  have ng2 := nagg_string Tryz.underlying9 (hval 2 9 v2 rfl rfl)
  obtain ⟨fu2, hf2⟩ := h2
  obtain ⟨x2, hx2⟩ := rdb_str (Tryz.underlying9) H enc W 0 _ _ fu2 _ _ hf2
  obtain ⟨hc2, hi2⟩ := open_str hx2
  obtain rfl := cells_one hc2 ng2
  obtain ⟨c3, rfl⟩ := okWide_agg Tryz.underlying57 (hval 3 57 v3 rfl rfl)
  obtain ⟨fu3, hf3⟩ := h3
  obtain ⟨x3, hx3⟩ := rdb_Past H enc W 0 _ _ fu3 _ _ hf3
  refine (law_CheckPast W x0 c0.toList All hx0 x1 hi1 x2 hi2 x3 c3.toList All hx3 (tabs_of_laid hLaid)).mono fun e W' ⟨he, hb⟩ => ?_
  subst he
  refine ⟨_, rfl, post_below (pa := p0 ++ (p1 ++ (p2 ++ (p3 ++ [])))) (pv := q) hW' (fun _ _ _ => trodAll_mk1 (shut_bool Tryz.underlying4 true)) (fun sp hsp => ?_) (fun sp hsp => trodVars_stays laidOut_ hb (by kernel_rfl) hV (fun x hx => hsp x (by simp [hx]))) (by simp) hb (ok_one (by kernel_rfl) rfl (okWide_bool_mk Tryz.underlying4 true))⟩
  rw [show Tryz.f4.params.toList = _ from congrArg Array.toList Tryz.params4]
  exact trodAll_stays laidOut_ hb _ _ _ _ (by intro t ht; simp at ht; rcases ht with rfl | rfl | rfl | rfl <;> exact ⟨by kernel_rfl, by decide +kernel⟩) hA2 (fun x hx => hW'.lt x (by first | (simpa using Or.inl hx) | (simp at hx ⊢; rcases hx with hx | hx | hx | hx | hx <;> simp [hx]) | (simp at hx ⊢; rcases hx with hx | hx | hx | hx <;> simp [hx]) | (simp at hx ⊢; rcases hx with hx | hx | hx <;> simp [hx]) | (simp at hx ⊢; rcases hx with hx | hx <;> simp [hx]))) (fun x hx => hsp x (by first | (simpa using Or.inl hx) | (simp at hx ⊢; rcases hx with hx | hx | hx | hx | hx <;> simp [hx]) | (simp at hx ⊢; rcases hx with hx | hx | hx | hx <;> simp [hx]) | (simp at hx ⊢; rcases hx with hx | hx | hx <;> simp [hx]) | (simp at hx ⊢; rcases hx with hx | hx <;> simp [hx])))
theorem row_CheckPast : Rows.FnExactCheckPastSaid :=
  OpenClaim.holds_of_wide 4 Tryz.f4 rfl rfl rfl rfl rfl rfl rfl ⟨rfl, rfl, rfl, rfl, rfl⟩ rfl rfl rfl rfl rfl (by kernel_rfl) Tryz.func4 joined_CheckPast
    (of_decide_eq_true (by kernel_rfl)) (by unfold Func.isWrapper; first | (rw [if_pos (by decide +kernel)]; kernel_rfl) | (rw [if_neg (by decide +kernel)]; exact ⟨rfl, rfl⟩))
    (fun os started H enc _ => lifted_CheckPast os started H enc)
theorem holds_CheckPast : Rows.FnExactCheckPastCardSaid :=
  Claim7.holds_tied_plain_at .later [] Rows.fnExactCheckPastCard.laidKinds true Rows.fnExactCheckPastCard.stood.harness false
    row_CheckPast (fun _ h => by cases h) (by kernel_rfl) (fun _ h => by cases h) fnExactCheckPast_row_tie rfl ⟨rfl, rfl⟩ (by kernel_rfl) rfl
    (fun f fn hf hfn => by
      obtain rfl : f = 4 := Option.some.inj ((show Tryz.prog.funcNamed "loop.example/g00284/laws.FnExactCheckPast" = some 4 by kernel_rfl).symm.trans hf) |>.symm
      obtain rfl : fn = Tryz.f4 := (Option.some.inj (Tryz.func4.symm.trans hfn)).symm
      exact ⟨by kernel_rfl, fun j t ht => by
        rw [Tryz.params4] at ht
        have hm : t ∈ [54, 3, 9, 57] := by simpa using Array.mem_of_getElem? ht
        have hall : ([54, 3, 9, 57].all fun u => !Tryz.prog.wantsStandIn u) = true := by kernel_rfl
        exact (show Tryz.prog.wantsStandIn t = false by simpa using List.all_eq_true.1 hall t hm)⟩)
    (by kernel_rfl)
end Go.Proofs.YtcbbjfafmmcfiaaGreatDoor
