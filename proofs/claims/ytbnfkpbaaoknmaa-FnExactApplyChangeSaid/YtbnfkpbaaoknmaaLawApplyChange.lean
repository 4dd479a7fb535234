/- The program's ApplyChange answers as the reference's, for every argument. No condition. -/
import Derived.Test.YtbnfkpbaaoknmaaLw
import Derived.Test.YtbnfkpbaaoknmaaBt
import Derived.Test.YtbnfkpbaaoknmaaSz
import Derived.Test.YtbnfkpbaaoknmaaTo
import Derived.Test.YtbnfkpbaaoknmaaEq
import Derived.Test.YtbnfkpbaaoknmaaMa
import Derived.Test.YtbnfkpbaaoknmaaHd
import Derived.Test.YtbnfkpbaaoknmaaCb
import Derived.Test.YtbnfkpbaaoknmaaRg
import Derived.Test.YtbnfkpbaaoknmaaLa
set_option linter.unusedVariables false
set_option linter.unusedSimpArgs false
namespace Go.Proofs.Ytbnfkpbaaoknmaa
open Go.RowKit Go.WideShapes Go.ChangeShapes Go.ChangeAt Lay Mk
set_option maxRecDepth 20000 in set_option maxHeartbeats 8000000 in
theorem law_ApplyChange (w : World) (p0 : List Leaf) (Ap0 : Option Addr) (kp0 : Nat) (Sp0 : Blks) (hp0 : Row false w Ap0 kp0 p0 Sp0) (lp0 : p0.length ≤ kp0) (mp0 : kp0 ≤ maxLen) (p1 : Change) (cp1 : List Value) (Sp1 : Blks) (hp1 : rd false w cp1 p1 Sp1) : Calls Try.prog 3 #[.slice Ap0 p0.length kp0, .agg cp1.toArray] w fun e w' => e = .returned (.bool true) ∧ Below w.heap.size w w' := by
  replace hp0 := old_rngR hp0
  have HR_p0 := Lib.hid hp0; clear hp0
  replace hp1 := old_rng hp1
  have HR_p1 := Lib.hid hp1; clear hp1
  have ln_p1 := Lay.len HR_p1.out
  have k_p1 : (Try.prog.info? 24).map (·.size) = some (Lay.n Change) := by kernel_rfl
  go_enter Try.func3, Try.ntmps3
  go_wp2_with (first | (refine wpList_box rfl _ _ rfl rfl ?_) | (refine wpList_loadT rfl _ _ rfl rfl (At.new _ cp1 _ (0, 0)) Try.underlying24 k_p1 ln_p1 ?_))
  refine (sz_LeafS p0 _ Ap0 kp0 _ _ (Row.later HR_p0.out ((Below.refl _ _).alloc (Nat.le_refl _) _)) (Nat.le_trans lp0 mp0) (by omega) (by omega)).mono ?_
  rintro e1 w1 ⟨⟨n1, rfl, hn1⟩, hb1⟩
  have hl1 : Below w.heap.size w w1 := (Below.via hb1)
  have hB1 : Below w.heap.size w w1 := hl1
  have hz1 : w.heap.size + 1 ≤ w1.heap.size := by have := hb1.size; (try simp at this); omega
  replace HR_p0 := Lib.hid (Row.later HR_p0.out hl1)
  replace HR_p1 := Lib.hid (Lay.later HR_p1.out hl1)
  have HA_p1 : Hid (At w1 (w.heap.size) 0 cp1) := Lib.hid (by have := (At.new w cp1 _ (0, 0)).below (b := w.heap.size) hb1 (by simp); simpa using this)
  have lt_p1 : w.heap.size < w1.heap.size := by omega
  rcases szR_cases hn1 (by omega) with rfl | ⟨hn1a, hn1b, sz_p0⟩
  · go_wp2_with (fail)
    go_ret; exact ⟨rfl, hB1⟩
  clear hn1
  go_wp2_with (first | (refine wpList_loadT rfl _ _ rfl rfl HA_p1.out Try.underlying24 k_p1 ln_p1 ?_))
  refine (sz_Change p1 _ _ _ _ HR_p1.out (by omega) (by omega)).mono ?_
  rintro e2 w2 ⟨⟨n2, rfl, hn2⟩, hb2⟩
  have hl2 := hb2
  have hB2 : Below w.heap.size w w2 := Below.step hB1 hl2
  have hz2 : w1.heap.size + 0 ≤ w2.heap.size := by have := hb2.size; (try simp at this); omega
  replace HR_p0 := Lib.hid (Row.later HR_p0.out hl2)
  replace HR_p1 := Lib.hid (Lay.later HR_p1.out hl2)
  replace HA_p1 := Lib.hid (HA_p1.out.below hl2 lt_p1); replace lt_p1 := Nat.lt_of_lt_of_le lt_p1 hl2.size
  rcases szR_cases hn2 (by omega) with rfl | ⟨hn2a, hn2b, sz_p1⟩
  · go_wp2_with (fail)
    go_ret; exact ⟨rfl, hB2⟩
  clear hn2
  go_wp2_with (first | (refine wpList_loadT rfl _ _ rfl rfl HA_p1.out Try.underlying24 k_p1 ln_p1 ?_))
  refine wp_region_held_drew (S := fun W' => At W' (w.heap.size) 0 cp1) (by kernel_rfl) HA_p1.out (fun hS => ?_)
  refine wpAnyH_take (i := 2) (v := .agg cp1.toArray) rfl (by kernel_rfl) (by kernel_rfl) (by kernel_rfl) (fun _ _ _ h => h) (yieldsIf_loadT (by rfl) _ _ rfl rfl (fun _ h => h) Try.underlying24 k_p1 ln_p1) hS ?_
  (try simp only [Act.put, List.setIfInBounds_toArray, List.set_cons_zero, List.set_cons_succ])
  refine wpAnyH_take (i := 0) (v := .slice Ap0 p0.length kp0) rfl (by kernel_rfl) (by kernel_rfl) (by kernel_rfl) (fun _ _ _ h => h) (yieldsIf_move (by rfl) _ rfl (by rfl)) hS ?_
  (try simp only [Act.put, List.setIfInBounds_toArray, List.set_cons_zero, List.set_cons_succ])
  refine wpAnyH_ready (rs := [1]) (by kernel_rfl) (by simp) (AllReadyH.cons rfl (fun K hK => ?_) AllReadyH.nil)
  (try rw [if_pos (by rfl)])
  clear hS
  go_simp
  refine (to_LeafS p0 _ Ap0 kp0 _ (Row.later HR_p0.out ((Below.refl _ _).drew)) sz_p0).mono ?_
  rintro e3 w3 ⟨A_t3, c_t3, rfl, lt3, mt3, hr_, hb3⟩
  have hb3 := Below.viad hb3
  have hl3 := hb3
  have hB3 : Below w.heap.size w w3 := Below.step hB2 hl3
  have hz3 : w2.heap.size + 0 ≤ w3.heap.size := by have := hb3.size; (try simp at this); omega
  replace HR_p0 := Lib.hid (Row.later HR_p0.out hl3)
  replace HR_p1 := Lib.hid (Lay.later HR_p1.out hl3)
  replace HA_p1 := Lib.hid (HA_p1.out.below hl3 lt_p1); replace lt_p1 := Nat.lt_of_lt_of_le lt_p1 hl3.size
  have HR_t3 := Lib.hid (Row.mono hr_ (S' := rng (w2.heap.size) (w3.heap.size)) (fun b h => by unfold rng at h ⊢; (try simp at h); omega)); clear hr_
  have sb_t3 : sub (rng (w2.heap.size) (w3.heap.size)) (rng (w2.heap.size) (w3.heap.size)) := sub_refl _
  refine hK.out _ _ HA_p1.out (fun hS => ?_)
  clear hK K
  (try simp only [Act.put, List.setIfInBounds_toArray, List.set_cons_zero, List.set_cons_succ])
  refine wpAnyH_ready (rs := [3]) (by kernel_rfl) (by simp) (AllReadyH.cons rfl (fun K hK => ?_) AllReadyH.nil)
  (try rw [if_pos (by rfl)])
  clear hS
  go_simp
  refine (to_Change p1 _ _ _ HR_p1.out sz_p1).mono ?_
  rintro e4 w4 ⟨c_t4, rfl, hr_, hb4⟩
  have hl4 := hb4
  have hB4 : Below w.heap.size w w4 := Below.step hB3 hl4
  have hz4 : w3.heap.size + 0 ≤ w4.heap.size := by have := hb4.size; (try simp at this); omega
  replace HR_p0 := Lib.hid (Row.later HR_p0.out hl4)
  replace HR_p1 := Lib.hid (Lay.later HR_p1.out hl4)
  replace HR_t3 := Lib.hid (Row.later HR_t3.out hl4)
  replace HA_p1 := Lib.hid (HA_p1.out.below hl4 lt_p1); replace lt_p1 := Nat.lt_of_lt_of_le lt_p1 hl4.size
  have HR_t4 := Lib.hid (Lay.mono hr_ (S' := rng (w3.heap.size) (w4.heap.size)) (fun b h => by unfold rng at h ⊢; (try simp at h); omega)); clear hr_
  have sb_t4 : sub (rng (w3.heap.size) (w4.heap.size)) (rng (w3.heap.size) (w4.heap.size)) := sub_refl _
  refine hK.out _ _ HA_p1.out (fun hS => ?_)
  clear hK K
  (try simp only [Act.put, List.setIfInBounds_toArray, List.set_cons_zero, List.set_cons_succ])
  refine wpAnyH_ready (rs := [4]) (by kernel_rfl) (by simp) (AllReadyH.cons rfl (fun K hK => ?_) AllReadyH.nil)
  (try rw [if_pos (by rfl)])
  clear hS
  go_simp
  refine (spec_ApplyChange _ p0 A_t3 c_t3 _ (Row.weak HR_t3.out) lt3 mt3 sz_p0 p1 c_t4 _ (Lay.weak HR_t4.out) sz_p1).mono ?_
  rintro e5 w5 ⟨A_w0, c_w0, rfl, lw0, mw0, hr_w0, hb5⟩
  have hl5 := hb5
  have hB5 : Below w.heap.size w w5 := Below.step hB4 hl5
  have hz5 : w4.heap.size + 0 ≤ w5.heap.size := by have := hb5.size; (try simp at this); omega
  replace HR_p0 := Lib.hid (Row.later HR_p0.out hl5)
  replace HR_p1 := Lib.hid (Lay.later HR_p1.out hl5)
  replace HR_t3 := Lib.hid (Row.later HR_t3.out hl5)
  replace HR_t4 := Lib.hid (Lay.later HR_t4.out hl5)
  replace HA_p1 := Lib.hid (HA_p1.out.below hl5 lt_p1); replace lt_p1 := Nat.lt_of_lt_of_le lt_p1 hl5.size
  have hr_ := hr_w0; clear hr_w0
  have HR_w0 := Lib.hid (Row.mono hr_ (S' := rng (w4.heap.size) (w5.heap.size)) (fun b h => by unfold rng at h ⊢; (try simp at h); omega)); clear hr_
  have sb_w0 : sub (rng (w4.heap.size) (w5.heap.size)) (rng (w4.heap.size) (w5.heap.size)) := sub_refl _
  refine hK.out _ _ HA_p1.out (fun hS => ?_)
  clear hK K
  (try simp only [Act.put, List.setIfInBounds_toArray, List.set_cons_zero, List.set_cons_succ])
  refine wpAnyH_ready (rs := [5]) (by kernel_rfl) (by simp) (AllReadyH.cons rfl (fun K hK => ?_) AllReadyH.nil)
  go_simp
  refine hK.out _ _ hS (fun hS => ?_)
  clear hK K
  (try (try simp only [Act.put, List.setIfInBounds_toArray, List.set_cons_zero, List.set_cons_succ]))
  refine wpAnyH_done (by kernel_rfl) ?_ _
  clear hS
  clear HR_t3
  clear HR_t4
  go_wp2_with (first | (refine wpList_loadT rfl _ _ rfl rfl HA_p1.out Try.underlying24 k_p1 ln_p1 ?_))
  refine (to_LeafS p0 _ Ap0 kp0 _ HR_p0.out sz_p0).mono ?_
  rintro e6 w6 ⟨A_x0, c_x0, rfl, lx0, mx0, hr_, hb6⟩
  have hl6 := hb6
  have hB6 : Below w.heap.size w w6 := Below.step hB5 hl6
  have hz6 : w5.heap.size + 0 ≤ w6.heap.size := by have := hb6.size; (try simp at this); omega
  replace HR_p0 := Lib.hid (Row.later HR_p0.out hl6)
  replace HR_p1 := Lib.hid (Lay.later HR_p1.out hl6)
  replace HR_w0 := Lib.hid (Row.later HR_w0.out hl6)
  replace HA_p1 := Lib.hid (HA_p1.out.below hl6 lt_p1); replace lt_p1 := Nat.lt_of_lt_of_le lt_p1 hl6.size
  have HR_x0 := Lib.hid (Row.mono hr_ (S' := rng (w5.heap.size) (w6.heap.size)) (fun b h => by unfold rng at h ⊢; (try simp at h); omega)); clear hr_
  have sb_x0 : sub (rng (w5.heap.size) (w6.heap.size)) (rng (w5.heap.size) (w6.heap.size)) := sub_refl _
  go_wp2_with (first | (refine wpList_loadT rfl _ _ rfl rfl HA_p1.out Try.underlying24 k_p1 ln_p1 ?_))
  refine (to_Change p1 _ _ _ HR_p1.out sz_p1).mono ?_
  rintro e7 w7 ⟨c_t7, rfl, hr_, hb7⟩
  have hl7 := hb7
  have hB7 : Below w.heap.size w w7 := Below.step hB6 hl7
  have hz7 : w6.heap.size + 0 ≤ w7.heap.size := by have := hb7.size; (try simp at this); omega
  replace HR_p0 := Lib.hid (Row.later HR_p0.out hl7)
  replace HR_p1 := Lib.hid (Lay.later HR_p1.out hl7)
  replace HR_w0 := Lib.hid (Row.later HR_w0.out hl7)
  replace HR_x0 := Lib.hid (Row.later HR_x0.out hl7)
  replace HA_p1 := Lib.hid (HA_p1.out.below hl7 lt_p1); replace lt_p1 := Nat.lt_of_lt_of_le lt_p1 hl7.size
  have HR_t7 := Lib.hid (Lay.mono hr_ (S' := rng (w6.heap.size) (w7.heap.size)) (fun b h => by unfold rng at h ⊢; (try simp at h); omega)); clear hr_
  have sb_t7 : sub (rng (w6.heap.size) (w7.heap.size)) (rng (w6.heap.size) (w7.heap.size)) := sub_refl _
  go_wp2_with (first | (refine wpList_loadT rfl _ _ rfl rfl HA_p1.out Try.underlying24 k_p1 ln_p1 ?_))
  refine (impl_ApplyChange _ p0 A_x0 c_x0 _ (Row.weak HR_x0.out) lx0 mx0 sz_p0 p1 c_t7 _ (Lay.weak HR_t7.out) sz_p1).mono ?_
  rintro e8 w8 ⟨A_g0, c_g0, rfl, lg0, mg0, hr_g0, hb8⟩
  have hl8 := hb8
  have hB8 : Below w.heap.size w w8 := Below.step hB7 hl8
  have hz8 : w7.heap.size + 0 ≤ w8.heap.size := by have := hb8.size; (try simp at this); omega
  replace HR_p0 := Lib.hid (Row.later HR_p0.out hl8)
  replace HR_p1 := Lib.hid (Lay.later HR_p1.out hl8)
  replace HR_w0 := Lib.hid (Row.later HR_w0.out hl8)
  replace HR_x0 := Lib.hid (Row.later HR_x0.out hl8)
  replace HR_t7 := Lib.hid (Lay.later HR_t7.out hl8)
  replace HA_p1 := Lib.hid (HA_p1.out.below hl8 lt_p1); replace lt_p1 := Nat.lt_of_lt_of_le lt_p1 hl8.size
  have hr_ := hr_g0; clear hr_g0
  have HR_g0 := Lib.hid (Row.mono hr_ (S' := rng (w7.heap.size) (w8.heap.size)) (fun b h => by unfold rng at h ⊢; (try simp at h); omega)); clear hr_
  have sb_g0 : sub (rng (w7.heap.size) (w8.heap.size)) (rng (w7.heap.size) (w8.heap.size)) := sub_refl _
  clear HR_t7
  go_wp2_with (first | (refine wpList_loadT rfl _ _ rfl rfl HA_p1.out Try.underlying24 k_p1 ln_p1 ?_))
  refine (eq_LeafS (applyChange p0 p1) _ A_g0 A_w0 c_g0 c_w0 _ _ (Row.weak HR_g0.out) (Row.weak HR_w0.out) (Nat.le_trans lg0 mg0)).mono ?_
  rintro e9 w9 ⟨rfl, hb9⟩
  have hl9 := hb9
  have hB9 : Below w.heap.size w w9 := Below.step hB8 hl9
  have hz9 : w8.heap.size + 0 ≤ w9.heap.size := by have := hb9.size; (try simp at this); omega
  replace HR_p0 := Lib.hid (Row.later HR_p0.out hl9)
  replace HR_p1 := Lib.hid (Lay.later HR_p1.out hl9)
  replace HR_w0 := Lib.hid (Row.later HR_w0.out hl9)
  replace HR_x0 := Lib.hid (Row.later HR_x0.out hl9)
  replace HR_g0 := Lib.hid (Row.later HR_g0.out hl9)
  replace HA_p1 := Lib.hid (HA_p1.out.below hl9 lt_p1); replace lt_p1 := Nat.lt_of_lt_of_le lt_p1 hl9.size
  go_wp2_with (first | (refine wpList_loadT rfl _ _ rfl rfl HA_p1.out Try.underlying24 k_p1 ln_p1 ?_))
  refine (to_LeafS p0 _ Ap0 kp0 _ HR_p0.out sz_p0).mono ?_
  rintro e10 w10 ⟨A_t10, c_t10, rfl, lt10, mt10, hr_, hb10⟩
  have hl10 := hb10
  have hB10 : Below w.heap.size w w10 := Below.step hB9 hl10
  have hz10 : w9.heap.size + 0 ≤ w10.heap.size := by have := hb10.size; (try simp at this); omega
  replace HR_p0 := Lib.hid (Row.later HR_p0.out hl10)
  replace HR_p1 := Lib.hid (Lay.later HR_p1.out hl10)
  replace HR_w0 := Lib.hid (Row.later HR_w0.out hl10)
  replace HR_x0 := Lib.hid (Row.later HR_x0.out hl10)
  replace HR_g0 := Lib.hid (Row.later HR_g0.out hl10)
  replace HA_p1 := Lib.hid (HA_p1.out.below hl10 lt_p1); replace lt_p1 := Nat.lt_of_lt_of_le lt_p1 hl10.size
  have HR_t10 := Lib.hid (Row.mono hr_ (S' := rng (w9.heap.size) (w10.heap.size)) (fun b h => by unfold rng at h ⊢; (try simp at h); omega)); clear hr_
  have sb_t10 : sub (rng (w9.heap.size) (w10.heap.size)) (rng (w9.heap.size) (w10.heap.size)) := sub_refl _
  go_wp2_with (first | (refine wpList_loadT rfl _ _ rfl rfl HA_p1.out Try.underlying24 k_p1 ln_p1 ?_))
  refine (eq_LeafS p0 _ A_x0 A_t10 c_x0 c_t10 _ _ (Row.weak HR_x0.out) (Row.weak HR_t10.out) (Nat.le_trans lx0 mx0)).mono ?_
  rintro e11 w11 ⟨rfl, hb11⟩
  have hl11 := hb11
  have hB11 : Below w.heap.size w w11 := Below.step hB10 hl11
  have hz11 : w10.heap.size + 0 ≤ w11.heap.size := by have := hb11.size; (try simp at this); omega
  replace HR_p0 := Lib.hid (Row.later HR_p0.out hl11)
  replace HR_p1 := Lib.hid (Lay.later HR_p1.out hl11)
  replace HR_w0 := Lib.hid (Row.later HR_w0.out hl11)
  replace HR_x0 := Lib.hid (Row.later HR_x0.out hl11)
  replace HR_g0 := Lib.hid (Row.later HR_g0.out hl11)
  replace HR_t10 := Lib.hid (Row.later HR_t10.out hl11)
  replace HA_p1 := Lib.hid (HA_p1.out.below hl11 lt_p1); replace lt_p1 := Nat.lt_of_lt_of_le lt_p1 hl11.size
  clear HR_t10
  go_wp2_with (first | (refine wpList_loadT rfl _ _ rfl rfl HA_p1.out Try.underlying24 k_p1 ln_p1 ?_))
  have cb1 : cnL p0 ≤ 1000000000000 := by have := cnb_LeafS p0; have := sz_p0; omega
  refine (mark_LeafS p0 _ A_x0 c_x0 _ _ 1 (by first | rfl | simp) (by omega) HR_x0.out (Nat.le_trans lx0 mx0)).mono ?_
  obtain ⟨K1, hK_K1⟩ : ∃ K, 1 + cnL p0 = K := ⟨_, rfl⟩
  rw [hK_K1]
  have bK_K1 : K1 ≤ 2000000000004 := by omega
  rintro e12 w12 ⟨rfl, hr_, hb12⟩
  have hB12 : Below w.heap.size w w12 := Below.stepc hB11 hb12 (fun x hx => by have := sb_x0 x hx; unfold rng at this; have := hB11.size; omega)
  have hz12 : w11.heap.size ≤ w12.heap.size := hb12.size
  replace HR_p0 := Lib.hid (Row.chg HR_p0.out hb12 (disjS (sub_refl _) sb_x0 (by omega)))
  replace HR_p1 := Lib.hid (Lay.chg HR_p1.out hb12 (disjS (sub_refl _) sb_x0 (by omega)))
  replace HR_w0 := Lib.hid (Row.chg HR_w0.out hb12 (disjS sb_w0 sb_x0 (by omega)))
  replace HR_g0 := Lib.hid (Row.chg HR_g0.out hb12 (disjS sb_g0 sb_x0 (by omega)))
  replace HA_p1 := Lib.hid (HA_p1.out.chg hb12 lt_p1 (not_rng sb_x0 (by omega))); replace lt_p1 := Nat.lt_of_lt_of_le lt_p1 hb12.size
  replace HR_x0 := Lib.hid hr_; clear hr_
  go_wp2_with (first | (refine wpList_loadT rfl _ _ rfl rfl HA_p1.out Try.underlying24 k_p1 ln_p1 ?_))
  refine (eq_LeafS (applyChange p0 p1) _ A_g0 A_w0 c_g0 c_w0 _ _ (Row.weak HR_g0.out) (Row.weak HR_w0.out) (Nat.le_trans lg0 mg0)).mono ?_
  rintro e13 w13 ⟨rfl, hb13⟩
  have hl13 := hb13
  have hB13 : Below w.heap.size w w13 := Below.step hB12 hl13
  have hz13 : w12.heap.size + 0 ≤ w13.heap.size := by have := hb13.size; (try simp at this); omega
  replace HR_p0 := Lib.hid (Row.later HR_p0.out hl13)
  replace HR_p1 := Lib.hid (Lay.later HR_p1.out hl13)
  replace HR_w0 := Lib.hid (Row.later HR_w0.out hl13)
  replace HR_x0 := Lib.hid (Row.later HR_x0.out hl13)
  replace HR_g0 := Lib.hid (Row.later HR_g0.out hl13)
  replace HA_p1 := Lib.hid (HA_p1.out.below hl13 lt_p1); replace lt_p1 := Nat.lt_of_lt_of_le lt_p1 hl13.size
  go_wp2_with (first | (refine wpList_loadT rfl _ _ rfl rfl HA_p1.out Try.underlying24 k_p1 ln_p1 ?_))
  have cb2 : cnL (applyChange p0 p1) ≤ 1000000000000 := cnb_applyChange p0 p1 sz_p0 sz_p1
  refine (mark_LeafS (applyChange p0 p1) _ A_g0 c_g0 _ _ 1 (by first | rfl | simp) (by omega) HR_g0.out (Nat.le_trans lg0 mg0)).mono ?_
  obtain ⟨K2, hK_K2⟩ : ∃ K, 1 + cnL (applyChange p0 p1) = K := ⟨_, rfl⟩
  rw [hK_K2]
  have bK_K2 : K2 ≤ 3000000000006 := by omega
  rintro e14 w14 ⟨rfl, hr_, hb14⟩
  have hB14 : Below w.heap.size w w14 := Below.stepc hB13 hb14 (fun x hx => by have := sb_g0 x hx; unfold rng at this; have := hB13.size; omega)
  have hz14 : w13.heap.size ≤ w14.heap.size := hb14.size
  replace HR_p0 := Lib.hid (Row.chg HR_p0.out hb14 (disjS (sub_refl _) sb_g0 (by omega)))
  replace HR_p1 := Lib.hid (Lay.chg HR_p1.out hb14 (disjS (sub_refl _) sb_g0 (by omega)))
  replace HR_w0 := Lib.hid (Row.chg HR_w0.out hb14 (disjS sb_w0 sb_g0 (by omega)))
  replace HR_x0 := Lib.hid (Row.chg HR_x0.out hb14 (disjS sb_x0 sb_g0 (by omega)))
  replace HA_p1 := Lib.hid (HA_p1.out.chg hb14 lt_p1 (not_rng sb_g0 (by omega))); replace lt_p1 := Nat.lt_of_lt_of_le lt_p1 hb14.size
  replace HR_g0 := Lib.hid hr_; clear hr_
  go_wp2_with (first | (refine wpList_loadT rfl _ _ rfl rfl HA_p1.out Try.underlying24 k_p1 ln_p1 ?_))
  refine (held_LeafS (applyChange p0 p1) _ A_g0 c_g0 _ _ 1 (by first | rfl | simp) (by omega) (Row.weak HR_g0.out) (Nat.le_trans lg0 mg0)).mono ?_
  rw [hK_K2]
  rintro e15 w15 ⟨rfl, hb15⟩
  have hl15 := hb15
  have hB15 : Below w.heap.size w w15 := Below.step hB14 hl15
  have hz15 : w14.heap.size + 0 ≤ w15.heap.size := by have := hb15.size; (try simp at this); omega
  replace HR_p0 := Lib.hid (Row.later HR_p0.out hl15)
  replace HR_p1 := Lib.hid (Lay.later HR_p1.out hl15)
  replace HR_w0 := Lib.hid (Row.later HR_w0.out hl15)
  replace HR_x0 := Lib.hid (Row.later HR_x0.out hl15)
  replace HR_g0 := Lib.hid (Row.later HR_g0.out hl15)
  replace HA_p1 := Lib.hid (HA_p1.out.below hl15 lt_p1); replace lt_p1 := Nat.lt_of_lt_of_le lt_p1 hl15.size
  go_wp2_with (first | (refine wpList_loadT rfl _ _ rfl rfl HA_p1.out Try.underlying24 k_p1 ln_p1 ?_))
  refine wp_region_held_drew (S := fun W' => At W' (w.heap.size) 0 cp1) (by kernel_rfl) HA_p1.out (fun hS => ?_)
  refine wpAnyH_take (i := 2) (v := .agg cp1.toArray) rfl (by kernel_rfl) (by kernel_rfl) (by kernel_rfl) (fun _ _ _ h => h) (yieldsIf_loadT (by rfl) _ _ rfl rfl (fun _ h => h) Try.underlying24 k_p1 ln_p1) hS ?_
  (try simp only [Act.put, List.setIfInBounds_toArray, List.set_cons_zero, List.set_cons_succ])
  refine wpAnyH_take (i := 0) (v := .slice Ap0 p0.length kp0) rfl (by kernel_rfl) (by kernel_rfl) (by kernel_rfl) (fun _ _ _ h => h) (yieldsIf_move (by rfl) _ rfl (by rfl)) hS ?_
  (try simp only [Act.put, List.setIfInBounds_toArray, List.set_cons_zero, List.set_cons_succ])
  refine wpAnyH_ready (rs := [1]) (by kernel_rfl) (by simp) (AllReadyH.cons rfl (fun K hK => ?_) AllReadyH.nil)
  (try rw [if_pos (by rfl)])
  clear hS
  go_simp
  refine (to_LeafS p0 _ Ap0 kp0 _ (Row.later HR_p0.out ((Below.refl _ _).drew)) sz_p0).mono ?_
  rintro e16 w16 ⟨A_t16, c_t16, rfl, lt16, mt16, hr_, hb16⟩
  have hb16 := Below.viad hb16
  have hl16 := hb16
  have hB16 : Below w.heap.size w w16 := Below.step hB15 hl16
  have hz16 : w15.heap.size + 0 ≤ w16.heap.size := by have := hb16.size; (try simp at this); omega
  replace HR_p0 := Lib.hid (Row.later HR_p0.out hl16)
  replace HR_p1 := Lib.hid (Lay.later HR_p1.out hl16)
  replace HR_w0 := Lib.hid (Row.later HR_w0.out hl16)
  replace HR_x0 := Lib.hid (Row.later HR_x0.out hl16)
  replace HR_g0 := Lib.hid (Row.later HR_g0.out hl16)
  replace HA_p1 := Lib.hid (HA_p1.out.below hl16 lt_p1); replace lt_p1 := Nat.lt_of_lt_of_le lt_p1 hl16.size
  have HR_t16 := Lib.hid (Row.mono hr_ (S' := rng (w15.heap.size) (w16.heap.size)) (fun b h => by unfold rng at h ⊢; (try simp at h); omega)); clear hr_
  have sb_t16 : sub (rng (w15.heap.size) (w16.heap.size)) (rng (w15.heap.size) (w16.heap.size)) := sub_refl _
  refine hK.out _ _ HA_p1.out (fun hS => ?_)
  clear hK K
  (try simp only [Act.put, List.setIfInBounds_toArray, List.set_cons_zero, List.set_cons_succ])
  refine wpAnyH_ready (rs := [3]) (by kernel_rfl) (by simp) (AllReadyH.cons rfl (fun K hK => ?_) AllReadyH.nil)
  (try rw [if_pos (by rfl)])
  clear hS
  go_simp
  refine (to_Change p1 _ _ _ HR_p1.out sz_p1).mono ?_
  rintro e17 w17 ⟨c_t17, rfl, hr_, hb17⟩
  have hl17 := hb17
  have hB17 : Below w.heap.size w w17 := Below.step hB16 hl17
  have hz17 : w16.heap.size + 0 ≤ w17.heap.size := by have := hb17.size; (try simp at this); omega
  replace HR_p0 := Lib.hid (Row.later HR_p0.out hl17)
  replace HR_p1 := Lib.hid (Lay.later HR_p1.out hl17)
  replace HR_w0 := Lib.hid (Row.later HR_w0.out hl17)
  replace HR_x0 := Lib.hid (Row.later HR_x0.out hl17)
  replace HR_g0 := Lib.hid (Row.later HR_g0.out hl17)
  replace HR_t16 := Lib.hid (Row.later HR_t16.out hl17)
  replace HA_p1 := Lib.hid (HA_p1.out.below hl17 lt_p1); replace lt_p1 := Nat.lt_of_lt_of_le lt_p1 hl17.size
  have HR_t17 := Lib.hid (Lay.mono hr_ (S' := rng (w16.heap.size) (w17.heap.size)) (fun b h => by unfold rng at h ⊢; (try simp at h); omega)); clear hr_
  have sb_t17 : sub (rng (w16.heap.size) (w17.heap.size)) (rng (w16.heap.size) (w17.heap.size)) := sub_refl _
  refine hK.out _ _ HA_p1.out (fun hS => ?_)
  clear hK K
  (try simp only [Act.put, List.setIfInBounds_toArray, List.set_cons_zero, List.set_cons_succ])
  refine wpAnyH_ready (rs := [4]) (by kernel_rfl) (by simp) (AllReadyH.cons rfl (fun K hK => ?_) AllReadyH.nil)
  (try rw [if_pos (by rfl)])
  clear hS
  go_simp
  refine (impl_ApplyChange _ p0 A_t16 c_t16 _ (Row.weak HR_t16.out) lt16 mt16 sz_p0 p1 c_t17 _ (Lay.weak HR_t17.out) sz_p1).mono ?_
  rintro e18 w18 ⟨A_h0, c_h0, rfl, lh0, mh0, hr_h0, hb18⟩
  have hl18 := hb18
  have hB18 : Below w.heap.size w w18 := Below.step hB17 hl18
  have hz18 : w17.heap.size + 0 ≤ w18.heap.size := by have := hb18.size; (try simp at this); omega
  replace HR_p0 := Lib.hid (Row.later HR_p0.out hl18)
  replace HR_p1 := Lib.hid (Lay.later HR_p1.out hl18)
  replace HR_w0 := Lib.hid (Row.later HR_w0.out hl18)
  replace HR_x0 := Lib.hid (Row.later HR_x0.out hl18)
  replace HR_g0 := Lib.hid (Row.later HR_g0.out hl18)
  replace HR_t16 := Lib.hid (Row.later HR_t16.out hl18)
  replace HR_t17 := Lib.hid (Lay.later HR_t17.out hl18)
  replace HA_p1 := Lib.hid (HA_p1.out.below hl18 lt_p1); replace lt_p1 := Nat.lt_of_lt_of_le lt_p1 hl18.size
  have hr_ := hr_h0; clear hr_h0
  have HR_h0 := Lib.hid (Row.mono hr_ (S' := rng (w17.heap.size) (w18.heap.size)) (fun b h => by unfold rng at h ⊢; (try simp at h); omega)); clear hr_
  have sb_h0 : sub (rng (w17.heap.size) (w18.heap.size)) (rng (w17.heap.size) (w18.heap.size)) := sub_refl _
  refine hK.out _ _ HA_p1.out (fun hS => ?_)
  clear hK K
  (try simp only [Act.put, List.setIfInBounds_toArray, List.set_cons_zero, List.set_cons_succ])
  refine wpAnyH_ready (rs := [5]) (by kernel_rfl) (by simp) (AllReadyH.cons rfl (fun K hK => ?_) AllReadyH.nil)
  go_simp
  refine hK.out _ _ hS (fun hS => ?_)
  clear hK K
  (try (try simp only [Act.put, List.setIfInBounds_toArray, List.set_cons_zero, List.set_cons_succ]))
  refine wpAnyH_done (by kernel_rfl) ?_ _
  clear hS
  clear HR_t16
  clear HR_t17
  go_wp2_with (first | (refine wpList_loadT rfl _ _ rfl rfl HA_p1.out Try.underlying24 k_p1 ln_p1 ?_))
  refine (eq_LeafS (applyChange p0 p1) _ A_h0 A_w0 c_h0 c_w0 _ _ (Row.weak HR_h0.out) (Row.weak HR_w0.out) (Nat.le_trans lh0 mh0)).mono ?_
  rintro e19 w19 ⟨rfl, hb19⟩
  have hl19 := hb19
  have hB19 : Below w.heap.size w w19 := Below.step hB18 hl19
  have hz19 : w18.heap.size + 0 ≤ w19.heap.size := by have := hb19.size; (try simp at this); omega
  replace HR_p0 := Lib.hid (Row.later HR_p0.out hl19)
  replace HR_p1 := Lib.hid (Lay.later HR_p1.out hl19)
  replace HR_w0 := Lib.hid (Row.later HR_w0.out hl19)
  replace HR_x0 := Lib.hid (Row.later HR_x0.out hl19)
  replace HR_g0 := Lib.hid (Row.later HR_g0.out hl19)
  replace HR_h0 := Lib.hid (Row.later HR_h0.out hl19)
  replace HA_p1 := Lib.hid (HA_p1.out.below hl19 lt_p1); replace lt_p1 := Nat.lt_of_lt_of_le lt_p1 hl19.size
  go_wp2_with (first | (refine wpList_loadT rfl _ _ rfl rfl HA_p1.out Try.underlying24 k_p1 ln_p1 ?_))
  refine (held_LeafS (applyChange p0 p1) _ A_g0 c_g0 _ _ 1 (by first | rfl | simp) (by omega) (Row.weak HR_g0.out) (Nat.le_trans lg0 mg0)).mono ?_
  rw [hK_K2]
  rintro e20 w20 ⟨rfl, hb20⟩
  have hl20 := hb20
  have hB20 : Below w.heap.size w w20 := Below.step hB19 hl20
  have hz20 : w19.heap.size + 0 ≤ w20.heap.size := by have := hb20.size; (try simp at this); omega
  replace HR_p0 := Lib.hid (Row.later HR_p0.out hl20)
  replace HR_p1 := Lib.hid (Lay.later HR_p1.out hl20)
  replace HR_w0 := Lib.hid (Row.later HR_w0.out hl20)
  replace HR_x0 := Lib.hid (Row.later HR_x0.out hl20)
  replace HR_g0 := Lib.hid (Row.later HR_g0.out hl20)
  replace HR_h0 := Lib.hid (Row.later HR_h0.out hl20)
  replace HA_p1 := Lib.hid (HA_p1.out.below hl20 lt_p1); replace lt_p1 := Nat.lt_of_lt_of_le lt_p1 hl20.size
  go_wp2_with (first | (refine wpList_loadT rfl _ _ rfl rfl HA_p1.out Try.underlying24 k_p1 ln_p1 ?_))
  go_ret; exact ⟨rfl, hB20⟩
set_option maxRecDepth 100000 in
theorem lifted_ApplyChange (os : Os) (started : os.Started) (H : Type) (enc : TypeId × Value → H) :
    ReturnsInHanded {} Try.checked os 3 .any (Rows.fnExactApplyChangeSpec.pre6 enc Try.prog Try.f3 Rows.fnExactApplyChangeRow.domain false) (Rows.fnExactApplyChangeSpec.post enc Try.prog Try.f3 false true false false) := by
  refine returnsInHanded_of_change (C := Try.checked) own_ started (by kernel_rfl) Try.func3
    (ChangeSpec.witness6 (enc := enc) (C := Try.checked) false ⟨#[], #[.slice none 0 0, .agg #[.int .i64 0, .string ⟨#[]⟩, .string ⟨#[]⟩]], []⟩ 8 (by kernel_rfl) (by kernel_rfl) (by kernel_rfl) (by kernel_rfl)) ?_
  intro W base args ds gs before hval0 hW hcnd _
  have hval : ∀ (j : Nat) t v, Try.f3.params[j]? = some t → args[j]? = some v → Value.okWide Try.prog W .any base t v := hval0
  have hW' := hW
  obtain ⟨p, q, hA0, hV, rfl, hfz, hnd⟩ := hW
  have hA : DataW.TrodAll enc Try.prog W 0 (fun _ => true) true Try.f3.params.toList args.toList ds p := hA0
  rw [Try.params3] at hA hval
  have hA2 := hA
  obtain ⟨v0, vs0, d0, ds0, p0, q0, hargs0, rfl, rfl, h0, r0⟩ := trodAll_cons hA
  obtain ⟨v1, vs1, d1, ds1, p1, q1, hargs1, rfl, rfl, h1, r1⟩ := trodAll_cons r0
  obtain ⟨rfl, rfl, rfl⟩ := trodAll_nil r1
  try subst hargs1
  obtain rfl : args = #[v0, v1] := by cases args; simp_all
  obtain ⟨rfl, rfl⟩ := trodVars_none hV
  have ng0 := nagg_slice Try.underlying22 (hval 0 22 v0 rfl rfl)
  obtain ⟨fu0, hf0⟩ := h0
  obtain ⟨x0, hx0⟩ := rdb_LeafS H enc W 0 _ _ fu0 _ _ hf0
  obtain ⟨A0, k0, hc0, hl0, hm0, hr0⟩ := open_list hx0
  obtain rfl := cells_one hc0 ng0
  obtain ⟨c1, rfl⟩ := okWide_agg Try.underlying24 (hval 1 24 v1 rfl rfl)
  obtain ⟨fu1, hf1⟩ := h1
  obtain ⟨x1, hx1⟩ := rdb_Change H enc W 0 _ _ fu1 _ _ hf1
  refine (law_ApplyChange W x0 A0 k0 All hr0 hl0 hm0 x1 c1.toList All hx1).mono fun e W' ⟨he, hb⟩ => ?_
  subst he
  refine ⟨_, rfl, post_below (pa := p0 ++ (p1 ++ [])) (pv := []) hW' (fun _ _ _ => trodAll_mk1 (shut_bool Try.underlying4 true)) (fun sp hsp => ?_) (fun _ _ => rfl) (by simp) hb (ok_one (by kernel_rfl) rfl (okWide_bool_mk Try.underlying4 true))⟩
  rw [show Try.f3.params.toList = _ from congrArg Array.toList Try.params3]
  exact trodAll_stays laidOut_ hb _ _ _ _ (by intro t ht; simp at ht; rcases ht with rfl | rfl <;> exact ⟨by kernel_rfl, by decide +kernel⟩) hA2 (fun x hx => hW'.lt x (by simpa using hx)) (fun x hx => hsp x (by simpa using hx))
theorem holds_ApplyChange : Rows.FnExactApplyChangeSaid :=
  OpenClaim.holds_of_wide 3 Try.f3 rfl rfl rfl rfl rfl rfl rfl ⟨rfl, rfl, rfl, rfl, rfl⟩ rfl rfl rfl rfl rfl (by kernel_rfl) Try.func3 (by kernel_rfl)
    (of_decide_eq_true (by kernel_rfl)) (by unfold Func.isWrapper; first | (rw [if_pos (by decide +kernel)]; kernel_rfl) | (rw [if_neg (by decide +kernel)]; exact ⟨rfl, rfl⟩))
    (fun os started H enc _ => lifted_ApplyChange os started H enc)
end Go.Proofs.Ytbnfkpbaaoknmaa
