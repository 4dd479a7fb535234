/- The program's ApplyAll answers as the reference's, for every argument. No condition. -/
import Derived.Test.YtbnfkpbaaoknmaaLw
import Derived.Test.YtbnfkpbaaoknmaaBt
import Derived.Test.YtbnfkpbaaoknmaaSz
import Derived.Test.YtbnfkpbaaoknmaaTo
import Derived.Test.YtbnfkpbaaoknmaaEq
import Derived.Test.YtbnfkpbaaoknmaaMa
import Derived.Test.YtbnfkpbaaoknmaaHd
import Derived.Test.YtbnfkpbaaoknmaaCb
import Derived.Test.YtbnfkpbaaoknmaaLa
set_option linter.unusedVariables false
set_option linter.unusedSimpArgs false
namespace Go.Proofs.Ytbnfkpbaaoknmaa
open Go.RowKit Go.WideShapes Go.ChangeShapes Go.ChangeAt Lay Mk
set_option maxRecDepth 20000 in set_option maxHeartbeats 8000000 in
theorem law_ApplyAll (w : World) (p0 : List Leaf) (Ap0 : Option Addr) (kp0 : Nat) (Sp0 : Blks) (hp0 : Row false w Ap0 kp0 p0 Sp0) (lp0 : p0.length ≤ kp0) (mp0 : kp0 ≤ maxLen) (p1 : List Change) (Ap1 : Option Addr) (kp1 : Nat) (Sp1 : Blks) (hp1 : Row false w Ap1 kp1 p1 Sp1) (lp1 : p1.length ≤ kp1) (mp1 : kp1 ≤ maxLen) : Calls Try.prog 4 #[.slice Ap0 p0.length kp0, .slice Ap1 p1.length kp1] w fun e w' => e = .returned (.bool true) ∧ Below w.heap.size w w' := by
  replace hp0 := old_rngR hp0
  have HR_p0 := Lib.hid hp0; clear hp0
  replace hp1 := old_rngR hp1
  have HR_p1 := Lib.hid hp1; clear hp1
  go_enter Try.func4, Try.ntmps4
  go_wp2_with (fail)
  refine (sz_LeafS p0 _ Ap0 kp0 _ _ HR_p0.out (Nat.le_trans lp0 mp0) (by omega) (by omega)).mono ?_
  rintro e1 w1 ⟨⟨n1, rfl, hn1⟩, hb1⟩
  have hl1 := hb1
  have hB1 : Below w.heap.size w w1 := hl1
  have hz1 : w.heap.size + 0 ≤ w1.heap.size := by have := hb1.size; (try simp at this); omega
  replace HR_p0 := Lib.hid (Row.later HR_p0.out hl1)
  replace HR_p1 := Lib.hid (Row.later HR_p1.out hl1)
  rcases szR_cases hn1 (by omega) with rfl | ⟨hn1a, hn1b, sz_p0⟩
  · go_wp2_with (fail)
    go_ret; exact ⟨rfl, hB1⟩
  clear hn1
  go_wp2_with (fail)
  refine (sz_ChangeS p1 _ Ap1 kp1 _ _ HR_p1.out (Nat.le_trans lp1 mp1) (by omega) (by omega)).mono ?_
  rintro e2 w2 ⟨⟨n2, rfl, hn2⟩, hb2⟩
  have hl2 := hb2
  have hB2 : Below w.heap.size w w2 := Below.step hB1 hl2
  have hz2 : w1.heap.size + 0 ≤ w2.heap.size := by have := hb2.size; (try simp at this); omega
  replace HR_p0 := Lib.hid (Row.later HR_p0.out hl2)
  replace HR_p1 := Lib.hid (Row.later HR_p1.out hl2)
  rcases szR_cases hn2 (by omega) with rfl | ⟨hn2a, hn2b, sz_p1⟩
  · go_wp2_with (fail)
    go_ret; exact ⟨rfl, hB2⟩
  clear hn2
  go_wp2_with (fail)
  refine (to_LeafS p0 _ Ap0 kp0 _ HR_p0.out sz_p0).mono ?_
  rintro e3 w3 ⟨A_t3, c_t3, rfl, lt3, mt3, hr_, hb3⟩
  have hl3 := hb3
  have hB3 : Below w.heap.size w w3 := Below.step hB2 hl3
  have hz3 : w2.heap.size + 0 ≤ w3.heap.size := by have := hb3.size; (try simp at this); omega
  replace HR_p0 := Lib.hid (Row.later HR_p0.out hl3)
  replace HR_p1 := Lib.hid (Row.later HR_p1.out hl3)
  have HR_t3 := Lib.hid (Row.mono hr_ (S' := rng (w2.heap.size) (w3.heap.size)) (fun b h => by unfold rng at h ⊢; (try simp at h); omega)); clear hr_
  have sb_t3 : sub (rng (w2.heap.size) (w3.heap.size)) (rng (w2.heap.size) (w3.heap.size)) := sub_refl _
  go_wp2_with (fail)
  refine (to_ChangeS p1 _ Ap1 kp1 _ HR_p1.out sz_p1).mono ?_
  rintro e4 w4 ⟨A_t4, c_t4, rfl, lt4, mt4, hr_, hb4⟩
  have hl4 := hb4
  have hB4 : Below w.heap.size w w4 := Below.step hB3 hl4
  have hz4 : w3.heap.size + 0 ≤ w4.heap.size := by have := hb4.size; (try simp at this); omega
  replace HR_p0 := Lib.hid (Row.later HR_p0.out hl4)
  replace HR_p1 := Lib.hid (Row.later HR_p1.out hl4)
  replace HR_t3 := Lib.hid (Row.later HR_t3.out hl4)
  have HR_t4 := Lib.hid (Row.mono hr_ (S' := rng (w3.heap.size) (w4.heap.size)) (fun b h => by unfold rng at h ⊢; (try simp at h); omega)); clear hr_
  have sb_t4 : sub (rng (w3.heap.size) (w4.heap.size)) (rng (w3.heap.size) (w4.heap.size)) := sub_refl _
  go_wp2_with (fail)
  refine (spec_ApplyAll _ p0 A_t3 c_t3 _ (Row.weak HR_t3.out) lt3 mt3 sz_p0 p1 A_t4 c_t4 _ (Row.weak HR_t4.out) lt4 mt4 sz_p1).mono ?_
  rintro e5 w5 ⟨A_w0, c_w0, rfl, lw0, mw0, hr_w0, hb5⟩
  have hl5 := hb5
  have hB5 : Below w.heap.size w w5 := Below.step hB4 hl5
  have hz5 : w4.heap.size + 0 ≤ w5.heap.size := by have := hb5.size; (try simp at this); omega
  replace HR_p0 := Lib.hid (Row.later HR_p0.out hl5)
  replace HR_p1 := Lib.hid (Row.later HR_p1.out hl5)
  replace HR_t3 := Lib.hid (Row.later HR_t3.out hl5)
  replace HR_t4 := Lib.hid (Row.later HR_t4.out hl5)
  have hr_ := hr_w0; clear hr_w0
  have HR_w0 := Lib.hid (Row.mono hr_ (S' := rng (w4.heap.size) (w5.heap.size)) (fun b h => by unfold rng at h ⊢; (try simp at h); omega)); clear hr_
  have sb_w0 : sub (rng (w4.heap.size) (w5.heap.size)) (rng (w4.heap.size) (w5.heap.size)) := sub_refl _
  clear HR_t3
  clear HR_t4
  go_wp2_with (fail)
  refine (to_LeafS p0 _ Ap0 kp0 _ HR_p0.out sz_p0).mono ?_
  rintro e6 w6 ⟨A_x0, c_x0, rfl, lx0, mx0, hr_, hb6⟩
  have hl6 := hb6
  have hB6 : Below w.heap.size w w6 := Below.step hB5 hl6
  have hz6 : w5.heap.size + 0 ≤ w6.heap.size := by have := hb6.size; (try simp at this); omega
  replace HR_p0 := Lib.hid (Row.later HR_p0.out hl6)
  replace HR_p1 := Lib.hid (Row.later HR_p1.out hl6)
  replace HR_w0 := Lib.hid (Row.later HR_w0.out hl6)
  have HR_x0 := Lib.hid (Row.mono hr_ (S' := rng (w5.heap.size) (w6.heap.size)) (fun b h => by unfold rng at h ⊢; (try simp at h); omega)); clear hr_
  have sb_x0 : sub (rng (w5.heap.size) (w6.heap.size)) (rng (w5.heap.size) (w6.heap.size)) := sub_refl _
  go_wp2_with (fail)
  refine (to_ChangeS p1 _ Ap1 kp1 _ HR_p1.out sz_p1).mono ?_
  rintro e7 w7 ⟨A_x1, c_x1, rfl, lx1, mx1, hr_, hb7⟩
  have hl7 := hb7
  have hB7 : Below w.heap.size w w7 := Below.step hB6 hl7
  have hz7 : w6.heap.size + 0 ≤ w7.heap.size := by have := hb7.size; (try simp at this); omega
  replace HR_p0 := Lib.hid (Row.later HR_p0.out hl7)
  replace HR_p1 := Lib.hid (Row.later HR_p1.out hl7)
  replace HR_w0 := Lib.hid (Row.later HR_w0.out hl7)
  replace HR_x0 := Lib.hid (Row.later HR_x0.out hl7)
  have HR_x1 := Lib.hid (Row.mono hr_ (S' := rng (w6.heap.size) (w7.heap.size)) (fun b h => by unfold rng at h ⊢; (try simp at h); omega)); clear hr_
  have sb_x1 : sub (rng (w6.heap.size) (w7.heap.size)) (rng (w6.heap.size) (w7.heap.size)) := sub_refl _
  go_wp2_with (fail)
  refine (impl_ApplyAll _ p0 A_x0 c_x0 _ (Row.weak HR_x0.out) lx0 mx0 sz_p0 p1 A_x1 c_x1 _ (Row.weak HR_x1.out) lx1 mx1 sz_p1).mono ?_
  rintro e8 w8 ⟨A_g0, c_g0, rfl, lg0, mg0, hr_g0, hb8⟩
  have hl8 := hb8
  have hB8 : Below w.heap.size w w8 := Below.step hB7 hl8
  have hz8 : w7.heap.size + 0 ≤ w8.heap.size := by have := hb8.size; (try simp at this); omega
  replace HR_p0 := Lib.hid (Row.later HR_p0.out hl8)
  replace HR_p1 := Lib.hid (Row.later HR_p1.out hl8)
  replace HR_w0 := Lib.hid (Row.later HR_w0.out hl8)
  replace HR_x0 := Lib.hid (Row.later HR_x0.out hl8)
  replace HR_x1 := Lib.hid (Row.later HR_x1.out hl8)
  have hr_ := hr_g0; clear hr_g0
  have HR_g0 := Lib.hid (Row.mono hr_ (S' := rng (w7.heap.size) (w8.heap.size)) (fun b h => by unfold rng at h ⊢; (try simp at h); omega)); clear hr_
  have sb_g0 : sub (rng (w7.heap.size) (w8.heap.size)) (rng (w7.heap.size) (w8.heap.size)) := sub_refl _
  go_wp2_with (fail)
  refine (eq_LeafS (applyAll p0 p1) _ A_g0 A_w0 c_g0 c_w0 _ _ (Row.weak HR_g0.out) (Row.weak HR_w0.out) (Nat.le_trans lg0 mg0)).mono ?_
  rintro e9 w9 ⟨rfl, hb9⟩
  have hl9 := hb9
  have hB9 : Below w.heap.size w w9 := Below.step hB8 hl9
  have hz9 : w8.heap.size + 0 ≤ w9.heap.size := by have := hb9.size; (try simp at this); omega
  replace HR_p0 := Lib.hid (Row.later HR_p0.out hl9)
  replace HR_p1 := Lib.hid (Row.later HR_p1.out hl9)
  replace HR_w0 := Lib.hid (Row.later HR_w0.out hl9)
  replace HR_x0 := Lib.hid (Row.later HR_x0.out hl9)
  replace HR_x1 := Lib.hid (Row.later HR_x1.out hl9)
  replace HR_g0 := Lib.hid (Row.later HR_g0.out hl9)
  go_wp2_with (fail)
  refine (to_LeafS p0 _ Ap0 kp0 _ HR_p0.out sz_p0).mono ?_
  rintro e10 w10 ⟨A_t10, c_t10, rfl, lt10, mt10, hr_, hb10⟩
  have hl10 := hb10
  have hB10 : Below w.heap.size w w10 := Below.step hB9 hl10
  have hz10 : w9.heap.size + 0 ≤ w10.heap.size := by have := hb10.size; (try simp at this); omega
  replace HR_p0 := Lib.hid (Row.later HR_p0.out hl10)
  replace HR_p1 := Lib.hid (Row.later HR_p1.out hl10)
  replace HR_w0 := Lib.hid (Row.later HR_w0.out hl10)
  replace HR_x0 := Lib.hid (Row.later HR_x0.out hl10)
  replace HR_x1 := Lib.hid (Row.later HR_x1.out hl10)
  replace HR_g0 := Lib.hid (Row.later HR_g0.out hl10)
  have HR_t10 := Lib.hid (Row.mono hr_ (S' := rng (w9.heap.size) (w10.heap.size)) (fun b h => by unfold rng at h ⊢; (try simp at h); omega)); clear hr_
  have sb_t10 : sub (rng (w9.heap.size) (w10.heap.size)) (rng (w9.heap.size) (w10.heap.size)) := sub_refl _
  go_wp2_with (fail)
  refine (eq_LeafS p0 _ A_x0 A_t10 c_x0 c_t10 _ _ (Row.weak HR_x0.out) (Row.weak HR_t10.out) (Nat.le_trans lx0 mx0)).mono ?_
  rintro e11 w11 ⟨rfl, hb11⟩
  have hl11 := hb11
  have hB11 : Below w.heap.size w w11 := Below.step hB10 hl11
  have hz11 : w10.heap.size + 0 ≤ w11.heap.size := by have := hb11.size; (try simp at this); omega
  replace HR_p0 := Lib.hid (Row.later HR_p0.out hl11)
  replace HR_p1 := Lib.hid (Row.later HR_p1.out hl11)
  replace HR_w0 := Lib.hid (Row.later HR_w0.out hl11)
  replace HR_x0 := Lib.hid (Row.later HR_x0.out hl11)
  replace HR_x1 := Lib.hid (Row.later HR_x1.out hl11)
  replace HR_g0 := Lib.hid (Row.later HR_g0.out hl11)
  replace HR_t10 := Lib.hid (Row.later HR_t10.out hl11)
  clear HR_t10
  go_wp2_with (fail)
  refine (to_ChangeS p1 _ Ap1 kp1 _ HR_p1.out sz_p1).mono ?_
  rintro e12 w12 ⟨A_t12, c_t12, rfl, lt12, mt12, hr_, hb12⟩
  have hl12 := hb12
  have hB12 : Below w.heap.size w w12 := Below.step hB11 hl12
  have hz12 : w11.heap.size + 0 ≤ w12.heap.size := by have := hb12.size; (try simp at this); omega
  replace HR_p0 := Lib.hid (Row.later HR_p0.out hl12)
  replace HR_p1 := Lib.hid (Row.later HR_p1.out hl12)
  replace HR_w0 := Lib.hid (Row.later HR_w0.out hl12)
  replace HR_x0 := Lib.hid (Row.later HR_x0.out hl12)
  replace HR_x1 := Lib.hid (Row.later HR_x1.out hl12)
  replace HR_g0 := Lib.hid (Row.later HR_g0.out hl12)
  have HR_t12 := Lib.hid (Row.mono hr_ (S' := rng (w11.heap.size) (w12.heap.size)) (fun b h => by unfold rng at h ⊢; (try simp at h); omega)); clear hr_
  have sb_t12 : sub (rng (w11.heap.size) (w12.heap.size)) (rng (w11.heap.size) (w12.heap.size)) := sub_refl _
  go_wp2_with (fail)
  refine (eq_ChangeS p1 _ A_x1 A_t12 c_x1 c_t12 _ _ (Row.weak HR_x1.out) (Row.weak HR_t12.out) (Nat.le_trans lx1 mx1)).mono ?_
  rintro e13 w13 ⟨rfl, hb13⟩
  have hl13 := hb13
  have hB13 : Below w.heap.size w w13 := Below.step hB12 hl13
  have hz13 : w12.heap.size + 0 ≤ w13.heap.size := by have := hb13.size; (try simp at this); omega
  replace HR_p0 := Lib.hid (Row.later HR_p0.out hl13)
  replace HR_p1 := Lib.hid (Row.later HR_p1.out hl13)
  replace HR_w0 := Lib.hid (Row.later HR_w0.out hl13)
  replace HR_x0 := Lib.hid (Row.later HR_x0.out hl13)
  replace HR_x1 := Lib.hid (Row.later HR_x1.out hl13)
  replace HR_g0 := Lib.hid (Row.later HR_g0.out hl13)
  replace HR_t12 := Lib.hid (Row.later HR_t12.out hl13)
  clear HR_t12
  go_wp2_with (fail)
  have cb1 : cnL p0 ≤ 1000000000000 := by have := cnb_LeafS p0; have := sz_p0; omega
  refine (mark_LeafS p0 _ A_x0 c_x0 _ _ 1 (by first | rfl | simp) (by omega) HR_x0.out (Nat.le_trans lx0 mx0)).mono ?_
  obtain ⟨K1, hK_K1⟩ : ∃ K, 1 + cnL p0 = K := ⟨_, rfl⟩
  rw [hK_K1]
  have bK_K1 : K1 ≤ 2000000000004 := by omega
  rintro e14 w14 ⟨rfl, hr_, hb14⟩
  have hB14 : Below w.heap.size w w14 := Below.stepc hB13 hb14 (fun x hx => by have := sb_x0 x hx; unfold rng at this; have := hB13.size; omega)
  have hz14 : w13.heap.size ≤ w14.heap.size := hb14.size
  replace HR_p0 := Lib.hid (Row.chg HR_p0.out hb14 (disjS (sub_refl _) sb_x0 (by omega)))
  replace HR_p1 := Lib.hid (Row.chg HR_p1.out hb14 (disjS (sub_refl _) sb_x0 (by omega)))
  replace HR_w0 := Lib.hid (Row.chg HR_w0.out hb14 (disjS sb_w0 sb_x0 (by omega)))
  replace HR_x1 := Lib.hid (Row.chg HR_x1.out hb14 (disjS sb_x1 sb_x0 (by omega)))
  replace HR_g0 := Lib.hid (Row.chg HR_g0.out hb14 (disjS sb_g0 sb_x0 (by omega)))
  replace HR_x0 := Lib.hid hr_; clear hr_
  go_wp2_with (fail)
  have cb2 : cnL p1 ≤ 1000000000000 := by have := cnb_ChangeS p1; have := sz_p1; omega
  refine (mark_ChangeS p1 _ A_x1 c_x1 _ _ K1 (by first | rfl | simp) (by omega) HR_x1.out (Nat.le_trans lx1 mx1)).mono ?_
  obtain ⟨K2, hK_K2⟩ : ∃ K, K1 + cnL p1 = K := ⟨_, rfl⟩
  rw [hK_K2]
  have bK_K2 : K2 ≤ 3000000000006 := by omega
  rintro e15 w15 ⟨rfl, hr_, hb15⟩
  have hB15 : Below w.heap.size w w15 := Below.stepc hB14 hb15 (fun x hx => by have := sb_x1 x hx; unfold rng at this; have := hB14.size; omega)
  have hz15 : w14.heap.size ≤ w15.heap.size := hb15.size
  replace HR_p0 := Lib.hid (Row.chg HR_p0.out hb15 (disjS (sub_refl _) sb_x1 (by omega)))
  replace HR_p1 := Lib.hid (Row.chg HR_p1.out hb15 (disjS (sub_refl _) sb_x1 (by omega)))
  replace HR_w0 := Lib.hid (Row.chg HR_w0.out hb15 (disjS sb_w0 sb_x1 (by omega)))
  replace HR_x0 := Lib.hid (Row.chg HR_x0.out hb15 (disjS sb_x0 sb_x1 (by omega)))
  replace HR_g0 := Lib.hid (Row.chg HR_g0.out hb15 (disjS sb_g0 sb_x1 (by omega)))
  replace HR_x1 := Lib.hid hr_; clear hr_
  go_wp2_with (fail)
  refine (eq_LeafS (applyAll p0 p1) _ A_g0 A_w0 c_g0 c_w0 _ _ (Row.weak HR_g0.out) (Row.weak HR_w0.out) (Nat.le_trans lg0 mg0)).mono ?_
  rintro e16 w16 ⟨rfl, hb16⟩
  have hl16 := hb16
  have hB16 : Below w.heap.size w w16 := Below.step hB15 hl16
  have hz16 : w15.heap.size + 0 ≤ w16.heap.size := by have := hb16.size; (try simp at this); omega
  replace HR_p0 := Lib.hid (Row.later HR_p0.out hl16)
  replace HR_p1 := Lib.hid (Row.later HR_p1.out hl16)
  replace HR_w0 := Lib.hid (Row.later HR_w0.out hl16)
  replace HR_x0 := Lib.hid (Row.later HR_x0.out hl16)
  replace HR_x1 := Lib.hid (Row.later HR_x1.out hl16)
  replace HR_g0 := Lib.hid (Row.later HR_g0.out hl16)
  go_wp2_with (fail)
  have cb3 : cnL (applyAll p0 p1) ≤ 1000000000000 := cnb_applyAll p0 p1 sz_p0 sz_p1
  refine (mark_LeafS (applyAll p0 p1) _ A_g0 c_g0 _ _ 1 (by first | rfl | simp) (by omega) HR_g0.out (Nat.le_trans lg0 mg0)).mono ?_
  obtain ⟨K3, hK_K3⟩ : ∃ K, 1 + cnL (applyAll p0 p1) = K := ⟨_, rfl⟩
  rw [hK_K3]
  have bK_K3 : K3 ≤ 4000000000008 := by omega
  rintro e17 w17 ⟨rfl, hr_, hb17⟩
  have hB17 : Below w.heap.size w w17 := Below.stepc hB16 hb17 (fun x hx => by have := sb_g0 x hx; unfold rng at this; have := hB16.size; omega)
  have hz17 : w16.heap.size ≤ w17.heap.size := hb17.size
  replace HR_p0 := Lib.hid (Row.chg HR_p0.out hb17 (disjS (sub_refl _) sb_g0 (by omega)))
  replace HR_p1 := Lib.hid (Row.chg HR_p1.out hb17 (disjS (sub_refl _) sb_g0 (by omega)))
  replace HR_w0 := Lib.hid (Row.chg HR_w0.out hb17 (disjS sb_w0 sb_g0 (by omega)))
  replace HR_x0 := Lib.hid (Row.chg HR_x0.out hb17 (disjS sb_x0 sb_g0 (by omega)))
  replace HR_x1 := Lib.hid (Row.chg HR_x1.out hb17 (disjS sb_x1 sb_g0 (by omega)))
  replace HR_g0 := Lib.hid hr_; clear hr_
  go_wp2_with (fail)
  refine (held_LeafS (applyAll p0 p1) _ A_g0 c_g0 _ _ 1 (by first | rfl | simp) (by omega) (Row.weak HR_g0.out) (Nat.le_trans lg0 mg0)).mono ?_
  rw [hK_K3]
  rintro e18 w18 ⟨rfl, hb18⟩
  have hl18 := hb18
  have hB18 : Below w.heap.size w w18 := Below.step hB17 hl18
  have hz18 : w17.heap.size + 0 ≤ w18.heap.size := by have := hb18.size; (try simp at this); omega
  replace HR_p0 := Lib.hid (Row.later HR_p0.out hl18)
  replace HR_p1 := Lib.hid (Row.later HR_p1.out hl18)
  replace HR_w0 := Lib.hid (Row.later HR_w0.out hl18)
  replace HR_x0 := Lib.hid (Row.later HR_x0.out hl18)
  replace HR_x1 := Lib.hid (Row.later HR_x1.out hl18)
  replace HR_g0 := Lib.hid (Row.later HR_g0.out hl18)
  go_wp2_with (fail)
  refine (to_LeafS p0 _ Ap0 kp0 _ HR_p0.out sz_p0).mono ?_
  rintro e19 w19 ⟨A_t19, c_t19, rfl, lt19, mt19, hr_, hb19⟩
  have hl19 := hb19
  have hB19 : Below w.heap.size w w19 := Below.step hB18 hl19
  have hz19 : w18.heap.size + 0 ≤ w19.heap.size := by have := hb19.size; (try simp at this); omega
  replace HR_p0 := Lib.hid (Row.later HR_p0.out hl19)
  replace HR_p1 := Lib.hid (Row.later HR_p1.out hl19)
  replace HR_w0 := Lib.hid (Row.later HR_w0.out hl19)
  replace HR_x0 := Lib.hid (Row.later HR_x0.out hl19)
  replace HR_x1 := Lib.hid (Row.later HR_x1.out hl19)
  replace HR_g0 := Lib.hid (Row.later HR_g0.out hl19)
  have HR_t19 := Lib.hid (Row.mono hr_ (S' := rng (w18.heap.size) (w19.heap.size)) (fun b h => by unfold rng at h ⊢; (try simp at h); omega)); clear hr_
  have sb_t19 : sub (rng (w18.heap.size) (w19.heap.size)) (rng (w18.heap.size) (w19.heap.size)) := sub_refl _
  go_wp2_with (fail)
  refine (to_ChangeS p1 _ Ap1 kp1 _ HR_p1.out sz_p1).mono ?_
  rintro e20 w20 ⟨A_t20, c_t20, rfl, lt20, mt20, hr_, hb20⟩
  have hl20 := hb20
  have hB20 : Below w.heap.size w w20 := Below.step hB19 hl20
  have hz20 : w19.heap.size + 0 ≤ w20.heap.size := by have := hb20.size; (try simp at this); omega
  replace HR_p0 := Lib.hid (Row.later HR_p0.out hl20)
  replace HR_p1 := Lib.hid (Row.later HR_p1.out hl20)
  replace HR_w0 := Lib.hid (Row.later HR_w0.out hl20)
  replace HR_x0 := Lib.hid (Row.later HR_x0.out hl20)
  replace HR_x1 := Lib.hid (Row.later HR_x1.out hl20)
  replace HR_g0 := Lib.hid (Row.later HR_g0.out hl20)
  replace HR_t19 := Lib.hid (Row.later HR_t19.out hl20)
  have HR_t20 := Lib.hid (Row.mono hr_ (S' := rng (w19.heap.size) (w20.heap.size)) (fun b h => by unfold rng at h ⊢; (try simp at h); omega)); clear hr_
  have sb_t20 : sub (rng (w19.heap.size) (w20.heap.size)) (rng (w19.heap.size) (w20.heap.size)) := sub_refl _
  go_wp2_with (fail)
  refine (impl_ApplyAll _ p0 A_t19 c_t19 _ (Row.weak HR_t19.out) lt19 mt19 sz_p0 p1 A_t20 c_t20 _ (Row.weak HR_t20.out) lt20 mt20 sz_p1).mono ?_
  rintro e21 w21 ⟨A_h0, c_h0, rfl, lh0, mh0, hr_h0, hb21⟩
  have hl21 := hb21
  have hB21 : Below w.heap.size w w21 := Below.step hB20 hl21
  have hz21 : w20.heap.size + 0 ≤ w21.heap.size := by have := hb21.size; (try simp at this); omega
  replace HR_p0 := Lib.hid (Row.later HR_p0.out hl21)
  replace HR_p1 := Lib.hid (Row.later HR_p1.out hl21)
  replace HR_w0 := Lib.hid (Row.later HR_w0.out hl21)
  replace HR_x0 := Lib.hid (Row.later HR_x0.out hl21)
  replace HR_x1 := Lib.hid (Row.later HR_x1.out hl21)
  replace HR_g0 := Lib.hid (Row.later HR_g0.out hl21)
  replace HR_t19 := Lib.hid (Row.later HR_t19.out hl21)
  replace HR_t20 := Lib.hid (Row.later HR_t20.out hl21)
  have hr_ := hr_h0; clear hr_h0
  have HR_h0 := Lib.hid (Row.mono hr_ (S' := rng (w20.heap.size) (w21.heap.size)) (fun b h => by unfold rng at h ⊢; (try simp at h); omega)); clear hr_
  have sb_h0 : sub (rng (w20.heap.size) (w21.heap.size)) (rng (w20.heap.size) (w21.heap.size)) := sub_refl _
  clear HR_t19
  clear HR_t20
  go_wp2_with (fail)
  refine (eq_LeafS (applyAll p0 p1) _ A_h0 A_w0 c_h0 c_w0 _ _ (Row.weak HR_h0.out) (Row.weak HR_w0.out) (Nat.le_trans lh0 mh0)).mono ?_
  rintro e22 w22 ⟨rfl, hb22⟩
  have hl22 := hb22
  have hB22 : Below w.heap.size w w22 := Below.step hB21 hl22
  have hz22 : w21.heap.size + 0 ≤ w22.heap.size := by have := hb22.size; (try simp at this); omega
  replace HR_p0 := Lib.hid (Row.later HR_p0.out hl22)
  replace HR_p1 := Lib.hid (Row.later HR_p1.out hl22)
  replace HR_w0 := Lib.hid (Row.later HR_w0.out hl22)
  replace HR_x0 := Lib.hid (Row.later HR_x0.out hl22)
  replace HR_x1 := Lib.hid (Row.later HR_x1.out hl22)
  replace HR_g0 := Lib.hid (Row.later HR_g0.out hl22)
  replace HR_h0 := Lib.hid (Row.later HR_h0.out hl22)
  go_wp2_with (fail)
  refine (held_LeafS (applyAll p0 p1) _ A_g0 c_g0 _ _ 1 (by first | rfl | simp) (by omega) (Row.weak HR_g0.out) (Nat.le_trans lg0 mg0)).mono ?_
  rw [hK_K3]
  rintro e23 w23 ⟨rfl, hb23⟩
  have hl23 := hb23
  have hB23 : Below w.heap.size w w23 := Below.step hB22 hl23
  have hz23 : w22.heap.size + 0 ≤ w23.heap.size := by have := hb23.size; (try simp at this); omega
  replace HR_p0 := Lib.hid (Row.later HR_p0.out hl23)
  replace HR_p1 := Lib.hid (Row.later HR_p1.out hl23)
  replace HR_w0 := Lib.hid (Row.later HR_w0.out hl23)
  replace HR_x0 := Lib.hid (Row.later HR_x0.out hl23)
  replace HR_x1 := Lib.hid (Row.later HR_x1.out hl23)
  replace HR_g0 := Lib.hid (Row.later HR_g0.out hl23)
  replace HR_h0 := Lib.hid (Row.later HR_h0.out hl23)
  go_wp2_with (fail)
  go_ret; exact ⟨rfl, hB23⟩
set_option maxRecDepth 100000 in
theorem lifted_ApplyAll (os : Os) (started : os.Started) (H : Type) (enc : TypeId × Value → H) :
    ReturnsInHanded {} Try.checked os 4 .any (Rows.fnExactApplyAllSpec.pre6 enc Try.prog Try.f4 Rows.fnExactApplyAllRow.domain false) (Rows.fnExactApplyAllSpec.post enc Try.prog Try.f4 false true false false) := by
  refine returnsInHanded_of_change (C := Try.checked) own_ started (by kernel_rfl) Try.func4
    (ChangeSpec.witness6 (enc := enc) (C := Try.checked) false ⟨#[], #[.slice none 0 0, .slice none 0 0], []⟩ 8 (by kernel_rfl) (by kernel_rfl) (by kernel_rfl) (by kernel_rfl)) ?_
  intro W base args ds gs before hval0 hW hcnd _
  have hval : ∀ (j : Nat) t v, Try.f4.params[j]? = some t → args[j]? = some v → Value.okWide Try.prog W .any base t v := hval0
  have hW' := hW
  obtain ⟨p, q, hA0, hV, rfl, hfz, hnd⟩ := hW
  have hA : DataW.TrodAll enc Try.prog W 0 (fun _ => true) true Try.f4.params.toList args.toList ds p := hA0
  rw [Try.params4] at hA hval
  have hA2 := hA
  obtain ⟨v0, vs0, d0, ds0, p0, q0, hargs0, rfl, rfl, h0, r0⟩ := trodAll_cons hA
  obtain ⟨v1, vs1, d1, ds1, p1, q1, hargs1, rfl, rfl, h1, r1⟩ := trodAll_cons r0
  obtain ⟨rfl, rfl, rfl⟩ := trodAll_nil r1
  try subst hargs1
  obtain rfl : args = #[v0, v1] := by cases args; simp_all
  obtain ⟨rfl, rfl⟩ := trodVars_none hV
  have ng0 := nagg_slice Try.underlying22 (hval 0 22 v0 rfl rfl)
  obtain ⟨fu0, hf0⟩ := h0
  obtain ⟨x0, hx0⟩ := rdb_LeafS H enc W 0 _ _ fu0 _ _ hf0
  obtain ⟨A0, k0, hc0, hl0, hm0, hr0⟩ := open_list hx0
  obtain rfl := cells_one hc0 ng0
  have ng1 := nagg_slice Try.underlying35 (hval 1 35 v1 rfl rfl)
  obtain ⟨fu1, hf1⟩ := h1
  obtain ⟨x1, hx1⟩ := rdb_ChangeS H enc W 0 _ _ fu1 _ _ hf1
  obtain ⟨A1, k1, hc1, hl1, hm1, hr1⟩ := open_list hx1
  obtain rfl := cells_one hc1 ng1
  refine (law_ApplyAll W x0 A0 k0 All hr0 hl0 hm0 x1 A1 k1 All hr1 hl1 hm1).mono fun e W' ⟨he, hb⟩ => ?_
  subst he
  refine ⟨_, rfl, post_below (pa := p0 ++ (p1 ++ [])) (pv := []) hW' (fun _ _ _ => trodAll_mk1 (shut_bool Try.underlying4 true)) (fun sp hsp => ?_) (fun _ _ => rfl) (by simp) hb (ok_one (by kernel_rfl) rfl (okWide_bool_mk Try.underlying4 true))⟩
  rw [show Try.f4.params.toList = _ from congrArg Array.toList Try.params4]
  exact trodAll_stays laidOut_ hb _ _ _ _ (by intro t ht; simp at ht; rcases ht with rfl | rfl <;> exact ⟨by kernel_rfl, by decide +kernel⟩) hA2 (fun x hx => hW'.lt x (by simpa using hx)) (fun x hx => hsp x (by simpa using hx))
theorem holds_ApplyAll : Rows.FnExactApplyAllSaid :=
  OpenClaim.holds_of_wide 4 Try.f4 rfl rfl rfl rfl rfl rfl rfl ⟨rfl, rfl, rfl, rfl, rfl⟩ rfl rfl rfl rfl rfl (by kernel_rfl) Try.func4 (by kernel_rfl)
    (of_decide_eq_true (by kernel_rfl)) (by unfold Func.isWrapper; first | (rw [if_pos (by decide +kernel)]; kernel_rfl) | (rw [if_neg (by decide +kernel)]; exact ⟨rfl, rfl⟩))
    (fun os started H enc _ => lifted_ApplyAll os started H enc)
end Go.Proofs.Ytbnfkpbaaoknmaa
