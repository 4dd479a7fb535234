/- The program's BlamedIn answers as the reference's, for every argument. No condition. -/
import Derived.Test.YtbnfkpbaaoknmaaLw
import Derived.Test.YtbnfkpbaaoknmaaBt
import Derived.Test.YtbnfkpbaaoknmaaSz
import Derived.Test.YtbnfkpbaaoknmaaTo
import Derived.Test.YtbnfkpbaaoknmaaEq
import Derived.Test.YtbnfkpbaaoknmaaMa
import Derived.Test.YtbnfkpbaaoknmaaHd
import Derived.Test.YtbnfkpbaaoknmaaCb
import Derived.Test.YtbnfkpbaaoknmaaBi
import Derived.Test.YtbnfkpbaaoknmaaBj
set_option linter.unusedVariables false
set_option linter.unusedSimpArgs false
namespace Go.Proofs.Ytbnfkpbaaoknmaa
open Go.RowKit Go.WideShapes Go.ChangeShapes Go.ChangeAt Lay Mk
set_option maxRecDepth 20000 in set_option maxHeartbeats 8000000 in
theorem law_BlamedIn (w : World) (p0 : List Pair) (Ap0 : Option Addr) (kp0 : Nat) (Sp0 : Blks) (hp0 : Row false w Ap0 kp0 p0 Sp0) (lp0 : p0.length ≤ kp0) (mp0 : kp0 ≤ maxLen) : Calls Try.prog 10 #[.slice Ap0 p0.length kp0] w fun e w' => e = .returned (.bool true) ∧ Below w.heap.size w w' := by
  replace hp0 := old_rngR hp0
  have HR_p0 := Lib.hid hp0; clear hp0
  go_enter Try.func10, Try.ntmps10
  go_wp2_with (fail)
  refine (sz_PairS p0 _ Ap0 kp0 _ _ HR_p0.out (Nat.le_trans lp0 mp0) (by omega) (by omega)).mono ?_
  rintro e1 w1 ⟨⟨n1, rfl, hn1⟩, hb1⟩
  have hl1 := hb1
  have hB1 : Below w.heap.size w w1 := hl1
  have hz1 : w.heap.size + 0 ≤ w1.heap.size := by have := hb1.size; (try simp at this); omega
  replace HR_p0 := Lib.hid (Row.later HR_p0.out hl1)
  rcases szR_cases hn1 (by omega) with rfl | ⟨hn1a, hn1b, sz_p0⟩
  · go_wp2_with (fail)
    go_ret; exact ⟨rfl, hB1⟩
  clear hn1
  go_wp2_with (fail)
  refine (to_PairS p0 _ Ap0 kp0 _ HR_p0.out sz_p0).mono ?_
  rintro e2 w2 ⟨A_t2, c_t2, rfl, lt2, mt2, hr_, hb2⟩
  have hl2 := hb2
  have hB2 : Below w.heap.size w w2 := Below.step hB1 hl2
  have hz2 : w1.heap.size + 0 ≤ w2.heap.size := by have := hb2.size; (try simp at this); omega
  replace HR_p0 := Lib.hid (Row.later HR_p0.out hl2)
  have HR_t2 := Lib.hid (Row.mono hr_ (S' := rng (w1.heap.size) (w2.heap.size)) (fun b h => by unfold rng at h ⊢; (try simp at h); omega)); clear hr_
  have sb_t2 : sub (rng (w1.heap.size) (w2.heap.size)) (rng (w1.heap.size) (w2.heap.size)) := sub_refl _
  go_wp2_with (fail)
  refine (spec_BlamedIn _ p0 A_t2 c_t2 _ (Row.weak HR_t2.out) lt2 mt2 sz_p0).mono ?_
  rintro e3 w3 ⟨A_w0, c_w0, rfl, lw0, mw0, hr_w0, hb3⟩
  have hl3 := hb3
  have hB3 : Below w.heap.size w w3 := Below.step hB2 hl3
  have hz3 : w2.heap.size + 0 ≤ w3.heap.size := by have := hb3.size; (try simp at this); omega
  replace HR_p0 := Lib.hid (Row.later HR_p0.out hl3)
  replace HR_t2 := Lib.hid (Row.later HR_t2.out hl3)
  have hr_ := hr_w0; clear hr_w0
  have HR_w0 := Lib.hid (Row.mono hr_ (S' := rng (w2.heap.size) (w3.heap.size)) (fun b h => by unfold rng at h ⊢; (try simp at h); omega)); clear hr_
  have sb_w0 : sub (rng (w2.heap.size) (w3.heap.size)) (rng (w2.heap.size) (w3.heap.size)) := sub_refl _
  clear HR_t2
  go_wp2_with (fail)
  refine (to_PairS p0 _ Ap0 kp0 _ HR_p0.out sz_p0).mono ?_
  rintro e4 w4 ⟨A_x0, c_x0, rfl, lx0, mx0, hr_, hb4⟩
  have hl4 := hb4
  have hB4 : Below w.heap.size w w4 := Below.step hB3 hl4
  have hz4 : w3.heap.size + 0 ≤ w4.heap.size := by have := hb4.size; (try simp at this); omega
  replace HR_p0 := Lib.hid (Row.later HR_p0.out hl4)
  replace HR_w0 := Lib.hid (Row.later HR_w0.out hl4)
  have HR_x0 := Lib.hid (Row.mono hr_ (S' := rng (w3.heap.size) (w4.heap.size)) (fun b h => by unfold rng at h ⊢; (try simp at h); omega)); clear hr_
  have sb_x0 : sub (rng (w3.heap.size) (w4.heap.size)) (rng (w3.heap.size) (w4.heap.size)) := sub_refl _
  go_wp2_with (fail)
  refine (impl_BlamedIn _ p0 A_x0 c_x0 _ (Row.weak HR_x0.out) lx0 mx0 sz_p0).mono ?_
  rintro e5 w5 ⟨A_g0, c_g0, rfl, lg0, mg0, hr_g0, hb5⟩
  have hl5 := hb5
  have hB5 : Below w.heap.size w w5 := Below.step hB4 hl5
  have hz5 : w4.heap.size + 0 ≤ w5.heap.size := by have := hb5.size; (try simp at this); omega
  replace HR_p0 := Lib.hid (Row.later HR_p0.out hl5)
  replace HR_w0 := Lib.hid (Row.later HR_w0.out hl5)
  replace HR_x0 := Lib.hid (Row.later HR_x0.out hl5)
  have hr_ := hr_g0; clear hr_g0
  have HR_g0 := Lib.hid (Row.mono hr_ (S' := rng (w4.heap.size) (w5.heap.size)) (fun b h => by unfold rng at h ⊢; (try simp at h); omega)); clear hr_
  have sb_g0 : sub (rng (w4.heap.size) (w5.heap.size)) (rng (w4.heap.size) (w5.heap.size)) := sub_refl _
  go_wp2_with (fail)
  refine (eq_IntS (blamedIn p0) _ A_g0 A_w0 c_g0 c_w0 _ _ (Row.weak HR_g0.out) (Row.weak HR_w0.out) (Nat.le_trans lg0 mg0)).mono ?_
  rintro e6 w6 ⟨rfl, hb6⟩
  have hl6 := hb6
  have hB6 : Below w.heap.size w w6 := Below.step hB5 hl6
  have hz6 : w5.heap.size + 0 ≤ w6.heap.size := by have := hb6.size; (try simp at this); omega
  replace HR_p0 := Lib.hid (Row.later HR_p0.out hl6)
  replace HR_w0 := Lib.hid (Row.later HR_w0.out hl6)
  replace HR_x0 := Lib.hid (Row.later HR_x0.out hl6)
  replace HR_g0 := Lib.hid (Row.later HR_g0.out hl6)
  go_wp2_with (fail)
  refine (to_PairS p0 _ Ap0 kp0 _ HR_p0.out sz_p0).mono ?_
  rintro e7 w7 ⟨A_t7, c_t7, rfl, lt7, mt7, hr_, hb7⟩
  have hl7 := hb7
  have hB7 : Below w.heap.size w w7 := Below.step hB6 hl7
  have hz7 : w6.heap.size + 0 ≤ w7.heap.size := by have := hb7.size; (try simp at this); omega
  replace HR_p0 := Lib.hid (Row.later HR_p0.out hl7)
  replace HR_w0 := Lib.hid (Row.later HR_w0.out hl7)
  replace HR_x0 := Lib.hid (Row.later HR_x0.out hl7)
  replace HR_g0 := Lib.hid (Row.later HR_g0.out hl7)
  have HR_t7 := Lib.hid (Row.mono hr_ (S' := rng (w6.heap.size) (w7.heap.size)) (fun b h => by unfold rng at h ⊢; (try simp at h); omega)); clear hr_
  have sb_t7 : sub (rng (w6.heap.size) (w7.heap.size)) (rng (w6.heap.size) (w7.heap.size)) := sub_refl _
  go_wp2_with (fail)
  refine (eq_PairS p0 _ A_x0 A_t7 c_x0 c_t7 _ _ (Row.weak HR_x0.out) (Row.weak HR_t7.out) (Nat.le_trans lx0 mx0)).mono ?_
  rintro e8 w8 ⟨rfl, hb8⟩
  have hl8 := hb8
  have hB8 : Below w.heap.size w w8 := Below.step hB7 hl8
  have hz8 : w7.heap.size + 0 ≤ w8.heap.size := by have := hb8.size; (try simp at this); omega
  replace HR_p0 := Lib.hid (Row.later HR_p0.out hl8)
  replace HR_w0 := Lib.hid (Row.later HR_w0.out hl8)
  replace HR_x0 := Lib.hid (Row.later HR_x0.out hl8)
  replace HR_g0 := Lib.hid (Row.later HR_g0.out hl8)
  replace HR_t7 := Lib.hid (Row.later HR_t7.out hl8)
  clear HR_t7
  go_wp2_with (fail)
  have cb1 : cnL p0 ≤ 1000000000000 := by have := cnb_PairS p0; have := sz_p0; omega
  refine (mark_PairS p0 _ A_x0 c_x0 _ _ 1 (by first | rfl | simp) (by omega) HR_x0.out (Nat.le_trans lx0 mx0)).mono ?_
  obtain ⟨K1, hK_K1⟩ : ∃ K, 1 + cnL p0 = K := ⟨_, rfl⟩
  rw [hK_K1]
  have bK_K1 : K1 ≤ 2000000000004 := by omega
  rintro e9 w9 ⟨rfl, hr_, hb9⟩
  have hB9 : Below w.heap.size w w9 := Below.stepc hB8 hb9 (fun x hx => by have := sb_x0 x hx; unfold rng at this; have := hB8.size; omega)
  have hz9 : w8.heap.size ≤ w9.heap.size := hb9.size
  replace HR_p0 := Lib.hid (Row.chg HR_p0.out hb9 (disjS (sub_refl _) sb_x0 (by omega)))
  replace HR_w0 := Lib.hid (Row.chg HR_w0.out hb9 (disjS sb_w0 sb_x0 (by omega)))
  replace HR_g0 := Lib.hid (Row.chg HR_g0.out hb9 (disjS sb_g0 sb_x0 (by omega)))
  replace HR_x0 := Lib.hid hr_; clear hr_
  go_wp2_with (fail)
  refine (eq_IntS (blamedIn p0) _ A_g0 A_w0 c_g0 c_w0 _ _ (Row.weak HR_g0.out) (Row.weak HR_w0.out) (Nat.le_trans lg0 mg0)).mono ?_
  rintro e10 w10 ⟨rfl, hb10⟩
  have hl10 := hb10
  have hB10 : Below w.heap.size w w10 := Below.step hB9 hl10
  have hz10 : w9.heap.size + 0 ≤ w10.heap.size := by have := hb10.size; (try simp at this); omega
  replace HR_p0 := Lib.hid (Row.later HR_p0.out hl10)
  replace HR_w0 := Lib.hid (Row.later HR_w0.out hl10)
  replace HR_x0 := Lib.hid (Row.later HR_x0.out hl10)
  replace HR_g0 := Lib.hid (Row.later HR_g0.out hl10)
  go_wp2_with (fail)
  have cb2 : cnL (blamedIn p0) ≤ 1000000000000 := cnb_blamedIn p0 sz_p0
  refine (mark_IntS (blamedIn p0) _ A_g0 c_g0 _ _ 1 (by first | rfl | simp) (by omega) HR_g0.out (Nat.le_trans lg0 mg0)).mono ?_
  obtain ⟨K2, hK_K2⟩ : ∃ K, 1 + cnL (blamedIn p0) = K := ⟨_, rfl⟩
  rw [hK_K2]
  have bK_K2 : K2 ≤ 3000000000006 := by omega
  rintro e11 w11 ⟨rfl, hr_, hb11⟩
  have hB11 : Below w.heap.size w w11 := Below.stepc hB10 hb11 (fun x hx => by have := sb_g0 x hx; unfold rng at this; have := hB10.size; omega)
  have hz11 : w10.heap.size ≤ w11.heap.size := hb11.size
  replace HR_p0 := Lib.hid (Row.chg HR_p0.out hb11 (disjS (sub_refl _) sb_g0 (by omega)))
  replace HR_w0 := Lib.hid (Row.chg HR_w0.out hb11 (disjS sb_w0 sb_g0 (by omega)))
  replace HR_x0 := Lib.hid (Row.chg HR_x0.out hb11 (disjS sb_x0 sb_g0 (by omega)))
  replace HR_g0 := Lib.hid hr_; clear hr_
  go_wp2_with (fail)
  refine (held_IntS (blamedIn p0) _ A_g0 c_g0 _ _ 1 (by first | rfl | simp) (by omega) (Row.weak HR_g0.out) (Nat.le_trans lg0 mg0)).mono ?_
  rw [hK_K2]
  rintro e12 w12 ⟨rfl, hb12⟩
  have hl12 := hb12
  have hB12 : Below w.heap.size w w12 := Below.step hB11 hl12
  have hz12 : w11.heap.size + 0 ≤ w12.heap.size := by have := hb12.size; (try simp at this); omega
  replace HR_p0 := Lib.hid (Row.later HR_p0.out hl12)
  replace HR_w0 := Lib.hid (Row.later HR_w0.out hl12)
  replace HR_x0 := Lib.hid (Row.later HR_x0.out hl12)
  replace HR_g0 := Lib.hid (Row.later HR_g0.out hl12)
  go_wp2_with (fail)
  refine (to_PairS p0 _ Ap0 kp0 _ HR_p0.out sz_p0).mono ?_
  rintro e13 w13 ⟨A_t13, c_t13, rfl, lt13, mt13, hr_, hb13⟩
  have hl13 := hb13
  have hB13 : Below w.heap.size w w13 := Below.step hB12 hl13
  have hz13 : w12.heap.size + 0 ≤ w13.heap.size := by have := hb13.size; (try simp at this); omega
  replace HR_p0 := Lib.hid (Row.later HR_p0.out hl13)
  replace HR_w0 := Lib.hid (Row.later HR_w0.out hl13)
  replace HR_x0 := Lib.hid (Row.later HR_x0.out hl13)
  replace HR_g0 := Lib.hid (Row.later HR_g0.out hl13)
  have HR_t13 := Lib.hid (Row.mono hr_ (S' := rng (w12.heap.size) (w13.heap.size)) (fun b h => by unfold rng at h ⊢; (try simp at h); omega)); clear hr_
  have sb_t13 : sub (rng (w12.heap.size) (w13.heap.size)) (rng (w12.heap.size) (w13.heap.size)) := sub_refl _
  go_wp2_with (fail)
  refine (impl_BlamedIn _ p0 A_t13 c_t13 _ (Row.weak HR_t13.out) lt13 mt13 sz_p0).mono ?_
  rintro e14 w14 ⟨A_h0, c_h0, rfl, lh0, mh0, hr_h0, hb14⟩
  have hl14 := hb14
  have hB14 : Below w.heap.size w w14 := Below.step hB13 hl14
  have hz14 : w13.heap.size + 0 ≤ w14.heap.size := by have := hb14.size; (try simp at this); omega
  replace HR_p0 := Lib.hid (Row.later HR_p0.out hl14)
  replace HR_w0 := Lib.hid (Row.later HR_w0.out hl14)
  replace HR_x0 := Lib.hid (Row.later HR_x0.out hl14)
  replace HR_g0 := Lib.hid (Row.later HR_g0.out hl14)
  replace HR_t13 := Lib.hid (Row.later HR_t13.out hl14)
  have hr_ := hr_h0; clear hr_h0
  have HR_h0 := Lib.hid (Row.mono hr_ (S' := rng (w13.heap.size) (w14.heap.size)) (fun b h => by unfold rng at h ⊢; (try simp at h); omega)); clear hr_
  have sb_h0 : sub (rng (w13.heap.size) (w14.heap.size)) (rng (w13.heap.size) (w14.heap.size)) := sub_refl _
  clear HR_t13
  go_wp2_with (fail)
  refine (eq_IntS (blamedIn p0) _ A_h0 A_w0 c_h0 c_w0 _ _ (Row.weak HR_h0.out) (Row.weak HR_w0.out) (Nat.le_trans lh0 mh0)).mono ?_
  rintro e15 w15 ⟨rfl, hb15⟩
  have hl15 := hb15
  have hB15 : Below w.heap.size w w15 := Below.step hB14 hl15
  have hz15 : w14.heap.size + 0 ≤ w15.heap.size := by have := hb15.size; (try simp at this); omega
  replace HR_p0 := Lib.hid (Row.later HR_p0.out hl15)
  replace HR_w0 := Lib.hid (Row.later HR_w0.out hl15)
  replace HR_x0 := Lib.hid (Row.later HR_x0.out hl15)
  replace HR_g0 := Lib.hid (Row.later HR_g0.out hl15)
  replace HR_h0 := Lib.hid (Row.later HR_h0.out hl15)
  go_wp2_with (fail)
  refine (held_IntS (blamedIn p0) _ A_g0 c_g0 _ _ 1 (by first | rfl | simp) (by omega) (Row.weak HR_g0.out) (Nat.le_trans lg0 mg0)).mono ?_
  rw [hK_K2]
  rintro e16 w16 ⟨rfl, hb16⟩
  have hl16 := hb16
  have hB16 : Below w.heap.size w w16 := Below.step hB15 hl16
  have hz16 : w15.heap.size + 0 ≤ w16.heap.size := by have := hb16.size; (try simp at this); omega
  replace HR_p0 := Lib.hid (Row.later HR_p0.out hl16)
  replace HR_w0 := Lib.hid (Row.later HR_w0.out hl16)
  replace HR_x0 := Lib.hid (Row.later HR_x0.out hl16)
  replace HR_g0 := Lib.hid (Row.later HR_g0.out hl16)
  replace HR_h0 := Lib.hid (Row.later HR_h0.out hl16)
  go_wp2_with (fail)
  go_ret; exact ⟨rfl, hB16⟩
set_option maxRecDepth 100000 in
theorem lifted_BlamedIn (os : Os) (started : os.Started) (H : Type) (enc : TypeId × Value → H) :
    ReturnsInHanded {} Try.checked os 10 .any (Rows.fnExactBlamedInSpec.pre6 enc Try.prog Try.f10 Rows.fnExactBlamedInRow.domain false) (Rows.fnExactBlamedInSpec.post enc Try.prog Try.f10 false true false false) := by
  refine returnsInHanded_of_change (C := Try.checked) own_ started (by kernel_rfl) Try.func10
    (ChangeSpec.witness6 (enc := enc) (C := Try.checked) false ⟨#[], #[.slice none 0 0], []⟩ 8 (by kernel_rfl) (by kernel_rfl) (by kernel_rfl) (by kernel_rfl)) ?_
  intro W base args ds gs before hval0 hW hcnd _
  have hval : ∀ (j : Nat) t v, Try.f10.params[j]? = some t → args[j]? = some v → Value.okWide Try.prog W .any base t v := hval0
  have hW' := hW
  obtain ⟨p, q, hA0, hV, rfl, hfz, hnd⟩ := hW
  have hA : DataW.TrodAll enc Try.prog W 0 (fun _ => true) true Try.f10.params.toList args.toList ds p := hA0
  rw [Try.params10] at hA hval
  have hA2 := hA
  obtain ⟨v0, vs0, d0, ds0, p0, q0, hargs0, rfl, rfl, h0, r0⟩ := trodAll_cons hA
  obtain ⟨rfl, rfl, rfl⟩ := trodAll_nil r0
  obtain rfl : args = #[v0] := by cases args; simp_all
  obtain ⟨rfl, rfl⟩ := trodVars_none hV
  have ng0 := nagg_slice Try.underlying48 (hval 0 48 v0 rfl rfl)
  obtain ⟨fu0, hf0⟩ := h0
  obtain ⟨x0, hx0⟩ := rdb_PairS H enc W 0 _ _ fu0 _ _ hf0
  obtain ⟨A0, k0, hc0, hl0, hm0, hr0⟩ := open_list hx0
  obtain rfl := cells_one hc0 ng0
  refine (law_BlamedIn W x0 A0 k0 All hr0 hl0 hm0).mono fun e W' ⟨he, hb⟩ => ?_
  subst he
  refine ⟨_, rfl, post_below (pa := p0 ++ []) (pv := []) hW' (fun _ _ _ => trodAll_mk1 (shut_bool Try.underlying4 true)) (fun sp hsp => ?_) (fun _ _ => rfl) (by simp) hb (ok_one (by kernel_rfl) rfl (okWide_bool_mk Try.underlying4 true))⟩
  rw [show Try.f10.params.toList = _ from congrArg Array.toList Try.params10]
  exact trodAll_stays laidOut_ hb _ _ _ _ (by intro t ht; simp at ht; subst ht; exact ⟨by kernel_rfl, by decide +kernel⟩) hA2 (fun x hx => hW'.lt x (by simpa using hx)) (fun x hx => hsp x (by simpa using hx))
theorem holds_BlamedIn : Rows.FnExactBlamedInSaid :=
  OpenClaim.holds_of_wide 10 Try.f10 rfl rfl rfl rfl rfl rfl rfl ⟨rfl, rfl, rfl, rfl, rfl⟩ rfl rfl rfl rfl rfl (by kernel_rfl) Try.func10 (by kernel_rfl)
    (of_decide_eq_true (by kernel_rfl)) (by unfold Func.isWrapper; first | (rw [if_pos (by decide +kernel)]; kernel_rfl) | (rw [if_neg (by decide +kernel)]; exact ⟨rfl, rfl⟩))
    (fun os started H enc _ => lifted_BlamedIn os started H enc)
end Go.Proofs.Ytbnfkpbaaoknmaa
