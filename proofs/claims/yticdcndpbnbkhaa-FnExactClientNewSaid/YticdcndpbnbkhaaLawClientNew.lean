/- The program's ClientNew answers as the reference's, for every argument. No condition. -/
import Derived.Test.YticdcndpbnbkhaaLw
import Derived.Test.YticdcndpbnbkhaaBt
import Derived.Test.YticdcndpbnbkhaaSz
import Derived.Test.YticdcndpbnbkhaaTo
import Derived.Test.YticdcndpbnbkhaaEq
import Derived.Test.YticdcndpbnbkhaaMa
import Derived.Test.YticdcndpbnbkhaaHd
import Derived.Test.YticdcndpbnbkhaaCb
import Derived.Test.YticdcndpbnbkhaaCn
namespace Go.Proofs.Yticdcndpbnbkhaa
open Go.RowKit Go.WideShapes Go.ChangeShapes Go.ChangeAt Lay Mk
set_option maxRecDepth 20000 in set_option maxHeartbeats 8000000 in
theorem law_ClientNew (w : World) (p0 : Int) (hp0 : I64 p0) : Calls Try.prog 6 #[.int .i64 p0] w fun e w' => e = .returned (.bool true) ∧ Below w.heap.size w w' := by
  go_enter Try.func6, Try.ntmps6
  go_wp2_with (fail)
  refine (spec_ClientNew _ p0 hp0).mono ?_
  rintro e1 w1 ⟨c_w0, rfl, hr_w0, hb1⟩
  have hl1 := hb1
  have hB1 : Below w.heap.size w w1 := hl1
  have hz1 : w.heap.size + 0 ≤ w1.heap.size := by have := hb1.size; (try simp at this); omega
  have hr_ := hr_w0; clear hr_w0
  have HR_w0 := Lib.hid (Lay.mono hr_ (S' := rng (w.heap.size) (w1.heap.size)) (fun b h => by unfold rng at h ⊢; (try simp at h); omega)); clear hr_
  have sb_w0 : sub (rng (w.heap.size) (w1.heap.size)) (rng (w.heap.size) (w1.heap.size)) := sub_refl _
  have ln_w0 := Lay.len HR_w0.out
  have on_w0 := Lay.one HR_w0.out
  have k_w0 : (Try.prog.info? 40).map (·.size) = some (Lay.n Client) := by kernel_rfl
  go_wp2_with (first | (refine wpList_storeNew (cs := c_w0.toArray) rfl _ _ _ rfl rfl rfl rfl (k_w0.trans (congrArg some ln_w0.symm)) (Eq.trans (b := Lay.n Client) rfl ln_w0.symm) (by simpa using on_w0) ?_) | (refine wpList_loadT rfl _ _ rfl rfl (At.new _ c_w0 _ (0, 0)) Try.underlying40 k_w0 ln_w0 ?_))
  refine (impl_ClientNew _ p0 hp0).mono ?_
  rintro e2 w2 ⟨c_g0, rfl, hr_g0, hb2⟩
  have hl2 : Below w1.heap.size w1 w2 := (Below.via hb2)
  have hB2 : Below w.heap.size w w2 := Below.step hB1 hl2
  have hz2 : w1.heap.size + 1 ≤ w2.heap.size := by have := hb2.size; (try simp at this); omega
  replace HR_w0 := Lib.hid (Lay.later HR_w0.out hl2)
  have HA_w0 : Hid (At w2 (w1.heap.size) 0 c_w0) := Lib.hid (by have := (At.new w1 c_w0 _ (0, 0)).below (b := w1.heap.size) hb2 (by simp); simpa using this)
  have lt_w0 : w1.heap.size < w2.heap.size := by omega
  have hr_ := hr_g0; clear hr_g0
  have HR_g0 := Lib.hid (Lay.mono hr_ (S' := rng (w1.heap.size + 1) (w2.heap.size)) (fun b h => by unfold rng at h ⊢; (try simp at h); omega)); clear hr_
  have sb_g0 : sub (rng (w1.heap.size + 1) (w2.heap.size)) (rng (w1.heap.size + 1) (w2.heap.size)) := sub_refl _
  have ln_g0 := Lay.len HR_g0.out
  have on_g0 := Lay.one HR_g0.out
  have k_g0 : (Try.prog.info? 40).map (·.size) = some (Lay.n Client) := by kernel_rfl
  go_wp2_with (first | (refine wpList_storeNew (cs := c_g0.toArray) rfl _ _ _ rfl rfl rfl rfl (k_g0.trans (congrArg some ln_g0.symm)) (Eq.trans (b := Lay.n Client) rfl ln_g0.symm) (by simpa using on_g0) ?_) | (refine wpList_loadT rfl _ _ rfl rfl (At.new _ c_g0 _ (0, 0)) Try.underlying40 k_g0 ln_g0 ?_) | (refine wpList_loadT rfl _ _ rfl rfl (HA_w0.out.alloc lt_w0 _) Try.underlying40 k_w0 ln_w0 ?_))
  refine (eq_Client (clientNew p0) _ _ _ _ _ (Lay.weak (Lay.later HR_g0.out ((Below.refl _ _).alloc (Nat.le_refl _) _))) (Lay.weak (Lay.later HR_w0.out ((Below.refl _ _).alloc (Nat.le_refl _) _)))).mono ?_
  rintro e3 w3 ⟨rfl, hb3⟩
  have hl3 : Below w2.heap.size w2 w3 := (Below.via hb3)
  have hB3 : Below w.heap.size w w3 := Below.step hB2 hl3
  have hz3 : w2.heap.size + 1 ≤ w3.heap.size := by have := hb3.size; (try simp at this); omega
  replace HR_w0 := Lib.hid (Lay.later HR_w0.out hl3)
  replace HR_g0 := Lib.hid (Lay.later HR_g0.out hl3)
  replace HA_w0 := Lib.hid (HA_w0.out.below hl3 lt_w0); replace lt_w0 := Nat.lt_of_lt_of_le lt_w0 hl3.size
  have HA_g0 : Hid (At w3 (w2.heap.size) 0 c_g0) := Lib.hid (by have := (At.new w2 c_g0 _ (0, 0)).below (b := w2.heap.size) hb3 (by simp); simpa using this)
  have lt_g0 : w2.heap.size < w3.heap.size := by omega
  go_wp2_with (first | (refine wpList_loadT rfl _ _ rfl rfl HA_w0.out Try.underlying40 k_w0 ln_w0 ?_) | (refine wpList_loadT rfl _ _ rfl rfl HA_g0.out Try.underlying40 k_g0 ln_g0 ?_))
  have cb1 : (clientNew p0).ct ≤ 1000000000000 := cnb_clientNew p0
  refine (mark_Client (clientNew p0) _ _ _ _ 1 (by first | rfl | simp) (by omega) HR_g0.out).mono ?_
  obtain ⟨K1, hK_K1⟩ : ∃ K, 1 + (clientNew p0).ct = K := ⟨_, rfl⟩
  rw [hK_K1]
  have bK_K1 : K1 ≤ 2000000000004 := by omega
  rintro e4 w4 ⟨rfl, hr_, hb4⟩
  have hB4 : Below w.heap.size w w4 := Below.stepc hB3 hb4 (fun x hx => by have := sb_g0 x hx; unfold rng at this; have := hB3.size; omega)
  have hz4 : w3.heap.size ≤ w4.heap.size := hb4.size
  replace HR_w0 := Lib.hid (Lay.chg HR_w0.out hb4 (disjS sb_w0 sb_g0 (by omega)))
  replace HA_w0 := Lib.hid (HA_w0.out.chg hb4 lt_w0 (not_rng sb_g0 (by omega))); replace lt_w0 := Nat.lt_of_lt_of_le lt_w0 hb4.size
  replace HA_g0 := Lib.hid (HA_g0.out.chg hb4 lt_g0 (not_rng sb_g0 (by omega))); replace lt_g0 := Nat.lt_of_lt_of_le lt_g0 hb4.size
  replace HR_g0 := Lib.hid hr_; clear hr_
  go_wp2_with (first | (refine wpList_loadT rfl _ _ rfl rfl HA_w0.out Try.underlying40 k_w0 ln_w0 ?_) | (refine wpList_loadT rfl _ _ rfl rfl HA_g0.out Try.underlying40 k_g0 ln_g0 ?_))
  refine (held_Client (clientNew p0) _ _ _ _ 1 (by first | rfl | simp) (by omega) (Lay.weak HR_g0.out)).mono ?_
  rw [hK_K1]
  rintro e5 w5 ⟨rfl, hb5⟩
  have hl5 := hb5
  have hB5 : Below w.heap.size w w5 := Below.step hB4 hl5
  have hz5 : w4.heap.size + 0 ≤ w5.heap.size := by have := hb5.size; (try simp at this); omega
  replace HR_w0 := Lib.hid (Lay.later HR_w0.out hl5)
  replace HR_g0 := Lib.hid (Lay.later HR_g0.out hl5)
  replace HA_w0 := Lib.hid (HA_w0.out.below hl5 lt_w0); replace lt_w0 := Nat.lt_of_lt_of_le lt_w0 hl5.size
  replace HA_g0 := Lib.hid (HA_g0.out.below hl5 lt_g0); replace lt_g0 := Nat.lt_of_lt_of_le lt_g0 hl5.size
  go_wp2_with (first | (refine wpList_loadT rfl _ _ rfl rfl HA_w0.out Try.underlying40 k_w0 ln_w0 ?_) | (refine wpList_loadT rfl _ _ rfl rfl HA_g0.out Try.underlying40 k_g0 ln_g0 ?_))
  refine (impl_ClientNew _ p0 hp0).mono ?_
  rintro e6 w6 ⟨c_h0, rfl, hr_h0, hb6⟩
  have hl6 := hb6
  have hB6 : Below w.heap.size w w6 := Below.step hB5 hl6
  have hz6 : w5.heap.size + 0 ≤ w6.heap.size := by have := hb6.size; (try simp at this); omega
  replace HR_w0 := Lib.hid (Lay.later HR_w0.out hl6)
  replace HR_g0 := Lib.hid (Lay.later HR_g0.out hl6)
  replace HA_w0 := Lib.hid (HA_w0.out.below hl6 lt_w0); replace lt_w0 := Nat.lt_of_lt_of_le lt_w0 hl6.size
  replace HA_g0 := Lib.hid (HA_g0.out.below hl6 lt_g0); replace lt_g0 := Nat.lt_of_lt_of_le lt_g0 hl6.size
  have hr_ := hr_h0; clear hr_h0
  have HR_h0 := Lib.hid (Lay.mono hr_ (S' := rng (w5.heap.size) (w6.heap.size)) (fun b h => by unfold rng at h ⊢; (try simp at h); omega)); clear hr_
  have sb_h0 : sub (rng (w5.heap.size) (w6.heap.size)) (rng (w5.heap.size) (w6.heap.size)) := sub_refl _
  have ln_h0 := Lay.len HR_h0.out
  have on_h0 := Lay.one HR_h0.out
  have k_h0 : (Try.prog.info? 40).map (·.size) = some (Lay.n Client) := by kernel_rfl
  go_wp2_with (first | (refine wpList_storeNew (cs := c_h0.toArray) rfl _ _ _ rfl rfl rfl rfl (k_h0.trans (congrArg some ln_h0.symm)) (Eq.trans (b := Lay.n Client) rfl ln_h0.symm) (by simpa using on_h0) ?_) | (refine wpList_loadT rfl _ _ rfl rfl (At.new _ c_h0 _ (0, 0)) Try.underlying40 k_h0 ln_h0 ?_) | (refine wpList_loadT rfl _ _ rfl rfl (HA_w0.out.alloc lt_w0 _) Try.underlying40 k_w0 ln_w0 ?_) | (refine wpList_loadT rfl _ _ rfl rfl (HA_g0.out.alloc lt_g0 _) Try.underlying40 k_g0 ln_g0 ?_))
  refine (eq_Client (clientNew p0) _ _ _ _ _ (Lay.weak (Lay.later HR_h0.out ((Below.refl _ _).alloc (Nat.le_refl _) _))) (Lay.weak (Lay.later HR_w0.out ((Below.refl _ _).alloc (Nat.le_refl _) _)))).mono ?_
  rintro e7 w7 ⟨rfl, hb7⟩
  have hl7 : Below w6.heap.size w6 w7 := (Below.via hb7)
  have hB7 : Below w.heap.size w w7 := Below.step hB6 hl7
  have hz7 : w6.heap.size + 1 ≤ w7.heap.size := by have := hb7.size; (try simp at this); omega
  replace HR_w0 := Lib.hid (Lay.later HR_w0.out hl7)
  replace HR_g0 := Lib.hid (Lay.later HR_g0.out hl7)
  replace HR_h0 := Lib.hid (Lay.later HR_h0.out hl7)
  replace HA_w0 := Lib.hid (HA_w0.out.below hl7 lt_w0); replace lt_w0 := Nat.lt_of_lt_of_le lt_w0 hl7.size
  replace HA_g0 := Lib.hid (HA_g0.out.below hl7 lt_g0); replace lt_g0 := Nat.lt_of_lt_of_le lt_g0 hl7.size
  have HA_h0 : Hid (At w7 (w6.heap.size) 0 c_h0) := Lib.hid (by have := (At.new w6 c_h0 _ (0, 0)).below (b := w6.heap.size) hb7 (by simp); simpa using this)
  have lt_h0 : w6.heap.size < w7.heap.size := by omega
  go_wp2_with (first | (refine wpList_loadT rfl _ _ rfl rfl HA_w0.out Try.underlying40 k_w0 ln_w0 ?_) | (refine wpList_loadT rfl _ _ rfl rfl HA_g0.out Try.underlying40 k_g0 ln_g0 ?_) | (refine wpList_loadT rfl _ _ rfl rfl HA_h0.out Try.underlying40 k_h0 ln_h0 ?_))
  refine (held_Client (clientNew p0) _ _ _ _ 1 (by first | rfl | simp) (by omega) (Lay.weak HR_g0.out)).mono ?_
  rw [hK_K1]
  rintro e8 w8 ⟨rfl, hb8⟩
  have hl8 := hb8
  have hB8 : Below w.heap.size w w8 := Below.step hB7 hl8
  have hz8 : w7.heap.size + 0 ≤ w8.heap.size := by have := hb8.size; (try simp at this); omega
  replace HR_w0 := Lib.hid (Lay.later HR_w0.out hl8)
  replace HR_g0 := Lib.hid (Lay.later HR_g0.out hl8)
  replace HR_h0 := Lib.hid (Lay.later HR_h0.out hl8)
  replace HA_w0 := Lib.hid (HA_w0.out.below hl8 lt_w0); replace lt_w0 := Nat.lt_of_lt_of_le lt_w0 hl8.size
  replace HA_g0 := Lib.hid (HA_g0.out.below hl8 lt_g0); replace lt_g0 := Nat.lt_of_lt_of_le lt_g0 hl8.size
  replace HA_h0 := Lib.hid (HA_h0.out.below hl8 lt_h0); replace lt_h0 := Nat.lt_of_lt_of_le lt_h0 hl8.size
  go_wp2_with (first | (refine wpList_loadT rfl _ _ rfl rfl HA_w0.out Try.underlying40 k_w0 ln_w0 ?_) | (refine wpList_loadT rfl _ _ rfl rfl HA_g0.out Try.underlying40 k_g0 ln_g0 ?_) | (refine wpList_loadT rfl _ _ rfl rfl HA_h0.out Try.underlying40 k_h0 ln_h0 ?_))
  go_ret; exact ⟨rfl, hB8⟩
set_option maxRecDepth 100000 in
theorem lifted_ClientNew (os : Os) (started : os.Started) (H : Type) (enc : TypeId × Value → H) :
    ReturnsInHanded {} Try.checked os 6 .any (Rows.fnExactClientNewSpec.pre6 enc Try.prog Try.f6 Rows.fnExactClientNewRow.domain false) (Rows.fnExactClientNewSpec.post enc Try.prog Try.f6 false true false false) := by
  refine returnsInHanded_of_change (C := Try.checked) own_ started (by kernel_rfl) Try.func6
    (ChangeSpec.witness6 (enc := enc) (C := Try.checked) false ⟨#[], #[.int .i64 0], []⟩ 8 (by kernel_rfl) (by kernel_rfl) (by kernel_rfl) (by kernel_rfl)) ?_
  intro W base args ds gs before hval0 hW hcnd _
  have hval : ∀ (j : Nat) t v, Try.f6.params[j]? = some t → args[j]? = some v → Value.okWide Try.prog W .any base t v := hval0
  have hW' := hW
  obtain ⟨p, q, hA0, hV, rfl, hfz, hnd⟩ := hW
  have hA : DataW.TrodAll enc Try.prog W 0 (fun _ => true) true Try.f6.params.toList args.toList ds p := hA0
  rw [Try.params6] at hA hval
  have hA2 := hA
  obtain ⟨v0, vs0, d0, ds0, p0, q0, hargs0, rfl, rfl, h0, r0⟩ := trodAll_cons hA
  obtain ⟨rfl, rfl, rfl⟩ := trodAll_nil r0
  obtain rfl : args = #[v0] := by cases args; simp_all
  obtain ⟨rfl, rfl⟩ := trodVars_none hV
  have ng0 := nagg_int Try.underlying3 (hval 0 3 v0 rfl rfl)
  obtain ⟨fu0, hf0⟩ := h0
  obtain ⟨x0, hx0⟩ := rdb_int (Try.underlying3) H enc W 0 _ _ fu0 _ _ hf0
  obtain ⟨hc0, hi0⟩ := open_int hx0
  obtain rfl := cells_one hc0 ng0
  refine (law_ClientNew W x0 hi0).mono fun e W' ⟨he, hb⟩ => ?_
  subst he
  refine ⟨_, rfl, post_below (pa := p0 ++ []) (pv := []) hW' (fun _ _ _ => trodAll_mk1 (shut_bool Try.underlying4 true)) (fun sp hsp => ?_) (fun _ _ => rfl) (by simp) hb (ok_one (by kernel_rfl) rfl (okWide_bool_mk Try.underlying4 true))⟩
  rw [show Try.f6.params.toList = _ from congrArg Array.toList Try.params6]
  exact trodAll_stays laidOut_ hb _ _ _ _ (by intro t ht; simp at ht; subst ht; exact ⟨by kernel_rfl, by decide +kernel⟩) hA2 (fun x hx => hW'.lt x (by simpa using hx)) (fun x hx => hsp x (by simpa using hx))
theorem holds_ClientNew : Rows.FnExactClientNewSaid :=
  OpenClaim.holds_of_wide 6 Try.f6 rfl rfl rfl rfl rfl rfl rfl ⟨rfl, rfl, rfl, rfl, rfl⟩ rfl rfl rfl rfl rfl (by kernel_rfl) Try.func6 (by kernel_rfl)
    (of_decide_eq_true (by kernel_rfl)) (by unfold Func.isWrapper; first | (rw [if_pos (by decide +kernel)]; kernel_rfl) | (rw [if_neg (by decide +kernel)]; exact ⟨rfl, rfl⟩))
    (fun os started H enc _ => lifted_ClientNew os started H enc)
end Go.Proofs.Yticdcndpbnbkhaa
