/- The program's ManyText answers as the reference's, for every argument. No condition. -/
import Derived.Test.YtojbehmbeoemgaaDoorB2
import Derived.Test.YtojbehmbeoemgaaDoorKSManyTextBt1
import Derived.Test.YtojbehmbeoemgaaDoorKSManyTextSz1
import Derived.Test.YtojbehmbeoemgaaDoorKSManyTextTo1
import Derived.Test.YtojbehmbeoemgaaDoorKSManyTextEq1
import Derived.Test.YtojbehmbeoemgaaDoorKDl
import Derived.Test.YtojbehmbeoemgaaDoorKYv
import Derived.Test.YtojbehmbeoemgaaDoorTie
import Derived.Test.YtojbehmbeoemgaaDoorCards
import Derived.Test.YtojbehmbeoemgaaDoorKJManyText
set_option linter.unusedVariables false
set_option linter.unusedSimpArgs false
namespace Go.Proofs.YtojbehmbeoemgaaDoor
open Go.RowKit Go.WideShapes Go.ChangeShapes Go.ChangeAt Lay Mk
set_option maxRecDepth 20000 in set_option maxHeartbeats 8000000 in
theorem law_ManyText (w : World) (p0 : Many) (cp0 : List Value) (Sp0 : Blks) (hp0 : rd false w cp0 p0 Sp0) (p1 : Int) (hp1 : I64 p1) (hT : Tabs w) : Calls Tryd.prog 8 #[.agg cp0.toArray, .int .i64 p1] w fun e w' => e = .returned (.bool true) ∧ Below w.heap.size w w' := by
  have HTb := Lib.hid hT; clear hT
  replace hp0 := old_rng hp0
  have HR_p0 := Lib.hid hp0; clear hp0
  have ln_p0 := Lay.len HR_p0.out
  have k_p0 : (Tryd.prog.info? 45).map (·.size) = some (Lay.n Many) := by kernel_rfl
  go_enter Tryd.func8, Tryd.ntmps8
  go_wp2_with (first | (refine wpList_box rfl _ _ rfl rfl ?_) | (refine wpList_loadT rfl _ _ rfl rfl (At.new _ cp0 _ (0, 0)) Tryd.underlying45 k_p0 ln_p0 ?_))
  refine (sz_Many p0 _ _ _ _ (Lay.later HR_p0.out ((Below.refl _ _).alloc (Nat.le_refl _) _)) (by omega) (by omega)).mono ?_
  rintro e1 w1 ⟨⟨n1, rfl, hn1⟩, hb1⟩
  have hl1 : Below w.heap.size w w1 := (Below.via hb1)
  have hB1 : Below w.heap.size w w1 := hl1
  have hz1 : w.heap.size + 1 ≤ w1.heap.size := by have := hb1.size; (try simp at this); omega
  replace HR_p0 := Lib.hid (Lay.later HR_p0.out hl1)
  have HA_p0 : Hid (At w1 (w.heap.size) 0 cp0) := Lib.hid (by have := (At.new w cp0 _ (0, 0)).below (b := w.heap.size) hb1 (by simp); simpa using this)
  have lt_p0 : w.heap.size < w1.heap.size := by omega
  rcases szR_cases hn1 (by omega) with rfl | ⟨hn1a, hn1b, sz_p0⟩
  · go_wp2_with (fail)
    go_ret; exact ⟨rfl, hB1⟩
  clear hn1
  go_wp2_with (first | (refine wpList_loadT rfl _ _ rfl rfl HA_p0.out Tryd.underlying45 k_p0 ln_p0 ?_))
  refine (to_Many p0 _ _ _ HR_p0.out sz_p0).mono ?_
  rintro e2 w2 ⟨c_t2, rfl, hr_, hb2⟩
  have hl2 := hb2
  have hB2 : Below w.heap.size w w2 := Below.step hB1 hl2
  have hz2 : w1.heap.size + 0 ≤ w2.heap.size := by have := hb2.size; (try simp at this); omega
  replace HR_p0 := Lib.hid (Lay.later HR_p0.out hl2)
  replace HA_p0 := Lib.hid (HA_p0.out.below hl2 lt_p0); replace lt_p0 := Nat.lt_of_lt_of_le lt_p0 hl2.size
  have HR_t2 := Lib.hid (Lay.mono hr_ (S' := rng (w1.heap.size) (w2.heap.size)) (fun b h => by unfold rng at h ⊢; (try simp at h); omega)); clear hr_
  have sb_t2 : sub (rng (w1.heap.size) (w2.heap.size)) (rng (w1.heap.size) (w2.heap.size)) := sub_refl _
  go_wp2_with (first | (refine wpList_loadT rfl _ _ rfl rfl HA_p0.out Tryd.underlying45 k_p0 ln_p0 ?_))
  refine (spec_ManyText _ p0 c_t2 _ (Lay.weak HR_t2.out) sz_p0 p1 hp1).mono ?_
  rintro e3 w3 ⟨rfl, hb3⟩
  have hl3 := hb3
  have hB3 : Below w.heap.size w w3 := Below.step hB2 hl3
  have hz3 : w2.heap.size + 0 ≤ w3.heap.size := by have := hb3.size; (try simp at this); omega
  replace HR_p0 := Lib.hid (Lay.later HR_p0.out hl3)
  replace HR_t2 := Lib.hid (Lay.later HR_t2.out hl3)
  replace HA_p0 := Lib.hid (HA_p0.out.below hl3 lt_p0); replace lt_p0 := Nat.lt_of_lt_of_le lt_p0 hl3.size
  clear HR_t2
  go_wp2_with (first | (refine wpList_loadT rfl _ _ rfl rfl HA_p0.out Tryd.underlying45 k_p0 ln_p0 ?_))
  refine (to_Many p0 _ _ _ HR_p0.out sz_p0).mono ?_
  rintro e4 w4 ⟨c_x0, rfl, hr_, hb4⟩
  have hl4 := hb4
  have hB4 : Below w.heap.size w w4 := Below.step hB3 hl4
  have hz4 : w3.heap.size + 0 ≤ w4.heap.size := by have := hb4.size; (try simp at this); omega
  replace HR_p0 := Lib.hid (Lay.later HR_p0.out hl4)
  replace HA_p0 := Lib.hid (HA_p0.out.below hl4 lt_p0); replace lt_p0 := Nat.lt_of_lt_of_le lt_p0 hl4.size
  have HR_x0 := Lib.hid (Lay.mono hr_ (S' := rng (w3.heap.size) (w4.heap.size)) (fun b h => by unfold rng at h ⊢; (try simp at h); omega)); clear hr_
  have sb_x0 : sub (rng (w3.heap.size) (w4.heap.size)) (rng (w3.heap.size) (w4.heap.size)) := sub_refl _
  have ln_x0 := Lay.len HR_x0.out
  have on_x0 := Lay.one HR_x0.out
  have k_x0 : (Tryd.prog.info? 51).map (·.size) = some (Lay.n Many) := by kernel_rfl
  go_wp2_with (first | (refine wpList_storeNew (cs := c_x0.toArray) rfl _ _ _ rfl rfl rfl rfl (k_x0.trans (congrArg some ln_x0.symm)) (Eq.trans (b := Lay.n Many) rfl ln_x0.symm) (by simpa using on_x0) ?_) | (refine wpList_loadT rfl _ _ rfl rfl (At.new _ c_x0 _ (0, 0)) Tryd.underlying51 k_x0 ln_x0 ?_) | (refine wpList_loadT rfl _ _ rfl rfl (HA_p0.out.alloc lt_p0 _) Tryd.underlying45 k_p0 ln_p0 ?_))
  refine (impl_ManyText _ p0 c_x0 _ (Lay.weak (Lay.later HR_x0.out ((Below.refl _ _).alloc (Nat.le_refl _) _))) sz_p0 p1 hp1 (Tabs.later (Tabs.later HTb.out hB4) ((Below.refl _ _).alloc (Nat.le_refl _) _))).mono ?_
  rintro e5 w5 ⟨rfl, hb5⟩
  have hl5 : Below w4.heap.size w4 w5 := (Below.via hb5)
  have hB5 : Below w.heap.size w w5 := Below.step hB4 hl5
  have hz5 : w4.heap.size + 1 ≤ w5.heap.size := by have := hb5.size; (try simp at this); omega
  replace HR_p0 := Lib.hid (Lay.later HR_p0.out hl5)
  replace HR_x0 := Lib.hid (Lay.later HR_x0.out hl5)
  replace HA_p0 := Lib.hid (HA_p0.out.below hl5 lt_p0); replace lt_p0 := Nat.lt_of_lt_of_le lt_p0 hl5.size
  have HA_x0 : Hid (At w5 (w4.heap.size) 0 c_x0) := Lib.hid (by have := (At.new w4 c_x0 _ (0, 0)).below (b := w4.heap.size) hb5 (by simp); simpa using this)
  have lt_x0 : w4.heap.size < w5.heap.size := by omega
  go_wp2_with (first | (refine wpList_loadT rfl _ _ rfl rfl HA_p0.out Tryd.underlying45 k_p0 ln_p0 ?_) | (refine wpList_loadT rfl _ _ rfl rfl HA_x0.out Tryd.underlying51 k_x0 ln_x0 ?_))
  refine wp_region_held_drew (S := fun W' => At W' (w4.heap.size) 0 c_x0 ∧ At W' (w.heap.size) 0 cp0) (by kernel_rfl) ⟨HA_x0.out, HA_p0.out⟩ (fun hS => ?_)
  refine wpAnyH_take (i := 0) (v := .agg c_x0.toArray) rfl (by kernel_rfl) (by kernel_rfl) (by kernel_rfl) (fun _ _ _ h => h) (yieldsIf_loadT (by rfl) _ _ rfl rfl (fun _ h => h.1) Tryd.underlying51 k_x0 ln_x0) hS ?_
  (try simp only [Act.put, List.setIfInBounds_toArray, List.set_cons_zero, List.set_cons_succ])
  refine wpAnyH_take (i := 1) (v := .agg cp0.toArray) rfl (by kernel_rfl) (by kernel_rfl) (by kernel_rfl) (fun _ _ _ h => h) (yieldsIf_loadT (by rfl) _ _ rfl rfl (fun _ h => h.2) Tryd.underlying45 k_p0 ln_p0) hS ?_
  (try simp only [Act.put, List.setIfInBounds_toArray, List.set_cons_zero, List.set_cons_succ])
  refine wpAnyH_ready (rs := [2]) (by kernel_rfl) (by simp) (AllReadyH.cons rfl (fun K hK => ?_) AllReadyH.nil)
  (try rw [if_pos (by rfl)])
  clear hS
  go_simp
  refine (to_Many p0 _ _ _ (Lay.later HR_p0.out ((Below.refl _ _).drew)) sz_p0).mono ?_
  rintro e6 w6 ⟨c_t6, rfl, hr_, hb6⟩
  have hb6 := Below.viad hb6
  have hl6 := hb6
  have hB6 : Below w.heap.size w w6 := Below.step hB5 hl6
  have hz6 : w5.heap.size + 0 ≤ w6.heap.size := by have := hb6.size; (try simp at this); omega
  replace HR_p0 := Lib.hid (Lay.later HR_p0.out hl6)
  replace HR_x0 := Lib.hid (Lay.later HR_x0.out hl6)
  replace HA_p0 := Lib.hid (HA_p0.out.below hl6 lt_p0); replace lt_p0 := Nat.lt_of_lt_of_le lt_p0 hl6.size
  replace HA_x0 := Lib.hid (HA_x0.out.below hl6 lt_x0); replace lt_x0 := Nat.lt_of_lt_of_le lt_x0 hl6.size
  have HR_t6 := Lib.hid (Lay.mono hr_ (S' := rng (w5.heap.size) (w6.heap.size)) (fun b h => by unfold rng at h ⊢; (try simp at h); omega)); clear hr_
  have sb_t6 : sub (rng (w5.heap.size) (w6.heap.size)) (rng (w5.heap.size) (w6.heap.size)) := sub_refl _
  refine hK.out _ _ ⟨HA_x0.out, HA_p0.out⟩ (fun hS => ?_)
  clear hK K
  (try simp only [Act.put, List.setIfInBounds_toArray, List.set_cons_zero, List.set_cons_succ])
  refine wpAnyH_ready (rs := [3]) (by kernel_rfl) (by simp) (AllReadyH.cons rfl (fun K hK => ?_) AllReadyH.nil)
  (try rw [if_pos (by rfl)])
  clear hS
  go_simp
  refine (eq_Many p0 _ _ _ _ _ (Lay.weak HR_x0.out) (Lay.weak HR_t6.out)).mono ?_
  rintro e7 w7 ⟨rfl, hb7⟩
  have hl7 := hb7
  have hB7 : Below w.heap.size w w7 := Below.step hB6 hl7
  have hz7 : w6.heap.size + 0 ≤ w7.heap.size := by have := hb7.size; (try simp at this); omega
  replace HR_p0 := Lib.hid (Lay.later HR_p0.out hl7)
  replace HR_x0 := Lib.hid (Lay.later HR_x0.out hl7)
  replace HR_t6 := Lib.hid (Lay.later HR_t6.out hl7)
  replace HA_p0 := Lib.hid (HA_p0.out.below hl7 lt_p0); replace lt_p0 := Nat.lt_of_lt_of_le lt_p0 hl7.size
  replace HA_x0 := Lib.hid (HA_x0.out.below hl7 lt_x0); replace lt_x0 := Nat.lt_of_lt_of_le lt_x0 hl7.size
  refine hK.out _ _ ⟨HA_x0.out, HA_p0.out⟩ (fun hS => ?_)
  clear hK K
  (try simp only [Act.put, List.setIfInBounds_toArray, List.set_cons_zero, List.set_cons_succ])
  refine wpAnyH_ready (rs := [4]) (by kernel_rfl) (by simp) (AllReadyH.cons rfl (fun K hK => ?_) AllReadyH.nil)
  go_simp
  refine hK.out _ _ hS (fun hS => ?_)
  clear hK K
  (try (try simp only [Act.put, List.setIfInBounds_toArray, List.set_cons_zero, List.set_cons_succ]))
  refine wpAnyH_done (by kernel_rfl) ?_ _
  clear hS
  clear HR_t6
  go_wp2_with (first | (refine wpList_loadT rfl _ _ rfl rfl HA_p0.out Tryd.underlying45 k_p0 ln_p0 ?_) | (refine wpList_loadT rfl _ _ rfl rfl HA_x0.out Tryd.underlying51 k_x0 ln_x0 ?_))
  go_ret; exact ⟨rfl, hB7⟩
set_option maxRecDepth 100000 in
theorem lifted_ManyText (os : Os) (started : os.Started) (H : Type) (enc : TypeId × Value → H) :
    ReturnsInHanded {} Tryd.checked os 8 .any (fun w args => (Rows.fnExactManyTextSpec.pre enc Tryd.prog Tryd.f8 [] false w args ∧ laidMetH Tryd.prog laidSha w) ∧ sizedMet enc Tryd.prog Tryd.f8 (OpenSpec.ofChange Rows.fnExactManyTextSpec) false w args)
      (Rows.fnExactManyTextSpec.post enc Tryd.prog Tryd.f8 false true false false) := by
  refine returnsInHanded_of_change_and (C := Tryd.checked) (X := fun w _ => laidMetH Tryd.prog laidSha w) (fun _ _ _ hh h => h.of_heap hh) own_ started (by kernel_rfl) Tryd.func8
    (ChangeSpec.witness_shaped (enc := enc) (C := Tryd.checked) (os := os) (X := fun w _ => laidMetH Tryd.prog laidSha w) false (World.doorLaid Tryd.prog 34 os) #[.agg #[.slice none 0 0, .slice none 0 0, .slice none 0 0], .int .i64 0] 8 rfl (World.shaped_of_RefB (by kernel_rfl) (by kernel_rfl)) (by kernel_rfl) (by kernel_rfl) (by kernel_rfl) (door_met os _)) ?_
  intro W base args ds gs before hval0 hW hcnd _ hLaid _
  have hval : ∀ (j : Nat) t v, Tryd.f8.params[j]? = some t → args[j]? = some v → Value.okWide Tryd.prog W .any base t v := hval0
  have hW' := hW
  obtain ⟨p, q, hA0, hV, rfl, hfz, hnd⟩ := hW
  have hA : DataW.TrodAll enc Tryd.prog W 0 (fun _ => true) true Tryd.f8.params.toList args.toList ds p := hA0
  rw [Tryd.params8] at hA hval
  have hA2 := hA
  obtain ⟨v0, vs0, d0, ds0, p0, q0, hargs0, rfl, rfl, h0, r0⟩ := trodAll_cons hA
  obtain ⟨v1, vs1, d1, ds1, p1, q1, hargs1, rfl, rfl, h1, r1⟩ := trodAll_cons r0
  obtain ⟨rfl, rfl, rfl⟩ := trodAll_nil r1
  try subst hargs1
  obtain rfl : args = #[v0, v1] := by cases args; simp_all
  have hV2 := hV
  obtain ⟨_, _, _, _, g0, _, _, _, _, _, g1, _, hgs, _⟩ := trodVars_two hV2
  subst hgs
  obtain ⟨c0, rfl⟩ := okWide_agg Tryd.underlying45 (hval 0 45 v0 rfl rfl)
  obtain ⟨fu0, hf0⟩ := h0
  obtain ⟨x0, hx0⟩ := rdb_Many H enc W 0 _ _ fu0 _ _ hf0
  have ng1 := nagg_int Tryd.underlying3 (hval 1 3 v1 rfl rfl)
  obtain ⟨fu1, hf1⟩ := h1
  obtain ⟨x1, hx1⟩ := rdb_int (Tryd.underlying3) H enc W 0 _ _ fu1 _ _ hf1
  obtain ⟨hc1, hi1⟩ := open_int hx1
  obtain rfl := cells_one hc1 ng1
  refine (law_ManyText W x0 c0.toList All hx0 x1 hi1 (tabs_of_laid hLaid)).mono fun e W' ⟨he, hb⟩ => ?_
  subst he
  refine ⟨_, rfl, post_below (pa := p0 ++ (p1 ++ [])) (pv := q) hW' (fun _ _ _ => trodAll_mk1 (shut_bool Tryd.underlying4 true)) (fun sp hsp => ?_) (fun sp hsp => trodVars_stays laidOut_ hb (by kernel_rfl) hV (fun x hx => hsp x (by simp [hx]))) (by simp) hb (ok_one (by kernel_rfl) rfl (okWide_bool_mk Tryd.underlying4 true))⟩
  rw [show Tryd.f8.params.toList = _ from congrArg Array.toList Tryd.params8]
  exact trodAll_stays laidOut_ hb _ _ _ _ (by intro t ht; simp at ht; rcases ht with rfl | rfl <;> exact ⟨by kernel_rfl, by decide +kernel⟩) hA2 (fun x hx => hW'.lt x (by first | (simpa using Or.inl hx) | (simp at hx ⊢; rcases hx with hx | hx | hx | hx | hx <;> simp [hx]) | (simp at hx ⊢; rcases hx with hx | hx | hx | hx <;> simp [hx]) | (simp at hx ⊢; rcases hx with hx | hx | hx <;> simp [hx]) | (simp at hx ⊢; rcases hx with hx | hx <;> simp [hx]))) (fun x hx => hsp x (by first | (simpa using Or.inl hx) | (simp at hx ⊢; rcases hx with hx | hx | hx | hx | hx <;> simp [hx]) | (simp at hx ⊢; rcases hx with hx | hx | hx | hx <;> simp [hx]) | (simp at hx ⊢; rcases hx with hx | hx | hx <;> simp [hx]) | (simp at hx ⊢; rcases hx with hx | hx <;> simp [hx])))
theorem row_ManyText : Rows.FnExactManyTextSaid :=
  OpenClaim.holds_of_wide 8 Tryd.f8 rfl rfl rfl rfl rfl rfl rfl ⟨rfl, rfl, rfl, rfl, rfl⟩ rfl rfl rfl rfl rfl (by kernel_rfl) Tryd.func8 joined_ManyText
    (of_decide_eq_true (by kernel_rfl)) (by unfold Func.isWrapper; first | (rw [if_pos (by decide +kernel)]; kernel_rfl) | (rw [if_neg (by decide +kernel)]; exact ⟨rfl, rfl⟩))
    (fun os started H enc _ => lifted_ManyText os started H enc)
theorem holds_ManyText : Rows.FnExactManyTextCardSaid :=
  Claim7.holds_tied_plain_at .later [] Rows.fnExactManyTextCard.laidKinds true Rows.fnExactManyTextCard.stood.harness false
    row_ManyText (fun _ h => by cases h) (by as_aux_lemma => kernel_rfl) (fun _ h => by cases h) fnExactManyText_row_tie rfl ⟨rfl, rfl⟩ (by as_aux_lemma => kernel_rfl) rfl
    (fun f fn hf hfn => by
      obtain rfl : f = 8 := Option.some.inj ((show Tryd.prog.funcNamed "loop.example/g00284/laws.FnExactManyText" = some 8 by as_aux_lemma => kernel_rfl).symm.trans hf) |>.symm
      obtain rfl : fn = Tryd.f8 := (Option.some.inj (Tryd.func8.symm.trans hfn)).symm
      exact ⟨by as_aux_lemma => kernel_rfl, fun j t ht => by
        rw [Tryd.params8] at ht
        have hm : t ∈ [45, 3] := by simpa using Array.mem_of_getElem? ht
        have hall : ([45, 3].all fun u => !Tryd.prog.wantsStandIn u) = true := by as_aux_lemma => kernel_rfl
        exact (show Tryd.prog.wantsStandIn t = false by simpa using List.all_eq_true.1 hall t hm)⟩)
    (by as_aux_lemma => kernel_rfl)
end Go.Proofs.YtojbehmbeoemgaaDoor
