/- The program's EvidenceOk answers as the reference's, for every argument. No condition. -/
import Derived.Test.YtbhpcjoohllfjaaDoorLw
import Derived.Test.YtbhpcjoohllfjaaDoorBt
import Derived.Test.YtbhpcjoohllfjaaDoorSz
import Derived.Test.YtbhpcjoohllfjaaDoorTo
import Derived.Test.YtbhpcjoohllfjaaDoorEq
import Derived.Test.YtbhpcjoohllfjaaDoorDl
import Derived.Test.YtbhpcjoohllfjaaDoorDh
import Derived.Test.YtbhpcjoohllfjaaDoorEl
import Derived.Test.YtbhpcjoohllfjaaDoorCb
import Derived.Test.YtbhpcjoohllfjaaDoorTie
import Derived.Test.YtbhpcjoohllfjaaDoorCards
set_option linter.unusedVariables false
set_option linter.unusedSimpArgs false
namespace Go.Proofs.YtbhpcjoohllfjaaDoor
open Go.RowKit Go.WideShapes Go.ChangeShapes Go.ChangeAt Lay Mk
set_option maxRecDepth 20000 in set_option maxHeartbeats 8000000 in
theorem law_EvidenceOk (w : World) (p0 : ByteArray) (hp0 : p0.size ≤ maxLen) (p1 : Pair) (cp1 : List Value) (Sp1 : Blks) (hp1 : rd false w cp1 p1 Sp1) (hT : Tabs w) : Calls Tryd.prog 4 #[.string p0, .agg cp1.toArray] w fun e w' => e = .returned (.bool true) ∧ Below w.heap.size w w' := by
  have HTb := Lib.hid hT; clear hT
  replace hp1 := old_rng hp1
  have HR_p1 := Lib.hid hp1; clear hp1
  have ln_p1 := Lay.len HR_p1.out
  have k_p1 : (Tryd.prog.info? 48).map (·.size) = some (Lay.n Pair) := by kernel_rfl
  by_cases zp0 : p0.size ≤ 1048576
  rotate_left
  · go_enter Tryd.func4, Tryd.ntmps4
    have qp0 : 1048576 < p0.size := by omega
    unfold maxLen at hp0
    go_wp2_with (first | (refine wpList_box rfl _ _ rfl rfl ?_) | (refine wpList_loadT rfl _ _ rfl rfl (At.new _ cp1 _ (0, 0)) Tryd.underlying48 k_p1 ln_p1 ?_))
    go_ret; exact ⟨rfl, (Below.refl _ _).alloc (by simp) _⟩
  go_enter Tryd.func4, Tryd.ntmps4
  go_wp2_with (first | (refine wpList_box rfl _ _ rfl rfl ?_) | (refine wpList_loadT rfl _ _ rfl rfl (At.new _ cp1 _ (0, 0)) Tryd.underlying48 k_p1 ln_p1 ?_))
  refine (sz_Pair p1 _ _ _ _ (Lay.later HR_p1.out ((Below.refl _ _).alloc (Nat.le_refl _) _)) (by omega) (by omega)).mono ?_
  rintro e1 w1 ⟨⟨n1, rfl, hn1⟩, hb1⟩
  have hl1 : Below w.heap.size w w1 := (Below.via hb1)
  have hB1 : Below w.heap.size w w1 := hl1
  have hz1 : w.heap.size + 1 ≤ w1.heap.size := by have := hb1.size; (try simp at this); omega
  replace HR_p1 := Lib.hid (Lay.later HR_p1.out hl1)
  have HA_p1 : Hid (At w1 (w.heap.size) 0 cp1) := Lib.hid (by have := (At.new w cp1 _ (0, 0)).below (b := w.heap.size) hb1 (by simp); simpa using this)
  have lt_p1 : w.heap.size < w1.heap.size := by omega
  rcases szR_cases hn1 (by omega) with rfl | ⟨hn1a, hn1b, sz_p1⟩
  · go_wp2_with (fail)
    go_ret; exact ⟨rfl, hB1⟩
  clear hn1
  go_wp2_with (first | (refine wpList_loadT rfl _ _ rfl rfl HA_p1.out Tryd.underlying48 k_p1 ln_p1 ?_))
  refine (to_Pair p1 _ _ _ HR_p1.out sz_p1).mono ?_
  rintro e2 w2 ⟨c_t2, rfl, hr_, hb2⟩
  have hl2 := hb2
  have hB2 : Below w.heap.size w w2 := Below.step hB1 hl2
  have hz2 : w1.heap.size + 0 ≤ w2.heap.size := by have := hb2.size; (try simp at this); omega
  replace HR_p1 := Lib.hid (Lay.later HR_p1.out hl2)
  replace HA_p1 := Lib.hid (HA_p1.out.below hl2 lt_p1); replace lt_p1 := Nat.lt_of_lt_of_le lt_p1 hl2.size
  have HR_t2 := Lib.hid (Lay.mono hr_ (S' := rng (w1.heap.size) (w2.heap.size)) (fun b h => by unfold rng at h ⊢; (try simp at h); omega)); clear hr_
  have sb_t2 : sub (rng (w1.heap.size) (w2.heap.size)) (rng (w1.heap.size) (w2.heap.size)) := sub_refl _
  go_wp2_with (first | (refine wpList_loadT rfl _ _ rfl rfl HA_p1.out Tryd.underlying48 k_p1 ln_p1 ?_))
  refine (spec_EvidenceOk _ p0 zp0 p1 c_t2 _ (Lay.weak HR_t2.out) sz_p1).mono ?_
  rintro e3 w3 ⟨rfl, hb3⟩
  have hl3 := hb3
  have hB3 : Below w.heap.size w w3 := Below.step hB2 hl3
  have hz3 : w2.heap.size + 0 ≤ w3.heap.size := by have := hb3.size; (try simp at this); omega
  replace HR_p1 := Lib.hid (Lay.later HR_p1.out hl3)
  replace HR_t2 := Lib.hid (Lay.later HR_t2.out hl3)
  replace HA_p1 := Lib.hid (HA_p1.out.below hl3 lt_p1); replace lt_p1 := Nat.lt_of_lt_of_le lt_p1 hl3.size
  clear HR_t2
  go_wp2_with (first | (refine wpList_loadT rfl _ _ rfl rfl HA_p1.out Tryd.underlying48 k_p1 ln_p1 ?_))
  refine (to_Pair p1 _ _ _ HR_p1.out sz_p1).mono ?_
  rintro e4 w4 ⟨c_x1, rfl, hr_, hb4⟩
  have hl4 := hb4
  have hB4 : Below w.heap.size w w4 := Below.step hB3 hl4
  have hz4 : w3.heap.size + 0 ≤ w4.heap.size := by have := hb4.size; (try simp at this); omega
  replace HR_p1 := Lib.hid (Lay.later HR_p1.out hl4)
  replace HA_p1 := Lib.hid (HA_p1.out.below hl4 lt_p1); replace lt_p1 := Nat.lt_of_lt_of_le lt_p1 hl4.size
  have HR_x1 := Lib.hid (Lay.mono hr_ (S' := rng (w3.heap.size) (w4.heap.size)) (fun b h => by unfold rng at h ⊢; (try simp at h); omega)); clear hr_
  have sb_x1 : sub (rng (w3.heap.size) (w4.heap.size)) (rng (w3.heap.size) (w4.heap.size)) := sub_refl _
  have ln_x1 := Lay.len HR_x1.out
  have on_x1 := Lay.one HR_x1.out
  have k_x1 : (Tryd.prog.info? 41).map (·.size) = some (Lay.n Pair) := by kernel_rfl
  go_wp2_with (first | (refine wpList_storeNew (cs := c_x1.toArray) rfl _ _ _ rfl rfl rfl rfl (k_x1.trans (congrArg some ln_x1.symm)) (Eq.trans (b := Lay.n Pair) rfl ln_x1.symm) (by simpa using on_x1) ?_) | (refine wpList_loadT rfl _ _ rfl rfl (At.new _ c_x1 _ (0, 0)) Tryd.underlying41 k_x1 ln_x1 ?_) | (refine wpList_loadT rfl _ _ rfl rfl (HA_p1.out.alloc lt_p1 _) Tryd.underlying48 k_p1 ln_p1 ?_))
  refine (impl_EvidenceOk _ p0 zp0 p1 c_x1 _ (Lay.weak (Lay.later HR_x1.out ((Below.refl _ _).alloc (Nat.le_refl _) _))) sz_p1 (Tabs.later (Tabs.later HTb.out hB4) ((Below.refl _ _).alloc (Nat.le_refl _) _))).mono ?_
  rintro e5 w5 ⟨rfl, hb5⟩
  have hl5 : Below w4.heap.size w4 w5 := (Below.via hb5)
  have hB5 : Below w.heap.size w w5 := Below.step hB4 hl5
  have hz5 : w4.heap.size + 1 ≤ w5.heap.size := by have := hb5.size; (try simp at this); omega
  replace HR_p1 := Lib.hid (Lay.later HR_p1.out hl5)
  replace HR_x1 := Lib.hid (Lay.later HR_x1.out hl5)
  replace HA_p1 := Lib.hid (HA_p1.out.below hl5 lt_p1); replace lt_p1 := Nat.lt_of_lt_of_le lt_p1 hl5.size
  have HA_x1 : Hid (At w5 (w4.heap.size) 0 c_x1) := Lib.hid (by have := (At.new w4 c_x1 _ (0, 0)).below (b := w4.heap.size) hb5 (by simp); simpa using this)
  have lt_x1 : w4.heap.size < w5.heap.size := by omega
  go_wp2_with (first | (refine wpList_loadT rfl _ _ rfl rfl HA_p1.out Tryd.underlying48 k_p1 ln_p1 ?_) | (refine wpList_loadT rfl _ _ rfl rfl HA_x1.out Tryd.underlying41 k_x1 ln_x1 ?_))
  refine wp_region_held_drew (S := fun W' => At W' (w4.heap.size) 0 c_x1 ∧ At W' (w.heap.size) 0 cp1) (by kernel_rfl) ⟨HA_x1.out, HA_p1.out⟩ (fun hS => ?_)
  refine wpAnyH_take (i := 0) (v := .agg c_x1.toArray) rfl (by kernel_rfl) (by kernel_rfl) (by kernel_rfl) (fun _ _ _ h => h) (yieldsIf_loadT (by rfl) _ _ rfl rfl (fun _ h => h.1) Tryd.underlying41 k_x1 ln_x1) hS ?_
  (try simp only [Act.put, List.setIfInBounds_toArray, List.set_cons_zero, List.set_cons_succ])
  refine wpAnyH_take (i := 1) (v := .agg cp1.toArray) rfl (by kernel_rfl) (by kernel_rfl) (by kernel_rfl) (fun _ _ _ h => h) (yieldsIf_loadT (by rfl) _ _ rfl rfl (fun _ h => h.2) Tryd.underlying48 k_p1 ln_p1) hS ?_
  (try simp only [Act.put, List.setIfInBounds_toArray, List.set_cons_zero, List.set_cons_succ])
  refine wpAnyH_ready (rs := [2]) (by kernel_rfl) (by simp) (AllReadyH.cons rfl (fun K hK => ?_) AllReadyH.nil)
  (try rw [if_pos (by rfl)])
  clear hS
  go_simp
  refine (to_Pair p1 _ _ _ (Lay.later HR_p1.out ((Below.refl _ _).drew)) sz_p1).mono ?_
  rintro e6 w6 ⟨c_t6, rfl, hr_, hb6⟩
  have hb6 := Below.viad hb6
  have hl6 := hb6
  have hB6 : Below w.heap.size w w6 := Below.step hB5 hl6
  have hz6 : w5.heap.size + 0 ≤ w6.heap.size := by have := hb6.size; (try simp at this); omega
  replace HR_p1 := Lib.hid (Lay.later HR_p1.out hl6)
  replace HR_x1 := Lib.hid (Lay.later HR_x1.out hl6)
  replace HA_p1 := Lib.hid (HA_p1.out.below hl6 lt_p1); replace lt_p1 := Nat.lt_of_lt_of_le lt_p1 hl6.size
  replace HA_x1 := Lib.hid (HA_x1.out.below hl6 lt_x1); replace lt_x1 := Nat.lt_of_lt_of_le lt_x1 hl6.size
  have HR_t6 := Lib.hid (Lay.mono hr_ (S' := rng (w5.heap.size) (w6.heap.size)) (fun b h => by unfold rng at h ⊢; (try simp at h); omega)); clear hr_
  have sb_t6 : sub (rng (w5.heap.size) (w6.heap.size)) (rng (w5.heap.size) (w6.heap.size)) := sub_refl _
  refine hK.out _ _ ⟨HA_x1.out, HA_p1.out⟩ (fun hS => ?_)
  clear hK K
  (try simp only [Act.put, List.setIfInBounds_toArray, List.set_cons_zero, List.set_cons_succ])
  refine wpAnyH_ready (rs := [3]) (by kernel_rfl) (by simp) (AllReadyH.cons rfl (fun K hK => ?_) AllReadyH.nil)
  (try rw [if_pos (by rfl)])
  clear hS
  go_simp
  refine (eq_Pair p1 _ _ _ _ _ (Lay.weak HR_x1.out) (Lay.weak HR_t6.out)).mono ?_
  rintro e7 w7 ⟨rfl, hb7⟩
  have hl7 := hb7
  have hB7 : Below w.heap.size w w7 := Below.step hB6 hl7
  have hz7 : w6.heap.size + 0 ≤ w7.heap.size := by have := hb7.size; (try simp at this); omega
  replace HR_p1 := Lib.hid (Lay.later HR_p1.out hl7)
  replace HR_x1 := Lib.hid (Lay.later HR_x1.out hl7)
  replace HR_t6 := Lib.hid (Lay.later HR_t6.out hl7)
  replace HA_p1 := Lib.hid (HA_p1.out.below hl7 lt_p1); replace lt_p1 := Nat.lt_of_lt_of_le lt_p1 hl7.size
  replace HA_x1 := Lib.hid (HA_x1.out.below hl7 lt_x1); replace lt_x1 := Nat.lt_of_lt_of_le lt_x1 hl7.size
  refine hK.out _ _ ⟨HA_x1.out, HA_p1.out⟩ (fun hS => ?_)
  clear hK K
  (try simp only [Act.put, List.setIfInBounds_toArray, List.set_cons_zero, List.set_cons_succ])
  refine wpAnyH_ready (rs := [4]) (by kernel_rfl) (by simp) (AllReadyH.cons rfl (fun K hK => ?_) AllReadyH.nil)
  go_simp
  refine hK.out _ _ hS (fun hS => ?_)
  clear hK K
  (try (try simp only [Act.put, List.setIfInBounds_toArray, List.set_cons_zero, List.set_cons_succ]))
  refine wpAnyH_done (by kernel_rfl) ?_ _
  clear hS
  clear HR_t6
  go_wp2_with (first | (refine wpList_loadT rfl _ _ rfl rfl HA_p1.out Tryd.underlying48 k_p1 ln_p1 ?_) | (refine wpList_loadT rfl _ _ rfl rfl HA_x1.out Tryd.underlying41 k_x1 ln_x1 ?_))
  go_ret; exact ⟨rfl, hB7⟩
set_option maxRecDepth 100000 in
theorem lifted_EvidenceOk (os : Os) (started : os.Started) (H : Type) (enc : TypeId × Value → H) :
    ReturnsInHanded {} Tryd.checked os 4 .any (fun w args => (Rows.fnExactEvidenceOkSpec.pre enc Tryd.prog Tryd.f4 [] false w args ∧ laidMetH Tryd.prog laidSha w) ∧ sizedMet enc Tryd.prog Tryd.f4 (OpenSpec.ofChange Rows.fnExactEvidenceOkSpec) false w args)
      (Rows.fnExactEvidenceOkSpec.post enc Tryd.prog Tryd.f4 false true false false) := by
  refine returnsInHanded_of_change_and (C := Tryd.checked) (X := fun w _ => laidMetH Tryd.prog laidSha w) (fun _ _ _ hh h => h.of_heap hh) own_ started (by kernel_rfl) Tryd.func4
    (ChangeSpec.witness_shaped (enc := enc) (C := Tryd.checked) (os := os) (X := fun w _ => laidMetH Tryd.prog laidSha w) false (World.doorLaid Tryd.prog 34 os) #[.string ⟨#[]⟩, .agg #[.int .i64 0, .int .i64 0, .string ⟨#[]⟩, .string ⟨#[]⟩, .int .i64 0, .slice none 0 0, .slice none 0 0, .slice none 0 0, .int .i64 0, .int .i64 0, .string ⟨#[]⟩, .string ⟨#[]⟩, .int .i64 0, .slice none 0 0, .slice none 0 0, .slice none 0 0]] 8 rfl (World.shaped_of_RefB (by kernel_rfl) (by kernel_rfl)) (by kernel_rfl) (by kernel_rfl) (by kernel_rfl) (door_met os _)) ?_
  intro W base args ds gs before hval0 hW hcnd _ hLaid _
  have hval : ∀ (j : Nat) t v, Tryd.f4.params[j]? = some t → args[j]? = some v → Value.okWide Tryd.prog W .any base t v := hval0
  have hW' := hW
  obtain ⟨p, q, hA0, hV, rfl, hfz, hnd⟩ := hW
  have hA : DataW.TrodAll enc Tryd.prog W 0 (fun _ => true) true Tryd.f4.params.toList args.toList ds p := hA0
  rw [Tryd.params4] at hA hval
  have hA2 := hA
  obtain ⟨v0, vs0, d0, ds0, p0, q0, hargs0, rfl, rfl, h0, r0⟩ := trodAll_cons hA
  obtain ⟨v1, vs1, d1, ds1, p1, q1, hargs1, rfl, rfl, h1, r1⟩ := trodAll_cons r0
  obtain ⟨rfl, rfl, rfl⟩ := trodAll_nil r1
  try subst hargs1
  obtain rfl : args = #[v0, v1] := by cases args; simp_all
  have hV2 := hV
  obtain ⟨_, _, _, _, g0, _, _, _, _, _, g1, _, hgs, _⟩ := trodVars_two hV2
  subst hgs
  have ng0 := nagg_string Tryd.underlying9 (hval 0 9 v0 rfl rfl)
  obtain ⟨fu0, hf0⟩ := h0
  obtain ⟨x0, hx0⟩ := rdb_str (Tryd.underlying9) H enc W 0 _ _ fu0 _ _ hf0
  obtain ⟨hc0, hi0⟩ := open_str hx0
  obtain rfl := cells_one hc0 ng0
  obtain ⟨c1, rfl⟩ := okWide_agg Tryd.underlying48 (hval 1 48 v1 rfl rfl)
  obtain ⟨fu1, hf1⟩ := h1
  obtain ⟨x1, hx1⟩ := rdb_Pair H enc W 0 _ _ fu1 _ _ hf1
  refine (law_EvidenceOk W x0 hi0 x1 c1.toList All hx1 (tabs_of_laid hLaid)).mono fun e W' ⟨he, hb⟩ => ?_
  subst he
  refine ⟨_, rfl, post_below (pa := p0 ++ (p1 ++ [])) (pv := q) hW' (fun _ _ _ => trodAll_mk1 (shut_bool Tryd.underlying4 true)) (fun sp hsp => ?_) (fun sp hsp => trodVars_stays laidOut_ hb (by kernel_rfl) hV (fun x hx => hsp x (by simp [hx]))) (by simp) hb (ok_one (by kernel_rfl) rfl (okWide_bool_mk Tryd.underlying4 true))⟩
  rw [show Tryd.f4.params.toList = _ from congrArg Array.toList Tryd.params4]
  exact trodAll_stays laidOut_ hb _ _ _ _ (by intro t ht; simp at ht; rcases ht with rfl | rfl <;> exact ⟨by kernel_rfl, by decide +kernel⟩) hA2 (fun x hx => hW'.lt x (by first | (simpa using Or.inl hx) | (simp at hx ⊢; rcases hx with hx | hx | hx | hx | hx <;> simp [hx]) | (simp at hx ⊢; rcases hx with hx | hx | hx | hx <;> simp [hx]) | (simp at hx ⊢; rcases hx with hx | hx | hx <;> simp [hx]) | (simp at hx ⊢; rcases hx with hx | hx <;> simp [hx]))) (fun x hx => hsp x (by first | (simpa using Or.inl hx) | (simp at hx ⊢; rcases hx with hx | hx | hx | hx | hx <;> simp [hx]) | (simp at hx ⊢; rcases hx with hx | hx | hx | hx <;> simp [hx]) | (simp at hx ⊢; rcases hx with hx | hx | hx <;> simp [hx]) | (simp at hx ⊢; rcases hx with hx | hx <;> simp [hx])))
theorem row_EvidenceOk : Rows.FnExactEvidenceOkSaid :=
  OpenClaim.holds_of_wide 4 Tryd.f4 rfl rfl rfl rfl rfl rfl rfl ⟨rfl, rfl, rfl, rfl, rfl⟩ rfl rfl rfl rfl rfl (by kernel_rfl) Tryd.func4 (by kernel_rfl)
    (of_decide_eq_true (by kernel_rfl)) (by unfold Func.isWrapper; first | (rw [if_pos (by decide +kernel)]; kernel_rfl) | (rw [if_neg (by decide +kernel)]; exact ⟨rfl, rfl⟩))
    (fun os started H enc _ => lifted_EvidenceOk os started H enc)
theorem holds_EvidenceOk : Rows.FnExactEvidenceOkCardSaid :=
  Claim7.holds_tied_plain_at .later [] Rows.fnExactEvidenceOkCard.laidKinds true Rows.fnExactEvidenceOkCard.stood.harness false
    row_EvidenceOk (fun _ h => by cases h) (by kernel_rfl) (fun _ h => by cases h) fnExactEvidenceOk_row_tie rfl ⟨rfl, rfl⟩ (by kernel_rfl) rfl
    (fun f fn hf hfn => by
      obtain rfl : f = 4 := Option.some.inj ((show Tryd.prog.funcNamed "loop.example/g00284/laws.FnExactEvidenceOk" = some 4 by kernel_rfl).symm.trans hf) |>.symm
      obtain rfl : fn = Tryd.f4 := (Option.some.inj (Tryd.func4.symm.trans hfn)).symm
      exact ⟨by kernel_rfl, fun j t ht => by
        rw [Tryd.params4] at ht
        have hm : t ∈ [9, 48] := by simpa using Array.mem_of_getElem? ht
        have hall : ([9, 48].all fun u => !Tryd.prog.wantsStandIn u) = true := by kernel_rfl
        exact (show Tryd.prog.wantsStandIn t = false by simpa using List.all_eq_true.1 hall t hm)⟩)
    (by kernel_rfl)
end Go.Proofs.YtbhpcjoohllfjaaDoor
