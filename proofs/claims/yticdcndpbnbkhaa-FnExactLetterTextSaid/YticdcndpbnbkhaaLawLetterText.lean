/- The program's LetterText answers as the reference's, for every argument. No condition. -/
import Derived.Test.YticdcndpbnbkhaaLw
import Derived.Test.YticdcndpbnbkhaaBt
import Derived.Test.YticdcndpbnbkhaaSz
import Derived.Test.YticdcndpbnbkhaaTo
import Derived.Test.YticdcndpbnbkhaaLx
namespace Go.Proofs.Yticdcndpbnbkhaa
open Go.RowKit Go.WideShapes Go.ChangeShapes Go.ChangeAt Lay Mk
set_option maxRecDepth 20000 in set_option maxHeartbeats 8000000 in
theorem law_LetterText (w : World) (p0 : Letter) (cp0 : List Value) (Sp0 : Blks) (hp0 : rd false w cp0 p0 Sp0) : Calls Try.prog 9 #[.agg cp0.toArray] w fun e w' => e = .returned (.bool true) ∧ Below w.heap.size w w' := by
  replace hp0 := old_rng hp0
  have HR_p0 := Lib.hid hp0; clear hp0
  have ln_p0 := Lay.len HR_p0.out
  have k_p0 : (Try.prog.info? 23).map (·.size) = some (Lay.n Letter) := by kernel_rfl
  go_enter Try.func9, Try.ntmps9
  go_wp2_with (first | (refine wpList_box rfl _ _ rfl rfl ?_) | (refine wpList_loadT rfl _ _ rfl rfl (At.new _ cp0 _ (0, 0)) Try.underlying23 k_p0 ln_p0 ?_))
  refine (sz_Letter p0 _ _ _ _ (Lay.later HR_p0.out ((Below.refl _ _).alloc (Nat.le_refl _) _)) (by omega) (by omega)).mono ?_
  rintro e1 w1 ⟨⟨n1, rfl, hn1⟩, hb1⟩
  have hl1 : Below w.heap.size w w1 := (Below.via hb1)
  have hB1 : Below w.heap.size w w1 := hl1
  have hz1 : w.heap.size + 1 ≤ w1.heap.size := by have := hb1.size; (try simp at this); omega
  replace HR_p0 := Lib.hid (Lay.later HR_p0.out hl1)
  have HA_p0 : Hid (At w1 (w.heap.size) 0 cp0) := Lib.hid (by have := (At.new w cp0 _ (0, 0)).below (b := w.heap.size) hb1 (by simp); simpa using this)
  have lt_p0 : w.heap.size < w1.heap.size := by omega
  rcases szR_cases hn1 (by omega) with rfl | ⟨hn1a, hn1b, sz_p0⟩
  · go_wp2_with (fail)
    go_ret; exact ⟨rfl, hB1⟩
  clear hn1
  go_wp2_with (first | (refine wpList_loadT rfl _ _ rfl rfl HA_p0.out Try.underlying23 k_p0 ln_p0 ?_))
  refine (to_Letter p0 _ _ _ HR_p0.out sz_p0).mono ?_
  rintro e2 w2 ⟨c_t2, rfl, hr_, hb2⟩
  have hl2 := hb2
  have hB2 : Below w.heap.size w w2 := Below.step hB1 hl2
  have hz2 : w1.heap.size + 0 ≤ w2.heap.size := by have := hb2.size; (try simp at this); omega
  replace HR_p0 := Lib.hid (Lay.later HR_p0.out hl2)
  replace HA_p0 := Lib.hid (HA_p0.out.below hl2 lt_p0); replace lt_p0 := Nat.lt_of_lt_of_le lt_p0 hl2.size
  have HR_t2 := Lib.hid (Lay.mono hr_ (S' := rng (w1.heap.size) (w2.heap.size)) (fun b h => by unfold rng at h ⊢; (try simp at h); omega)); clear hr_
  have sb_t2 : sub (rng (w1.heap.size) (w2.heap.size)) (rng (w1.heap.size) (w2.heap.size)) := sub_refl _
  go_wp2_with (first | (refine wpList_loadT rfl _ _ rfl rfl HA_p0.out Try.underlying23 k_p0 ln_p0 ?_))
  refine (spec_LetterText _ p0 c_t2 _ (Lay.weak HR_t2.out) sz_p0).mono ?_
  rintro e3 w3 ⟨rfl, hb3⟩
  have hl3 := hb3
  have hB3 : Below w.heap.size w w3 := Below.step hB2 hl3
  have hz3 : w2.heap.size + 0 ≤ w3.heap.size := by have := hb3.size; (try simp at this); omega
  replace HR_p0 := Lib.hid (Lay.later HR_p0.out hl3)
  replace HR_t2 := Lib.hid (Lay.later HR_t2.out hl3)
  replace HA_p0 := Lib.hid (HA_p0.out.below hl3 lt_p0); replace lt_p0 := Nat.lt_of_lt_of_le lt_p0 hl3.size
  clear HR_t2
  go_wp2_with (first | (refine wpList_loadT rfl _ _ rfl rfl HA_p0.out Try.underlying23 k_p0 ln_p0 ?_))
  refine (to_Letter p0 _ _ _ HR_p0.out sz_p0).mono ?_
  rintro e4 w4 ⟨c_t4, rfl, hr_, hb4⟩
  have hl4 := hb4
  have hB4 : Below w.heap.size w w4 := Below.step hB3 hl4
  have hz4 : w3.heap.size + 0 ≤ w4.heap.size := by have := hb4.size; (try simp at this); omega
  replace HR_p0 := Lib.hid (Lay.later HR_p0.out hl4)
  replace HA_p0 := Lib.hid (HA_p0.out.below hl4 lt_p0); replace lt_p0 := Nat.lt_of_lt_of_le lt_p0 hl4.size
  have HR_t4 := Lib.hid (Lay.mono hr_ (S' := rng (w3.heap.size) (w4.heap.size)) (fun b h => by unfold rng at h ⊢; (try simp at h); omega)); clear hr_
  have sb_t4 : sub (rng (w3.heap.size) (w4.heap.size)) (rng (w3.heap.size) (w4.heap.size)) := sub_refl _
  go_wp2_with (first | (refine wpList_loadT rfl _ _ rfl rfl HA_p0.out Try.underlying23 k_p0 ln_p0 ?_))
  refine (impl_LetterText _ p0 c_t4 _ (Lay.weak HR_t4.out) sz_p0).mono ?_
  rintro e5 w5 ⟨rfl, hb5⟩
  have hl5 := hb5
  have hB5 : Below w.heap.size w w5 := Below.step hB4 hl5
  have hz5 : w4.heap.size + 0 ≤ w5.heap.size := by have := hb5.size; (try simp at this); omega
  replace HR_p0 := Lib.hid (Lay.later HR_p0.out hl5)
  replace HR_t4 := Lib.hid (Lay.later HR_t4.out hl5)
  replace HA_p0 := Lib.hid (HA_p0.out.below hl5 lt_p0); replace lt_p0 := Nat.lt_of_lt_of_le lt_p0 hl5.size
  clear HR_t4
  go_wp2_with (first | (refine wpList_loadT rfl _ _ rfl rfl HA_p0.out Try.underlying23 k_p0 ln_p0 ?_))
  go_ret; exact ⟨rfl, hB5⟩
set_option maxRecDepth 100000 in
theorem lifted_LetterText (os : Os) (started : os.Started) (H : Type) (enc : TypeId × Value → H) :
    ReturnsInHanded {} Try.checked os 9 .any (Rows.fnExactLetterTextSpec.pre6 enc Try.prog Try.f9 Rows.fnExactLetterTextRow.domain false) (Rows.fnExactLetterTextSpec.post enc Try.prog Try.f9 false true false false) := by
  refine returnsInHanded_of_change (C := Try.checked) own_ started (by kernel_rfl) Try.func9
    (ChangeSpec.witness6 (enc := enc) (C := Try.checked) false ⟨#[], #[.agg #[.int .i64 0, .int .i64 0, .int .i64 0, .int .i64 0, .int .i64 0, .string ⟨#[]⟩]], []⟩ 8 (by kernel_rfl) (by kernel_rfl) (by kernel_rfl) (by kernel_rfl)) ?_
  intro W base args ds gs before hval0 hW hcnd _
  have hval : ∀ (j : Nat) t v, Try.f9.params[j]? = some t → args[j]? = some v → Value.okWide Try.prog W .any base t v := hval0
  have hW' := hW
  obtain ⟨p, q, hA0, hV, rfl, hfz, hnd⟩ := hW
  have hA : DataW.TrodAll enc Try.prog W 0 (fun _ => true) true Try.f9.params.toList args.toList ds p := hA0
  rw [Try.params9] at hA hval
  have hA2 := hA
  obtain ⟨v0, vs0, d0, ds0, p0, q0, hargs0, rfl, rfl, h0, r0⟩ := trodAll_cons hA
  obtain ⟨rfl, rfl, rfl⟩ := trodAll_nil r0
  obtain rfl : args = #[v0] := by cases args; simp_all
  obtain ⟨rfl, rfl⟩ := trodVars_none hV
  obtain ⟨c0, rfl⟩ := okWide_agg Try.underlying23 (hval 0 23 v0 rfl rfl)
  obtain ⟨fu0, hf0⟩ := h0
  obtain ⟨x0, hx0⟩ := rdb_Letter H enc W 0 _ _ fu0 _ _ hf0
  refine (law_LetterText W x0 c0.toList All hx0).mono fun e W' ⟨he, hb⟩ => ?_
  subst he
  refine ⟨_, rfl, post_below (pa := p0 ++ []) (pv := []) hW' (fun _ _ _ => trodAll_mk1 (shut_bool Try.underlying4 true)) (fun sp hsp => ?_) (fun _ _ => rfl) (by simp) hb (ok_one (by kernel_rfl) rfl (okWide_bool_mk Try.underlying4 true))⟩
  rw [show Try.f9.params.toList = _ from congrArg Array.toList Try.params9]
  exact trodAll_stays laidOut_ hb _ _ _ _ (by intro t ht; simp at ht; subst ht; exact ⟨by kernel_rfl, by decide +kernel⟩) hA2 (fun x hx => hW'.lt x (by simpa using hx)) (fun x hx => hsp x (by simpa using hx))
theorem holds_LetterText : Rows.FnExactLetterTextSaid :=
  OpenClaim.holds_of_wide 9 Try.f9 rfl rfl rfl rfl rfl rfl rfl ⟨rfl, rfl, rfl, rfl, rfl⟩ rfl rfl rfl rfl rfl (by kernel_rfl) Try.func9 (by kernel_rfl)
    (of_decide_eq_true (by kernel_rfl)) (by unfold Func.isWrapper; first | (rw [if_pos (by decide +kernel)]; kernel_rfl) | (rw [if_neg (by decide +kernel)]; exact ⟨rfl, rfl⟩))
    (fun os started H enc _ => lifted_LetterText os started H enc)
end Go.Proofs.Yticdcndpbnbkhaa
