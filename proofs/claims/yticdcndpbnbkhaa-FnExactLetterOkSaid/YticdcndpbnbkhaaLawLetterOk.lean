/- The program's LetterOk answers as the reference's, for every letter. No condition. -/
import Derived.Test.YticdcndpbnbkhaaTop
import Derived.Test.YticdcndpbnbkhaaBt
import Derived.Test.YticdcndpbnbkhaaSz
import Derived.Test.YticdcndpbnbkhaaTo
import Derived.Test.YticdcndpbnbkhaaLt
namespace Go.Proofs.Yticdcndpbnbkhaa
open Go.RowKit Go.WideShapes Go.ChangeShapes Go.ChangeAt Lay Mk
theorem law_LetterOk (x : Letter) (w : World) (cs : List Value) (S : Blks) (hx : rd false w cs x S) : Calls Try.prog 3 #[.agg cs.toArray] w fun e w' => e = .returned (.bool true) ∧ Below w.heap.size w w' := by
  have hh := Lib.hid hx
  obtain ⟨rfl, f0, f1, f2, f3, f4, f5⟩ := Letter.open hx
  clear hx
  have hmk : ∀ W, rd false W (Letter.cs x) x All := fun W => Letter.mk' f0 f1 f2 f3 f4 f5
  have HM := Lib.hid hmk; clear hmk
  simp only [Letter.cs]
  go_enter Try.func3, Try.ntmps3
  go_wp2_with (fail)
  refine (sz_Letter x _ _ All _ (HM.out _) (by omega) (by omega)).mono ?_
  rintro e1 w1 ⟨⟨n1, rfl, hn⟩, hb1⟩
  have hB1 : Below w.heap.size w w1 := ((Below.refl _ _).alloc (by simp) _).trans (hb1.mono (by simp))
  have hz1 : w.heap.size + 1 ≤ w1.heap.size := by have := hb1.size; simp at this; omega
  have hc1 := fun o => hb1.cell (p := ⟨w.heap.size, o, none⟩) (by simp)
  rcases hn with ⟨rfl, hn⟩ | ⟨rfl, hn⟩
  · go_wp2_with (fail)
    go_ret; exact ⟨rfl, hB1⟩
  go_wp2_with (fail)
  refine (to_Letter x _ _ All (HM.out _) (by unfold Letter.sz at hn ⊢; omega)).mono ?_
  rintro e2 w2 ⟨c2, rfl, hr2, hb2⟩
  obtain ⟨rfl, _⟩ := Letter.open hr2
  have hB2 : Below w.heap.size w w2 := hB1.trans (hb2.mono (by omega))
  have hz2 := hb2.size
  have hc2 := fun o => hb2.cell (p := ⟨w.heap.size, o, none⟩) (by simp; omega)
  clear hr2
  go_wp2_with (fail)
  refine (spec_LetterOk x _).mono ?_
  rintro e3 w3 ⟨rfl, hb3⟩
  have hB3 : Below w.heap.size w w3 := hB2.trans (hb3.mono (by omega))
  have hz3 := hb3.size
  have hc3 := fun o => hb3.cell (p := ⟨w.heap.size, o, none⟩) (by simp; omega)
  go_wp2_with (fail)
  refine (to_Letter x _ _ All (HM.out _) (by unfold Letter.sz at hn ⊢; omega)).mono ?_
  rintro e4 w4 ⟨c4, rfl, hr4, hb4⟩
  obtain ⟨rfl, _⟩ := Letter.open hr4
  have hB4 : Below w.heap.size w w4 := hB3.trans (hb4.mono (by omega))
  have hz4 := hb4.size
  clear hr4
  go_wp2_with (fail)
  refine (impl_LetterOk x _).mono ?_
  rintro e5 w5 ⟨rfl, hb5⟩
  have hB5 : Below w.heap.size w w5 := hB4.trans (hb5.mono (by omega))
  go_wp2
  go_ret; exact ⟨rfl, hB5⟩
set_option maxRecDepth 100000 in
theorem lifted_LetterOk (os : Os) (started : os.Started) (H : Type) (enc : TypeId × Value → H) :
    ReturnsInHanded {} Try.checked os 3 .any (Rows.fnExactLetterOkSpec.pre6 enc Try.prog Try.f3 Rows.fnExactLetterOkRow.domain false) (Rows.fnExactLetterOkSpec.post enc Try.prog Try.f3 false true false false) := by
  refine returnsInHanded_of_change (C := Try.checked) own_ started (by kernel_rfl) Try.func3
    (ChangeSpec.witness6 (enc := enc) (C := Try.checked) false ⟨#[], #[.agg #[.int .i64 0, .int .i64 0, .int .i64 0, .int .i64 0, .int .i64 0, .string ⟨#[]⟩]], []⟩ 8 (by kernel_rfl) (by kernel_rfl) (by kernel_rfl) (by kernel_rfl)) ?_
  intro W base args ds gs before hval0 hW hcnd _
  have hval : ∀ (j : Nat) t v, Try.f3.params[j]? = some t → args[j]? = some v → Value.okWide Try.prog W .any base t v := hval0
  have hW' := hW
  obtain ⟨p, q, hA0, hV, rfl, hfz, hnd⟩ := hW
  have hA : DataW.TrodAll enc Try.prog W 0 (fun _ => true) true Try.f3.params.toList args.toList ds p := hA0
  rw [Try.params3] at hA hval
  have hA2 := hA
  obtain ⟨v0, vs0, d0, ds0, p0, q0, hargs, rfl, rfl, h0, r0⟩ := trodAll_cons hA
  obtain ⟨rfl, rfl, rfl⟩ := trodAll_nil r0
  obtain rfl : args = #[v0] := by cases args; simp_all
  obtain ⟨rfl, rfl⟩ := trodVars_none hV
  obtain ⟨c0, rfl⟩ := okWide_agg Try.underlying23 (hval 0 23 v0 rfl rfl)
  obtain ⟨fu0, hf0⟩ := h0
  obtain ⟨x0, hx0⟩ := rdb_Letter H enc W 0 _ _ fu0 _ _ hf0
  refine (law_LetterOk x0 W c0.toList All hx0).mono fun e W' ⟨he, hb⟩ => ?_
  subst he
  refine ⟨_, rfl, post_below (pa := p0 ++ []) (pv := []) hW' (fun _ _ _ => trodAll_mk1 (shut_bool Try.underlying4 true)) (fun sp hsp => ?_) (fun _ _ => rfl) (by simp) hb (ok_one (by kernel_rfl) rfl (okWide_bool_mk Try.underlying4 true))⟩
  rw [show Try.f3.params.toList = _ from congrArg Array.toList Try.params3]
  exact trodAll_stays laidOut_ hb _ _ _ _ (by intro t ht; simp at ht; subst ht; exact ⟨by kernel_rfl, by decide +kernel⟩) hA2 (fun x hx => hW'.lt x (by simpa using hx)) (fun x hx => hsp x (by simpa using hx))

theorem holds_LetterOk : Rows.FnExactLetterOkSaid :=
  OpenClaim.holds_of_wide 3 Try.f3 rfl rfl rfl rfl rfl rfl rfl ⟨rfl, rfl, rfl, rfl, rfl⟩ rfl rfl rfl rfl rfl (by kernel_rfl) Try.func3 (by kernel_rfl)
    (of_decide_eq_true (by kernel_rfl)) (by unfold Func.isWrapper; first | (rw [if_pos (by decide +kernel)]; kernel_rfl) | (rw [if_neg (by decide +kernel)]; exact ⟨rfl, rfl⟩))
    (fun os started H enc _ => lifted_LetterOk os started H enc)
end Go.Proofs.Yticdcndpbnbkhaa
