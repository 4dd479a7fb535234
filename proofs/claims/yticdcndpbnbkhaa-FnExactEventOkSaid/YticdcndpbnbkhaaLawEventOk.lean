/- The program's EventOk answers as the reference's, for every argument. No condition. -/
import Derived.Test.YticdcndpbnbkhaaTop
import Derived.Test.YticdcndpbnbkhaaBt
import Derived.Test.YticdcndpbnbkhaaSz
import Derived.Test.YticdcndpbnbkhaaTo
import Derived.Test.YticdcndpbnbkhaaEv
namespace Go.Proofs.Yticdcndpbnbkhaa
open Go.RowKit Go.WideShapes Go.ChangeShapes Go.ChangeAt Lay Mk
set_option maxRecDepth 20000 in set_option maxHeartbeats 1000000 in
theorem law_EventOk (x : Event) (w : World) (cs : List Value) (S : Blks) (hx : rd false w cs x S) : Calls Try.prog 10 #[.agg cs.toArray] w fun e w' => e = .returned (.bool true) ∧ Below w.heap.size w w' := by
  obtain ⟨rfl, f0, f1, f2, f3, f4, f5, f6, f7, f8, f9⟩ := Event.open hx
  clear hx
  have HM : Hid (∀ W, rd false W (Event.cs x) x All) := Lib.hid (fun W => Event.mk' f0 f1 f2 f3 f4 f5 f6 f7 f8 f9)
  simp only [Event.cs]
  go_enter Try.func10, Try.ntmps10
  go_wp2_with (fail)
  refine (sz_Event x _ _ All _ (HM.out _) (by omega) (by omega)).mono ?_
  rintro e1 w1 ⟨⟨n1, rfl, hn⟩, hb1⟩
  have hB1 : Below w.heap.size w w1 := ((Below.refl _ _).alloc (by simp) _).trans (hb1.mono (by simp))
  have hz1 : w.heap.size + 1 ≤ w1.heap.size := by have := hb1.size; simp at this; omega
  have hc1 := fun o => hb1.cell (p := ⟨w.heap.size, o, none⟩) (by simp)
  rcases hn with ⟨rfl, hn⟩ | ⟨rfl, hn⟩
  · go_wp2_with (fail)
    go_ret; exact ⟨rfl, hB1⟩
  go_wp2_with (fail)
  refine (to_Event x _ _ All (HM.out _) (by omega)).mono ?_
  rintro e2 w2 ⟨c2, rfl, hr2, hb2⟩
  obtain ⟨rfl, _⟩ := Event.open hr2
  have hB2 : Below w.heap.size w w2 := hB1.trans (hb2.mono (by omega))
  have hz2 := hb2.size
  have hc2 := fun o => hb2.cell (p := ⟨w.heap.size, o, none⟩) (by simp; omega)
  clear hr2
  go_wp2_with (fail)
  refine (spec_EventOk x _ f7 f8 f9).mono ?_
  rintro e3 w3 ⟨rfl, hb3⟩
  have hB3 : Below w.heap.size w w3 := hB2.trans (hb3.mono (by omega))
  have hz3 := hb3.size
  have hc3 := fun o => hb3.cell (p := ⟨w.heap.size, o, none⟩) (by simp; omega)
  go_wp2_with (fail)
  refine (to_Event x _ _ All (HM.out _) (by omega)).mono ?_
  rintro e4 w4 ⟨c4, rfl, hr4, hb4⟩
  obtain ⟨rfl, _⟩ := Event.open hr4
  have hB4 : Below w.heap.size w w4 := hB3.trans (hb4.mono (by omega))
  have hz4 := hb4.size
  have hc4 := fun o => hb4.cell (p := ⟨w.heap.size, o, none⟩) (by simp; omega)
  clear hr4
  go_wp2_with (fail)
  refine (impl_EventOk x _ f7 f8 f9).mono ?_
  rintro e5 w5 ⟨rfl, hb5⟩
  have hB5 : Below w.heap.size w w5 := hB4.trans (hb5.mono (by omega))
  have hz5 := hb5.size
  have hc5 := fun o => hb5.cell (p := ⟨w.heap.size, o, none⟩) (by simp; omega)
  go_wp2
  go_ret; exact ⟨rfl, hB5⟩
set_option maxRecDepth 100000 in
theorem lifted_EventOk (os : Os) (started : os.Started) (H : Type) (enc : TypeId × Value → H) :
    ReturnsInHanded {} Try.checked os 10 .any (Rows.fnExactEventOkSpec.pre6 enc Try.prog Try.f10 Rows.fnExactEventOkRow.domain false) (Rows.fnExactEventOkSpec.post enc Try.prog Try.f10 false true false false) := by
  refine returnsInHanded_of_change (C := Try.checked) own_ started (by kernel_rfl) Try.func10
    (ChangeSpec.witness6 (enc := enc) (C := Try.checked) false ⟨#[], #[.agg #[.int .i64 0, .int .i64 0, .int .i64 0, .int .i64 0, .int .i64 0, .int .i64 0, .int .i64 0, .string ⟨#[]⟩, .string ⟨#[]⟩, .string ⟨#[]⟩]], []⟩ 8 (by kernel_rfl) (by kernel_rfl) (by kernel_rfl) (by kernel_rfl)) ?_
  intro W base args ds gs before hval0 hW hcnd _
  have hval : ∀ (j : Nat) t v, Try.f10.params[j]? = some t → args[j]? = some v → Value.okWide Try.prog W .any base t v := hval0
  have hW' := hW
  obtain ⟨p, q, hA0, hV, rfl, hfz, hnd⟩ := hW
  have hA : DataW.TrodAll enc Try.prog W 0 (fun _ => true) true Try.f10.params.toList args.toList ds p := hA0
  rw [Try.params10] at hA hval
  have hA2 := hA
  obtain ⟨v0, vs0, d0, ds0, p0, q0, hargs, rfl, rfl, h0, r0⟩ := trodAll_cons hA
  obtain ⟨rfl, rfl, rfl⟩ := trodAll_nil r0
  obtain rfl : args = #[v0] := by cases args; simp_all
  obtain ⟨rfl, rfl⟩ := trodVars_none hV
  obtain ⟨c0, rfl⟩ := okWide_agg Try.underlying64 (hval 0 64 v0 rfl rfl)
  obtain ⟨fu0, hf0⟩ := h0
  obtain ⟨x0, hx0⟩ := rdb_Event H enc W 0 _ _ fu0 _ _ hf0
  refine (law_EventOk x0 W c0.toList All hx0).mono fun e W' ⟨he, hb⟩ => ?_
  subst he
  refine ⟨_, rfl, post_below (pa := p0 ++ []) (pv := []) hW' (fun _ _ _ => trodAll_mk1 (shut_bool Try.underlying4 true)) (fun sp hsp => ?_) (fun _ _ => rfl) (by simp) hb (ok_one (by kernel_rfl) rfl (okWide_bool_mk Try.underlying4 true))⟩
  rw [show Try.f10.params.toList = _ from congrArg Array.toList Try.params10]
  exact trodAll_stays laidOut_ hb _ _ _ _ (by intro t ht; simp at ht; subst ht; exact ⟨by kernel_rfl, by decide +kernel⟩) hA2 (fun x hx => hW'.lt x (by simpa using hx)) (fun x hx => hsp x (by simpa using hx))
theorem holds_EventOk : Rows.FnExactEventOkSaid :=
  OpenClaim.holds_of_wide 10 Try.f10 rfl rfl rfl rfl rfl rfl rfl ⟨rfl, rfl, rfl, rfl, rfl⟩ rfl rfl rfl rfl rfl (by kernel_rfl) Try.func10 (by kernel_rfl)
    (of_decide_eq_true (by kernel_rfl)) (by unfold Func.isWrapper; first | (rw [if_pos (by decide +kernel)]; kernel_rfl) | (rw [if_neg (by decide +kernel)]; exact ⟨rfl, rfl⟩))
    (fun os started H enc _ => lifted_EventOk os started H enc)
end Go.Proofs.Yticdcndpbnbkhaa
