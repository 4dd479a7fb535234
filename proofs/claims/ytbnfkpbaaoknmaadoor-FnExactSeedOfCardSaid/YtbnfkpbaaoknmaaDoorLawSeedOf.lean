/- The program's SeedOf answers as the reference's, for every argument. No condition. -/
import Derived.Test.YtbnfkpbaaoknmaaDoorLw
import Derived.Test.YtbnfkpbaaoknmaaDoorBt
import Derived.Test.YtbnfkpbaaoknmaaDoorSz
import Derived.Test.YtbnfkpbaaoknmaaDoorTo
import Derived.Test.YtbnfkpbaaoknmaaDoorDm
import Derived.Test.YtbnfkpbaaoknmaaDoorSe
import Derived.Test.YtbnfkpbaaoknmaaDoorTie
import Derived.Test.YtbnfkpbaaoknmaaDoorCards
set_option linter.unusedVariables false
set_option linter.unusedSimpArgs false
namespace Go.Proofs.YtbnfkpbaaoknmaaDoor
open Go.RowKit Go.WideShapes Go.ChangeShapes Go.ChangeAt Lay Mk
set_option maxRecDepth 20000 in set_option maxHeartbeats 8000000 in
theorem law_SeedOf (w : World) (p0 : Int) (hp0 : I64 p0) : Calls Tryd.prog 3 #[.int .i64 p0] w fun e w' => e = .returned (.bool true) ∧ Below w.heap.size w w' := by
  go_enter Tryd.func3, Tryd.ntmps3
  go_wp2_with (fail)
  refine (spec_SeedOf _ p0 hp0).mono ?_
  rintro e1 w1 ⟨rfl, hb1⟩
  have hl1 := hb1
  have hB1 : Below w.heap.size w w1 := hl1
  have hz1 : w.heap.size + 0 ≤ w1.heap.size := by have := hb1.size; (try simp at this); omega
  go_wp2_with (fail)
  refine (impl_SeedOf _ p0 hp0).mono ?_
  rintro e2 w2 ⟨rfl, hb2⟩
  have hl2 := hb2
  have hB2 : Below w.heap.size w w2 := Below.step hB1 hl2
  have hz2 : w1.heap.size + 0 ≤ w2.heap.size := by have := hb2.size; (try simp at this); omega
  go_wp2_with (fail)
  go_ret; exact ⟨rfl, hB2⟩
set_option maxRecDepth 100000 in
theorem lifted_SeedOf (os : Os) (started : os.Started) (H : Type) (enc : TypeId × Value → H) :
    ReturnsInHanded {} Tryd.checked os 3 .any (fun w args => (Rows.fnExactSeedOfSpec.pre enc Tryd.prog Tryd.f3 [] false w args ∧ laidMetH Tryd.prog laidSeed w) ∧ sizedMet enc Tryd.prog Tryd.f3 (OpenSpec.ofChange Rows.fnExactSeedOfSpec) false w args)
      (Rows.fnExactSeedOfSpec.post enc Tryd.prog Tryd.f3 false true false false) := by
  refine returnsInHanded_of_change_and (C := Tryd.checked) (X := fun w _ => laidMetH Tryd.prog laidSeed w) (fun _ _ _ hh h => h.of_heap hh) own_ started (by kernel_rfl) Tryd.func3
    (ChangeSpec.witness_shaped (enc := enc) (C := Tryd.checked) (os := os) (X := fun w _ => laidMetH Tryd.prog laidSeed w) false (World.doorLaid Tryd.prog 34 os) #[.int .i64 0] 8 rfl (World.shaped_of_RefB (by kernel_rfl) (by kernel_rfl)) (by kernel_rfl) (by kernel_rfl) (by kernel_rfl) (door_metS os _)) ?_
  intro W base args ds gs before hval0 hW hcnd _ hLaid _
  have hval : ∀ (j : Nat) t v, Tryd.f3.params[j]? = some t → args[j]? = some v → Value.okWide Tryd.prog W .any base t v := hval0
  have hW' := hW
  obtain ⟨p, q, hA0, hV, rfl, hfz, hnd⟩ := hW
  have hA : DataW.TrodAll enc Tryd.prog W 0 (fun _ => true) true Tryd.f3.params.toList args.toList ds p := hA0
  rw [Tryd.params3] at hA hval
  have hA2 := hA
  obtain ⟨v0, vs0, d0, ds0, p0, q0, hargs0, rfl, rfl, h0, r0⟩ := trodAll_cons hA
  obtain ⟨rfl, rfl, rfl⟩ := trodAll_nil r0
  obtain rfl : args = #[v0] := by cases args; simp_all
  obtain ⟨rfl, rfl⟩ := trodVars_none hV
  have ng0 := nagg_int Tryd.underlying3 (hval 0 3 v0 rfl rfl)
  obtain ⟨fu0, hf0⟩ := h0
  obtain ⟨x0, hx0⟩ := rdb_int (Tryd.underlying3) H enc W 0 _ _ fu0 _ _ hf0
  obtain ⟨hc0, hi0⟩ := open_int hx0
  obtain rfl := cells_one hc0 ng0
  refine (law_SeedOf W x0 hi0).mono fun e W' ⟨he, hb⟩ => ?_
  subst he
  refine ⟨_, rfl, post_below (pa := p0 ++ []) (pv := []) hW' (fun _ _ _ => trodAll_mk1 (shut_bool Tryd.underlying4 true)) (fun sp hsp => ?_) (fun _ _ => rfl) (by simp) hb (ok_one (by kernel_rfl) rfl (okWide_bool_mk Tryd.underlying4 true))⟩
  rw [show Tryd.f3.params.toList = _ from congrArg Array.toList Tryd.params3]
  exact trodAll_stays laidOut_ hb _ _ _ _ (by intro t ht; simp at ht; subst ht; exact ⟨by kernel_rfl, by decide +kernel⟩) hA2 (fun x hx => hW'.lt x (by simpa using hx)) (fun x hx => hsp x (by simpa using hx))
theorem row_SeedOf : Rows.FnExactSeedOfSaid :=
  OpenClaim.holds_of_wide 3 Tryd.f3 rfl rfl rfl rfl rfl rfl rfl ⟨rfl, rfl, rfl, rfl, rfl⟩ rfl rfl rfl rfl rfl (by kernel_rfl) Tryd.func3 (by kernel_rfl)
    (of_decide_eq_true (by kernel_rfl)) (by unfold Func.isWrapper; first | (rw [if_pos (by decide +kernel)]; kernel_rfl) | (rw [if_neg (by decide +kernel)]; exact ⟨rfl, rfl⟩))
    (fun os started H enc _ => lifted_SeedOf os started H enc)
theorem holds_SeedOf : Rows.FnExactSeedOfCardSaid :=
  Claim7.holds_tied_plain_at .later [] Rows.fnExactSeedOfCard.laidKinds true Rows.fnExactSeedOfCard.stood.harness false
    row_SeedOf (fun _ h => by cases h) (by kernel_rfl) (fun _ h => by cases h) fnExactSeedOf_row_tie rfl ⟨rfl, rfl⟩ (by kernel_rfl) rfl
    (fun f fn hf hfn => by
      obtain rfl : f = 3 := Option.some.inj ((show Tryd.prog.funcNamed "loop.example/g00284/laws.FnExactSeedOf" = some 3 by kernel_rfl).symm.trans hf) |>.symm
      obtain rfl : fn = Tryd.f3 := (Option.some.inj (Tryd.func3.symm.trans hfn)).symm
      exact ⟨by kernel_rfl, fun j t ht => by
        rw [Tryd.params3] at ht
        have hm : t ∈ [3] := by simpa using Array.mem_of_getElem? ht
        have hall : ([3].all fun u => !Tryd.prog.wantsStandIn u) = true := by kernel_rfl
        exact (show Tryd.prog.wantsStandIn t = false by simpa using List.all_eq_true.1 hall t hm)⟩)
    (by kernel_rfl)
end Go.Proofs.YtbnfkpbaaoknmaaDoor
