/- A part of the proof: what the laws need of it. -/
import Derived.Test.YtgllafgpmenjjaaGreatDoorTie
import Derived.Test.YtgllafgpmenjjaaGreatDoorCards
import Derived.Test.YtgllafgpmenjjaaGreatDoorHReXb
import Derived.Test.YtgllafgpmenjjaaGreatDoorHReL4xAp
import Derived.Test.YtgllafgpmenjjaaGreatDoorHReL13xDc
import Derived.Test.YtgllafgpmenjjaaGreatDoorHReL12xDh
import Derived.Test.YtgllafgpmenjjaaGreatDoorHReJFnRemembers
set_option linter.unusedVariables false
set_option linter.unusedSimpArgs false
set_option linter.unusedVariables false
set_option linter.unusedSimpArgs false
namespace Go.Proofs.YtgllafgpmenjjaaGreatDoor
open Go.RowKit Go.WideShapes Go.ChangeShapes Go.ChangeAt Lay Mk
theorem rdb_u8 {P : Program} {t : TypeId} (ht : P.underlying t = some (.int .u8)) : Rdb UInt8 P t := by
  intro H enc w base spare held fuel cs x h
  obtain ⟨n, rfl, _, hw⟩ := DataW.trod_int ht h
  refine ⟨UInt8.ofNat n.toNat, ?_⟩
  have hw2 : 0 ≤ n ∧ n < 256 := by
    simp [Lit.wf, IntKind.min, IntKind.max, IntKind.signed, IntKind.bits] at hw
    omega
  have hn : ((UInt8.ofNat n.toNat).toNat : Int) = n := by simp; omega
  show [Value.int .u8 n] = [Value.int .u8 ((UInt8.ofNat n.toNat).toNat : Int)]
  rw [hn]
theorem rdb_U8S : Rdb (List UInt8) Tryz.prog 75 := rdb_slice Tryz.underlying75 (by kernel_rfl) (rdb_u8 Tryz.underlying5)
set_option maxRecDepth 100000 in
theorem lifted_FnRemembers (os : Os) (started : os.Started) (H : Type) (enc : TypeId × Value → H) :
    ReturnsInHanded {} Tryz.checked os 4 .any (fun w args => (Rows.fnRemembersSpec.pre enc Tryz.prog Tryz.f4 [] false w args ∧ laidMetH Tryz.prog laidSha w) ∧ sizedMet enc Tryz.prog Tryz.f4 (OpenSpec.ofChange Rows.fnRemembersSpec) false w args)
      (Rows.fnRemembersSpec.post enc Tryz.prog Tryz.f4 false true false false) := by
  refine returnsInHanded_of_change_and (C := Tryz.checked) (X := fun w _ => laidMetH Tryz.prog laidSha w) (fun _ _ _ hh h => h.of_heap hh) own_ started (by kernel_rfl) Tryz.func4
    (ChangeSpec.witness_shaped (enc := enc) (C := Tryz.checked) (os := os) (X := fun w _ => laidMetH Tryz.prog laidSha w) false (World.doorLaid Tryz.prog 34 os) #[.slice none 0 0] 8 rfl (World.shaped_of_RefB (by kernel_rfl) (by kernel_rfl)) (by kernel_rfl) (by kernel_rfl) (by kernel_rfl) (door_met os _)) ?_
  intro W base args ds gs before hval0 hW hcnd _ hLaid _
  have hval : ∀ (j : Nat) t v, Tryz.f4.params[j]? = some t → args[j]? = some v → Value.okWide Tryz.prog W .any base t v := hval0
  have hW' := hW
  obtain ⟨p, q, hA0, hV, rfl, hfz, hnd⟩ := hW
  have hA : DataW.TrodAll enc Tryz.prog W 0 (fun _ => true) true Tryz.f4.params.toList args.toList ds p := hA0
  rw [Tryz.params4] at hA hval
  have hA2 := hA
  obtain ⟨v0, vs0, d0, ds0, p0, q0, hargs0, rfl, rfl, h0, r0⟩ := trodAll_cons hA
  obtain ⟨rfl, rfl, rfl⟩ := trodAll_nil r0
  obtain rfl : args = #[v0] := by cases args; simp_all
  have hV2 := hV
  obtain ⟨_, _, _, _, g0, _, _, _, _, _, g1, _, hgs, _⟩ := trodVars_two hV2
  subst hgs
  have ng0 := nagg_slice Tryz.underlying75 (hval 0 75 v0 rfl rfl)
  obtain ⟨fu0, hf0⟩ := h0
  obtain ⟨x0, hx0⟩ := rdb_U8S H enc W 0 _ _ fu0 _ _ hf0
  obtain ⟨A0, k0, hc0, hl0, hm0, hr0⟩ := open_list hx0
  obtain rfl := cells_one hc0 ng0
  refine (law_FnRemembers W x0 A0 k0 All hr0 hl0 hm0 (tabs_of_laid hLaid)).mono fun e W' ⟨he, hb⟩ => ?_
  subst he
  refine ⟨_, rfl, post_below (pa := p0 ++ []) (pv := q) hW' (fun _ _ _ => trodAll_mk1 (shut_bool Tryz.underlying4 true)) (fun sp hsp => ?_) (fun sp hsp => trodVars_stays laidOut_ hb (by kernel_rfl) hV (fun x hx => hsp x (by simp [hx]))) (by simp) hb (ok_one (by kernel_rfl) rfl (okWide_bool_mk Tryz.underlying4 true))⟩
  rw [show Tryz.f4.params.toList = _ from congrArg Array.toList Tryz.params4]
  exact trodAll_stays laidOut_ hb _ _ _ _ (by intro t ht; simp at ht; subst ht; exact ⟨by kernel_rfl, by decide +kernel⟩) hA2 (fun x hx => hW'.lt x (by simpa using Or.inl hx)) (fun x hx => hsp x (by simpa using Or.inl hx))
theorem row_FnRemembers : Rows.FnRemembersSaid :=
  OpenClaim.holds_of_wide 4 Tryz.f4 rfl rfl rfl rfl rfl rfl rfl ⟨rfl, rfl, rfl, rfl, rfl⟩ rfl rfl rfl rfl rfl (by kernel_rfl) Tryz.func4 joined_FnRemembers
    (of_decide_eq_true (by kernel_rfl)) (by unfold Func.isWrapper; first | (rw [if_pos (by decide +kernel)]; kernel_rfl) | (rw [if_neg (by decide +kernel)]; exact ⟨rfl, rfl⟩))
    (fun os started H enc _ => lifted_FnRemembers os started H enc)
theorem holds_FnRemembers : Rows.FnRemembersCardSaid :=
  Claim7.holds_tied_plain_at .later [] Rows.fnRemembersCard.laidKinds true Rows.fnRemembersCard.stood.harness false
    row_FnRemembers (fun _ h => by cases h) (by kernel_rfl) (fun _ h => by cases h) fnRemembers_row_tie rfl ⟨rfl, rfl⟩ (by kernel_rfl) rfl
    (fun f fn hf hfn => by
      obtain rfl : f = 4 := Option.some.inj ((show Tryz.prog.funcNamed "loop.example/g00284/laws.FnRemembers" = some 4 by kernel_rfl).symm.trans hf) |>.symm
      obtain rfl : fn = Tryz.f4 := (Option.some.inj (Tryz.func4.symm.trans hfn)).symm
      exact ⟨by kernel_rfl, fun j t ht => by
        rw [Tryz.params4] at ht
        have hm : t ∈ [75] := by simpa using Array.mem_of_getElem? ht
        have hall : ([75].all fun u => !Tryz.prog.wantsStandIn u) = true := by kernel_rfl
        exact (show Tryz.prog.wantsStandIn t = false by simpa using List.all_eq_true.1 hall t hm)⟩)
    (by kernel_rfl)
end Go.Proofs.YtgllafgpmenjjaaGreatDoor
