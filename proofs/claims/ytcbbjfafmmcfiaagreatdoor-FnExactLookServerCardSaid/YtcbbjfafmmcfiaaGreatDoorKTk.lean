/- Is a trust valid; both sides. -/
import Derived.Test.YtcbbjfafmmcfiaaGreatDoorKWg
import Derived.Test.YtcbbjfafmmcfiaaGreatDoorB2
set_option linter.unusedVariables false
set_option linter.unusedSimpArgs false
namespace Go.Proofs.YtcbbjfafmmcfiaaGreatDoor
open Go.RowKit Lay Mk
def trustOk (t : Trust) : Bool := inB (t.roots.length : Int) 1 3 && (wideG t.roots 16 && (inB t.k 0 2 && inB t.need 0 2))
theorem trust_sz {t : Trust} (h : t.sz ≤ 1048576) : t.roots.length ≤ 1048576 := by
  simp only [Trust.sz] at h
  have := szT_le t.roots 0
  omega
theorem impl_isSplit (n : Int) (w : World) : Calls Tryz.prog 71 #[.int .i64 n] w fun e w' => e = .returned (.bool (inB n 0 2)) ∧ w = w' := by
  go_enter Tryz.func71, Tryz.ntmps71
  go_wp2_with (go_at_call 70; refine (impl_in _ _ _ _).mono ?_; rintro e w' ⟨rfl, rfl⟩)
  go_ret
  exact ⟨rfl, rfl⟩
set_option maxRecDepth 20000 in set_option maxHeartbeats 4000000 in
theorem impl_TrustOk (w : World) (t : Trust) (cs : List Value) (S : Blks) (hx : rd false w cs t S) (hz : t.sz ≤ 1048576) : Calls Tryz.prog 256 #[.agg cs.toArray] w fun e w' => e = .returned (.bool (trustOk t)) ∧ Below w.heap.size w w' := by
  have hl := trust_sz hz
  obtain ⟨A0, k0, S0, rfl, -, -, -, -, r0, -⟩ := Trust.open hx
  clear hx hz
  have HF : Hid (trustOk t = (inB (t.roots.length : Int) 1 3 && (wideG t.roots 16 && (inB t.k 0 2 && inB t.need 0 2)))) := Lib.hid rfl
  obtain ⟨R, hR⟩ : ∃ R, trustOk t = R := ⟨_, rfl⟩
  rw [hR] at HF ⊢
  clear hR
  obtain ⟨rs, k, nd⟩ := t
  simp only at hl r0 HF
  simp only [Trust.cs]
  have HW := Lib.hid (fun W (h : Below w.heap.size w W) => impl_haveWidth W rs A0 k0 S0 (Row.later r0 h) (by unfold maxLen; omega) (rs.length : Int) (by unfold I64; omega) 16)
  have H1 := Lib.hid (fun W => impl_in (rs.length : Int) 1 3 W)
  obtain ⟨z1, hz1⟩ : ∃ z, inB (rs.length : Int) 1 3 = z := ⟨_, rfl⟩
  rw [hz1] at H1 HF
  obtain ⟨z2, hz2⟩ : ∃ z, wideG rs 16 = z := ⟨_, rfl⟩
  rw [hz2] at HW HF
  clear hz1 hz2 r0
  have hW2 : Hid ((z2 && decide ((rs.length : Int) = (rs.length : Int))) = z2) := Lib.hid (by simp)
  rw [hW2.out] at HW
  have HK := Lib.hid (fun W => impl_isSplit k W)
  have HN := Lib.hid (fun W => impl_in nd 0 2 W)
  obtain ⟨z3, hz3⟩ : ∃ z, inB k 0 2 = z := ⟨_, rfl⟩
  rw [hz3] at HK HF
  obtain ⟨z4, hz4⟩ : ∃ z, inB nd 0 2 = z := ⟨_, rfl⟩
  rw [hz4] at HN HF
  clear hz3 hz4
  go_enter Tryz.func256, Tryz.ntmps256
  go_wp2_with (fail)
  have HB0 := Lib.hid ((Below.refl w.heap.size w).alloc (Nat.le_refl _) (.cells #[.slice A0 rs.length k0, .int .i64 k, .int .i64 nd] 62))
  refine (H1.out _).mono ?_
  rintro e1 w1 ⟨rfl, rfl⟩
  cases z1
  · go_wp2
    go_ret
    exact ⟨ret_bool (by rw [HF.out]; rfl), HB0.out⟩
  go_wp2_with (fail)
  refine (HW.out _ HB0.out).mono ?_
  rintro e2 w2 ⟨rfl, rfl⟩
  cases z2
  · go_wp2
    go_ret
    exact ⟨ret_bool (by rw [HF.out]; rfl), HB0.out⟩
  go_wp2_with (fail)
  refine (HK.out _).mono ?_
  rintro e3 w3 ⟨rfl, rfl⟩
  cases z3
  · go_wp2
    go_ret
    exact ⟨ret_bool (by rw [HF.out]; rfl), HB0.out⟩
  go_wp2_with (fail)
  refine (HN.out _).mono ?_
  rintro e4 w4 ⟨rfl, rfl⟩
  go_wp2
  go_ret
  exact ⟨ret_bool (by rw [HF.out]; rfl), HB0.out⟩
set_option maxRecDepth 20000 in set_option maxHeartbeats 4000000 in
theorem spec_TrustOk (w : World) (t : Trust) (cs : List Value) (S : Blks) (hx : rd false w cs t S) (hz : t.sz ≤ 1048576) : Calls Tryz.prog 243 #[.agg cs.toArray] w fun e w' => e = .returned (.bool (trustOk t)) ∧ Below w.heap.size w w' := by
  have hl := trust_sz hz
  obtain ⟨A0, k0, S0, rfl, -, -, -, -, r0, -⟩ := Trust.open hx
  clear hx hz
  have HF : Hid (trustOk t = (inB (t.roots.length : Int) 1 3 && (wideG t.roots 16 && (inB t.k 0 2 && inB t.need 0 2)))) := Lib.hid rfl
  obtain ⟨R, hR⟩ : ∃ R, trustOk t = R := ⟨_, rfl⟩
  rw [hR] at HF ⊢
  clear hR
  obtain ⟨rs, k, nd⟩ := t
  simp only at hl r0 HF
  simp only [Trust.cs]
  have HW := Lib.hid (fun W (h : Below w.heap.size w W) => spec_l11Wide W rs A0 k0 S0 (Row.later r0 h) (by unfold maxLen; omega) 16)
  have H1 := Lib.hid (fun W => spec_in (rs.length : Int) 1 3 W)
  obtain ⟨z1, hz1⟩ : ∃ z, inB (rs.length : Int) 1 3 = z := ⟨_, rfl⟩
  rw [hz1] at H1 HF
  obtain ⟨z2, hz2⟩ : ∃ z, wideG rs 16 = z := ⟨_, rfl⟩
  rw [hz2] at HW HF
  clear hz1 hz2 r0
  have hW2 : Hid ((z2 && inB 16 1 32) = z2) := Lib.hid (by simp [inB])
  rw [hW2.out] at HW
  have HK := Lib.hid (fun W => spec_in k 0 2 W)
  have HN := Lib.hid (fun W => spec_in nd 0 2 W)
  obtain ⟨z3, hz3⟩ : ∃ z, inB k 0 2 = z := ⟨_, rfl⟩
  rw [hz3] at HK HF
  obtain ⟨z4, hz4⟩ : ∃ z, inB nd 0 2 = z := ⟨_, rfl⟩
  rw [hz4] at HN HF
  clear hz3 hz4
  go_enter Tryz.func243, Tryz.ntmps243
  go_wp2_with (fail)
  have HB0 := Lib.hid ((Below.refl w.heap.size w).alloc (Nat.le_refl _) (.cells #[.slice A0 rs.length k0, .int .i64 k, .int .i64 nd] 62))
  refine (H1.out _).mono ?_
  rintro e1 w1 ⟨rfl, rfl⟩
  cases z1
  · go_wp2
    go_ret
    exact ⟨ret_bool (by rw [HF.out]; rfl), HB0.out⟩
  go_wp2_with (fail)
  refine (HW.out _ HB0.out).mono ?_
  rintro e2 w2 ⟨rfl, rfl⟩
  cases z2
  · go_wp2
    go_ret
    exact ⟨ret_bool (by rw [HF.out]; rfl), HB0.out⟩
  go_wp2_with (fail)
  refine (HK.out _).mono ?_
  rintro e3 w3 ⟨rfl, rfl⟩
  cases z3
  · go_wp2
    go_ret
    exact ⟨ret_bool (by rw [HF.out]; rfl), HB0.out⟩
  go_wp2_with (fail)
  refine (HN.out _).mono ?_
  rintro e4 w4 ⟨rfl, rfl⟩
  go_wp2
  go_ret
  exact ⟨ret_bool (by rw [HF.out]; rfl), HB0.out⟩
end Go.Proofs.YtcbbjfafmmcfiaaGreatDoor
