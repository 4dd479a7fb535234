/- Seals: is a seal right; is a pair evidence. -/
import Derived.Test.YtcbbjfafmmcfiaaGreatDoorKSkI
import Derived.Test.YtcbbjfafmmcfiaaGreatDoorKSkS
import Derived.Test.YtcbbjfafmmcfiaaGreatDoorB2
set_option linter.unusedVariables false
set_option linter.unusedSimpArgs false
namespace Go.Proofs.YtcbbjfafmmcfiaaGreatDoor
open Go.RowKit Lay Mk
def sealAt (e : Int) : Int := if inB e 1 4 = true then e - 1 else -1
def sealOk (root : ByteArray) (s : Seal) : Bool := headOk s.head && decide (s.sig.at_ = sealAt s.head.epoch) && sigOk root (headHash s.head) s.sig
def sameHd (a b : Head) : Bool := decide (a.house = b.house) && decide (a.epoch = b.epoch) && decide (a.root = b.root) && decide (a.prev = b.prev)
def evidenceOk (root : ByteArray) (p : Pair) : Bool := sealOk root p.a && sealOk root p.b && decide (p.a.head.house = p.b.head.house) && decide (p.a.head.epoch = p.b.head.epoch) && !sameHd p.a.head p.b.head
theorem inB_14 {e : Int} (h : inB e 1 4 = true) : 1 ≤ e ∧ e ≤ 4 := by simpa [inB] using h
set_option maxRecDepth 20000 in set_option maxHeartbeats 4000000 in
theorem impl_SealAt (e : Int) (w : World) : Calls Tryz.prog 199 #[.int .i64 e] w fun r w' => r = .returned (.int .i64 (sealAt e)) ∧ w = w' := by
  cases hi : inB e 1 4
  · have HC : Hid (sealAt e = -1) := Lib.hid (by unfold sealAt; rw [hi]; rfl)
    go_enter Tryz.func199, Tryz.ntmps199
    go_wp2_with (go_at_call 153; refine (epoch_in _ _).mono ?_; rintro e0 w2 ⟨rfl, rfl⟩)
    go_ret
    exact ⟨by rw [HC.out]; rfl, rfl⟩
  · have HC : Hid (sealAt e = e - 1) := Lib.hid (by unfold sealAt; rw [hi]; rfl)
    obtain ⟨h1, h2⟩ := inB_14 hi
    go_enter Tryz.func199, Tryz.ntmps199
    go_wp2_with (go_at_call 153; refine (epoch_in _ _).mono ?_; rintro e0 w2 ⟨rfl, rfl⟩)
    go_ret
    exact ⟨by rw [HC.out]; rfl, rfl⟩
set_option maxRecDepth 20000 in set_option maxHeartbeats 4000000 in
theorem spec_SealAt (e : Int) (w : World) : Calls Tryz.prog 247 #[.int .i64 e] w fun r w' => r = .returned (.int .i64 (sealAt e)) ∧ w = w' := by
  cases hi : inB e 1 4
  · have HC : Hid (sealAt e = -1) := Lib.hid (by unfold sealAt; rw [hi]; rfl)
    go_enter Tryz.func247, Tryz.ntmps247
    go_wp2_with (go_at_call 62; refine (spec_in _ _ _ _).mono ?_; rintro e0 w2 ⟨rfl, rfl⟩)
    go_ret
    exact ⟨by rw [HC.out]; rfl, rfl⟩
  · have HC : Hid (sealAt e = e - 1) := Lib.hid (by unfold sealAt; rw [hi]; rfl)
    obtain ⟨h1, h2⟩ := inB_14 hi
    go_enter Tryz.func247, Tryz.ntmps247
    go_wp2_with (go_at_call 62; refine (spec_in _ _ _ _).mono ?_; rintro e0 w2 ⟨rfl, rfl⟩)
    go_ret
    exact ⟨by rw [HC.out]; rfl, rfl⟩
set_option maxRecDepth 20000 in set_option maxHeartbeats 8000000 in
theorem impl_SealOk (w : World) (root : ByteArray) (x : Seal) (cs : List Value) (S : Blks) (hx : rd false w cs x S) (hT : Tabs w) : Calls Tryz.prog 109 #[.string root, .agg cs.toArray] w fun e w' => e = .returned (.bool (sealOk root x)) ∧ Below w.heap.size w w' := by
  obtain ⟨A0, k0, S0, A1, k1, S1, A2, k2, S2, rfl, f0, f1, f2, f3, f4, a0, b0, r0, s0, a1, b1, r1, s1, a2, b2, r2, s2, pw⟩ := Seal.open hx
  clear hx
  obtain ⟨⟨hh, he, hr, hp⟩, ⟨a, so, ss, sd⟩⟩ := x
  simp only at f0 f1 f2 f3 f4 a0 b0 r0 a1 b1 r1 a2 b2 r2
  have HSig := Lib.hid (fun W (h : Below w.heap.size w W) => impl_SigOk W root (headHash ⟨hh, he, hr, hp⟩) ⟨a, so, ss, sd⟩ _ S (Lay.later (Sig.mk' (x := ⟨a, so, ss, sd⟩) f4 a0 b0 r0 s0 a1 b1 r1 s1 a2 b2 r2 s2 (fun h => by simp at h)) h) (hT.later h))
  have HOK : Hid (sealOk root ⟨⟨hh, he, hr, hp⟩, ⟨a, so, ss, sd⟩⟩ = (headOk ⟨hh, he, hr, hp⟩ && decide (a = sealAt he) && sigOk root (headHash ⟨hh, he, hr, hp⟩) ⟨a, so, ss, sd⟩)) := Lib.hid rfl
  have HT := Lib.hid hT
  clear hT
  clear pw r0 r1 r2
  simp only [Seal.cs]
  simp only [Sig.cs] at HSig
  have HSA := Lib.hid (fun W => impl_SealAt he W)
  have HHO := Lib.hid (fun W => impl_HeadOk ⟨hh, he, hr, hp⟩ W)
  obtain ⟨v, hv⟩ : ∃ v, sealAt he = v := ⟨_, rfl⟩
  rw [hv] at HOK HSA
  clear hv
  cases hok : headOk ⟨hh, he, hr, hp⟩ <;> rw [hok] at HHO
  · have HF : Hid (sealOk root ⟨⟨hh, he, hr, hp⟩, ⟨a, so, ss, sd⟩⟩ = false) := Lib.hid (by rw [HOK.out, hok]; rfl)
    go_enter Tryz.func109, Tryz.ntmps109
    go_wp2
    generalize hW : w.alloc (.cells #[.int .i64 hh, .int .i64 he, .string hr, .string hp, .int .i64 a, .slice A0 so.length k0, .slice A1 ss.length k1, .slice A2 sd.length k2] 105) = W
    have HBW : Hid (Below w.heap.size w W) := by rw [← hW]; exact Lib.hid ((Below.refl _ _).alloc (Nat.le_refl _) _)
    obtain ⟨B, hBe⟩ : ∃ B, w.heap.size = B := ⟨_, rfl⟩
    have hBlt : B < W.heap.size := by rw [← hW, ← hBe]; simp
    have c0 := Grown.cell (show W.cell? ⟨B, 0, none⟩ = some (.int .i64 hh) by rw [← hW, ← hBe]; exact box_cell _ _ _ _ _ rfl)
    have c1 := Grown.cell (show W.cell? ⟨B, 1, none⟩ = some (.int .i64 he) by rw [← hW, ← hBe]; exact box_cell _ _ _ _ _ rfl)
    have c2 := Grown.cell (show W.cell? ⟨B, 2, none⟩ = some (.string hr) by rw [← hW, ← hBe]; exact box_cell _ _ _ _ _ rfl)
    have c3 := Grown.cell (show W.cell? ⟨B, 3, none⟩ = some (.string hp) by rw [← hW, ← hBe]; exact box_cell _ _ _ _ _ rfl)
    have c4 := Grown.cell (show W.cell? ⟨B, 4, none⟩ = some (.int .i64 a) by rw [← hW, ← hBe]; exact box_cell _ _ _ _ _ rfl)
    have c5 := Grown.cell (show W.cell? ⟨B, 5, none⟩ = some (.slice A0 so.length k0) by rw [← hW, ← hBe]; exact box_cell _ _ _ _ _ rfl)
    have c6 := Grown.cell (show W.cell? ⟨B, 6, none⟩ = some (.slice A1 ss.length k1) by rw [← hW, ← hBe]; exact box_cell _ _ _ _ _ rfl)
    have c7 := Grown.cell (show W.cell? ⟨B, 7, none⟩ = some (.slice A2 sd.length k2) by rw [← hW, ← hBe]; exact box_cell _ _ _ _ _ rfl)
    have HBE := Lib.hid hBe
    rw [hBe]
    clear hW hBe
    refine wp_region_grown (by kernel_rfl) (by kernel_rfl) ?_
    repeat (go_big_quiet_step (first | (go_at_call 198; exact grown_call (HHO.out _)) | (go_at_call 199; exact grown_same (HSA.out _)) | (go_at_call 94; exact grown_call (impl_HeadHash ⟨hh, he, hr, hp⟩ _ (HT.out.later (HBW.out.trans ((Grown.ok _).mono HBW.out.size))))) | (go_at_call 200; exact grown_call (HSig.out _ (HBW.out.trans ((Grown.ok _).mono HBW.out.size))))))
    refine wpQuiet_nil ?_
    intro w2 hw2
    have hR := Lib.hid (grown_below hw2)
    clear hw2
    go_wp2
    go_ret
    exact ⟨ret_bool (by rw [HF.out]), (HBW.out).trans (hR.out.mono HBW.out.size)⟩
  · by_cases hav : a = v
    · have HF : Hid (sealOk root ⟨⟨hh, he, hr, hp⟩, ⟨a, so, ss, sd⟩⟩ = sigOk root (headHash ⟨hh, he, hr, hp⟩) ⟨a, so, ss, sd⟩) := Lib.hid (by rw [HOK.out, hok, decide_eq_true hav]; rfl)
      subst hav
      obtain ⟨z, hz⟩ : ∃ z, sigOk root (headHash ⟨hh, he, hr, hp⟩) ⟨a, so, ss, sd⟩ = z := ⟨_, rfl⟩
      rw [hz] at HSig HF
      clear hz
      go_enter Tryz.func109, Tryz.ntmps109
      go_wp2
      generalize hW : w.alloc (.cells #[.int .i64 hh, .int .i64 he, .string hr, .string hp, .int .i64 a, .slice A0 so.length k0, .slice A1 ss.length k1, .slice A2 sd.length k2] 105) = W
      have HBW : Hid (Below w.heap.size w W) := by rw [← hW]; exact Lib.hid ((Below.refl _ _).alloc (Nat.le_refl _) _)
      obtain ⟨B, hBe⟩ : ∃ B, w.heap.size = B := ⟨_, rfl⟩
      have hBlt : B < W.heap.size := by rw [← hW, ← hBe]; simp
      have c0 := Grown.cell (show W.cell? ⟨B, 0, none⟩ = some (.int .i64 hh) by rw [← hW, ← hBe]; exact box_cell _ _ _ _ _ rfl)
      have c1 := Grown.cell (show W.cell? ⟨B, 1, none⟩ = some (.int .i64 he) by rw [← hW, ← hBe]; exact box_cell _ _ _ _ _ rfl)
      have c2 := Grown.cell (show W.cell? ⟨B, 2, none⟩ = some (.string hr) by rw [← hW, ← hBe]; exact box_cell _ _ _ _ _ rfl)
      have c3 := Grown.cell (show W.cell? ⟨B, 3, none⟩ = some (.string hp) by rw [← hW, ← hBe]; exact box_cell _ _ _ _ _ rfl)
      have c4 := Grown.cell (show W.cell? ⟨B, 4, none⟩ = some (.int .i64 a) by rw [← hW, ← hBe]; exact box_cell _ _ _ _ _ rfl)
      have c5 := Grown.cell (show W.cell? ⟨B, 5, none⟩ = some (.slice A0 so.length k0) by rw [← hW, ← hBe]; exact box_cell _ _ _ _ _ rfl)
      have c6 := Grown.cell (show W.cell? ⟨B, 6, none⟩ = some (.slice A1 ss.length k1) by rw [← hW, ← hBe]; exact box_cell _ _ _ _ _ rfl)
      have c7 := Grown.cell (show W.cell? ⟨B, 7, none⟩ = some (.slice A2 sd.length k2) by rw [← hW, ← hBe]; exact box_cell _ _ _ _ _ rfl)
      have HBE := Lib.hid hBe
      rw [hBe]
      clear hW hBe
      refine wp_region_grown (by kernel_rfl) (by kernel_rfl) ?_
      repeat (go_big_quiet_step (first | (go_at_call 198; exact grown_call (HHO.out _)) | (go_at_call 199; exact grown_same (HSA.out _)) | (go_at_call 94; exact grown_call (impl_HeadHash ⟨hh, he, hr, hp⟩ _ (HT.out.later (HBW.out.trans ((Grown.ok _).mono HBW.out.size))))) | (go_at_call 200; exact grown_call (HSig.out _ (HBW.out.trans ((Grown.ok _).mono HBW.out.size))))))
      refine wpQuiet_nil ?_
      intro w2 hw2
      have hR := Lib.hid (grown_below hw2)
      clear hw2
      go_wp2
      go_ret
      exact ⟨ret_bool (by rw [HF.out]), (HBW.out).trans (hR.out.mono HBW.out.size)⟩
    · have HF : Hid (sealOk root ⟨⟨hh, he, hr, hp⟩, ⟨a, so, ss, sd⟩⟩ = false) := Lib.hid (by rw [HOK.out, hok, decide_eq_false hav]; rfl)
      have hq1 : (a == v) = false := beq_eq_false_iff_ne.2 hav
      have hq2 : decide (a = v) = false := decide_eq_false hav
      go_enter Tryz.func109, Tryz.ntmps109
      go_wp2
      generalize hW : w.alloc (.cells #[.int .i64 hh, .int .i64 he, .string hr, .string hp, .int .i64 a, .slice A0 so.length k0, .slice A1 ss.length k1, .slice A2 sd.length k2] 105) = W
      have HBW : Hid (Below w.heap.size w W) := by rw [← hW]; exact Lib.hid ((Below.refl _ _).alloc (Nat.le_refl _) _)
      obtain ⟨B, hBe⟩ : ∃ B, w.heap.size = B := ⟨_, rfl⟩
      have hBlt : B < W.heap.size := by rw [← hW, ← hBe]; simp
      have c0 := Grown.cell (show W.cell? ⟨B, 0, none⟩ = some (.int .i64 hh) by rw [← hW, ← hBe]; exact box_cell _ _ _ _ _ rfl)
      have c1 := Grown.cell (show W.cell? ⟨B, 1, none⟩ = some (.int .i64 he) by rw [← hW, ← hBe]; exact box_cell _ _ _ _ _ rfl)
      have c2 := Grown.cell (show W.cell? ⟨B, 2, none⟩ = some (.string hr) by rw [← hW, ← hBe]; exact box_cell _ _ _ _ _ rfl)
      have c3 := Grown.cell (show W.cell? ⟨B, 3, none⟩ = some (.string hp) by rw [← hW, ← hBe]; exact box_cell _ _ _ _ _ rfl)
      have c4 := Grown.cell (show W.cell? ⟨B, 4, none⟩ = some (.int .i64 a) by rw [← hW, ← hBe]; exact box_cell _ _ _ _ _ rfl)
      have c5 := Grown.cell (show W.cell? ⟨B, 5, none⟩ = some (.slice A0 so.length k0) by rw [← hW, ← hBe]; exact box_cell _ _ _ _ _ rfl)
      have c6 := Grown.cell (show W.cell? ⟨B, 6, none⟩ = some (.slice A1 ss.length k1) by rw [← hW, ← hBe]; exact box_cell _ _ _ _ _ rfl)
      have c7 := Grown.cell (show W.cell? ⟨B, 7, none⟩ = some (.slice A2 sd.length k2) by rw [← hW, ← hBe]; exact box_cell _ _ _ _ _ rfl)
      have HBE := Lib.hid hBe
      rw [hBe]
      clear hW hBe
      refine wp_region_grown (by kernel_rfl) (by kernel_rfl) ?_
      repeat (go_big_quiet_step (first | (go_at_call 198; exact grown_call (HHO.out _)) | (go_at_call 199; exact grown_same (HSA.out _)) | (go_at_call 94; exact grown_call (impl_HeadHash ⟨hh, he, hr, hp⟩ _ (HT.out.later (HBW.out.trans ((Grown.ok _).mono HBW.out.size))))) | (go_at_call 200; exact grown_call (HSig.out _ (HBW.out.trans ((Grown.ok _).mono HBW.out.size))))))
      refine wpQuiet_nil ?_
      intro w2 hw2
      have hR := Lib.hid (grown_below hw2)
      clear hw2
      go_wp2
      go_ret
      exact ⟨ret_bool (by rw [HF.out]), (HBW.out).trans (hR.out.mono HBW.out.size)⟩
set_option maxRecDepth 20000 in set_option maxHeartbeats 8000000 in
theorem spec_SealOk (w : World) (root : ByteArray) (x : Seal) (cs : List Value) (S : Blks) (hx : rd false w cs x S) : Calls Tryz.prog 177 #[.string root, .agg cs.toArray] w fun e w' => e = .returned (.bool (sealOk root x)) ∧ Below w.heap.size w w' := by
  obtain ⟨A0, k0, S0, A1, k1, S1, A2, k2, S2, rfl, f0, f1, f2, f3, f4, a0, b0, r0, s0, a1, b1, r1, s1, a2, b2, r2, s2, pw⟩ := Seal.open hx
  clear hx
  obtain ⟨⟨hh, he, hr, hp⟩, ⟨a, so, ss, sd⟩⟩ := x
  simp only at f0 f1 f2 f3 f4 a0 b0 r0 a1 b1 r1 a2 b2 r2
  have HSig := Lib.hid (fun W (h : Below w.heap.size w W) => spec_SigOk W root (headHash ⟨hh, he, hr, hp⟩) ⟨a, so, ss, sd⟩ _ S (Lay.later (Sig.mk' (x := ⟨a, so, ss, sd⟩) f4 a0 b0 r0 s0 a1 b1 r1 s1 a2 b2 r2 s2 (fun h => by simp at h)) h))
  have HOK : Hid (sealOk root ⟨⟨hh, he, hr, hp⟩, ⟨a, so, ss, sd⟩⟩ = (headOk ⟨hh, he, hr, hp⟩ && decide (a = sealAt he) && sigOk root (headHash ⟨hh, he, hr, hp⟩) ⟨a, so, ss, sd⟩)) := Lib.hid rfl
  clear pw r0 r1 r2
  simp only [Seal.cs]
  simp only [Sig.cs] at HSig
  have HSA := Lib.hid (fun W => spec_SealAt he W)
  have HHO := Lib.hid (fun W => spec_HeadOk ⟨hh, he, hr, hp⟩ W)
  obtain ⟨v, hv⟩ : ∃ v, sealAt he = v := ⟨_, rfl⟩
  rw [hv] at HOK HSA
  clear hv
  cases hok : headOk ⟨hh, he, hr, hp⟩ <;> rw [hok] at HHO
  · have HF : Hid (sealOk root ⟨⟨hh, he, hr, hp⟩, ⟨a, so, ss, sd⟩⟩ = false) := Lib.hid (by rw [HOK.out, hok]; rfl)
    go_enter Tryz.func177, Tryz.ntmps177
    go_wp2
    generalize hW : w.alloc (.cells #[.int .i64 hh, .int .i64 he, .string hr, .string hp, .int .i64 a, .slice A0 so.length k0, .slice A1 ss.length k1, .slice A2 sd.length k2] 105) = W
    have HBW : Hid (Below w.heap.size w W) := by rw [← hW]; exact Lib.hid ((Below.refl _ _).alloc (Nat.le_refl _) _)
    obtain ⟨B, hBe⟩ : ∃ B, w.heap.size = B := ⟨_, rfl⟩
    have hBlt : B < W.heap.size := by rw [← hW, ← hBe]; simp
    have c0 := Grown.cell (show W.cell? ⟨B, 0, none⟩ = some (.int .i64 hh) by rw [← hW, ← hBe]; exact box_cell _ _ _ _ _ rfl)
    have c1 := Grown.cell (show W.cell? ⟨B, 1, none⟩ = some (.int .i64 he) by rw [← hW, ← hBe]; exact box_cell _ _ _ _ _ rfl)
    have c2 := Grown.cell (show W.cell? ⟨B, 2, none⟩ = some (.string hr) by rw [← hW, ← hBe]; exact box_cell _ _ _ _ _ rfl)
    have c3 := Grown.cell (show W.cell? ⟨B, 3, none⟩ = some (.string hp) by rw [← hW, ← hBe]; exact box_cell _ _ _ _ _ rfl)
    have c4 := Grown.cell (show W.cell? ⟨B, 4, none⟩ = some (.int .i64 a) by rw [← hW, ← hBe]; exact box_cell _ _ _ _ _ rfl)
    have c5 := Grown.cell (show W.cell? ⟨B, 5, none⟩ = some (.slice A0 so.length k0) by rw [← hW, ← hBe]; exact box_cell _ _ _ _ _ rfl)
    have c6 := Grown.cell (show W.cell? ⟨B, 6, none⟩ = some (.slice A1 ss.length k1) by rw [← hW, ← hBe]; exact box_cell _ _ _ _ _ rfl)
    have c7 := Grown.cell (show W.cell? ⟨B, 7, none⟩ = some (.slice A2 sd.length k2) by rw [← hW, ← hBe]; exact box_cell _ _ _ _ _ rfl)
    have HBE := Lib.hid hBe
    rw [hBe]
    clear hW hBe
    refine wp_region_grown (by kernel_rfl) (by kernel_rfl) ?_
    repeat (go_big_quiet_step (first | (go_at_call 246; exact grown_call (HHO.out _)) | (go_at_call 247; exact grown_same (HSA.out _)) | (go_at_call 90; exact grown_call (spec_HeadHash ⟨hh, he, hr, hp⟩ _)) | (go_at_call 248; exact grown_call (HSig.out _ (HBW.out.trans ((Grown.ok _).mono HBW.out.size))))))
    refine wpQuiet_nil ?_
    intro w2 hw2
    have hR := Lib.hid (grown_below hw2)
    clear hw2
    go_wp2
    go_ret
    exact ⟨ret_bool (by rw [HF.out]), (HBW.out).trans (hR.out.mono HBW.out.size)⟩
  · by_cases hav : a = v
    · have HF : Hid (sealOk root ⟨⟨hh, he, hr, hp⟩, ⟨a, so, ss, sd⟩⟩ = sigOk root (headHash ⟨hh, he, hr, hp⟩) ⟨a, so, ss, sd⟩) := Lib.hid (by rw [HOK.out, hok, decide_eq_true hav]; rfl)
      subst hav
      obtain ⟨z, hz⟩ : ∃ z, sigOk root (headHash ⟨hh, he, hr, hp⟩) ⟨a, so, ss, sd⟩ = z := ⟨_, rfl⟩
      rw [hz] at HSig HF
      clear hz
      go_enter Tryz.func177, Tryz.ntmps177
      go_wp2
      generalize hW : w.alloc (.cells #[.int .i64 hh, .int .i64 he, .string hr, .string hp, .int .i64 a, .slice A0 so.length k0, .slice A1 ss.length k1, .slice A2 sd.length k2] 105) = W
      have HBW : Hid (Below w.heap.size w W) := by rw [← hW]; exact Lib.hid ((Below.refl _ _).alloc (Nat.le_refl _) _)
      obtain ⟨B, hBe⟩ : ∃ B, w.heap.size = B := ⟨_, rfl⟩
      have hBlt : B < W.heap.size := by rw [← hW, ← hBe]; simp
      have c0 := Grown.cell (show W.cell? ⟨B, 0, none⟩ = some (.int .i64 hh) by rw [← hW, ← hBe]; exact box_cell _ _ _ _ _ rfl)
      have c1 := Grown.cell (show W.cell? ⟨B, 1, none⟩ = some (.int .i64 he) by rw [← hW, ← hBe]; exact box_cell _ _ _ _ _ rfl)
      have c2 := Grown.cell (show W.cell? ⟨B, 2, none⟩ = some (.string hr) by rw [← hW, ← hBe]; exact box_cell _ _ _ _ _ rfl)
      have c3 := Grown.cell (show W.cell? ⟨B, 3, none⟩ = some (.string hp) by rw [← hW, ← hBe]; exact box_cell _ _ _ _ _ rfl)
      have c4 := Grown.cell (show W.cell? ⟨B, 4, none⟩ = some (.int .i64 a) by rw [← hW, ← hBe]; exact box_cell _ _ _ _ _ rfl)
      have c5 := Grown.cell (show W.cell? ⟨B, 5, none⟩ = some (.slice A0 so.length k0) by rw [← hW, ← hBe]; exact box_cell _ _ _ _ _ rfl)
      have c6 := Grown.cell (show W.cell? ⟨B, 6, none⟩ = some (.slice A1 ss.length k1) by rw [← hW, ← hBe]; exact box_cell _ _ _ _ _ rfl)
      have c7 := Grown.cell (show W.cell? ⟨B, 7, none⟩ = some (.slice A2 sd.length k2) by rw [← hW, ← hBe]; exact box_cell _ _ _ _ _ rfl)
      have HBE := Lib.hid hBe
      rw [hBe]
      clear hW hBe
      refine wp_region_grown (by kernel_rfl) (by kernel_rfl) ?_
      repeat (go_big_quiet_step (first | (go_at_call 246; exact grown_call (HHO.out _)) | (go_at_call 247; exact grown_same (HSA.out _)) | (go_at_call 90; exact grown_call (spec_HeadHash ⟨hh, he, hr, hp⟩ _)) | (go_at_call 248; exact grown_call (HSig.out _ (HBW.out.trans ((Grown.ok _).mono HBW.out.size))))))
      refine wpQuiet_nil ?_
      intro w2 hw2
      have hR := Lib.hid (grown_below hw2)
      clear hw2
      go_wp2
      go_ret
      exact ⟨ret_bool (by rw [HF.out]), (HBW.out).trans (hR.out.mono HBW.out.size)⟩
    · have HF : Hid (sealOk root ⟨⟨hh, he, hr, hp⟩, ⟨a, so, ss, sd⟩⟩ = false) := Lib.hid (by rw [HOK.out, hok, decide_eq_false hav]; rfl)
      have hq1 : (a == v) = false := beq_eq_false_iff_ne.2 hav
      have hq2 : decide (a = v) = false := decide_eq_false hav
      go_enter Tryz.func177, Tryz.ntmps177
      go_wp2
      generalize hW : w.alloc (.cells #[.int .i64 hh, .int .i64 he, .string hr, .string hp, .int .i64 a, .slice A0 so.length k0, .slice A1 ss.length k1, .slice A2 sd.length k2] 105) = W
      have HBW : Hid (Below w.heap.size w W) := by rw [← hW]; exact Lib.hid ((Below.refl _ _).alloc (Nat.le_refl _) _)
      obtain ⟨B, hBe⟩ : ∃ B, w.heap.size = B := ⟨_, rfl⟩
      have hBlt : B < W.heap.size := by rw [← hW, ← hBe]; simp
      have c0 := Grown.cell (show W.cell? ⟨B, 0, none⟩ = some (.int .i64 hh) by rw [← hW, ← hBe]; exact box_cell _ _ _ _ _ rfl)
      have c1 := Grown.cell (show W.cell? ⟨B, 1, none⟩ = some (.int .i64 he) by rw [← hW, ← hBe]; exact box_cell _ _ _ _ _ rfl)
      have c2 := Grown.cell (show W.cell? ⟨B, 2, none⟩ = some (.string hr) by rw [← hW, ← hBe]; exact box_cell _ _ _ _ _ rfl)
      have c3 := Grown.cell (show W.cell? ⟨B, 3, none⟩ = some (.string hp) by rw [← hW, ← hBe]; exact box_cell _ _ _ _ _ rfl)
      have c4 := Grown.cell (show W.cell? ⟨B, 4, none⟩ = some (.int .i64 a) by rw [← hW, ← hBe]; exact box_cell _ _ _ _ _ rfl)
      have c5 := Grown.cell (show W.cell? ⟨B, 5, none⟩ = some (.slice A0 so.length k0) by rw [← hW, ← hBe]; exact box_cell _ _ _ _ _ rfl)
      have c6 := Grown.cell (show W.cell? ⟨B, 6, none⟩ = some (.slice A1 ss.length k1) by rw [← hW, ← hBe]; exact box_cell _ _ _ _ _ rfl)
      have c7 := Grown.cell (show W.cell? ⟨B, 7, none⟩ = some (.slice A2 sd.length k2) by rw [← hW, ← hBe]; exact box_cell _ _ _ _ _ rfl)
      have HBE := Lib.hid hBe
      rw [hBe]
      clear hW hBe
      refine wp_region_grown (by kernel_rfl) (by kernel_rfl) ?_
      repeat (go_big_quiet_step (first | (go_at_call 246; exact grown_call (HHO.out _)) | (go_at_call 247; exact grown_same (HSA.out _)) | (go_at_call 90; exact grown_call (spec_HeadHash ⟨hh, he, hr, hp⟩ _)) | (go_at_call 248; exact grown_call (HSig.out _ (HBW.out.trans ((Grown.ok _).mono HBW.out.size))))))
      refine wpQuiet_nil ?_
      intro w2 hw2
      have hR := Lib.hid (grown_below hw2)
      clear hw2
      go_wp2
      go_ret
      exact ⟨ret_bool (by rw [HF.out]), (HBW.out).trans (hR.out.mono HBW.out.size)⟩
end Go.Proofs.YtcbbjfafmmcfiaaGreatDoor
