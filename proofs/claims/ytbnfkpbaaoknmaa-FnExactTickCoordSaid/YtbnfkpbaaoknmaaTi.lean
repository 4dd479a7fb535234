/- Walks: the coordinator's messages that are sent again. -/
import Derived.Test.YtbnfkpbaaoknmaaTc
import Derived.Test.YtbnfkpbaaoknmaaSa
set_option linter.unusedVariables false
set_option linter.unusedSimpArgs false
namespace Go.Proofs.Ytbnfkpbaaoknmaa
open Go.RowKit Lay Mk

set_option maxRecDepth 20000 in set_option maxHeartbeats 1500000 in
theorem impl_tick_no (w : World) (x : Coord) (cs : List Value) (S : Blks) (hx : rd false w cs x S) (hsz : x.sz ≤ 1048576) (hu : x.up = false) : Calls Try.prog 52 #[.agg cs.toArray] w fun e w' => ∃ A' cap', e = .returned (.slice A' (tickCoord x).length cap') ∧ (tickCoord x).length ≤ cap' ∧ cap' ≤ maxLen ∧ Row true w' A' cap' (tickCoord x) (rng w.heap.size w'.heap.size) ∧ Below w.heap.size w w' := by
  obtain ⟨hlv, hld, hls, hlt⟩ := coord_lens x hsz
  obtain ⟨A0, k0, S0, A1, k1, S1, A2, k2, S2, A3, k3, S3, A4, k4, S4, A5, k5, S5, rfl, f0, f1, f2, a0, b0, r0, s0, a1, b1, r1, s1, a2, b2, r2, s2, a3, b3, r3, s3, a4, b4, r4, s4, a5, b5, r5, s5, pw⟩ := Coord.open hx
  clear hx r0 r1 r2 s0 s1 s2 s3 s4 s5 pw a0 b0 a1 b1 S0 S1 S2
  have HT := Lib.hid (tick_no hu)
  simp only [Coord.cs]
  rw [hu]
  clear hu
  go_enter Try.func52, Try.ntmps52
  go_wp2
  go_ret
  exact ⟨none, 0, by rw [HT.out]; rfl, by rw [HT.out]; simp, by decide, by rw [HT.out]; exact row_nil _ _, (Below.refl _ _).alloc (Nat.le_refl _) _⟩

set_option maxRecDepth 20000 in set_option maxHeartbeats 1500000 in
theorem impl_tick_a0 (w : World) (x : Coord) (cs : List Value) (S : Blks) (hx : rd false w cs x S) (hsz : x.sz ≤ 1048576) (hu : x.up = true) (hA : x.asking = true) (m : Nat) (c1 : x.tries.length = x.seals.length) (c2 : x.seals.length = m + 1) : Calls Try.prog 52 #[.agg cs.toArray] w fun e w' => ∃ A' cap', e = .returned (.slice A' (tickCoord x).length cap') ∧ (tickCoord x).length ≤ cap' ∧ cap' ≤ maxLen ∧ Row true w' A' cap' (tickCoord x) (rng w.heap.size w'.heap.size) ∧ Below w.heap.size w w' := by
  obtain ⟨hlv, hld, hls, hlt⟩ := coord_lens x hsz
  obtain ⟨A0, k0, S0, A1, k1, S1, A2, k2, S2, A3, k3, S3, A4, k4, S4, A5, k5, S5, rfl, f0, f1, f2, a0, b0, r0, s0, a1, b1, r1, s1, a2, b2, r2, s2, a3, b3, r3, s3, a4, b4, r4, s4, a5, b5, r5, s5, pw⟩ := Coord.open hx
  clear hx r0 r1 r2 s0 s1 s2 s3 s4 s5 pw a0 b0 a1 b1 S0 S1 S2
  have HA := Lib.hid (ask_yes hA)
  have hm : m < x.tries.length := by omega
  have HD := Lib.hid (done_yes c1 c2 hm)
  obtain ⟨bt, ot, rfl, hlt3, g0, g1⟩ := Row.int r3 hm
  obtain ⟨v, hv⟩ : ∃ v, x.tries[m] = v := ⟨_, rfl⟩
  rw [hv] at g0 g1 HD
  clear hv
  have d1 : ((x.tries.length : Int) == (x.seals.length : Int)) = true := by rw [c1]; simp
  have d2 : decide ((0 : Int) < (x.seals.length : Int)) = true := by rw [decide_eq_true_iff]; omega
  have d2p : 0 < x.seals.length := by omega
  have d3 : (x.seals.length : Int) - 1 = (m : Int) := by omega
  have HT := Lib.hid (tick_yes hu)
  have hal := tickAsk_len x
  have hdl := tickDone_len x
  simp only [Coord.cs]
  rw [hu, hA]
  have hs64 : I64 (x.seals.length : Int) := by unfold I64; omega
  have hs65 : I64 ((x.seals.length : Int) + 1) := by unfold I64; omega
  clear hu hA c1 c2
  go_enter Try.func52, Try.ntmps52
  go_wp2_with (fail)
  generalize hW : w.alloc (.cells #[_, _, _, _, _, _, _, _, _, _, _] _) = W
  have hWB : Below w.heap.size w W := by rw [← hW]; exact (Below.refl _ _).alloc (Nat.le_refl _) _
  have hWs : w.heap.size < W.heap.size := by rw [← hW]; simp
  have q2 : W.cell? ⟨w.heap.size, 2, none⟩ = some (.bool true) := by rw [← hW]; exact box_cell _ _ _ _ _ rfl
  have q5 : W.cell? ⟨w.heap.size, 5, none⟩ = some (.slice A2 x.seals.length k2) := by rw [← hW]; exact box_cell _ _ _ _ _ rfl
  have q6 : W.cell? ⟨w.heap.size, 6, none⟩ = some (.slice (some ⟨bt, ot, none⟩) x.tries.length k3) := by rw [← hW]; exact box_cell _ _ _ _ _ rfl
  have q7 : W.cell? ⟨w.heap.size, 7, none⟩ = some (.int .i64 x.try_) := by rw [← hW]; exact box_cell _ _ _ _ _ rfl
  have q9 : W.cell? ⟨w.heap.size, 9, none⟩ = some (.slice A4 x.votes.length k4) := by rw [← hW]; exact box_cell _ _ _ _ _ rfl
  have q10 : W.cell? ⟨w.heap.size, 10, none⟩ = some (.slice A5 x.dones.length k5) := by rw [← hW]; exact box_cell _ _ _ _ _ rfl
  clear hW
  replace r3 := Row.later r3 hWB
  replace r4 := Row.later r4 hWB
  replace r5 := Row.later r5 hWB
  replace g0 := (hWB.cell (p := ⟨bt, ot + m, none⟩) hlt3).trans g0
  have qW10 := q10
  have qW6 := q6
  have gW := g0
  refine (impl_toShards1 _ 1 _ x.try_ x.votes.length (by unfold I64; omega) hs65 f2 hlv (voteP x.votes) (.pointer (some ⟨w.heap.size, 0, none⟩)) (fun w' i hb hi => impl_tick1 w' x.votes A4 k4 S4 (Row.later r4 hb) i hi hlv w.heap.size 0 (by simpa using (hb.cell (p := ⟨w.heap.size, 9, none⟩) hWs).trans q9))).mono ?_
  rintro e1 w1 ⟨A, cap, rfl, h1, h2, h3, hb1⟩
  have hcell := fun i => hb1.cell (p := ⟨w.heap.size, i, none⟩) hWs
  replace q2 := (hcell 2).trans q2
  replace q5 := (hcell 5).trans q5
  replace q6 := (hcell 6).trans q6
  replace q7 := (hcell 7).trans q7
  replace q9 := (hcell 9).trans q9
  replace q10 := (hcell 10).trans q10
  clear hcell
  have hB1 : Below w.heap.size w w1 := hWB.trans (hb1.mono (Nat.le_of_lt hWs))
  have hz1 := hb1.size
  rw [← HA.out] at h1 h3 ⊢
  replace r5 := Row.later r5 hb1
  replace g0 := (hb1.cell (p := ⟨bt, ot + m, none⟩) (Nat.lt_trans hlt3 hWs)).trans g0
  go_wp2_with (fail)
  have hWn : w.heap.size < w1.heap.size := Nat.lt_of_lt_of_le hWs hz1
  have hbn : bt < w1.heap.size := Nat.lt_trans hlt3 hWn
  have dp : (0 : Int) ≤ (m : Int) := by omega
  have dl : (m : Int) < (x.tries.length : Int) := by omega
  have dl2 : (m : Int) ≤ (x.tries.length : Int) := by omega
  have dw : IntKind.i64.wrap ((x.seals.length : Int) - 1) = (x.seals.length : Int) - 1 := by rw [Go.IntWalk.i64_left]; exact Go.IntWalk.wrap64_in _ (by omega)
  have dw1 : IntKind.i64.wrap (m : Int) = (m : Int) := by rw [Go.IntWalk.i64_left]; exact Go.IntWalk.wrap64_in _ (by omega)
  have hB := Below.refl w1.heap.size w1
  have HM := Lib.hid (fun (w' : World) (h : Below W.heap.size W w') => (⟨(h.cell (p := ⟨w.heap.size, 10, none⟩) hWs).trans qW10, (h.cell (p := ⟨w.heap.size, 6, none⟩) hWs).trans qW6, (h.cell (p := ⟨bt, ot + m, none⟩) (Nat.lt_trans hlt3 hWs)).trans gW, h⟩ : w'.cell? ⟨w.heap.size, 10, none⟩ = some (.slice A5 x.dones.length k5) ∧ w'.cell? ⟨w.heap.size, 6, none⟩ = some (.slice (some ⟨bt, ot, none⟩) x.tries.length k3) ∧ w'.cell? ⟨bt, ot + m, none⟩ = some (.int .i64 v) ∧ Below W.heap.size W w'))
  clear q2 q5 q6 q7 q9 g0 qW10 qW6 gW
  have HQ := Lib.hid q10
  clear q10
  go_region_held3 (fun w' => w'.cell? ⟨w.heap.size, 10, none⟩ = some (.slice A5 x.dones.length k5) ∧ w'.cell? ⟨w.heap.size, 6, none⟩ = some (.slice (some ⟨bt, ot, none⟩) x.tries.length k3) ∧ w'.cell? ⟨bt, ot + m, none⟩ = some (.int .i64 v) ∧ Below W.heap.size W w')
      (first | exact HM.out _ (hb1.trans (hB.mono hz1)) | exact HM.out _ (hb1.trans (hB.drew.mono hz1)) | exact HM.out _ hE)
      (first | (go_at_call 103; refine (impl_toShards2 _ 4 _ v x.dones.length (by unfold I64; omega) hs64 g1 hld (doneP x.dones) (.pointer (some ⟨w.heap.size, 0, none⟩)) (fun w' i hb hi => impl_tick2 w' x.dones A5 k5 S5 (Row.later r5 (Below.trans (c := w') (by first | exact hB | exact hB.drew) (hb.mono (by have := hB.size; simp; try omega)))) i hi hld w.heap.size 0 (by simpa using ((Below.trans (c := w') (by first | exact hB | exact hB.drew) (hb.mono (by have := hB.size; simp; try omega))).cell (p := ⟨w.heap.size, 10, none⟩) hWn).trans HQ.out))).mono ?_; rintro e2 w2 ⟨A2', cap2, rfl, j1, j2, j3, hb2⟩; have hB := Below.step (a := w1) (by first | exact hB | exact hB.drew) hb2) | ((refine step_app (α := Letter) (xs := tickAsk x) rfl _ _ rfl rfl rfl ((Row.later h3 hB).mono (S' := nw W.heap.size) (fun b h => by unfold rng at h; unfold nw; omega)) h1 h2 rfl rfl (Src.flat j3) (disj_none_ _) (by have := shardsOf_len (doneP x.dones) (tickL 4 (x.seals.length : Int) v) x.dones.length; omega) ?_); intro A' cap' w' e1 e2 e3 e4; have hE := (hb1.trans (hB.mono hz1)).trans (e4.to_below (B := W.heap.size) (by have := hB.size; omega) (fun b h => h)); have hg := hB.size))
  rw [← HD.out] at j1 j3 e1 e3 ⊢
  have h5 := row_up e3 (B := w.heap.size) (fun b h => Nat.le_trans (Nat.le_of_lt hWs) h) (fun b h => h.elim) (by omega)
  first | go_wp2; go_ret | go_ret
  exact ⟨A', cap', ret_slice (by rw [HT.out]; simp), by rw [HT.out]; simpa using e1, e2, by rw [HT.out]; exact h5, hWB.trans (hE.mono (Nat.le_of_lt hWs))⟩

set_option maxRecDepth 20000 in set_option maxHeartbeats 1500000 in
theorem impl_tick_a1 (w : World) (x : Coord) (cs : List Value) (S : Blks) (hx : rd false w cs x S) (hsz : x.sz ≤ 1048576) (hu : x.up = true) (hA : x.asking = true) (c1 : ¬ x.tries.length = x.seals.length) : Calls Try.prog 52 #[.agg cs.toArray] w fun e w' => ∃ A' cap', e = .returned (.slice A' (tickCoord x).length cap') ∧ (tickCoord x).length ≤ cap' ∧ cap' ≤ maxLen ∧ Row true w' A' cap' (tickCoord x) (rng w.heap.size w'.heap.size) ∧ Below w.heap.size w w' := by
  obtain ⟨hlv, hld, hls, hlt⟩ := coord_lens x hsz
  obtain ⟨A0, k0, S0, A1, k1, S1, A2, k2, S2, A3, k3, S3, A4, k4, S4, A5, k5, S5, rfl, f0, f1, f2, a0, b0, r0, s0, a1, b1, r1, s1, a2, b2, r2, s2, a3, b3, r3, s3, a4, b4, r4, s4, a5, b5, r5, s5, pw⟩ := Coord.open hx
  clear hx r0 r1 r2 s0 s1 s2 s3 s4 s5 pw a0 b0 a1 b1 S0 S1 S2
  have HA := Lib.hid (ask_yes hA)
  have HD := Lib.hid (done_no (fun h => c1 h.1))
  have d1 : ((x.tries.length : Int) == (x.seals.length : Int)) = false := by rw [beq_eq_false_iff_ne]; omega
  have HT := Lib.hid (tick_yes hu)
  have hal := tickAsk_len x
  have hdl := tickDone_len x
  simp only [Coord.cs]
  rw [hu, hA]
  have hs65 : I64 ((x.seals.length : Int) + 1) := by unfold I64; omega
  clear hu hA c1
  go_enter Try.func52, Try.ntmps52
  go_wp2_with (fail)
  generalize hW : w.alloc (.cells #[_, _, _, _, _, _, _, _, _, _, _] _) = W
  have hWB : Below w.heap.size w W := by rw [← hW]; exact (Below.refl _ _).alloc (Nat.le_refl _) _
  have hWs : w.heap.size < W.heap.size := by rw [← hW]; simp
  have q2 : W.cell? ⟨w.heap.size, 2, none⟩ = some (.bool true) := by rw [← hW]; exact box_cell _ _ _ _ _ rfl
  have q5 : W.cell? ⟨w.heap.size, 5, none⟩ = some (.slice A2 x.seals.length k2) := by rw [← hW]; exact box_cell _ _ _ _ _ rfl
  have q6 : W.cell? ⟨w.heap.size, 6, none⟩ = some (.slice A3 x.tries.length k3) := by rw [← hW]; exact box_cell _ _ _ _ _ rfl
  have q7 : W.cell? ⟨w.heap.size, 7, none⟩ = some (.int .i64 x.try_) := by rw [← hW]; exact box_cell _ _ _ _ _ rfl
  have q9 : W.cell? ⟨w.heap.size, 9, none⟩ = some (.slice A4 x.votes.length k4) := by rw [← hW]; exact box_cell _ _ _ _ _ rfl
  have q10 : W.cell? ⟨w.heap.size, 10, none⟩ = some (.slice A5 x.dones.length k5) := by rw [← hW]; exact box_cell _ _ _ _ _ rfl
  clear hW
  replace r3 := Row.later r3 hWB
  replace r4 := Row.later r4 hWB
  replace r5 := Row.later r5 hWB
  refine (impl_toShards1 _ 1 _ x.try_ x.votes.length (by unfold I64; omega) hs65 f2 hlv (voteP x.votes) (.pointer (some ⟨w.heap.size, 0, none⟩)) (fun w' i hb hi => impl_tick1 w' x.votes A4 k4 S4 (Row.later r4 hb) i hi hlv w.heap.size 0 (by simpa using (hb.cell (p := ⟨w.heap.size, 9, none⟩) hWs).trans q9))).mono ?_
  rintro e1 w1 ⟨A, cap, rfl, h1, h2, h3, hb1⟩
  have hcell := fun i => hb1.cell (p := ⟨w.heap.size, i, none⟩) hWs
  replace q2 := (hcell 2).trans q2
  replace q5 := (hcell 5).trans q5
  replace q6 := (hcell 6).trans q6
  replace q7 := (hcell 7).trans q7
  replace q9 := (hcell 9).trans q9
  replace q10 := (hcell 10).trans q10
  clear hcell
  have hB1 : Below w.heap.size w w1 := hWB.trans (hb1.mono (Nat.le_of_lt hWs))
  have hz1 := hb1.size
  rw [← HA.out] at h1 h3 ⊢
  replace r5 := Row.later r5 hb1
  go_wp2
  go_ret
  exact ⟨A, cap, ret_slice (by rw [HT.out, HD.out]; simp), by rw [HT.out, HD.out]; simpa using h1, h2, by rw [HT.out, HD.out]; simpa using h3.mono (rngS (by omega) (Nat.le_refl _)), hB1⟩

set_option maxRecDepth 20000 in set_option maxHeartbeats 1500000 in
theorem impl_tick_a2 (w : World) (x : Coord) (cs : List Value) (S : Blks) (hx : rd false w cs x S) (hsz : x.sz ≤ 1048576) (hu : x.up = true) (hA : x.asking = true) (c1 : x.tries.length = x.seals.length) (c2 : x.seals.length = 0) : Calls Try.prog 52 #[.agg cs.toArray] w fun e w' => ∃ A' cap', e = .returned (.slice A' (tickCoord x).length cap') ∧ (tickCoord x).length ≤ cap' ∧ cap' ≤ maxLen ∧ Row true w' A' cap' (tickCoord x) (rng w.heap.size w'.heap.size) ∧ Below w.heap.size w w' := by
  obtain ⟨hlv, hld, hls, hlt⟩ := coord_lens x hsz
  obtain ⟨A0, k0, S0, A1, k1, S1, A2, k2, S2, A3, k3, S3, A4, k4, S4, A5, k5, S5, rfl, f0, f1, f2, a0, b0, r0, s0, a1, b1, r1, s1, a2, b2, r2, s2, a3, b3, r3, s3, a4, b4, r4, s4, a5, b5, r5, s5, pw⟩ := Coord.open hx
  clear hx r0 r1 r2 s0 s1 s2 s3 s4 s5 pw a0 b0 a1 b1 S0 S1 S2
  have HA := Lib.hid (ask_yes hA)
  have HD := Lib.hid (done_no (x := x) (by omega))
  have d1 : ((x.tries.length : Int) == (x.seals.length : Int)) = true := by rw [c1]; simp
  have d2 : decide ((0 : Int) < (x.seals.length : Int)) = false := by rw [decide_eq_false_iff_not]; omega
  have d2n : ¬ 0 < x.seals.length := by omega
  have HT := Lib.hid (tick_yes hu)
  have hal := tickAsk_len x
  have hdl := tickDone_len x
  simp only [Coord.cs]
  rw [hu, hA]
  have hs65 : I64 ((x.seals.length : Int) + 1) := by unfold I64; omega
  clear hu hA c1 c2
  go_enter Try.func52, Try.ntmps52
  go_wp2_with (fail)
  generalize hW : w.alloc (.cells #[_, _, _, _, _, _, _, _, _, _, _] _) = W
  have hWB : Below w.heap.size w W := by rw [← hW]; exact (Below.refl _ _).alloc (Nat.le_refl _) _
  have hWs : w.heap.size < W.heap.size := by rw [← hW]; simp
  have q2 : W.cell? ⟨w.heap.size, 2, none⟩ = some (.bool true) := by rw [← hW]; exact box_cell _ _ _ _ _ rfl
  have q5 : W.cell? ⟨w.heap.size, 5, none⟩ = some (.slice A2 x.seals.length k2) := by rw [← hW]; exact box_cell _ _ _ _ _ rfl
  have q6 : W.cell? ⟨w.heap.size, 6, none⟩ = some (.slice A3 x.tries.length k3) := by rw [← hW]; exact box_cell _ _ _ _ _ rfl
  have q7 : W.cell? ⟨w.heap.size, 7, none⟩ = some (.int .i64 x.try_) := by rw [← hW]; exact box_cell _ _ _ _ _ rfl
  have q9 : W.cell? ⟨w.heap.size, 9, none⟩ = some (.slice A4 x.votes.length k4) := by rw [← hW]; exact box_cell _ _ _ _ _ rfl
  have q10 : W.cell? ⟨w.heap.size, 10, none⟩ = some (.slice A5 x.dones.length k5) := by rw [← hW]; exact box_cell _ _ _ _ _ rfl
  clear hW
  replace r3 := Row.later r3 hWB
  replace r4 := Row.later r4 hWB
  replace r5 := Row.later r5 hWB
  refine (impl_toShards1 _ 1 _ x.try_ x.votes.length (by unfold I64; omega) hs65 f2 hlv (voteP x.votes) (.pointer (some ⟨w.heap.size, 0, none⟩)) (fun w' i hb hi => impl_tick1 w' x.votes A4 k4 S4 (Row.later r4 hb) i hi hlv w.heap.size 0 (by simpa using (hb.cell (p := ⟨w.heap.size, 9, none⟩) hWs).trans q9))).mono ?_
  rintro e1 w1 ⟨A, cap, rfl, h1, h2, h3, hb1⟩
  have hcell := fun i => hb1.cell (p := ⟨w.heap.size, i, none⟩) hWs
  replace q2 := (hcell 2).trans q2
  replace q5 := (hcell 5).trans q5
  replace q6 := (hcell 6).trans q6
  replace q7 := (hcell 7).trans q7
  replace q9 := (hcell 9).trans q9
  replace q10 := (hcell 10).trans q10
  clear hcell
  have hB1 : Below w.heap.size w w1 := hWB.trans (hb1.mono (Nat.le_of_lt hWs))
  have hz1 := hb1.size
  rw [← HA.out] at h1 h3 ⊢
  replace r5 := Row.later r5 hb1
  go_wp2
  go_ret
  exact ⟨A, cap, ret_slice (by rw [HT.out, HD.out]; simp), by rw [HT.out, HD.out]; simpa using h1, h2, by rw [HT.out, HD.out]; simpa using h3.mono (rngS (by omega) (Nat.le_refl _)), hB1⟩

set_option maxRecDepth 20000 in set_option maxHeartbeats 1500000 in
theorem impl_tick_n0 (w : World) (x : Coord) (cs : List Value) (S : Blks) (hx : rd false w cs x S) (hsz : x.sz ≤ 1048576) (hu : x.up = true) (hA : x.asking = false) (m : Nat) (c1 : x.tries.length = x.seals.length) (c2 : x.seals.length = m + 1) : Calls Try.prog 52 #[.agg cs.toArray] w fun e w' => ∃ A' cap', e = .returned (.slice A' (tickCoord x).length cap') ∧ (tickCoord x).length ≤ cap' ∧ cap' ≤ maxLen ∧ Row true w' A' cap' (tickCoord x) (rng w.heap.size w'.heap.size) ∧ Below w.heap.size w w' := by
  obtain ⟨hlv, hld, hls, hlt⟩ := coord_lens x hsz
  obtain ⟨A0, k0, S0, A1, k1, S1, A2, k2, S2, A3, k3, S3, A4, k4, S4, A5, k5, S5, rfl, f0, f1, f2, a0, b0, r0, s0, a1, b1, r1, s1, a2, b2, r2, s2, a3, b3, r3, s3, a4, b4, r4, s4, a5, b5, r5, s5, pw⟩ := Coord.open hx
  clear hx r0 r1 r2 s0 s1 s2 s3 s4 s5 pw a0 b0 a1 b1 S0 S1 S2
  have HA := Lib.hid (ask_no hA)
  have hm : m < x.tries.length := by omega
  have HD := Lib.hid (done_yes c1 c2 hm)
  obtain ⟨bt, ot, rfl, hlt3, g0, g1⟩ := Row.int r3 hm
  obtain ⟨v, hv⟩ : ∃ v, x.tries[m] = v := ⟨_, rfl⟩
  rw [hv] at g0 g1 HD
  clear hv
  have d1 : ((x.tries.length : Int) == (x.seals.length : Int)) = true := by rw [c1]; simp
  have d2 : decide ((0 : Int) < (x.seals.length : Int)) = true := by rw [decide_eq_true_iff]; omega
  have d2p : 0 < x.seals.length := by omega
  have d3 : (x.seals.length : Int) - 1 = (m : Int) := by omega
  have HT := Lib.hid (tick_yes hu)
  have hal := tickAsk_len x
  have hdl := tickDone_len x
  simp only [Coord.cs]
  rw [hu, hA]
  have hs64 : I64 (x.seals.length : Int) := by unfold I64; omega
  have hs65 : I64 ((x.seals.length : Int) + 1) := by unfold I64; omega
  clear hu hA c1 c2
  go_enter Try.func52, Try.ntmps52
  go_wp2_with (fail)
  generalize hW : w.alloc (.cells #[_, _, _, _, _, _, _, _, _, _, _] _) = W
  have hWB : Below w.heap.size w W := by rw [← hW]; exact (Below.refl _ _).alloc (Nat.le_refl _) _
  have hWs : w.heap.size < W.heap.size := by rw [← hW]; simp
  have q2 : W.cell? ⟨w.heap.size, 2, none⟩ = some (.bool true) := by rw [← hW]; exact box_cell _ _ _ _ _ rfl
  have q5 : W.cell? ⟨w.heap.size, 5, none⟩ = some (.slice A2 x.seals.length k2) := by rw [← hW]; exact box_cell _ _ _ _ _ rfl
  have q6 : W.cell? ⟨w.heap.size, 6, none⟩ = some (.slice (some ⟨bt, ot, none⟩) x.tries.length k3) := by rw [← hW]; exact box_cell _ _ _ _ _ rfl
  have q7 : W.cell? ⟨w.heap.size, 7, none⟩ = some (.int .i64 x.try_) := by rw [← hW]; exact box_cell _ _ _ _ _ rfl
  have q9 : W.cell? ⟨w.heap.size, 9, none⟩ = some (.slice A4 x.votes.length k4) := by rw [← hW]; exact box_cell _ _ _ _ _ rfl
  have q10 : W.cell? ⟨w.heap.size, 10, none⟩ = some (.slice A5 x.dones.length k5) := by rw [← hW]; exact box_cell _ _ _ _ _ rfl
  clear hW
  replace r3 := Row.later r3 hWB
  replace r4 := Row.later r4 hWB
  replace r5 := Row.later r5 hWB
  replace g0 := (hWB.cell (p := ⟨bt, ot + m, none⟩) hlt3).trans g0
  have hWn : w.heap.size < W.heap.size := hWs
  have hbn : bt < W.heap.size := Nat.lt_trans hlt3 hWn
  have dp : (0 : Int) ≤ (m : Int) := by omega
  have dl : (m : Int) < (x.tries.length : Int) := by omega
  have dl2 : (m : Int) ≤ (x.tries.length : Int) := by omega
  have dw : IntKind.i64.wrap ((x.seals.length : Int) - 1) = (x.seals.length : Int) - 1 := by rw [Go.IntWalk.i64_left]; exact Go.IntWalk.wrap64_in _ (by omega)
  have dw1 : IntKind.i64.wrap (m : Int) = (m : Int) := by rw [Go.IntWalk.i64_left]; exact Go.IntWalk.wrap64_in _ (by omega)
  have hB := Below.refl W.heap.size W
  have HM := Lib.hid (fun (w' : World) (h : Below W.heap.size W w') => (⟨(h.cell (p := ⟨w.heap.size, 10, none⟩) hWs).trans q10, (h.cell (p := ⟨w.heap.size, 6, none⟩) hWs).trans q6, (h.cell (p := ⟨bt, ot + m, none⟩) (Nat.lt_trans hlt3 hWs)).trans g0, h⟩ : w'.cell? ⟨w.heap.size, 10, none⟩ = some (.slice A5 x.dones.length k5) ∧ w'.cell? ⟨w.heap.size, 6, none⟩ = some (.slice (some ⟨bt, ot, none⟩) x.tries.length k3) ∧ w'.cell? ⟨bt, ot + m, none⟩ = some (.int .i64 v) ∧ Below W.heap.size W w'))
  clear q2 q5 q6 q7 q9 g0 
  have HQ := Lib.hid q10
  clear q10
  go_region_held3 (fun w' => w'.cell? ⟨w.heap.size, 10, none⟩ = some (.slice A5 x.dones.length k5) ∧ w'.cell? ⟨w.heap.size, 6, none⟩ = some (.slice (some ⟨bt, ot, none⟩) x.tries.length k3) ∧ w'.cell? ⟨bt, ot + m, none⟩ = some (.int .i64 v) ∧ Below W.heap.size W w')
      (first | exact HM.out _ hB | exact HM.out _ hB.drew | exact HM.out _ hE)
      (first | (go_at_call 103; refine (impl_toShards2 _ 4 _ v x.dones.length (by unfold I64; omega) hs64 g1 hld (doneP x.dones) (.pointer (some ⟨w.heap.size, 0, none⟩)) (fun w' i hb hi => impl_tick2 w' x.dones A5 k5 S5 (Row.later r5 (Below.trans (c := w') (by first | exact hB | exact hB.drew) (hb.mono (by have := hB.size; simp; try omega)))) i hi hld w.heap.size 0 (by simpa using ((Below.trans (c := w') (by first | exact hB | exact hB.drew) (hb.mono (by have := hB.size; simp; try omega))).cell (p := ⟨w.heap.size, 10, none⟩) hWn).trans HQ.out))).mono ?_; rintro e2 w2 ⟨A2', cap2, rfl, j1, j2, j3, hb2⟩; have hB := Below.step (a := W) (by first | exact hB | exact hB.drew) hb2) | ((refine step_app (α := Letter) (xs := []) rfl _ _ rfl rfl (by simp) (row_nil _ none_) (by simp) (by decide) rfl rfl (Src.flat j3) (disj_none_ _) (by have := shardsOf_len (doneP x.dones) (tickL 4 (x.seals.length : Int) v) x.dones.length; simp; omega) ?_); intro A' cap' w' e1 e2 e3 e4; have hE := hB.trans (e4.to_below (B := W.heap.size) (by have := hB.size; omega) (fun b h => h.elim)); have hg := hB.size))
  rw [← HD.out] at j1 j3 e1 e3 ⊢
  have h5 := row_up e3 (B := w.heap.size) (fun b h => h.elim) (fun b h => h.elim) (by omega)
  first | go_wp2; go_ret | go_ret
  exact ⟨A', cap', ret_slice (by rw [HT.out, HA.out]; simp), by rw [HT.out, HA.out]; simpa using e1, e2, by rw [HT.out, HA.out]; exact h5, hWB.trans (hE.mono (Nat.le_of_lt hWs))⟩

set_option maxRecDepth 20000 in set_option maxHeartbeats 1500000 in
theorem impl_tick_n1 (w : World) (x : Coord) (cs : List Value) (S : Blks) (hx : rd false w cs x S) (hsz : x.sz ≤ 1048576) (hu : x.up = true) (hA : x.asking = false) (c1 : ¬ x.tries.length = x.seals.length) : Calls Try.prog 52 #[.agg cs.toArray] w fun e w' => ∃ A' cap', e = .returned (.slice A' (tickCoord x).length cap') ∧ (tickCoord x).length ≤ cap' ∧ cap' ≤ maxLen ∧ Row true w' A' cap' (tickCoord x) (rng w.heap.size w'.heap.size) ∧ Below w.heap.size w w' := by
  obtain ⟨hlv, hld, hls, hlt⟩ := coord_lens x hsz
  obtain ⟨A0, k0, S0, A1, k1, S1, A2, k2, S2, A3, k3, S3, A4, k4, S4, A5, k5, S5, rfl, f0, f1, f2, a0, b0, r0, s0, a1, b1, r1, s1, a2, b2, r2, s2, a3, b3, r3, s3, a4, b4, r4, s4, a5, b5, r5, s5, pw⟩ := Coord.open hx
  clear hx r0 r1 r2 s0 s1 s2 s3 s4 s5 pw a0 b0 a1 b1 S0 S1 S2
  have HA := Lib.hid (ask_no hA)
  have HD := Lib.hid (done_no (fun h => c1 h.1))
  have d1 : ((x.tries.length : Int) == (x.seals.length : Int)) = false := by rw [beq_eq_false_iff_ne]; omega
  have HT := Lib.hid (tick_yes hu)
  have hal := tickAsk_len x
  have hdl := tickDone_len x
  simp only [Coord.cs]
  rw [hu, hA]
  have hs65 : I64 ((x.seals.length : Int) + 1) := by unfold I64; omega
  clear hu hA c1
  go_enter Try.func52, Try.ntmps52
  go_wp2
  go_ret
  exact ⟨none, 0, by rw [HT.out, HA.out, HD.out]; rfl, by rw [HT.out, HA.out, HD.out]; simp, by decide, by rw [HT.out, HA.out, HD.out]; exact row_nil _ _, (Below.refl _ _).alloc (Nat.le_refl _) _⟩

set_option maxRecDepth 20000 in set_option maxHeartbeats 1500000 in
theorem impl_tick_n2 (w : World) (x : Coord) (cs : List Value) (S : Blks) (hx : rd false w cs x S) (hsz : x.sz ≤ 1048576) (hu : x.up = true) (hA : x.asking = false) (c1 : x.tries.length = x.seals.length) (c2 : x.seals.length = 0) : Calls Try.prog 52 #[.agg cs.toArray] w fun e w' => ∃ A' cap', e = .returned (.slice A' (tickCoord x).length cap') ∧ (tickCoord x).length ≤ cap' ∧ cap' ≤ maxLen ∧ Row true w' A' cap' (tickCoord x) (rng w.heap.size w'.heap.size) ∧ Below w.heap.size w w' := by
  obtain ⟨hlv, hld, hls, hlt⟩ := coord_lens x hsz
  obtain ⟨A0, k0, S0, A1, k1, S1, A2, k2, S2, A3, k3, S3, A4, k4, S4, A5, k5, S5, rfl, f0, f1, f2, a0, b0, r0, s0, a1, b1, r1, s1, a2, b2, r2, s2, a3, b3, r3, s3, a4, b4, r4, s4, a5, b5, r5, s5, pw⟩ := Coord.open hx
  clear hx r0 r1 r2 s0 s1 s2 s3 s4 s5 pw a0 b0 a1 b1 S0 S1 S2
  have HA := Lib.hid (ask_no hA)
  have HD := Lib.hid (done_no (x := x) (by omega))
  have d1 : ((x.tries.length : Int) == (x.seals.length : Int)) = true := by rw [c1]; simp
  have d2 : decide ((0 : Int) < (x.seals.length : Int)) = false := by rw [decide_eq_false_iff_not]; omega
  have d2n : ¬ 0 < x.seals.length := by omega
  have HT := Lib.hid (tick_yes hu)
  have hal := tickAsk_len x
  have hdl := tickDone_len x
  simp only [Coord.cs]
  rw [hu, hA]
  have hs65 : I64 ((x.seals.length : Int) + 1) := by unfold I64; omega
  clear hu hA c1 c2
  go_enter Try.func52, Try.ntmps52
  go_wp2
  go_ret
  exact ⟨none, 0, by rw [HT.out, HA.out, HD.out]; rfl, by rw [HT.out, HA.out, HD.out]; simp, by decide, by rw [HT.out, HA.out, HD.out]; exact row_nil _ _, (Below.refl _ _).alloc (Nat.le_refl _) _⟩

theorem impl_TickCoord (w : World) (x : Coord) (cs : List Value) (S : Blks) (hx : rd false w cs x S) (hsz : x.sz ≤ 1048576) : Calls Try.prog 52 #[.agg cs.toArray] w fun e w' => ∃ A' cap', e = .returned (.slice A' (tickCoord x).length cap') ∧ (tickCoord x).length ≤ cap' ∧ cap' ≤ maxLen ∧ Row true w' A' cap' (tickCoord x) (rng w.heap.size w'.heap.size) ∧ Below w.heap.size w w' := by
  cases hu : x.up
  · exact impl_tick_no w x cs S hx hsz hu
  cases hA : x.asking
  all_goals
    by_cases c1 : x.tries.length = x.seals.length
    · rcases Nat.eq_zero_or_pos x.seals.length with c2 | c2
      · first | exact impl_tick_a2 w x cs S hx hsz hu hA c1 c2 | exact impl_tick_n2 w x cs S hx hsz hu hA c1 c2
      · first | exact impl_tick_a0 w x cs S hx hsz hu hA (x.seals.length - 1) c1 (by omega) | exact impl_tick_n0 w x cs S hx hsz hu hA (x.seals.length - 1) c1 (by omega)
    · first | exact impl_tick_a1 w x cs S hx hsz hu hA c1 | exact impl_tick_n1 w x cs S hx hsz hu hA c1

end Go.Proofs.Ytbnfkpbaaoknmaa
