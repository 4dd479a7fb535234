/- Walks: the reference's messages that are sent again. -/
import Derived.Test.YtbnfkpbaaoknmaaTc
set_option linter.unusedVariables false
set_option linter.unusedSimpArgs false
namespace Go.Proofs.Ytbnfkpbaaoknmaa
open Go.RowKit Lay Mk

set_option maxRecDepth 20000 in set_option maxHeartbeats 3000000 in
theorem spec_tick_no (w : World) (x : Coord) (cs : List Value) (S : Blks) (hx : rd false w cs x S) (hsz : x.sz ≤ 1048576) (hu : x.up = false) : Calls Try.prog 50 #[.agg cs.toArray] w fun e w' => ∃ A' cap', e = .returned (.slice A' (tickCoord x).length cap') ∧ (tickCoord x).length ≤ cap' ∧ cap' ≤ maxLen ∧ Row true w' A' cap' (tickCoord x) (rng w.heap.size w'.heap.size) ∧ Below w.heap.size w w' := by
  obtain ⟨hlv, hld, hls, hlt⟩ := coord_lens x hsz
  obtain ⟨A0, k0, S0, A1, k1, S1, A2, k2, S2, A3, k3, S3, A4, k4, S4, A5, k5, S5, rfl, f0, f1, f2, a0, b0, r0, s0, a1, b1, r1, s1, a2, b2, r2, s2, a3, b3, r3, s3, a4, b4, r4, s4, a5, b5, r5, s5, pw⟩ := Coord.open hx
  clear hx r0 r1 r2 s0 s1 s2 s3 s4 s5 pw a0 b0 a1 b1 S0 S1 S2
  have HT := Lib.hid (tick_no hu)
  simp only [Coord.cs]
  rw [hu]
  clear hu
  go_enter Try.func50, Try.ntmps50
  go_wp2
  go_ret
  exact ⟨_, _, by rw [HT.out]; rfl, by rw [HT.out]; simp, by decide, by rw [HT.out]; exact row_lit0b _ _ _ _ (by simp) rfl (by unfold rng; simp), ((Below.refl _ _).alloc (Nat.le_refl _) _).alloc (by simp) _⟩

set_option maxRecDepth 20000 in set_option maxHeartbeats 3000000 in
theorem spec_tick_a0 (w : World) (x : Coord) (cs : List Value) (S : Blks) (hx : rd false w cs x S) (hsz : x.sz ≤ 1048576) (hu : x.up = true) (hA : x.asking = true) (m : Nat) (c1 : x.tries.length = x.seals.length) (c2 : x.seals.length = m + 1) : Calls Try.prog 50 #[.agg cs.toArray] w fun e w' => ∃ A' cap', e = .returned (.slice A' (tickCoord x).length cap') ∧ (tickCoord x).length ≤ cap' ∧ cap' ≤ maxLen ∧ Row true w' A' cap' (tickCoord x) (rng w.heap.size w'.heap.size) ∧ Below w.heap.size w w' := by
  obtain ⟨hlv, hld, hls, hlt⟩ := coord_lens x hsz
  obtain ⟨A0, k0, S0, A1, k1, S1, A2, k2, S2, A3, k3, S3, A4, k4, S4, A5, k5, S5, rfl, f0, f1, f2, a0, b0, r0, s0, a1, b1, r1, s1, a2, b2, r2, s2, a3, b3, r3, s3, a4, b4, r4, s4, a5, b5, r5, s5, pw⟩ := Coord.open hx
  clear hx r0 r1 r2 s0 s1 s2 s3 s4 s5 pw a0 b0 a1 b1 S0 S1 S2
  have HA := Lib.hid (ask_yes hA)
  have hm : m < x.tries.length := by omega
  have HD := Lib.hid (done_yes c1 c2 hm)
  obtain ⟨bt, ot, rfl, hlt3, g0, g1⟩ := Row.int r3 hm
  obtain ⟨v, hv⟩ : ∃ v, x.tries[m] = v := ⟨_, rfl⟩
  rw [hv] at g0 g1 HD
  clear hv
  have d1 : ((x.seals.length : Int) == (x.tries.length : Int)) = true := by rw [c1]; simp
  have d2 : decide ((0 : Int) < (x.seals.length : Int)) = true := by rw [decide_eq_true_iff]; omega
  have d2p : 0 < x.seals.length := by omega
  have d3 : (x.seals.length : Int) - 1 = (m : Int) := by omega
  have dp : (0 : Int) ≤ (m : Int) := by omega
  have dl : (m : Int) < (x.tries.length : Int) := by omega
  have dl2 : (m : Int) ≤ (x.tries.length : Int) := by omega
  have dw : IntKind.i64.wrap ((x.seals.length : Int) - 1) = (x.seals.length : Int) - 1 := by rw [Go.IntWalk.i64_left]; exact Go.IntWalk.wrap64_in _ (by omega)
  have dw1 : IntKind.i64.wrap (m : Int) = (m : Int) := by rw [Go.IntWalk.i64_left]; exact Go.IntWalk.wrap64_in _ (by omega)
  have HT := Lib.hid (tick_yes hu)
  have hal := tickAsk_len x
  have hdl := tickDone_len x
  simp only [Coord.cs]
  rw [hu, hA]
  have hs64 : I64 (x.seals.length : Int) := by unfold I64; omega
  have hs65 : I64 ((x.seals.length : Int) + 1) := by unfold I64; omega
  clear hu hA c1 c2
  go_enter Try.func50, Try.ntmps50
  go_wp2
  generalize hW : w.alloc (.cells #[_, _, _, _, _, _, _, _, _, _, _] _) = W
  have hWB : Below w.heap.size w W := by rw [← hW]; exact (Below.refl _ _).alloc (Nat.le_refl _) _
  have hWs : w.heap.size < W.heap.size := by rw [← hW]; simp
  have hWl : w.heap.size ≤ W.heap.size := by omega
  have hWe : Hid (w.heap.size + 1 = W.heap.size) := Lib.hid (by rw [← hW]; simp)
  have q2 : W.cell? ⟨w.heap.size, 2, none⟩ = some (.bool true) := by rw [← hW]; exact box_cell _ _ _ _ _ rfl
  have q5 : W.cell? ⟨w.heap.size, 5, none⟩ = some (.slice A2 x.seals.length k2) := by rw [← hW]; exact box_cell _ _ _ _ _ rfl
  have q6 : W.cell? ⟨w.heap.size, 6, none⟩ = some (.slice (some ⟨bt, ot, none⟩) x.tries.length k3) := by rw [← hW]; exact box_cell _ _ _ _ _ rfl
  have q7 : W.cell? ⟨w.heap.size, 7, none⟩ = some (.int .i64 x.try_) := by rw [← hW]; exact box_cell _ _ _ _ _ rfl
  have q8 : W.cell? ⟨w.heap.size, 8, none⟩ = some (.bool true) := by rw [← hW]; exact box_cell _ _ _ _ _ rfl
  have q9 : W.cell? ⟨w.heap.size, 9, none⟩ = some (.slice A4 x.votes.length k4) := by rw [← hW]; exact box_cell _ _ _ _ _ rfl
  have q10 : W.cell? ⟨w.heap.size, 10, none⟩ = some (.slice A5 x.dones.length k5) := by rw [← hW]; exact box_cell _ _ _ _ _ rfl
  clear hW
  replace r3 := Row.later r3 hWB
  replace r4 := Row.later r4 hWB
  replace r5 := Row.later r5 hWB
  replace g0 := (hWB.cell (p := ⟨bt, ot + m, none⟩) hlt3).trans g0
  replace hlt3 := Nat.lt_trans hlt3 hWs
  go_loopw [3, 4] (fun u i wr => ∃ (k : Nat) (ys : List Letter) (A : Option Addr) (cap : Nat), k ≤ x.votes.length ∧ i = .int .i64 k ∧ u = .slice A ys.length cap ∧ Hid (ys = shardsOf (voteP x.votes) (tickL 1 ((x.seals.length : Int) + 1) x.try_) k) ∧ ys.length ≤ k ∧ ys.length ≤ cap ∧ cap ≤ maxLen ∧ Row true wr A cap ys (nw W.heap.size) ∧ Below W.heap.size W wr) (fun _ i _ => x.votes.length - (intOf i).toNat)
  case atStart => exact ⟨0, [], _, _, Nat.zero_le _, rfl, rfl, Lib.hid rfl, by simp, by simp, by decide, row_lit0b _ _ _ _ hWe.out rfl (Nat.le_refl _), (Below.refl _ _).alloc (Nat.le_refl _) _⟩
  case round =>
    obtain ⟨k, ys, A, cap, hk, rfl, rfl, hys, hyk, hle, hcm2, hrow, hb⟩ := hrel
    have hz := hb.size
    have q2' := (hb.cell (p := ⟨w.heap.size, 2, none⟩) hWs).trans q2
    have q5' := (hb.cell (p := ⟨w.heap.size, 5, none⟩) hWs).trans q5
    have q6' := (hb.cell (p := ⟨w.heap.size, 6, none⟩) hWs).trans q6
    have q7' := (hb.cell (p := ⟨w.heap.size, 7, none⟩) hWs).trans q7
    have q8' := (hb.cell (p := ⟨w.heap.size, 8, none⟩) hWs).trans q8
    have q9' := (hb.cell (p := ⟨w.heap.size, 9, none⟩) hWs).trans q9
    have q10' := (hb.cell (p := ⟨w.heap.size, 10, none⟩) hWs).trans q10
    have g0' := (hb.cell (p := ⟨bt, ot + m, none⟩) hlt3).trans g0
    have hltw : bt < wr.heap.size := Nat.lt_of_lt_of_le hlt3 hz
    have hwr : w.heap.size < wr.heap.size := by omega
    by_cases hlt : k < x.votes.length
    · obtain ⟨b1, o1, rfl, hl1, f0, f0s⟩ := Row.str r4 hlt
      replace f0 := (hb.cell (p := ⟨b1, o1 + k, none⟩) hl1).trans f0
      have hl2 : b1 < wr.heap.size := Nat.lt_of_lt_of_le hl1 hz
      have hp := voteP_at hlt
      obtain ⟨s, hs⟩ : ∃ s, x.votes[k] = s := ⟨_, rfl⟩
      rw [hs] at f0 hp f0s
      clear hs
      have hok := tickL_ok (kind := 1) (by unfold I64; omega) hs65 f2 (i := k) (by omega)
      by_cases he : s = ⟨#[]⟩
      · have HY := Lib.hid (shardsOf_yes (mk := (tickL 1 ((x.seals.length : Int) + 1) x.try_)) (hp.trans (decide_eq_true he)))
        have hsb : s.toList.isEmpty = true := by rw [isE_dec]; exact decide_eq_true he
        clear hp he
        have hz2 : W.heap.size ≤ (wr.alloc (.cells #[.int .i64 1, .int .i64 0, .int .i64 ((k : Int) + 1), .int .i64 ((x.seals.length : Int) + 1), .int .i64 x.try_, .string ⟨#[]⟩] 151)).heap.size := by simp; omega
        go_wp2_with (at_builtin; refine wpList_app (α := Letter) rfl _ _ rfl rfl rfl (hrow.allocC _) hle hcm2 rfl rfl (src_newb _ ((tickL 1 ((x.seals.length : Int) + 1) x.try_) k) hok _ _ _ (by first | rfl | simp) rfl) (disj_none_ _) (by omega) ?_; intro A' cap' w' h1 h2 h3 h4)
        go_roundw
        case rel => exact ⟨k + 1, ys ++ [(tickL 1 ((x.seals.length : Int) + 1) x.try_) k], A', cap', by omega, by go_num, by simp, Lib.hid (by rw [HY.out, hys.out]; first | done | rfl | simp), by simp; omega, by simpa using h1, h2, row_step h3 hz2, (hb.alloc hz _).trans (h4.nw hz2 (sub_refl _))⟩
        case measure => simp [intOf]; omega
      · have HN := Lib.hid (shardsOf_no (mk := (tickL 1 ((x.seals.length : Int) + 1) x.try_)) (hp.trans (decide_eq_false he)))
        have hsb : s.toList.isEmpty = false := by rw [isE_dec]; exact decide_eq_false he
        clear hp he
        go_wp2
        go_roundw
        case rel => exact ⟨k + 1, ys, A, cap, by omega, by go_num, rfl, Lib.hid (by rw [HN.out, hys.out]), by omega, hle, hcm2, hrow, hb⟩
        case measure => simp [intOf]; omega
    · have hke : k = x.votes.length := by omega
      subst hke
      have hyy : ys = tickAsk x := by rw [hys.out, HA.out]
      subst hyy
      clear hyk hk hys hlt
      go_wp2
      clear q2'
      clear q7'
      clear q8'
      clear q9'
      go_loopw [3, 6] (fun u i wr => ∃ (k : Nat) (ys : List Letter) (A : Option Addr) (cap : Nat), k ≤ x.dones.length ∧ i = .int .i64 k ∧ u = .slice A ys.length cap ∧ Hid (ys = tickAsk x ++ shardsOf (doneP x.dones) (tickL 4 (x.seals.length : Int) v) k) ∧ ys.length ≤ x.votes.length + k ∧ ys.length ≤ cap ∧ cap ≤ maxLen ∧ Row true wr A cap ys (nw W.heap.size) ∧ Below W.heap.size W wr) (fun _ i _ => x.dones.length - (intOf i).toNat)
      case atStart => exact ⟨0, tickAsk x, A, cap, Nat.zero_le _, rfl, rfl, Lib.hid (by simp [shardsOf]), by simp; try omega, hle, hcm2, hrow, hb⟩
      case round =>
        clear hb hrow hle hcm2 hz
        obtain ⟨k, ys, A, cap, hk, rfl, rfl, hys, hyk, hle, hcm2, hrow, hb⟩ := hrel
        have hz := hb.size
        have q2' := (hb.cell (p := ⟨w.heap.size, 2, none⟩) hWs).trans q2
        have q5' := (hb.cell (p := ⟨w.heap.size, 5, none⟩) hWs).trans q5
        have q6' := (hb.cell (p := ⟨w.heap.size, 6, none⟩) hWs).trans q6
        have q7' := (hb.cell (p := ⟨w.heap.size, 7, none⟩) hWs).trans q7
        have q8' := (hb.cell (p := ⟨w.heap.size, 8, none⟩) hWs).trans q8
        have q9' := (hb.cell (p := ⟨w.heap.size, 9, none⟩) hWs).trans q9
        have q10' := (hb.cell (p := ⟨w.heap.size, 10, none⟩) hWs).trans q10
        have g0' := (hb.cell (p := ⟨bt, ot + m, none⟩) hlt3).trans g0
        have hltw : bt < wr.heap.size := Nat.lt_of_lt_of_le hlt3 hz
        have hwr : w.heap.size < wr.heap.size := by omega
        by_cases hlt : k < x.dones.length
        · obtain ⟨b1, o1, rfl, hl1, f0⟩ := Row.bool r5 hlt
          replace f0 := (hb.cell (p := ⟨b1, o1 + k, none⟩) hl1).trans f0
          have hl2 : b1 < wr.heap.size := Nat.lt_of_lt_of_le hl1 hz
          have hp := doneP_at hlt
          obtain ⟨s, hs⟩ : ∃ s, x.dones[k] = s := ⟨_, rfl⟩
          rw [hs] at f0 hp
          clear hs
          have hok := tickL_ok (kind := 4) (by unfold I64; omega) hs64 g1 (i := k) (by omega)
          cases s
          · have HY := Lib.hid (shardsOf_yes (mk := (tickL 4 (x.seals.length : Int) v)) hp)
            clear hp
            have hz2 : W.heap.size ≤ (wr.alloc (.cells #[.int .i64 4, .int .i64 0, .int .i64 ((k : Int) + 1), .int .i64 (x.seals.length : Int), .int .i64 v, .string ⟨#[]⟩] 151)).heap.size := by simp; omega
            go_wp2_with (at_builtin; refine wpList_app (α := Letter) rfl _ _ rfl rfl rfl (hrow.allocC _) hle hcm2 rfl rfl (src_newb _ ((tickL 4 (x.seals.length : Int) v) k) hok _ _ _ (by first | rfl | simp) rfl) (disj_none_ _) (by omega) ?_; intro A' cap' w' h1 h2 h3 h4)
            go_roundw
            case rel => exact ⟨k + 1, ys ++ [(tickL 4 (x.seals.length : Int) v) k], A', cap', by omega, by go_num, by simp, Lib.hid (by rw [HY.out, hys.out]; first | done | rfl | simp), by simp; omega, by simpa using h1, h2, row_step h3 hz2, (hb.alloc hz _).trans (h4.nw hz2 (sub_refl _))⟩
            case measure => simp [intOf]; omega
          · have HN := Lib.hid (shardsOf_no (mk := (tickL 4 (x.seals.length : Int) v)) hp)
            clear hp
            go_wp2
            go_roundw
            case rel => exact ⟨k + 1, ys, A, cap, by omega, by go_num, rfl, Lib.hid (by rw [HN.out, hys.out]), by omega, hle, hcm2, hrow, hb⟩
            case measure => simp [intOf]; omega
        · have hke : k = x.dones.length := by omega
          subst hke
          have hyy : ys = tickCoord x := by rw [hys.out, HT.out, HD.out]
          subst hyy
          go_wp2
          go_ret
          exact ⟨A, cap, rfl, hle, hcm2, (to_rng hrow).mono (rngS hWl (Nat.le_refl _)), hWB.trans (hb.mono hWl)⟩

set_option maxRecDepth 20000 in set_option maxHeartbeats 3000000 in
theorem spec_tick_a1 (w : World) (x : Coord) (cs : List Value) (S : Blks) (hx : rd false w cs x S) (hsz : x.sz ≤ 1048576) (hu : x.up = true) (hA : x.asking = true) (c1 : ¬ x.tries.length = x.seals.length) : Calls Try.prog 50 #[.agg cs.toArray] w fun e w' => ∃ A' cap', e = .returned (.slice A' (tickCoord x).length cap') ∧ (tickCoord x).length ≤ cap' ∧ cap' ≤ maxLen ∧ Row true w' A' cap' (tickCoord x) (rng w.heap.size w'.heap.size) ∧ Below w.heap.size w w' := by
  obtain ⟨hlv, hld, hls, hlt⟩ := coord_lens x hsz
  obtain ⟨A0, k0, S0, A1, k1, S1, A2, k2, S2, A3, k3, S3, A4, k4, S4, A5, k5, S5, rfl, f0, f1, f2, a0, b0, r0, s0, a1, b1, r1, s1, a2, b2, r2, s2, a3, b3, r3, s3, a4, b4, r4, s4, a5, b5, r5, s5, pw⟩ := Coord.open hx
  clear hx r0 r1 r2 s0 s1 s2 s3 s4 s5 pw a0 b0 a1 b1 S0 S1 S2
  have HA := Lib.hid (ask_yes hA)
  have HD := Lib.hid (done_no (fun h => c1 h.1))
  have d1 : ((x.seals.length : Int) == (x.tries.length : Int)) = false := by rw [beq_eq_false_iff_ne]; omega
  have HT := Lib.hid (tick_yes hu)
  have hal := tickAsk_len x
  have hdl := tickDone_len x
  simp only [Coord.cs]
  rw [hu, hA]
  have hs64 : I64 (x.seals.length : Int) := by unfold I64; omega
  have hs65 : I64 ((x.seals.length : Int) + 1) := by unfold I64; omega
  clear hu hA c1
  go_enter Try.func50, Try.ntmps50
  go_wp2
  generalize hW : w.alloc (.cells #[_, _, _, _, _, _, _, _, _, _, _] _) = W
  have hWB : Below w.heap.size w W := by rw [← hW]; exact (Below.refl _ _).alloc (Nat.le_refl _) _
  have hWs : w.heap.size < W.heap.size := by rw [← hW]; simp
  have hWl : w.heap.size ≤ W.heap.size := by omega
  have hWe : Hid (w.heap.size + 1 = W.heap.size) := Lib.hid (by rw [← hW]; simp)
  have q2 : W.cell? ⟨w.heap.size, 2, none⟩ = some (.bool true) := by rw [← hW]; exact box_cell _ _ _ _ _ rfl
  have q5 : W.cell? ⟨w.heap.size, 5, none⟩ = some (.slice A2 x.seals.length k2) := by rw [← hW]; exact box_cell _ _ _ _ _ rfl
  have q6 : W.cell? ⟨w.heap.size, 6, none⟩ = some (.slice A3 x.tries.length k3) := by rw [← hW]; exact box_cell _ _ _ _ _ rfl
  have q7 : W.cell? ⟨w.heap.size, 7, none⟩ = some (.int .i64 x.try_) := by rw [← hW]; exact box_cell _ _ _ _ _ rfl
  have q8 : W.cell? ⟨w.heap.size, 8, none⟩ = some (.bool true) := by rw [← hW]; exact box_cell _ _ _ _ _ rfl
  have q9 : W.cell? ⟨w.heap.size, 9, none⟩ = some (.slice A4 x.votes.length k4) := by rw [← hW]; exact box_cell _ _ _ _ _ rfl
  have q10 : W.cell? ⟨w.heap.size, 10, none⟩ = some (.slice A5 x.dones.length k5) := by rw [← hW]; exact box_cell _ _ _ _ _ rfl
  clear hW
  replace r3 := Row.later r3 hWB
  replace r4 := Row.later r4 hWB
  replace r5 := Row.later r5 hWB
  go_loopw [3, 4] (fun u i wr => ∃ (k : Nat) (ys : List Letter) (A : Option Addr) (cap : Nat), k ≤ x.votes.length ∧ i = .int .i64 k ∧ u = .slice A ys.length cap ∧ Hid (ys = shardsOf (voteP x.votes) (tickL 1 ((x.seals.length : Int) + 1) x.try_) k) ∧ ys.length ≤ k ∧ ys.length ≤ cap ∧ cap ≤ maxLen ∧ Row true wr A cap ys (nw W.heap.size) ∧ Below W.heap.size W wr) (fun _ i _ => x.votes.length - (intOf i).toNat)
  case atStart => exact ⟨0, [], _, _, Nat.zero_le _, rfl, rfl, Lib.hid rfl, by simp, by simp, by decide, row_lit0b _ _ _ _ hWe.out rfl (Nat.le_refl _), (Below.refl _ _).alloc (Nat.le_refl _) _⟩
  case round =>
    obtain ⟨k, ys, A, cap, hk, rfl, rfl, hys, hyk, hle, hcm2, hrow, hb⟩ := hrel
    have hz := hb.size
    have q2' := (hb.cell (p := ⟨w.heap.size, 2, none⟩) hWs).trans q2
    have q5' := (hb.cell (p := ⟨w.heap.size, 5, none⟩) hWs).trans q5
    have q6' := (hb.cell (p := ⟨w.heap.size, 6, none⟩) hWs).trans q6
    have q7' := (hb.cell (p := ⟨w.heap.size, 7, none⟩) hWs).trans q7
    have q8' := (hb.cell (p := ⟨w.heap.size, 8, none⟩) hWs).trans q8
    have q9' := (hb.cell (p := ⟨w.heap.size, 9, none⟩) hWs).trans q9
    have q10' := (hb.cell (p := ⟨w.heap.size, 10, none⟩) hWs).trans q10
    have hwr : w.heap.size < wr.heap.size := by omega
    by_cases hlt : k < x.votes.length
    · obtain ⟨b1, o1, rfl, hl1, f0, f0s⟩ := Row.str r4 hlt
      replace f0 := (hb.cell (p := ⟨b1, o1 + k, none⟩) hl1).trans f0
      have hl2 : b1 < wr.heap.size := Nat.lt_of_lt_of_le hl1 hz
      have hp := voteP_at hlt
      obtain ⟨s, hs⟩ : ∃ s, x.votes[k] = s := ⟨_, rfl⟩
      rw [hs] at f0 hp f0s
      clear hs
      have hok := tickL_ok (kind := 1) (by unfold I64; omega) hs65 f2 (i := k) (by omega)
      by_cases he : s = ⟨#[]⟩
      · have HY := Lib.hid (shardsOf_yes (mk := (tickL 1 ((x.seals.length : Int) + 1) x.try_)) (hp.trans (decide_eq_true he)))
        have hsb : s.toList.isEmpty = true := by rw [isE_dec]; exact decide_eq_true he
        clear hp he
        have hz2 : W.heap.size ≤ (wr.alloc (.cells #[.int .i64 1, .int .i64 0, .int .i64 ((k : Int) + 1), .int .i64 ((x.seals.length : Int) + 1), .int .i64 x.try_, .string ⟨#[]⟩] 151)).heap.size := by simp; omega
        go_wp2_with (at_builtin; refine wpList_app (α := Letter) rfl _ _ rfl rfl rfl (hrow.allocC _) hle hcm2 rfl rfl (src_newb _ ((tickL 1 ((x.seals.length : Int) + 1) x.try_) k) hok _ _ _ (by first | rfl | simp) rfl) (disj_none_ _) (by omega) ?_; intro A' cap' w' h1 h2 h3 h4)
        go_roundw
        case rel => exact ⟨k + 1, ys ++ [(tickL 1 ((x.seals.length : Int) + 1) x.try_) k], A', cap', by omega, by go_num, by simp, Lib.hid (by rw [HY.out, hys.out]; first | done | rfl | simp), by simp; omega, by simpa using h1, h2, row_step h3 hz2, (hb.alloc hz _).trans (h4.nw hz2 (sub_refl _))⟩
        case measure => simp [intOf]; omega
      · have HN := Lib.hid (shardsOf_no (mk := (tickL 1 ((x.seals.length : Int) + 1) x.try_)) (hp.trans (decide_eq_false he)))
        have hsb : s.toList.isEmpty = false := by rw [isE_dec]; exact decide_eq_false he
        clear hp he
        go_wp2
        go_roundw
        case rel => exact ⟨k + 1, ys, A, cap, by omega, by go_num, rfl, Lib.hid (by rw [HN.out, hys.out]), by omega, hle, hcm2, hrow, hb⟩
        case measure => simp [intOf]; omega
    · have hke : k = x.votes.length := by omega
      subst hke
      have hyy : ys = tickAsk x := by rw [hys.out, HA.out]
      subst hyy
      clear hyk hk hys hlt
      go_wp2
      clear q2'
      clear q7'
      clear q8'
      clear q9'
      have hyy : tickAsk x = tickCoord x := by rw [HT.out, HD.out]; simp
      replace hyy := Lib.hid hyy
      go_loopw [3, 6] (fun u i wr' => wr' = wr ∧ i = .int .i64 0 ∧ u = .slice A (tickAsk x).length cap) (fun _ _ _ => 0)
      case atStart => exact ⟨rfl, rfl, rfl⟩
      case round =>
        obtain ⟨rfl, rfl, rfl⟩ := hrel
        rcases Nat.eq_zero_or_pos x.dones.length with hd0 | hd0
        · have hdd : decide ((0 : Int) < (x.dones.length : Int)) = false := by rw [decide_eq_false_iff_not]; omega
          have hdn : ¬ 0 < x.dones.length := by omega
          clear hd0
          go_wp2
          all_goals go_ret
          all_goals exact ⟨A, cap, ret_slice (by rw [← hyy.out] <;> rfl), by rw [← hyy.out]; exact hle, hcm2, by rw [← hyy.out]; exact (to_rng hrow).mono (rngS hWl (Nat.le_refl _)), hWB.trans (hb.mono hWl)⟩
        · have hdd : decide ((0 : Int) < (x.dones.length : Int)) = true := by rw [decide_eq_true_iff]; omega
          go_wp2
          all_goals go_ret
          all_goals exact ⟨A, cap, ret_slice (by rw [← hyy.out] <;> rfl), by rw [← hyy.out]; exact hle, hcm2, by rw [← hyy.out]; exact (to_rng hrow).mono (rngS hWl (Nat.le_refl _)), hWB.trans (hb.mono hWl)⟩

set_option maxRecDepth 20000 in set_option maxHeartbeats 3000000 in
theorem spec_tick_a2 (w : World) (x : Coord) (cs : List Value) (S : Blks) (hx : rd false w cs x S) (hsz : x.sz ≤ 1048576) (hu : x.up = true) (hA : x.asking = true) (c1 : x.tries.length = x.seals.length) (c2 : x.seals.length = 0) : Calls Try.prog 50 #[.agg cs.toArray] w fun e w' => ∃ A' cap', e = .returned (.slice A' (tickCoord x).length cap') ∧ (tickCoord x).length ≤ cap' ∧ cap' ≤ maxLen ∧ Row true w' A' cap' (tickCoord x) (rng w.heap.size w'.heap.size) ∧ Below w.heap.size w w' := by
  obtain ⟨hlv, hld, hls, hlt⟩ := coord_lens x hsz
  obtain ⟨A0, k0, S0, A1, k1, S1, A2, k2, S2, A3, k3, S3, A4, k4, S4, A5, k5, S5, rfl, f0, f1, f2, a0, b0, r0, s0, a1, b1, r1, s1, a2, b2, r2, s2, a3, b3, r3, s3, a4, b4, r4, s4, a5, b5, r5, s5, pw⟩ := Coord.open hx
  clear hx r0 r1 r2 s0 s1 s2 s3 s4 s5 pw a0 b0 a1 b1 S0 S1 S2
  have HA := Lib.hid (ask_yes hA)
  have HD := Lib.hid (done_no (x := x) (by omega))
  have d1 : ((x.seals.length : Int) == (x.tries.length : Int)) = true := by rw [c1]; simp
  have d2 : decide ((0 : Int) < (x.seals.length : Int)) = false := by rw [decide_eq_false_iff_not]; omega
  have d2n : ¬ 0 < x.seals.length := by omega
  have HT := Lib.hid (tick_yes hu)
  have hal := tickAsk_len x
  have hdl := tickDone_len x
  simp only [Coord.cs]
  rw [hu, hA]
  have hs64 : I64 (x.seals.length : Int) := by unfold I64; omega
  have hs65 : I64 ((x.seals.length : Int) + 1) := by unfold I64; omega
  clear hu hA c1 c2
  go_enter Try.func50, Try.ntmps50
  go_wp2
  generalize hW : w.alloc (.cells #[_, _, _, _, _, _, _, _, _, _, _] _) = W
  have hWB : Below w.heap.size w W := by rw [← hW]; exact (Below.refl _ _).alloc (Nat.le_refl _) _
  have hWs : w.heap.size < W.heap.size := by rw [← hW]; simp
  have hWl : w.heap.size ≤ W.heap.size := by omega
  have hWe : Hid (w.heap.size + 1 = W.heap.size) := Lib.hid (by rw [← hW]; simp)
  have q2 : W.cell? ⟨w.heap.size, 2, none⟩ = some (.bool true) := by rw [← hW]; exact box_cell _ _ _ _ _ rfl
  have q5 : W.cell? ⟨w.heap.size, 5, none⟩ = some (.slice A2 x.seals.length k2) := by rw [← hW]; exact box_cell _ _ _ _ _ rfl
  have q6 : W.cell? ⟨w.heap.size, 6, none⟩ = some (.slice A3 x.tries.length k3) := by rw [← hW]; exact box_cell _ _ _ _ _ rfl
  have q7 : W.cell? ⟨w.heap.size, 7, none⟩ = some (.int .i64 x.try_) := by rw [← hW]; exact box_cell _ _ _ _ _ rfl
  have q8 : W.cell? ⟨w.heap.size, 8, none⟩ = some (.bool true) := by rw [← hW]; exact box_cell _ _ _ _ _ rfl
  have q9 : W.cell? ⟨w.heap.size, 9, none⟩ = some (.slice A4 x.votes.length k4) := by rw [← hW]; exact box_cell _ _ _ _ _ rfl
  have q10 : W.cell? ⟨w.heap.size, 10, none⟩ = some (.slice A5 x.dones.length k5) := by rw [← hW]; exact box_cell _ _ _ _ _ rfl
  clear hW
  replace r3 := Row.later r3 hWB
  replace r4 := Row.later r4 hWB
  replace r5 := Row.later r5 hWB
  go_loopw [3, 4] (fun u i wr => ∃ (k : Nat) (ys : List Letter) (A : Option Addr) (cap : Nat), k ≤ x.votes.length ∧ i = .int .i64 k ∧ u = .slice A ys.length cap ∧ Hid (ys = shardsOf (voteP x.votes) (tickL 1 ((x.seals.length : Int) + 1) x.try_) k) ∧ ys.length ≤ k ∧ ys.length ≤ cap ∧ cap ≤ maxLen ∧ Row true wr A cap ys (nw W.heap.size) ∧ Below W.heap.size W wr) (fun _ i _ => x.votes.length - (intOf i).toNat)
  case atStart => exact ⟨0, [], _, _, Nat.zero_le _, rfl, rfl, Lib.hid rfl, by simp, by simp, by decide, row_lit0b _ _ _ _ hWe.out rfl (Nat.le_refl _), (Below.refl _ _).alloc (Nat.le_refl _) _⟩
  case round =>
    obtain ⟨k, ys, A, cap, hk, rfl, rfl, hys, hyk, hle, hcm2, hrow, hb⟩ := hrel
    have hz := hb.size
    have q2' := (hb.cell (p := ⟨w.heap.size, 2, none⟩) hWs).trans q2
    have q5' := (hb.cell (p := ⟨w.heap.size, 5, none⟩) hWs).trans q5
    have q6' := (hb.cell (p := ⟨w.heap.size, 6, none⟩) hWs).trans q6
    have q7' := (hb.cell (p := ⟨w.heap.size, 7, none⟩) hWs).trans q7
    have q8' := (hb.cell (p := ⟨w.heap.size, 8, none⟩) hWs).trans q8
    have q9' := (hb.cell (p := ⟨w.heap.size, 9, none⟩) hWs).trans q9
    have q10' := (hb.cell (p := ⟨w.heap.size, 10, none⟩) hWs).trans q10
    have hwr : w.heap.size < wr.heap.size := by omega
    by_cases hlt : k < x.votes.length
    · obtain ⟨b1, o1, rfl, hl1, f0, f0s⟩ := Row.str r4 hlt
      replace f0 := (hb.cell (p := ⟨b1, o1 + k, none⟩) hl1).trans f0
      have hl2 : b1 < wr.heap.size := Nat.lt_of_lt_of_le hl1 hz
      have hp := voteP_at hlt
      obtain ⟨s, hs⟩ : ∃ s, x.votes[k] = s := ⟨_, rfl⟩
      rw [hs] at f0 hp f0s
      clear hs
      have hok := tickL_ok (kind := 1) (by unfold I64; omega) hs65 f2 (i := k) (by omega)
      by_cases he : s = ⟨#[]⟩
      · have HY := Lib.hid (shardsOf_yes (mk := (tickL 1 ((x.seals.length : Int) + 1) x.try_)) (hp.trans (decide_eq_true he)))
        have hsb : s.toList.isEmpty = true := by rw [isE_dec]; exact decide_eq_true he
        clear hp he
        have hz2 : W.heap.size ≤ (wr.alloc (.cells #[.int .i64 1, .int .i64 0, .int .i64 ((k : Int) + 1), .int .i64 ((x.seals.length : Int) + 1), .int .i64 x.try_, .string ⟨#[]⟩] 151)).heap.size := by simp; omega
        go_wp2_with (at_builtin; refine wpList_app (α := Letter) rfl _ _ rfl rfl rfl (hrow.allocC _) hle hcm2 rfl rfl (src_newb _ ((tickL 1 ((x.seals.length : Int) + 1) x.try_) k) hok _ _ _ (by first | rfl | simp) rfl) (disj_none_ _) (by omega) ?_; intro A' cap' w' h1 h2 h3 h4)
        go_roundw
        case rel => exact ⟨k + 1, ys ++ [(tickL 1 ((x.seals.length : Int) + 1) x.try_) k], A', cap', by omega, by go_num, by simp, Lib.hid (by rw [HY.out, hys.out]; first | done | rfl | simp), by simp; omega, by simpa using h1, h2, row_step h3 hz2, (hb.alloc hz _).trans (h4.nw hz2 (sub_refl _))⟩
        case measure => simp [intOf]; omega
      · have HN := Lib.hid (shardsOf_no (mk := (tickL 1 ((x.seals.length : Int) + 1) x.try_)) (hp.trans (decide_eq_false he)))
        have hsb : s.toList.isEmpty = false := by rw [isE_dec]; exact decide_eq_false he
        clear hp he
        go_wp2
        go_roundw
        case rel => exact ⟨k + 1, ys, A, cap, by omega, by go_num, rfl, Lib.hid (by rw [HN.out, hys.out]), by omega, hle, hcm2, hrow, hb⟩
        case measure => simp [intOf]; omega
    · have hke : k = x.votes.length := by omega
      subst hke
      have hyy : ys = tickAsk x := by rw [hys.out, HA.out]
      subst hyy
      clear hyk hk hys hlt
      go_wp2
      clear q2'
      clear q7'
      clear q8'
      clear q9'
      have hyy : tickAsk x = tickCoord x := by rw [HT.out, HD.out]; simp
      replace hyy := Lib.hid hyy
      go_loopw [3, 6] (fun u i wr' => wr' = wr ∧ i = .int .i64 0 ∧ u = .slice A (tickAsk x).length cap) (fun _ _ _ => 0)
      case atStart => exact ⟨rfl, rfl, rfl⟩
      case round =>
        obtain ⟨rfl, rfl, rfl⟩ := hrel
        rcases Nat.eq_zero_or_pos x.dones.length with hd0 | hd0
        · have hdd : decide ((0 : Int) < (x.dones.length : Int)) = false := by rw [decide_eq_false_iff_not]; omega
          have hdn : ¬ 0 < x.dones.length := by omega
          clear hd0
          go_wp2
          all_goals go_ret
          all_goals exact ⟨A, cap, ret_slice (by rw [← hyy.out] <;> rfl), by rw [← hyy.out]; exact hle, hcm2, by rw [← hyy.out]; exact (to_rng hrow).mono (rngS hWl (Nat.le_refl _)), hWB.trans (hb.mono hWl)⟩
        · have hdd : decide ((0 : Int) < (x.dones.length : Int)) = true := by rw [decide_eq_true_iff]; omega
          go_wp2
          all_goals go_ret
          all_goals exact ⟨A, cap, ret_slice (by rw [← hyy.out] <;> rfl), by rw [← hyy.out]; exact hle, hcm2, by rw [← hyy.out]; exact (to_rng hrow).mono (rngS hWl (Nat.le_refl _)), hWB.trans (hb.mono hWl)⟩

set_option maxRecDepth 20000 in set_option maxHeartbeats 3000000 in
theorem spec_tick_n0 (w : World) (x : Coord) (cs : List Value) (S : Blks) (hx : rd false w cs x S) (hsz : x.sz ≤ 1048576) (hu : x.up = true) (hA : x.asking = false) (m : Nat) (c1 : x.tries.length = x.seals.length) (c2 : x.seals.length = m + 1) : Calls Try.prog 50 #[.agg cs.toArray] w fun e w' => ∃ A' cap', e = .returned (.slice A' (tickCoord x).length cap') ∧ (tickCoord x).length ≤ cap' ∧ cap' ≤ maxLen ∧ Row true w' A' cap' (tickCoord x) (rng w.heap.size w'.heap.size) ∧ Below w.heap.size w w' := by
  obtain ⟨hlv, hld, hls, hlt⟩ := coord_lens x hsz
  obtain ⟨A0, k0, S0, A1, k1, S1, A2, k2, S2, A3, k3, S3, A4, k4, S4, A5, k5, S5, rfl, f0, f1, f2, a0, b0, r0, s0, a1, b1, r1, s1, a2, b2, r2, s2, a3, b3, r3, s3, a4, b4, r4, s4, a5, b5, r5, s5, pw⟩ := Coord.open hx
  clear hx r0 r1 r2 s0 s1 s2 s3 s4 s5 pw a0 b0 a1 b1 S0 S1 S2
  have HA := Lib.hid (ask_no hA)
  have hm : m < x.tries.length := by omega
  have HD := Lib.hid (done_yes c1 c2 hm)
  obtain ⟨bt, ot, rfl, hlt3, g0, g1⟩ := Row.int r3 hm
  obtain ⟨v, hv⟩ : ∃ v, x.tries[m] = v := ⟨_, rfl⟩
  rw [hv] at g0 g1 HD
  clear hv
  have d1 : ((x.seals.length : Int) == (x.tries.length : Int)) = true := by rw [c1]; simp
  have d2 : decide ((0 : Int) < (x.seals.length : Int)) = true := by rw [decide_eq_true_iff]; omega
  have d2p : 0 < x.seals.length := by omega
  have d3 : (x.seals.length : Int) - 1 = (m : Int) := by omega
  have dp : (0 : Int) ≤ (m : Int) := by omega
  have dl : (m : Int) < (x.tries.length : Int) := by omega
  have dl2 : (m : Int) ≤ (x.tries.length : Int) := by omega
  have dw : IntKind.i64.wrap ((x.seals.length : Int) - 1) = (x.seals.length : Int) - 1 := by rw [Go.IntWalk.i64_left]; exact Go.IntWalk.wrap64_in _ (by omega)
  have dw1 : IntKind.i64.wrap (m : Int) = (m : Int) := by rw [Go.IntWalk.i64_left]; exact Go.IntWalk.wrap64_in _ (by omega)
  have HT := Lib.hid (tick_yes hu)
  have hal := tickAsk_len x
  have hdl := tickDone_len x
  simp only [Coord.cs]
  rw [hu, hA]
  have hs64 : I64 (x.seals.length : Int) := by unfold I64; omega
  have hs65 : I64 ((x.seals.length : Int) + 1) := by unfold I64; omega
  clear hu hA c1 c2
  go_enter Try.func50, Try.ntmps50
  go_wp2
  generalize hW : w.alloc (.cells #[_, _, _, _, _, _, _, _, _, _, _] _) = W
  have hWB : Below w.heap.size w W := by rw [← hW]; exact (Below.refl _ _).alloc (Nat.le_refl _) _
  have hWs : w.heap.size < W.heap.size := by rw [← hW]; simp
  have hWl : w.heap.size ≤ W.heap.size := by omega
  have hWe : Hid (w.heap.size + 1 = W.heap.size) := Lib.hid (by rw [← hW]; simp)
  have q2 : W.cell? ⟨w.heap.size, 2, none⟩ = some (.bool true) := by rw [← hW]; exact box_cell _ _ _ _ _ rfl
  have q5 : W.cell? ⟨w.heap.size, 5, none⟩ = some (.slice A2 x.seals.length k2) := by rw [← hW]; exact box_cell _ _ _ _ _ rfl
  have q6 : W.cell? ⟨w.heap.size, 6, none⟩ = some (.slice (some ⟨bt, ot, none⟩) x.tries.length k3) := by rw [← hW]; exact box_cell _ _ _ _ _ rfl
  have q7 : W.cell? ⟨w.heap.size, 7, none⟩ = some (.int .i64 x.try_) := by rw [← hW]; exact box_cell _ _ _ _ _ rfl
  have q8 : W.cell? ⟨w.heap.size, 8, none⟩ = some (.bool false) := by rw [← hW]; exact box_cell _ _ _ _ _ rfl
  have q9 : W.cell? ⟨w.heap.size, 9, none⟩ = some (.slice A4 x.votes.length k4) := by rw [← hW]; exact box_cell _ _ _ _ _ rfl
  have q10 : W.cell? ⟨w.heap.size, 10, none⟩ = some (.slice A5 x.dones.length k5) := by rw [← hW]; exact box_cell _ _ _ _ _ rfl
  clear hW
  replace r3 := Row.later r3 hWB
  replace r4 := Row.later r4 hWB
  replace r5 := Row.later r5 hWB
  replace g0 := (hWB.cell (p := ⟨bt, ot + m, none⟩) hlt3).trans g0
  replace hlt3 := Nat.lt_trans hlt3 hWs
  go_loopw [3, 4] (fun u i wr => ∃ (A : Option Addr) (cap : Nat), i = .int .i64 0 ∧ u = .slice A 0 cap ∧ cap ≤ maxLen ∧ Row true wr A cap ([] : List Letter) (nw W.heap.size) ∧ Below W.heap.size W wr) (fun _ _ _ => 0)
  case atStart => exact ⟨_, _, rfl, rfl, by decide, row_lit0b _ _ _ _ hWe.out rfl (Nat.le_refl _), (Below.refl _ _).alloc (Nat.le_refl _) _⟩
  case round =>
    obtain ⟨A, cap, rfl, rfl, hcm2, hrow, hb⟩ := hrel
    have hz := hb.size
    have hle : ([] : List Letter).length ≤ cap := Nat.zero_le _
    have q2' := (hb.cell (p := ⟨w.heap.size, 2, none⟩) hWs).trans q2
    have q5' := (hb.cell (p := ⟨w.heap.size, 5, none⟩) hWs).trans q5
    have q6' := (hb.cell (p := ⟨w.heap.size, 6, none⟩) hWs).trans q6
    have q7' := (hb.cell (p := ⟨w.heap.size, 7, none⟩) hWs).trans q7
    have q8' := (hb.cell (p := ⟨w.heap.size, 8, none⟩) hWs).trans q8
    have q9' := (hb.cell (p := ⟨w.heap.size, 9, none⟩) hWs).trans q9
    have q10' := (hb.cell (p := ⟨w.heap.size, 10, none⟩) hWs).trans q10
    have g0' := (hb.cell (p := ⟨bt, ot + m, none⟩) hlt3).trans g0
    have hltw : bt < wr.heap.size := Nat.lt_of_lt_of_le hlt3 hz
    have hwr : w.heap.size < wr.heap.size := by omega
    rcases Nat.eq_zero_or_pos x.votes.length with hv0 | hv0
    · have hvv : decide ((0 : Int) < (x.votes.length : Int)) = false := by rw [decide_eq_false_iff_not]; omega
      have hvn : ¬ 0 < x.votes.length := by omega
      clear hv0
      go_wp2
      clear q2'
      clear q7'
      clear q8'
      clear q9'
      go_loopw [3, 6] (fun u i wr => ∃ (k : Nat) (ys : List Letter) (A : Option Addr) (cap : Nat), k ≤ x.dones.length ∧ i = .int .i64 k ∧ u = .slice A ys.length cap ∧ Hid (ys = tickAsk x ++ shardsOf (doneP x.dones) (tickL 4 (x.seals.length : Int) v) k) ∧ ys.length ≤ x.votes.length + k ∧ ys.length ≤ cap ∧ cap ≤ maxLen ∧ Row true wr A cap ys (nw W.heap.size) ∧ Below W.heap.size W wr) (fun _ i _ => x.dones.length - (intOf i).toNat)
      case atStart => exact ⟨0, ([] : List Letter), A, cap, Nat.zero_le _, rfl, rfl, Lib.hid (by rw [HA.out]; simp [shardsOf]), by simp; try omega, hle, hcm2, hrow, hb⟩
      case round =>
        clear hb hrow hle hcm2 hz
        obtain ⟨k, ys, A, cap, hk, rfl, rfl, hys, hyk, hle, hcm2, hrow, hb⟩ := hrel
        have hz := hb.size
        have q2' := (hb.cell (p := ⟨w.heap.size, 2, none⟩) hWs).trans q2
        have q5' := (hb.cell (p := ⟨w.heap.size, 5, none⟩) hWs).trans q5
        have q6' := (hb.cell (p := ⟨w.heap.size, 6, none⟩) hWs).trans q6
        have q7' := (hb.cell (p := ⟨w.heap.size, 7, none⟩) hWs).trans q7
        have q8' := (hb.cell (p := ⟨w.heap.size, 8, none⟩) hWs).trans q8
        have q9' := (hb.cell (p := ⟨w.heap.size, 9, none⟩) hWs).trans q9
        have q10' := (hb.cell (p := ⟨w.heap.size, 10, none⟩) hWs).trans q10
        have g0' := (hb.cell (p := ⟨bt, ot + m, none⟩) hlt3).trans g0
        have hltw : bt < wr.heap.size := Nat.lt_of_lt_of_le hlt3 hz
        have hwr : w.heap.size < wr.heap.size := by omega
        by_cases hlt : k < x.dones.length
        · obtain ⟨b1, o1, rfl, hl1, f0⟩ := Row.bool r5 hlt
          replace f0 := (hb.cell (p := ⟨b1, o1 + k, none⟩) hl1).trans f0
          have hl2 : b1 < wr.heap.size := Nat.lt_of_lt_of_le hl1 hz
          have hp := doneP_at hlt
          obtain ⟨s, hs⟩ : ∃ s, x.dones[k] = s := ⟨_, rfl⟩
          rw [hs] at f0 hp
          clear hs
          have hok := tickL_ok (kind := 4) (by unfold I64; omega) hs64 g1 (i := k) (by omega)
          cases s
          · have HY := Lib.hid (shardsOf_yes (mk := (tickL 4 (x.seals.length : Int) v)) hp)
            clear hp
            have hz2 : W.heap.size ≤ (wr.alloc (.cells #[.int .i64 4, .int .i64 0, .int .i64 ((k : Int) + 1), .int .i64 (x.seals.length : Int), .int .i64 v, .string ⟨#[]⟩] 151)).heap.size := by simp; omega
            go_wp2_with (at_builtin; refine wpList_app (α := Letter) rfl _ _ rfl rfl rfl (hrow.allocC _) hle hcm2 rfl rfl (src_newb _ ((tickL 4 (x.seals.length : Int) v) k) hok _ _ _ (by first | rfl | simp) rfl) (disj_none_ _) (by omega) ?_; intro A' cap' w' h1 h2 h3 h4)
            go_roundw
            case rel => exact ⟨k + 1, ys ++ [(tickL 4 (x.seals.length : Int) v) k], A', cap', by omega, by go_num, by simp, Lib.hid (by rw [HY.out, hys.out]; first | done | rfl | simp), by simp; omega, by simpa using h1, h2, row_step h3 hz2, (hb.alloc hz _).trans (h4.nw hz2 (sub_refl _))⟩
            case measure => simp [intOf]; omega
          · have HN := Lib.hid (shardsOf_no (mk := (tickL 4 (x.seals.length : Int) v)) hp)
            clear hp
            go_wp2
            go_roundw
            case rel => exact ⟨k + 1, ys, A, cap, by omega, by go_num, rfl, Lib.hid (by rw [HN.out, hys.out]), by omega, hle, hcm2, hrow, hb⟩
            case measure => simp [intOf]; omega
        · have hke : k = x.dones.length := by omega
          subst hke
          have hyy : ys = tickCoord x := by rw [hys.out, HT.out, HD.out]
          subst hyy
          go_wp2
          go_ret
          exact ⟨A, cap, rfl, hle, hcm2, (to_rng hrow).mono (rngS hWl (Nat.le_refl _)), hWB.trans (hb.mono hWl)⟩
    · have hvv : decide ((0 : Int) < (x.votes.length : Int)) = true := by rw [decide_eq_true_iff]; omega
      go_wp2
      clear q2'
      clear q7'
      clear q8'
      clear q9'
      go_loopw [3, 6] (fun u i wr => ∃ (k : Nat) (ys : List Letter) (A : Option Addr) (cap : Nat), k ≤ x.dones.length ∧ i = .int .i64 k ∧ u = .slice A ys.length cap ∧ Hid (ys = tickAsk x ++ shardsOf (doneP x.dones) (tickL 4 (x.seals.length : Int) v) k) ∧ ys.length ≤ x.votes.length + k ∧ ys.length ≤ cap ∧ cap ≤ maxLen ∧ Row true wr A cap ys (nw W.heap.size) ∧ Below W.heap.size W wr) (fun _ i _ => x.dones.length - (intOf i).toNat)
      case atStart => exact ⟨0, ([] : List Letter), A, cap, Nat.zero_le _, rfl, rfl, Lib.hid (by rw [HA.out]; simp [shardsOf]), by simp; try omega, hle, hcm2, hrow, hb⟩
      case round =>
        clear hb hrow hle hcm2 hz
        obtain ⟨k, ys, A, cap, hk, rfl, rfl, hys, hyk, hle, hcm2, hrow, hb⟩ := hrel
        have hz := hb.size
        have q2' := (hb.cell (p := ⟨w.heap.size, 2, none⟩) hWs).trans q2
        have q5' := (hb.cell (p := ⟨w.heap.size, 5, none⟩) hWs).trans q5
        have q6' := (hb.cell (p := ⟨w.heap.size, 6, none⟩) hWs).trans q6
        have q7' := (hb.cell (p := ⟨w.heap.size, 7, none⟩) hWs).trans q7
        have q8' := (hb.cell (p := ⟨w.heap.size, 8, none⟩) hWs).trans q8
        have q9' := (hb.cell (p := ⟨w.heap.size, 9, none⟩) hWs).trans q9
        have q10' := (hb.cell (p := ⟨w.heap.size, 10, none⟩) hWs).trans q10
        have g0' := (hb.cell (p := ⟨bt, ot + m, none⟩) hlt3).trans g0
        have hltw : bt < wr.heap.size := Nat.lt_of_lt_of_le hlt3 hz
        have hwr : w.heap.size < wr.heap.size := by omega
        by_cases hlt : k < x.dones.length
        · obtain ⟨b1, o1, rfl, hl1, f0⟩ := Row.bool r5 hlt
          replace f0 := (hb.cell (p := ⟨b1, o1 + k, none⟩) hl1).trans f0
          have hl2 : b1 < wr.heap.size := Nat.lt_of_lt_of_le hl1 hz
          have hp := doneP_at hlt
          obtain ⟨s, hs⟩ : ∃ s, x.dones[k] = s := ⟨_, rfl⟩
          rw [hs] at f0 hp
          clear hs
          have hok := tickL_ok (kind := 4) (by unfold I64; omega) hs64 g1 (i := k) (by omega)
          cases s
          · have HY := Lib.hid (shardsOf_yes (mk := (tickL 4 (x.seals.length : Int) v)) hp)
            clear hp
            have hz2 : W.heap.size ≤ (wr.alloc (.cells #[.int .i64 4, .int .i64 0, .int .i64 ((k : Int) + 1), .int .i64 (x.seals.length : Int), .int .i64 v, .string ⟨#[]⟩] 151)).heap.size := by simp; omega
            go_wp2_with (at_builtin; refine wpList_app (α := Letter) rfl _ _ rfl rfl rfl (hrow.allocC _) hle hcm2 rfl rfl (src_newb _ ((tickL 4 (x.seals.length : Int) v) k) hok _ _ _ (by first | rfl | simp) rfl) (disj_none_ _) (by omega) ?_; intro A' cap' w' h1 h2 h3 h4)
            go_roundw
            case rel => exact ⟨k + 1, ys ++ [(tickL 4 (x.seals.length : Int) v) k], A', cap', by omega, by go_num, by simp, Lib.hid (by rw [HY.out, hys.out]; first | done | rfl | simp), by simp; omega, by simpa using h1, h2, row_step h3 hz2, (hb.alloc hz _).trans (h4.nw hz2 (sub_refl _))⟩
            case measure => simp [intOf]; omega
          · have HN := Lib.hid (shardsOf_no (mk := (tickL 4 (x.seals.length : Int) v)) hp)
            clear hp
            go_wp2
            go_roundw
            case rel => exact ⟨k + 1, ys, A, cap, by omega, by go_num, rfl, Lib.hid (by rw [HN.out, hys.out]), by omega, hle, hcm2, hrow, hb⟩
            case measure => simp [intOf]; omega
        · have hke : k = x.dones.length := by omega
          subst hke
          have hyy : ys = tickCoord x := by rw [hys.out, HT.out, HD.out]
          subst hyy
          go_wp2
          go_ret
          exact ⟨A, cap, rfl, hle, hcm2, (to_rng hrow).mono (rngS hWl (Nat.le_refl _)), hWB.trans (hb.mono hWl)⟩

set_option maxRecDepth 20000 in set_option maxHeartbeats 3000000 in
theorem spec_tick_n1 (w : World) (x : Coord) (cs : List Value) (S : Blks) (hx : rd false w cs x S) (hsz : x.sz ≤ 1048576) (hu : x.up = true) (hA : x.asking = false) (c1 : ¬ x.tries.length = x.seals.length) : Calls Try.prog 50 #[.agg cs.toArray] w fun e w' => ∃ A' cap', e = .returned (.slice A' (tickCoord x).length cap') ∧ (tickCoord x).length ≤ cap' ∧ cap' ≤ maxLen ∧ Row true w' A' cap' (tickCoord x) (rng w.heap.size w'.heap.size) ∧ Below w.heap.size w w' := by
  obtain ⟨hlv, hld, hls, hlt⟩ := coord_lens x hsz
  obtain ⟨A0, k0, S0, A1, k1, S1, A2, k2, S2, A3, k3, S3, A4, k4, S4, A5, k5, S5, rfl, f0, f1, f2, a0, b0, r0, s0, a1, b1, r1, s1, a2, b2, r2, s2, a3, b3, r3, s3, a4, b4, r4, s4, a5, b5, r5, s5, pw⟩ := Coord.open hx
  clear hx r0 r1 r2 s0 s1 s2 s3 s4 s5 pw a0 b0 a1 b1 S0 S1 S2
  have HA := Lib.hid (ask_no hA)
  have HD := Lib.hid (done_no (fun h => c1 h.1))
  have d1 : ((x.seals.length : Int) == (x.tries.length : Int)) = false := by rw [beq_eq_false_iff_ne]; omega
  have HT := Lib.hid (tick_yes hu)
  have hal := tickAsk_len x
  have hdl := tickDone_len x
  simp only [Coord.cs]
  rw [hu, hA]
  have hs64 : I64 (x.seals.length : Int) := by unfold I64; omega
  have hs65 : I64 ((x.seals.length : Int) + 1) := by unfold I64; omega
  clear hu hA c1
  go_enter Try.func50, Try.ntmps50
  go_wp2
  generalize hW : w.alloc (.cells #[_, _, _, _, _, _, _, _, _, _, _] _) = W
  have hWB : Below w.heap.size w W := by rw [← hW]; exact (Below.refl _ _).alloc (Nat.le_refl _) _
  have hWs : w.heap.size < W.heap.size := by rw [← hW]; simp
  have hWl : w.heap.size ≤ W.heap.size := by omega
  have hWe : Hid (w.heap.size + 1 = W.heap.size) := Lib.hid (by rw [← hW]; simp)
  have q2 : W.cell? ⟨w.heap.size, 2, none⟩ = some (.bool true) := by rw [← hW]; exact box_cell _ _ _ _ _ rfl
  have q5 : W.cell? ⟨w.heap.size, 5, none⟩ = some (.slice A2 x.seals.length k2) := by rw [← hW]; exact box_cell _ _ _ _ _ rfl
  have q6 : W.cell? ⟨w.heap.size, 6, none⟩ = some (.slice A3 x.tries.length k3) := by rw [← hW]; exact box_cell _ _ _ _ _ rfl
  have q7 : W.cell? ⟨w.heap.size, 7, none⟩ = some (.int .i64 x.try_) := by rw [← hW]; exact box_cell _ _ _ _ _ rfl
  have q8 : W.cell? ⟨w.heap.size, 8, none⟩ = some (.bool false) := by rw [← hW]; exact box_cell _ _ _ _ _ rfl
  have q9 : W.cell? ⟨w.heap.size, 9, none⟩ = some (.slice A4 x.votes.length k4) := by rw [← hW]; exact box_cell _ _ _ _ _ rfl
  have q10 : W.cell? ⟨w.heap.size, 10, none⟩ = some (.slice A5 x.dones.length k5) := by rw [← hW]; exact box_cell _ _ _ _ _ rfl
  clear hW
  replace r3 := Row.later r3 hWB
  replace r4 := Row.later r4 hWB
  replace r5 := Row.later r5 hWB
  go_loopw [3, 4] (fun u i wr => ∃ (A : Option Addr) (cap : Nat), i = .int .i64 0 ∧ u = .slice A 0 cap ∧ cap ≤ maxLen ∧ Row true wr A cap ([] : List Letter) (nw W.heap.size) ∧ Below W.heap.size W wr) (fun _ _ _ => 0)
  case atStart => exact ⟨_, _, rfl, rfl, by decide, row_lit0b _ _ _ _ hWe.out rfl (Nat.le_refl _), (Below.refl _ _).alloc (Nat.le_refl _) _⟩
  case round =>
    obtain ⟨A, cap, rfl, rfl, hcm2, hrow, hb⟩ := hrel
    have hz := hb.size
    have hle : ([] : List Letter).length ≤ cap := Nat.zero_le _
    have q2' := (hb.cell (p := ⟨w.heap.size, 2, none⟩) hWs).trans q2
    have q5' := (hb.cell (p := ⟨w.heap.size, 5, none⟩) hWs).trans q5
    have q6' := (hb.cell (p := ⟨w.heap.size, 6, none⟩) hWs).trans q6
    have q7' := (hb.cell (p := ⟨w.heap.size, 7, none⟩) hWs).trans q7
    have q8' := (hb.cell (p := ⟨w.heap.size, 8, none⟩) hWs).trans q8
    have q9' := (hb.cell (p := ⟨w.heap.size, 9, none⟩) hWs).trans q9
    have q10' := (hb.cell (p := ⟨w.heap.size, 10, none⟩) hWs).trans q10
    have hwr : w.heap.size < wr.heap.size := by omega
    rcases Nat.eq_zero_or_pos x.votes.length with hv0 | hv0
    · have hvv : decide ((0 : Int) < (x.votes.length : Int)) = false := by rw [decide_eq_false_iff_not]; omega
      have hvn : ¬ 0 < x.votes.length := by omega
      clear hv0
      go_wp2
      clear q2'
      clear q7'
      clear q8'
      clear q9'
      have hyy : ([] : List Letter) = tickCoord x := by rw [HT.out, HD.out, HA.out]; simp
      replace hyy := Lib.hid hyy
      go_loopw [3, 6] (fun u i wr' => wr' = wr ∧ i = .int .i64 0 ∧ u = .slice A (([] : List Letter)).length cap) (fun _ _ _ => 0)
      case atStart => exact ⟨rfl, rfl, rfl⟩
      case round =>
        obtain ⟨rfl, rfl, rfl⟩ := hrel
        rcases Nat.eq_zero_or_pos x.dones.length with hd0 | hd0
        · have hdd : decide ((0 : Int) < (x.dones.length : Int)) = false := by rw [decide_eq_false_iff_not]; omega
          have hdn : ¬ 0 < x.dones.length := by omega
          clear hd0
          go_wp2
          all_goals go_ret
          all_goals exact ⟨A, cap, ret_slice (by rw [← hyy.out] <;> rfl), by rw [← hyy.out]; exact hle, hcm2, by rw [← hyy.out]; exact (to_rng hrow).mono (rngS hWl (Nat.le_refl _)), hWB.trans (hb.mono hWl)⟩
        · have hdd : decide ((0 : Int) < (x.dones.length : Int)) = true := by rw [decide_eq_true_iff]; omega
          go_wp2
          all_goals go_ret
          all_goals exact ⟨A, cap, ret_slice (by rw [← hyy.out] <;> rfl), by rw [← hyy.out]; exact hle, hcm2, by rw [← hyy.out]; exact (to_rng hrow).mono (rngS hWl (Nat.le_refl _)), hWB.trans (hb.mono hWl)⟩
    · have hvv : decide ((0 : Int) < (x.votes.length : Int)) = true := by rw [decide_eq_true_iff]; omega
      go_wp2
      clear q2'
      clear q7'
      clear q8'
      clear q9'
      have hyy : ([] : List Letter) = tickCoord x := by rw [HT.out, HD.out, HA.out]; simp
      replace hyy := Lib.hid hyy
      go_loopw [3, 6] (fun u i wr' => wr' = wr ∧ i = .int .i64 0 ∧ u = .slice A (([] : List Letter)).length cap) (fun _ _ _ => 0)
      case atStart => exact ⟨rfl, rfl, rfl⟩
      case round =>
        obtain ⟨rfl, rfl, rfl⟩ := hrel
        rcases Nat.eq_zero_or_pos x.dones.length with hd0 | hd0
        · have hdd : decide ((0 : Int) < (x.dones.length : Int)) = false := by rw [decide_eq_false_iff_not]; omega
          have hdn : ¬ 0 < x.dones.length := by omega
          clear hd0
          go_wp2
          all_goals go_ret
          all_goals exact ⟨A, cap, ret_slice (by rw [← hyy.out] <;> rfl), by rw [← hyy.out]; exact hle, hcm2, by rw [← hyy.out]; exact (to_rng hrow).mono (rngS hWl (Nat.le_refl _)), hWB.trans (hb.mono hWl)⟩
        · have hdd : decide ((0 : Int) < (x.dones.length : Int)) = true := by rw [decide_eq_true_iff]; omega
          go_wp2
          all_goals go_ret
          all_goals exact ⟨A, cap, ret_slice (by rw [← hyy.out] <;> rfl), by rw [← hyy.out]; exact hle, hcm2, by rw [← hyy.out]; exact (to_rng hrow).mono (rngS hWl (Nat.le_refl _)), hWB.trans (hb.mono hWl)⟩

set_option maxRecDepth 20000 in set_option maxHeartbeats 3000000 in
theorem spec_tick_n2 (w : World) (x : Coord) (cs : List Value) (S : Blks) (hx : rd false w cs x S) (hsz : x.sz ≤ 1048576) (hu : x.up = true) (hA : x.asking = false) (c1 : x.tries.length = x.seals.length) (c2 : x.seals.length = 0) : Calls Try.prog 50 #[.agg cs.toArray] w fun e w' => ∃ A' cap', e = .returned (.slice A' (tickCoord x).length cap') ∧ (tickCoord x).length ≤ cap' ∧ cap' ≤ maxLen ∧ Row true w' A' cap' (tickCoord x) (rng w.heap.size w'.heap.size) ∧ Below w.heap.size w w' := by
  obtain ⟨hlv, hld, hls, hlt⟩ := coord_lens x hsz
  obtain ⟨A0, k0, S0, A1, k1, S1, A2, k2, S2, A3, k3, S3, A4, k4, S4, A5, k5, S5, rfl, f0, f1, f2, a0, b0, r0, s0, a1, b1, r1, s1, a2, b2, r2, s2, a3, b3, r3, s3, a4, b4, r4, s4, a5, b5, r5, s5, pw⟩ := Coord.open hx
  clear hx r0 r1 r2 s0 s1 s2 s3 s4 s5 pw a0 b0 a1 b1 S0 S1 S2
  have HA := Lib.hid (ask_no hA)
  have HD := Lib.hid (done_no (x := x) (by omega))
  have d1 : ((x.seals.length : Int) == (x.tries.length : Int)) = true := by rw [c1]; simp
  have d2 : decide ((0 : Int) < (x.seals.length : Int)) = false := by rw [decide_eq_false_iff_not]; omega
  have d2n : ¬ 0 < x.seals.length := by omega
  have HT := Lib.hid (tick_yes hu)
  have hal := tickAsk_len x
  have hdl := tickDone_len x
  simp only [Coord.cs]
  rw [hu, hA]
  have hs64 : I64 (x.seals.length : Int) := by unfold I64; omega
  have hs65 : I64 ((x.seals.length : Int) + 1) := by unfold I64; omega
  clear hu hA c1 c2
  go_enter Try.func50, Try.ntmps50
  go_wp2
  generalize hW : w.alloc (.cells #[_, _, _, _, _, _, _, _, _, _, _] _) = W
  have hWB : Below w.heap.size w W := by rw [← hW]; exact (Below.refl _ _).alloc (Nat.le_refl _) _
  have hWs : w.heap.size < W.heap.size := by rw [← hW]; simp
  have hWl : w.heap.size ≤ W.heap.size := by omega
  have hWe : Hid (w.heap.size + 1 = W.heap.size) := Lib.hid (by rw [← hW]; simp)
  have q2 : W.cell? ⟨w.heap.size, 2, none⟩ = some (.bool true) := by rw [← hW]; exact box_cell _ _ _ _ _ rfl
  have q5 : W.cell? ⟨w.heap.size, 5, none⟩ = some (.slice A2 x.seals.length k2) := by rw [← hW]; exact box_cell _ _ _ _ _ rfl
  have q6 : W.cell? ⟨w.heap.size, 6, none⟩ = some (.slice A3 x.tries.length k3) := by rw [← hW]; exact box_cell _ _ _ _ _ rfl
  have q7 : W.cell? ⟨w.heap.size, 7, none⟩ = some (.int .i64 x.try_) := by rw [← hW]; exact box_cell _ _ _ _ _ rfl
  have q8 : W.cell? ⟨w.heap.size, 8, none⟩ = some (.bool false) := by rw [← hW]; exact box_cell _ _ _ _ _ rfl
  have q9 : W.cell? ⟨w.heap.size, 9, none⟩ = some (.slice A4 x.votes.length k4) := by rw [← hW]; exact box_cell _ _ _ _ _ rfl
  have q10 : W.cell? ⟨w.heap.size, 10, none⟩ = some (.slice A5 x.dones.length k5) := by rw [← hW]; exact box_cell _ _ _ _ _ rfl
  clear hW
  replace r3 := Row.later r3 hWB
  replace r4 := Row.later r4 hWB
  replace r5 := Row.later r5 hWB
  go_loopw [3, 4] (fun u i wr => ∃ (A : Option Addr) (cap : Nat), i = .int .i64 0 ∧ u = .slice A 0 cap ∧ cap ≤ maxLen ∧ Row true wr A cap ([] : List Letter) (nw W.heap.size) ∧ Below W.heap.size W wr) (fun _ _ _ => 0)
  case atStart => exact ⟨_, _, rfl, rfl, by decide, row_lit0b _ _ _ _ hWe.out rfl (Nat.le_refl _), (Below.refl _ _).alloc (Nat.le_refl _) _⟩
  case round =>
    obtain ⟨A, cap, rfl, rfl, hcm2, hrow, hb⟩ := hrel
    have hz := hb.size
    have hle : ([] : List Letter).length ≤ cap := Nat.zero_le _
    have q2' := (hb.cell (p := ⟨w.heap.size, 2, none⟩) hWs).trans q2
    have q5' := (hb.cell (p := ⟨w.heap.size, 5, none⟩) hWs).trans q5
    have q6' := (hb.cell (p := ⟨w.heap.size, 6, none⟩) hWs).trans q6
    have q7' := (hb.cell (p := ⟨w.heap.size, 7, none⟩) hWs).trans q7
    have q8' := (hb.cell (p := ⟨w.heap.size, 8, none⟩) hWs).trans q8
    have q9' := (hb.cell (p := ⟨w.heap.size, 9, none⟩) hWs).trans q9
    have q10' := (hb.cell (p := ⟨w.heap.size, 10, none⟩) hWs).trans q10
    have hwr : w.heap.size < wr.heap.size := by omega
    rcases Nat.eq_zero_or_pos x.votes.length with hv0 | hv0
    · have hvv : decide ((0 : Int) < (x.votes.length : Int)) = false := by rw [decide_eq_false_iff_not]; omega
      have hvn : ¬ 0 < x.votes.length := by omega
      clear hv0
      go_wp2
      clear q2'
      clear q7'
      clear q8'
      clear q9'
      have hyy : ([] : List Letter) = tickCoord x := by rw [HT.out, HD.out, HA.out]; simp
      replace hyy := Lib.hid hyy
      go_loopw [3, 6] (fun u i wr' => wr' = wr ∧ i = .int .i64 0 ∧ u = .slice A (([] : List Letter)).length cap) (fun _ _ _ => 0)
      case atStart => exact ⟨rfl, rfl, rfl⟩
      case round =>
        obtain ⟨rfl, rfl, rfl⟩ := hrel
        rcases Nat.eq_zero_or_pos x.dones.length with hd0 | hd0
        · have hdd : decide ((0 : Int) < (x.dones.length : Int)) = false := by rw [decide_eq_false_iff_not]; omega
          have hdn : ¬ 0 < x.dones.length := by omega
          clear hd0
          go_wp2
          all_goals go_ret
          all_goals exact ⟨A, cap, ret_slice (by rw [← hyy.out] <;> rfl), by rw [← hyy.out]; exact hle, hcm2, by rw [← hyy.out]; exact (to_rng hrow).mono (rngS hWl (Nat.le_refl _)), hWB.trans (hb.mono hWl)⟩
        · have hdd : decide ((0 : Int) < (x.dones.length : Int)) = true := by rw [decide_eq_true_iff]; omega
          go_wp2
          all_goals go_ret
          all_goals exact ⟨A, cap, ret_slice (by rw [← hyy.out] <;> rfl), by rw [← hyy.out]; exact hle, hcm2, by rw [← hyy.out]; exact (to_rng hrow).mono (rngS hWl (Nat.le_refl _)), hWB.trans (hb.mono hWl)⟩
    · have hvv : decide ((0 : Int) < (x.votes.length : Int)) = true := by rw [decide_eq_true_iff]; omega
      go_wp2
      clear q2'
      clear q7'
      clear q8'
      clear q9'
      have hyy : ([] : List Letter) = tickCoord x := by rw [HT.out, HD.out, HA.out]; simp
      replace hyy := Lib.hid hyy
      go_loopw [3, 6] (fun u i wr' => wr' = wr ∧ i = .int .i64 0 ∧ u = .slice A (([] : List Letter)).length cap) (fun _ _ _ => 0)
      case atStart => exact ⟨rfl, rfl, rfl⟩
      case round =>
        obtain ⟨rfl, rfl, rfl⟩ := hrel
        rcases Nat.eq_zero_or_pos x.dones.length with hd0 | hd0
        · have hdd : decide ((0 : Int) < (x.dones.length : Int)) = false := by rw [decide_eq_false_iff_not]; omega
          have hdn : ¬ 0 < x.dones.length := by omega
          clear hd0
          go_wp2
          all_goals go_ret
          all_goals exact ⟨A, cap, ret_slice (by rw [← hyy.out] <;> rfl), by rw [← hyy.out]; exact hle, hcm2, by rw [← hyy.out]; exact (to_rng hrow).mono (rngS hWl (Nat.le_refl _)), hWB.trans (hb.mono hWl)⟩
        · have hdd : decide ((0 : Int) < (x.dones.length : Int)) = true := by rw [decide_eq_true_iff]; omega
          go_wp2
          all_goals go_ret
          all_goals exact ⟨A, cap, ret_slice (by rw [← hyy.out] <;> rfl), by rw [← hyy.out]; exact hle, hcm2, by rw [← hyy.out]; exact (to_rng hrow).mono (rngS hWl (Nat.le_refl _)), hWB.trans (hb.mono hWl)⟩

theorem spec_TickCoord (w : World) (x : Coord) (cs : List Value) (S : Blks) (hx : rd false w cs x S) (hsz : x.sz ≤ 1048576) : Calls Try.prog 50 #[.agg cs.toArray] w fun e w' => ∃ A' cap', e = .returned (.slice A' (tickCoord x).length cap') ∧ (tickCoord x).length ≤ cap' ∧ cap' ≤ maxLen ∧ Row true w' A' cap' (tickCoord x) (rng w.heap.size w'.heap.size) ∧ Below w.heap.size w w' := by
  cases hu : x.up
  · exact spec_tick_no w x cs S hx hsz hu
  cases hA : x.asking
  all_goals
    by_cases c1 : x.tries.length = x.seals.length
    · rcases Nat.eq_zero_or_pos x.seals.length with c2 | c2
      · first | exact spec_tick_a2 w x cs S hx hsz hu hA c1 c2 | exact spec_tick_n2 w x cs S hx hsz hu hA c1 c2
      · first | exact spec_tick_a0 w x cs S hx hsz hu hA (x.seals.length - 1) c1 (by omega) | exact spec_tick_n0 w x cs S hx hsz hu hA (x.seals.length - 1) c1 (by omega)
    · first | exact spec_tick_a1 w x cs S hx hsz hu hA c1 | exact spec_tick_n1 w x cs S hx hsz hu hA c1

end Go.Proofs.Ytbnfkpbaaoknmaa
