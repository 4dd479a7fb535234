/- Walks: the seals of one epoch that differ, by the reference. -/
import Derived.Test.YtbnfkpbaaoknmaaSp
set_option linter.unusedVariables false
set_option linter.unusedSimpArgs false
namespace Go.Proofs.Ytbnfkpbaaoknmaa
open Go.RowKit Lay Mk

set_option maxRecDepth 20000 in set_option maxHeartbeats 16000000 in
theorem spec_SplitsOf (w : World) (x : Auditor) (cs : List Value) (S : Blks) (hx : rd false w cs x S) (hsz : x.sz ≤ 1048576) (y : Auditor) (ct : List Value) (T : Blks) (hy : rd false w ct y T) (hsy : y.sz ≤ 1048576) : Calls Try.prog 44 #[.agg cs.toArray, .agg ct.toArray] w fun e w' => ∃ A' cap', e = .returned (.slice A' (splitsOf x y).length cap') ∧ (splitsOf x y).length ≤ cap' ∧ cap' ≤ maxLen ∧ Row true w' A' cap' (splitsOf x y) (rng w.heap.size w'.heap.size) ∧ Below w.heap.size w w' := by
  have hzx := aud_pins x hsz
  have hzy := aud_pins y hsy
  have hlx : x.pins.length ≤ 1048576 := by have := szT_le x.pins 0; omega
  have hly : y.pins.length ≤ 1048576 := by have := szT_le y.pins 0; omega
  obtain ⟨A0, k0, S0, A1, k1, S1, AX, kX, SX, A3, k3, S3, rfl, f0, a0, b0, r0, s0, a1, b1, r1, s1, a2, b2, rx, s2, a3, b3, r3, s3, pw⟩ := Auditor.open hx
  obtain ⟨B0, l0, T0, B1, l1, T1, AY, kY, SY, B3, l3, T3, rfl, g0, c0, d0, u0, v0, c1, d1, u1, v1, c2, d2, ry, v2, c3, d3, u3, v3, pw'⟩ := Auditor.open hy
  clear hx hy r0 r1 r3 s0 s1 s2 s3 pw a0 b0 a1 b1 a3 b3 u0 u1 u3 v0 v1 v2 v3 pw' c0 d0 c1 d1 c3 d3 S0 S1 S3 T0 T1 T3
  have HE := Lib.hid (splitsOf_all x y)
  simp only [Auditor.cs]
  go_enter Try.func44, Try.ntmps44
  go_wp2
  generalize hW : (w.alloc (.cells #[_, _, _, _, _, _] _)).alloc (.cells #[_, _, _, _, _, _] _) = W
  have hWB : Below w.heap.size w W := by rw [← hW]; exact ((Below.refl _ _).alloc (Nat.le_refl _) _).alloc (by simp) _
  have hWs : W.heap.size = w.heap.size + 1 + 1 := by rw [← hW]; simp
  have qx : W.cell? ⟨w.heap.size, 4, none⟩ = some (.slice AX x.pins.length kX) := by rw [← hW]; exact ((Below.refl _ _).alloc (B := w.heap.size + 1) (by simp) _).cell (p := ⟨w.heap.size, 4, none⟩) (Nat.lt_succ_self _) |>.trans (box_cell _ _ _ _ _ rfl)
  have qy : W.cell? ⟨w.heap.size + 1, 4, none⟩ = some (.slice AY y.pins.length kY) := by rw [← hW, show w.heap.size + 1 = (w.alloc _).heap.size from by simp]; exact box_cell _ _ _ _ _ rfl
  replace rx := Row.later rx hWB
  replace ry := Row.later ry hWB
  have hWl : w.heap.size ≤ W.heap.size := by omega
  have hWy : w.heap.size + 1 < W.heap.size := by omega
  have hWx : w.heap.size < W.heap.size := by omega
  replace hWs := Lib.hid hWs
  clear hW
  go_loopw [5, 6] (fun u i wr => ∃ (k : Nat) (ys : List Pair) (A : Option Addr) (cap : Nat), k ≤ x.pins.length ∧ i = .int .i64 k ∧ u = .slice A ys.length cap ∧ Hid (ys = foldT (splitF y.pins) [] x.pins k) ∧ ys.length ≤ k ∧ ys.length ≤ cap ∧ cap ≤ maxLen ∧ Row true wr A cap ys (nw W.heap.size) ∧ Below W.heap.size W wr) (fun _ i _ => x.pins.length - (intOf i).toNat)
  case atStart => exact ⟨0, [], _, _, Nat.zero_le _, rfl, rfl, Lib.hid rfl, by simp, by simp, by decide, row_lit0b _ _ _ _ hWs.out.symm rfl (Nat.le_refl _), (Below.refl _ _).alloc (Nat.le_refl _) _⟩
  case round =>
    obtain ⟨k, ys, A, cap, hk, rfl, rfl, hys, hyk, hle, hcm, hrow, hb⟩ := hrel
    have hz := hb.size
    obtain ⟨w1, rfl⟩ : ∃ w1, w1 = wr := ⟨_, rfl⟩
    have qx' := (hb.cell (p := ⟨w.heap.size, 4, none⟩) hWx).trans qx
    have qy' := (hb.cell (p := ⟨w.heap.size + 1, 4, none⟩) hWy).trans qy
    have hwx' : w.heap.size < w1.heap.size := by omega
    have hwy' : w.heap.size + 1 < w1.heap.size := by omega
    by_cases hlt : k < x.pins.length
    · obtain ⟨b1, o1, cc, T1, rfl, hl1, ha, hr, _, _⟩ := Row.at_ rx hlt
      replace ha := ha.keep (hb.block b1 hl1)
      have hbd := seal_sz hlt hzx
      have hN := Lib.hid (splitT_no (ts := y.pins) hlt)
      have hY := Lib.hid (fun t => splitT_yes (ts := y.pins) (t := t) hlt)
      obtain ⟨s, hss⟩ : ∃ s, x.pins[k] = s := ⟨_, rfl⟩
      rw [hss] at hr hN hY hbd
      clear hss
      have hr2 := Lay.later hr hb
      obtain ⟨D0, mD0, U0, D1, mD1, U1, D2, mD2, U2, rfl, e0, e1, e2, e3, e4, _⟩ := Seal.open hr
      clear hr
      rw [show Lay.n Seal = 8 from rfl] at ha
      have c0 := ha 0 _ rfl
      have c1 := ha 1 _ rfl
      have c2 := ha 2 _ rfl
      have c3 := ha 3 _ rfl
      have c4 := ha 4 _ rfl
      have c5 := ha 5 _ rfl
      have c6 := ha 6 _ rfl
      have c7 := ha 7 _ rfl
      simp only [Nat.add_zero] at c0
      clear ha
      have hl2 : b1 < w1.heap.size := by omega
      go_wp2
      generalize hW2 : w1.alloc (.cells #[_, _, _, _] _) = W2
      have hB2 : Below w1.heap.size w1 W2 := by rw [← hW2]; exact (Below.refl _ _).alloc (Nat.le_refl _) _
      have hS2 : w1.heap.size < W2.heap.size := by rw [← hW2]; simp
      have p0 : W2.cell? ⟨w1.heap.size, 0, none⟩ = some (.int .i64 s.head.house) := by rw [← hW2]; exact box_cell _ _ _ _ _ rfl
      have p1 : W2.cell? ⟨w1.heap.size, 1, none⟩ = some (.int .i64 s.head.epoch) := by rw [← hW2]; exact box_cell _ _ _ _ _ rfl
      have p2 : W2.cell? ⟨w1.heap.size, 2, none⟩ = some (.string s.head.root) := by rw [← hW2]; exact box_cell _ _ _ _ _ rfl
      have p3 : W2.cell? ⟨w1.heap.size, 3, none⟩ = some (.string s.head.prev) := by rw [← hW2]; exact box_cell _ _ _ _ _ rfl
      replace c0 := (hB2.cell (p := ⟨b1, o1 + k * 8, none⟩) hl2).trans c0
      replace c1 := (hB2.cell (p := ⟨b1, o1 + k * 8 + 1, none⟩) hl2).trans c1
      replace c2 := (hB2.cell (p := ⟨b1, o1 + k * 8 + 2, none⟩) hl2).trans c2
      replace c3 := (hB2.cell (p := ⟨b1, o1 + k * 8 + 3, none⟩) hl2).trans c3
      replace c4 := (hB2.cell (p := ⟨b1, o1 + k * 8 + 4, none⟩) hl2).trans c4
      replace c5 := (hB2.cell (p := ⟨b1, o1 + k * 8 + 5, none⟩) hl2).trans c5
      replace c6 := (hB2.cell (p := ⟨b1, o1 + k * 8 + 6, none⟩) hl2).trans c6
      replace c7 := (hB2.cell (p := ⟨b1, o1 + k * 8 + 7, none⟩) hl2).trans c7
      clear hW2
      replace qx' := (hB2.cell (p := ⟨w.heap.size, 4, none⟩) hwx').trans qx'
      replace qy' := (hB2.cell (p := ⟨w.heap.size + 1, 4, none⟩) hwy').trans qy'
      have hWW2 : Below W.heap.size W W2 := hb.trans (hB2.mono hz)
      have hrow2 : Row true W2 A cap ys (rng W.heap.size w1.heap.size) := Row.later (to_rng hrow) hB2
      replace hr2 := Lay.later hr2 hB2
      go_loopw [5, 8] (fun u j wr => ∃ (jj : Nat), jj ≤ y.pins.length ∧ j = .int .i64 jj ∧ u = .slice A ys.length cap ∧ Hid ((y.pins.take jj).find? (sameE s) = none) ∧ Below W2.heap.size W2 wr) (fun _ j _ => y.pins.length - (intOf j).toNat)
      case atStart => exact ⟨0, Nat.zero_le _, rfl, rfl, Lib.hid (by simp), Below.refl _ _⟩
      case round =>
        obtain ⟨jj, hj, rfl, rfl, hf, hb2⟩ := hrel
        have hz2 := hb2.size
        obtain ⟨w2, rfl⟩ : ∃ w2, w2 = wr := ⟨_, rfl⟩
        have p0' := (hb2.cell (p := ⟨w1.heap.size, 0, none⟩) hS2).trans p0
        have p1' := (hb2.cell (p := ⟨w1.heap.size, 1, none⟩) hS2).trans p1
        have p2' := (hb2.cell (p := ⟨w1.heap.size, 2, none⟩) hS2).trans p2
        have p3' := (hb2.cell (p := ⟨w1.heap.size, 3, none⟩) hS2).trans p3
        have qx2 := (hb2.cell (p := ⟨w.heap.size, 4, none⟩) (show w.heap.size < W2.heap.size by omega)).trans qx'
        have qy2 := (hb2.cell (p := ⟨w.heap.size + 1, 4, none⟩) (show w.heap.size + 1 < W2.heap.size by omega)).trans qy'
        have hwx2 : w.heap.size < w2.heap.size := by omega
        have hwy2 : w.heap.size + 1 < w2.heap.size := by omega
        have hw2 : w1.heap.size < w2.heap.size := by omega
        by_cases hjt : jj < y.pins.length
        · obtain ⟨b2, o2, cc, T2, rfl, hl3, ha, hr, _, _⟩ := Row.at_ ry hjt
          have hWw2 : Below W.heap.size W w2 := hWW2.trans (hb2.mono (by omega))
          replace ha := ha.keep (hWw2.block b2 hl3)
          have hbt := seal_sz hjt hzy
          have hNx := Lib.hid (fun h => find_next (p := sameE s) hjt hf.out h)
          have hHi := Lib.hid (fun h => find_hit (p := sameE s) hjt hf.out h)
          obtain ⟨t, htt⟩ : ∃ t, y.pins[jj] = t := ⟨_, rfl⟩
          rw [htt] at hr hbt hNx hHi
          clear htt
          have ht2 := Lay.later hr hWw2
          obtain ⟨E0, mE0, V0, E1, mE1, V1, E2, mE2, V2, rfl, i0, i1, i2, i3, i4, _⟩ := Seal.open hr
          clear hr
          rw [show Lay.n Seal = 8 from rfl] at ha
          have d0 := ha 0 _ rfl
          have d1 := ha 1 _ rfl
          have d2 := ha 2 _ rfl
          have d3 := ha 3 _ rfl
          have d4 := ha 4 _ rfl
          have d5 := ha 5 _ rfl
          have d6 := ha 6 _ rfl
          have d7 := ha 7 _ rfl
          simp only [Nat.add_zero] at d0
          clear ha
          have hl4 : b2 < w2.heap.size := by omega
          by_cases h1 : s.head.house = t.head.house
          · have g1 : (t.head.house != s.head.house) = false := by simp [h1]
            by_cases h2 : s.head.epoch = t.head.epoch
            · have hH := Lib.hid (hHi.out (by simp [sameE, h1, h2]))
              have g2 : (t.head.epoch != s.head.epoch) = false := by simp [h2]
              have g1' : (t.head.house == s.head.house) = true := by simp [h1]
              have g2' : (t.head.epoch == s.head.epoch) = true := by simp [h2]
              have hq' := Lib.hid (headEq_l h1 h2)
              cases hq : headEq s.head t.head
              · have HP := Lib.hid (hY.out t (pairAt_ne hH.out hq))
                have HQ := Lib.hid (hq'.out.symm.trans hq)
                clear hq hq' hNx hHi hH h1 h2
                go_wp2
                · rename_i ha hb; exact absurd HQ.out (by simp [ha, hb])
                all_goals
                  generalize hW3 : w2.alloc (.cells #[_, _, _, _] _) = W3
                  have hB3 : Below w2.heap.size w2 W3 := by rw [← hW3]; exact (Below.refl _ _).alloc (Nat.le_refl _) _
                  have hS3 : w2.heap.size < W3.heap.size := by rw [← hW3]; simp
                  have hW23 : Below W2.heap.size W2 W3 := hb2.trans (hB3.mono (by omega))
                  have r0 := (hB3.cell (p := ⟨b2, o2 + jj * 8, none⟩) hl4).trans d0
                  have r1 := (hB3.cell (p := ⟨b2, o2 + jj * 8 + 1, none⟩) hl4).trans d1
                  have r2 := (hB3.cell (p := ⟨b2, o2 + jj * 8 + 2, none⟩) hl4).trans d2
                  have r3 := (hB3.cell (p := ⟨b2, o2 + jj * 8 + 3, none⟩) hl4).trans d3
                  have r4 := (hB3.cell (p := ⟨b2, o2 + jj * 8 + 4, none⟩) hl4).trans d4
                  have r5 := (hB3.cell (p := ⟨b2, o2 + jj * 8 + 5, none⟩) hl4).trans d5
                  have r6 := (hB3.cell (p := ⟨b2, o2 + jj * 8 + 6, none⟩) hl4).trans d6
                  have r7 := (hB3.cell (p := ⟨b2, o2 + jj * 8 + 7, none⟩) hl4).trans d7
                  have p0'' := (hW23.cell (p := ⟨b1, o1 + k * 8, none⟩) (show b1 < W2.heap.size by omega)).trans c0
                  have p1'' := (hW23.cell (p := ⟨b1, o1 + k * 8 + 1, none⟩) (show b1 < W2.heap.size by omega)).trans c1
                  have p2'' := (hW23.cell (p := ⟨b1, o1 + k * 8 + 2, none⟩) (show b1 < W2.heap.size by omega)).trans c2
                  have p3'' := (hW23.cell (p := ⟨b1, o1 + k * 8 + 3, none⟩) (show b1 < W2.heap.size by omega)).trans c3
                  have p4'' := (hW23.cell (p := ⟨b1, o1 + k * 8 + 4, none⟩) (show b1 < W2.heap.size by omega)).trans c4
                  have p5'' := (hW23.cell (p := ⟨b1, o1 + k * 8 + 5, none⟩) (show b1 < W2.heap.size by omega)).trans c5
                  have p6'' := (hW23.cell (p := ⟨b1, o1 + k * 8 + 6, none⟩) (show b1 < W2.heap.size by omega)).trans c6
                  have p7'' := (hW23.cell (p := ⟨b1, o1 + k * 8 + 7, none⟩) (show b1 < W2.heap.size by omega)).trans c7
                  have qx3 := (hB3.cell (p := ⟨w.heap.size, 4, none⟩) hwx2).trans qx2
                  have qy3 := (hB3.cell (p := ⟨w.heap.size + 1, 4, none⟩) hwy2).trans qy2
                  clear hW3 d0 d1 d2 d3 d4 d5 d6 d7 p0' p1' p2' p3' c0 c1 c2 c3 c4 c5 c6 c7 qx' qy' qx2 qy2
                  have hr3 := Lay.later hr2 hW23
                  have ht3 := Lay.later ht2 hB3
                  have hrow3 := Row.later hrow2 hW23
                  have hWW3 : Below W.heap.size W W3 := hWW2.trans (hW23.mono (by omega))
                  obtain ⟨ls0, ls1, ls2⟩ := seal_lens hbd
                  obtain ⟨lt0, lt1, lt2⟩ := seal_lens hbt
                  have hB := Below.refl W3.heap.size W3
                  have hn1 : ¬ rng W.heap.size w1.heap.size b1 := fun h => by unfold rng at h; omega
                  have hn2 : ¬ rng W.heap.size w1.heap.size b2 := fun h => by unfold rng at h; omega
                  have hn3 : ¬ rng W.heap.size w1.heap.size w.heap.size := fun h => by unfold rng at h; omega
                  have hn4 : ¬ rng W.heap.size w1.heap.size (w.heap.size + 1) := fun h => by unfold rng at h; omega
                  have HM := Lib.hid (fun (w' : World) (h : Chg (rng W.heap.size w1.heap.size) W3 w') => (⟨(h.cell (o := o1 + k * 8) (show b1 < W3.heap.size by omega) hn1).trans p0'', (h.cell (o := o1 + k * 8 + 1) (show b1 < W3.heap.size by omega) hn1).trans p1'', (h.cell (o := o1 + k * 8 + 2) (show b1 < W3.heap.size by omega) hn1).trans p2'', (h.cell (o := o1 + k * 8 + 3) (show b1 < W3.heap.size by omega) hn1).trans p3'', (h.cell (o := o1 + k * 8 + 4) (show b1 < W3.heap.size by omega) hn1).trans p4'', (h.cell (o := o1 + k * 8 + 5) (show b1 < W3.heap.size by omega) hn1).trans p5'', (h.cell (o := o1 + k * 8 + 6) (show b1 < W3.heap.size by omega) hn1).trans p6'', (h.cell (o := o1 + k * 8 + 7) (show b1 < W3.heap.size by omega) hn1).trans p7'', (h.cell (o := o2 + jj * 8) (show b2 < W3.heap.size by omega) hn2).trans r0, (h.cell (o := o2 + jj * 8 + 1) (show b2 < W3.heap.size by omega) hn2).trans r1, (h.cell (o := o2 + jj * 8 + 2) (show b2 < W3.heap.size by omega) hn2).trans r2, (h.cell (o := o2 + jj * 8 + 3) (show b2 < W3.heap.size by omega) hn2).trans r3, (h.cell (o := o2 + jj * 8 + 4) (show b2 < W3.heap.size by omega) hn2).trans r4, (h.cell (o := o2 + jj * 8 + 5) (show b2 < W3.heap.size by omega) hn2).trans r5, (h.cell (o := o2 + jj * 8 + 6) (show b2 < W3.heap.size by omega) hn2).trans r6, (h.cell (o := o2 + jj * 8 + 7) (show b2 < W3.heap.size by omega) hn2).trans r7, (h.cell (o := 4) (show w.heap.size < W3.heap.size by omega) hn3).trans qx3, (h.cell (o := 4) (show w.heap.size + 1 < W3.heap.size by omega) hn4).trans qy3, h⟩ : w'.cell? ⟨b1, o1 + k * 8, none⟩ = some (.int .i64 s.head.house) ∧ w'.cell? ⟨b1, o1 + k * 8 + 1, none⟩ = some (.int .i64 s.head.epoch) ∧ w'.cell? ⟨b1, o1 + k * 8 + 2, none⟩ = some (.string s.head.root) ∧ w'.cell? ⟨b1, o1 + k * 8 + 3, none⟩ = some (.string s.head.prev) ∧ w'.cell? ⟨b1, o1 + k * 8 + 4, none⟩ = some (.int .i64 s.sig.at_) ∧ w'.cell? ⟨b1, o1 + k * 8 + 5, none⟩ = some (.slice D0 s.sig.open_.length mD0) ∧ w'.cell? ⟨b1, o1 + k * 8 + 6, none⟩ = some (.slice D1 s.sig.shut.length mD1) ∧ w'.cell? ⟨b1, o1 + k * 8 + 7, none⟩ = some (.slice D2 s.sig.sides.length mD2) ∧ w'.cell? ⟨b2, o2 + jj * 8, none⟩ = some (.int .i64 t.head.house) ∧ w'.cell? ⟨b2, o2 + jj * 8 + 1, none⟩ = some (.int .i64 t.head.epoch) ∧ w'.cell? ⟨b2, o2 + jj * 8 + 2, none⟩ = some (.string t.head.root) ∧ w'.cell? ⟨b2, o2 + jj * 8 + 3, none⟩ = some (.string t.head.prev) ∧ w'.cell? ⟨b2, o2 + jj * 8 + 4, none⟩ = some (.int .i64 t.sig.at_) ∧ w'.cell? ⟨b2, o2 + jj * 8 + 5, none⟩ = some (.slice E0 t.sig.open_.length mE0) ∧ w'.cell? ⟨b2, o2 + jj * 8 + 6, none⟩ = some (.slice E1 t.sig.shut.length mE1) ∧ w'.cell? ⟨b2, o2 + jj * 8 + 7, none⟩ = some (.slice E2 t.sig.sides.length mE2) ∧ w'.cell? ⟨w.heap.size, 4, none⟩ = some (.slice (some ⟨b1, o1, none⟩) x.pins.length kX) ∧ w'.cell? ⟨w.heap.size + 1, 4, none⟩ = some (.slice (some ⟨b2, o2, none⟩) y.pins.length kY) ∧ Chg (rng W.heap.size w1.heap.size) W3 w'))
                  clear p0'' p1'' p2'' p3'' p4'' p5'' p6'' p7'' r0 r1 r2 r3 r4 r5 r6 r7 p0 p1 p2 p3 qx3 qy3 qx qy e0 e1 e2 e3 e4 i0 i1 i2 i3 i4 rx ry hf hN hY hWx hWy hwx' hwy' hwx2 hwy2 hr2 ht2 hrow hrow2 HQ
                  have dk0 : (0 : Int) ≤ (k : Int) := by omega
                  have dk1 : (k : Int) < (x.pins.length : Int) := by omega
                  have dk2 : (k : Int) ≤ (x.pins.length : Int) := by omega
                  have dkw : IntKind.i64.wrap (k : Int) = (k : Int) := by rw [Go.IntWalk.i64_left]; exact Go.IntWalk.wrap64_in _ (by omega)
                  have dj0 : (0 : Int) ≤ (jj : Int) := by omega
                  have dj1 : (jj : Int) < (y.pins.length : Int) := by omega
                  have dj2 : (jj : Int) ≤ (y.pins.length : Int) := by omega
                  have djw : IntKind.i64.wrap (jj : Int) = (jj : Int) := by rw [Go.IntWalk.i64_left]; exact Go.IntWalk.wrap64_in _ (by omega)
                  go_region_held3 (fun w' => w'.cell? ⟨b1, o1 + k * 8, none⟩ = some (.int .i64 s.head.house) ∧ w'.cell? ⟨b1, o1 + k * 8 + 1, none⟩ = some (.int .i64 s.head.epoch) ∧ w'.cell? ⟨b1, o1 + k * 8 + 2, none⟩ = some (.string s.head.root) ∧ w'.cell? ⟨b1, o1 + k * 8 + 3, none⟩ = some (.string s.head.prev) ∧ w'.cell? ⟨b1, o1 + k * 8 + 4, none⟩ = some (.int .i64 s.sig.at_) ∧ w'.cell? ⟨b1, o1 + k * 8 + 5, none⟩ = some (.slice D0 s.sig.open_.length mD0) ∧ w'.cell? ⟨b1, o1 + k * 8 + 6, none⟩ = some (.slice D1 s.sig.shut.length mD1) ∧ w'.cell? ⟨b1, o1 + k * 8 + 7, none⟩ = some (.slice D2 s.sig.sides.length mD2) ∧ w'.cell? ⟨b2, o2 + jj * 8, none⟩ = some (.int .i64 t.head.house) ∧ w'.cell? ⟨b2, o2 + jj * 8 + 1, none⟩ = some (.int .i64 t.head.epoch) ∧ w'.cell? ⟨b2, o2 + jj * 8 + 2, none⟩ = some (.string t.head.root) ∧ w'.cell? ⟨b2, o2 + jj * 8 + 3, none⟩ = some (.string t.head.prev) ∧ w'.cell? ⟨b2, o2 + jj * 8 + 4, none⟩ = some (.int .i64 t.sig.at_) ∧ w'.cell? ⟨b2, o2 + jj * 8 + 5, none⟩ = some (.slice E0 t.sig.open_.length mE0) ∧ w'.cell? ⟨b2, o2 + jj * 8 + 6, none⟩ = some (.slice E1 t.sig.shut.length mE1) ∧ w'.cell? ⟨b2, o2 + jj * 8 + 7, none⟩ = some (.slice E2 t.sig.sides.length mE2) ∧ w'.cell? ⟨w.heap.size, 4, none⟩ = some (.slice (some ⟨b1, o1, none⟩) x.pins.length kX) ∧ w'.cell? ⟨w.heap.size + 1, 4, none⟩ = some (.slice (some ⟨b2, o2, none⟩) y.pins.length kY) ∧ Chg (rng W.heap.size w1.heap.size) W3 w')
                      (first | exact HM.out _ hE | exact HM.out _ (Chg.below (Chg.refl _ W3) (show Below W3.heap.size W3 _ from (by (repeat (first | with_reducible exact hB | with_reducible refine Below.alloc ?_ ?_ _ | with_reducible apply Below.drew)); all_goals (first | omega | (simp; done) | (simp; omega)))) (Nat.le_refl _)))
                      (first | (go_at_call 97; refine (spec_l14Copy _ s (Seal.cs s D0 mD0 D1 mD1 D2 mD2) T1 (Lay.later hr3 (by first | exact hB | exact hB.drew)) ls0 ls1 ls2).mono ?_; rintro e5 v1 ⟨F0, nF0, F1, nF1, F2, nF2, rfl, hq1, hb5⟩; have hs1 := hb5.size; (try simp at hs1); have hB := Below.step (a := W3) (by first | exact hB | exact hB.drew) hb5) | (go_at_call 97; refine (spec_l14Copy _ t (Seal.cs t E0 mE0 E1 mE1 E2 mE2) T2 (Lay.later ht3 (by first | exact hB | exact hB.drew)) lt0 lt1 lt2).mono ?_; rintro e6 v2 ⟨G0, nG0, G1, nG1, G2, nG2, rfl, hq2, hb6⟩; have hs2 := hb6.size; (try simp at hs2); have hB := Below.step (a := W3) (by first | exact hB | exact hB.drew) hb6) | ((refine step_app (α := Pair) (xs := ys) (ys := [(⟨s, t⟩ : Pair)]) rfl _ _ rfl rfl rfl (Row.later hrow3 ?_) hle hcm rfl rfl (src_one (α := Pair) v2 (⟨s, t⟩ : Pair) _ _ _ ?_ (pair_rd (s := s) (t := t) (S := rng W3.heap.size v2.heap.size) (Lay.later hq1 hb6) hq2 ?_ ?_ ?_)) ?_ (by simp; omega) ?_); (focus exact (by (repeat (first | with_reducible exact hB | with_reducible refine Below.alloc ?_ ?_ _ | with_reducible apply Below.drew)); all_goals (first | omega | (simp; done) | (simp; omega)))); (focus simp); (focus (intro b h; unfold rng at h ⊢; (try simp at h); omega)); (focus (intro b h; unfold rng at h ⊢; (try simp at h); omega)); (focus (intro b h h'; unfold rng at h h'; (try simp at h); (try simp at h'); omega)); (focus (intro b h h'; have h' := h'.1; unfold rng at h h'; omega)); intro A' cap' v3 m1 m2 m3 m4; have hE := (Chg.below (Chg.refl (rng W.heap.size w1.heap.size) W3) (show Below W3.heap.size W3 _ from (by (repeat (first | with_reducible exact hB | with_reducible refine Below.alloc ?_ ?_ _ | with_reducible apply Below.drew)); all_goals (first | omega | (simp; done) | (simp; omega)))) (Nat.le_refl _)).trans m4; have hg := hB.size))
                  go_wp2
                  go_roundw
                  case rel => exact ⟨k + 1, ys ++ [⟨s, t⟩], A', cap', by omega, by go_num, by simp, Lib.hid (by rw [HP.out, hys.out]), by simp; omega, by simpa using m1, m2, m3.mono (fun b h => h.elim (fun h => h.1) (fun h => h.elim (fun h => by have h := h.1.1; show W.heap.size ≤ b; omega) (fun h => by have h := h.1; simp at h; show W.heap.size ≤ b; omega))), hWW3.trans (hE.to_below (B := W.heap.size) (by omega) (fun b h => h.1))⟩
                  case measure => simp [intOf]; omega
              · have HP := Lib.hid (hN.out (pairAt_eq hH.out hq))
                have HQ := Lib.hid (hq'.out.symm.trans hq)
                clear hq hq' hNx hHi hH h1 h2
                go_wp2
                · go_roundw
                  case rel => exact ⟨k + 1, ys, A, cap, by omega, by go_num, rfl, Lib.hid (by rw [HP.out, hys.out]), by omega, hle, hcm, ((Row.later hrow2 hb2).allocC _).mono (fun b h => h.1), (hWW2.trans (hb2.mono (by omega))).alloc (by omega) _⟩
                  case measure => simp [intOf]; omega
                · rename_i ha hb; exact absurd HQ.out (by simp [ha, show ¬ _ = _ from fun e => hb (Eq.symm e)])
                · rename_i ha; exact absurd HQ.out (by simp [show ¬ _ = _ from fun e => ha (Eq.symm e)])
            · have hF := Lib.hid (hNx.out (by simp [sameE, h2]))
              have g2 : (t.head.epoch != s.head.epoch) = true := by simpa using fun e => h2 (Eq.symm e)
              clear h1 h2 hNx hHi
              go_wp2
              go_roundw
              case rel => exact ⟨jj + 1, by omega, by go_num, rfl, hF, hb2.alloc hz2 _⟩
              case measure => simp [intOf]; omega
          · have hF := Lib.hid (hNx.out (by simp [sameE, h1]))
            have g1 : (t.head.house != s.head.house) = true := by simpa using fun e => h1 (Eq.symm e)
            clear h1 hNx hHi
            go_wp2
            go_roundw
            case rel => exact ⟨jj + 1, by omega, by go_num, rfl, hF, hb2.alloc hz2 _⟩
            case measure => simp [intOf]; omega
        · have hje : jj = y.pins.length := by omega
          subst hje
          have HP := Lib.hid (hN.out (pairAt_none (find_all hf.out)))
          go_wp2
          go_roundw
          case rel => exact ⟨k + 1, ys, A, cap, by omega, by go_num, rfl, Lib.hid (by rw [HP.out, hys.out]), by omega, hle, hcm, (Row.later hrow2 hb2).mono (fun b h => h.1), hWW2.trans (hb2.mono (by omega))⟩
          case measure => simp [intOf]; omega
    · have hke : k = x.pins.length := by omega
      subst hke
      have hyy := hys.out.trans HE.out
      subst hyy
      go_wp2
      go_ret
      exact ⟨A, cap, rfl, hle, hcm, (to_rng hrow).mono (rngS hWl (Nat.le_refl _)), hWB.trans (hb.mono hWl)⟩

end Go.Proofs.Ytbnfkpbaaoknmaa
