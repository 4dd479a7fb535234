/- The root of a proof of several names: the program's walk. -/
import Derived.Test.YtojbehmbeoemgaaDoorKYr
import Derived.Test.YtojbehmbeoemgaaDoorKNs
set_option linter.unusedVariables false
set_option linter.unusedSimpArgs false
namespace Go.Proofs.YtojbehmbeoemgaaDoor
open Go.RowKit Lay Mk
theorem lv_end (nd : Nat → ByteArray → ByteArray → ByteArray) (ks : List Nat) (hs : List ByteArray) (t : Nat) (ss : List ByteArray) (up : List Nat) (nx : List ByteArray) : lvF nd ks hs t ks.length ss up nx = some (up, nx, ss) := by
  cases t with
  | zero => rfl
  | succ t => rw [lvF, if_neg (Nat.lt_irrefl _)]
theorem rootI_none {nd : Nat → ByteArray → ByteArray → ByteArray} {d : Nat} {ks : List Nat} {hs ss : List ByteArray} (h : lvF nd ks hs ks.length 0 ss [] [] = none) : rootI nd (d + 1) ks hs ss = none := by rw [rootI, h]
theorem rootI_some {nd : Nat → ByteArray → ByteArray → ByteArray} {d : Nat} {ks up : List Nat} {hs ss nx r : List ByteArray} (h : lvF nd ks hs ks.length 0 ss [] [] = some (up, nx, r)) : rootI nd (d + 1) ks hs ss = rootI nd d up nx r := by rw [rootI, h]
set_option maxRecDepth 20000 in set_option maxHeartbeats 16000000 in
theorem impl_ManyRoot (w : World) (m : Many) (cs : List Value) (S : Blks) (hx : rd false w cs m S) (hz : m.sz ≤ 1048576) (n : Int) (hn : I64 n) (hT : Tabs w) : Calls Tryd.prog 32 #[.agg cs.toArray, .int .i64 n] w (MrRes (manyRoot m n) w) := by
  have HT := Lib.hid hT
  clear hT
  obtain ⟨hz0, hz1, hz2⟩ := many_parts hz
  obtain ⟨A0, k0, S0, A1, k1, S1, A2, k2, S2, rfl, l0, m0, r0, -, -, -, r1, -, l2, m2, r2, -⟩ := Many.open hx
  simp only [Many.cs]
  clear hx
  have hnl : m.names.length ≤ 1048576 := by have := szT_le m.names 0; omega
  have hbl : m.buckets.length ≤ 1048576 := by have := szT_le m.buckets 0; omega
  have hsl : m.sides.length ≤ 1048576 := by have := szT_le m.sides 0; omega
  have HNO := Lib.hid (fun h => many_no (m := m) (n := n) h)
  have HYE := Lib.hid (fun h => many_impl (m := m) (n := n) h)
  have HF1 := Lib.hid (fun h => form_1 (m := m) (n := n) h)
  have HF2 := Lib.hid (fun h => form_2 (m := m) (n := n) h)
  have HF3 := Lib.hid (fun h => form_3 (m := m) (n := n) h)
  have HF4 := Lib.hid (fun k hk h => form_4 (m := m) (n := n) (k := k) hk h)
  have HF5 := Lib.hid (fun h1 h2 h3 h4 => form_5 (m := m) (n := n) h1 h2 h3 h4)
  have HNP : Hid (namesFit m.names = true → 0 < m.names.length) := Lib.hid (fun hf => by
    unfold namesFit at hf; simp only [Bool.and_eq_true] at hf
    have h9 : 1 ≤ (m.names.length : Int) ∧ (m.names.length : Int) ≤ 8 := by simpa [inB] using hf.2
    omega)
  obtain ⟨R, hR⟩ : ∃ R, manyRoot m n = R := ⟨_, rfl⟩
  rw [hR] at HNO HYE ⊢
  clear hR hz
  have HNM := Lib.hid (fun W (h : Below w.heap.size w W) => impl_namesOk W m.names A0 k0 S0 (Row.later r0 h) hnl)
  have HWD := Lib.hid (fun W (h : Below w.heap.size w W) => impl_haveWidth W m.sides A2 k2 S2 (Row.later r2 h) (by unfold maxLen; omega) (m.sides.length : Int) (by unfold I64; omega) n)
  have HIW := Lib.hid (fun W => impl_isWide n W)
  obtain ⟨q1, hq1⟩ : ∃ b, namesFit m.names = b := ⟨_, rfl⟩
  rw [hq1] at HNM HF1 HF5 HNP
  obtain ⟨q2, hq2⟩ : ∃ b, inB n 1 32 = b := ⟨_, rfl⟩
  rw [hq2] at HIW HF2 HF5
  obtain ⟨q3, hq3⟩ : ∃ b, wideG m.sides n = b := ⟨_, rfl⟩
  rw [hq3] at HWD HF2 HF5
  rw [decide_eq_true (show (m.sides.length : Int) = (m.sides.length : Int) from rfl), Bool.and_true] at HWD
  have HXS := Lib.hid (fun W (h : Below w.heap.size w W) => impl_IndexesOf W m.names A0 k0 S0 (Row.later r0 h) l0 m0 hz0 (HT.out.later h))
  rw [idx_cast, castL_len] at HXS
  have HK2 := Lib.hid (idxN_lt m.names)
  have hkl := idxN_le m.names
  have HKP := Lib.hid (fun h => idxN_pos (xs := m.names) h)
  obtain ⟨ks, hks⟩ : ∃ l, idxN m.names = l := ⟨_, rfl⟩
  rw [hks] at HXS HYE HK2 hkl HKP HF3 HF5
  simp only [hks] at HF4
  clear hks hq1 hq2 hq3
  obtain ⟨W, hW⟩ : ∃ W, w.alloc (.cells #[.slice A0 m.names.length k0, .slice A1 m.buckets.length k1, .slice A2 m.sides.length k2] 51) = W := ⟨_, rfl⟩
  have hWf : Below w.heap.size w W ∧ w.heap.size < W.heap.size ∧ W.cell? ⟨w.heap.size, 0, none⟩ = some (.slice A0 m.names.length k0) ∧ W.cell? ⟨w.heap.size, 1, none⟩ = some (.slice A1 m.buckets.length k1) ∧ W.cell? ⟨w.heap.size, 2, none⟩ = some (.slice A2 m.sides.length k2) := by
    rw [← hW]; exact ⟨(Below.refl _ _).alloc (Nat.le_refl _) _, by simp, box_cell _ _ _ _ _ rfl, box_cell _ _ _ _ _ rfl, box_cell _ _ _ _ _ rfl⟩
  obtain ⟨hBW, hlW, c0, c1, c2⟩ := hWf
  have HBW := Lib.hid hBW
  have HALL := Lib.hid (fun (w' : World) (h : Below W.heap.size W w') => (⟨(h.cell (p := ⟨w.heap.size, 0, none⟩) hlW).trans c0, (h.cell (p := ⟨w.heap.size, 1, none⟩) hlW).trans c1, (h.cell (p := ⟨w.heap.size, 2, none⟩) hlW).trans c2⟩ : w'.cell? ⟨w.heap.size, 0, none⟩ = some (.slice A0 m.names.length k0) ∧ w'.cell? ⟨w.heap.size, 1, none⟩ = some (.slice A1 m.buckets.length k1) ∧ w'.cell? ⟨w.heap.size, 2, none⟩ = some (.slice A2 m.sides.length k2)))
  have RB := Lib.hid r1
  have RS := Lib.hid r2
  have HSC := Lib.hid l2
  have HA2 : ∃ bs os, Hid (0 < m.sides.length → A2 = some ⟨bs, os, none⟩) := by
    by_cases h : 0 < m.sides.length
    · obtain ⟨b4, o4, e4, -⟩ := Row.str RS.out h
      exact ⟨b4, o4, Lib.hid (fun _ => e4)⟩
    · exact ⟨0, 0, Lib.hid (fun h2 => absurd h2 h)⟩
  obtain ⟨bs, os, HA2⟩ := HA2
  clear hBW r0 r1 r2 l0 m0 l2 m2
  go_enter Tryd.func32, Tryd.ntmps32
  go_wp2_with (fail)
  clear hW
  refine (HXS.out _ HBW.out).mono ?_
  rintro e1 w1 ⟨AX, kX, rfl, lX, mX, rX, hb1⟩
  have RX := Lib.hid rX
  have HB1 := Lib.hid hb1
  have HB1w := Lib.hid (HBW.out.trans (hb1.mono HBW.out.size))
  have hl1 := hb1.size
  clear c0 c1 c2 hb1 rX HXS
  obtain ⟨c0, c1, c2⟩ := HALL.out w1 HB1.out
  go_wp2_with (fail)
  refine (HNM.out _ HB1w.out).mono ?_
  rintro e2 w2 ⟨rfl, hb2⟩
  have HB2 := Lib.hid (HB1.out.trans (hb2.mono hl1))
  have HB2w := Lib.hid (HBW.out.trans (HB2.out.mono HBW.out.size))
  have HB12 := Lib.hid hb2
  have hl2 := hb2.size
  clear c0 c1 c2 hb2 HNM
  obtain ⟨c0, c1, c2⟩ := HALL.out w2 HB2.out
  cases q1
  · have HE := Lib.hid (HNO.out (HF1.out (by first | rfl | trivial)))
    go_wp2
    go_ret2
    exact MrRes.mk HE.out HB2w.out
  by_cases hlen : m.buckets.length = ks.length
  rotate_left
  · have HE := Lib.hid (HNO.out (HF3.out hlen))
    have hq : ((m.buckets.length : Int) == (ks.length : Int)) = false := by rw [beq_eq_false_iff_ne]; omega
    have hq2 : ((m.buckets.length : Int) != (ks.length : Int)) = true := by rw [bne, hq]; rfl
    go_wp2
    go_ret2
    exact MrRes.mk HE.out HB2w.out
  have HBL := Lib.hid hlen
  have hq : ((m.buckets.length : Int) == (ks.length : Int)) = true := by rw [beq_iff_eq]; omega
  have hq2 : ((m.buckets.length : Int) != (ks.length : Int)) = false := by rw [bne, hq]; rfl
  clear hlen
  cases q2
  · have HE := Lib.hid (HNO.out (HF2.out (by simp)))
    go_wp2_with (go_at_call 69; refine (HIW.out _).mono ?_; rintro e3 w3 ⟨rfl, rfl⟩)
    go_ret2
    exact MrRes.mk HE.out HB2w.out
  cases q3
  · have HE := Lib.hid (HNO.out (HF2.out (by simp)))
    go_wp2_with (first | (go_at_call 69; refine (HIW.out _).mono ?_; rintro e3 w3 ⟨rfl, rfl⟩) | (go_at_call 84; refine (HWD.out _ HB2w.out).mono ?_; rintro e4 w4 ⟨rfl, rfl⟩))
    go_ret2
    exact MrRes.mk HE.out HB2w.out
  have hnp := HNP.out (by first | rfl | trivial)
  have hkp := HKP.out hnp
  have HFY := Lib.hid (fun h => HYE.out (HF5.out (by first | rfl | trivial) (by first | rfl | trivial) HBL.out h))
  have HFN := Lib.hid (fun k hk h => HNO.out (HF4.out k hk h))
  go_wp2_with (first | (go_at_call 69; refine (HIW.out _).mono ?_; rintro e3 w3 ⟨rfl, rfl⟩) | (go_at_call 84; refine (HWD.out _ HB2w.out).mono ?_; rintro e4 w4 ⟨rfl, rfl⟩))
  clear HF1 HF2 HF3 HF4 HF5 HYE HNO HNP HKP hnp HIW HWD c0 c1 c2 hq hq2
  go_loopw [7, 49] (fun hv it wr => ∃ (k : Nat) (A : Option Addr) (c : Nat), k ≤ m.buckets.length ∧ it = .int .i64 k ∧ hv = .slice A k c ∧ Own w2 wr A c (manyHashes (m.buckets.take k) n) ∧ Hid (∀ j (hj : j < m.buckets.length), j < k → bucketFit m.buckets[j] (ks.getD j 0) = true)) (fun _ it _ => m.buckets.length - (intOf it).toNat)
  case atStart => exact ⟨0, none, 0, Nat.zero_le _, rfl, rfl, Own.start (Below.refl _ _), Lib.hid (fun j _ h => absurd h (Nat.not_lt_zero _))⟩
  case round =>
    obtain ⟨k, A, c, hk, rfl, rfl, hown, HA⟩ := hrel
    have HOW := Lib.hid hown
    have HBr := Lib.hid (HB2.out.trans (hown.bl.mono HB2.out.size))
    have HBw := Lib.hid (HBW.out.trans (HBr.out.mono HBW.out.size))
    have HB1r := Lib.hid (HB12.out.trans (hown.bl.mono hl2))
    have hw2r := hown.bl.size
    clear hown
    obtain ⟨c0, c1, c2⟩ := HALL.out wr HBr.out
    by_cases hkb : k < m.buckets.length
    · have hlt : k < ks.length := by have := HBL.out; omega
      obtain ⟨b3, o3, rfl, hl3, f0, i0⟩ := Row.int RX.out (i := k) (by rw [castL_len]; exact hlt)
      rw [castL_at hlt] at f0 i0
      replace f0 := (HB1r.out.cell (p := ⟨b3, o3 + k, none⟩) hl3).trans f0
      have hl4 : b3 < wr.heap.size := Nat.lt_of_lt_of_le hl3 HB1r.out.size
      obtain ⟨b1, o1, cc, TL, rfl, hl1', ha, hr, -, -⟩ := Row.at_ RB.out hkb
      obtain ⟨AL, kL, rfl, lL, mL, rL⟩ := open_list hr
      have q0 := ha 0 _ rfl
      simp only [show Lay.n (List Leaf) = 1 from rfl, Nat.mul_one, Nat.add_zero] at q0
      clear ha hr
      obtain ⟨hzl, hll⟩ := leafs_at hkb hz1
      have HN4 := Lib.hid (HFN.out k hkb)
      have HNX : Hid (bucketFit m.buckets[k] (ks.getD k 0) = true → ∀ j (hj : j < m.buckets.length), j < k + 1 → bucketFit m.buckets[j] (ks.getD j 0) = true) := Lib.hid (fun h0 j hj h => by rcases Nat.lt_succ_iff_lt_or_eq.1 h with h1 | h1; exact HA.out j hj h1; subst h1; exact h0)
      have HSN := Lib.hid (hashes_snoc (n := n) hkb)
      obtain ⟨v, hv⟩ : ∃ v, ks.getD k 0 = v := ⟨_, rfl⟩
      rw [hv] at f0 i0 HN4
      rw [hv] at HNX
      obtain ⟨b, hb_⟩ : ∃ b, m.buckets[k] = b := ⟨_, rfl⟩
      rw [hb_] at rL lL HN4 HSN
      rw [hb_] at HNX
      simp only [hb_] at q0 hzl hll
      replace q0 := (HBw.out.cell (p := ⟨b1, o1 + k, none⟩) hl1').trans q0
      have hlb : b1 < wr.heap.size := Nat.lt_of_lt_of_le hl1' HBw.out.size
      have hlx : w.heap.size < wr.heap.size := by have := HBr.out.size; omega
      have hki : (k : Int) < (m.buckets.length : Int) := by omega
      have hki2 : (k : Int) < (ks.length : Int) := by omega
      have hk0 : (0 : Int) ≤ (k : Int) := by omega
      have HLO := Lib.hid (impl_LeavesOk wr b AL kL TL (Row.later rL HBw.out) (by omega))
      have HBO := Lib.hid (fun W' (h : Below w.heap.size w W') => impl_BucketOf W' b AL kL TL (Row.later rL h) (by omega) hzl (v : Int) (HT.out.later h))
      have HFD : Hid (bucketFit b v = (leavesOk b && decide ((bucketOf b (v : Int)).length = b.length))) := Lib.hid rfl
      have HBH := Lib.hid (fun (hok : leavesOk b = true) W' (h : Below w.heap.size w W') => impl_BucketHash W' b AL kL TL (Row.later rL h) hok n hn (HT.out.later h))
      have hhm : (bucketHash b n).size ≤ maxLen := by have := bucketHash_le b n; unfold maxLen; omega
      obtain ⟨h, hh⟩ : ∃ h, bucketHash b n = h := ⟨_, rfl⟩
      rw [hh] at HBH HSN hhm
      obtain ⟨z, hz'⟩ : ∃ z, leavesOk b = z := ⟨_, rfl⟩
      rw [hz'] at HLO HFD HBH
      obtain ⟨BL, hBL⟩ : ∃ l, bucketOf b (v : Int) = l := ⟨_, rfl⟩
      rw [hBL] at HBO HFD
      have HNL : Hid (k = (manyHashes (m.buckets.take k) n).length) := Lib.hid (by rw [hashes_len, List.length_take]; omega)
      have hwi := HBw.out.size
      clear hv hb_ hh hz' hBL rL lL mL hzl
      go_wp2_with (fail)
      refine HLO.out.mono ?_
      rintro e5 w5 ⟨rfl, hb5⟩
      have HB5 := Lib.hid hb5
      have HB5w := Lib.hid (HBw.out.trans (hb5.mono hwi))
      have hs5 := hb5.size
      replace f0 := (hb5.cell (p := ⟨b3, o3 + k, none⟩) hl4).trans f0
      have hl45 : b3 < w5.heap.size := by omega
      clear hb5 c0 c1 c2 q0
      cases z
      · have HE := Lib.hid (HN4.out (by rw [HFD.out]; rfl))
        go_wp2
        go_ret2
        exact MrRes.mk HE.out HB5w.out
      go_wp2_with (fail)
      refine (HBO.out _ HB5w.out).mono ?_
      rintro e6 w6 ⟨A6, c6, rfl, o6⟩
      have HB6 := Lib.hid (HB5.out.trans (o6.bl.mono hs5))
      have HB6w := Lib.hid (HB5w.out.trans (o6.bl.mono HB5w.out.size))
      have hs6 := o6.bl.size
      clear o6 f0
      by_cases hbe : BL.length = b.length
      rotate_left
      · have HE := Lib.hid (HN4.out (by rw [HFD.out, decide_eq_false hbe]; rfl))
        have hqb : ((BL.length : Int) == (b.length : Int)) = false := by rw [beq_eq_false_iff_ne]; omega
        have hqb2 : ((BL.length : Int) != (b.length : Int)) = true := by rw [bne, hqb]; rfl
        go_wp2
        go_ret2
        exact MrRes.mk HE.out HB6w.out
      have HOK := Lib.hid (HNX.out (by rw [HFD.out, decide_eq_true hbe]; rfl))
      have hqb : ((BL.length : Int) == (b.length : Int)) = true := by rw [beq_iff_eq]; omega
      have hqb2 : ((BL.length : Int) != (b.length : Int)) = false := by rw [bne, hqb]; rfl
      have HBE := Lib.hid hbe
      clear hbe HN4 HNX
      go_wp2_with (fail)
      refine (HBH.out (by first | rfl | trivial) _ HB6w.out).mono ?_
      rintro e7 w7 ⟨rfl, hb7⟩
      have HOW7 := Lib.hid (HOW.out.later (HB6.out.trans (hb7.mono HB6.out.size)))
      clear hb7
      go_wp2_with (at_builtin; refine wpList_push (α := ByteArray) (w0 := w2) (ys := [h]) rfl _ _ rfl rfl HNL.out (HOW7.out.alloc _) rfl rfl (src1 hhm (by first | rfl | simp) rfl) (by omega) ?_; intro A8 c8 w8 o8 z8)
      go_roundw
      case rel => exact ⟨k + 1, A8, c8, hkb, by go_num, rfl, by rw [HSN.out]; exact o8, HOK⟩
      case measure => simp [intOf]; omega
    have hke : k = m.buckets.length := by omega
    subst hke
    have HRR := Lib.hid (HFY.out (fun j hj => HA.out j hj hj))
    have HHS : Hid (manyHashes (m.buckets.take m.buckets.length) n = manyHashes m.buckets n) := Lib.hid (by rw [List.take_length])
    rw [HHS.out] at HOW
    have HHL := Lib.hid ((hashes_len m.buckets n).trans HBL.out)
    obtain ⟨hs, hhs⟩ : ∃ l, manyHashes m.buckets n = l := ⟨_, rfl⟩
    rw [hhs] at HOW HRR HHL
    clear hhs HHS hk hkb HA
    have HRX := Lib.hid (Row.weak (Row.later RX.out HB1r.out))
    have hk8 : ks.length ≤ 1048576 := by omega
    have hkp8 := hkp
    clear hkp hkl
    have HNB := Lib.hid (show m.buckets.length = ks.length from HBL.out)
    go_wp2_with (fail)
    go_loopw [6, 7, 10, 78] (fun pl hv sv cv wl => ∃ (c d u : Nat) (kj : List Nat) (hj : List ByteArray) (AP AH PS : Option Addr) (cP cH CS : Nat) (SP SH : Blks), cv = .int .i64 c ∧ pl = .slice AP kj.length cP ∧ hv = .slice AH kj.length cH ∧ sv = .slice PS (m.sides.length - u) CS ∧ Hid (c + d = 8) ∧ c ≤ 8 ∧ u ≤ m.sides.length ∧ m.sides.length - u ≤ CS ∧ kj.length ≤ 1048576 ∧ 0 < kj.length ∧ Hid (hj.length = kj.length) ∧ Hid (∀ q ∈ kj, q < 256) ∧ Hid (Row false wl AP cP (castL kj) SP) ∧ Hid (Row false wl AH cH hj SH) ∧ Hid (u < m.sides.length → PS = some ⟨bs, os + u, none⟩) ∧ Hid (rootI (node2 n) d kj hj (m.sides.drop u) = rootI (node2 n) 8 ks hs m.sides) ∧ Hid (Below W.heap.size W wl)) (fun _ _ _ cv _ => 8 - (intOf cv).toNat)
    case atStart => exact ⟨0, 8, 0, ks, hs, _, _, _, _, _, _, _, _, rfl, rfl, by rw [HNB.out], rfl, Lib.hid rfl, by omega, Nat.zero_le _, HSC.out, hk8, hkp8, HHL, HK2, HRX, Lib.hid HOW.out.weak, Lib.hid (fun h => HA2.out h), Lib.hid rfl, HBr⟩
    case round =>
      clear c0 c1 c2
      obtain ⟨c, d, u, kj, hj, AP, AH, PS, cP, cH, CS, SP, SH, rfl, rfl, rfl, rfl, HCD, hc8, hus, hsc, hkj, hkj0, HLJ, HJ2, HRP, HRH, HPS, HRO, HBl⟩ := hrel
      have HBlw := Lib.hid (HBW.out.trans (HBl.out.mono HBW.out.size))
      by_cases hc : c < 8
      rotate_left
      · obtain rfl : d = 0 := by have := HCD.out; omega
        obtain ⟨b1, o1, rfl, hl1', f0, s0⟩ := Row.str HRH.out (i := 0) (by have := HLJ.out; omega)
        have HH0 : Hid (hj.getD 0 nilB = hj[0]'(by have := HLJ.out; omega)) := Lib.hid (getD_ (by have := HLJ.out; omega))
        obtain ⟨h0, hh0⟩ : ∃ h, hj[0]'(by have := HLJ.out; omega) = h := ⟨_, rfl⟩
        rw [hh0] at f0 s0 HH0
        have HEN : Hid (R = endI (some (hj, m.sides.drop u))) := Lib.hid (by rw [HRR.out, ← HRO.out]; rfl)
        simp only [Nat.add_zero] at f0
        have hkj1 : (0 : Int) < (kj.length : Int) := by omega
        have hcd : decide ((c : Int) < 8) = false := decide_eq_false (by omega)
        clear hh0
        by_cases hu : u < m.sides.length
        · have HE : Hid (R = (nilB, false)) := Lib.hid (by rw [HEN.out]; simp only [endI]; rw [if_neg (by rw [List.length_drop]; omega)])
          have hud : decide ((0 : Int) < ((m.sides.length - u : Nat) : Int)) = true := decide_eq_true (by omega)
          have hud2 : 0 < m.sides.length - u := by omega
          go_wp2
          go_ret2
          exact MrRes.mk HE.out HBlw.out
        · have HE : Hid (R = (h0, true)) := Lib.hid (by rw [HEN.out]; simp only [endI]; rw [if_pos (by rw [List.length_drop]; omega), HH0.out])
          have hud2 : m.sides.length - u = 0 := by omega
          rw [hud2]
          clear hud2
          go_wp2
          go_ret2
          exact MrRes.mk HE.out HBlw.out
      obtain ⟨d, rfl⟩ : ∃ d', d = d' + 1 := ⟨d - 1, by have := HCD.out; omega⟩
      have hcb : (c : Int) < 8 := by omega
      obtain ⟨X, hX⟩ : ∃ X, lvF (node2 n) kj hj kj.length 0 (m.sides.drop u) [] [] = X := ⟨_, rfl⟩
      have HXN : Hid (X = none → R = (nilB, false)) := Lib.hid (fun h => by rw [HRR.out, ← HRO.out, rootI_none (hX.trans h)]; rfl)
      have HXS2 : Hid (∀ up nx r, X = some (up, nx, r) → rootI (node2 n) d up nx r = rootI (node2 n) 8 ks hs m.sides) := Lib.hid (fun up nx r h => (rootI_some (hX.trans h)).symm.trans HRO.out)
      have HX0 := Lib.hid hX
      have hwls := HBlw.out.size
      have HPS0 := HPS
      clear hX HRO
      go_wp2_with (fail)
      go_loopw [10, 11, 12, 13] (fun sv uv nv kv wi => ∃ (k u : Nat) (up : List Nat) (nx : List ByteArray) (AU AN : Option Addr) (cU cN : Nat) (PS : Option Addr) (CS t : Nat), kv = .int .i64 k ∧ sv = .slice PS (m.sides.length - u) CS ∧ uv = .slice AU up.length cU ∧ nv = .slice AN nx.length cN ∧ k ≤ kj.length ∧ kj.length ≤ t + k ∧ up.length ≤ k ∧ Hid (up.length = nx.length) ∧ u ≤ m.sides.length ∧ Hid (lvF (node2 n) kj hj t k (m.sides.drop u) up nx = X) ∧ Hid (Two wr.heap.size wi AU cU (castL up) AN cN nx) ∧ Hid ((∀ q ∈ up, q < 256) ∧ (0 < k → 0 < up.length) ∧ m.sides.length - u ≤ CS) ∧ Hid (u < m.sides.length → PS = some ⟨bs, os + u, none⟩) ∧ Hid (Below wr.heap.size wr wi)) (fun _ _ _ kv _ => kj.length - (intOf kv).toNat)
      case atStart => exact ⟨0, u, [], [], none, none, 0, 0, PS, CS, kj.length, rfl, rfl, rfl, rfl, Nat.zero_le _, by omega, Nat.le_refl _, Lib.hid rfl, hus, Lib.hid HX0.out, Lib.hid (Two.start _ _), Lib.hid ⟨fun q h => absurd h (by simp), fun h => absurd h (Nat.lt_irrefl 0), hsc⟩, HPS0, Lib.hid (Below.refl _ _)⟩
      case round =>
        obtain ⟨k, u, up, nx, AU, AN, cU, cN, PS, CS, t, rfl, rfl, rfl, rfl, hkk, htk, hupk, HUN, hus, HLV, HTW, HUP, HPS, HBS⟩ := hrel
        have HBiw := Lib.hid (HBlw.out.trans (HBS.out.mono HBlw.out.size))
        have HBi := Lib.hid (HBl.out.trans (HBS.out.mono HBl.out.size))
        have hwli := HBS.out.size
        have hwis := HBiw.out.size
        by_cases hlt : k < kj.length
        rotate_left
        · obtain rfl : k = kj.length := by omega
          have HXE : Hid (X = some (up, nx, m.sides.drop u)) := Lib.hid (by have h9 := HLV.out; rw [lv_end] at h9; exact h9.symm)
          have HRO2 := Lib.hid (HXS2.out up nx _ HXE.out)
          go_wp2
          go_roundw
          case rel => exact ⟨c + 1, d, u, up, nx, AU, AN, PS, cU, cN, CS, _, _, by go_num, rfl, by rw [HUN.out], rfl, Lib.hid (by have := HCD.out; omega), hc, hus, HUP.out.2.2, by omega, HUP.out.2.1 hkj0, Lib.hid HUN.out.symm, Lib.hid HUP.out.1, Lib.hid HTW.out.fst, Lib.hid HTW.out.swap.fst, HPS, HRO2, HBi⟩
          case measure => simp [intOf]; omega
        obtain ⟨t, rfl⟩ : ∃ t', t = t' + 1 := ⟨t - 1, by omega⟩
        obtain ⟨b1, o1, rfl, hl1', f0, i0⟩ := Row.int HRP.out (i := k) (by rw [castL_len]; exact hlt)
        rw [castL_at hlt] at f0 i0
        replace f0 := (HBS.out.cell (p := ⟨b1, o1 + k, none⟩) hl1').trans f0
        have hlb1 := Nat.lt_of_lt_of_le hl1' hwli
        obtain ⟨b2, o2, rfl, hl2', g0, s0⟩ := Row.str HRH.out (i := k) (by rw [HLJ.out]; exact hlt)
        have HAE : Hid (hj.getD k nilB = hj[k]'(by rw [HLJ.out]; exact hlt)) := Lib.hid (getD_ (by rw [HLJ.out]; exact hlt))
        obtain ⟨a, ha⟩ : ∃ a, hj[k]'(by rw [HLJ.out]; exact hlt) = a := ⟨_, rfl⟩
        rw [ha] at g0 s0 HAE
        replace g0 := (HBS.out.cell (p := ⟨b2, o2 + k, none⟩) hl2').trans g0
        have hlb2 := Nat.lt_of_lt_of_le hl2' hwli
        have hp256 : kj.getD k 0 < 256 := HJ2.out _ (by rw [getD_ hlt]; exact List.getElem_mem hlt)
        have HL1 : Hid (pairY kj k = true → lvF (node2 n) kj hj t (k + 2) (m.sides.drop u) (up ++ [kj.getD k 0 / 2]) (nx ++ [node2 n (kj.getD k 0) a (hj.getD (k + 1) nilB)]) = X) := Lib.hid (fun h => by have h9 := HLV.out; rw [lvF, if_pos hlt, if_pos h, HAE.out] at h9; exact h9)
        have HL2 : Hid (pairY kj k = false → ¬ (m.sides.drop u).length = 0 → lvF (node2 n) kj hj t (k + 1) ((m.sides.drop u).drop 1) (up ++ [kj.getD k 0 / 2]) (nx ++ [node2 n (kj.getD k 0) a ((m.sides.drop u).getD 0 nilB)]) = X) := Lib.hid (fun h h2 => by have h9 := HLV.out; rw [lvF, if_pos hlt, if_neg (by simp [h]), if_neg h2, HAE.out] at h9; exact h9)
        have HL3 : Hid (pairY kj k = false → (m.sides.drop u).length = 0 → X = none) := Lib.hid (fun h h2 => by have h9 := HLV.out; rw [lvF, if_pos hlt, if_neg (by simp [h]), if_pos h2] at h9; exact h9.symm)
        have HPY : Hid (pairY kj k = (decide (k + 1 < kj.length) && decide (kj.getD (k + 1) 0 = kj.getD k 0 ^^^ 1))) := Lib.hid rfl
        obtain ⟨p, hp⟩ : ∃ p, kj.getD k 0 = p := ⟨_, rfl⟩
        rw [hp] at f0 i0 hp256 HL1 HL2 HPY
        obtain ⟨py, hpy⟩ : ∃ b, pairY kj k = b := ⟨_, rfl⟩
        rw [hpy] at HL1 HL2 HL3 HPY
        have hx1 := xor1 hp256
        obtain ⟨r, hr⟩ : ∃ r, p ^^^ 1 = r := ⟨_, rfl⟩
        rw [hr] at HPY hx1
        have HUL := Lib.hid (castL_len up)
        have HPD : Hid ((p : Int) / 2 = ((p / 2 : Nat) : Int)) := Lib.hid (by omega)
        have hpq : Flat.ok (((p / 2 : Nat) : Int)) := (show I64 _ from by unfold I64; omega)
        have hqu : Int.tdiv (p : Int) 2 = ((p / 2 : Nat) : Int) := rfl
        have hnb : nx.length ≤ 1048576 := by have := HUN.out; omega
        have hki : (k : Int) < (kj.length : Int) := by omega
        have hk00 : (0 : Int) ≤ (k : Int) := by omega
        have hk1 : IntKind.i64.wrap ((k : Int) + 1) = (k : Int) + 1 := IntWalk.i64_in _ (by omega)
        clear hp ha hpy hr HLV
        by_cases hn1 : k + 1 < kj.length
        rotate_left
        · have hnd : decide ((k : Int) + 1 < (kj.length : Int)) = false := decide_eq_false (by omega)
          obtain rfl : py = false := by rw [HPY.out, decide_eq_false hn1]; rfl
          clear hn1
          by_cases hu : u < m.sides.length
          rotate_left
          · have HE := Lib.hid (HXN.out (HL3.out (by first | rfl | trivial) (by rw [List.length_drop]; omega)))
            have hl0 : m.sides.length - u = 0 := by omega
            have hl0d : (((m.sides.length - u : Nat) : Int) == 0) = true := by rw [hl0]; rfl
            go_wp2
            go_ret2
            exact MrRes.mk HE.out HBiw.out
          have hl0 : ¬ m.sides.length - u = 0 := by omega
          have hl0d : (((m.sides.length - u : Nat) : Int) == 0) = false := by rw [beq_eq_false_iff_ne]; omega
          obtain ⟨b4, o4, e4, hl4', q4, s1⟩ := Row.str RS.out hu
          have HPE := Lib.hid (HPS.out hu)
          have e5 := (HA2.out (by omega)).symm.trans e4
          obtain ⟨rfl, rfl⟩ : bs = b4 ∧ os = o4 := by simpa using e5
          obtain rfl := HPE.out
          have HBE : Hid ((m.sides.drop u).getD 0 nilB = m.sides[u]) := Lib.hid (by rw [getD_ (by rw [List.length_drop]; omega), List.getElem_drop]; rfl)
          have HSN0 := Lib.hid (HL2.out (by first | rfl | trivial) (by rw [List.length_drop]; omega))
          rw [HBE.out, List.drop_drop] at HSN0
          obtain ⟨b, hb_⟩ : ∃ b, m.sides[u] = b := ⟨_, rfl⟩
          rw [hb_] at q4 s1 HSN0
          replace q4 := (HBiw.out.cell (p := ⟨bs, os + u, none⟩) hl4').trans q4
          have hl4 : bs < wr.heap.size := Nat.lt_of_lt_of_le hl4' HBiw.out.size
          have hu1 : 1 ≤ m.sides.length - u := by omega
          have hu2 : (1 : Int) ≤ ((m.sides.length - u : Nat) : Int) := by omega
          have hu3 : (0 : Int) < ((m.sides.length - u : Nat) : Int) := by omega
          have HUP2 : Hid ((∀ x ∈ up ++ [p / 2], x < 256) ∧ (0 < k + 1 → 0 < (up ++ [p / 2]).length) ∧ m.sides.length - (u + 1) ≤ CS - 1) := Lib.hid ⟨fun x hx => by
            rcases List.mem_append.1 hx with h | h
            · exact HUP.out.1 x h
            · have : x = p / 2 := by simpa using h
              omega, fun _ => by simp, by have := HUP.out.2.2; omega⟩
          have hcs1 : m.sides.length - u ≤ CS := HUP.out.2.2
          clear hb_ HBE HL1 HL2 HL3 HPY e4 e5
          go_wp2_with (fail)
          go_quiet (fail)
          by_cases hpm : p % 2 = 0
          · have hpm1 : (p : Int) % 2 = 0 := by omega
            have hpt : Int.tmod (p : Int) 2 = 0 := by rw [Int.tmod_eq_emod_of_nonneg (by omega)]; omega
            have HSN : Hid (lvF (node2 n) kj hj t (k + 1) (m.sides.drop (u + 1)) (up ++ [p / 2]) (nx ++ [tagHash 3 [a, b] n]) = X) := Lib.hid (by have h9 := HSN0.out; unfold node2 at h9; rw [if_pos hpm] at h9; exact h9)
            clear hpm HSN0
            have hB := Below.refl wr.heap.size wr
            go_wp2_with (first | (go_at_call 86; refine (impl_hashOf _ 3 (by unfold I64; omega) [a, b] _ _ _ (row_pairAt _ a b s0 s1 _ _ (by first | rfl | simp)) (by simp) n hn (HT.out.later (HBiw.out.trans (Below.mono (w := wr) (by (repeat (first | with_reducible exact hB | with_reducible apply Below.drewN | with_reducible apply Below.drew | with_reducible refine Below.alloc ?_ ?_ _)); all_goals (first | omega | (simp; done) | (simp; omega))) hwis)))).mono ?_; rintro e5 w5 ⟨rfl, hb5⟩; have hB := Below.step (a := wr) (by (repeat (first | with_reducible exact hB | with_reducible apply Below.drewN | with_reducible apply Below.drew | with_reducible refine Below.alloc ?_ ?_ _)); all_goals (first | omega | (simp; done) | (simp; omega))) hb5; have HTW5 := Lib.hid (HTW.out.later hB); have hs5 := hB.size) | (at_builtin; refine wpList_two (α := ByteArray) (β := Int) (ys := [tagHash 3 [a, b] n]) rfl _ _ rfl rfl rfl (HTW5.out.later ((Below.refl _ _).alloc (Nat.le_refl _) _)).swap (by simp; omega) rfl rfl (src1 (hash_max 3 [a, b] n) (by first | rfl | simp) rfl) (by omega) ?_; intro A6 c6 w6 t6 b6 z6; have HTW6 := Lib.hid t6.swap; have hz6 : w5.heap.size ≤ w6.heap.size := (by have h9 := z6; rw [World.size_alloc] at h9; omega); have HB6 := Lib.hid (((Below.refl _ _).alloc (by omega) _).trans b6); clear t6 b6 z6) | (at_builtin; refine wpList_two (α := Int) (β := ByteArray) (ys := [((p / 2 : Nat) : Int)]) rfl _ _ rfl rfl HUL.out.symm (HTW6.out.later ((Below.refl _ _).alloc (Nat.le_refl _) _)) (by simp; omega) rfl rfl (src_newb _ (((p / 2 : Nat) : Int)) hpq _ _ _ (by first | rfl | simp) (by first | rfl | (rw [HPD.out]; rfl))) (by omega) ?_; intro A7 c7 w7 t7 b7 z7; have HTW7 := Lib.hid t7; have HB7r := Lib.hid (HBS.out.trans ((hB.mono hwli).trans (HB6.out.trans (((Below.refl _ _).alloc (by omega) _).trans b7)))); clear t7 b7 z7))
            go_roundw
            case rel => first | exact ⟨k + 1, u + 1, up ++ [p / 2], nx ++ [tagHash 3 [a, b] n], A7, A6, c7, c6, _, (CS - 1), t, by go_num, by first | rfl | simp | (simp; omega), by simp, by simp, by omega, by omega, by simp; omega, Lib.hid (by rw [List.length_append, List.length_append, HUN.out]; rfl), by omega, HSN, Lib.hid (by rw [castL_snoc]; exact HTW7.out), HUP2, Lib.hid (fun h9 => by rw [if_neg (by omega)]; rfl), HB7r⟩ | ((repeat apply Exists.intro); exact ⟨⟨k + 1, u + 1, up ++ [p / 2], nx ++ [tagHash 3 [a, b] n], A7, A6, c7, c6, _, (CS - 1), t, by go_num, by first | rfl | simp | (simp; omega), by simp, by simp, by omega, by omega, by simp; omega, Lib.hid (by rw [List.length_append, List.length_append, HUN.out]; rfl), by omega, HSN, Lib.hid (by rw [castL_snoc]; exact HTW7.out), HUP2, Lib.hid (fun h9 => by rw [if_neg (by omega)]; rfl), HB7r⟩, rfl⟩)
            case measure => simp [intOf]; omega
          · have hpm1 : (p : Int) % 2 = 1 := by omega
            have hpt : Int.tmod (p : Int) 2 = 1 := by rw [Int.tmod_eq_emod_of_nonneg (by omega)]; omega
            have HSN : Hid (lvF (node2 n) kj hj t (k + 1) (m.sides.drop (u + 1)) (up ++ [p / 2]) (nx ++ [tagHash 3 [b, a] n]) = X) := Lib.hid (by have h9 := HSN0.out; unfold node2 at h9; rw [if_neg hpm] at h9; exact h9)
            clear hpm HSN0
            have hB := Below.refl wr.heap.size wr
            go_wp2_with (first | (go_at_call 86; refine (impl_hashOf _ 3 (by unfold I64; omega) [b, a] _ _ _ (row_pairAt _ b a s1 s0 _ _ (by first | rfl | simp)) (by simp) n hn (HT.out.later (HBiw.out.trans (Below.mono (w := wr) (by (repeat (first | with_reducible exact hB | with_reducible apply Below.drewN | with_reducible apply Below.drew | with_reducible refine Below.alloc ?_ ?_ _)); all_goals (first | omega | (simp; done) | (simp; omega))) hwis)))).mono ?_; rintro e5 w5 ⟨rfl, hb5⟩; have hB := Below.step (a := wr) (by (repeat (first | with_reducible exact hB | with_reducible apply Below.drewN | with_reducible apply Below.drew | with_reducible refine Below.alloc ?_ ?_ _)); all_goals (first | omega | (simp; done) | (simp; omega))) hb5; have HTW5 := Lib.hid (HTW.out.later hB); have hs5 := hB.size) | (at_builtin; refine wpList_two (α := ByteArray) (β := Int) (ys := [tagHash 3 [b, a] n]) rfl _ _ rfl rfl rfl (HTW5.out.later ((Below.refl _ _).alloc (Nat.le_refl _) _)).swap (by simp; omega) rfl rfl (src1 (hash_max 3 [b, a] n) (by first | rfl | simp) rfl) (by omega) ?_; intro A6 c6 w6 t6 b6 z6; have HTW6 := Lib.hid t6.swap; have hz6 : w5.heap.size ≤ w6.heap.size := (by have h9 := z6; rw [World.size_alloc] at h9; omega); have HB6 := Lib.hid (((Below.refl _ _).alloc (by omega) _).trans b6); clear t6 b6 z6) | (at_builtin; refine wpList_two (α := Int) (β := ByteArray) (ys := [((p / 2 : Nat) : Int)]) rfl _ _ rfl rfl HUL.out.symm (HTW6.out.later ((Below.refl _ _).alloc (Nat.le_refl _) _)) (by simp; omega) rfl rfl (src_newb _ (((p / 2 : Nat) : Int)) hpq _ _ _ (by first | rfl | simp) (by first | rfl | (rw [HPD.out]; rfl))) (by omega) ?_; intro A7 c7 w7 t7 b7 z7; have HTW7 := Lib.hid t7; have HB7r := Lib.hid (HBS.out.trans ((hB.mono hwli).trans (HB6.out.trans (((Below.refl _ _).alloc (by omega) _).trans b7)))); clear t7 b7 z7))
            go_roundw
            case rel => first | exact ⟨k + 1, u + 1, up ++ [p / 2], nx ++ [tagHash 3 [b, a] n], A7, A6, c7, c6, _, (CS - 1), t, by go_num, by first | rfl | simp | (simp; omega), by simp, by simp, by omega, by omega, by simp; omega, Lib.hid (by rw [List.length_append, List.length_append, HUN.out]; rfl), by omega, HSN, Lib.hid (by rw [castL_snoc]; exact HTW7.out), HUP2, Lib.hid (fun h9 => by rw [if_neg (by omega)]; rfl), HB7r⟩ | ((repeat apply Exists.intro); exact ⟨⟨k + 1, u + 1, up ++ [p / 2], nx ++ [tagHash 3 [b, a] n], A7, A6, c7, c6, _, (CS - 1), t, by go_num, by first | rfl | simp | (simp; omega), by simp, by simp, by omega, by omega, by simp; omega, Lib.hid (by rw [List.length_append, List.length_append, HUN.out]; rfl), by omega, HSN, Lib.hid (by rw [castL_snoc]; exact HTW7.out), HUP2, Lib.hid (fun h9 => by rw [if_neg (by omega)]; rfl), HB7r⟩, rfl⟩)
            case measure => simp [intOf]; omega
        have hnd : decide ((k : Int) + 1 < (kj.length : Int)) = true := decide_eq_true (by omega)
        have hnd2 : (k : Int) + 1 < (kj.length : Int) := by omega
        have hk10 : (0 : Int) ≤ (k : Int) + 1 := by omega
        have hk1n : ((k : Int) + 1).toNat = k + 1 := by omega
        obtain ⟨b5, o5, e5, hl5', f1, i1⟩ := Row.int HRP.out (i := k + 1) (by rw [castL_len]; exact hn1)
        cases e5
        rw [castL_at hn1] at f1 i1
        have F1 := Lib.hid f1
        replace f1 := (HBS.out.cell (p := ⟨b1, o1 + (k + 1), none⟩) hl1').trans f1
        obtain ⟨q, hq⟩ : ∃ q, kj.getD (k + 1) 0 = q := ⟨_, rfl⟩
        rw [hq] at f1 i1 HPY F1
        clear hq
        by_cases hqr : q = r
        rotate_left
        · have hqd : ((q : Int) == (r : Int)) = false := by rw [beq_eq_false_iff_ne]; omega
          have hqd2 : (q == r) = false := by rw [beq_eq_false_iff_ne]; exact hqr
          obtain rfl : py = false := by rw [HPY.out, decide_eq_false hqr]; simp
          clear hqr
          by_cases hu : u < m.sides.length
          rotate_left
          · have HE := Lib.hid (HXN.out (HL3.out (by first | rfl | trivial) (by rw [List.length_drop]; omega)))
            have hl0 : m.sides.length - u = 0 := by omega
            have hl0d : (((m.sides.length - u : Nat) : Int) == 0) = true := by rw [hl0]; rfl
            go_wp2
            go_ret2
            exact MrRes.mk HE.out HBiw.out
          have hl0 : ¬ m.sides.length - u = 0 := by omega
          have hl0d : (((m.sides.length - u : Nat) : Int) == 0) = false := by rw [beq_eq_false_iff_ne]; omega
          obtain ⟨b4, o4, e4, hl4', q4, s1⟩ := Row.str RS.out hu
          have HPE := Lib.hid (HPS.out hu)
          have e5 := (HA2.out (by omega)).symm.trans e4
          obtain ⟨rfl, rfl⟩ : bs = b4 ∧ os = o4 := by simpa using e5
          obtain rfl := HPE.out
          have HBE : Hid ((m.sides.drop u).getD 0 nilB = m.sides[u]) := Lib.hid (by rw [getD_ (by rw [List.length_drop]; omega), List.getElem_drop]; rfl)
          have HSN0 := Lib.hid (HL2.out (by first | rfl | trivial) (by rw [List.length_drop]; omega))
          rw [HBE.out, List.drop_drop] at HSN0
          obtain ⟨b, hb_⟩ : ∃ b, m.sides[u] = b := ⟨_, rfl⟩
          rw [hb_] at q4 s1 HSN0
          replace q4 := (HBiw.out.cell (p := ⟨bs, os + u, none⟩) hl4').trans q4
          have hl4 : bs < wr.heap.size := Nat.lt_of_lt_of_le hl4' HBiw.out.size
          have hu1 : 1 ≤ m.sides.length - u := by omega
          have hu2 : (1 : Int) ≤ ((m.sides.length - u : Nat) : Int) := by omega
          have hu3 : (0 : Int) < ((m.sides.length - u : Nat) : Int) := by omega
          have HUP2 : Hid ((∀ x ∈ up ++ [p / 2], x < 256) ∧ (0 < k + 1 → 0 < (up ++ [p / 2]).length) ∧ m.sides.length - (u + 1) ≤ CS - 1) := Lib.hid ⟨fun x hx => by
            rcases List.mem_append.1 hx with h | h
            · exact HUP.out.1 x h
            · have : x = p / 2 := by simpa using h
              omega, fun _ => by simp, by have := HUP.out.2.2; omega⟩
          have hcs1 : m.sides.length - u ≤ CS := HUP.out.2.2
          clear hb_ HBE HL1 HL2 HL3 HPY e4 e5
          go_wp2_with (fail)
          go_quiet (fail)
          by_cases hpm : p % 2 = 0
          · have hpm1 : (p : Int) % 2 = 0 := by omega
            have hpt : Int.tmod (p : Int) 2 = 0 := by rw [Int.tmod_eq_emod_of_nonneg (by omega)]; omega
            have HSN : Hid (lvF (node2 n) kj hj t (k + 1) (m.sides.drop (u + 1)) (up ++ [p / 2]) (nx ++ [tagHash 3 [a, b] n]) = X) := Lib.hid (by have h9 := HSN0.out; unfold node2 at h9; rw [if_pos hpm] at h9; exact h9)
            clear hpm HSN0
            have hB := Below.refl wr.heap.size wr
            go_wp2_with (first | (go_at_call 86; refine (impl_hashOf _ 3 (by unfold I64; omega) [a, b] _ _ _ (row_pairAt _ a b s0 s1 _ _ (by first | rfl | simp)) (by simp) n hn (HT.out.later (HBiw.out.trans (Below.mono (w := wr) (by (repeat (first | with_reducible exact hB | with_reducible apply Below.drewN | with_reducible apply Below.drew | with_reducible refine Below.alloc ?_ ?_ _)); all_goals (first | omega | (simp; done) | (simp; omega))) hwis)))).mono ?_; rintro e5 w5 ⟨rfl, hb5⟩; have hB := Below.step (a := wr) (by (repeat (first | with_reducible exact hB | with_reducible apply Below.drewN | with_reducible apply Below.drew | with_reducible refine Below.alloc ?_ ?_ _)); all_goals (first | omega | (simp; done) | (simp; omega))) hb5; have HTW5 := Lib.hid (HTW.out.later hB); have hs5 := hB.size) | (at_builtin; refine wpList_two (α := ByteArray) (β := Int) (ys := [tagHash 3 [a, b] n]) rfl _ _ rfl rfl rfl (HTW5.out.later ((Below.refl _ _).alloc (Nat.le_refl _) _)).swap (by simp; omega) rfl rfl (src1 (hash_max 3 [a, b] n) (by first | rfl | simp) rfl) (by omega) ?_; intro A6 c6 w6 t6 b6 z6; have HTW6 := Lib.hid t6.swap; have hz6 : w5.heap.size ≤ w6.heap.size := (by have h9 := z6; rw [World.size_alloc] at h9; omega); have HB6 := Lib.hid (((Below.refl _ _).alloc (by omega) _).trans b6); clear t6 b6 z6) | (at_builtin; refine wpList_two (α := Int) (β := ByteArray) (ys := [((p / 2 : Nat) : Int)]) rfl _ _ rfl rfl HUL.out.symm (HTW6.out.later ((Below.refl _ _).alloc (Nat.le_refl _) _)) (by simp; omega) rfl rfl (src_newb _ (((p / 2 : Nat) : Int)) hpq _ _ _ (by first | rfl | simp) (by first | rfl | (rw [HPD.out]; rfl))) (by omega) ?_; intro A7 c7 w7 t7 b7 z7; have HTW7 := Lib.hid t7; have HB7r := Lib.hid (HBS.out.trans ((hB.mono hwli).trans (HB6.out.trans (((Below.refl _ _).alloc (by omega) _).trans b7)))); clear t7 b7 z7; have f17 := (HB7r.out.cell (p := ⟨b1, o1 + (k + 1), none⟩) hl1').trans F1.out))
            go_roundw
            case rel => first | exact ⟨k + 1, u + 1, up ++ [p / 2], nx ++ [tagHash 3 [a, b] n], A7, A6, c7, c6, _, (CS - 1), t, by go_num, by first | rfl | simp | (simp; omega), by simp, by simp, by omega, by omega, by simp; omega, Lib.hid (by rw [List.length_append, List.length_append, HUN.out]; rfl), by omega, HSN, Lib.hid (by rw [castL_snoc]; exact HTW7.out), HUP2, Lib.hid (fun h9 => by rw [if_neg (by omega)]; rfl), HB7r⟩ | ((repeat apply Exists.intro); exact ⟨⟨k + 1, u + 1, up ++ [p / 2], nx ++ [tagHash 3 [a, b] n], A7, A6, c7, c6, _, (CS - 1), t, by go_num, by first | rfl | simp | (simp; omega), by simp, by simp, by omega, by omega, by simp; omega, Lib.hid (by rw [List.length_append, List.length_append, HUN.out]; rfl), by omega, HSN, Lib.hid (by rw [castL_snoc]; exact HTW7.out), HUP2, Lib.hid (fun h9 => by rw [if_neg (by omega)]; rfl), HB7r⟩, rfl⟩)
            case measure => simp [intOf]; omega
          · have hpm1 : (p : Int) % 2 = 1 := by omega
            have hpt : Int.tmod (p : Int) 2 = 1 := by rw [Int.tmod_eq_emod_of_nonneg (by omega)]; omega
            have HSN : Hid (lvF (node2 n) kj hj t (k + 1) (m.sides.drop (u + 1)) (up ++ [p / 2]) (nx ++ [tagHash 3 [b, a] n]) = X) := Lib.hid (by have h9 := HSN0.out; unfold node2 at h9; rw [if_neg hpm] at h9; exact h9)
            clear hpm HSN0
            have hB := Below.refl wr.heap.size wr
            go_wp2_with (first | (go_at_call 86; refine (impl_hashOf _ 3 (by unfold I64; omega) [b, a] _ _ _ (row_pairAt _ b a s1 s0 _ _ (by first | rfl | simp)) (by simp) n hn (HT.out.later (HBiw.out.trans (Below.mono (w := wr) (by (repeat (first | with_reducible exact hB | with_reducible apply Below.drewN | with_reducible apply Below.drew | with_reducible refine Below.alloc ?_ ?_ _)); all_goals (first | omega | (simp; done) | (simp; omega))) hwis)))).mono ?_; rintro e5 w5 ⟨rfl, hb5⟩; have hB := Below.step (a := wr) (by (repeat (first | with_reducible exact hB | with_reducible apply Below.drewN | with_reducible apply Below.drew | with_reducible refine Below.alloc ?_ ?_ _)); all_goals (first | omega | (simp; done) | (simp; omega))) hb5; have HTW5 := Lib.hid (HTW.out.later hB); have hs5 := hB.size) | (at_builtin; refine wpList_two (α := ByteArray) (β := Int) (ys := [tagHash 3 [b, a] n]) rfl _ _ rfl rfl rfl (HTW5.out.later ((Below.refl _ _).alloc (Nat.le_refl _) _)).swap (by simp; omega) rfl rfl (src1 (hash_max 3 [b, a] n) (by first | rfl | simp) rfl) (by omega) ?_; intro A6 c6 w6 t6 b6 z6; have HTW6 := Lib.hid t6.swap; have hz6 : w5.heap.size ≤ w6.heap.size := (by have h9 := z6; rw [World.size_alloc] at h9; omega); have HB6 := Lib.hid (((Below.refl _ _).alloc (by omega) _).trans b6); clear t6 b6 z6) | (at_builtin; refine wpList_two (α := Int) (β := ByteArray) (ys := [((p / 2 : Nat) : Int)]) rfl _ _ rfl rfl HUL.out.symm (HTW6.out.later ((Below.refl _ _).alloc (Nat.le_refl _) _)) (by simp; omega) rfl rfl (src_newb _ (((p / 2 : Nat) : Int)) hpq _ _ _ (by first | rfl | simp) (by first | rfl | (rw [HPD.out]; rfl))) (by omega) ?_; intro A7 c7 w7 t7 b7 z7; have HTW7 := Lib.hid t7; have HB7r := Lib.hid (HBS.out.trans ((hB.mono hwli).trans (HB6.out.trans (((Below.refl _ _).alloc (by omega) _).trans b7)))); clear t7 b7 z7; have f17 := (HB7r.out.cell (p := ⟨b1, o1 + (k + 1), none⟩) hl1').trans F1.out))
            go_roundw
            case rel => first | exact ⟨k + 1, u + 1, up ++ [p / 2], nx ++ [tagHash 3 [b, a] n], A7, A6, c7, c6, _, (CS - 1), t, by go_num, by first | rfl | simp | (simp; omega), by simp, by simp, by omega, by omega, by simp; omega, Lib.hid (by rw [List.length_append, List.length_append, HUN.out]; rfl), by omega, HSN, Lib.hid (by rw [castL_snoc]; exact HTW7.out), HUP2, Lib.hid (fun h9 => by rw [if_neg (by omega)]; rfl), HB7r⟩ | ((repeat apply Exists.intro); exact ⟨⟨k + 1, u + 1, up ++ [p / 2], nx ++ [tagHash 3 [b, a] n], A7, A6, c7, c6, _, (CS - 1), t, by go_num, by first | rfl | simp | (simp; omega), by simp, by simp, by omega, by omega, by simp; omega, Lib.hid (by rw [List.length_append, List.length_append, HUN.out]; rfl), by omega, HSN, Lib.hid (by rw [castL_snoc]; exact HTW7.out), HUP2, Lib.hid (fun h9 => by rw [if_neg (by omega)]; rfl), HB7r⟩, rfl⟩)
            case measure => simp [intOf]; omega
        obtain rfl : py = true := by rw [HPY.out, decide_eq_true hn1, decide_eq_true hqr]; rfl
        subst hqr
        obtain ⟨b6, o6, e6, hl6', g1, s1⟩ := Row.str HRH.out (i := k + 1) (by rw [HLJ.out]; exact hn1)
        cases e6
        have HBE : Hid (hj.getD (k + 1) nilB = hj[k + 1]'(by rw [HLJ.out]; exact hn1)) := Lib.hid (getD_ (by rw [HLJ.out]; exact hn1))
        have HSN0 := Lib.hid (HL1.out (by first | rfl | trivial))
        rw [HBE.out] at HSN0
        obtain ⟨b, hb_⟩ : ∃ b, hj[k + 1]'(by rw [HLJ.out]; exact hn1) = b := ⟨_, rfl⟩
        rw [hb_] at g1 s1 HSN0
        replace g1 := (HBS.out.cell (p := ⟨b2, o2 + (k + 1), none⟩) hl2').trans g1
        have HSD := HPS
        have HUP2 : Hid ((∀ x ∈ up ++ [p / 2], x < 256) ∧ (0 < k + 2 → 0 < (up ++ [p / 2]).length) ∧ m.sides.length - u ≤ CS) := Lib.hid ⟨fun x hx => by
          rcases List.mem_append.1 hx with h | h
          · exact HUP.out.1 x h
          · have : x = p / 2 := by simpa using h
            omega, fun _ => by simp, HUP.out.2.2⟩
        clear hb_ HBE HL1 HL2 HL3 HPY
        by_cases hpm : p % 2 = 0
        · have hpm1 : (p : Int) % 2 = 0 := by omega
          have hpt : Int.tmod (p : Int) 2 = 0 := by rw [Int.tmod_eq_emod_of_nonneg (by omega)]; omega
          have HSN : Hid (lvF (node2 n) kj hj t (k + 2) (m.sides.drop (u)) (up ++ [p / 2]) (nx ++ [tagHash 3 [a, b] n]) = X) := Lib.hid (by have h9 := HSN0.out; unfold node2 at h9; rw [if_pos hpm] at h9; exact h9)
          clear hpm HSN0
          have hB := Below.refl wr.heap.size wr
          go_wp2_with (first | (go_at_call 86; refine (impl_hashOf _ 3 (by unfold I64; omega) [a, b] _ _ _ (row_pairAt _ a b s0 s1 _ _ (by first | rfl | simp)) (by simp) n hn (HT.out.later (HBiw.out.trans (Below.mono (w := wr) (by (repeat (first | with_reducible exact hB | with_reducible apply Below.drewN | with_reducible apply Below.drew | with_reducible refine Below.alloc ?_ ?_ _)); all_goals (first | omega | (simp; done) | (simp; omega))) hwis)))).mono ?_; rintro e5 w5 ⟨rfl, hb5⟩; have hB := Below.step (a := wr) (by (repeat (first | with_reducible exact hB | with_reducible apply Below.drewN | with_reducible apply Below.drew | with_reducible refine Below.alloc ?_ ?_ _)); all_goals (first | omega | (simp; done) | (simp; omega))) hb5; have HTW5 := Lib.hid (HTW.out.later hB); have hs5 := hB.size) | (at_builtin; refine wpList_two (α := ByteArray) (β := Int) (ys := [tagHash 3 [a, b] n]) rfl _ _ rfl rfl rfl (HTW5.out.later ((Below.refl _ _).alloc (Nat.le_refl _) _)).swap (by simp; omega) rfl rfl (src1 (hash_max 3 [a, b] n) (by first | rfl | simp) rfl) (by omega) ?_; intro A6 c6 w6 t6 b6 z6; have HTW6 := Lib.hid t6.swap; have hz6 : w5.heap.size ≤ w6.heap.size := (by have h9 := z6; rw [World.size_alloc] at h9; omega); have HB6 := Lib.hid (((Below.refl _ _).alloc (by omega) _).trans b6); clear t6 b6 z6) | (at_builtin; refine wpList_two (α := Int) (β := ByteArray) (ys := [((p / 2 : Nat) : Int)]) rfl _ _ rfl rfl HUL.out.symm (HTW6.out.later ((Below.refl _ _).alloc (Nat.le_refl _) _)) (by simp; omega) rfl rfl (src_newb _ (((p / 2 : Nat) : Int)) hpq _ _ _ (by first | rfl | simp) (by first | rfl | (rw [HPD.out]; rfl))) (by omega) ?_; intro A7 c7 w7 t7 b7 z7; have HTW7 := Lib.hid t7; have HB7r := Lib.hid (HBS.out.trans ((hB.mono hwli).trans (HB6.out.trans (((Below.refl _ _).alloc (by omega) _).trans b7)))); clear t7 b7 z7; have f17 := (HB7r.out.cell (p := ⟨b1, o1 + (k + 1), none⟩) hl1').trans F1.out))
          go_roundw
          case rel => first | exact ⟨k + 2, u, up ++ [p / 2], nx ++ [tagHash 3 [a, b] n], A7, A6, c7, c6, PS, CS, t, by go_num, rfl, by simp, by simp, by omega, by omega, by simp; omega, Lib.hid (by rw [List.length_append, List.length_append, HUN.out]; rfl), hus, HSN, Lib.hid (by rw [castL_snoc]; exact HTW7.out), HUP2, HPS, HB7r⟩ | ((repeat apply Exists.intro); exact ⟨⟨k + 2, u, up ++ [p / 2], nx ++ [tagHash 3 [a, b] n], A7, A6, c7, c6, PS, CS, t, by go_num, rfl, by simp, by simp, by omega, by omega, by simp; omega, Lib.hid (by rw [List.length_append, List.length_append, HUN.out]; rfl), hus, HSN, Lib.hid (by rw [castL_snoc]; exact HTW7.out), HUP2, HPS, HB7r⟩, rfl⟩)
          case measure => simp [intOf]; omega
        · have hpm1 : (p : Int) % 2 = 1 := by omega
          have hpt : Int.tmod (p : Int) 2 = 1 := by rw [Int.tmod_eq_emod_of_nonneg (by omega)]; omega
          have HSN : Hid (lvF (node2 n) kj hj t (k + 2) (m.sides.drop (u)) (up ++ [p / 2]) (nx ++ [tagHash 3 [b, a] n]) = X) := Lib.hid (by have h9 := HSN0.out; unfold node2 at h9; rw [if_neg hpm] at h9; exact h9)
          clear hpm HSN0
          have hB := Below.refl wr.heap.size wr
          go_wp2_with (first | (go_at_call 86; refine (impl_hashOf _ 3 (by unfold I64; omega) [b, a] _ _ _ (row_pairAt _ b a s1 s0 _ _ (by first | rfl | simp)) (by simp) n hn (HT.out.later (HBiw.out.trans (Below.mono (w := wr) (by (repeat (first | with_reducible exact hB | with_reducible apply Below.drewN | with_reducible apply Below.drew | with_reducible refine Below.alloc ?_ ?_ _)); all_goals (first | omega | (simp; done) | (simp; omega))) hwis)))).mono ?_; rintro e5 w5 ⟨rfl, hb5⟩; have hB := Below.step (a := wr) (by (repeat (first | with_reducible exact hB | with_reducible apply Below.drewN | with_reducible apply Below.drew | with_reducible refine Below.alloc ?_ ?_ _)); all_goals (first | omega | (simp; done) | (simp; omega))) hb5; have HTW5 := Lib.hid (HTW.out.later hB); have hs5 := hB.size) | (at_builtin; refine wpList_two (α := ByteArray) (β := Int) (ys := [tagHash 3 [b, a] n]) rfl _ _ rfl rfl rfl (HTW5.out.later ((Below.refl _ _).alloc (Nat.le_refl _) _)).swap (by simp; omega) rfl rfl (src1 (hash_max 3 [b, a] n) (by first | rfl | simp) rfl) (by omega) ?_; intro A6 c6 w6 t6 b6 z6; have HTW6 := Lib.hid t6.swap; have hz6 : w5.heap.size ≤ w6.heap.size := (by have h9 := z6; rw [World.size_alloc] at h9; omega); have HB6 := Lib.hid (((Below.refl _ _).alloc (by omega) _).trans b6); clear t6 b6 z6) | (at_builtin; refine wpList_two (α := Int) (β := ByteArray) (ys := [((p / 2 : Nat) : Int)]) rfl _ _ rfl rfl HUL.out.symm (HTW6.out.later ((Below.refl _ _).alloc (Nat.le_refl _) _)) (by simp; omega) rfl rfl (src_newb _ (((p / 2 : Nat) : Int)) hpq _ _ _ (by first | rfl | simp) (by first | rfl | (rw [HPD.out]; rfl))) (by omega) ?_; intro A7 c7 w7 t7 b7 z7; have HTW7 := Lib.hid t7; have HB7r := Lib.hid (HBS.out.trans ((hB.mono hwli).trans (HB6.out.trans (((Below.refl _ _).alloc (by omega) _).trans b7)))); clear t7 b7 z7; have f17 := (HB7r.out.cell (p := ⟨b1, o1 + (k + 1), none⟩) hl1').trans F1.out))
          go_roundw
          case rel => first | exact ⟨k + 2, u, up ++ [p / 2], nx ++ [tagHash 3 [b, a] n], A7, A6, c7, c6, PS, CS, t, by go_num, rfl, by simp, by simp, by omega, by omega, by simp; omega, Lib.hid (by rw [List.length_append, List.length_append, HUN.out]; rfl), hus, HSN, Lib.hid (by rw [castL_snoc]; exact HTW7.out), HUP2, HPS, HB7r⟩ | ((repeat apply Exists.intro); exact ⟨⟨k + 2, u, up ++ [p / 2], nx ++ [tagHash 3 [b, a] n], A7, A6, c7, c6, PS, CS, t, by go_num, rfl, by simp, by simp, by omega, by omega, by simp; omega, Lib.hid (by rw [List.length_append, List.length_append, HUN.out]; rfl), hus, HSN, Lib.hid (by rw [castL_snoc]; exact HTW7.out), HUP2, HPS, HB7r⟩, rfl⟩)
          case measure => simp [intOf]; omega
end Go.Proofs.YtojbehmbeoemgaaDoor
