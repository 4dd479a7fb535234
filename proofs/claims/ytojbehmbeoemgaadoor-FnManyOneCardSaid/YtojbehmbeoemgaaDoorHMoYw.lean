/- A part of the proof: what the laws need of it. -/
import Derived.Deep.DeepCutAuto
import Derived.Test.YtojbehmbeoemgaaDoorHMoYh
import Derived.Test.YtojbehmbeoemgaaDoorHMoL23xYm
import Derived.Test.YtojbehmbeoemgaaDoorHMoL17xTg
import Derived.Test.YtojbehmbeoemgaaDoorHMoL12xDh
import Derived.Test.YtojbehmbeoemgaaDoorHMoDx
set_option linter.unusedVariables false
set_option linter.unusedSimpArgs false
set_option linter.unusedVariables false
set_option linter.unusedSimpArgs false
namespace Go.Proofs.YtojbehmbeoemgaaDoor
open Go.RowKit Lay Mk
set_option maxRecDepth 20000 in set_option maxHeartbeats 16000000 in
theorem impl_ProveMany (w : World) (xs : List Leaf) (A : Option Addr) (cap : Nat) (S : Blks) (hx : Row false w A cap xs S) (_ : xs.length ≤ cap) (_ : cap ≤ maxLen) (hz : szL xs ≤ 1048576) (names : List ByteArray) (A2 : Option Addr) (cap2 : Nat) (S2 : Blks) (hy : Row false w A2 cap2 names S2) (hy1 : names.length ≤ cap2) (hy2 : cap2 ≤ maxLen) (hzn : szL names ≤ 1048576) (n : Int) (hn : I64 n) (hT : Tabs w) : Calls Tryd.prog 24 #[.slice A xs.length cap, .slice A2 names.length cap2, .int .i64 n] w (PmRes (proveMany xs names n) w) := by
  have HT := Lib.hid hT
  clear hT
  have hxl : xs.length ≤ 1048576 := by have := szT_le xs 0; omega
  have hnl : names.length ≤ 1048576 := by have := szT_le names 0; omega
  have HLV := Lib.hid (fun W (h : Below w.heap.size w W) => impl_LeavesOk W xs A cap S (Row.later hx h) (by omega))
  have HNM := Lib.hid (fun W (h : Below w.heap.size w W) => impl_namesOk W names A2 cap2 S2 (Row.later hy h) hnl)
  have HIW := Lib.hid (fun W => impl_isWide n W)
  have HGR := Lib.hid (fun W (h : Below w.heap.size w W) => impl_newGrove W xs A cap S (Row.later hx h) hxl hz n (HT.out.later h))
  have HCT := Lib.hid (fun W (h : Below w.heap.size w W) => impl_copyTexts W names A2 cap2 S2 (Row.later hy h) (by omega))
  have HXS := Lib.hid (fun W (h : Below w.heap.size w W) => impl_IndexesOf W names A2 cap2 S2 (Row.later hy h) hy1 hy2 hzn (HT.out.later h))
  rw [idx_cast, castL_len] at HXS
  have HBK := Lib.hid (fun W (h : Below w.heap.size w W) (i : Int) => impl_BucketOf W xs A cap S (Row.later hx h) hxl hz i (HT.out.later h))
  have HND := Lib.hid (fun (d : Nat) (hd : d ≤ 8) (r : Nat) (hr : r < 2 ^ (8 - d)) W (h : Below w.heap.size w W) A3 c3 T (ho : Row false W A3 c3 (ixs xs) T) => impl_node n hn d hd W r hr xs A cap S (Row.later hx h) A3 c3 T ho hxl (HT.out.later h))
  have HNO := Lib.hid (fun h => pm_no (xs := xs) (names := names) (n := n) h)
  have HYE := Lib.hid (fun h => pm_yes (xs := xs) (names := names) (n := n) h)
  have HKI := Lib.hid (idxN_inc names)
  have HK2 := Lib.hid (idxN_lt names)
  have HKL := Lib.hid (idxN_le names)
  obtain ⟨R, hR⟩ : ∃ R, proveMany xs names n = R := ⟨_, rfl⟩
  rw [hR] at HNO HYE ⊢
  clear hR
  unfold proveForm at HNO HYE
  have HN8 : Hid (namesFit names = true → names.length ≤ 8) := Lib.hid (fun hf => by
    unfold namesFit at hf; simp only [Bool.and_eq_true] at hf
    have h9 : 1 ≤ (names.length : Int) ∧ (names.length : Int) ≤ 8 := by simpa [inB] using hf.2
    omega)
  obtain ⟨q1, hq1⟩ : ∃ b, leavesOk xs = b := ⟨_, rfl⟩
  rw [hq1] at HLV HNO HYE
  obtain ⟨q2, hq2⟩ : ∃ b, namesFit names = b := ⟨_, rfl⟩
  rw [hq2] at HNM HNO HYE HN8
  obtain ⟨q3, hq3⟩ : ∃ b, inB n 1 32 = b := ⟨_, rfl⟩
  rw [hq3] at HIW HNO HYE
  obtain ⟨ks, hks⟩ : ∃ l, idxN names = l := ⟨_, rfl⟩
  rw [hks] at HXS HYE HKI HK2 HKL
  clear hks hq1 hq2 hq3 hx hy hz hzn hy1 hy2
  have hWd : ∀ W, W = w.alloc (.cells #[.slice none 0 0, .slice none 0 0, .slice none 0 0] 51) → Below w.heap.size w W ∧ W.cell? ⟨w.heap.size, 0, none⟩ = some (.slice none 0 0) ∧ W.cell? ⟨w.heap.size, 1, none⟩ = some (.slice none 0 0) ∧ W.cell? ⟨w.heap.size, 2, none⟩ = some (.slice none 0 0) ∧ (∀ o, W.frozen? ⟨w.heap.size, o, none⟩ = false) ∧ w.heap.size < W.heap.size := by
    rintro W rfl
    exact ⟨(Below.refl _ _).alloc (Nat.le_refl _) _, box_cell _ _ _ _ _ rfl, box_cell _ _ _ _ _ rfl, box_cell _ _ _ _ _ rfl, fun o => by simp, by simp⟩
  go_enter Tryd.func24, Tryd.ntmps24
  go_wp2_with (fail)
  obtain ⟨W, hW⟩ : ∃ W, w.alloc (.cells #[.slice none 0 0, .slice none 0 0, .slice none 0 0] 51) = W := ⟨_, rfl⟩
  rw [hW]
  obtain ⟨hBW, z0, z1, z2, zf, hlW⟩ := hWd W hW.symm
  have HBW := Lib.hid hBW
  have HZW := Lib.hid (fun (w' : World) (h : Below W.heap.size W w') => (⟨(h.cell (p := ⟨w.heap.size, 0, none⟩) hlW).trans z0, (h.cell (p := ⟨w.heap.size, 1, none⟩) hlW).trans z1, (h.cell (p := ⟨w.heap.size, 2, none⟩) hlW).trans z2, fun o => (h.frozen (p := ⟨w.heap.size, o, none⟩) hlW).trans (zf o)⟩ : w'.cell? ⟨w.heap.size, 0, none⟩ = some (.slice none 0 0) ∧ w'.cell? ⟨w.heap.size, 1, none⟩ = some (.slice none 0 0) ∧ w'.cell? ⟨w.heap.size, 2, none⟩ = some (.slice none 0 0) ∧ ∀ o, w'.frozen? ⟨w.heap.size, o, none⟩ = false))
  clear hW hWd hBW z0 z1 z2 zf
  refine (HLV.out _ HBW.out).mono ?_
  rintro e1 w1 ⟨rfl, hb1⟩
  have HB1 := Lib.hid hb1
  have HB1w := Lib.hid (HBW.out.trans (hb1.mono HBW.out.size))
  have hl1 : w.heap.size < w1.heap.size := Nat.lt_of_lt_of_le hlW hb1.size
  obtain ⟨z0, z1, z2, zf⟩ := HZW.out w1 hb1
  clear hb1 HLV
  cases q1
  · have HE := Lib.hid (HNO.out (by first | rfl | simp))
    go_wp2
    refine bodyPost_ret (v := .tuple #[.agg #[.slice none 0 0, .slice none 0 0, .slice none 0 0], .bool false]) (by simp [results, Tryd.results24, go_sem, *]) rfl ?_
    exact PmRes.nil HE.out (Below.setCell (Below.setCell (Below.setCell HB1w.out (Nat.le_refl _) _) (Nat.le_refl _) _) (Nat.le_refl _) _)
  go_wp2_with (fail)
  clear z0 z1 z2 zf
  refine (HNM.out _ HB1w.out).mono ?_
  rintro e2 w2 ⟨rfl, hb2⟩
  have HB2 := Lib.hid (HB1.out.trans (hb2.mono HB1.out.size))
  have HB2w := Lib.hid (HBW.out.trans (HB2.out.mono HBW.out.size))
  have hl2 : w.heap.size < w2.heap.size := Nat.lt_of_lt_of_le hl1 hb2.size
  obtain ⟨z0, z1, z2, zf⟩ := HZW.out w2 HB2.out
  clear hb2 HNM
  cases q2
  · have HE := Lib.hid (HNO.out (by first | rfl | simp))
    go_wp2
    refine bodyPost_ret (v := .tuple #[.agg #[.slice none 0 0, .slice none 0 0, .slice none 0 0], .bool false]) (by simp [results, Tryd.results24, go_sem, *]) rfl ?_
    exact PmRes.nil HE.out (Below.setCell (Below.setCell (Below.setCell HB2w.out (Nat.le_refl _) _) (Nat.le_refl _) _) (Nat.le_refl _) _)
  cases q3
  · have HE := Lib.hid (HNO.out (by first | rfl | simp))
    go_wp2_with (go_at_call 69; refine (HIW.out _).mono ?_; rintro e3 w3 ⟨rfl, rfl⟩)
    refine bodyPost_ret (v := .tuple #[.agg #[.slice none 0 0, .slice none 0 0, .slice none 0 0], .bool false]) (by simp [results, Tryd.results24, go_sem, *]) rfl ?_
    exact PmRes.nil HE.out (Below.setCell (Below.setCell (Below.setCell HB2w.out (Nat.le_refl _) _) (Nat.le_refl _) _) (Nat.le_refl _) _)
  have HE := Lib.hid (HYE.out (by first | rfl | simp))
  have hn8 := HN8.out (by first | rfl | trivial)
  have hkl : ks.length ≤ 8 := Nat.le_trans HKL.out hn8
  obtain ⟨Z, hZ⟩ : ∃ Z, sidesMany n xs 8 0 ks [] = Z := ⟨_, rfl⟩
  rw [hZ] at HE
  have HZ := Lib.hid hZ
  clear hZ HN8 HNO HYE HKL z0 z1 z2 zf
  go_wp2_with (go_at_call 69; refine (HIW.out _).mono ?_; rintro e3 w3 ⟨rfl, rfl⟩)
  clear HIW
  refine (HGR.out _ HB2w.out).mono ?_
  rintro e3 w3 ⟨A3, c3, rfl, o3⟩
  have O3 := Lib.hid o3
  have hs3 := o3.bl.size
  clear o3 HGR
  go_wp2_with (fail)
  obtain ⟨G, hG⟩ : ∃ G, w3.alloc (.cells #[.slice A xs.length cap, .slice A3 xs.length c3, .int .i64 n] 103) = G := ⟨_, rfl⟩
  rw [hG]
  have hGf : Below w3.heap.size w3 G ∧ G.heap.size = w3.heap.size + 1 ∧ G.cell? ⟨w3.heap.size, 0, none⟩ = some (.slice A xs.length cap) ∧ G.cell? ⟨w3.heap.size, 1, none⟩ = some (.slice A3 xs.length c3) ∧ G.cell? ⟨w3.heap.size, 2, none⟩ = some (.int .i64 n) := by
    rw [← hG]; exact ⟨(Below.refl _ _).alloc (Nat.le_refl _) _, by simp, box_cell _ _ _ _ _ rfl, box_cell _ _ _ _ _ rfl, box_cell _ _ _ _ _ rfl⟩
  obtain ⟨hbG, hsG, g0, g1, g2⟩ := hGf
  have HB23 := Lib.hid (O3.out.bl.trans (hbG.mono O3.out.bl.size))
  have HBG := Lib.hid (HB2.out.trans (HB23.out.mono HB2.out.size))
  have HBGw := Lib.hid (HBW.out.trans (HBG.out.mono HBW.out.size))
  have HOG := Lib.hid (Row.later O3.out.weak hbG)
  have hlG : w3.heap.size < G.heap.size := by omega
  clear hG hbG
  refine (HCT.out _ HBGw.out).mono ?_
  rintro e4 w4 ⟨A4, c4, rfl, l4, m4, r4, hb4⟩
  have R4 := Lib.hid (And.intro l4 (And.intro m4 r4))
  have HB4 := Lib.hid hb4
  have hs4 := hb4.size
  clear l4 m4 r4 hb4 HCT
  go_wp2_with (fail)
  obtain ⟨M, hM⟩ : ∃ M, w4.alloc (.cells #[.slice A4 names.length c4, .slice none 0 0, .slice none 0 0] 51) = M := ⟨_, rfl⟩
  rw [hM]
  have hMf : Below w4.heap.size w4 M ∧ M.heap.size = w4.heap.size + 1 ∧ M.cell? ⟨w4.heap.size, 0, none⟩ = some (.slice A4 names.length c4) ∧ M.cell? ⟨w4.heap.size, 1, none⟩ = some (.slice none 0 0) ∧ M.cell? ⟨w4.heap.size, 2, none⟩ = some (.slice none 0 0) ∧ ∀ o, M.frozen? ⟨w4.heap.size, o, none⟩ = false := by
    rw [← hM]; exact ⟨(Below.refl _ _).alloc (Nat.le_refl _) _, by simp, box_cell _ _ _ _ _ rfl, box_cell _ _ _ _ _ rfl, box_cell _ _ _ _ _ rfl, fun o => by simp⟩
  obtain ⟨hbM, hsM, p0, p1, p2, pf⟩ := hMf
  have HBM := Lib.hid (HB4.out.trans (hbM.mono HB4.out.size))
  have HBMW := Lib.hid (HBG.out.trans (HBM.out.mono HBG.out.size))
  have HBMw := Lib.hid (HBW.out.trans (HBMW.out.mono HBW.out.size))
  have R4M := Lib.hid (Row.later R4.out.2.2 hbM)
  clear hM hbM
  refine (HXS.out _ HBMw.out).mono ?_
  rintro e5 w5 ⟨A5, c5, rfl, l5, m5, r5, hb5⟩
  have R5 := Lib.hid r5.weak
  have R45 := Lib.hid (Row.later R4M.out hb5)
  have hs5 := hb5.size
  have hm5 : w4.heap.size < w5.heap.size := by omega
  have hlM : w4.heap.size < M.heap.size := by omega
  have HB5G := Lib.hid (HBM.out.trans (hb5.mono HBM.out.size))
  have HB5W := Lib.hid (HBMW.out.trans (hb5.mono HBMW.out.size))
  replace p0 := (hb5.cell (p := ⟨w4.heap.size, 0, none⟩) hlM).trans p0
  replace p1 := (hb5.cell (p := ⟨w4.heap.size, 1, none⟩) hlM).trans p1
  replace p2 := (hb5.cell (p := ⟨w4.heap.size, 2, none⟩) hlM).trans p2
  replace pf := fun o => (hb5.frozen (p := ⟨w4.heap.size, o, none⟩) hlM).trans (pf o)
  have hWG := HBG.out.size
  have hW4 : W.heap.size ≤ w4.heap.size := by omega
  have hG4 : G.heap.size ≤ w4.heap.size := hs4
  have HFX : Hid (∀ (w' : World), Chg (atB w4.heap.size) w5 w' → Below W.heap.size W w' ∧ Below w.heap.size w w' ∧ Below G.heap.size G w' ∧ w'.cell? ⟨w3.heap.size, 0, none⟩ = some (.slice A xs.length cap) ∧ w'.cell? ⟨w3.heap.size, 1, none⟩ = some (.slice A3 xs.length c3) ∧ w'.cell? ⟨w3.heap.size, 2, none⟩ = some (.int .i64 n)) := Lib.hid (fun w' h => by
    have h1 : Below G.heap.size G w' := HB5G.out.trans (h.to_below (by omega) (fun b hb => by have hb : b = w4.heap.size := hb; omega))
    have h2 : Below W.heap.size W w' := HBG.out.trans (h1.mono hWG)
    exact ⟨h2, HBW.out.trans (h2.mono HBW.out.size), h1, (h1.cell (p := ⟨w3.heap.size, 0, none⟩) hlG).trans g0, (h1.cell (p := ⟨w3.heap.size, 1, none⟩) hlG).trans g1, (h1.cell (p := ⟨w3.heap.size, 2, none⟩) hlG).trans g2⟩)
  have P5 := Lib.hid (show w5.cell? ⟨w4.heap.size, 0, none⟩ = some (.slice A4 names.length c4) ∧ w5.cell? ⟨w4.heap.size, 2, none⟩ = some (.slice none 0 0) ∧ (∀ o, w5.frozen? ⟨w4.heap.size, o, none⟩ = false) from ⟨p0, p2, pf⟩)
  have HSM := Lib.hid hsM
  clear p0 p2 pf g0 g1 g2 hb5 r5 HXS hsG hsM
  go_wp2_with (fail)
  go_loopw [42] (fun it wr => ∃ (k : Nat) (AB : Option Addr) (cB : Nat), k ≤ ks.length ∧ it = .int .i64 k ∧ Hid (Row true wr AB cB ((ks.take k).map (fun k : Nat => bucketOf xs (k : Int))) (nw w5.heap.size) ∧ ((ks.take k).map (fun k : Nat => bucketOf xs (k : Int))).length ≤ cB ∧ cB ≤ maxLen) ∧ wr.cell? ⟨w4.heap.size, 1, none⟩ = some (.slice AB k cB) ∧ Hid (wr.cell? ⟨w4.heap.size, 0, none⟩ = some (.slice A4 names.length c4) ∧ wr.cell? ⟨w4.heap.size, 2, none⟩ = some (.slice none 0 0)) ∧ (∀ o, wr.frozen? ⟨w4.heap.size, o, none⟩ = false) ∧ Hid (Chg (atB w4.heap.size) w5 wr)) (fun it _ => ks.length - (intOf it).toNat)
  case atStart => exact ⟨0, none, 0, Nat.zero_le _, rfl, Lib.hid ⟨row_nil _ _, Nat.le_refl _, by decide⟩, p1, Lib.hid ⟨P5.out.1, P5.out.2.1⟩, P5.out.2.2, Lib.hid (Chg.refl _ _)⟩
  case round =>
    obtain ⟨k, AB, cB, hk, rfl, HRW, p1, HP, pf, HCH⟩ := hrel
    have hsr := HCH.out.size
    have hmr : w4.heap.size < wr.heap.size := by omega
    obtain ⟨hbW, hbw, hbG, g0, g1, g2⟩ := HFX.out wr HCH.out
    have HBw := Lib.hid hbw
    clear hbW hbw hbG
    by_cases hlt : k < ks.length
    · have HRX := Lib.hid (Row.chg R5.out HCH.out (fun b h1 h2 => by have h3 : b = w4.heap.size := h2; have h4 := h1.1; have h5 : M.heap.size = w4.heap.size + 1 := HSM.out; omega))
      obtain ⟨b3, o3, rfl, hl3, f0, i0⟩ := Row.int HRX.out (i := k) (by rw [castL_len]; exact hlt)
      rw [castL_at hlt] at f0 i0
      have HSN := Lib.hid (map_snocY (fun k : Nat => bucketOf xs (k : Int)) hlt)
      have HNL : Hid (k = ((ks.take k).map (fun k : Nat => bucketOf xs (k : Int))).length) := Lib.hid (by simp; omega)
      have HBC := Lib.hid (HBK.out wr.drew (HBw.out.trans ((Below.refl _ _).drew)) ((ks.getD k 0 : Nat) : Int))
      obtain ⟨p, hp⟩ : ∃ p, ks.getD k 0 = p := ⟨_, rfl⟩
      rw [hp] at f0 i0 HSN HBC
      obtain ⟨bl, hbl⟩ : ∃ l, bucketOf xs (p : Int) = l := ⟨_, rfl⟩
      rw [hbl] at HSN HBC
      clear hp hbl g0 g1 g2
      have hlim : k ≤ 2000000000 := by omega
      go_wp2_with (fail)
      go_region_law (first | (go_simp; go_at_call 72; refine HBC.out.mono ?_; rintro e6 w6 ⟨A6, c6, rfl, o6⟩; have O6 := Lib.hid o6; have hb6 := Below.viad o6.bl; have hs6 := hb6.size; have q1 := (hb6.cell (p := ⟨w4.heap.size, 1, none⟩) hmr).trans p1; have q1a := (fun o => (cell_alloc q1 : (w6.alloc o).cell? ⟨w4.heap.size, 1, none⟩ = some (.slice AB k cB))); clear o6) | (refine step_pushN (α := List Leaf) (w1 := wr) (B := w5.heap.size) (y := bl) (T := fun b => rng wr.heap.size w6.heap.size b ∧ b < w6.heap.size) rfl _ _ rfl rfl HNL.out HRW.out.1 HRW.out.2.1 HRW.out.2.2 hsr ?hb rfl ?src ?hT hlim ?_; (case hb => exact hb6.alloc hs6 _); (case src => exact srcR w6 bl _ _ _ rfl (show rd true w6 [.slice A6 bl.length c6] bl (rng wr.heap.size w6.heap.size) from ⟨_, _, rfl, O6.out.le, O6.out.cm, O6.out.rng⟩)); (case hT => exact fun b h => h.1.1); intro A7 c7 w7 r7 l7 m7 hb7; have HB7 := Lib.hid (((hb6.alloc hs6 _).mono hsr).trans hb7); have R7 := Lib.hid (And.intro r7 (And.intro l7 m7)); have p7 := (HB7.out.cell (p := ⟨w4.heap.size, 1, none⟩) hm5).trans p1; have f7 := fun o => (HB7.out.frozen (p := ⟨w4.heap.size, o, none⟩) hm5).trans (pf o); clear r7 l7 m7 hb7))
      all_goals (go_wp2_with (fail))
      all_goals (go_roundw)
      all_goals (first | (simp [intOf]; omega) | exact ⟨k + 1, A7, c7, hlt, by go_num, Lib.hid ⟨by rw [HSN.out]; exact R7.out.1.setC (fun h => by have h1 : w5.heap.size ≤ w4.heap.size := h; omega) _, by rw [HSN.out]; exact R7.out.2.1, R7.out.2.2⟩, World.cell?_setCell_same w7 _ _ p7, Lib.hid ⟨(World.cell?_setCell_other _ _ _ _ (ne_off (by decide))).trans ((HB7.out.cell (p := ⟨w4.heap.size, 0, none⟩) hm5).trans HP.out.1), (World.cell?_setCell_other _ _ _ _ (ne_off (by decide))).trans ((HB7.out.cell (p := ⟨w4.heap.size, 2, none⟩) hm5).trans HP.out.2)⟩, fun o => by simpa using f7 o, Lib.hid ((HCH.out.below HB7.out (Nat.le_refl _)).setCell (Or.inl (show atB w4.heap.size w4.heap.size from rfl)) _)⟩)
    have hke : k = ks.length := by omega
    subst hke
    rename World => E
    rw [List.take_length] at HRW
    have HRB := Lib.hid (to_rng HRW.out.1)
    have HLB : Hid ((ks.map (fun k : Nat => bucketOf xs (k : Int))).length = ks.length) := Lib.hid (by simp)
    have HRX := Lib.hid (Row.chg R5.out HCH.out (fun b h1 h2 => by have h3 : b = w4.heap.size := h2; have h4 := h1.1; have h5 : M.heap.size = w4.heap.size + 1 := HSM.out; omega))
    have HRN := Lib.hid (Row.chg R45.out HCH.out (fun b h1 h2 => by have h3 : b = w4.heap.size := h2; have h4 := h1.2; omega))
    have HKN : ¬ rng M.heap.size w5.heap.size w4.heap.size := fun h => by have h1 := h.1; have h5 : M.heap.size = w4.heap.size + 1 := HSM.out; omega
    have HC0 := Lib.hid (And.intro HP.out.1 p1)
    have P2 := Lib.hid (And.intro HP.out.2 pf)
    clear g0 g1 g2 p1 HP pf hk HBK
    go_wp2_with (fail)
    go_loopw [10, 13] (fun kv lv wl => ∃ (d : Nat) (kj : List Nat) (L : List ByteArray) (AK AS : Option Addr) (cK cS : Nat), d ≤ 8 ∧ lv = .int .i64 (8 - (d : Int)) ∧ kv = .slice AK kj.length cK ∧ kj.length ≤ 8 ∧ L.length ≤ 8 * d ∧ Hid (sidesMany n xs (8 - d) d kj L = Z) ∧ Hid (Inc kj ∧ ∀ q ∈ kj, q < 2 ^ (8 - d)) ∧ Hid (Tri E.heap.size w4.heap.size wl AK cK (castL kj) none 0 [] AS cS L) ∧ wl.cell? ⟨w4.heap.size, 2, none⟩ = some (.slice AS L.length cS) ∧ Hid (wl.cell? ⟨w4.heap.size, 0, none⟩ = some (.slice A4 names.length c4) ∧ wl.cell? ⟨w4.heap.size, 1, none⟩ = some (.slice AB ks.length cB)) ∧ (∀ o, wl.frozen? ⟨w4.heap.size, o, none⟩ = false) ∧ Hid (Chg (atB w4.heap.size) E wl)) (fun _ lv _ => (intOf lv).toNat)
    case atStart => exact ⟨0, ks, [], A5, none, c5, 0, by omega, by first | rfl | simp, rfl, hkl, by simp, HZ, Lib.hid ⟨HKI.out, fun q h => by simpa using HK2.out q h⟩, Lib.hid (Tri.start HRX.out HKN), P2.out.1, HC0, P2.out.2, Lib.hid (Chg.refl _ _)⟩
    case round =>
      rename World => Wl
      obtain ⟨d, kj, L, AK, AS, cK, cS, hd8, rfl, rfl, hkj, hLl, HSD, HKJ, HTR, c2, HC, cf, HCl⟩ := hrel
      by_cases hd : d < 8
      rotate_left
      · obtain rfl : d = 8 := by omega
        have HLZ : L = Z := HSD.out
        subst HLZ
        obtain ⟨hbW, hbw, hbG, g0, g1, g2⟩ := HFX.out Wl (HCH.out.trans HCl.out)
        obtain ⟨z0, z1, z2, zf⟩ := HZW.out Wl hbW
        obtain ⟨c0, c1⟩ := HC.out
        have HBw := Lib.hid hbw
        have hsl := hbw.size
        have hEl := HCl.out.size
        clear hbW hbw hbG g0 g1 g2
        have hz8 : decide ((1 : Int) ≤ 8 - ((8 : Nat) : Int)) = false := by decide
        go_wp2
        refine bodyPost_ret (v := .tuple #[.agg #[.slice A4 names.length c4, .slice AB ks.length cB, .slice AS L.length cS], .bool true]) (by simp [results, Tryd.results24, go_sem, *]) rfl ?_
        have hW5 : w.heap.size < W.heap.size := hlW
        have hn0 : ∀ o : Nat, ¬ rng G.heap.size w4.heap.size (⟨w.heap.size, o, none⟩ : Addr).block := fun o h => by have h1 := h.1; simp only at h1; omega
        have hn1 : ∀ o : Nat, ¬ rng w5.heap.size E.heap.size (⟨w.heap.size, o, none⟩ : Addr).block := fun o h => by have h1 := h.1; simp only at h1; omega
        have hn2 : ∀ o : Nat, ¬ rng E.heap.size Wl.heap.size (⟨w.heap.size, o, none⟩ : Addr).block := fun o h => by have h1 := h.1; simp only at h1; omega
        have t0 := Row.chg HRN.out HCl.out (fun b h1 h2 => by have h3 : b = w4.heap.size := h2; have h4 := h1.2; omega)
        have t1 := Row.chg HRB.out HCl.out (fun b h1 h2 => by have h3 : b = w4.heap.size := h2; have h4 := h1.1; omega)
        have t2 := to_rng HTR.out.sides
        exact PmRes.mk HE.out rfl HLB.out.symm rfl R4.out.1 R4.out.2.1 (((t0.setC (hn0 0) _).setC (hn0 1) _).setC (hn0 2) _) HRW.out.2.1 HRW.out.2.2 (((t1.setC (hn1 0) _).setC (hn1 1) _).setC (hn1 2) _) HTR.out.ls HTR.out.ms (((t2.setC (hn2 0) _).setC (hn2 1) _).setC (hn2 2) _) (fun b h1 h2 => by have := h1.2; have := h2.1; omega) (fun b h1 h2 => by have := h1.2; have := h2.1; omega) (fun b h1 h2 => by have := h1.2; have := h2.1; omega) (fun b h => by have := h.1; have := h.2; unfold rng; simp; omega) (fun b h => by have := h.1; have := h.2; unfold rng; simp; omega) (fun b h => by have := h.1; have := h.2; unfold rng; simp; omega) (Below.setCell (Below.setCell (Below.setCell HBw.out (Nat.le_refl _) _) (Nat.le_refl _) _) (Nat.le_refl _) _)
      obtain ⟨m, hm⟩ : ∃ m, 8 - d = m + 1 := ⟨8 - d - 1, by omega⟩
      have HSD2 : Hid (sidesMany n xs m (d + 1) (aboveU kj) (L ++ sidesM (fun p => nodeD n d p xs) (lone kj) kj kj.length) = Z) := Lib.hid (by have h9 := HSD.out; rw [hm] at h9; exact h9)
      have HIN := Lib.hid HKJ.out.1
      have HKR : Hid (∀ q ∈ kj, q < 2 ^ (m + 1)) := Lib.hid (fun q h => by have h9 := HKJ.out.2 q h; rw [hm] at h9; exact h9)
      have HM := Lib.hid hm
      have hge : (1 : Int) ≤ 8 - (d : Int) := by omega
      have hged : decide ((1 : Int) ≤ 8 - (d : Int)) = true := decide_eq_true hge
      have hwd : IntKind.i64.wrap (8 - (d : Int) - 1) = 8 - ((d : Int) + 1) := by rw [IntWalk.i64_in _ (by omega)]; omega
      clear hm HSD HKJ
      go_wp2_with (fail)
      go_loopw [14, 61] (fun uv iv wi => ∃ (k : Nat) (us : List Nat) (L1 : List ByteArray) (AU AS1 : Option Addr) (cU cS1 : Nat), k ≤ kj.length ∧ iv = .int .i64 k ∧ uv = .slice AU us.length cU ∧ us.length ≤ k ∧ L1.length ≤ 8 * d + k ∧ Hid (us = upI kj k) ∧ Hid (L1 = L ++ sidesM (fun p => nodeD n d p xs) (lone kj) kj k) ∧ Hid (Tri E.heap.size w4.heap.size wi AK cK (castL kj) AU cU (castL us) AS1 cS1 L1) ∧ wi.cell? ⟨w4.heap.size, 2, none⟩ = some (.slice AS1 L1.length cS1) ∧ Hid (wi.cell? ⟨w4.heap.size, 0, none⟩ = some (.slice A4 names.length c4) ∧ wi.cell? ⟨w4.heap.size, 1, none⟩ = some (.slice AB ks.length cB)) ∧ (∀ o, wi.frozen? ⟨w4.heap.size, o, none⟩ = false) ∧ Hid (Chg (atB w4.heap.size) E wi)) (fun _ iv _ => kj.length - (intOf iv).toNat)
      case atStart => exact ⟨0, [], L, none, AS, 0, cS, Nat.zero_le _, rfl, rfl, Nat.le_refl _, by omega, Lib.hid rfl, Lib.hid (by simp [sidesM]), HTR, c2, HC, cf, HCl⟩
      case round =>
        clear c2 cf HC HCl HTR
        obtain ⟨k, us, L1, AU, AS1, cU, cS1, hk, rfl, rfl, hus, hL1, HUS, HL1, HTR, c2, HC, cf, HCi⟩ := hrel
        by_cases hlt : k < kj.length
        rotate_left
        · obtain rfl : k = kj.length := by omega
          have HUA : Hid (us = aboveU kj) := Lib.hid (HUS.out.trans (up_all HIN.out))
          have HUR := Lib.hid (above_pow HKR.out)
          have HUL := above_le kj
          rw [← HUA.out] at HUR HUL HSD2
          rw [← HL1.out] at HSD2
          have HUI : Hid (Inc us) := Lib.hid (by rw [HUA.out]; exact above_inc HIN.out)
          go_wp2
          go_roundw
          case rel => exact ⟨d + 1, us, L1, AU, AS1, cU, cS1, hd, by go_num, rfl, by omega, by omega, Lib.hid (by rw [show 8 - (d + 1) = m by have := HM.out; omega]; exact HSD2.out), Lib.hid ⟨HUI.out, fun q h => by rw [show 8 - (d + 1) = m by have := HM.out; omega]; exact HUR.out q h⟩, Lib.hid (HTR.out.next (by have := HCH.out.size; omega)), c2, HC, cf, HCi⟩
          case measure => simp [intOf]; omega
        have HCw := Lib.hid (HCH.out.trans HCi.out)
        obtain ⟨hbW, hbw, hbG, g0, g1, g2⟩ := HFX.out wr HCw.out
        have HNC := Lib.hid (fun r hr => HND.out d hd8 r hr wr.drew (hbw.trans ((Below.refl _ _).drew)) A3 c3 _ (Row.later HOG.out (hbG.trans ((Below.refl _ _).drew))))
        clear hbW hbw hbG
        obtain ⟨c0, c1⟩ := HC.out
        have hEr := HCi.out.size
        have hmE : w4.heap.size < E.heap.size := by have := HCH.out.size; omega
        have hmr : w4.heap.size < wr.heap.size := by omega
        obtain ⟨K, hK⟩ := HTR.out.known
        have HK := Lib.hid hK
        obtain ⟨b1, o1, rfl, hl1, f0, i0⟩ := Row.int hK (i := k) (by rw [castL_len]; exact hlt)
        clear hK
        rw [castL_at hlt] at f0 i0
        have hp2 : kj.getD k 0 < 2 ^ (m + 1) := HKR.out _ (by rw [getD_ hlt]; exact List.getElem_mem hlt)
        have HP1 := Lib.hid (fun h e => lone_prev (ks := kj) (k := k) h e)
        have HP2 := Lib.hid (fun h e => lone_next (ks := kj) (k := k) h e)
        have HP3 := Lib.hid (fun h1 h2 => lone_yes (ks := kj) (k := k) h1 h2)
        have HSM2 : Hid (L ++ sidesM (fun p => nodeD n d p xs) (lone kj) kj (k + 1) = if lone kj k = true then L1 ++ [nodeD n d (kj.getD k 0 ^^^ 1) xs] else L1) := Lib.hid (by rw [HL1.out]; show L ++ (if lone kj k = true then _ ++ [_] else _) = _; split <;> simp)
        have HUY := Lib.hid (fun h => up_yes (ks := kj) (k := k) HUS.out h)
        have HUN := Lib.hid (fun h1 h => up_no (ks := kj) (k := k) HUS.out h1 h)
        obtain ⟨p, hp⟩ : ∃ p, kj.getD k 0 = p := ⟨_, rfl⟩
        rw [hp] at f0 i0 hp2 HP1 HP2 HP3 HSM2 HUY HUN
        clear hp
        have hp256 : p < 256 := pow_256 (by have := HM.out; omega) hp2
        have hx1 := xor1 hp256
        have hr2 := xor_pow hp2
        rw [← HM.out] at hr2
        obtain ⟨r, hr⟩ : ∃ r, p ^^^ 1 = r := ⟨_, rfl⟩
        rw [hr] at HP1 HP2 HP3 HSM2 hx1 hr2
        clear hr
        obtain ⟨ln, hln⟩ : ∃ b, lone kj k = b := ⟨_, rfl⟩
        rw [hln] at HP1 HP2 HP3 HSM2
        clear hln
        have HNC2 := Lib.hid (HNC.out r hr2)
        have hnm := nodeD_max n d r xs
        obtain ⟨nd, hnd⟩ : ∃ s, nodeD n d r xs = s := ⟨_, rfl⟩
        rw [hnd] at HNC2 HSM2 hnm
        clear hnd HNC
        have hki : (k : Int) < (kj.length : Int) := by omega
        have hk00 : (0 : Int) ≤ (k : Int) := by omega
        have hk1 : IntKind.i64.wrap ((k : Int) + 1) = (k : Int) + 1 := IntWalk.i64_in _ (by omega)
        go_upto_region 18 with fail
        go_cut [17] (fun s17 wx => s17 = .bool (!ln) ∧ wx = wr)
        case first =>
          clear HTR c2 HC cf HCi c0 c1 g0 g1 g2 HNC2 HSM2 HUY HUN
          by_cases hk0 : k = 0
          · have hp0 : decide ((0 : Int) < (k : Int)) = false := decide_eq_false (by omega)
            have hp0n : decide (0 < k) = false := decide_eq_false (by omega)
            have hp0p : ¬ 0 < k := by omega
            have HK0 := Lib.hid hk0; clear hk0
            by_cases hn1 : k + 1 < kj.length
            · have hnd : decide ((k : Int) + 1 < (kj.length : Int)) = true := decide_eq_true (by omega)
              have hnd2 : (k : Int) + 1 < (kj.length : Int) := by omega
              have hk10 : (0 : Int) ≤ (k : Int) + 1 := by omega
              have hk1n : ((k : Int) + 1).toNat = k + 1 := by omega
              obtain ⟨b5, o5, e5, hl5, f1, i1⟩ := Row.int HK.out (i := k + 1) (by rw [castL_len]; exact hn1)
              cases e5
              rw [castL_at hn1] at f1 i1
              obtain ⟨q, hq⟩ : ∃ q, kj.getD (k + 1) 0 = q := ⟨_, rfl⟩
              rw [hq] at f1 i1 HP2 HP3
              by_cases hqr : q = r
              · have hqd : ((q : Int) == (r : Int)) = true := by rw [beq_iff_eq]; omega
                have hqd2 : (q == r) = true := by rw [beq_iff_eq]; exact hqr
                have HN1 := Lib.hid hn1; have HQR := Lib.hid hqr; clear hn1 hqr hq
                obtain rfl : ln = false := HP2.out HN1.out HQR.out
                go_wp2
                go_meet
                exact ⟨rfl, rfl⟩
              · have hqd : ((q : Int) == (r : Int)) = false := by rw [beq_eq_false_iff_ne]; omega
                have hqd2 : (q == r) = false := by rw [beq_eq_false_iff_ne]; exact hqr
                have HQR := Lib.hid hqr; clear hn1 hqr hq
                obtain rfl : ln = true := HP3.out (fun h => absurd HK0.out (by omega)) (fun _ => HQR.out)
                go_wp2
                go_meet
                exact ⟨rfl, rfl⟩
            · have hnd : decide ((k : Int) + 1 < (kj.length : Int)) = false := decide_eq_false (by omega)
              have HN1 := Lib.hid hn1; clear hn1
              obtain rfl : ln = true := HP3.out (fun h => absurd HK0.out (by omega)) (fun h => absurd h HN1.out)
              go_wp2
              go_meet
              exact ⟨rfl, rfl⟩
          obtain ⟨j, hj⟩ : ∃ j, k = j + 1 := ⟨k - 1, by omega⟩
          have hp0 : decide ((0 : Int) < (k : Int)) = true := decide_eq_true (by omega)
          have hwj : IntKind.i64.wrap ((k : Int) - 1) = (j : Int) := by rw [IntWalk.i64_in _ (by omega)]; omega
          have hj0 : (0 : Int) ≤ (j : Int) := by omega
          have hjl : (j : Int) < (kj.length : Int) := by omega
          have hjl2 : j < kj.length := by omega
          obtain ⟨b5, o5, e5, hl5, f2, i2⟩ := Row.int HK.out (i := j) (by rw [castL_len]; exact hjl2)
          cases e5
          rw [castL_at hjl2] at f2 i2
          rw [show k - 1 = j by omega] at HP1 HP3
          obtain ⟨q2, hq2⟩ : ∃ q, kj.getD j 0 = q := ⟨_, rfl⟩
          rw [hq2] at f2 i2 HP1 HP3
          have HKP : Hid (0 < k) := Lib.hid (by omega)
          clear hq2 hk0 hj
          by_cases hjr : q2 = r
          · have hjd : ((q2 : Int) == (r : Int)) = true := by rw [beq_iff_eq]; omega
            have hjd2 : (q2 == r) = true := by rw [beq_iff_eq]; exact hjr
            have HJR := Lib.hid hjr; clear hjr
            obtain rfl : ln = false := HP1.out HKP.out HJR.out
            go_wp2
            go_meet
            exact ⟨rfl, rfl⟩
          have hjd : ((q2 : Int) == (r : Int)) = false := by rw [beq_eq_false_iff_ne]; omega
          have hjd2 : (q2 == r) = false := by rw [beq_eq_false_iff_ne]; exact hjr
          have HJR := Lib.hid hjr; clear hjr
          by_cases hn1 : k + 1 < kj.length
          · have hnd : decide ((k : Int) + 1 < (kj.length : Int)) = true := decide_eq_true (by omega)
            have hnd2 : (k : Int) + 1 < (kj.length : Int) := by omega
            have hk10 : (0 : Int) ≤ (k : Int) + 1 := by omega
            have hk1n : ((k : Int) + 1).toNat = k + 1 := by omega
            obtain ⟨b5, o5, e5, hl5, f1, i1⟩ := Row.int HK.out (i := k + 1) (by rw [castL_len]; exact hn1)
            cases e5
            rw [castL_at hn1] at f1 i1
            obtain ⟨q, hq⟩ : ∃ q, kj.getD (k + 1) 0 = q := ⟨_, rfl⟩
            rw [hq] at f1 i1 HP2 HP3
            by_cases hqr : q = r
            · have hqd : ((q : Int) == (r : Int)) = true := by rw [beq_iff_eq]; omega
              have hqd2 : (q == r) = true := by rw [beq_iff_eq]; exact hqr
              have HN1 := Lib.hid hn1; have HQR := Lib.hid hqr; clear hn1 hqr hq
              obtain rfl : ln = false := HP2.out HN1.out HQR.out
              go_wp2
              go_meet
              exact ⟨rfl, rfl⟩
            · have hqd : ((q : Int) == (r : Int)) = false := by rw [beq_eq_false_iff_ne]; omega
              have hqd2 : (q == r) = false := by rw [beq_eq_false_iff_ne]; exact hqr
              have HQR := Lib.hid hqr; clear hn1 hqr hq
              obtain rfl : ln = true := HP3.out (fun _ => HJR.out) (fun _ => HQR.out)
              go_wp2
              go_meet
              exact ⟨rfl, rfl⟩
          · have hnd : decide ((k : Int) + 1 < (kj.length : Int)) = false := decide_eq_false (by omega)
            have HN1 := Lib.hid hn1; clear hn1
            obtain rfl : ln = true := HP3.out (fun _ => HJR.out) (fun h => absurd h HN1.out)
            go_wp2
            go_meet
            exact ⟨rfl, rfl⟩
        case rest =>
          obtain ⟨rfl, hwc⟩ := hcut
          rw [hwc]
          clear hwc HP1 HP2 HP3
          go_upto_if 96 with fail
          go_cut [] (fun wx => ∃ (L2 : List ByteArray) (AS2 : Option Addr) (cS2 : Nat), Hid (L2 = L ++ sidesM (fun p => nodeD n d p xs) (lone kj) kj (k + 1)) ∧ L2.length ≤ 8 * d + (k + 1) ∧ Hid (Tri E.heap.size w4.heap.size wx (some ⟨b1, o1, none⟩) cK (castL kj) AU cU (castL us) AS2 cS2 L2) ∧ wx.cell? ⟨w4.heap.size, 2, none⟩ = some (.slice AS2 L2.length cS2) ∧ Hid (wx.cell? ⟨w4.heap.size, 0, none⟩ = some (.slice A4 names.length c4) ∧ wx.cell? ⟨w4.heap.size, 1, none⟩ = some (.slice AB ks.length cB)) ∧ (∀ o, wx.frozen? ⟨w4.heap.size, o, none⟩ = false) ∧ Hid (Chg (atB w4.heap.size) E wx))
          case first =>
            clear HUY HUN f0 i0 HK
            cases ln
            · go_wp2_with (fail)
              go_meet
              exact ⟨L1, AS1, cS1, Lib.hid (by rw [HSM2.out]; simp), by omega, HTR, c2, HC, cf, HCi⟩
            · have hlim : L1.length ≤ 2000000000 := by omega
              go_wp2_with (fail)
              go_region_law (first | (go_simp; go_at_call 73; refine HNC2.out.mono ?_; rintro e6 w6 ⟨rfl, hb6'⟩; have hb6 := Below.viad hb6'; have hs6 := hb6.size; have q2 := (hb6.cell (p := ⟨w4.heap.size, 2, none⟩) hmr).trans c2; have q2a := (fun o => (cell_alloc q2 : (w6.alloc o).cell? ⟨w4.heap.size, 2, none⟩ = some (.slice AS1 L1.length cS1))); clear hb6') | (refine step_triS rfl _ _ rfl rfl rfl ((HTR.out.later hb6).alloc _) ?hB rfl (src1 hnm rfl rfl) hlim ?_; (case hB => rw [World.size_alloc]; omega); intro A7 c7 w7 t7 hb7; have T7 := Lib.hid t7; have HB7 := Lib.hid (((hb6.alloc hs6 _).mono hEr).trans hb7); have p7 := (HB7.out.cell (p := ⟨w4.heap.size, 2, none⟩) hmE).trans c2; have f7 := fun o => (HB7.out.frozen (p := ⟨w4.heap.size, o, none⟩) hmE).trans (cf o); clear t7 hb7))
              all_goals (go_wp2_with (fail))
              all_goals (go_meet)
              all_goals (exact ⟨L1 ++ [nd], A7, c7, Lib.hid (by rw [HSM2.out]; simp), by rw [List.length_append]; show L1.length + 1 ≤ _; omega, Lib.hid (T7.out.setC hmE _ _), by rw [List.length_append]; exact World.cell?_setCell_same w7 _ _ p7, Lib.hid ⟨(World.cell?_setCell_other _ _ _ _ (ne_off (by decide))).trans ((HB7.out.cell (p := ⟨w4.heap.size, 0, none⟩) hmE).trans c0), (World.cell?_setCell_other _ _ _ _ (ne_off (by decide))).trans ((HB7.out.cell (p := ⟨w4.heap.size, 1, none⟩) hmE).trans c1)⟩, fun o => by simpa using f7 o, Lib.hid ((HCi.out.below HB7.out (Nat.le_refl _)).setCell (Or.inl (show atB w4.heap.size w4.heap.size from rfl)) _)⟩)
          case rest =>
            clear HTR c2 HC cf HCi c0 c1 g0 g1 g2 HNC2 HSM2 hmr hEr f0 i0 HL1 HCw HK hl1
            obtain ⟨L2, AS2, cS2, HL2, hL2, HTR, c2, HC, cf, HCi⟩ := hcut
            have hEc := HCi.out.size
            have HUR := Lib.hid HTR.out.ups
            have HUL := Lib.hid (castL_len us)
            have hpq : Flat.ok (((p / 2 : Nat) : Int)) := (show I64 _ from by unfold I64; omega)
            have hqu : Int.tdiv (p : Int) 2 = ((p / 2 : Nat) : Int) := rfl
            have hul : us.length ≤ 2000000000 := by omega
            by_cases hu0 : us.length = 0
            · have hu0d : ((us.length : Int) == 0) = true := by rw [beq_iff_eq]; omega
              have HU0 := Lib.hid hu0; clear hu0
              go_wp2_with (at_builtin; refine wpList_triU rfl _ _ rfl rfl HUL.out.symm (HTR.out.alloc _) (by rw [World.size_alloc]; omega) rfl (src1 hpq (by first | rfl | simp) rfl) hul ?_; intro A8 c8 w8 t8 hb8 hs8; have T8 := Lib.hid t8; have HB8 := Lib.hid (((Below.refl wc.heap.size wc).alloc (Nat.le_refl _) _).mono hEc |>.trans hb8); clear t8 hb8)
              go_roundw
              case rel => exact ⟨k + 1, us ++ [p / 2], L2, A8, AS2, c8, cS2, hlt, by go_num, by simp, by simp; omega, by omega, Lib.hid (HUY.out (.inl HU0.out)), HL2, Lib.hid (by rw [castL_snoc]; exact T8.out), (HB8.out.cell (p := ⟨w4.heap.size, 2, none⟩) hmE).trans c2, Lib.hid ⟨(HB8.out.cell (p := ⟨w4.heap.size, 0, none⟩) hmE).trans HC.out.1, (HB8.out.cell (p := ⟨w4.heap.size, 1, none⟩) hmE).trans HC.out.2⟩, fun o => (HB8.out.frozen (p := ⟨w4.heap.size, o, none⟩) hmE).trans (cf o), Lib.hid (HCi.out.below HB8.out (Nat.le_refl _))⟩
              case measure => simp [intOf]; omega
            obtain ⟨j, hj⟩ : ∃ j, us.length = j + 1 := ⟨us.length - 1, by omega⟩
            have hu0d : ((us.length : Int) == 0) = false := by rw [beq_eq_false_iff_ne]; omega
            have hwj : IntKind.i64.wrap ((us.length : Int) - 1) = (j : Int) := by rw [IntWalk.i64_in _ (by omega)]; omega
            have hj0 : (0 : Int) ≤ (j : Int) := by omega
            have hjl : (j : Int) < (us.length : Int) := by omega
            have hjl2 : j < us.length := by omega
            obtain ⟨b5, o5, rfl, hl5, f2, i2⟩ := Row.int HUR.out (i := j) (by rw [castL_len]; exact hjl2)
            rw [castL_at hjl2] at f2 i2
            rw [show us.length - 1 = j by omega] at HUY HUN
            obtain ⟨q2, hq2⟩ : ∃ q, us.getD j 0 = q := ⟨_, rfl⟩
            rw [hq2] at f2 i2 HUY HUN
            have HU0 := Lib.hid hu0
            clear hq2 hu0 hj
            by_cases hjr : q2 = p / 2
            · have hjd : ((q2 : Int) == ((p / 2 : Nat) : Int)) = true := by rw [beq_iff_eq, hjr]
              have hjd2 : ((q2 : Int) != ((p / 2 : Nat) : Int)) = false := by rw [bne, hjd]; rfl
              have HJR := Lib.hid hjr; clear hjr
              go_wp2
              go_roundw
              case rel => exact ⟨k + 1, us, L2, _, AS2, cU, cS2, hlt, by go_num, rfl, by omega, by omega, Lib.hid (HUN.out HU0.out HJR.out), HL2, HTR, c2, HC, cf, HCi⟩
              case measure => simp [intOf]; omega
            have hjd : ((q2 : Int) == ((p / 2 : Nat) : Int)) = false := by rw [beq_eq_false_iff_ne]; exact fun h => hjr (by omega)
            have hjd2 : ((q2 : Int) != ((p / 2 : Nat) : Int)) = true := by rw [bne, hjd]; rfl
            have HJR := Lib.hid hjr; clear hjr
            go_wp2_with (at_builtin; refine wpList_triU rfl _ _ rfl rfl HUL.out.symm (HTR.out.alloc _) (by rw [World.size_alloc]; omega) rfl (src1 hpq (by first | rfl | simp) rfl) hul ?_; intro A8 c8 w8 t8 hb8 hs8; have T8 := Lib.hid t8; have HB8 := Lib.hid (((Below.refl wc.heap.size wc).alloc (Nat.le_refl _) _).mono hEc |>.trans hb8); clear t8 hb8)
            go_roundw
            case rel => exact ⟨k + 1, us ++ [p / 2], L2, A8, AS2, c8, cS2, hlt, by go_num, by simp, by simp; omega, by omega, Lib.hid (HUY.out (.inr HJR.out)), HL2, Lib.hid (by rw [castL_snoc]; exact T8.out), (HB8.out.cell (p := ⟨w4.heap.size, 2, none⟩) hmE).trans c2, Lib.hid ⟨(HB8.out.cell (p := ⟨w4.heap.size, 0, none⟩) hmE).trans HC.out.1, (HB8.out.cell (p := ⟨w4.heap.size, 1, none⟩) hmE).trans HC.out.2⟩, fun o => (HB8.out.frozen (p := ⟨w4.heap.size, o, none⟩) hmE).trans (cf o), Lib.hid (HCi.out.below HB8.out (Nat.le_refl _))⟩
            case measure => simp [intOf]; omega
end Go.Proofs.YtojbehmbeoemgaaDoor
