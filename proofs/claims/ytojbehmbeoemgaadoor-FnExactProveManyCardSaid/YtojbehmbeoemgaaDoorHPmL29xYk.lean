/- A part of the proof: what the laws need of it. -/
import Derived.Deep.DeepCutAuto
import Derived.Test.YtojbehmbeoemgaaDoorHPmYh
import Derived.Test.YtojbehmbeoemgaaDoorHPmL25xNy
import Derived.Test.YtojbehmbeoemgaaDoorHPmL24xYp
import Derived.Test.YtojbehmbeoemgaaDoorHPmL23xYn
import Derived.Test.YtojbehmbeoemgaaDoorHPmL18xHo
import Derived.Test.YtojbehmbeoemgaaDoorHPmL5xHd
set_option linter.unusedVariables false
set_option linter.unusedSimpArgs false
set_option linter.unusedVariables false
set_option linter.unusedSimpArgs false
namespace Go.Proofs.YtojbehmbeoemgaaDoor
open Go.RowKit Lay Mk
set_option maxRecDepth 20000 in set_option maxHeartbeats 16000000 in
theorem spec_ProveMany (w : World) (xs : List Leaf) (A : Option Addr) (cap : Nat) (S : Blks) (hx : Row false w A cap xs S) (_ : xs.length ≤ cap) (_ : cap ≤ maxLen) (hz : szL xs ≤ 1048576) (names : List ByteArray) (A2 : Option Addr) (cap2 : Nat) (S2 : Blks) (hy : Row false w A2 cap2 names S2) (hy1 : names.length ≤ cap2) (hy2 : cap2 ≤ maxLen) (hzn : szL names ≤ 1048576) (n : Int) (hn : I64 n) : Calls Tryd.prog 35 #[.slice A xs.length cap, .slice A2 names.length cap2, .int .i64 n] w (PmRes (proveMany xs names n) w) := by
  have hxl : xs.length ≤ 1048576 := by have := szT_le xs 0; omega
  have hnl : names.length ≤ 1048576 := by have := szT_le names 0; omega
  have HLV := Lib.hid (fun W (h : Below w.heap.size w W) => spec_LeavesOk W xs A cap S (Row.later hx h) (by omega))
  have HNM := Lib.hid (fun W (h : Below w.heap.size w W) => spec_l26Names W names A2 cap2 S2 (Row.later hy h) hnl)
  have HIW := Lib.hid (fun W => spec_in n 1 32 W)
  have HSRC := Lib.hid (fun W (h : Below w.heap.size w W) => Src.flat (Row.later hy h))
  have HXS := Lib.hid (fun W (h : Below w.heap.size w W) => spec_IndexesOf W names A2 cap2 S2 (Row.later hy h) hy1 hy2 hzn)
  rw [idx_cast, castL_len] at HXS
  have HBK := Lib.hid (fun W (h : Below w.heap.size w W) (i : Int) => spec_BucketOf W xs A cap S (Row.later hx h) hxl hz i)
  have HSP := Lib.hid (fun W (h : Below w.heap.size w W) => spec_l10Spots W xs A cap S (Row.later hx h) hxl hz)
  have HNO := Lib.hid (fun h => pm_no (xs := xs) (names := names) (n := n) h)
  have HYE := Lib.hid (fun h => pm_yes (xs := xs) (names := names) (n := n) h)
  have HKI := Lib.hid (idxN_inc names)
  have HK2 := Lib.hid (idxN_lt names)
  have HKL := Lib.hid (idxN_le names)
  obtain ⟨R, hR⟩ : ∃ R, proveMany xs names n = R := ⟨_, rfl⟩
  rw [hR] at HNO HYE ⊢
  clear hR
  unfold proveForm at HNO HYE
  have HN8 : Hid (namesFit names = true → names.length ≤ 8) := Lib.hid (fun hf => by
    unfold namesFit at hf; simp only [Bool.and_eq_true] at hf
    have h9 : 1 ≤ (names.length : Int) ∧ (names.length : Int) ≤ 8 := by simpa [inB] using hf.2
    omega)
  obtain ⟨q1, hq1⟩ : ∃ b, leavesOk xs = b := ⟨_, rfl⟩
  rw [hq1] at HLV HNO HYE
  have HOK := Lib.hid hq1
  obtain ⟨q2, hq2⟩ : ∃ b, namesFit names = b := ⟨_, rfl⟩
  rw [hq2] at HNM HNO HYE HN8
  obtain ⟨q3, hq3⟩ : ∃ b, inB n 1 32 = b := ⟨_, rfl⟩
  rw [hq3] at HIW HNO HYE
  obtain ⟨ks, hks⟩ : ∃ l, idxN names = l := ⟨_, rfl⟩
  rw [hks] at HXS HYE HKI HK2 HKL
  clear hks hq1 hq2 hq3 hx hy hz hzn hy1 hy2
  have hWd : ∀ W, W = w.alloc (.cells #[.slice none 0 0, .slice none 0 0, .slice none 0 0] 51) → Below w.heap.size w W ∧ W.cell? ⟨w.heap.size, 0, none⟩ = some (.slice none 0 0) ∧ W.cell? ⟨w.heap.size, 1, none⟩ = some (.slice none 0 0) ∧ W.cell? ⟨w.heap.size, 2, none⟩ = some (.slice none 0 0) ∧ (∀ o, W.frozen? ⟨w.heap.size, o, none⟩ = false) ∧ w.heap.size < W.heap.size := by
    rintro W rfl
    exact ⟨(Below.refl _ _).alloc (Nat.le_refl _) _, box_cell _ _ _ _ _ rfl, box_cell _ _ _ _ _ rfl, box_cell _ _ _ _ _ rfl, fun o => by simp, by simp⟩
  go_enter Tryd.func35, Tryd.ntmps35
  go_wp2_with (fail)
  obtain ⟨W, hW⟩ : ∃ W, w.alloc (.cells #[.slice none 0 0, .slice none 0 0, .slice none 0 0] 51) = W := ⟨_, rfl⟩
  rw [hW]
  obtain ⟨hBW, z0, z1, z2, zf, hlW⟩ := hWd W hW.symm
  have HBW := Lib.hid hBW
  have HZW := Lib.hid (fun (w' : World) (h : Below W.heap.size W w') => (⟨(h.cell (p := ⟨w.heap.size, 0, none⟩) hlW).trans z0, (h.cell (p := ⟨w.heap.size, 1, none⟩) hlW).trans z1, (h.cell (p := ⟨w.heap.size, 2, none⟩) hlW).trans z2, fun o => (h.frozen (p := ⟨w.heap.size, o, none⟩) hlW).trans (zf o)⟩ : w'.cell? ⟨w.heap.size, 0, none⟩ = some (.slice none 0 0) ∧ w'.cell? ⟨w.heap.size, 1, none⟩ = some (.slice none 0 0) ∧ w'.cell? ⟨w.heap.size, 2, none⟩ = some (.slice none 0 0) ∧ ∀ o, w'.frozen? ⟨w.heap.size, o, none⟩ = false))
  clear hW hWd hBW z0 z1 z2 zf
  refine (HLV.out _ HBW.out).mono ?_
  rintro e1 w1 ⟨rfl, hb1⟩
  have HB1 := Lib.hid hb1
  have HB1w := Lib.hid (HBW.out.trans (hb1.mono HBW.out.size))
  have hl1 : w.heap.size < w1.heap.size := Nat.lt_of_lt_of_le hlW hb1.size
  obtain ⟨z0, z1, z2, zf⟩ := HZW.out w1 hb1
  clear hb1 HLV
  cases q1
  · have HE := Lib.hid (HNO.out (by first | rfl | simp))
    go_wp2
    refine bodyPost_ret (v := .tuple #[.agg #[.slice none 0 0, .slice none 0 0, .slice none 0 0], .bool false]) (by simp [results, Tryd.results35, go_sem, *]) rfl ?_
    exact PmRes.nil HE.out (Below.setCell (Below.setCell (Below.setCell HB1w.out (Nat.le_refl _) _) (Nat.le_refl _) _) (Nat.le_refl _) _)
  cases q2
  · have HE := Lib.hid (HNO.out (by first | rfl | simp))
    go_wp2_with (go_at_call 88; refine (HNM.out _ HB1w.out).mono ?_; rintro e2 w2 ⟨rfl, rfl⟩)
    refine bodyPost_ret (v := .tuple #[.agg #[.slice none 0 0, .slice none 0 0, .slice none 0 0], .bool false]) (by simp [results, Tryd.results35, go_sem, *]) rfl ?_
    exact PmRes.nil HE.out (Below.setCell (Below.setCell (Below.setCell HB1w.out (Nat.le_refl _) _) (Nat.le_refl _) _) (Nat.le_refl _) _)
  cases q3
  · have HE := Lib.hid (HNO.out (by first | rfl | simp))
    go_wp2_with (first | (go_at_call 88; refine (HNM.out _ HB1w.out).mono ?_; rintro e2 w2 ⟨rfl, rfl⟩) | (go_at_call 50; with_reducible refine (HIW.out _).mono ?_; rintro e3 w3 ⟨rfl, rfl⟩))
    refine bodyPost_ret (v := .tuple #[.agg #[.slice none 0 0, .slice none 0 0, .slice none 0 0], .bool false]) (by simp [results, Tryd.results35, go_sem, *]) rfl ?_
    exact PmRes.nil HE.out (Below.setCell (Below.setCell (Below.setCell HB1w.out (Nat.le_refl _) _) (Nat.le_refl _) _) (Nat.le_refl _) _)
  have HE := Lib.hid (HYE.out (by first | rfl | simp))
  have hn8 := HN8.out (by first | rfl | trivial)
  have hkl : ks.length ≤ 8 := Nat.le_trans HKL.out hn8
  obtain ⟨Z, hZ⟩ : ∃ Z, sidesMany n xs 8 0 ks [] = Z := ⟨_, rfl⟩
  rw [hZ] at HE
  have HZ := Lib.hid hZ
  have HO := Lib.hid (Own.litAt (α := ByteArray) (Below.refl w1.heap.size w1) 9 rfl (b := w1.heap.size) rfl)
  clear hZ HN8 HNO HYE HKL z0 z1 z2 zf
  go_wp2_with (first | (go_at_call 88; refine (HNM.out _ HB1w.out).mono ?_; rintro e2 w2 ⟨rfl, rfl⟩) | (go_at_call 50; with_reducible refine (HIW.out _).mono ?_; rintro e3 w3 ⟨rfl, rfl⟩) | (at_builtin; refine wpList_push (α := ByteArray) rfl _ _ rfl rfl rfl HO.out rfl rfl (HSRC.out _ (HB1w.out.alloc HB1w.out.size _)) (by simp; omega) ?_; intro A4 c4 w4 o4 z4; rw [List.nil_append] at o4; have O4 := Lib.hid o4; have hs4 := o4.bl.size; clear o4))
  clear HIW HNM HO HSRC
  obtain ⟨M, hM⟩ : ∃ M, w4.alloc (.cells #[.slice A4 names.length c4, .slice none 0 0, .slice none 0 0] 51) = M := ⟨_, rfl⟩
  rw [hM]
  have hMf : Below w4.heap.size w4 M ∧ M.heap.size = w4.heap.size + 1 ∧ M.cell? ⟨w4.heap.size, 0, none⟩ = some (.slice A4 names.length c4) ∧ M.cell? ⟨w4.heap.size, 1, none⟩ = some (.slice none 0 0) ∧ M.cell? ⟨w4.heap.size, 2, none⟩ = some (.slice none 0 0) ∧ ∀ o, M.frozen? ⟨w4.heap.size, o, none⟩ = false := by
    rw [← hM]; exact ⟨(Below.refl _ _).alloc (Nat.le_refl _) _, by simp, box_cell _ _ _ _ _ rfl, box_cell _ _ _ _ _ rfl, box_cell _ _ _ _ _ rfl, fun o => by simp⟩
  obtain ⟨hbM, hsM, p0, p1, p2, pf⟩ := hMf
  have HBM := Lib.hid (O4.out.bl.trans (hbM.mono hs4))
  have HBMW := Lib.hid (HB1.out.trans (HBM.out.mono HB1.out.size))
  have HBMw := Lib.hid (HBW.out.trans (HBMW.out.mono HBW.out.size))
  have R4M := Lib.hid (Row.later O4.out.rng hbM)
  clear hM hbM
  refine (HXS.out _ HBMw.out).mono ?_
  rintro e5 w5 ⟨A5, c5, rfl, l5, m5, r5, hb5⟩
  have R5 := Lib.hid r5.weak
  have R45 := Lib.hid (Row.later R4M.out hb5)
  have hs5 := hb5.size
  have hm5 : w4.heap.size < w5.heap.size := by omega
  have hlM : w4.heap.size < M.heap.size := by omega
  have HB5W := Lib.hid (HBMW.out.trans (hb5.mono HBMW.out.size))
  replace p0 := (hb5.cell (p := ⟨w4.heap.size, 0, none⟩) hlM).trans p0
  replace p1 := (hb5.cell (p := ⟨w4.heap.size, 1, none⟩) hlM).trans p1
  replace p2 := (hb5.cell (p := ⟨w4.heap.size, 2, none⟩) hlM).trans p2
  replace pf := fun o => (hb5.frozen (p := ⟨w4.heap.size, o, none⟩) hlM).trans (pf o)
  have hW1 := HB1.out.size
  have hW4 : W.heap.size ≤ w4.heap.size := by omega
  have HFX : Hid (∀ (w' : World), Chg (atB w4.heap.size) w5 w' → Below W.heap.size W w' ∧ Below w.heap.size w w') := Lib.hid (fun w' h => by
    have h2 : Below W.heap.size W w' := HB5W.out.trans (h.to_below (by omega) (fun b hb => by have hb : b = w4.heap.size := hb; omega))
    exact ⟨h2, HBW.out.trans (h2.mono HBW.out.size)⟩)
  have HSM := Lib.hid hsM
  have P5 := Lib.hid (show w5.cell? ⟨w4.heap.size, 0, none⟩ = some (.slice A4 names.length c4) ∧ w5.cell? ⟨w4.heap.size, 2, none⟩ = some (.slice none 0 0) ∧ (∀ o, w5.frozen? ⟨w4.heap.size, o, none⟩ = false) from ⟨p0, p2, pf⟩)
  clear p0 p2 pf hb5 r5 HXS hsM
  go_wp2_with (fail)
  go_loopw [10] (fun it wr => ∃ (k : Nat) (AB : Option Addr) (cB : Nat), k ≤ ks.length ∧ it = .int .i64 k ∧ Hid (Row true wr AB cB ((ks.take k).map (fun k : Nat => bucketOf xs (k : Int))) (nw w5.heap.size) ∧ ((ks.take k).map (fun k : Nat => bucketOf xs (k : Int))).length ≤ cB ∧ cB ≤ maxLen) ∧ wr.cell? ⟨w4.heap.size, 1, none⟩ = some (.slice AB k cB) ∧ Hid (wr.cell? ⟨w4.heap.size, 0, none⟩ = some (.slice A4 names.length c4) ∧ wr.cell? ⟨w4.heap.size, 2, none⟩ = some (.slice none 0 0)) ∧ (∀ o, wr.frozen? ⟨w4.heap.size, o, none⟩ = false) ∧ Hid (Chg (atB w4.heap.size) w5 wr)) (fun it _ => ks.length - (intOf it).toNat)
  case atStart => exact ⟨0, none, 0, Nat.zero_le _, rfl, Lib.hid ⟨row_nil _ _, Nat.le_refl _, by decide⟩, p1, Lib.hid ⟨P5.out.1, P5.out.2.1⟩, P5.out.2.2, Lib.hid (Chg.refl _ _)⟩
  case round =>
    obtain ⟨k, AB, cB, hk, rfl, HRW, p1, HP, pf, HCH⟩ := hrel
    have hsr := HCH.out.size
    have hmr : w4.heap.size < wr.heap.size := by omega
    obtain ⟨hbW, hbw⟩ := HFX.out wr HCH.out
    have HBw := Lib.hid hbw
    clear hbW hbw
    by_cases hlt : k < ks.length
    · have HRX := Lib.hid (Row.chg R5.out HCH.out (fun b h1 h2 => by have h3 : b = w4.heap.size := h2; have h4 := h1.1; have h5 : M.heap.size = w4.heap.size + 1 := HSM.out; omega))
      obtain ⟨b3, o3, rfl, hl3, f0, i0⟩ := Row.int HRX.out (i := k) (by rw [castL_len]; exact hlt)
      rw [castL_at hlt] at f0 i0
      have HSN := Lib.hid (map_snocY (fun k : Nat => bucketOf xs (k : Int)) hlt)
      have HNL : Hid (k = ((ks.take k).map (fun k : Nat => bucketOf xs (k : Int))).length) := Lib.hid (by simp; omega)
      have HBC := Lib.hid (HBK.out wr.drew (HBw.out.trans ((Below.refl _ _).drew)) ((ks.getD k 0 : Nat) : Int))
      obtain ⟨p, hp⟩ : ∃ p, ks.getD k 0 = p := ⟨_, rfl⟩
      rw [hp] at f0 i0 HSN HBC
      obtain ⟨bl, hbl⟩ : ∃ l, bucketOf xs (p : Int) = l := ⟨_, rfl⟩
      rw [hbl] at HSN HBC
      clear hp hbl
      have hlim : k ≤ 2000000000 := by omega
      have hki : (k : Int) < (ks.length : Int) := by omega
      have hk00 : (0 : Int) ≤ (k : Int) := by omega
      have hk1 : IntKind.i64.wrap ((k : Int) + 1) = (k : Int) + 1 := IntWalk.i64_in _ (by omega)
      go_wp2_with (fail)
      go_region_law (first | (go_simp; go_at_call 76; refine HBC.out.mono ?_; rintro e6 w6 ⟨A6, c6, rfl, o6⟩; have O6 := Lib.hid o6; have hb6 := Below.viad o6.bl; have hs6 := hb6.size; have q1 := (hb6.cell (p := ⟨w4.heap.size, 1, none⟩) hmr).trans p1; have q1a := (fun o => (cell_alloc q1 : (w6.alloc o).cell? ⟨w4.heap.size, 1, none⟩ = some (.slice AB k cB))); clear o6) | (refine step_pushN (α := List Leaf) (w1 := wr) (B := w5.heap.size) (y := bl) (T := fun b => rng wr.heap.size w6.heap.size b ∧ b < w6.heap.size) rfl _ _ rfl rfl HNL.out HRW.out.1 HRW.out.2.1 HRW.out.2.2 hsr ?hb rfl ?src ?hT hlim ?_; (case hb => exact hb6.alloc hs6 _); (case src => exact srcR w6 bl _ _ _ rfl (show rd true w6 [.slice A6 bl.length c6] bl (rng wr.heap.size w6.heap.size) from ⟨_, _, rfl, O6.out.le, O6.out.cm, O6.out.rng⟩)); (case hT => exact fun b h => h.1.1); intro A7 c7 w7 r7 l7 m7 hb7; have HB7 := Lib.hid (((hb6.alloc hs6 _).mono hsr).trans hb7); have R7 := Lib.hid (And.intro r7 (And.intro l7 m7)); have p7 := (HB7.out.cell (p := ⟨w4.heap.size, 1, none⟩) hm5).trans p1; have f7 := fun o => (HB7.out.frozen (p := ⟨w4.heap.size, o, none⟩) hm5).trans (pf o); clear r7 l7 m7 hb7))
      all_goals (go_wp2_with (fail))
      all_goals (go_roundw)
      all_goals (first | (simp [intOf]; omega) | exact ⟨k + 1, A7, c7, hlt, by go_num, Lib.hid ⟨by rw [HSN.out]; exact R7.out.1.setC (fun h => by have h1 : w5.heap.size ≤ w4.heap.size := h; omega) _, by rw [HSN.out]; exact R7.out.2.1, R7.out.2.2⟩, World.cell?_setCell_same w7 _ _ p7, Lib.hid ⟨(World.cell?_setCell_other _ _ _ _ (ne_off (by decide))).trans ((HB7.out.cell (p := ⟨w4.heap.size, 0, none⟩) hm5).trans HP.out.1), (World.cell?_setCell_other _ _ _ _ (ne_off (by decide))).trans ((HB7.out.cell (p := ⟨w4.heap.size, 2, none⟩) hm5).trans HP.out.2)⟩, fun o => by simpa using f7 o, Lib.hid ((HCH.out.below HB7.out (Nat.le_refl _)).setCell (Or.inl (show atB w4.heap.size w4.heap.size from rfl)) _)⟩)
    have hke : k = ks.length := by omega
    subst hke
    rename World => F1
    rw [List.take_length] at HRW
    have HRB1 := Lib.hid (to_rng HRW.out.1)
    have HLB : Hid ((ks.map (fun k : Nat => bucketOf xs (k : Int))).length = ks.length) := Lib.hid (by simp)
    have HRX1 := Lib.hid (Row.chg R5.out HCH.out (fun b h1 h2 => by have h3 : b = w4.heap.size := h2; have h4 := h1.1; have h5 : M.heap.size = w4.heap.size + 1 := HSM.out; omega))
    have HRN1 := Lib.hid (Row.chg R45.out HCH.out (fun b h1 h2 => by have h3 : b = w4.heap.size := h2; have h4 := h1.2; omega))
    have HKN : ¬ rng M.heap.size w5.heap.size w4.heap.size := fun h => by have h1 := h.1; have h5 : M.heap.size = w4.heap.size + 1 := HSM.out; omega
    go_wp2_with (fail)
    refine (HSP.out _ HBw.out).mono ?_
    rintro e7 w7 ⟨A7, c7, rfl, o7⟩
    simp only [spotsOf_len]
    have O7 := Lib.hid o7
    have hs7 := o7.bl.size
    have hb7 := o7.bl
    clear o7 HSP HBK
    go_wp2_with (fail)
    refine (spec_l10Empties _ n hn).mono ?_
    rintro e8 E ⟨bE, rfl, hbL, hbE, hE, hb8⟩
    have hb78 := hb7.trans (hb8.mono hs7)
    have hs8 := hb8.size
    have HCE := Lib.hid (HCH.out.below hb78 hsr)
    have HRB := Lib.hid (Row.later HRB1.out hb78)
    have HRX := Lib.hid (Row.later HRX1.out hb78)
    have HRN := Lib.hid (Row.later HRN1.out hb78)
    have HRS := Lib.hid (Row.weak (Row.later O7.out.rng hb8))
    have HEE := Lib.hid hE
    have HC0 := Lib.hid (And.intro ((hb78.cell (p := ⟨w4.heap.size, 0, none⟩) hmr).trans HP.out.1) ((hb78.cell (p := ⟨w4.heap.size, 1, none⟩) hmr).trans p1))
    have P2 := Lib.hid (And.intro ((hb78.cell (p := ⟨w4.heap.size, 2, none⟩) hmr).trans HP.out.2) (fun o => (hb78.frozen (p := ⟨w4.heap.size, o, none⟩) hmr).trans (pf o)))
    have HL1 := Lib.hid HRW.out.2
    have HFE : Hid (∀ (w' : World), Chg (atB w4.heap.size) E w' → Below W.heap.size W w' ∧ Below w.heap.size w w' ∧ Row false w' A7 c7 (spotsOf xs) (rng F1.heap.size w7.heap.size) ∧ bE < w'.heap.size ∧ (∀ j, j ≤ 8 → w'.cell? ⟨bE, j, none⟩ = some (.string (emptyD n (8 - j))))) := Lib.hid (fun w' h => by
      obtain ⟨h1, h2⟩ := HFX.out w' (HCE.out.trans h)
      refine ⟨h1, h2, Row.chg HRS.out h (fun b h3 h4 => by have h5 : b = w4.heap.size := h4; have h6 := h3.1; omega), Nat.lt_of_lt_of_le hbE h.size, fun j hj => (h.cell (b := bE) (o := j) hbE (fun h5 => by have h6 : bE = w4.heap.size := h5; omega)).trans (HEE.out j hj)⟩)
    clear p1 HP pf hk hE hb7 hb8 hb78 HRB1 HRX1 HRN1 HRS HRW
    go_wp2_with (fail)
    go_loopw [9, 13] (fun kv lv wl => ∃ (d : Nat) (kj : List Nat) (L : List ByteArray) (AK AS : Option Addr) (cK cS : Nat), d ≤ 8 ∧ lv = .int .i64 (8 - (d : Int)) ∧ kv = .slice AK kj.length cK ∧ kj.length ≤ 8 ∧ L.length ≤ 8 * d ∧ Hid (sidesMany n xs (8 - d) d kj L = Z) ∧ Hid (Inc kj ∧ ∀ q ∈ kj, q < 2 ^ (8 - d)) ∧ Hid (Tri E.heap.size w4.heap.size wl AK cK (castL kj) none 0 [] AS cS L) ∧ wl.cell? ⟨w4.heap.size, 2, none⟩ = some (.slice AS L.length cS) ∧ Hid (wl.cell? ⟨w4.heap.size, 0, none⟩ = some (.slice A4 names.length c4) ∧ wl.cell? ⟨w4.heap.size, 1, none⟩ = some (.slice AB ks.length cB)) ∧ (∀ o, wl.frozen? ⟨w4.heap.size, o, none⟩ = false) ∧ Hid (Chg (atB w4.heap.size) E wl)) (fun _ lv _ => (intOf lv).toNat)
    case atStart => exact ⟨0, ks, [], A5, none, c5, 0, by omega, by first | rfl | simp, rfl, hkl, by simp, HZ, Lib.hid ⟨HKI.out, fun q h => by simpa using HK2.out q h⟩, Lib.hid (Tri.start HRX.out HKN), P2.out.1, HC0, P2.out.2, Lib.hid (Chg.refl _ _)⟩
    case round =>
      rename World => Wl
      obtain ⟨d, kj, L, AK, AS, cK, cS, hd8, rfl, rfl, hkj, hLl, HSD, HKJ, HTR, c2, HC, cf, HCl⟩ := hrel
      have hEl := HCl.out.size
      by_cases hd : d < 8
      rotate_left
      · obtain rfl : d = 8 := by omega
        have HLZ : L = Z := HSD.out
        subst HLZ
        obtain ⟨hbW, hbw, -, -, -⟩ := HFE.out Wl HCl.out
        obtain ⟨z0, z1, z2, zf⟩ := HZW.out Wl hbW
        obtain ⟨c0, c1⟩ := HC.out
        have HBw2 := Lib.hid hbw
        have hsl := hbw.size
        clear hbW hbw
        have hz8 : decide ((0 : Int) < 8 - ((8 : Nat) : Int)) = false := by decide
        go_wp2
        refine bodyPost_ret (v := .tuple #[.agg #[.slice A4 names.length c4, .slice AB ks.length cB, .slice AS L.length cS], .bool true]) (by simp [results, Tryd.results35, go_sem, *]) rfl ?_
        have hn0 : ∀ o : Nat, ¬ rng w1.heap.size w4.heap.size (⟨w.heap.size, o, none⟩ : Addr).block := fun o h => by have h1 := h.1; simp only at h1; omega
        have hn1 : ∀ o : Nat, ¬ rng w5.heap.size F1.heap.size (⟨w.heap.size, o, none⟩ : Addr).block := fun o h => by have h1 := h.1; simp only at h1; omega
        have hn2 : ∀ o : Nat, ¬ rng E.heap.size Wl.heap.size (⟨w.heap.size, o, none⟩ : Addr).block := fun o h => by have h1 := h.1; simp only at h1; omega
        have t0 := Row.chg HRN.out HCl.out (fun b h1 h2 => by have h3 : b = w4.heap.size := h2; have h4 := h1.2; omega)
        have t1 := Row.chg HRB.out HCl.out (fun b h1 h2 => by have h3 : b = w4.heap.size := h2; have h4 := h1.1; omega)
        have t2 := to_rng HTR.out.sides
        exact PmRes.mk HE.out rfl HLB.out.symm rfl O4.out.le O4.out.cm (((t0.setC (hn0 0) _).setC (hn0 1) _).setC (hn0 2) _) HL1.out.1 HL1.out.2 (((t1.setC (hn1 0) _).setC (hn1 1) _).setC (hn1 2) _) HTR.out.ls HTR.out.ms (((t2.setC (hn2 0) _).setC (hn2 1) _).setC (hn2 2) _) (fun b h1 h2 => by have := h1.2; have := h2.1; omega) (fun b h1 h2 => by have := h1.2; have := h2.1; omega) (fun b h1 h2 => by have := h1.2; have := h2.1; omega) (fun b h => by have := h.1; have := h.2; unfold rng; simp; omega) (fun b h => by have := h.1; have := h.2; unfold rng; simp; omega) (fun b h => by have := h.1; have := h.2; unfold rng; simp; omega) (Below.setCell (Below.setCell (Below.setCell HBw2.out (Nat.le_refl _) _) (Nat.le_refl _) _) (Nat.le_refl _) _)
      obtain ⟨m, hm⟩ : ∃ m, 8 - d = m + 1 := ⟨8 - d - 1, by omega⟩
      have HSD2 : Hid (sidesMany n xs m (d + 1) (aboveU kj) (L ++ sidesM (fun p => nodeD n d p xs) (lone kj) kj kj.length) = Z) := Lib.hid (by have h9 := HSD.out; rw [hm] at h9; exact h9)
      have HIN := Lib.hid HKJ.out.1
      have HKR : Hid (∀ q ∈ kj, q < 2 ^ (m + 1)) := Lib.hid (fun q h => by have h9 := HKJ.out.2 q h; rw [hm] at h9; exact h9)
      have HM := Lib.hid hm
      have hge : (0 : Int) < 8 - (d : Int) := by omega
      have hged : decide ((0 : Int) < 8 - (d : Int)) = true := decide_eq_true hge
      have hgd : (d : Int) < 8 := by omega
      have hgdd : decide ((d : Int) < 8) = true := decide_eq_true hgd
      have hwd : IntKind.i64.wrap (8 - (d : Int) - 1) = 8 - ((d : Int) + 1) := by rw [IntWalk.i64_in _ (by omega)]; omega
      clear hm HSD HKJ
      go_wp2_with (fail)
      go_loopw [14] (fun iv wi => ∃ (k : Nat) (L1 : List ByteArray) (AS1 : Option Addr) (cS1 : Nat), k ≤ kj.length ∧ iv = .int .i64 k ∧ L1.length ≤ 8 * d + k ∧ Hid (L1 = L ++ sidesM (fun p => nodeD n d p xs) (lone kj) kj k) ∧ Hid (Tri E.heap.size w4.heap.size wi AK cK (castL kj) none 0 [] AS1 cS1 L1) ∧ wi.cell? ⟨w4.heap.size, 2, none⟩ = some (.slice AS1 L1.length cS1) ∧ Hid (wi.cell? ⟨w4.heap.size, 0, none⟩ = some (.slice A4 names.length c4) ∧ wi.cell? ⟨w4.heap.size, 1, none⟩ = some (.slice AB ks.length cB)) ∧ (∀ o, wi.frozen? ⟨w4.heap.size, o, none⟩ = false) ∧ Hid (Chg (atB w4.heap.size) E wi)) (fun iv _ => kj.length - (intOf iv).toNat)
      case atStart => exact ⟨0, L, AS, cS, Nat.zero_le _, rfl, by omega, Lib.hid (by simp [sidesM]), HTR, c2, HC, cf, HCl⟩
      case round =>
        clear c2 cf HC HCl HTR
        obtain ⟨k, L1, AS1, cS1, hk, rfl, hL1, HL1_, HTR, c2, HC, cf, HCi⟩ := hrel
        have hEr := HCi.out.size
        have hmE : w4.heap.size < E.heap.size := by omega
        obtain ⟨K, hK⟩ := HTR.out.known
        by_cases hlt : k < kj.length
        rotate_left
        · obtain rfl : k = kj.length := by omega
          have HUR := Lib.hid (above_pow HKR.out)
          have HUL := above_le kj
          rw [← HL1_.out] at HSD2
          have HUI : Hid (Inc (aboveU kj)) := Lib.hid (above_inc HIN.out)
          have HAB := Lib.hid (spec_l26Above wr kj (fun q hq => pow_256 (by have := HM.out; omega) (HKR.out q hq)) AK cK K hK (by omega))
          clear hK
          go_wp2_with (go_at_call 83; refine HAB.out.mono ?_; rintro e6 w6 ⟨A6, c6, rfl, o6⟩; have O6 := Lib.hid o6; have hb6 := o6.bl; clear o6; simp only [castL_len])
          go_roundw
          case rel => exact ⟨d + 1, aboveU kj, L1, A6, AS1, c6, cS1, hd, by go_num, rfl, by omega, by omega, Lib.hid (by rw [show 8 - (d + 1) = m by have := HM.out; omega]; exact HSD2.out), Lib.hid ⟨HUI.out, fun q h => by rw [show 8 - (d + 1) = m by have := HM.out; omega]; exact HUR.out q h⟩, Lib.hid (HTR.out.fresh hmE hEr O6.out), (hb6.cell (p := ⟨w4.heap.size, 2, none⟩) (by show w4.heap.size < _; omega)).trans c2, Lib.hid ⟨(hb6.cell (p := ⟨w4.heap.size, 0, none⟩) (by show w4.heap.size < _; omega)).trans HC.out.1, (hb6.cell (p := ⟨w4.heap.size, 1, none⟩) (by show w4.heap.size < _; omega)).trans HC.out.2⟩, fun o => (hb6.frozen (p := ⟨w4.heap.size, o, none⟩) (by show w4.heap.size < _; omega)).trans (cf o), Lib.hid (HCi.out.below hb6 hEr)⟩
          case measure => simp [intOf]; omega
        obtain ⟨hbW, hbw, hrs, hbe, hem⟩ := HFE.out wr HCi.out
        have HNC := Lib.hid (fun r hr => spec_l10Node n hn d hd8 wr.drew r hr xs HOK.out A7 c7 _ (Row.later hrs ((Below.refl _ _).drew)) bE hbe hem)
        have HLI := Lib.hid (fun v => spec_l26In wr (castL kj) AK cK K hK (by rw [castL_len]; omega) v)
        rw [castL_len] at HLI
        clear hbW hbw hrs hbe hem
        obtain ⟨c0, c1⟩ := HC.out
        have hmr2 : w4.heap.size < wr.heap.size := by omega
        obtain ⟨b1, o1, rfl, hl1, f0, i0⟩ := Row.int hK (i := k) (by rw [castL_len]; exact hlt)
        clear hK
        rw [castL_at hlt] at f0 i0
        have hp2 : kj.getD k 0 < 2 ^ (m + 1) := HKR.out _ (by rw [getD_ hlt]; exact List.getElem_mem hlt)
        have HLE := Lib.hid (lone_eq HIN.out hlt)
        have HSM2 : Hid (L ++ sidesM (fun p => nodeD n d p xs) (lone kj) kj (k + 1) = if lone kj k = true then L1 ++ [nodeD n d (kj.getD k 0 ^^^ 1) xs] else L1) := Lib.hid (by rw [HL1_.out]; show L ++ (if lone kj k = true then _ ++ [_] else _) = _; split <;> simp)
        obtain ⟨p, hp⟩ : ∃ p, kj.getD k 0 = p := ⟨_, rfl⟩
        rw [hp] at f0 i0 hp2 HLE HSM2
        clear hp
        have hp256 : p < 256 := pow_256 (by have := HM.out; omega) hp2
        have hx1 := xor1 hp256
        have hr2 := xor_pow hp2
        rw [← HM.out] at hr2
        obtain ⟨r, hr⟩ : ∃ r, p ^^^ 1 = r := ⟨_, rfl⟩
        rw [hr] at HLE HSM2 hx1 hr2
        clear hr
        have HLI2 := Lib.hid (HLI.out (r : Int))
        simp only [castL_mem] at HLI2
        obtain ⟨ln, hln⟩ : ∃ b, lone kj k = b := ⟨_, rfl⟩
        rw [hln] at HLE HSM2
        have hdm : decide (r ∈ kj) = !ln := by rw [HLE.out]; simp
        rw [hdm] at HLI2
        clear hln hdm HLI HLE
        have HNC2 := Lib.hid (HNC.out r hr2)
        have hnm := nodeD_max n d r xs
        obtain ⟨nd, hnd⟩ : ∃ s, nodeD n d r xs = s := ⟨_, rfl⟩
        rw [hnd] at HNC2 HSM2 hnm
        clear hnd HNC
        have hki : (k : Int) < (kj.length : Int) := by omega
        have hk00 : (0 : Int) ≤ (k : Int) := by omega
        have hk1 : IntKind.i64.wrap ((k : Int) + 1) = (k : Int) + 1 := IntWalk.i64_in _ (by omega)
        go_upto_if 73 with (go_at_call 91; refine HLI2.out.mono ?_; rintro e6 w6 ⟨rfl, rfl⟩)
        cases ln
        · go_wp2
          go_roundw
          case rel => exact ⟨k + 1, L1, AS1, cS1, hlt, by go_num, by omega, Lib.hid (by rw [HSM2.out]; simp), HTR, c2, HC, cf, HCi⟩
          case measure => simp [intOf]; omega
        · have hlim : L1.length ≤ 2000000000 := by omega
          go_wp2_with (fail)
          go_region_law (first | (go_simp; go_at_call 92; refine HNC2.out.mono ?_; rintro e6 w6 ⟨rfl, hb6'⟩; have hb6 := Below.viad hb6'; have hs6 := hb6.size; have q2 := (hb6.cell (p := ⟨w4.heap.size, 2, none⟩) hmr2).trans c2; have q2a := (fun o => (cell_alloc q2 : (w6.alloc o).cell? ⟨w4.heap.size, 2, none⟩ = some (.slice AS1 L1.length cS1))); clear hb6') | (refine step_triS rfl _ _ rfl rfl rfl ((HTR.out.later hb6).alloc _) ?hB rfl (src1 hnm rfl rfl) hlim ?_; (case hB => rw [World.size_alloc]; omega); intro A7_ c7_ w7_ t7 hb7; have T7 := Lib.hid t7; have HB7 := Lib.hid (((hb6.alloc hs6 _).mono hEr).trans hb7); have p7 := (HB7.out.cell (p := ⟨w4.heap.size, 2, none⟩) hmE).trans c2; have f7 := fun o => (HB7.out.frozen (p := ⟨w4.heap.size, o, none⟩) hmE).trans (cf o); clear t7 hb7))
          all_goals (go_wp2_with (fail))
          all_goals (go_roundw)
          all_goals (first | (simp [intOf]; omega) | exact ⟨k + 1, L1 ++ [nd], A7_, c7_, hlt, by go_num, by rw [List.length_append]; show L1.length + 1 ≤ _; omega, Lib.hid (by rw [HSM2.out]; simp), Lib.hid (T7.out.setC hmE _ _), by rw [List.length_append]; exact World.cell?_setCell_same w7_ _ _ p7, Lib.hid ⟨(World.cell?_setCell_other _ _ _ _ (ne_off (by decide))).trans ((HB7.out.cell (p := ⟨w4.heap.size, 0, none⟩) hmE).trans c0), (World.cell?_setCell_other _ _ _ _ (ne_off (by decide))).trans ((HB7.out.cell (p := ⟨w4.heap.size, 1, none⟩) hmE).trans c1)⟩, fun o => by simpa using f7 o, Lib.hid ((HCi.out.below HB7.out (Nat.le_refl _)).setCell (Or.inl (show atB w4.heap.size w4.heap.size from rfl)) _)⟩)
end Go.Proofs.YtojbehmbeoemgaaDoor

set_option linter.unusedVariables false
set_option linter.unusedSimpArgs false
namespace Go.Proofs.YtojbehmbeoemgaaDoor
open Go.RowKit Lay Mk
theorem sidesM_len (f : Nat → ByteArray) (q : Nat → Bool) (ks : List Nat) : ∀ k, (sidesM f q ks k).length ≤ k
  | 0 => Nat.le_refl _
  | k + 1 => by
    have ih := sidesM_len f q ks k
    unfold sidesM
    split
    · rw [List.length_append]; show _ + 1 ≤ _; omega
    · omega
theorem sidesMany_len (n : Int) (xs : List Leaf) : ∀ (m d : Nat) (ks : List Nat) (acc : List ByteArray), ks.length ≤ 8 → (sidesMany n xs m d ks acc).length ≤ acc.length + 8 * m
  | 0, _, _, _, _ => Nat.le_refl _
  | m + 1, d, ks, acc, h => by
    have h1 := sidesMany_len n xs m (d + 1) (aboveU ks) (acc ++ sidesM (fun p => nodeD n d p xs) (lone ks) ks ks.length) (Nat.le_trans (above_le ks) h)
    have h2 := sidesM_len (fun p => nodeD n d p xs) (lone ks) ks ks.length
    rw [List.length_append] at h1
    show (sidesMany n xs m (d + 1) (aboveU ks) (acc ++ sidesM (fun p => nodeD n d p xs) (lone ks) ks ks.length)).length ≤ _
    omega
theorem cnL_str : ∀ xs : List ByteArray, cnL xs = xs.length
  | [] => rfl
  | x :: xs => by
    have ih := cnL_str xs
    simp only [cnL, List.map_cons, List.sum_cons, List.length_cons] at ih ⊢
    rw [ih, show cn x = 1 from rfl]; omega
theorem cnL_filt (q : Leaf → Bool) : ∀ xs : List Leaf, cnL (xs.filter q) ≤ cnL xs
  | [] => Nat.le_refl _
  | x :: xs => by
    have ih := cnL_filt q xs
    rw [List.filter_cons]
    split
    · simp only [cnL, List.map_cons, List.sum_cons] at ih ⊢; omega
    · simp only [cnL, List.map_cons, List.sum_cons] at ih ⊢; omega
theorem cnL_rows (f : Nat → List Leaf) (B : Nat) (h : ∀ k, cnL (f k) ≤ B) : ∀ ks : List Nat, cnL (ks.map f) ≤ ks.length * B
  | [] => Nat.zero_le _
  | k :: ks => by
    have ih := cnL_rows f B h ks
    have h1 := h k
    have h2 : cn (f k) = cnL (f k) := rfl
    simp only [cnL, List.map_cons, List.sum_cons, List.length_cons] at ih h1 h2 ⊢
    rw [Nat.succ_mul]; omega
theorem cnb_proveMany (xs : List Leaf) (names : List ByteArray) (n : Int) (hz : szL xs ≤ 1048576) (hzn : szL names ≤ 1048576) : (proveMany xs names n).1.ct ≤ 1000000000000 := by
  cases h : proveForm xs names n
  · rw [pm_no h]; exact Nat.zero_le _
  · rw [pm_yes h]
    have h8 : names.length ≤ 8 := by
      unfold proveForm namesFit at h
      simp only [Bool.and_eq_true] at h
      have h9 : 1 ≤ (names.length : Int) ∧ (names.length : Int) ≤ 8 := by simpa [inB] using h.2.1.2
      omega
    have hk : (idxN names).length ≤ 8 := Nat.le_trans (idxN_le names) h8
    have h1 := cnb_StringS names
    have h2 := cnL_rows (fun k : Nat => bucketOf xs (k : Int)) 2097152 (fun k => Nat.le_trans (cnL_filt _ xs) (Nat.le_trans (cnb_LeafS xs) (by omega))) (idxN names)
    have h3 := sidesMany_len n xs 8 0 (idxN names) [] hk
    have h4 := cnL_str (sidesMany n xs 8 0 (idxN names) [])
    have h5 : (idxN names).length * 2097152 ≤ 8 * 2097152 := Nat.mul_le_mul_right _ hk
    have h6 : ([] : List ByteArray).length = 0 := rfl
    show cnL names + cnL ((idxN names).map (fun k : Nat => bucketOf xs (k : Int))) + cnL (sidesMany n xs 8 0 (idxN names) []) ≤ _
    omega
end Go.Proofs.YtojbehmbeoemgaaDoor
