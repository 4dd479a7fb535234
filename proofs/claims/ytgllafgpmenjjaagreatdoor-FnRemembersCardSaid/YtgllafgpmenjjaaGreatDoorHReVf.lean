/- A part of the proof: what the laws need of it. -/
import Derived.Test.YtgllafgpmenjjaaGreatDoorHReL26xVd
set_option linter.unusedVariables false
set_option linter.unusedSimpArgs false
set_option linter.unusedVariables false
set_option linter.unusedSimpArgs false
namespace Go.Proofs.YtgllafgpmenjjaaGreatDoor
open Go.RowKit Lay Mk
theorem in_idx2 {n : Int} {l : Nat} (h : inB n 0 ((l : Int) - 1) = true) : ∃ k : Nat, n = k ∧ k < l := by
  have h1 : 0 ≤ n ∧ n ≤ (l : Int) - 1 := by simpa [inB] using h
  exact ⟨n.toNat, by omega, by omega⟩
set_option maxRecDepth 20000 in set_option maxHeartbeats 16000000 in
theorem impl_Verify (w : World) (t : Trust) (cs : List Value) (S : Blks) (hx : rd false w cs t S) (hz : t.sz ≤ 1048576) (house : Int) (hh : I64 house) (name : ByteArray) (hn : name.size ≤ 1048576) (epoch : Int) (hep : I64 epoch) (x : Whole) (ct : List Value) (S2 : Blks) (hy : rd false w ct x S2) (hzx : WSmall x) (hT : Tabs w) : Calls Tryz.prog 53 #[.agg cs.toArray, .int .i64 house, .string name, .int .i64 epoch, .agg ct.toArray] w fun e w' => e = .returned (.tuple #[.string (verify t house name epoch x).1, .bool (verify t house name epoch x).2.1, .int .i64 (verify t house name epoch x).2.2]) ∧ Below w.heap.size w w' := by
  have HT := Lib.hid hT
  clear hT
  have hl := trust_sz hz
  obtain ⟨hzp, hlt, hzs, hls⟩ := id hzx
  have HWF := Lib.hid (fun W (h : Below w.heap.size w W) => impl_wholeForm W t cs S (Lay.later hx h) hz house hh name hn x ct S2 (Lay.later hy h) hzx (HT.out.later h))
  obtain ⟨A0, k0, S0, rfl, fk, -, -, -, r0, -⟩ := Trust.open hx
  obtain ⟨B0, j0, U0, B1, j1, U1, B2, j2, U2, B3, j3, U3, B4, j4, U4, B5, j5, U5, B6, j6, U6, rfl, g0, g1, g2, g3, g4, y0, y1, q0, y2, y3, y4, q1, y5, -, -, q2, -, v0, v1, p0, v2, v3, v4, p1, v5, v6, v7, p2, v8, -, -, q6, -⟩ := Whole.open hy
  have HPR := Lib.hid (Proof.mk' (x := x.proof) y0 y1 q0 y2 y3 y4 q1 y5 (fun h => by simp at h))
  have HSE := Lib.hid (Seal.mk' (x := x.seal_) g0 g1 g2 g3 g4 v0 v1 p0 v2 v3 v4 p1 v5 v6 v7 p2 v8 (fun h => by simp at h))
  have HPH := Lib.hid (fun W (h : Below w.heap.size w W) => impl_ProofHash W name hn x.proof _ S2 (Lay.later HPR.out h) hzp 16 (by unfold I64; omega) (HT.out.later h))
  have HPS := Lib.hid (fun W (h : Below w.heap.size w W) => impl_ProofSays W name (by unfold maxLen; omega) x.proof _ S2 (Lay.later HPR.out h) hzp)
  have HSO := Lib.hid (fun (root : ByteArray) W (h : Below w.heap.size w W) => impl_SealOk W root x.seal_ _ S2 (Lay.later HSE.out h) (HT.out.later h))
  have HIX := Lib.hid (fun W (h : Below w.heap.size w W) => impl_IndexOf W name (by omega) (HT.out.later h))
  have HFU := Lib.hid (fun W (h : Below w.heap.size w W) => impl_FoldUp W (proofHash name x.proof 16) (ml (hash_le name x.proof 16) (by omega)) (indexOf name) (indexOf_lt name) t.k fk x.tops B2 j2 U2 (Row.later q2 h) (by omega) 16 (by unfold I64; omega) (HT.out.later h))
  have HV1 := Lib.hid (fun h => ver_1 (t := t) (house := house) (name := name) (epoch := epoch) (x := x) h)
  have HV2 := Lib.hid (fun h h2 => ver_2 (t := t) (house := house) (name := name) (epoch := epoch) (x := x) h h2)
  have HV3 := Lib.hid (fun h h2 h3 h4 => ver_3 (t := t) (house := house) (name := name) (epoch := epoch) (x := x) h h2 h3 h4)
  have HV4 := Lib.hid (fun h h2 h3 h4 h5 => ver_4 (t := t) (house := house) (name := name) (epoch := epoch) (x := x) h h2 h3 h4 h5)
  have HV5 := Lib.hid (fun h h2 h3 h4 h5 h6 => ver_5 (t := t) (house := house) (name := name) (epoch := epoch) (x := x) h h2 h3 h4 h5 h6)
  have HV0 := Lib.hid (fun h h2 h3 h4 h5 h6 => ver_0 (t := t) (house := house) (name := name) (epoch := epoch) (x := x) h h2 h3 h4 h5 h6)
  have HFF := Lib.hid (fun h => form_facts (t := t) (house := house) (name := name) (x := x) h)
  have HRU : Hid (rootUp t name x = foldUp 16 (proofHash name x.proof 16) (indexOf name) t.k x.tops) := Lib.hid rfl
  obtain ⟨R, hR⟩ : ∃ R, verify t house name epoch x = R := ⟨_, rfl⟩
  rw [hR] at HV1 HV2 HV3 HV4 HV5 HV0 ⊢
  obtain ⟨RU, hRU⟩ : ∃ R, rootUp t name x = R := ⟨_, rfl⟩
  rw [hRU] at HRU HV4 HV5 HV0
  rw [← HRU.out] at HFU
  obtain ⟨z1, hz1⟩ : ∃ z, wholeForm t house name x = z := ⟨_, rfl⟩
  rw [hz1] at HWF HV1 HV2 HV3 HV4 HV5 HV0 HFF
  obtain ⟨ph, hph⟩ : ∃ z, proofHash name x.proof 16 = z := ⟨_, rfl⟩
  rw [hph] at HPH HFU
  obtain ⟨ix, hix⟩ : ∃ z, indexOf name = z := ⟨_, rfl⟩
  rw [hix] at HIX HFU
  obtain ⟨lg, hlg⟩ : ∃ z, leafGet x.proof.bucket name = z := ⟨_, rfl⟩
  rw [hlg] at HPS HV0
  clear hR hRU HRU hz1 hph hix hlg hx hy hz hzx y0 y1 y2 y3 y4 y5 q0 q1 q2 v0 v1 v2 v3 v4 v5 v6 v7 v8 p0 p1 p2 g0 g1 g4 HPR HSE hzp hlt
  simp only [Trust.cs, Whole.cs, Proof.cs, Seal.cs] at HWF HPH HPS HSO ⊢
  have hWd : ∀ W, W = ((w.alloc (.cells #[.slice A0 t.roots.length k0, .int .i64 t.k, .int .i64 t.need] 51)).alloc (.cells #[.slice B0 x.proof.bucket.length j0, .slice B1 x.proof.sides.length j1, .slice B2 x.tops.length j2, .int .i64 x.seal_.head.house, .int .i64 x.seal_.head.epoch, .string x.seal_.head.root, .string x.seal_.head.prev, .int .i64 x.seal_.sig.at_, .slice B3 x.seal_.sig.open_.length j3, .slice B4 x.seal_.sig.shut.length j4, .slice B5 x.seal_.sig.sides.length j5, .slice B6 x.stamps.length j6] 64)).alloc (.cells #[.int .i64 x.seal_.head.house, .int .i64 x.seal_.head.epoch, .string x.seal_.head.root, .string x.seal_.head.prev] 58) → Below w.heap.size w W ∧ W.cell? ⟨w.heap.size, 0, none⟩ = some (.slice A0 t.roots.length k0) ∧ W.cell? ⟨w.heap.size, 1, none⟩ = some (.int .i64 t.k) ∧ W.cell? ⟨w.heap.size, 2, none⟩ = some (.int .i64 t.need) ∧ W.cell? ⟨w.heap.size + 1, 0, none⟩ = some (.slice B0 x.proof.bucket.length j0) ∧ W.cell? ⟨w.heap.size + 1, 1, none⟩ = some (.slice B1 x.proof.sides.length j1) ∧ W.cell? ⟨w.heap.size + 1, 2, none⟩ = some (.slice B2 x.tops.length j2) ∧ W.cell? ⟨w.heap.size + 1, 3, none⟩ = some (.int .i64 x.seal_.head.house) ∧ W.cell? ⟨w.heap.size + 1, 4, none⟩ = some (.int .i64 x.seal_.head.epoch) ∧ W.cell? ⟨w.heap.size + 1, 5, none⟩ = some (.string x.seal_.head.root) ∧ W.cell? ⟨w.heap.size + 1, 6, none⟩ = some (.string x.seal_.head.prev) ∧ W.cell? ⟨w.heap.size + 1, 7, none⟩ = some (.int .i64 x.seal_.sig.at_) ∧ W.cell? ⟨w.heap.size + 1, 8, none⟩ = some (.slice B3 x.seal_.sig.open_.length j3) ∧ W.cell? ⟨w.heap.size + 1, 9, none⟩ = some (.slice B4 x.seal_.sig.shut.length j4) ∧ W.cell? ⟨w.heap.size + 1, 10, none⟩ = some (.slice B5 x.seal_.sig.sides.length j5) ∧ W.cell? ⟨w.heap.size + 1, 11, none⟩ = some (.slice B6 x.stamps.length j6) ∧ W.cell? ⟨w.heap.size + 1 + 1, 0, none⟩ = some (.int .i64 x.seal_.head.house) ∧ W.cell? ⟨w.heap.size + 1 + 1, 1, none⟩ = some (.int .i64 x.seal_.head.epoch) ∧ W.cell? ⟨w.heap.size + 1 + 1, 2, none⟩ = some (.string x.seal_.head.root) ∧ W.cell? ⟨w.heap.size + 1 + 1, 3, none⟩ = some (.string x.seal_.head.prev) ∧ w.heap.size + 1 + 1 < W.heap.size := by
    rintro W rfl
    refine ⟨((((Below.refl _ _).alloc (Nat.le_refl _) _).alloc (by simp) _).alloc (by simp; omega) _), cell_alloc (cell_alloc (box_cell _ _ _ _ _ rfl)), cell_alloc (cell_alloc (box_cell _ _ _ _ _ rfl)), cell_alloc (cell_alloc (box_cell _ _ _ _ _ rfl)), ?_, ?_, ?_, ?_, ?_, ?_, ?_, ?_, ?_, ?_, ?_, ?_, ?_, ?_, ?_, ?_, by simp⟩
    · rw [show w.heap.size + 1 = (w.alloc (.cells #[.slice A0 t.roots.length k0, .int .i64 t.k, .int .i64 t.need] 51)).heap.size from by simp]; exact cell_alloc (box_cell _ _ _ _ _ rfl)
    · rw [show w.heap.size + 1 = (w.alloc (.cells #[.slice A0 t.roots.length k0, .int .i64 t.k, .int .i64 t.need] 51)).heap.size from by simp]; exact cell_alloc (box_cell _ _ _ _ _ rfl)
    · rw [show w.heap.size + 1 = (w.alloc (.cells #[.slice A0 t.roots.length k0, .int .i64 t.k, .int .i64 t.need] 51)).heap.size from by simp]; exact cell_alloc (box_cell _ _ _ _ _ rfl)
    · rw [show w.heap.size + 1 = (w.alloc (.cells #[.slice A0 t.roots.length k0, .int .i64 t.k, .int .i64 t.need] 51)).heap.size from by simp]; exact cell_alloc (box_cell _ _ _ _ _ rfl)
    · rw [show w.heap.size + 1 = (w.alloc (.cells #[.slice A0 t.roots.length k0, .int .i64 t.k, .int .i64 t.need] 51)).heap.size from by simp]; exact cell_alloc (box_cell _ _ _ _ _ rfl)
    · rw [show w.heap.size + 1 = (w.alloc (.cells #[.slice A0 t.roots.length k0, .int .i64 t.k, .int .i64 t.need] 51)).heap.size from by simp]; exact cell_alloc (box_cell _ _ _ _ _ rfl)
    · rw [show w.heap.size + 1 = (w.alloc (.cells #[.slice A0 t.roots.length k0, .int .i64 t.k, .int .i64 t.need] 51)).heap.size from by simp]; exact cell_alloc (box_cell _ _ _ _ _ rfl)
    · rw [show w.heap.size + 1 = (w.alloc (.cells #[.slice A0 t.roots.length k0, .int .i64 t.k, .int .i64 t.need] 51)).heap.size from by simp]; exact cell_alloc (box_cell _ _ _ _ _ rfl)
    · rw [show w.heap.size + 1 = (w.alloc (.cells #[.slice A0 t.roots.length k0, .int .i64 t.k, .int .i64 t.need] 51)).heap.size from by simp]; exact cell_alloc (box_cell _ _ _ _ _ rfl)
    · rw [show w.heap.size + 1 = (w.alloc (.cells #[.slice A0 t.roots.length k0, .int .i64 t.k, .int .i64 t.need] 51)).heap.size from by simp]; exact cell_alloc (box_cell _ _ _ _ _ rfl)
    · rw [show w.heap.size + 1 = (w.alloc (.cells #[.slice A0 t.roots.length k0, .int .i64 t.k, .int .i64 t.need] 51)).heap.size from by simp]; exact cell_alloc (box_cell _ _ _ _ _ rfl)
    · rw [show w.heap.size + 1 = (w.alloc (.cells #[.slice A0 t.roots.length k0, .int .i64 t.k, .int .i64 t.need] 51)).heap.size from by simp]; exact cell_alloc (box_cell _ _ _ _ _ rfl)
    · rw [show w.heap.size + 1 + 1 = ((w.alloc (.cells #[.slice A0 t.roots.length k0, .int .i64 t.k, .int .i64 t.need] 51)).alloc (.cells #[.slice B0 x.proof.bucket.length j0, .slice B1 x.proof.sides.length j1, .slice B2 x.tops.length j2, .int .i64 x.seal_.head.house, .int .i64 x.seal_.head.epoch, .string x.seal_.head.root, .string x.seal_.head.prev, .int .i64 x.seal_.sig.at_, .slice B3 x.seal_.sig.open_.length j3, .slice B4 x.seal_.sig.shut.length j4, .slice B5 x.seal_.sig.sides.length j5, .slice B6 x.stamps.length j6] 64)).heap.size from by simp]; exact box_cell _ _ _ _ _ rfl
    · rw [show w.heap.size + 1 + 1 = ((w.alloc (.cells #[.slice A0 t.roots.length k0, .int .i64 t.k, .int .i64 t.need] 51)).alloc (.cells #[.slice B0 x.proof.bucket.length j0, .slice B1 x.proof.sides.length j1, .slice B2 x.tops.length j2, .int .i64 x.seal_.head.house, .int .i64 x.seal_.head.epoch, .string x.seal_.head.root, .string x.seal_.head.prev, .int .i64 x.seal_.sig.at_, .slice B3 x.seal_.sig.open_.length j3, .slice B4 x.seal_.sig.shut.length j4, .slice B5 x.seal_.sig.sides.length j5, .slice B6 x.stamps.length j6] 64)).heap.size from by simp]; exact box_cell _ _ _ _ _ rfl
    · rw [show w.heap.size + 1 + 1 = ((w.alloc (.cells #[.slice A0 t.roots.length k0, .int .i64 t.k, .int .i64 t.need] 51)).alloc (.cells #[.slice B0 x.proof.bucket.length j0, .slice B1 x.proof.sides.length j1, .slice B2 x.tops.length j2, .int .i64 x.seal_.head.house, .int .i64 x.seal_.head.epoch, .string x.seal_.head.root, .string x.seal_.head.prev, .int .i64 x.seal_.sig.at_, .slice B3 x.seal_.sig.open_.length j3, .slice B4 x.seal_.sig.shut.length j4, .slice B5 x.seal_.sig.sides.length j5, .slice B6 x.stamps.length j6] 64)).heap.size from by simp]; exact box_cell _ _ _ _ _ rfl
    · rw [show w.heap.size + 1 + 1 = ((w.alloc (.cells #[.slice A0 t.roots.length k0, .int .i64 t.k, .int .i64 t.need] 51)).alloc (.cells #[.slice B0 x.proof.bucket.length j0, .slice B1 x.proof.sides.length j1, .slice B2 x.tops.length j2, .int .i64 x.seal_.head.house, .int .i64 x.seal_.head.epoch, .string x.seal_.head.root, .string x.seal_.head.prev, .int .i64 x.seal_.sig.at_, .slice B3 x.seal_.sig.open_.length j3, .slice B4 x.seal_.sig.shut.length j4, .slice B5 x.seal_.sig.sides.length j5, .slice B6 x.stamps.length j6] 64)).heap.size from by simp]; exact box_cell _ _ _ _ _ rfl
  go_enter Tryz.func53, Tryz.ntmps53
  go_wp2_with (fail)
  obtain ⟨W, hW⟩ : ∃ W, ((w.alloc (.cells #[.slice A0 t.roots.length k0, .int .i64 t.k, .int .i64 t.need] 51)).alloc (.cells #[.slice B0 x.proof.bucket.length j0, .slice B1 x.proof.sides.length j1, .slice B2 x.tops.length j2, .int .i64 x.seal_.head.house, .int .i64 x.seal_.head.epoch, .string x.seal_.head.root, .string x.seal_.head.prev, .int .i64 x.seal_.sig.at_, .slice B3 x.seal_.sig.open_.length j3, .slice B4 x.seal_.sig.shut.length j4, .slice B5 x.seal_.sig.sides.length j5, .slice B6 x.stamps.length j6] 64)).alloc (.cells #[.int .i64 x.seal_.head.house, .int .i64 x.seal_.head.epoch, .string x.seal_.head.root, .string x.seal_.head.prev] 58) = W := ⟨_, rfl⟩
  rw [hW]
  obtain ⟨hBW, t0, t1, t2, x0, x1, x2, x3, x4, x5, x6, x7, x8, x9, x10, x11, h0, h1, h2, h3, hsz⟩ := hWd W hW.symm
  clear hW hWd
  refine (HWF.out _ hBW).mono ?_
  rintro e1 w1 ⟨rfl, hb1⟩
  have HB1 := Lib.hid (hBW.trans (hb1.mono hBW.size))
  replace t0 := (hb1.cell (p := ⟨w.heap.size, 0, none⟩) (by show w.heap.size < _; omega)).trans t0
  replace t1 := (hb1.cell (p := ⟨w.heap.size, 1, none⟩) (by show w.heap.size < _; omega)).trans t1
  replace t2 := (hb1.cell (p := ⟨w.heap.size, 2, none⟩) (by show w.heap.size < _; omega)).trans t2
  replace x0 := (hb1.cell (p := ⟨w.heap.size + 1, 0, none⟩) (by show w.heap.size + 1 < _; omega)).trans x0
  replace x1 := (hb1.cell (p := ⟨w.heap.size + 1, 1, none⟩) (by show w.heap.size + 1 < _; omega)).trans x1
  replace x2 := (hb1.cell (p := ⟨w.heap.size + 1, 2, none⟩) (by show w.heap.size + 1 < _; omega)).trans x2
  replace x3 := (hb1.cell (p := ⟨w.heap.size + 1, 3, none⟩) (by show w.heap.size + 1 < _; omega)).trans x3
  replace x4 := (hb1.cell (p := ⟨w.heap.size + 1, 4, none⟩) (by show w.heap.size + 1 < _; omega)).trans x4
  replace x5 := (hb1.cell (p := ⟨w.heap.size + 1, 5, none⟩) (by show w.heap.size + 1 < _; omega)).trans x5
  replace x6 := (hb1.cell (p := ⟨w.heap.size + 1, 6, none⟩) (by show w.heap.size + 1 < _; omega)).trans x6
  replace x7 := (hb1.cell (p := ⟨w.heap.size + 1, 7, none⟩) (by show w.heap.size + 1 < _; omega)).trans x7
  replace x8 := (hb1.cell (p := ⟨w.heap.size + 1, 8, none⟩) (by show w.heap.size + 1 < _; omega)).trans x8
  replace x9 := (hb1.cell (p := ⟨w.heap.size + 1, 9, none⟩) (by show w.heap.size + 1 < _; omega)).trans x9
  replace x10 := (hb1.cell (p := ⟨w.heap.size + 1, 10, none⟩) (by show w.heap.size + 1 < _; omega)).trans x10
  replace x11 := (hb1.cell (p := ⟨w.heap.size + 1, 11, none⟩) (by show w.heap.size + 1 < _; omega)).trans x11
  replace h0 := (hb1.cell (p := ⟨w.heap.size + 1 + 1, 0, none⟩) (by show w.heap.size + 1 + 1 < _; omega)).trans h0
  replace h1 := (hb1.cell (p := ⟨w.heap.size + 1 + 1, 1, none⟩) (by show w.heap.size + 1 + 1 < _; omega)).trans h1
  replace h2 := (hb1.cell (p := ⟨w.heap.size + 1 + 1, 2, none⟩) (by show w.heap.size + 1 + 1 < _; omega)).trans h2
  replace h3 := (hb1.cell (p := ⟨w.heap.size + 1 + 1, 3, none⟩) (by show w.heap.size + 1 + 1 < _; omega)).trans h3
  replace hsz := Nat.lt_of_lt_of_le hsz hb1.size
  clear hb1 hBW HWF
  cases z1
  · have HE := Lib.hid (HV1.out rfl)
    go_wp2
    go_ret3
    exact ⟨by rw [HE.out]; rfl, HB1.out⟩
  obtain ⟨⟨kh, hkh, hkl⟩, ⟨hk0, hk2⟩, ⟨hn0, hn2⟩, ⟨hr1, hr3⟩⟩ := HFF.out rfl
  have HGD := Lib.hid (getD_ltv hkl)
  subst hkh
  rw [Int.toNat_natCast, HGD.out] at HV3 HV4 HV5 HV0
  obtain ⟨b1, o1, rfl, hl1, rt, -⟩ := Row.str r0 hkl
  obtain ⟨root, hroot⟩ : ∃ r, t.roots[kh] = r := ⟨_, rfl⟩
  rw [hroot] at HV3 HV4 HV5 HV0 rt
  have rv := (HB1.out.cell (p := ⟨b1, o1 + kh, none⟩) hl1).trans rt
  have hl2 : b1 < w1.heap.size := Nat.lt_of_lt_of_le hl1 HB1.out.size
  clear hroot HGD HFF HV1 hh
  have hki : (kh : Int) < (t.roots.length : Int) := by omega
  have hk00 : (0 : Int) ≤ (kh : Int) := by omega
  by_cases c2 : x.seal_.head.house = (kh : Int)
  rotate_left
  · have HE := Lib.hid (HV2.out rfl (Or.inl c2))
    have hq : (x.seal_.head.house != (kh : Int)) = true := by rw [bne_iff_ne]; exact c2
    clear c2
    go_wp2
    go_ret3
    exact ⟨by rw [HE.out]; rfl, HB1.out⟩
  by_cases c3 : x.seal_.head.epoch = epoch
  rotate_left
  · have HE := Lib.hid (HV2.out rfl (Or.inr c3))
    have hq : (x.seal_.head.house != (kh : Int)) = false := by rw [bne_eq_false_iff_eq]; exact c2
    have hq2 : (x.seal_.head.epoch != epoch) = true := by rw [bne_iff_ne]; exact c3
    clear c2 c3
    go_wp2
    go_ret3
    exact ⟨by rw [HE.out]; rfl, HB1.out⟩
  have hq : (x.seal_.head.house != (kh : Int)) = false := by rw [bne_eq_false_iff_eq]; exact c2
  have hq2 : (x.seal_.head.epoch != epoch) = false := by rw [bne_eq_false_iff_eq]; exact c3
  have HV3b := Lib.hid (HV3.out rfl c2 c3)
  have HV4b := Lib.hid (HV4.out rfl c2 c3)
  have HV5b := Lib.hid (HV5.out rfl c2 c3)
  have HV0b := Lib.hid (HV0.out rfl c2 c3)
  clear c2 c3 HV2 HV3 HV4 HV5 HV0
  obtain ⟨z4, hz4⟩ : ∃ z, sealOk root x.seal_ = z := ⟨_, rfl⟩
  have HS4 := Lib.hid (fun W h => HSO.out root W h)
  rw [hz4] at HV3b HV4b HV5b HV0b HS4
  clear hz4 HSO
  go_wp2_with (fail)
  have HBQ := Lib.hid (show Below w.heap.size w w1 from HB1.out)
  cases z4
  · have Gt0 := Grown.cell t0
    have Gt1 := Grown.cell t1
    have Gt2 := Grown.cell t2
    have Gx0 := Grown.cell x0
    have Gx1 := Grown.cell x1
    have Gx2 := Grown.cell x2
    have Gx3 := Grown.cell x3
    have Gx4 := Grown.cell x4
    have Gx5 := Grown.cell x5
    have Gx6 := Grown.cell x6
    have Gx7 := Grown.cell x7
    have Gx8 := Grown.cell x8
    have Gx9 := Grown.cell x9
    have Gx10 := Grown.cell x10
    have Gx11 := Grown.cell x11
    have Gh0 := Grown.cell h0
    have Gh1 := Grown.cell h1
    have Gh2 := Grown.cell h2
    have Gh3 := Grown.cell h3
    have Grv := Grown.cell rv
    refine wp_region_grown (by kernel_rfl) (by kernel_rfl) ?_
    repeat (go_big_quiet_step (first | (go_at_call 54; exact grown_call (HS4.out _ (HBQ.out.trans ((Grown.ok _).mono HBQ.out.size))))))
    refine wpQuiet_nil ?_
    intro w5 hw_
    have hbn := grown_below hw_
    clear hw_ Gt0 Gt1 Gt2 Gx0 Gx1 Gx2 Gx3 Gx4 Gx5 Gx6 Gx7 Gx8 Gx9 Gx10 Gx11 Gh0 Gh1 Gh2 Gh3 Grv 
    have HE := Lib.hid (HV3b.out rfl)
    have HB5 := Lib.hid (HBQ.out.trans (hbn.mono HBQ.out.size))
    go_wp2
    go_ret3
    exact ⟨by rw [HE.out]; rfl, HB5.out⟩
  have Gt0 := Grown.cell t0
  have Gt1 := Grown.cell t1
  have Gt2 := Grown.cell t2
  have Gx0 := Grown.cell x0
  have Gx1 := Grown.cell x1
  have Gx2 := Grown.cell x2
  have Gx3 := Grown.cell x3
  have Gx4 := Grown.cell x4
  have Gx5 := Grown.cell x5
  have Gx6 := Grown.cell x6
  have Gx7 := Grown.cell x7
  have Gx8 := Grown.cell x8
  have Gx9 := Grown.cell x9
  have Gx10 := Grown.cell x10
  have Gx11 := Grown.cell x11
  have Gh0 := Grown.cell h0
  have Gh1 := Grown.cell h1
  have Gh2 := Grown.cell h2
  have Gh3 := Grown.cell h3
  have Grv := Grown.cell rv
  refine wp_region_grown (by kernel_rfl) (by kernel_rfl) ?_
  repeat (go_big_quiet_step (first | (go_at_call 54; exact grown_call (HS4.out _ (HBQ.out.trans ((Grown.ok _).mono HBQ.out.size))))))
  refine wpQuiet_nil ?_
  intro w5 hw_
  have hbn := grown_below hw_
  clear hw_ Gt0 Gt1 Gt2 Gx0 Gx1 Gx2 Gx3 Gx4 Gx5 Gx6 Gx7 Gx8 Gx9 Gx10 Gx11 Gh0 Gh1 Gh2 Gh3 Grv 
  have HB5 := Lib.hid (HBQ.out.trans (hbn.mono HBQ.out.size))
  replace t0 := (hbn.cell (p := ⟨w.heap.size, 0, none⟩) (by show w.heap.size < _; omega)).trans t0
  replace t1 := (hbn.cell (p := ⟨w.heap.size, 1, none⟩) (by show w.heap.size < _; omega)).trans t1
  replace t2 := (hbn.cell (p := ⟨w.heap.size, 2, none⟩) (by show w.heap.size < _; omega)).trans t2
  replace x0 := (hbn.cell (p := ⟨w.heap.size + 1, 0, none⟩) (by show w.heap.size + 1 < _; omega)).trans x0
  replace x1 := (hbn.cell (p := ⟨w.heap.size + 1, 1, none⟩) (by show w.heap.size + 1 < _; omega)).trans x1
  replace x2 := (hbn.cell (p := ⟨w.heap.size + 1, 2, none⟩) (by show w.heap.size + 1 < _; omega)).trans x2
  replace x3 := (hbn.cell (p := ⟨w.heap.size + 1, 3, none⟩) (by show w.heap.size + 1 < _; omega)).trans x3
  replace x4 := (hbn.cell (p := ⟨w.heap.size + 1, 4, none⟩) (by show w.heap.size + 1 < _; omega)).trans x4
  replace x5 := (hbn.cell (p := ⟨w.heap.size + 1, 5, none⟩) (by show w.heap.size + 1 < _; omega)).trans x5
  replace x6 := (hbn.cell (p := ⟨w.heap.size + 1, 6, none⟩) (by show w.heap.size + 1 < _; omega)).trans x6
  replace x7 := (hbn.cell (p := ⟨w.heap.size + 1, 7, none⟩) (by show w.heap.size + 1 < _; omega)).trans x7
  replace x8 := (hbn.cell (p := ⟨w.heap.size + 1, 8, none⟩) (by show w.heap.size + 1 < _; omega)).trans x8
  replace x9 := (hbn.cell (p := ⟨w.heap.size + 1, 9, none⟩) (by show w.heap.size + 1 < _; omega)).trans x9
  replace x10 := (hbn.cell (p := ⟨w.heap.size + 1, 10, none⟩) (by show w.heap.size + 1 < _; omega)).trans x10
  replace x11 := (hbn.cell (p := ⟨w.heap.size + 1, 11, none⟩) (by show w.heap.size + 1 < _; omega)).trans x11
  replace h0 := (hbn.cell (p := ⟨w.heap.size + 1 + 1, 0, none⟩) (by show w.heap.size + 1 + 1 < _; omega)).trans h0
  replace h1 := (hbn.cell (p := ⟨w.heap.size + 1 + 1, 1, none⟩) (by show w.heap.size + 1 + 1 < _; omega)).trans h1
  replace h2 := (hbn.cell (p := ⟨w.heap.size + 1 + 1, 2, none⟩) (by show w.heap.size + 1 + 1 < _; omega)).trans h2
  replace h3 := (hbn.cell (p := ⟨w.heap.size + 1 + 1, 3, none⟩) (by show w.heap.size + 1 + 1 < _; omega)).trans h3
  replace rv := (hbn.cell (p := ⟨b1, o1 + kh, none⟩) hl2).trans rv
  replace hl2 := Nat.lt_of_lt_of_le hl2 hbn.size
  replace hsz := Nat.lt_of_lt_of_le hsz hbn.size
  clear hbn HBQ HS4
  have HBQ := HB5
  go_wp2_with (fail)
  by_cases c5 : RU = x.seal_.head.root
  rotate_left
  · have HE := Lib.hid (HV4b.out (by first | rfl | trivial) c5)
    have hq5 : (RU.toList == x.seal_.head.root.toList) = false := str_ne c5
    have HC5 := Lib.hid c5
    have hq6 : ¬ RU.toList = x.seal_.head.root.toList := fun e => HC5.out (toList_inj e)
    clear c5
    have Gt0 := Grown.cell t0
    have Gt1 := Grown.cell t1
    have Gt2 := Grown.cell t2
    have Gx0 := Grown.cell x0
    have Gx1 := Grown.cell x1
    have Gx2 := Grown.cell x2
    have Gx3 := Grown.cell x3
    have Gx4 := Grown.cell x4
    have Gx5 := Grown.cell x5
    have Gx6 := Grown.cell x6
    have Gx7 := Grown.cell x7
    have Gx8 := Grown.cell x8
    have Gx9 := Grown.cell x9
    have Gx10 := Grown.cell x10
    have Gx11 := Grown.cell x11
    have Gh0 := Grown.cell h0
    have Gh1 := Grown.cell h1
    have Gh2 := Grown.cell h2
    have Gh3 := Grown.cell h3
    have Grv := Grown.cell rv
    refine wp_region_grown (by kernel_rfl) (by kernel_rfl) ?_
    repeat (go_big_quiet_step (first | (go_at_call 96; exact grown_call (HPH.out _ (HBQ.out.trans ((Grown.ok _).mono HBQ.out.size)))) | (go_at_call 97; exact grown_call (HIX.out _ (HBQ.out.trans ((Grown.ok _).mono HBQ.out.size)))) | (go_at_call 95; exact grown_call (HFU.out _ (HBQ.out.trans ((Grown.ok _).mono HBQ.out.size))))))
    refine wpQuiet_nil ?_
    intro w6 hw_
    have hbn := grown_below hw_
    clear hw_ Gt0 Gt1 Gt2 Gx0 Gx1 Gx2 Gx3 Gx4 Gx5 Gx6 Gx7 Gx8 Gx9 Gx10 Gx11 Gh0 Gh1 Gh2 Gh3 Grv 
    have HB6 := Lib.hid (HB5.out.trans (hbn.mono HB5.out.size))
    go_wp2
    go_ret3
    exact ⟨by rw [HE.out]; rfl, HB6.out⟩
  have HV5c := Lib.hid (HV5b.out (by first | rfl | trivial) c5)
  have HV0c := Lib.hid (HV0b.out (by first | rfl | trivial) c5)
  have hq5 : (RU.toList == x.seal_.head.root.toList) = true := str_eq c5
  have hq6 : RU.toList = x.seal_.head.root.toList := by rw [c5]
  clear c5
  have Gt0 := Grown.cell t0
  have Gt1 := Grown.cell t1
  have Gt2 := Grown.cell t2
  have Gx0 := Grown.cell x0
  have Gx1 := Grown.cell x1
  have Gx2 := Grown.cell x2
  have Gx3 := Grown.cell x3
  have Gx4 := Grown.cell x4
  have Gx5 := Grown.cell x5
  have Gx6 := Grown.cell x6
  have Gx7 := Grown.cell x7
  have Gx8 := Grown.cell x8
  have Gx9 := Grown.cell x9
  have Gx10 := Grown.cell x10
  have Gx11 := Grown.cell x11
  have Gh0 := Grown.cell h0
  have Gh1 := Grown.cell h1
  have Gh2 := Grown.cell h2
  have Gh3 := Grown.cell h3
  have Grv := Grown.cell rv
  refine wp_region_grown (by kernel_rfl) (by kernel_rfl) ?_
  repeat (go_big_quiet_step (first | (go_at_call 96; exact grown_call (HPH.out _ (HBQ.out.trans ((Grown.ok _).mono HBQ.out.size)))) | (go_at_call 97; exact grown_call (HIX.out _ (HBQ.out.trans ((Grown.ok _).mono HBQ.out.size)))) | (go_at_call 95; exact grown_call (HFU.out _ (HBQ.out.trans ((Grown.ok _).mono HBQ.out.size))))))
  refine wpQuiet_nil ?_
  intro w6 hw_
  have hbn := grown_below hw_
  clear hw_ Gt0 Gt1 Gt2 Gx0 Gx1 Gx2 Gx3 Gx4 Gx5 Gx6 Gx7 Gx8 Gx9 Gx10 Gx11 Gh0 Gh1 Gh2 Gh3 Grv 
  have HB6 := Lib.hid (HB5.out.trans (hbn.mono HB5.out.size))
  replace t0 := (hbn.cell (p := ⟨w.heap.size, 0, none⟩) (by show w.heap.size < _; omega)).trans t0
  replace t1 := (hbn.cell (p := ⟨w.heap.size, 1, none⟩) (by show w.heap.size < _; omega)).trans t1
  replace t2 := (hbn.cell (p := ⟨w.heap.size, 2, none⟩) (by show w.heap.size < _; omega)).trans t2
  replace x0 := (hbn.cell (p := ⟨w.heap.size + 1, 0, none⟩) (by show w.heap.size + 1 < _; omega)).trans x0
  replace x1 := (hbn.cell (p := ⟨w.heap.size + 1, 1, none⟩) (by show w.heap.size + 1 < _; omega)).trans x1
  replace x2 := (hbn.cell (p := ⟨w.heap.size + 1, 2, none⟩) (by show w.heap.size + 1 < _; omega)).trans x2
  replace x3 := (hbn.cell (p := ⟨w.heap.size + 1, 3, none⟩) (by show w.heap.size + 1 < _; omega)).trans x3
  replace x4 := (hbn.cell (p := ⟨w.heap.size + 1, 4, none⟩) (by show w.heap.size + 1 < _; omega)).trans x4
  replace x5 := (hbn.cell (p := ⟨w.heap.size + 1, 5, none⟩) (by show w.heap.size + 1 < _; omega)).trans x5
  replace x6 := (hbn.cell (p := ⟨w.heap.size + 1, 6, none⟩) (by show w.heap.size + 1 < _; omega)).trans x6
  replace x7 := (hbn.cell (p := ⟨w.heap.size + 1, 7, none⟩) (by show w.heap.size + 1 < _; omega)).trans x7
  replace x8 := (hbn.cell (p := ⟨w.heap.size + 1, 8, none⟩) (by show w.heap.size + 1 < _; omega)).trans x8
  replace x9 := (hbn.cell (p := ⟨w.heap.size + 1, 9, none⟩) (by show w.heap.size + 1 < _; omega)).trans x9
  replace x10 := (hbn.cell (p := ⟨w.heap.size + 1, 10, none⟩) (by show w.heap.size + 1 < _; omega)).trans x10
  replace x11 := (hbn.cell (p := ⟨w.heap.size + 1, 11, none⟩) (by show w.heap.size + 1 < _; omega)).trans x11
  replace h0 := (hbn.cell (p := ⟨w.heap.size + 1 + 1, 0, none⟩) (by show w.heap.size + 1 + 1 < _; omega)).trans h0
  replace h1 := (hbn.cell (p := ⟨w.heap.size + 1 + 1, 1, none⟩) (by show w.heap.size + 1 + 1 < _; omega)).trans h1
  replace h2 := (hbn.cell (p := ⟨w.heap.size + 1 + 1, 2, none⟩) (by show w.heap.size + 1 + 1 < _; omega)).trans h2
  replace h3 := (hbn.cell (p := ⟨w.heap.size + 1 + 1, 3, none⟩) (by show w.heap.size + 1 + 1 < _; omega)).trans h3
  replace rv := (hbn.cell (p := ⟨b1, o1 + kh, none⟩) hl2).trans rv
  replace hl2 := Nat.lt_of_lt_of_le hl2 hbn.size
  replace hsz := Nat.lt_of_lt_of_le hsz hbn.size
  clear hbn HBQ HPH HIX HFU HV3b HV4b HV5b HV0b
  clear t1 x2 x3 x4 x5 x6 x7 x8 x9 x10 rv
  obtain ⟨nd, hnd⟩ : ∃ nd : Nat, t.need = nd := ⟨t.need.toNat, by omega⟩
  rw [hnd] at t2 HV5c HV0c hn0 hn2
  obtain ⟨xs, hxs⟩ : ∃ xs, x.stamps = xs := ⟨_, rfl⟩
  rw [hxs] at HV5c HV0c x11 q6 hzs hls
  obtain ⟨hd, hhd⟩ : ∃ hd, x.seal_.head = hd := ⟨_, rfl⟩
  rw [hhd] at HV5c HV0c h0 h1 h2 h3
  have rV := Lib.hid (Row.later q6 HB6.out)
  have rR := Lib.hid (Row.later r0 HB6.out)
  clear hxs q6 hnd r0
  have Kt0 := Lib.hid t0
  have Kt2 := Lib.hid t2
  have Kx0 := Lib.hid x0
  have Kx1 := Lib.hid x1
  have Kx11 := Lib.hid x11
  have Kh0 := Lib.hid h0
  have Kh1 := Lib.hid h1
  have Kh2 := Lib.hid h2
  have Kh3 := Lib.hid h3
  go_wp2_with (fail)
  go_loopw [14, 68] (fun v i wr => ∃ (k c : Nat), k ≤ xs.length ∧ i = .int .i64 k ∧ v = .int .i64 (c : Int) ∧ Hid (c = min ((xs.take k).countP (stampP t (kh : Int) hd)) nd) ∧ c ≤ k ∧ Below w6.heap.size w6 wr) (fun _ i _ => xs.length - (intOf i).toNat)
  case atStart => exact ⟨0, 0, Nat.zero_le _, rfl, rfl, Lib.hid (by simp), Nat.le_refl _, Below.refl _ _⟩
  case round =>
    clear t0 t2 x0 x1 x11 h0 h1 h2 h3
    obtain ⟨k, c, hk, rfl, rfl, HC, hck, hb⟩ := hrel
    have t0 := (hb.cell (p := ⟨w.heap.size, 0, none⟩) (by show w.heap.size < _; omega)).trans Kt0.out
    have t2 := (hb.cell (p := ⟨w.heap.size, 2, none⟩) (by show w.heap.size < _; omega)).trans Kt2.out
    have x0 := (hb.cell (p := ⟨w.heap.size + 1, 0, none⟩) (by show w.heap.size + 1 < _; omega)).trans Kx0.out
    have x1 := (hb.cell (p := ⟨w.heap.size + 1, 1, none⟩) (by show w.heap.size + 1 < _; omega)).trans Kx1.out
    have x11 := (hb.cell (p := ⟨w.heap.size + 1, 11, none⟩) (by show w.heap.size + 1 < _; omega)).trans Kx11.out
    have h0 := (hb.cell (p := ⟨w.heap.size + 1 + 1, 0, none⟩) (by show w.heap.size + 1 + 1 < _; omega)).trans Kh0.out
    have h1 := (hb.cell (p := ⟨w.heap.size + 1 + 1, 1, none⟩) (by show w.heap.size + 1 + 1 < _; omega)).trans Kh1.out
    have h2 := (hb.cell (p := ⟨w.heap.size + 1 + 1, 2, none⟩) (by show w.heap.size + 1 + 1 < _; omega)).trans Kh2.out
    have h3 := (hb.cell (p := ⟨w.heap.size + 1 + 1, 3, none⟩) (by show w.heap.size + 1 + 1 < _; omega)).trans Kh3.out
    have HBr := Lib.hid (HB6.out.trans (hb.mono HB6.out.size))
    have HBl := Lib.hid hb
    have hszr := Nat.lt_of_lt_of_le hsz hb.size
    by_cases hlt : k < xs.length
    · obtain ⟨b2, o2, cc, T2, rfl, hl4, ha, hr, _, _⟩ := Row.at_ rV.out hlt
      replace ha := ha.keep (hb.block b2 hl4)
      replace hr := Lay.later hr hb
      have HCN := Lib.hid (count_snoc (p := stampP t (kh : Int) hd) hlt)
      obtain ⟨s, hs⟩ : ∃ s, xs[k] = s := ⟨_, rfl⟩
      rw [hs] at hr HCN
      clear hs
      obtain ⟨D0, m0, Q0, D1, m1, Q1, D2, m2, Q2, rfl, fb, fa, l0, n0, q0, s0, l1, n1, q1, s1, l2, n2, q2, s2, -⟩ := Stamp.open hr
      have HSG := Lib.hid (Sig.mk' (x := s.sig) fa l0 n0 q0 s0 l1 n1 q1 s1 l2 n2 q2 s2 (fun h => by simp at h))
      clear hr fa q0 q1 q2 s0 s1 s2
      rw [show Lay.n Stamp = 5 from rfl] at ha
      have e0 := ha 0 _ rfl
      have e1 := ha 1 _ rfl
      have e2 := ha 2 _ rfl
      have e3 := ha 3 _ rfl
      have e4 := ha 4 _ rfl
      simp only [Nat.add_zero] at e0
      have hl5 : b2 < wr.heap.size := Nat.lt_of_lt_of_le hl4 hb.size
      have HIN := Lib.hid (fun W => impl_in s.by_ 0 ((t.roots.length : Int) - 1) W)
      have hw1 : IntKind.i64.wrap ((t.roots.length : Int) - 1) = (t.roots.length : Int) - 1 := IntWalk.i64_in _ (by omega)
      have HNO := Lib.hid (fun h => stampP_no (t := t) (house := (kh : Int)) (h := hd) (s := s) h)
      have HAT := Lib.hid (fun (kb : Nat) hb hk => stampP_at (t := t) (house := (kh : Int)) (h := hd) (s := s) (k := kb) hb hk)
      clear ha hb
      cases cin : inB s.by_ 0 ((t.roots.length : Int) - 1) <;> rw [cin] at HIN
      · have HP := Lib.hid (HNO.out cin)
        have HCE : Hid (c = min ((xs.take (k + 1)).countP (stampP t (kh : Int) hd)) nd) := Lib.hid (by have := HC.out; rw [HCN.out, HP.out, if_neg (by simp)]; omega)
        clear cin HNO HAT
        go_wp2_with (fail)
        obtain ⟨Wb, hWb⟩ : ∃ Wb, wr.alloc (.cells #[.int .i64 s.by_, .int .i64 s.sig.at_, .slice D0 s.sig.open_.length m0, .slice D1 s.sig.shut.length m1, .slice D2 s.sig.sides.length m2] 143) = Wb := ⟨_, rfl⟩
        have hbw : Below wr.heap.size wr Wb := by rw [← hWb]; exact (Below.refl _ _).alloc (Nat.le_refl _) _
        have G0 := Grown.cell (show Wb.cell? ⟨wr.heap.size, 0, none⟩ = some (.int .i64 s.by_) by rw [← hWb]; exact box_cell _ _ _ _ _ rfl)
        have G1 := Grown.cell (show Wb.cell? ⟨wr.heap.size, 1, none⟩ = some (.int .i64 s.sig.at_) by rw [← hWb]; exact box_cell _ _ _ _ _ rfl)
        have G2 := Grown.cell (show Wb.cell? ⟨wr.heap.size, 2, none⟩ = some (.slice D0 s.sig.open_.length m0) by rw [← hWb]; exact box_cell _ _ _ _ _ rfl)
        have G3 := Grown.cell (show Wb.cell? ⟨wr.heap.size, 3, none⟩ = some (.slice D1 s.sig.shut.length m1) by rw [← hWb]; exact box_cell _ _ _ _ _ rfl)
        have G4 := Grown.cell (show Wb.cell? ⟨wr.heap.size, 4, none⟩ = some (.slice D2 s.sig.sides.length m2) by rw [← hWb]; exact box_cell _ _ _ _ _ rfl)
        have hwz : wr.heap.size < Wb.heap.size := by rw [← hWb]; simp
        (first | simp only [hWb] | (trace_state; fail))
        have Gt0 := Grown.cell ((hbw.cell (p := ⟨w.heap.size, 0, none⟩) (by show w.heap.size < _; omega)).trans t0)
        have Gt2 := Grown.cell ((hbw.cell (p := ⟨w.heap.size, 2, none⟩) (by show w.heap.size < _; omega)).trans t2)
        have Gh0 := Grown.cell ((hbw.cell (p := ⟨w.heap.size + 1 + 1, 0, none⟩) (by show w.heap.size + 1 + 1 < _; omega)).trans h0)
        have Gh1 := Grown.cell ((hbw.cell (p := ⟨w.heap.size + 1 + 1, 1, none⟩) (by show w.heap.size + 1 + 1 < _; omega)).trans h1)
        have Gh2 := Grown.cell ((hbw.cell (p := ⟨w.heap.size + 1 + 1, 2, none⟩) (by show w.heap.size + 1 + 1 < _; omega)).trans h2)
        have Gh3 := Grown.cell ((hbw.cell (p := ⟨w.heap.size + 1 + 1, 3, none⟩) (by show w.heap.size + 1 + 1 < _; omega)).trans h3)
        have HBb := Lib.hid (HBr.out.trans (hbw.mono HBr.out.size))
        have HBd := Lib.hid (HBl.out.trans (hbw.mono HBl.out.size))
        obtain ⟨bs, hbs⟩ : ∃ b, wr.heap.size = b := ⟨_, rfl⟩
        simp only [hbs] at G0 G1 G2 G3 G4 hwz ⊢
        clear hWb hbs hbw
        refine wp_region_grown (by kernel_rfl) (by kernel_rfl) ?_
        repeat (go_big_quiet_step (first | (go_at_call 98; exact grown_same (HIN.out _))))
        refine wpQuiet_nil ?_
        intro w7 hw_
        have HB7 := Lib.hid (HBd.out.trans ((grown_below hw_).mono HBd.out.size))
        clear hw_
        go_wp2
        go_roundw
        case rel => exact ⟨k + 1, c, hlt, by go_num, rfl, HCE, by omega, HB7.out⟩
        case measure => simp [intOf]; omega
      obtain ⟨kb, hkb, hkbl⟩ := in_idx2 cin
      clear cin HNO
      have HAT2 := Lib.hid (HAT.out kb hkb hkbl)
      clear HAT
      by_cases ceq : s.by_ = (kh : Int)
      · have HP : Hid (stampP t (kh : Int) hd s = false) := Lib.hid (by rw [HAT2.out, decide_eq_true ceq]; rfl)
        have HCE : Hid (c = min ((xs.take (k + 1)).countP (stampP t (kh : Int) hd)) nd) := Lib.hid (by have := HC.out; rw [HCN.out, HP.out, if_neg (by simp)]; omega)
        have hqh : (s.by_ != (kh : Int)) = false := by rw [bne_eq_false_iff_eq]; exact ceq
        clear ceq HAT2 hkb hkbl
        go_wp2_with (fail)
        obtain ⟨Wb, hWb⟩ : ∃ Wb, wr.alloc (.cells #[.int .i64 s.by_, .int .i64 s.sig.at_, .slice D0 s.sig.open_.length m0, .slice D1 s.sig.shut.length m1, .slice D2 s.sig.sides.length m2] 143) = Wb := ⟨_, rfl⟩
        have hbw : Below wr.heap.size wr Wb := by rw [← hWb]; exact (Below.refl _ _).alloc (Nat.le_refl _) _
        have G0 := Grown.cell (show Wb.cell? ⟨wr.heap.size, 0, none⟩ = some (.int .i64 s.by_) by rw [← hWb]; exact box_cell _ _ _ _ _ rfl)
        have G1 := Grown.cell (show Wb.cell? ⟨wr.heap.size, 1, none⟩ = some (.int .i64 s.sig.at_) by rw [← hWb]; exact box_cell _ _ _ _ _ rfl)
        have G2 := Grown.cell (show Wb.cell? ⟨wr.heap.size, 2, none⟩ = some (.slice D0 s.sig.open_.length m0) by rw [← hWb]; exact box_cell _ _ _ _ _ rfl)
        have G3 := Grown.cell (show Wb.cell? ⟨wr.heap.size, 3, none⟩ = some (.slice D1 s.sig.shut.length m1) by rw [← hWb]; exact box_cell _ _ _ _ _ rfl)
        have G4 := Grown.cell (show Wb.cell? ⟨wr.heap.size, 4, none⟩ = some (.slice D2 s.sig.sides.length m2) by rw [← hWb]; exact box_cell _ _ _ _ _ rfl)
        have hwz : wr.heap.size < Wb.heap.size := by rw [← hWb]; simp
        (first | simp only [hWb] | (trace_state; fail))
        have Gt0 := Grown.cell ((hbw.cell (p := ⟨w.heap.size, 0, none⟩) (by show w.heap.size < _; omega)).trans t0)
        have Gt2 := Grown.cell ((hbw.cell (p := ⟨w.heap.size, 2, none⟩) (by show w.heap.size < _; omega)).trans t2)
        have Gh0 := Grown.cell ((hbw.cell (p := ⟨w.heap.size + 1 + 1, 0, none⟩) (by show w.heap.size + 1 + 1 < _; omega)).trans h0)
        have Gh1 := Grown.cell ((hbw.cell (p := ⟨w.heap.size + 1 + 1, 1, none⟩) (by show w.heap.size + 1 + 1 < _; omega)).trans h1)
        have Gh2 := Grown.cell ((hbw.cell (p := ⟨w.heap.size + 1 + 1, 2, none⟩) (by show w.heap.size + 1 + 1 < _; omega)).trans h2)
        have Gh3 := Grown.cell ((hbw.cell (p := ⟨w.heap.size + 1 + 1, 3, none⟩) (by show w.heap.size + 1 + 1 < _; omega)).trans h3)
        have HBb := Lib.hid (HBr.out.trans (hbw.mono HBr.out.size))
        have HBd := Lib.hid (HBl.out.trans (hbw.mono HBl.out.size))
        obtain ⟨bs, hbs⟩ : ∃ b, wr.heap.size = b := ⟨_, rfl⟩
        simp only [hbs] at G0 G1 G2 G3 G4 hwz ⊢
        clear hWb hbs hbw
        refine wp_region_grown (by kernel_rfl) (by kernel_rfl) ?_
        repeat (go_big_quiet_step (first | (go_at_call 98; exact grown_same (HIN.out _))))
        refine wpQuiet_nil ?_
        intro w7 hw_
        have HB7 := Lib.hid (HBd.out.trans ((grown_below hw_).mono HBd.out.size))
        clear hw_
        go_wp2
        go_roundw
        case rel => exact ⟨k + 1, c, hlt, by go_num, rfl, HCE, by omega, HB7.out⟩
        case measure => simp [intOf]; omega
      have hqh : (s.by_ != (kh : Int)) = true := by rw [bne_iff_ne]; exact ceq
      have HPZ : Hid (stampP t (kh : Int) hd s = stampOk (t.roots[kb]) hd s.sig) := Lib.hid (by rw [HAT2.out, decide_eq_false ceq]; rfl)
      obtain ⟨b3, o3, e3_, hl6, rk, -⟩ := Row.str rR.out hkbl
      cases e3_
      have HST := Lib.hid (fun W (h : Below wr.heap.size wr W) => impl_StampOk W (t.roots[kb]) hd s.sig _ T2 (Lay.later HSG.out h) (HT.out.later (HBr.out.trans (h.mono HBr.out.size))))
      obtain ⟨rk_, hrk⟩ : ∃ r, t.roots[kb] = r := ⟨_, rfl⟩
      rw [hrk] at rk HST HPZ
      obtain ⟨z, hz⟩ : ∃ z, stampOk rk_ hd s.sig = z := ⟨_, rfl⟩
      rw [hz] at HST HPZ
      simp only [Head.cs, Sig.cs] at HST
      have hkb2 : (kb : Int) < (t.roots.length : Int) := by omega
      have hkb0 : (0 : Int) ≤ (kb : Int) := by omega
      have rkr := (HBl.out.cell (p := ⟨b1, o1 + kb, none⟩) hl6).trans rk
      have hl7 : b1 < wr.heap.size := Nat.lt_of_lt_of_le hl6 HBl.out.size
      clear hrk hz rk ceq HAT2 hkbl HSG
      rw [hkb] at e0 HIN hqh
      by_cases cn : c < nd
      rotate_left
      · have hcn : decide (c < nd) = false := decide_eq_false cn
        have hcni : decide ((c : Int) < (nd : Int)) = false := decide_eq_false (by omega)
        have HP := HPZ
        have HCE : Hid (c = min ((xs.take (k + 1)).countP (stampP t (kh : Int) hd)) nd) := Lib.hid (by have := HC.out; rw [HCN.out]; split <;> omega)
        clear cn
        go_wp2_with (fail)
        obtain ⟨Wb, hWb⟩ : ∃ Wb, wr.alloc (.cells #[.int .i64 (kb : Int), .int .i64 s.sig.at_, .slice D0 s.sig.open_.length m0, .slice D1 s.sig.shut.length m1, .slice D2 s.sig.sides.length m2] 143) = Wb := ⟨_, rfl⟩
        have hbw : Below wr.heap.size wr Wb := by rw [← hWb]; exact (Below.refl _ _).alloc (Nat.le_refl _) _
        have G0 := Grown.cell (show Wb.cell? ⟨wr.heap.size, 0, none⟩ = some (.int .i64 (kb : Int)) by rw [← hWb]; exact box_cell _ _ _ _ _ rfl)
        have G1 := Grown.cell (show Wb.cell? ⟨wr.heap.size, 1, none⟩ = some (.int .i64 s.sig.at_) by rw [← hWb]; exact box_cell _ _ _ _ _ rfl)
        have G2 := Grown.cell (show Wb.cell? ⟨wr.heap.size, 2, none⟩ = some (.slice D0 s.sig.open_.length m0) by rw [← hWb]; exact box_cell _ _ _ _ _ rfl)
        have G3 := Grown.cell (show Wb.cell? ⟨wr.heap.size, 3, none⟩ = some (.slice D1 s.sig.shut.length m1) by rw [← hWb]; exact box_cell _ _ _ _ _ rfl)
        have G4 := Grown.cell (show Wb.cell? ⟨wr.heap.size, 4, none⟩ = some (.slice D2 s.sig.sides.length m2) by rw [← hWb]; exact box_cell _ _ _ _ _ rfl)
        have hwz : wr.heap.size < Wb.heap.size := by rw [← hWb]; simp
        (first | simp only [hWb] | (trace_state; fail))
        have Gt0 := Grown.cell ((hbw.cell (p := ⟨w.heap.size, 0, none⟩) (by show w.heap.size < _; omega)).trans t0)
        have Gt2 := Grown.cell ((hbw.cell (p := ⟨w.heap.size, 2, none⟩) (by show w.heap.size < _; omega)).trans t2)
        have Gh0 := Grown.cell ((hbw.cell (p := ⟨w.heap.size + 1 + 1, 0, none⟩) (by show w.heap.size + 1 + 1 < _; omega)).trans h0)
        have Gh1 := Grown.cell ((hbw.cell (p := ⟨w.heap.size + 1 + 1, 1, none⟩) (by show w.heap.size + 1 + 1 < _; omega)).trans h1)
        have Gh2 := Grown.cell ((hbw.cell (p := ⟨w.heap.size + 1 + 1, 2, none⟩) (by show w.heap.size + 1 + 1 < _; omega)).trans h2)
        have Gh3 := Grown.cell ((hbw.cell (p := ⟨w.heap.size + 1 + 1, 3, none⟩) (by show w.heap.size + 1 + 1 < _; omega)).trans h3)
        have Grk := Grown.cell ((hbw.cell (p := ⟨b1, o1 + kb, none⟩) hl7).trans rkr)
        have HS7 := Lib.hid (fun W h => HST.out W (hbw.trans (Below.mono (B' := wr.heap.size) h hbw.size)))
        have HBb := Lib.hid (HBr.out.trans (hbw.mono HBr.out.size))
        have HBd := Lib.hid (HBl.out.trans (hbw.mono HBl.out.size))
        obtain ⟨bs, hbs⟩ : ∃ b, wr.heap.size = b := ⟨_, rfl⟩
        simp only [hbs] at G0 G1 G2 G3 G4 hwz ⊢
        clear hWb hbs hbw
        refine wp_region_grown (by kernel_rfl) (by kernel_rfl) ?_
        repeat (go_big_quiet_step (first | (go_at_call 98; exact grown_same (HIN.out _)) | (go_at_call 99; exact grown_call (HS7.out _ (Grown.ok _)))))
        refine wpQuiet_nil ?_
        intro w7 hw_
        have HB7 := Lib.hid (HBd.out.trans ((grown_below hw_).mono HBd.out.size))
        clear hw_
        go_wp2
        go_roundw
        case rel => exact ⟨k + 1, c, hlt, by go_num, rfl, HCE, by omega, HB7.out⟩
        case measure => simp [intOf]; omega
      have hcn : decide (c < nd) = true := decide_eq_true cn
      have hcni : decide ((c : Int) < (nd : Int)) = true := decide_eq_true (by omega)
      have hcnp : (c : Int) < (nd : Int) := by omega
      cases z
      · have HP := HPZ
        have HCE : Hid (c = min ((xs.take (k + 1)).countP (stampP t (kh : Int) hd)) nd) := Lib.hid (by have := HC.out; rw [HCN.out, HP.out, if_neg (by simp)]; omega)
        
        go_wp2_with (fail)
        obtain ⟨Wb, hWb⟩ : ∃ Wb, wr.alloc (.cells #[.int .i64 (kb : Int), .int .i64 s.sig.at_, .slice D0 s.sig.open_.length m0, .slice D1 s.sig.shut.length m1, .slice D2 s.sig.sides.length m2] 143) = Wb := ⟨_, rfl⟩
        have hbw : Below wr.heap.size wr Wb := by rw [← hWb]; exact (Below.refl _ _).alloc (Nat.le_refl _) _
        have G0 := Grown.cell (show Wb.cell? ⟨wr.heap.size, 0, none⟩ = some (.int .i64 (kb : Int)) by rw [← hWb]; exact box_cell _ _ _ _ _ rfl)
        have G1 := Grown.cell (show Wb.cell? ⟨wr.heap.size, 1, none⟩ = some (.int .i64 s.sig.at_) by rw [← hWb]; exact box_cell _ _ _ _ _ rfl)
        have G2 := Grown.cell (show Wb.cell? ⟨wr.heap.size, 2, none⟩ = some (.slice D0 s.sig.open_.length m0) by rw [← hWb]; exact box_cell _ _ _ _ _ rfl)
        have G3 := Grown.cell (show Wb.cell? ⟨wr.heap.size, 3, none⟩ = some (.slice D1 s.sig.shut.length m1) by rw [← hWb]; exact box_cell _ _ _ _ _ rfl)
        have G4 := Grown.cell (show Wb.cell? ⟨wr.heap.size, 4, none⟩ = some (.slice D2 s.sig.sides.length m2) by rw [← hWb]; exact box_cell _ _ _ _ _ rfl)
        have hwz : wr.heap.size < Wb.heap.size := by rw [← hWb]; simp
        (first | simp only [hWb] | (trace_state; fail))
        have Gt0 := Grown.cell ((hbw.cell (p := ⟨w.heap.size, 0, none⟩) (by show w.heap.size < _; omega)).trans t0)
        have Gt2 := Grown.cell ((hbw.cell (p := ⟨w.heap.size, 2, none⟩) (by show w.heap.size < _; omega)).trans t2)
        have Gh0 := Grown.cell ((hbw.cell (p := ⟨w.heap.size + 1 + 1, 0, none⟩) (by show w.heap.size + 1 + 1 < _; omega)).trans h0)
        have Gh1 := Grown.cell ((hbw.cell (p := ⟨w.heap.size + 1 + 1, 1, none⟩) (by show w.heap.size + 1 + 1 < _; omega)).trans h1)
        have Gh2 := Grown.cell ((hbw.cell (p := ⟨w.heap.size + 1 + 1, 2, none⟩) (by show w.heap.size + 1 + 1 < _; omega)).trans h2)
        have Gh3 := Grown.cell ((hbw.cell (p := ⟨w.heap.size + 1 + 1, 3, none⟩) (by show w.heap.size + 1 + 1 < _; omega)).trans h3)
        have Grk := Grown.cell ((hbw.cell (p := ⟨b1, o1 + kb, none⟩) hl7).trans rkr)
        have HS7 := Lib.hid (fun W h => HST.out W (hbw.trans (Below.mono (B' := wr.heap.size) h hbw.size)))
        have HBb := Lib.hid (HBr.out.trans (hbw.mono HBr.out.size))
        have HBd := Lib.hid (HBl.out.trans (hbw.mono HBl.out.size))
        obtain ⟨bs, hbs⟩ : ∃ b, wr.heap.size = b := ⟨_, rfl⟩
        simp only [hbs] at G0 G1 G2 G3 G4 hwz ⊢
        clear hWb hbs hbw
        refine wp_region_grown (by kernel_rfl) (by kernel_rfl) ?_
        repeat (go_big_quiet_step (first | (go_at_call 98; exact grown_same (HIN.out _)) | (go_at_call 99; exact grown_call (HS7.out _ (Grown.ok _)))))
        refine wpQuiet_nil ?_
        intro w7 hw_
        have HB7 := Lib.hid (HBd.out.trans ((grown_below hw_).mono HBd.out.size))
        clear hw_
        go_wp2
        go_roundw
        case rel => exact ⟨k + 1, c, hlt, by go_num, rfl, HCE, by omega, HB7.out⟩
        case measure => simp [intOf]; omega
      have HP := HPZ
      have HCE : Hid (c + 1 = min ((xs.take (k + 1)).countP (stampP t (kh : Int) hd)) nd) := Lib.hid (by have := HC.out; rw [HCN.out, HP.out, if_pos rfl]; omega)
      go_wp2_with (fail)
      obtain ⟨Wb, hWb⟩ : ∃ Wb, wr.alloc (.cells #[.int .i64 (kb : Int), .int .i64 s.sig.at_, .slice D0 s.sig.open_.length m0, .slice D1 s.sig.shut.length m1, .slice D2 s.sig.sides.length m2] 143) = Wb := ⟨_, rfl⟩
      have hbw : Below wr.heap.size wr Wb := by rw [← hWb]; exact (Below.refl _ _).alloc (Nat.le_refl _) _
      have G0 := Grown.cell (show Wb.cell? ⟨wr.heap.size, 0, none⟩ = some (.int .i64 (kb : Int)) by rw [← hWb]; exact box_cell _ _ _ _ _ rfl)
      have G1 := Grown.cell (show Wb.cell? ⟨wr.heap.size, 1, none⟩ = some (.int .i64 s.sig.at_) by rw [← hWb]; exact box_cell _ _ _ _ _ rfl)
      have G2 := Grown.cell (show Wb.cell? ⟨wr.heap.size, 2, none⟩ = some (.slice D0 s.sig.open_.length m0) by rw [← hWb]; exact box_cell _ _ _ _ _ rfl)
      have G3 := Grown.cell (show Wb.cell? ⟨wr.heap.size, 3, none⟩ = some (.slice D1 s.sig.shut.length m1) by rw [← hWb]; exact box_cell _ _ _ _ _ rfl)
      have G4 := Grown.cell (show Wb.cell? ⟨wr.heap.size, 4, none⟩ = some (.slice D2 s.sig.sides.length m2) by rw [← hWb]; exact box_cell _ _ _ _ _ rfl)
      have hwz : wr.heap.size < Wb.heap.size := by rw [← hWb]; simp
      (first | simp only [hWb] | (trace_state; fail))
      have Gt0 := Grown.cell ((hbw.cell (p := ⟨w.heap.size, 0, none⟩) (by show w.heap.size < _; omega)).trans t0)
      have Gt2 := Grown.cell ((hbw.cell (p := ⟨w.heap.size, 2, none⟩) (by show w.heap.size < _; omega)).trans t2)
      have Gh0 := Grown.cell ((hbw.cell (p := ⟨w.heap.size + 1 + 1, 0, none⟩) (by show w.heap.size + 1 + 1 < _; omega)).trans h0)
      have Gh1 := Grown.cell ((hbw.cell (p := ⟨w.heap.size + 1 + 1, 1, none⟩) (by show w.heap.size + 1 + 1 < _; omega)).trans h1)
      have Gh2 := Grown.cell ((hbw.cell (p := ⟨w.heap.size + 1 + 1, 2, none⟩) (by show w.heap.size + 1 + 1 < _; omega)).trans h2)
      have Gh3 := Grown.cell ((hbw.cell (p := ⟨w.heap.size + 1 + 1, 3, none⟩) (by show w.heap.size + 1 + 1 < _; omega)).trans h3)
      have Grk := Grown.cell ((hbw.cell (p := ⟨b1, o1 + kb, none⟩) hl7).trans rkr)
      have HS7 := Lib.hid (fun W h => HST.out W (hbw.trans (Below.mono (B' := wr.heap.size) h hbw.size)))
      have HBb := Lib.hid (HBr.out.trans (hbw.mono HBr.out.size))
      have HBd := Lib.hid (HBl.out.trans (hbw.mono HBl.out.size))
      obtain ⟨bs, hbs⟩ : ∃ b, wr.heap.size = b := ⟨_, rfl⟩
      simp only [hbs] at G0 G1 G2 G3 G4 hwz ⊢
      clear hWb hbs hbw
      refine wp_region_grown (by kernel_rfl) (by kernel_rfl) ?_
      repeat (go_big_quiet_step (first | (go_at_call 98; exact grown_same (HIN.out _)) | (go_at_call 99; exact grown_call (HS7.out _ (Grown.ok _)))))
      refine wpQuiet_nil ?_
      intro w7 hw_
      have HB7 := Lib.hid (HBd.out.trans ((grown_below hw_).mono HBd.out.size))
      clear hw_
      go_wp2
      go_roundw
      case rel => exact ⟨k + 1, c + 1, hlt, by go_num, by go_num, HCE, by omega, HB7.out⟩
      case measure => simp [intOf]; omega
    · have hke : k = xs.length := by omega
      have HCC : Hid (c = min (xs.countP (stampP t (kh : Int) hd)) nd) := Lib.hid (by rw [HC.out, List.take_of_length_le (by omega)])
      clear HC
      subst hke
      by_cases hC : ((xs.countP (stampP t (kh : Int) hd) : Nat) : Int) < (nd : Int)
      · have HE := Lib.hid (HV5c.out hC)
        have hcn : decide (c < nd) = true := decide_eq_true (by have := HCC.out; omega)
        have hcni : (c : Int) < (nd : Int) := by have := HCC.out; omega
        clear hC hb
        go_wp2
        go_ret3
        exact ⟨by rw [HE.out]; rfl, HBr.out⟩
      · have HE := Lib.hid (HV0c.out (by omega))
        have hcn : decide (c < nd) = false := decide_eq_false (by have := HCC.out; omega)
        have hcni : ¬ (c : Int) < (nd : Int) := by have := HCC.out; omega
        clear hC hb
        go_wp2_with (fail)
        refine (HPS.out _ HBr.out).mono ?_
        rintro e9 w9 ⟨rfl, hb9⟩
        have HB9 := Lib.hid (HBr.out.trans (hb9.mono HBr.out.size))
        clear hb9
        go_wp2
        go_ret3
        exact ⟨by rw [HE.out]; rfl, HB9.out⟩
end Go.Proofs.YtgllafgpmenjjaaGreatDoor
