/- A part of the proof: what the laws need of it. -/
import Derived.Test.YtlfnmbcnehaikaaGreatDoorHRaUg
import Derived.Test.YtlfnmbcnehaikaaGreatDoorHRaL33xUf
set_option linter.unusedVariables false
set_option linter.unusedSimpArgs false
set_option linter.unusedVariables false
set_option linter.unusedSimpArgs false
namespace Go.Proofs.YtlfnmbcnehaikaaGreatDoor
open Go.RowKit Lay Mk
def riseAuditor (x : Auditor) : Auditor := if x.up = true then x else auditorNew x.house x.disk
theorem rise_up {x : Auditor} (h : x.up = true) : riseAuditor x = x := by unfold riseAuditor; rw [if_pos h]
theorem rise_down {x : Auditor} (h : x.up = false) : riseAuditor x = auditorNew x.house x.disk := by unfold riseAuditor; rw [h]; rfl
theorem cnb_riseAuditor (x : Auditor) (hz : x.sz ≤ 1048576) : (riseAuditor x).ct ≤ 1000000000000 := by
  cases h : x.up
  · rw [rise_down h]
    exact cnb_auditorNew _ _ (by simp only [Auditor.sz] at hz; omega)
  · rw [rise_up h]
    obtain ⟨z0, z1, z2, z3, -⟩ := aud_szs hz
    have c1 := cnb_FileS x.disk.files
    have c2 := cnb_StringS x.pool
    have c3 := cnb_SealS x.pins
    have c4 := cnb_PairS x.pairs
    show cnL x.disk.files + cnL x.pool + cnL x.pins + cnL x.pairs ≤ _
    omega
set_option maxRecDepth 20000 in set_option maxHeartbeats 8000000 in
theorem impl_RiseAuditor (w : World) (x : Auditor) (cs : List Value) (S : Blks) (hx : rd false w cs x S) (hz : x.sz ≤ 1048576) (hT : Tabs w) : Calls Tryz.prog 24 #[.agg cs.toArray] w fun e w' => ∃ c, e = .returned (.agg c.toArray) ∧ rd true w' c (riseAuditor x) (rng w.heap.size w'.heap.size) ∧ Below w.heap.size w w' := by
  have HX := Lib.hid hx
  obtain ⟨A0, k0, S0, A1, k1, S1, A2, k2, S2, A3, k3, S3, rfl, f0, a0, b0, r0, -⟩ := Auditor.open hx
  have HR0 := Lib.hid (Disk.mk' (m := false) (x := x.disk) (S := S0) a0 b0 r0 (sub_refl _))
  have hzd : x.disk.sz ≤ 1048576 := by simp only [Auditor.sz] at hz; omega
  have HF0 := Lib.hid f0
  have HT := Lib.hid hT
  clear hT
  clear hx a0 b0 r0 f0
  simp only [Auditor.cs] at HX ⊢
  cases hu : x.up
  · have HE := Lib.hid (rise_down hu)
    rw [hu] at HX
    clear hu
    go_enter Tryz.func24, Tryz.ntmps24
    go_upto_region 1 with (fail)
    obtain ⟨W, hW⟩ : ∃ W, (w.alloc (.cells #[.int .i64 x.house, .bool false, .slice A0 x.disk.files.length k0, .slice A1 x.pool.length k1, .slice A2 x.pins.length k2, .slice A3 x.pairs.length k3] 33)).alloc (.cells #[.int .i64 0, .bool false, .slice none 0 0, .slice none 0 0, .slice none 0 0, .slice none 0 0] 33) = W := ⟨_, rfl⟩
    have hWf : Below w.heap.size w W ∧ W.heap.size = w.heap.size + 1 + 1 ∧ Bx W w.heap.size #[.int .i64 x.house, .bool false, .slice A0 x.disk.files.length k0, .slice A1 x.pool.length k1, .slice A2 x.pins.length k2, .slice A3 x.pairs.length k3] 33 ∧ Bx W (w.heap.size + 1) #[.int .i64 0, .bool false, .slice none 0 0, .slice none 0 0, .slice none 0 0, .slice none 0 0] 33 := by
      rw [← hW]
      have e1 : w.heap.size + 1 = (w.alloc (.cells #[.int .i64 x.house, .bool false, .slice A0 x.disk.files.length k0, .slice A1 x.pool.length k1, .slice A2 x.pins.length k2, .slice A3 x.pairs.length k3] 33)).heap.size := by simp
      exact ⟨((Below.refl _ _).alloc (Nat.le_refl _) _).alloc (by simp) _, by simp, (Bx.new _ _ _).keep (Below.heap_alloc _ _ _ (by simp)), by rw [e1]; exact Bx.new _ _ _⟩
    rw [hW]
    clear hW
    obtain ⟨bW, sW, bX, xW⟩ := hWf
    have HXW := Lib.hid (Lay.later HX.out bW); have HBW := Lib.hid bW; have XW := Lib.hid xW
    have hwl : w.heap.size + 1 < W.heap.size := by omega
    have e0 := bX.at_ (i := 0) rfl
    have e1 := bX.at_ (i := 1) rfl
    have e2 := bX.at_ (i := 2) rfl
    have e3 := bX.at_ (i := 3) rfl
    have e4 := bX.at_ (i := 4) rfl
    have e5 := bX.at_ (i := 5) rfl
    clear bX bW xW sW
    go_wp2_with (fail)
    refine (impl_AuditorNew W x.house HF0.out x.disk (Disk.cs x.disk A0 k0) S0 (Lay.later HR0.out HBW.out) hzd (HT.out.later HBW.out)).mono ?_
    rintro e2 w2 ⟨c2, rfl, hrd, hb2⟩
    obtain ⟨y, hy⟩ : ∃ y, auditorNew x.house x.disk = y := ⟨_, rfl⟩
    rw [hy] at hrd HE
    clear hy
    obtain ⟨C0, d0, _, C1, d1, _, C2, d2, _, C3, d3, _, rfl, -⟩ := Auditor.open hrd
    have HRD := Lib.hid hrd; have HB2 := Lib.hid hb2
    have xr := XW.out.keep (hb2.block _ hwl)
    have z0 := xr.at_ (i := 0) rfl
    have z1 := xr.at_ (i := 1) rfl
    have z2 := xr.at_ (i := 2) rfl
    have z3 := xr.at_ (i := 3) rfl
    have z4 := xr.at_ (i := 4) rfl
    have z5 := xr.at_ (i := 5) rfl
    have zf := xr.fz
    simp only [Auditor.cs]
    clear hrd hb2 xr e0 e1 e2 e3 e4 e5
    go_wp2_with (fail)
    refine bodyPost_ret (v := .agg #[.int .i64 y.house, .bool y.up, .slice C0 y.disk.files.length d0, .slice C1 y.pool.length d1, .slice C2 y.pins.length d2, .slice C3 y.pairs.length d3]) (by simp [results, Tryz.results24, go_sem, *]) rfl ?_
    rw [HE.out]
    clear z0 z1 z2 z3 z4 z5 zf
    have hset := set6R w2 (w.heap.size + 1) (.int .i64 y.house) (.bool y.up) (.slice C0 y.disk.files.length d0) (.slice C1 y.pool.length d1) (.slice C2 y.pins.length d2) (.slice C3 y.pairs.length d3)
    have h2 := HB2.out.size
    refine ⟨_, rfl, Lay.mono (Lay.tight (Lay.keep (Lay.tight HRD.out) (fun b k => hset.block_ne (by have k1 : W.heap.size ≤ b := k.1.1; omega) k.2))) (fun b k => ⟨by have k1 : W.heap.size ≤ b := k.1.1.1; omega, k.2⟩), ?_⟩
    exact (HBW.out.trans (HB2.out.mono HBW.out.size)).trans (hset.to_below (by omega) (fun b q => by have q : b = w.heap.size + 1 := q; omega))
  · have HE := Lib.hid (rise_up hu)
    rw [hu] at HX
    clear hu
    go_enter Tryz.func24, Tryz.ntmps24
    go_upto_region 1 with (fail)
    obtain ⟨W, hW⟩ : ∃ W, (w.alloc (.cells #[.int .i64 x.house, .bool true, .slice A0 x.disk.files.length k0, .slice A1 x.pool.length k1, .slice A2 x.pins.length k2, .slice A3 x.pairs.length k3] 33)).alloc (.cells #[.int .i64 0, .bool false, .slice none 0 0, .slice none 0 0, .slice none 0 0, .slice none 0 0] 33) = W := ⟨_, rfl⟩
    have hWf : Below w.heap.size w W ∧ W.heap.size = w.heap.size + 1 + 1 ∧ Bx W w.heap.size #[.int .i64 x.house, .bool true, .slice A0 x.disk.files.length k0, .slice A1 x.pool.length k1, .slice A2 x.pins.length k2, .slice A3 x.pairs.length k3] 33 ∧ Bx W (w.heap.size + 1) #[.int .i64 0, .bool false, .slice none 0 0, .slice none 0 0, .slice none 0 0, .slice none 0 0] 33 := by
      rw [← hW]
      have e1 : w.heap.size + 1 = (w.alloc (.cells #[.int .i64 x.house, .bool true, .slice A0 x.disk.files.length k0, .slice A1 x.pool.length k1, .slice A2 x.pins.length k2, .slice A3 x.pairs.length k3] 33)).heap.size := by simp
      exact ⟨((Below.refl _ _).alloc (Nat.le_refl _) _).alloc (by simp) _, by simp, (Bx.new _ _ _).keep (Below.heap_alloc _ _ _ (by simp)), by rw [e1]; exact Bx.new _ _ _⟩
    rw [hW]
    clear hW
    obtain ⟨bW, sW, bX, xW⟩ := hWf
    have HXW := Lib.hid (Lay.later HX.out bW); have HBW := Lib.hid bW; have XW := Lib.hid xW
    have hwl : w.heap.size + 1 < W.heap.size := by omega
    have e0 := bX.at_ (i := 0) rfl
    have e1 := bX.at_ (i := 1) rfl
    have e2 := bX.at_ (i := 2) rfl
    have e3 := bX.at_ (i := 3) rfl
    have e4 := bX.at_ (i := 4) rfl
    have e5 := bX.at_ (i := 5) rfl
    clear bX bW xW sW
    go_wp2_with (fail)
    refine (impl_copyAuditor W x _ S HXW.out hz).mono ?_
    rintro e2 w2 ⟨c2, rfl, hrd, hb2⟩
    obtain ⟨y, hy⟩ : ∃ y, x = y := ⟨_, rfl⟩
    have HE2 : Hid (riseAuditor x = y) := Lib.hid (HE.out.trans hy)
    have hrd : rd true w2 c2 y (nw W.heap.size) := by rw [← hy]; exact hrd
    clear HE hy
    have HE := HE2
    clear HE2
    obtain ⟨C0, d0, _, C1, d1, _, C2, d2, _, C3, d3, _, rfl, -⟩ := Auditor.open hrd
    have HRD := Lib.hid hrd; have HB2 := Lib.hid hb2
    have xr := XW.out.keep (hb2.block _ hwl)
    have z0 := xr.at_ (i := 0) rfl
    have z1 := xr.at_ (i := 1) rfl
    have z2 := xr.at_ (i := 2) rfl
    have z3 := xr.at_ (i := 3) rfl
    have z4 := xr.at_ (i := 4) rfl
    have z5 := xr.at_ (i := 5) rfl
    have zf := xr.fz
    simp only [Auditor.cs]
    clear hrd hb2 xr e0 e1 e2 e3 e4 e5
    go_wp2_with (fail)
    refine bodyPost_ret (v := .agg #[.int .i64 y.house, .bool y.up, .slice C0 y.disk.files.length d0, .slice C1 y.pool.length d1, .slice C2 y.pins.length d2, .slice C3 y.pairs.length d3]) (by simp [results, Tryz.results24, go_sem, *]) rfl ?_
    rw [HE.out]
    clear z0 z1 z2 z3 z4 z5 zf
    have hset := set6R w2 (w.heap.size + 1) (.int .i64 y.house) (.bool y.up) (.slice C0 y.disk.files.length d0) (.slice C1 y.pool.length d1) (.slice C2 y.pins.length d2) (.slice C3 y.pairs.length d3)
    have h2 := HB2.out.size
    refine ⟨_, rfl, Lay.mono (Lay.tight (Lay.keep (Lay.tight HRD.out) (fun b k => hset.block_ne (by have k1 : W.heap.size ≤ b := k.1; omega) k.2))) (fun b k => ⟨by have k1 : W.heap.size ≤ b := k.1.1; omega, k.2⟩), ?_⟩
    exact (HBW.out.trans (HB2.out.mono HBW.out.size)).trans (hset.to_below (by omega) (fun b q => by have q : b = w.heap.size + 1 := q; omega))
set_option maxRecDepth 20000 in set_option maxHeartbeats 8000000 in
theorem spec_RiseAuditor (w : World) (x : Auditor) (cs : List Value) (S : Blks) (hx : rd false w cs x S) (hz : x.sz ≤ 1048576) : Calls Tryz.prog 23 #[.agg cs.toArray] w fun e w' => ∃ c, e = .returned (.agg c.toArray) ∧ rd true w' c (riseAuditor x) (rng w.heap.size w'.heap.size) ∧ Below w.heap.size w w' := by
  have HX := Lib.hid hx
  obtain ⟨A0, k0, S0, A1, k1, S1, A2, k2, S2, A3, k3, S3, rfl, f0, a0, b0, r0, -⟩ := Auditor.open hx
  have HR0 := Lib.hid (Disk.mk' (m := false) (x := x.disk) (S := S0) a0 b0 r0 (sub_refl _))
  have hzd : x.disk.sz ≤ 1048576 := by simp only [Auditor.sz] at hz; omega
  have HF0 := Lib.hid f0
  clear hx a0 b0 r0 f0
  simp only [Auditor.cs] at HX ⊢
  cases hu : x.up
  · have HE := Lib.hid (rise_down hu)
    rw [hu] at HX
    clear hu
    go_enter Tryz.func23, Tryz.ntmps23
    go_upto_region 1 with (fail)
    obtain ⟨W, hW⟩ : ∃ W, (w.alloc (.cells #[.int .i64 x.house, .bool false, .slice A0 x.disk.files.length k0, .slice A1 x.pool.length k1, .slice A2 x.pins.length k2, .slice A3 x.pairs.length k3] 33)).alloc (.cells #[.int .i64 0, .bool false, .slice none 0 0, .slice none 0 0, .slice none 0 0, .slice none 0 0] 33) = W := ⟨_, rfl⟩
    have hWf : Below w.heap.size w W ∧ W.heap.size = w.heap.size + 1 + 1 ∧ Bx W w.heap.size #[.int .i64 x.house, .bool false, .slice A0 x.disk.files.length k0, .slice A1 x.pool.length k1, .slice A2 x.pins.length k2, .slice A3 x.pairs.length k3] 33 ∧ Bx W (w.heap.size + 1) #[.int .i64 0, .bool false, .slice none 0 0, .slice none 0 0, .slice none 0 0, .slice none 0 0] 33 := by
      rw [← hW]
      have e1 : w.heap.size + 1 = (w.alloc (.cells #[.int .i64 x.house, .bool false, .slice A0 x.disk.files.length k0, .slice A1 x.pool.length k1, .slice A2 x.pins.length k2, .slice A3 x.pairs.length k3] 33)).heap.size := by simp
      exact ⟨((Below.refl _ _).alloc (Nat.le_refl _) _).alloc (by simp) _, by simp, (Bx.new _ _ _).keep (Below.heap_alloc _ _ _ (by simp)), by rw [e1]; exact Bx.new _ _ _⟩
    rw [hW]
    clear hW
    obtain ⟨bW, sW, bX, xW⟩ := hWf
    have HXW := Lib.hid (Lay.later HX.out bW); have HBW := Lib.hid bW; have XW := Lib.hid xW
    have hwl : w.heap.size + 1 < W.heap.size := by omega
    have e0 := bX.at_ (i := 0) rfl
    have e1 := bX.at_ (i := 1) rfl
    have e2 := bX.at_ (i := 2) rfl
    have e3 := bX.at_ (i := 3) rfl
    have e4 := bX.at_ (i := 4) rfl
    have e5 := bX.at_ (i := 5) rfl
    clear bX bW xW sW
    go_wp2_with (fail)
    refine (spec_AuditorNew W x.house HF0.out x.disk (Disk.cs x.disk A0 k0) S0 (Lay.later HR0.out HBW.out) hzd).mono ?_
    rintro e2 w2 ⟨c2, rfl, hrd, hb2⟩
    obtain ⟨y, hy⟩ : ∃ y, auditorNew x.house x.disk = y := ⟨_, rfl⟩
    rw [hy] at hrd HE
    clear hy
    obtain ⟨C0, d0, _, C1, d1, _, C2, d2, _, C3, d3, _, rfl, -⟩ := Auditor.open hrd
    have HRD := Lib.hid hrd; have HB2 := Lib.hid hb2
    have xr := XW.out.keep (hb2.block _ hwl)
    have z0 := xr.at_ (i := 0) rfl
    have z1 := xr.at_ (i := 1) rfl
    have z2 := xr.at_ (i := 2) rfl
    have z3 := xr.at_ (i := 3) rfl
    have z4 := xr.at_ (i := 4) rfl
    have z5 := xr.at_ (i := 5) rfl
    have zf := xr.fz
    simp only [Auditor.cs]
    clear hrd hb2 xr e0 e1 e2 e3 e4 e5
    go_wp2_with (fail)
    refine bodyPost_ret (v := .agg #[.int .i64 y.house, .bool y.up, .slice C0 y.disk.files.length d0, .slice C1 y.pool.length d1, .slice C2 y.pins.length d2, .slice C3 y.pairs.length d3]) (by simp [results, Tryz.results23, go_sem, *]) rfl ?_
    rw [HE.out]
    clear z0 z1 z2 z3 z4 z5 zf
    have hset := set6R w2 (w.heap.size + 1) (.int .i64 y.house) (.bool y.up) (.slice C0 y.disk.files.length d0) (.slice C1 y.pool.length d1) (.slice C2 y.pins.length d2) (.slice C3 y.pairs.length d3)
    have h2 := HB2.out.size
    refine ⟨_, rfl, Lay.mono (Lay.tight (Lay.keep (Lay.tight HRD.out) (fun b k => hset.block_ne (by have k1 : W.heap.size ≤ b := k.1.1; omega) k.2))) (fun b k => ⟨by have k1 : W.heap.size ≤ b := k.1.1.1; omega, k.2⟩), ?_⟩
    exact (HBW.out.trans (HB2.out.mono HBW.out.size)).trans (hset.to_below (by omega) (fun b q => by have q : b = w.heap.size + 1 := q; omega))
  · have HE := Lib.hid (rise_up hu)
    rw [hu] at HX
    clear hu
    go_enter Tryz.func23, Tryz.ntmps23
    go_upto_region 1 with (fail)
    obtain ⟨W, hW⟩ : ∃ W, (w.alloc (.cells #[.int .i64 x.house, .bool true, .slice A0 x.disk.files.length k0, .slice A1 x.pool.length k1, .slice A2 x.pins.length k2, .slice A3 x.pairs.length k3] 33)).alloc (.cells #[.int .i64 0, .bool false, .slice none 0 0, .slice none 0 0, .slice none 0 0, .slice none 0 0] 33) = W := ⟨_, rfl⟩
    have hWf : Below w.heap.size w W ∧ W.heap.size = w.heap.size + 1 + 1 ∧ Bx W w.heap.size #[.int .i64 x.house, .bool true, .slice A0 x.disk.files.length k0, .slice A1 x.pool.length k1, .slice A2 x.pins.length k2, .slice A3 x.pairs.length k3] 33 ∧ Bx W (w.heap.size + 1) #[.int .i64 0, .bool false, .slice none 0 0, .slice none 0 0, .slice none 0 0, .slice none 0 0] 33 := by
      rw [← hW]
      have e1 : w.heap.size + 1 = (w.alloc (.cells #[.int .i64 x.house, .bool true, .slice A0 x.disk.files.length k0, .slice A1 x.pool.length k1, .slice A2 x.pins.length k2, .slice A3 x.pairs.length k3] 33)).heap.size := by simp
      exact ⟨((Below.refl _ _).alloc (Nat.le_refl _) _).alloc (by simp) _, by simp, (Bx.new _ _ _).keep (Below.heap_alloc _ _ _ (by simp)), by rw [e1]; exact Bx.new _ _ _⟩
    rw [hW]
    clear hW
    obtain ⟨bW, sW, bX, xW⟩ := hWf
    have HXW := Lib.hid (Lay.later HX.out bW); have HBW := Lib.hid bW; have XW := Lib.hid xW
    have hwl : w.heap.size + 1 < W.heap.size := by omega
    have e0 := bX.at_ (i := 0) rfl
    have e1 := bX.at_ (i := 1) rfl
    have e2 := bX.at_ (i := 2) rfl
    have e3 := bX.at_ (i := 3) rfl
    have e4 := bX.at_ (i := 4) rfl
    have e5 := bX.at_ (i := 5) rfl
    clear bX bW xW sW
    go_wp2_with (fail)
    refine (spec_l22Copy W x _ S HXW.out hz).mono ?_
    rintro e2 w2 ⟨c2, rfl, hrd, hb2⟩
    obtain ⟨y, hy⟩ : ∃ y, x = y := ⟨_, rfl⟩
    have HE2 : Hid (riseAuditor x = y) := Lib.hid (HE.out.trans hy)
    have hrd : rd true w2 c2 y (nw W.heap.size) := by rw [← hy]; exact hrd
    clear HE hy
    have HE := HE2
    clear HE2
    obtain ⟨C0, d0, _, C1, d1, _, C2, d2, _, C3, d3, _, rfl, -⟩ := Auditor.open hrd
    have HRD := Lib.hid hrd; have HB2 := Lib.hid hb2
    have xr := XW.out.keep (hb2.block _ hwl)
    have z0 := xr.at_ (i := 0) rfl
    have z1 := xr.at_ (i := 1) rfl
    have z2 := xr.at_ (i := 2) rfl
    have z3 := xr.at_ (i := 3) rfl
    have z4 := xr.at_ (i := 4) rfl
    have z5 := xr.at_ (i := 5) rfl
    have zf := xr.fz
    simp only [Auditor.cs]
    clear hrd hb2 xr e0 e1 e2 e3 e4 e5
    go_wp2_with (fail)
    refine bodyPost_ret (v := .agg #[.int .i64 y.house, .bool y.up, .slice C0 y.disk.files.length d0, .slice C1 y.pool.length d1, .slice C2 y.pins.length d2, .slice C3 y.pairs.length d3]) (by simp [results, Tryz.results23, go_sem, *]) rfl ?_
    rw [HE.out]
    clear z0 z1 z2 z3 z4 z5 zf
    have hset := set6R w2 (w.heap.size + 1) (.int .i64 y.house) (.bool y.up) (.slice C0 y.disk.files.length d0) (.slice C1 y.pool.length d1) (.slice C2 y.pins.length d2) (.slice C3 y.pairs.length d3)
    have h2 := HB2.out.size
    refine ⟨_, rfl, Lay.mono (Lay.tight (Lay.keep (Lay.tight HRD.out) (fun b k => hset.block_ne (by have k1 : W.heap.size ≤ b := k.1; omega) k.2))) (fun b k => ⟨by have k1 : W.heap.size ≤ b := k.1.1; omega, k.2⟩), ?_⟩
    exact (HBW.out.trans (HB2.out.mono HBW.out.size)).trans (hset.to_below (by omega) (fun b q => by have q : b = w.heap.size + 1 := q; omega))
end Go.Proofs.YtlfnmbcnehaikaaGreatDoor
