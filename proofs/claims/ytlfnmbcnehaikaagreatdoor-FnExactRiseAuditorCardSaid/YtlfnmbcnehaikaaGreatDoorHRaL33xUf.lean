/- A part of the proof: what the laws need of it. -/
import Derived.Test.YtlfnmbcnehaikaaGreatDoorHRaUd
import Derived.Test.YtlfnmbcnehaikaaGreatDoorHRaL23xRo
set_option linter.unusedVariables false
set_option linter.unusedSimpArgs false
set_option linter.unusedVariables false
set_option linter.unusedSimpArgs false
namespace Go.Proofs.YtlfnmbcnehaikaaGreatDoor
open Go.RowKit Lay Mk
theorem aud_szs {x : Auditor} (hz : x.sz ≤ 1048576) : szL x.disk.files ≤ 1048576 ∧ szL x.pool ≤ 1048576 ∧ szL x.pins ≤ 1048576 ∧ szL x.pairs ≤ 1048576 ∧ x.disk.files.length ≤ 1048576 ∧ x.pool.length ≤ 1048576 ∧ x.pins.length ≤ 1048576 ∧ x.pairs.length ≤ 1048576 := by
  simp only [Auditor.sz, Disk.sz] at hz
  have := szT_le x.disk.files 0
  have := szT_le x.pool 0
  have := szT_le x.pins 0
  have := szT_le x.pairs 0
  omega
set_option maxRecDepth 20000 in set_option maxHeartbeats 8000000 in
theorem impl_copyAuditor (w : World) (x : Auditor) (cs : List Value) (S : Blks) (hx : rd false w cs x S) (hz : x.sz ≤ 1048576) : Calls Tryz.prog 68 #[.agg cs.toArray] w (AudRes x w) := by
  obtain ⟨z0, z1, z2, z3, l0, l1, l2, l3⟩ := aud_szs hz
  obtain ⟨A0, k0, S0, A1, k1, S1, A2, k2, S2, A3, k3, S3, rfl, f0, -, -, r0, -, -, -, r1, -, -, -, r2, -, -, -, r3, -⟩ := Auditor.open hx
  clear hx
  simp only [Auditor.cs]
  go_enter Tryz.func68, Tryz.ntmps68
  go_upto_region 1 with (fail)
  obtain ⟨W, hW⟩ : ∃ W, (w.alloc (.cells #[.int .i64 x.house, .bool x.up, .slice A0 x.disk.files.length k0, .slice A1 x.pool.length k1, .slice A2 x.pins.length k2, .slice A3 x.pairs.length k3] 33)).alloc (.cells #[.int .i64 0, .bool false, .slice none 0 0, .slice none 0 0, .slice none 0 0, .slice none 0 0] 33) = W := ⟨_, rfl⟩
  have hWf : Below w.heap.size w W ∧ W.heap.size = w.heap.size + 1 + 1 ∧ Bx W w.heap.size #[.int .i64 x.house, .bool x.up, .slice A0 x.disk.files.length k0, .slice A1 x.pool.length k1, .slice A2 x.pins.length k2, .slice A3 x.pairs.length k3] 33 ∧ Bx W (w.heap.size + 1) #[.int .i64 0, .bool false, .slice none 0 0, .slice none 0 0, .slice none 0 0, .slice none 0 0] 33 := by
    rw [← hW]
    have e1 : w.heap.size + 1 = (w.alloc (.cells #[.int .i64 x.house, .bool x.up, .slice A0 x.disk.files.length k0, .slice A1 x.pool.length k1, .slice A2 x.pins.length k2, .slice A3 x.pairs.length k3] 33)).heap.size := by simp
    exact ⟨((Below.refl _ _).alloc (Nat.le_refl _) _).alloc (by simp) _, by simp, (Bx.new _ _ _).keep (Below.heap_alloc _ _ _ (by simp)), by rw [e1]; exact Bx.new _ _ _⟩
  rw [hW]
  clear hW
  obtain ⟨bW, sW, bX, xW⟩ := hWf
  have R0 := Lib.hid (Row.later r0 bW); have R1 := Lib.hid (Row.later r1 bW); have R2 := Lib.hid (Row.later r2 bW); have R3 := Lib.hid (Row.later r3 bW)
  have HBW := Lib.hid bW; have XW := Lib.hid xW
  have HM := Lib.hid (fun (w' : World) (h : Below (w.heap.size + 1) W w') => (⟨(h.cell (p := ⟨w.heap.size, 0, none⟩) (by show w.heap.size < w.heap.size + 1; omega)).trans (bX.at_ (i := 0) rfl), (h.cell (p := ⟨w.heap.size, 1, none⟩) (by show w.heap.size < w.heap.size + 1; omega)).trans (bX.at_ (i := 1) rfl), (h.cell (p := ⟨w.heap.size, 2, none⟩) (by show w.heap.size < w.heap.size + 1; omega)).trans (bX.at_ (i := 2) rfl), (h.cell (p := ⟨w.heap.size, 3, none⟩) (by show w.heap.size < w.heap.size + 1; omega)).trans (bX.at_ (i := 3) rfl), (h.cell (p := ⟨w.heap.size, 4, none⟩) (by show w.heap.size < w.heap.size + 1; omega)).trans (bX.at_ (i := 4) rfl), (h.cell (p := ⟨w.heap.size, 5, none⟩) (by show w.heap.size < w.heap.size + 1; omega)).trans (bX.at_ (i := 5) rfl), h⟩ : w'.cell? ⟨w.heap.size, 0, none⟩ = some (.int .i64 x.house) ∧ w'.cell? ⟨w.heap.size, 1, none⟩ = some (.bool x.up) ∧ w'.cell? ⟨w.heap.size, 2, none⟩ = some (.slice A0 x.disk.files.length k0) ∧ w'.cell? ⟨w.heap.size, 3, none⟩ = some (.slice A1 x.pool.length k1) ∧ w'.cell? ⟨w.heap.size, 4, none⟩ = some (.slice A2 x.pins.length k2) ∧ w'.cell? ⟨w.heap.size, 5, none⟩ = some (.slice A3 x.pairs.length k3) ∧ Below (w.heap.size + 1) W w'))
  have hB := Below.refl W.heap.size W
  have hwl : w.heap.size + 1 < W.heap.size := by omega
  have HF0 := Lib.hid f0
  have HSW := Lib.hid sW
  clear r0 r1 r2 r3 bW bX xW sW f0
  go_region_held3 (fun w' => w'.cell? ⟨w.heap.size, 0, none⟩ = some (.int .i64 x.house) ∧ w'.cell? ⟨w.heap.size, 1, none⟩ = some (.bool x.up) ∧ w'.cell? ⟨w.heap.size, 2, none⟩ = some (.slice A0 x.disk.files.length k0) ∧ w'.cell? ⟨w.heap.size, 3, none⟩ = some (.slice A1 x.pool.length k1) ∧ w'.cell? ⟨w.heap.size, 4, none⟩ = some (.slice A2 x.pins.length k2) ∧ w'.cell? ⟨w.heap.size, 5, none⟩ = some (.slice A3 x.pairs.length k3) ∧ Below (w.heap.size + 1) W w')
    (exact HM.out _ (by (repeat (first | with_reducible exact hB.mono (Nat.le_of_lt hwl) | with_reducible refine Below.setCell ?_ ?_ _ | with_reducible refine Below.alloc ?_ ?_ _ | with_reducible apply Below.drew)); all_goals (first | omega | (simp; done) | (simp; omega))))
    (first | (go_at_call 80; refine (impl_copyDisk _ x.disk.files A0 k0 S0 (Row.later R0.out (by first | exact hB | exact hB.drew)) (by omega)).mono ?_; rintro e1 w1 ⟨B0, b0, rfl, o1⟩; have hb1 := o1.bl; have O1 := Lib.hid o1.rng; have L1 := Lib.hid (And.intro o1.le o1.cm); have hs1 := hb1.size; (try simp at hs1); have hB := Below.step (a := W) (by first | exact hB | exact hB.drew) hb1; clear o1) | (go_at_call 81; refine (impl_copyTexts _ x.pool A1 k1 S1 (Row.later R1.out (by first | exact hB | exact hB.drew)) (by omega)).mono ?_; rintro e2 w2 ⟨B1, b1, rfl, g1, m1, o2, hb2⟩; have O2 := Lib.hid o2; have L2 := Lib.hid (And.intro g1 m1); have hs2 := hb2.size; (try simp at hs2); have hB := Below.step (a := W) (by first | exact hB | exact hB.drew) hb2; replace hb2 := Lib.hid hb2; clear o2 g1 m1) | (go_at_call 105; refine (impl_copySeals _ x.pins A2 k2 S2 (Row.later R2.out (by first | exact hB | exact hB.drew)) z2).mono ?_; rintro e3 w3 ⟨B2, b2, rfl, o3⟩; have hb3 := o3.bl; have O3 := Lib.hid o3.rng; have L3 := Lib.hid (And.intro o3.le o3.cm); have hs3 := hb3.size; (try simp at hs3); have hB := Below.step (a := W) (by first | exact hB | exact hB.drew) hb3; replace hb3 := Lib.hid hb3; clear o3) | (go_at_call 106; refine (impl_copyPairs _ x.pairs A3 k3 S3 (Row.later R3.out (by first | exact hB | exact hB.drew)) z3).mono ?_; rintro e4 w4 ⟨B3, b3, rfl, o4⟩; have hb4 := o4.bl; have O4 := Lib.hid o4.rng; have L4 := Lib.hid (And.intro o4.le o4.cm); have hs4 := hb4.size; (try simp at hs4); have hB := Below.step (a := W) (by first | exact hB | exact hB.drew) hb4; replace hb4 := Lib.hid hb4; have HB4 := Lib.hid hB; have xr := XW.out.keep (HB4.out.block _ hwl); have y0 := xr.at_ (i := 0) rfl; have y1 := xr.at_ (i := 1) rfl; have y2 := xr.at_ (i := 2) rfl; have y3 := xr.at_ (i := 3) rfl; have y4 := xr.at_ (i := 4) rfl; have y5 := xr.at_ (i := 5) rfl; have yf := xr.fz; clear o4 xr))
  go_wp2_with (fail)
  refine bodyPost_ret (v := .agg #[.int .i64 x.house, .bool x.up, .slice B0 x.disk.files.length b0, .slice B1 x.pool.length b1, .slice B2 x.pins.length b2, .slice B3 x.pairs.length b3]) (by simp [results, Tryz.results68, go_sem, *]) rfl ?_
  clear y0 y1 y2 y3 y4 y5 yf
  have hset := set6R w4 (w.heap.size + 1) (.int .i64 x.house) (.bool x.up) (.slice B0 x.disk.files.length b0) (.slice B1 x.pool.length b1) (.slice B2 x.pins.length b2) (.slice B3 x.pairs.length b3)
  have hs9 := HB4.out.size
  have q0 := Row.later (Row.later (Row.later O1.out hb2.out) hb3.out) hb4.out
  have q1 := Row.later (Row.later O2.out hb3.out) hb4.out
  have q2 := Row.later O3.out hb4.out
  have q3 := O4.out
  have hrd : rd true w4 (Auditor.cs x B0 b0 B1 b1 B2 b2 B3 b3) x (nw W.heap.size) := Auditor.mk' HF0.out L1.out.1 L1.out.2 q0 (fun b k => k.1) L2.out.1 L2.out.2 q1 (fun b k => Nat.le_trans hs1 k.1) L3.out.1 L3.out.2 q2 (fun b k => Nat.le_trans (Nat.le_trans hs1 hs2) k.1) L4.out.1 L4.out.2 q3 (fun b k => Nat.le_trans (Nat.le_trans (Nat.le_trans hs1 hs2) hs3) k.1) (fun _ => pwmk4 (rng_dj (Nat.le_refl _)) (rng_dj (by omega)) (rng_dj (by omega)) (rng_dj (Nat.le_refl _)) (rng_dj (by omega)) (rng_dj (Nat.le_refl _)))
  refine ⟨_, rfl, Lay.mono (Lay.keep (Lay.tight hrd) (fun b k => hset.block_ne (by have k1 : W.heap.size ≤ b := k.1; omega) k.2)) (fun b k => by have k1 : W.heap.size ≤ b := k.1; show w.heap.size ≤ b; omega), ?_⟩
  exact (HBW.out.trans (HB4.out.mono HBW.out.size)).trans (hset.to_below (by omega) (fun b q => by have q : b = w.heap.size + 1 := q; omega))
end Go.Proofs.YtlfnmbcnehaikaaGreatDoor

set_option linter.unusedVariables false
set_option linter.unusedSimpArgs false
namespace Go.Proofs.YtlfnmbcnehaikaaGreatDoor
open Go.RowKit Lay Mk
theorem seed_le (n : Int) : (seedOf n).size ≤ maxLen := by
  unfold seedOf
  split
  · rw [ByteArray.size_append]; show 5 + 1 ≤ maxLen; decide
  · exact Nat.zero_le _
theorem file_sizes {xs : List File} {n : Nat} (hz : szL xs ≤ n) : ∀ k (h : k < xs.length), xs[k].text.size ≤ n := fun k h => by
  have h1 := sz_get' h hz
  have h2 : (xs[k]).sz ≤ n := h1
  simp only [File.sz] at h2
  omega
set_option maxRecDepth 20000 in set_option maxHeartbeats 8000000 in
theorem impl_AuditorNew (w : World) (house : Int) (hi : I64 house) (x : Disk) (cs : List Value) (S : Blks) (hx : rd false w cs x S) (hz : x.sz ≤ 1048576) (hT : Tabs w) : Calls Tryz.prog 10 #[.int .i64 house, .agg cs.toArray] w fun e w' => ∃ c, e = .returned (.agg c.toArray) ∧ rd true w' c (auditorNew house x) (rng w.heap.size w'.heap.size) ∧ Below w.heap.size w w' := by
  obtain ⟨A, cap, S1, rfl, -, -, hr, -⟩ := Disk.open hx
  have hzf : szL x.files ≤ 1048576 := hz
  have hl := szT_le x.files 0
  have hl2 : x.files.length ≤ 2000000000 := by omega
  have HFZ := Lib.hid (file_sizes hzf)
  have HSL := Lib.hid (seed_le house)
  have HPL : Hid ((poolOf (seedOf house)).length ≤ 2000000000) := Lib.hid (by unfold poolOf; rw [poolTo_len]; decide)
  have HT := Lib.hid hT
  clear hT
  simp only [Disk.cs]
  clear hx hz hzf hl
  go_enter Tryz.func10, Tryz.ntmps10
  go_upto_region 1 with (fail)
  obtain ⟨W, hW⟩ : ∃ W, (w.alloc (.cells #[.slice A x.files.length cap] 28)).alloc (.cells #[.int .i64 0, .bool false, .slice none 0 0, .slice none 0 0, .slice none 0 0, .slice none 0 0] 33) = W := ⟨_, rfl⟩
  have hWf : Below w.heap.size w W ∧ W.heap.size = w.heap.size + 1 + 1 ∧ W.cell? ⟨w.heap.size, 0, none⟩ = some (.slice A x.files.length cap) ∧ Bx W (w.heap.size + 1) #[.int .i64 0, .bool false, .slice none 0 0, .slice none 0 0, .slice none 0 0, .slice none 0 0] 33 := by
    rw [← hW]
    have e1 : w.heap.size + 1 = (w.alloc (.cells #[.slice A x.files.length cap] 28)).heap.size := by simp
    exact ⟨((Below.refl _ _).alloc (Nat.le_refl _) _).alloc (by simp) _, by simp, cell_alloc (box_cell _ _ _ _ _ rfl), by rw [e1]; exact Bx.new _ _ _⟩
  rw [hW]
  clear hW
  obtain ⟨bW, sW, cW, xW⟩ := hWf
  have HXW := Lib.hid (Row.later hr bW); have HBW := Lib.hid bW; have XW := Lib.hid xW
  have HTW := Lib.hid (HT.out.later HBW.out)
  obtain ⟨y, hy⟩ : ∃ y, auditorFrom house ⟨x.files⟩ (poolOf (seedOf house)) = y := ⟨_, rfl⟩
  have HY := Lib.hid hy
  have HZ : Hid (auditorNew house x = y) := Lib.hid hy
  clear hy
  have HM := Lib.hid (fun (w' : World) (h : Below (w.heap.size + 1) W w') => (⟨(h.cell (p := ⟨w.heap.size, 0, none⟩) (by show w.heap.size < w.heap.size + 1; omega)).trans cW, h⟩ : w'.cell? ⟨w.heap.size, 0, none⟩ = some (.slice A x.files.length cap) ∧ Below (w.heap.size + 1) W w'))
  have hB := Below.refl W.heap.size W
  have hwl : w.heap.size + 1 < W.heap.size := by omega
  clear hr bW cW xW sW
  go_region_held3 (fun w' => w'.cell? ⟨w.heap.size, 0, none⟩ = some (.slice A x.files.length cap) ∧ Below (w.heap.size + 1) W w')
    (exact HM.out _ (by (repeat (first | with_reducible exact hB.mono (Nat.le_of_lt hwl) | with_reducible refine Below.setCell ?_ ?_ _ | with_reducible refine Below.alloc ?_ ?_ _ | with_reducible apply Below.drew)); all_goals (first | omega | (simp; done) | (simp; omega))))
    (first | (go_at_call 35; refine (impl_SeedOf _ house hi).mono ?_; rintro e1 w1 ⟨rfl, hb1⟩; have hs1 := hb1.size; (try simp at hs1); have hB := Below.step (a := W) (by first | exact hB | exact hB.drew) hb1) | (go_at_call 34; refine (impl_PoolOf _ (seedOf house) HSL.out (HTW.out.later (by first | exact hB | exact hB.drew))).mono ?_; rintro e2 w2 ⟨A2, c2, rfl, o2⟩; have O2 := Lib.hid o2.weak; have hb2 := o2.bl; have hs2 := hb2.size; (try simp at hs2); have hB := Below.step (a := W) (by first | exact hB | exact hB.drew) hb2; clear o2) | (go_at_call 33; refine (impl_auditorFrom _ house hi x.files A cap S1 (Row.later HXW.out (by first | exact hB | exact hB.drew)) hl2 HFZ.out (poolOf (seedOf house)) A2 c2 _ (by first | exact O2.out | exact Row.later O2.out ((Below.refl _ _).drew)) HPL.out).mono ?_; rintro e3 w3 ⟨c3, rfl, hrd, hb3⟩; rw [HY.out] at hrd; have HRD := Lib.hid hrd; have hs3 := hb3.size; (try simp at hs3); have hB := Below.step (a := W) (by first | exact hB | exact hB.drew) hb3; have HB3 := Lib.hid hB; obtain ⟨C0, d0, _, C1, d1, _, C2, d2, _, C3, d3, _, rfl, -⟩ := Auditor.open hrd; simp only [Auditor.cs]; have xr := XW.out.keep (HB3.out.block _ hwl); have y0 := xr.at_ (i := 0) rfl; have y1 := xr.at_ (i := 1) rfl; have y2 := xr.at_ (i := 2) rfl; have y3 := xr.at_ (i := 3) rfl; have y4 := xr.at_ (i := 4) rfl; have y5 := xr.at_ (i := 5) rfl; have yf := xr.fz; clear hrd xr))
  go_wp2_with (fail)
  refine bodyPost_ret (v := .agg #[.int .i64 y.house, .bool y.up, .slice C0 y.disk.files.length d0, .slice C1 y.pool.length d1, .slice C2 y.pins.length d2, .slice C3 y.pairs.length d3]) (by simp [results, Tryz.results10, go_sem, *]) rfl ?_
  rw [HZ.out]
  clear y0 y1 y2 y3 y4 y5 yf
  have hset := set6R w3 (w.heap.size + 1) (.int .i64 y.house) (.bool y.up) (.slice C0 y.disk.files.length d0) (.slice C1 y.pool.length d1) (.slice C2 y.pins.length d2) (.slice C3 y.pairs.length d3)
  have h2 := HB3.out.size
  refine ⟨_, rfl, Lay.mono (Lay.tight (Lay.keep (Lay.tight HRD.out) (fun b k => hset.block_ne (by have k1 : w2.heap.size ≤ b := k.1; omega) k.2))) (fun b k => ⟨by have k1 : w2.heap.size ≤ b := k.1.1; omega, k.2⟩), ?_⟩
  exact (HBW.out.trans (HB3.out.mono HBW.out.size)).trans (hset.to_below (by omega) (fun b q => by have q : b = w.heap.size + 1 := q; omega))
set_option maxRecDepth 20000 in set_option maxHeartbeats 8000000 in
theorem spec_AuditorNew (w : World) (house : Int) (hi : I64 house) (x : Disk) (cs : List Value) (S : Blks) (hx : rd false w cs x S) (hz : x.sz ≤ 1048576) : Calls Tryz.prog 8 #[.int .i64 house, .agg cs.toArray] w fun e w' => ∃ c, e = .returned (.agg c.toArray) ∧ rd true w' c (auditorNew house x) (rng w.heap.size w'.heap.size) ∧ Below w.heap.size w w' := by
  obtain ⟨A, cap, S1, rfl, -, -, hr, -⟩ := Disk.open hx
  have hzf : szL x.files ≤ 1048576 := hz
  have hl := szT_le x.files 0
  have hl2 : x.files.length ≤ 2000000000 := by omega
  have HFZ := Lib.hid (file_sizes hzf)
  have HSL := Lib.hid (seed_le house)
  have HPL : Hid ((poolOf (seedOf house)).length ≤ 2000000000) := Lib.hid (by unfold poolOf; rw [poolTo_len]; decide)
  simp only [Disk.cs]
  clear hx hz hzf hl
  go_enter Tryz.func8, Tryz.ntmps8
  go_upto_region 1 with (fail)
  obtain ⟨W, hW⟩ : ∃ W, (w.alloc (.cells #[.slice A x.files.length cap] 28)).alloc (.cells #[.int .i64 0, .bool false, .slice none 0 0, .slice none 0 0, .slice none 0 0, .slice none 0 0] 33) = W := ⟨_, rfl⟩
  have hWf : Below w.heap.size w W ∧ W.heap.size = w.heap.size + 1 + 1 ∧ W.cell? ⟨w.heap.size, 0, none⟩ = some (.slice A x.files.length cap) ∧ Bx W (w.heap.size + 1) #[.int .i64 0, .bool false, .slice none 0 0, .slice none 0 0, .slice none 0 0, .slice none 0 0] 33 := by
    rw [← hW]
    have e1 : w.heap.size + 1 = (w.alloc (.cells #[.slice A x.files.length cap] 28)).heap.size := by simp
    exact ⟨((Below.refl _ _).alloc (Nat.le_refl _) _).alloc (by simp) _, by simp, cell_alloc (box_cell _ _ _ _ _ rfl), by rw [e1]; exact Bx.new _ _ _⟩
  rw [hW]
  clear hW
  obtain ⟨bW, sW, cW, xW⟩ := hWf
  have HXW := Lib.hid (Row.later hr bW); have HBW := Lib.hid bW; have XW := Lib.hid xW
  obtain ⟨y, hy⟩ : ∃ y, auditorFrom house ⟨x.files⟩ (poolOf (seedOf house)) = y := ⟨_, rfl⟩
  have HY := Lib.hid hy
  have HZ : Hid (auditorNew house x = y) := Lib.hid hy
  clear hy
  have HM := Lib.hid (fun (w' : World) (h : Below (w.heap.size + 1) W w') => (⟨(h.cell (p := ⟨w.heap.size, 0, none⟩) (by show w.heap.size < w.heap.size + 1; omega)).trans cW, h⟩ : w'.cell? ⟨w.heap.size, 0, none⟩ = some (.slice A x.files.length cap) ∧ Below (w.heap.size + 1) W w'))
  have hB := Below.refl W.heap.size W
  have hwl : w.heap.size + 1 < W.heap.size := by omega
  clear hr bW cW xW sW
  go_region_held3 (fun w' => w'.cell? ⟨w.heap.size, 0, none⟩ = some (.slice A x.files.length cap) ∧ Below (w.heap.size + 1) W w')
    (exact HM.out _ (by (repeat (first | with_reducible exact hB.mono (Nat.le_of_lt hwl) | with_reducible refine Below.setCell ?_ ?_ _ | with_reducible refine Below.alloc ?_ ?_ _ | with_reducible apply Below.drew)); all_goals (first | omega | (simp; done) | (simp; omega))))
    (first | (go_at_call 31; refine (spec_SeedOf _ house hi).mono ?_; rintro e1 w1 ⟨rfl, hb1⟩; have hs1 := hb1.size; (try simp at hs1); have hB := Below.step (a := W) (by first | exact hB | exact hB.drew) hb1) | (go_at_call 30; refine (spec_PoolOf _ (seedOf house) HSL.out).mono ?_; rintro e2 w2 ⟨A2, c2, rfl, o2⟩; have O2 := Lib.hid o2.weak; have hb2 := o2.bl; have hs2 := hb2.size; (try simp at hs2); have hB := Below.step (a := W) (by first | exact hB | exact hB.drew) hb2; clear o2) | (go_at_call 29; refine (spec_l22New _ house hi x.files A cap S1 (Row.later HXW.out (by first | exact hB | exact hB.drew)) hl2 HFZ.out (poolOf (seedOf house)) A2 c2 _ (by first | exact O2.out | exact Row.later O2.out ((Below.refl _ _).drew)) HPL.out).mono ?_; rintro e3 w3 ⟨c3, rfl, hrd, hb3⟩; rw [HY.out] at hrd; have HRD := Lib.hid hrd; have hs3 := hb3.size; (try simp at hs3); have hB := Below.step (a := W) (by first | exact hB | exact hB.drew) hb3; have HB3 := Lib.hid hB; obtain ⟨C0, d0, _, C1, d1, _, C2, d2, _, C3, d3, _, rfl, -⟩ := Auditor.open hrd; simp only [Auditor.cs]; have xr := XW.out.keep (HB3.out.block _ hwl); have y0 := xr.at_ (i := 0) rfl; have y1 := xr.at_ (i := 1) rfl; have y2 := xr.at_ (i := 2) rfl; have y3 := xr.at_ (i := 3) rfl; have y4 := xr.at_ (i := 4) rfl; have y5 := xr.at_ (i := 5) rfl; have yf := xr.fz; clear hrd xr))
  go_wp2_with (fail)
  refine bodyPost_ret (v := .agg #[.int .i64 y.house, .bool y.up, .slice C0 y.disk.files.length d0, .slice C1 y.pool.length d1, .slice C2 y.pins.length d2, .slice C3 y.pairs.length d3]) (by simp [results, Tryz.results8, go_sem, *]) rfl ?_
  rw [HZ.out]
  clear y0 y1 y2 y3 y4 y5 yf
  have hset := set6R w3 (w.heap.size + 1) (.int .i64 y.house) (.bool y.up) (.slice C0 y.disk.files.length d0) (.slice C1 y.pool.length d1) (.slice C2 y.pins.length d2) (.slice C3 y.pairs.length d3)
  have h2 := HB3.out.size
  refine ⟨_, rfl, Lay.mono (Lay.tight (Lay.keep (Lay.tight HRD.out) (fun b k => hset.block_ne (by have k1 : w2.heap.size ≤ b := k.1; omega) k.2))) (fun b k => ⟨by have k1 : w2.heap.size ≤ b := k.1.1; omega, k.2⟩), ?_⟩
  exact (HBW.out.trans (HB3.out.mono HBW.out.size)).trans (hset.to_below (by omega) (fun b q => by have q : b = w.heap.size + 1 := q; omega))
end Go.Proofs.YtlfnmbcnehaikaaGreatDoor
