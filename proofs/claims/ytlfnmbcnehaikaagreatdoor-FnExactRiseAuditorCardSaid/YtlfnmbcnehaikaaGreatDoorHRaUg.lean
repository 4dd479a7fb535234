/- A part of the proof: what the laws need of it. -/
import Derived.Test.YtlfnmbcnehaikaaGreatDoorHRaL33xUf
import Derived.Test.YtlfnmbcnehaikaaGreatDoorHRaL12xDh
set_option linter.unusedVariables false
set_option linter.unusedSimpArgs false
set_option linter.unusedVariables false
set_option linter.unusedSimpArgs false
namespace Go.Proofs.YtlfnmbcnehaikaaGreatDoor
open Go.RowKit Lay Mk
set_option maxHeartbeats 4000000 in
theorem wp_buildPair {ops : Array Oper} {o : Oper} {a : Act} {w : World} {K : Act → World → Prop} {Q : Exit → Act → World → Prop} {E : Prop} (hgd : o.guard = none) (x : Operand) (ho : o.op = .buildSlice 31 1 #[(0, x)]) {u0 u1 u2 u3 u4 u5 u6 u7 u8 u9 u10 u11 u12 u13 u14 u15 : Value} (hx : a.eval x = .agg #[u0, u1, u2, u3, u4, u5, u6, u7, u8, u9, u10, u11, u12, u13, u14, u15]) (h : K (a.put o.dst (.slice (some ⟨w.heap.size, 0, none⟩) 1 1)) (w.alloc (.cells #[u0, u1, u2, u3, u4, u5, u6, u7, u8, u9, u10, u11, u12, u13, u14, u15] 79))) : if Region.wanted o (yielded ops a.tmps) = true then Oper.wp Tryz.prog o a w K Q else E := by
  have hw : Region.wanted o (yielded ops a.tmps) = true := by simp [Region.wanted, hgd]
  rw [if_pos hw]
  unfold Oper.wp execOp
  simp only [ho]
  simp only [List.map_toArray, List.map_cons, List.map_nil, hx]
  clear hx ho hgd hw
  go_simp
  exact h
set_option maxHeartbeats 1000000 in
theorem yieldsIf_pair {ops : Array Oper} {S : World → Prop} {o : Oper} {a : Act} (hw : Region.wanted o (yielded ops a.tmps) = true) (x y : Operand) (ho : o.op = .build 79 #[(0, x), (1, y)]) {u0 u1 u2 u3 u4 u5 u6 u7 u8 u9 u10 u11 u12 u13 u14 u15 : Value} (hx : a.eval x = .agg #[u0, u1, u2, u3, u4, u5, u6, u7]) (hy : a.eval y = .agg #[u8, u9, u10, u11, u12, u13, u14, u15]) : YieldsIf Tryz.prog ops S o (.agg #[u0, u1, u2, u3, u4, u5, u6, u7, u8, u9, u10, u11, u12, u13, u14, u15]) a := by
  refine .inl ⟨hw, fun w hS => ?_⟩
  clear hS
  unfold execOp
  simp only [ho]
  simp only [List.map_toArray, List.map_cons, List.map_nil, hx, hy]
  clear hx hy ho hw
  go_simp
set_option maxRecDepth 20000 in set_option maxHeartbeats 8000000 in
theorem spec_l22Copy (w : World) (x : Auditor) (cs : List Value) (S : Blks) (hx : rd false w cs x S) (hz : x.sz ≤ 1048576) : Calls Tryz.prog 67 #[.agg cs.toArray] w (AudRes x w) := by
  obtain ⟨z0, z1, z2, z3, l0, l1, l2, l3⟩ := aud_szs hz
  obtain ⟨A0, k0, S0, A1, k1, S1, A2, k2, S2, A3, k3, S3, rfl, f0, -, -, r0, -, -, -, r1, -, -, -, r2, -, -, -, r3, -⟩ := Auditor.open hx
  clear hx
  simp only [Auditor.cs]
  go_enter Tryz.func67, Tryz.ntmps67
  go_upto_region 1 with (fail)
  obtain ⟨W, hW⟩ : ∃ W, (w.alloc (.cells #[.int .i64 x.house, .bool x.up, .slice A0 x.disk.files.length k0, .slice A1 x.pool.length k1, .slice A2 x.pins.length k2, .slice A3 x.pairs.length k3] 33)).alloc (.cells #[.int .i64 0, .bool false, .slice none 0 0, .slice none 0 0, .slice none 0 0, .slice none 0 0] 33) = W := ⟨_, rfl⟩
  have hWf : Below w.heap.size w W ∧ W.heap.size = w.heap.size + 1 + 1 ∧ Bx W w.heap.size #[.int .i64 x.house, .bool x.up, .slice A0 x.disk.files.length k0, .slice A1 x.pool.length k1, .slice A2 x.pins.length k2, .slice A3 x.pairs.length k3] 33 ∧ Bx W (w.heap.size + 1) #[.int .i64 0, .bool false, .slice none 0 0, .slice none 0 0, .slice none 0 0, .slice none 0 0] 33 := by
    rw [← hW]
    have e1 : w.heap.size + 1 = (w.alloc (.cells #[.int .i64 x.house, .bool x.up, .slice A0 x.disk.files.length k0, .slice A1 x.pool.length k1, .slice A2 x.pins.length k2, .slice A3 x.pairs.length k3] 33)).heap.size := by simp
    exact ⟨((Below.refl _ _).alloc (Nat.le_refl _) _).alloc (by simp) _, by simp, (Bx.new _ _ _).keep (Below.heap_alloc _ _ _ (by simp)), by rw [e1]; exact Bx.new _ _ _⟩
  rw [hW]
  clear hW
  obtain ⟨bW, sW, bX, xW⟩ := hWf
  have R0 := Lib.hid (Row.later r0 bW); have R1 := Lib.hid (Row.later r1 bW); have R2 := Lib.hid (Row.later r2 bW); have R3 := Lib.hid (Row.later r3 bW)
  have HBW := Lib.hid bW; have XW := Lib.hid xW; have HF0 := Lib.hid f0; have BX := Lib.hid bX
  have hwl : w.heap.size + 1 < W.heap.size := by omega
  have HSW := Lib.hid sW
  clear r0 r1 r2 r3 bW xW sW f0
  have e0 := bX.at_ (i := 0) rfl
  have e1 := bX.at_ (i := 1) rfl
  have e2 := bX.at_ (i := 2) rfl
  have e3 := bX.at_ (i := 3) rfl
  have e4 := bX.at_ (i := 4) rfl
  have e5 := bX.at_ (i := 5) rfl
  clear bX
  go_upto_region 2 with (fail)
  obtain ⟨g, hg⟩ : ∃ g, W.heap.size = g := ⟨_, rfl⟩
  obtain ⟨V, hV⟩ : ∃ V, W.alloc (.cells #[.int .i64 x.house, .bool x.up, .slice A0 x.disk.files.length k0, .slice A1 x.pool.length k1, .slice A2 x.pins.length k2, .slice A3 x.pairs.length k3] 33) = V := ⟨_, rfl⟩
  have hVf : Below W.heap.size W V ∧ V.heap.size = g + 1 ∧ Bx V g #[.int .i64 x.house, .bool x.up, .slice A0 x.disk.files.length k0, .slice A1 x.pool.length k1, .slice A2 x.pins.length k2, .slice A3 x.pairs.length k3] 33 := by rw [← hV, ← hg]; exact ⟨(Below.refl _ _).alloc (Nat.le_refl _) _, by simp, Bx.new _ _ _⟩
  rw [hV]
  clear hV e0 e1 e2 e3 e4 e5
  obtain ⟨bV, sV, xV⟩ := hVf
  have HBV := Lib.hid bV
  have hgV : g < V.heap.size := by omega
  have hwg : w.heap.size + 1 < g := by omega
  have hwV : w.heap.size < V.heap.size := by omega
  rw [hg] at HBV
  have BXV := Lib.hid (BX.out.keep (bV.block _ (by omega)))
  have e0 := BXV.out.at_ (i := 0) rfl
  have e1 := BXV.out.at_ (i := 1) rfl
  have e2 := BXV.out.at_ (i := 2) rfl
  have e3 := BXV.out.at_ (i := 3) rfl
  have e4 := BXV.out.at_ (i := 4) rfl
  have e5 := BXV.out.at_ (i := 5) rfl
  have y0 := xV.at_ (i := 0) rfl
  have y1 := xV.at_ (i := 1) rfl
  have y2 := xV.at_ (i := 2) rfl
  have y3 := xV.at_ (i := 3) rfl
  have y4 := xV.at_ (i := 4) rfl
  have y5 := xV.at_ (i := 5) rfl
  have yf := xV.fz
  have XV := Lib.hid xV
  have HG := Lib.hid hg
  simp only [hg]
  clear bV sV xV hg
  go_upto_region 3 with (at_builtin; refine wpList_push (α := File) (w0 := V) rfl _ _ rfl rfl rfl (Own.litAt (Below.refl V.heap.size V) 102 rfl rfl) rfl rfl (Src.flat (Row.later R0.out (by rw [HG.out]; exact HBV.out.alloc (Nat.le_of_lt hgV) _))) (by omega) ?_; intro B0 b0 w1 o1 s1; have O1 := Lib.hid o1; have hs1 := o1.bl.size; have xg1 := XV.out.keep (o1.bl.block g hgV); have u2 := xg1.at_ (i := 2) rfl; have uf := xg1.fz; clear o1 s1 xg1)
  obtain ⟨U1, hU⟩ : ∃ U, w1.setCell ⟨g, 2, none⟩ (.slice B0 x.disk.files.length b0) = U := ⟨_, rfl⟩
  have hU1 : U1.heap.size = w1.heap.size := by rw [← hU]; simp
  have HB1 : Hid (Below g W U1) := Lib.hid (by rw [← hU]; exact (HBV.out.trans (O1.out.bl.mono (Nat.le_of_lt hgV))).setCell (Nat.le_refl _) _)
  have XU1 : Hid (Bx U1 g #[.int .i64 x.house, .bool x.up, .slice B0 x.disk.files.length b0, .slice A1 x.pool.length k1, .slice A2 x.pins.length k2, .slice A3 x.pairs.length k3] 33) := Lib.hid (by rw [← hU]; exact (XV.out.keep (O1.out.bl.block g hgV)).set (by simp))
  have RF1 : Hid (Row true U1 B0 b0 x.disk.files (rng V.heap.size U1.heap.size)) := Lib.hid (by rw [hU1, ← hU]; have h := O1.out.rng.setC (p := ⟨g, 2, none⟩) (fun k => by have k1 : V.heap.size ≤ g := k.1; omega) (.slice B0 x.disk.files.length b0); simpa using h)
  have LF1 : Hid (x.disk.files.length ≤ b0 ∧ b0 ≤ maxLen) := Lib.hid (by have h := O1.out.le; simp only [List.nil_append] at h; exact ⟨h, O1.out.cm⟩)
  rw [hU]
  clear hU u2 uf O1 e0 y0 e1 y1 e2 y2 e3 y3 e4 y4 e5 y5 yf
  have hg1 : g < U1.heap.size := by omega
  have hw1 : w.heap.size < U1.heap.size := by omega
  have hsV : V.heap.size ≤ U1.heap.size := by omega
  clear hU1 hs1
  have bxZ := BX.out.keep (HB1.out.block _ (by omega))
  have e0 := bxZ.at_ (i := 0) rfl
  have e1 := bxZ.at_ (i := 1) rfl
  have e2 := bxZ.at_ (i := 2) rfl
  have e3 := bxZ.at_ (i := 3) rfl
  have e4 := bxZ.at_ (i := 4) rfl
  have e5 := bxZ.at_ (i := 5) rfl
  clear bxZ
  have y0 := XU1.out.at_ (i := 0) rfl
  have y1 := XU1.out.at_ (i := 1) rfl
  have y2 := XU1.out.at_ (i := 2) rfl
  have y3 := XU1.out.at_ (i := 3) rfl
  have y4 := XU1.out.at_ (i := 4) rfl
  have y5 := XU1.out.at_ (i := 5) rfl
  have yf := XU1.out.fz
  go_upto_region 4 with (at_builtin; refine wpList_push (α := ByteArray) (w0 := U1) rfl _ _ rfl rfl rfl (Own.litAt (Below.refl U1.heap.size U1) 9 rfl rfl) rfl rfl (Src.flat (Row.later R1.out (by rw [HG.out]; exact HB1.out.alloc (Nat.le_of_lt hg1) _))) (by omega) ?_; intro B1 b1 w2 o2 s2; have O2 := Lib.hid o2; have hs2 := o2.bl.size; have xg2 := XU1.out.keep (o2.bl.block g hg1); have u3 := xg2.at_ (i := 3) rfl; have uf := xg2.fz; clear o2 s2 xg2)
  obtain ⟨U2, hU⟩ : ∃ U, w2.setCell ⟨g, 3, none⟩ (.slice B1 x.pool.length b1) = U := ⟨_, rfl⟩
  have hU2 : U2.heap.size = w2.heap.size := by rw [← hU]; simp
  have HB2 : Hid (Below g W U2) := Lib.hid (by rw [← hU]; exact (HB1.out.trans (O2.out.bl.mono (Nat.le_of_lt hg1))).setCell (Nat.le_refl _) _)
  have XU2 : Hid (Bx U2 g #[.int .i64 x.house, .bool x.up, .slice B0 x.disk.files.length b0, .slice B1 x.pool.length b1, .slice A2 x.pins.length k2, .slice A3 x.pairs.length k3] 33) := Lib.hid (by rw [← hU]; exact (XU1.out.keep (O2.out.bl.block g hg1)).set (by simp))
  have RF2 : Hid (Row true U2 B0 b0 x.disk.files (rng V.heap.size U1.heap.size)) := Lib.hid (by rw [← hU]; exact (Row.later RF1.out O2.out.bl).setC (p := ⟨g, 3, none⟩) (fun k => by have k1 : V.heap.size ≤ g := k.1; omega) _)
  have RP2 : Hid (Row true U2 B1 b1 x.pool (rng U1.heap.size U2.heap.size)) := Lib.hid (by rw [hU2, ← hU]; have h := O2.out.rng.setC (p := ⟨g, 3, none⟩) (fun k => by have k1 : U1.heap.size ≤ g := k.1; omega) (.slice B1 x.pool.length b1); simpa using h)
  have LP2 : Hid (x.pool.length ≤ b1 ∧ b1 ≤ maxLen) := Lib.hid (by have h := O2.out.le; simp only [List.nil_append] at h; exact ⟨h, O2.out.cm⟩)
  rw [hU]
  clear hU u3 uf O2 RF1 XU1 HB1 e0 y0 e1 y1 e2 y2 e3 y3 e4 y4 e5 y5 yf
  have hg2 : g < U2.heap.size := by omega
  have hw2 : w.heap.size < U2.heap.size := by omega
  have hsU : U1.heap.size ≤ U2.heap.size := by omega
  clear hU2 hs2
  have y0 := XU2.out.at_ (i := 0) rfl
  have y1 := XU2.out.at_ (i := 1) rfl
  have y2 := XU2.out.at_ (i := 2) rfl
  have y3 := XU2.out.at_ (i := 3) rfl
  have y4 := XU2.out.at_ (i := 4) rfl
  have y5 := XU2.out.at_ (i := 5) rfl
  have yf := XU2.out.fz
  go_upto_region 5 with (fail)
  obtain ⟨U3, hU⟩ : ∃ U, (U2.setCell ⟨g, 4, none⟩ (.slice (some ⟨U2.heap.size, 0, none⟩) 0 0)).alloc (.cells #[] 76) = U := ⟨_, rfl⟩
  have hgz : g < (U2.setCell ⟨g, 4, none⟩ (.slice (some ⟨U2.heap.size, 0, none⟩) 0 0)).heap.size := by simp; exact hg2
  have XU3 : Hid (Bx U3 g #[.int .i64 x.house, .bool x.up, .slice B0 x.disk.files.length b0, .slice B1 x.pool.length b1, .slice (some ⟨U2.heap.size, 0, none⟩) 0 0, .slice A3 x.pairs.length k3] 33) := Lib.hid (by rw [← hU]; exact (XU2.out.set (by simp)).keep (Below.heap_alloc _ _ _ hgz))
  have CH3 : Hid (Chg (fun b => b = g ∨ U2.heap.size ≤ b) U2 U3) := Lib.hid (by rw [← hU]; exact Chg.below (Chg.setCell (Chg.refl _ _) (.inl (.inl rfl)) _) ((Below.refl _ _).alloc (Nat.le_refl _) _) (by simp))
  have RW3 : Hid (Row (α := Seal) true U3 (some ⟨U2.heap.size, 0, none⟩) 0 [] (nw U2.heap.size)) := Lib.hid (by rw [← hU]; exact (Own.litAt (α := Seal) (Below.refl (U2.setCell ⟨g, 4, none⟩ (.slice (some ⟨U2.heap.size, 0, none⟩) 0 0)).heap.size (U2.setCell ⟨g, 4, none⟩ (.slice (some ⟨U2.heap.size, 0, none⟩) 0 0))) 76 rfl (b := U2.heap.size) (by simp)).row.mono (fun b k => by have k1 : (U2.setCell ⟨g, 4, none⟩ (.slice (some ⟨U2.heap.size, 0, none⟩) 0 0)).heap.size ≤ b := k; simp at k1; exact k1))
  rw [hU]
  clear hU hgz
  clear y0 y1 y2 y3 y4 y5 yf
  go_wp2_with (fail)
  go_loopw [4] (fun i wr => ∃ (k : Nat) (A : Option Addr) (c : Nat), k ≤ x.pins.length ∧ i = .int .i64 (k : Int) ∧ Bx wr g #[.int .i64 x.house, .bool x.up, .slice B0 x.disk.files.length b0, .slice B1 x.pool.length b1, .slice A k c, .slice A3 x.pairs.length k3] 33 ∧ Row true wr A c (x.pins.take k) (nw U2.heap.size) ∧ k ≤ c ∧ c ≤ maxLen ∧ Chg (fun b => b = g ∨ U2.heap.size ≤ b) U2 wr) (fun i _ => x.pins.length - (intOf i).toNat)
  case atStart => exact ⟨0, _, 0, Nat.zero_le _, rfl, XU3.out, RW3.out, Nat.le_refl _, by decide, CH3.out⟩
  case round =>
    obtain ⟨k, A, c, hk, rfl, hbx, hrow, hkc, hcm, hch⟩ := hrel
    have HXR := Lib.hid hbx; have HRW := Lib.hid (And.intro hrow (And.intro (by rw [List.length_take]; omega : (x.pins.take k).length ≤ c) hcm)); have HCH := Lib.hid hch; have HKC := Lib.hid (And.intro hkc hcm)
    have hsr := hch.size
    have HBR : Hid (Below g W wr) := Lib.hid (HB2.out.trans (hch.to_below (by omega) (fun b q => by rcases q with q | q <;> omega)))
    clear XU3 CH3 RW3 hbx hrow hch
    have bxZ := BX.out.keep (HBR.out.block _ (by omega))
    have e0 := bxZ.at_ (i := 0) rfl
    have e1 := bxZ.at_ (i := 1) rfl
    have e2 := bxZ.at_ (i := 2) rfl
    have e3 := bxZ.at_ (i := 3) rfl
    have e4 := bxZ.at_ (i := 4) rfl
    have e5 := bxZ.at_ (i := 5) rfl
    clear bxZ
    have hgr : g < wr.heap.size := by omega
    have hwr : w.heap.size < wr.heap.size := by omega
    by_cases hlt : k < x.pins.length
    · obtain ⟨b2, o2, cc, T2, rfl, hl2, ha, hr, _, _⟩ := Row.at_ R2.out hlt
      have HR2 := Lib.hid (Lay.keep (Lay.tight hr) (fun b q => HBR.out.block b (by rw [← HG.out]; exact q.2)))
      replace ha := ha.keep (HBR.out.block b2 (by rw [← HG.out]; exact hl2))
      have hl3 : b2 < wr.heap.size := by have := HG.out; omega
      have hbd := seal_len3' (sz_get' hlt z2)
      obtain ⟨s, hs⟩ : ∃ s, x.pins[k] = s := ⟨_, rfl⟩
      have HN : Hid (x.pins.take (k + 1) = x.pins.take k ++ [s]) := Lib.hid (by rw [List.take_succ_eq_append_getElem hlt, hs])
      have HLN : Hid (k = (x.pins.take k).length) := Lib.hid (by simp; omega)
      rw [hs] at hr hbd HR2
      clear hs
      obtain ⟨F0, n0, _, F1, n1, _, F2, n2, _, rfl, -⟩ := Seal.open hr
      clear hr
      rw [show Lay.n Seal = 8 from rfl] at ha
      have d0 := ha 0 _ rfl
      have d1 := ha 1 _ rfl
      have d2 := ha 2 _ rfl
      have d3 := ha 3 _ rfl
      have d4 := ha 4 _ rfl
      have d5 := ha 5 _ rfl
      have d6 := ha 6 _ rfl
      have d7 := ha 7 _ rfl
      simp only [Nat.add_zero] at d0
      clear ha
      have q4 := HXR.out.at_ (i := 4) rfl
      have hki : (k : Int) < (x.pins.length : Int) := by omega
      have hlim : k ≤ 2000000000 := by omega
      have hgU : g < U2.heap.size := hg2
      have hB := Below.refl wr.heap.size wr
      obtain ⟨ls0, ls1, ls2⟩ := hbd
      go_wp2_with (fail)
      go_region_law (first | (go_simp; go_at_call 104; refine (spec_l14Copy _ s (Seal.cs s F0 n0 F1 n1 F2 n2) _ (Lay.later HR2.out (by first | exact hB | exact hB.drew)) ls0 ls1 ls2).mono ?_; rintro e9 w9 ⟨G0, m0, G1, m1, G2, m2, rfl, hq9, hb9⟩; have HQ9 := Lib.hid hq9; have hb9' := Below.step (a := wr) (by first | exact hB | exact hB.drew) hb9; have hs9 := hb9'.size; have q4 := (HXR.out.keep (hb9'.block _ hgr)).at_ (i := 4) rfl; have q4a := (fun o => (cell_alloc q4 : (w9.alloc o).cell? ⟨g, 4, none⟩ = some (.slice A k c))); have HB9 := Lib.hid hb9'; clear hq9 hb9 hb9') | (refine step_pushN (α := Seal) (w1 := wr) (B := U2.heap.size) (y := s) (T := fun b => nw wr.heap.size b ∧ b < w9.heap.size) rfl _ _ rfl rfl HLN.out HRW.out.1 HRW.out.2.1 HRW.out.2.2 hsr ?hb rfl ?src ?hT hlim ?_; (case hb => exact HB9.out.alloc hs9 _); (case src => exact srcR w9 s _ _ _ rfl (Lay.mono HQ9.out (S' := nw wr.heap.size) (fun b q => (q.1 : wr.heap.size ≤ b)))); (case hT => exact fun b h => h.1); intro A7 c7 w7 r7 l7 m7 hb7; have HB7 := Lib.hid (((HB9.out.alloc hs9 _).mono hsr).trans hb7); have R7 := Lib.hid (And.intro r7 (And.intro l7 m7)); have x7 := HXR.out.keep (HB7.out.block g hgU); have p7 := x7.at_ (i := 4) rfl; have f7 := x7.fz; have HX7 := Lib.hid x7; clear r7 l7 m7 hb7 x7))
      all_goals (go_wp2_with (fail))
      all_goals (go_roundw)
      all_goals (first | (simp [intOf]; omega) | exact ⟨k + 1, A7, c7, hlt, by go_num, HX7.out.set (by simp), by rw [HN.out]; exact R7.out.1.setC (fun h => by have h1 : U2.heap.size ≤ g := h; omega) _, by have h := R7.out.2.1; rw [List.length_append, ← HLN.out] at h; simpa using h, R7.out.2.2, (HCH.out.below HB7.out (Nat.le_refl _)).setCell (.inl (.inl rfl)) _⟩)
    have hke : k = x.pins.length := by omega
    subst hke
    rw [List.take_length] at HRW
    obtain ⟨B2, rfl⟩ : ∃ z, z = A := ⟨_, rfl⟩
    obtain ⟨b2, rfl⟩ : ∃ z, z = c := ⟨_, rfl⟩
    obtain ⟨Y, rfl⟩ : ∃ z, z = wr := ⟨_, rfl⟩
    have RF4 := Lib.hid (Row.chg RF2.out HCH.out (fun b p q => by have p1 := p.1; have p2 := p.2; rcases q with q | q <;> omega))
    have RP4 := Lib.hid (Row.chg RP2.out HCH.out (fun b p q => by have p1 := p.1; have p2 := p.2; rcases q with q | q <;> omega))
    have RN4 := Lib.hid (to_rng HRW.out.1)
    have HSG := Lib.hid hgr
    have LN4 := Lib.hid (And.intro HKC.out.1 HKC.out.2)
    clear RF2 RP2 HRW HKC HCH hlt
    have y0 := HXR.out.at_ (i := 0) rfl
    have y1 := HXR.out.at_ (i := 1) rfl
    have y2 := HXR.out.at_ (i := 2) rfl
    have y3 := HXR.out.at_ (i := 3) rfl
    have y4 := HXR.out.at_ (i := 4) rfl
    have y5 := HXR.out.at_ (i := 5) rfl
    have yf := HXR.out.fz
    go_upto_region 10 with (fail)
    obtain ⟨U4, hU⟩ : ∃ U, (Y.setCell ⟨g, 5, none⟩ (.slice (some ⟨Y.heap.size, 0, none⟩) 0 0)).alloc (.cells #[] 79) = U := ⟨_, rfl⟩
    have hgz : g < (Y.setCell ⟨g, 5, none⟩ (.slice (some ⟨Y.heap.size, 0, none⟩) 0 0)).heap.size := by simp; exact hgr
    have XU4 : Hid (Bx U4 g #[.int .i64 x.house, .bool x.up, .slice B0 x.disk.files.length b0, .slice B1 x.pool.length b1, .slice B2 x.pins.length b2, .slice (some ⟨Y.heap.size, 0, none⟩) 0 0] 33) := Lib.hid (by rw [← hU]; exact (HXR.out.set (by simp)).keep (Below.heap_alloc _ _ _ hgz))
    have CH4 : Hid (Chg (fun b => b = g ∨ Y.heap.size ≤ b) Y U4) := Lib.hid (by rw [← hU]; exact Chg.below (Chg.setCell (Chg.refl _ _) (.inl (.inl rfl)) _) ((Below.refl _ _).alloc (Nat.le_refl _) _) (by simp))
    have RW4 : Hid (Row (α := Pair) true U4 (some ⟨Y.heap.size, 0, none⟩) 0 [] (nw Y.heap.size)) := Lib.hid (by rw [← hU]; exact (Own.litAt (α := Pair) (Below.refl (Y.setCell ⟨g, 5, none⟩ (.slice (some ⟨Y.heap.size, 0, none⟩) 0 0)).heap.size (Y.setCell ⟨g, 5, none⟩ (.slice (some ⟨Y.heap.size, 0, none⟩) 0 0))) 79 rfl (b := Y.heap.size) (by simp)).row.mono (fun b k => by have k1 : (Y.setCell ⟨g, 5, none⟩ (.slice (some ⟨Y.heap.size, 0, none⟩) 0 0)).heap.size ≤ b := k; simp at k1; exact k1))
    rw [hU]
    clear hU hgz
    clear y0 y1 y2 y3 y4 y5 yf
    clear e0 e1 e2 e3 e4 e5
    clear HXR
    go_wp2_with (fail)
    go_loopw [5] (fun i wr => ∃ (k : Nat) (A : Option Addr) (c : Nat), k ≤ x.pairs.length ∧ i = .int .i64 (k : Int) ∧ Bx wr g #[.int .i64 x.house, .bool x.up, .slice B0 x.disk.files.length b0, .slice B1 x.pool.length b1, .slice B2 x.pins.length b2, .slice A k c] 33 ∧ Row true wr A c (x.pairs.take k) (nw Y.heap.size) ∧ k ≤ c ∧ c ≤ maxLen ∧ Chg (fun b => b = g ∨ Y.heap.size ≤ b) Y wr) (fun i _ => x.pairs.length - (intOf i).toNat)
    case atStart => exact ⟨0, _, 0, Nat.zero_le _, rfl, XU4.out, RW4.out, Nat.le_refl _, by decide, CH4.out⟩
    case round =>
      obtain ⟨k, A, c, hk, rfl, hbx, hrow, hkc, hcm, hch⟩ := hrel
      have HXR := Lib.hid hbx; have HRW := Lib.hid (And.intro hrow (And.intro (by rw [List.length_take]; omega : (x.pairs.take k).length ≤ c) hcm)); have HCH := Lib.hid hch; have HKC := Lib.hid (And.intro hkc hcm)
      have hsr := hch.size
      have HBE : Hid (Below g W wr) := Lib.hid (HBR.out.trans (hch.to_below (by omega) (fun b q => by rcases q with q | q <;> omega)))
      clear XU4 CH4 RW4 hbx hrow hch
      have bxZ := BX.out.keep (HBE.out.block _ (by omega))
      have e0 := bxZ.at_ (i := 0) rfl
      have e1 := bxZ.at_ (i := 1) rfl
      have e2 := bxZ.at_ (i := 2) rfl
      have e3 := bxZ.at_ (i := 3) rfl
      have e4 := bxZ.at_ (i := 4) rfl
      have e5 := bxZ.at_ (i := 5) rfl
      clear bxZ
      have hgr : g < wr.heap.size := by omega
      have hwr : w.heap.size < wr.heap.size := by omega
      by_cases hlt : k < x.pairs.length
      · obtain ⟨bb, oo, cc, T2, rfl, hl2, ha, hr, _, _⟩ := Row.at_ R3.out hlt
        have hbd := pair_len3' (sz_get' hlt z3)
        obtain ⟨p, hs⟩ : ∃ s, x.pairs[k] = s := ⟨_, rfl⟩
        have HN : Hid (x.pairs.take (k + 1) = x.pairs.take k ++ [p]) := Lib.hid (by rw [List.take_succ_eq_append_getElem hlt, hs])
        have HLN : Hid (k = (x.pairs.take k).length) := Lib.hid (by simp; omega)
        rw [hs] at hr hbd
        clear hs
        obtain ⟨s, t⟩ := p
        obtain ⟨q1, q2, Ts, Tt, rfl, -, -, -, hrs, hrt⟩ := hr
        have HRS := Lib.hid (Lay.keep (Lay.tight hrs) (fun b q => HBE.out.block b (by rw [← HG.out]; exact q.2)))
        have HRT := Lib.hid (Lay.keep (Lay.tight hrt) (fun b q => HBE.out.block b (by rw [← HG.out]; exact q.2)))
        obtain ⟨D0, u0, _, D1, u1, _, D2, u2, _, rfl, -⟩ := Seal.open hrs
        obtain ⟨E0, v0, _, E1, v1, _, E2, v2, _, rfl, -⟩ := Seal.open hrt
        clear hrs hrt
        rw [show Lay.n Pair = 16 from rfl] at ha
        have hbg : bb < g := by rw [← HG.out]; exact hl2
        have HA1 : Hid (∀ Z, Below g wr Z → At Z bb (oo + k * 16) (Seal.cs s D0 u0 D1 u1 D2 u2)) := Lib.hid (fun Z h => by
          intro j u hu
          have h1 := ha j u (by rw [List.getElem?_append_left (List.getElem?_eq_some_iff.1 hu).1]; exact hu)
          exact (h.cell (p := ⟨bb, oo + k * 16 + j, none⟩) hbg).trans ((HBE.out.cell (p := ⟨bb, oo + k * 16 + j, none⟩) hbg).trans h1))
        have HA2 : Hid (∀ Z, Below g wr Z → At Z bb (oo + k * 16 + 8) (Seal.cs t E0 v0 E1 v1 E2 v2)) := Lib.hid (fun Z h => by
          intro j u hu
          have h1 := ha (8 + j) u (by rw [List.getElem?_append_right (by show 8 ≤ 8 + j; omega)]; rw [← hu]; congr 1; show 8 + j - 8 = j; omega)
          rw [show oo + k * 16 + 8 + j = oo + k * 16 + (8 + j) by omega]
          exact (h.cell (p := ⟨bb, oo + k * 16 + (8 + j), none⟩) hbg).trans ((HBE.out.cell (p := ⟨bb, oo + k * 16 + (8 + j), none⟩) hbg).trans h1))
        have HE5 : Hid (∀ Z, Below g wr Z → Z.cell? ⟨w.heap.size, 5, none⟩ = some (.slice (some ⟨bb, oo, none⟩) x.pairs.length k3)) := Lib.hid (fun Z h => (h.cell (p := ⟨w.heap.size, 5, none⟩) (by show w.heap.size < g; omega)).trans e5)
        have HX5 : Hid (∀ Z, Below wr.heap.size wr Z → Z.cell? ⟨g, 5, none⟩ = some (.slice A k c)) := Lib.hid (fun Z h => (HXR.out.keep (h.block _ hgr)).at_ (i := 5) rfl)
        obtain ⟨⟨ls0, ls1, ls2⟩, lt0, lt1, lt2⟩ := hbd
        clear ha
        have k_sl : (Tryz.prog.info? 76).map (·.size) = some 8 := by kernel_rfl
        have hki : (k : Int) < (x.pairs.length : Int) := by omega
        have hlim : k ≤ 2000000000 := by omega
        have hgl : g ≤ wr.heap.size := Nat.le_of_lt hgr
        have hsY : Y.heap.size ≤ wr.heap.size := hsr
        go_wp2_with (fail)
        have HV := Lib.hid ((Below.refl wr.heap.size wr).drew)
        have hgY : g < Y.heap.size := by have h := HSG.out; omega
        refine wp_region_held_drew (S := fun W' => Below g wr W') (by kernel_rfl) (HV.out.mono hgl) (fun hS => ?_)
        refine wpAnyH_take (i := 0) (v := .pointer (some ⟨g, 5, none⟩)) rfl (by as_aux_lemma => kernel_rfl) (by as_aux_lemma => kernel_rfl) (by as_aux_lemma => kernel_rfl) (fun _ _ _ h => h) (Or.inl ⟨by rfl, by intro w hSw; go_simp⟩) hS ?_
        (try simp only [Act.put, List.getElem_toArray, List.getElem_cons_succ, List.getElem_cons_zero, List.setIfInBounds_toArray, List.set_cons_zero, List.set_cons_succ])
        refine wpAnyH_take (i := 2) (v := .pointer (some ⟨w.heap.size, 5, none⟩)) rfl (by as_aux_lemma => kernel_rfl) (by as_aux_lemma => kernel_rfl) (by as_aux_lemma => kernel_rfl) (fun _ _ _ h => h) (Or.inl ⟨by rfl, by intro w hSw; go_simp⟩) hS ?_
        (try simp only [Act.put, List.getElem_toArray, List.getElem_cons_succ, List.getElem_cons_zero, List.setIfInBounds_toArray, List.set_cons_zero, List.set_cons_succ])
        refine wpAnyH_take (i := 3) (v := .slice (some ⟨bb, oo, none⟩) x.pairs.length k3) rfl (by as_aux_lemma => kernel_rfl) (by as_aux_lemma => kernel_rfl) (by as_aux_lemma => kernel_rfl) (fun _ _ _ h => h) (Or.inl ⟨by rfl, by intro Z hSw; have e5 := HE5.out Z hSw; go_simp⟩) hS ?_
        (try simp only [Act.put, List.getElem_toArray, List.getElem_cons_succ, List.getElem_cons_zero, List.setIfInBounds_toArray, List.set_cons_zero, List.set_cons_succ])
        refine wpAnyH_take (i := 4) (v := .int .i64 (k : Int)) rfl (by as_aux_lemma => kernel_rfl) (by as_aux_lemma => kernel_rfl) (by as_aux_lemma => kernel_rfl) (fun _ _ _ h => h) (yieldsIf_move (by rfl) _ rfl (by rfl)) hS ?_
        (try simp only [Act.put, List.getElem_toArray, List.getElem_cons_succ, List.getElem_cons_zero, List.setIfInBounds_toArray, List.set_cons_zero, List.set_cons_succ])
        refine wpAnyH_take (i := 5) (v := .pointer (some ⟨bb, oo + k * 16, none⟩)) rfl (by as_aux_lemma => kernel_rfl) (by as_aux_lemma => kernel_rfl) (by as_aux_lemma => kernel_rfl) (fun _ _ _ h => h) (Or.inl ⟨by rfl, by intro w hSw; go_simp⟩) hS ?_
        (try simp only [Act.put, List.getElem_toArray, List.getElem_cons_succ, List.getElem_cons_zero, List.setIfInBounds_toArray, List.set_cons_zero, List.set_cons_succ])
        refine wpAnyH_take (i := 6) (v := .pointer (some ⟨bb, oo + k * 16, none⟩)) rfl (by as_aux_lemma => kernel_rfl) (by as_aux_lemma => kernel_rfl) (by as_aux_lemma => kernel_rfl) (fun _ _ _ h => h) (Or.inl ⟨by rfl, by intro w hSw; go_simp⟩) hS ?_
        (try simp only [Act.put, List.getElem_toArray, List.getElem_cons_succ, List.getElem_cons_zero, List.setIfInBounds_toArray, List.set_cons_zero, List.set_cons_succ])
        refine wpAnyH_take (i := 7) (v := .agg #[.int .i64 s.head.house, .int .i64 s.head.epoch, .string s.head.root, .string s.head.prev, .int .i64 s.sig.at_, .slice D0 s.sig.open_.length u0, .slice D1 s.sig.shut.length u1, .slice D2 s.sig.sides.length u2]) rfl (by as_aux_lemma => kernel_rfl) (by as_aux_lemma => kernel_rfl) (by as_aux_lemma => kernel_rfl) (fun _ _ _ h => h) (yieldsIf_loadT (by rfl) _ _ rfl rfl (fun _ h => HA1.out _ h) Tryz.underlying76 k_sl rfl) hS ?_
        (try simp only [Act.put, List.getElem_toArray, List.getElem_cons_succ, List.getElem_cons_zero, List.setIfInBounds_toArray, List.set_cons_zero, List.set_cons_succ])
        refine wpAnyH_take (i := 9) (v := .pointer (some ⟨w.heap.size, 5, none⟩)) rfl (by as_aux_lemma => kernel_rfl) (by as_aux_lemma => kernel_rfl) (by as_aux_lemma => kernel_rfl) (fun _ _ _ h => h) (Or.inl ⟨by rfl, by intro w hSw; go_simp⟩) hS ?_
        (try simp only [Act.put, List.getElem_toArray, List.getElem_cons_succ, List.getElem_cons_zero, List.setIfInBounds_toArray, List.set_cons_zero, List.set_cons_succ])
        refine wpAnyH_take (i := 10) (v := .slice (some ⟨bb, oo, none⟩) x.pairs.length k3) rfl (by as_aux_lemma => kernel_rfl) (by as_aux_lemma => kernel_rfl) (by as_aux_lemma => kernel_rfl) (fun _ _ _ h => h) (Or.inl ⟨by rfl, by intro Z hSw; have e5 := HE5.out Z hSw; go_simp⟩) hS ?_
        (try simp only [Act.put, List.getElem_toArray, List.getElem_cons_succ, List.getElem_cons_zero, List.setIfInBounds_toArray, List.set_cons_zero, List.set_cons_succ])
        refine wpAnyH_take (i := 11) (v := .int .i64 (k : Int)) rfl (by as_aux_lemma => kernel_rfl) (by as_aux_lemma => kernel_rfl) (by as_aux_lemma => kernel_rfl) (fun _ _ _ h => h) (yieldsIf_move (by rfl) _ rfl (by rfl)) hS ?_
        (try simp only [Act.put, List.getElem_toArray, List.getElem_cons_succ, List.getElem_cons_zero, List.setIfInBounds_toArray, List.set_cons_zero, List.set_cons_succ])
        refine wpAnyH_take (i := 12) (v := .pointer (some ⟨bb, oo + k * 16, none⟩)) rfl (by as_aux_lemma => kernel_rfl) (by as_aux_lemma => kernel_rfl) (by as_aux_lemma => kernel_rfl) (fun _ _ _ h => h) (Or.inl ⟨by rfl, by intro w hSw; go_simp⟩) hS ?_
        (try simp only [Act.put, List.getElem_toArray, List.getElem_cons_succ, List.getElem_cons_zero, List.setIfInBounds_toArray, List.set_cons_zero, List.set_cons_succ])
        refine wpAnyH_take (i := 13) (v := .pointer (some ⟨bb, oo + k * 16 + 8, none⟩)) rfl (by as_aux_lemma => kernel_rfl) (by as_aux_lemma => kernel_rfl) (by as_aux_lemma => kernel_rfl) (fun _ _ _ h => h) (Or.inl ⟨by rfl, by intro w hSw; go_simp⟩) hS ?_
        (try simp only [Act.put, List.getElem_toArray, List.getElem_cons_succ, List.getElem_cons_zero, List.setIfInBounds_toArray, List.set_cons_zero, List.set_cons_succ])
        refine wpAnyH_take (i := 14) (v := .agg #[.int .i64 t.head.house, .int .i64 t.head.epoch, .string t.head.root, .string t.head.prev, .int .i64 t.sig.at_, .slice E0 t.sig.open_.length v0, .slice E1 t.sig.shut.length v1, .slice E2 t.sig.sides.length v2]) rfl (by as_aux_lemma => kernel_rfl) (by as_aux_lemma => kernel_rfl) (by as_aux_lemma => kernel_rfl) (fun _ _ _ h => h) (yieldsIf_loadT (by rfl) _ _ rfl rfl (fun _ h => HA2.out _ h) Tryz.underlying76 k_sl rfl) hS ?_
        (try simp only [Act.put, List.getElem_toArray, List.getElem_cons_succ, List.getElem_cons_zero, List.setIfInBounds_toArray, List.set_cons_zero, List.set_cons_succ])
        refine wpAnyH_ready (rs := [1, 8]) (by as_aux_lemma => kernel_rfl) (by simp) (AllReadyH.cons rfl (fun K hK => ?_) (AllReadyH.cons rfl (fun K hK => ?_) AllReadyH.nil))
        · as_aux_lemma =>
            have p5 := HX5.out _ HV.out
            (try rw [if_pos (by rfl)])
            clear hS
            go_simp
            refine hK.out _ _ (HV.out.mono hgl) (fun hS => ?_)
            clear hK K
            (try simp only [Act.put, List.getElem_toArray, List.getElem_cons_succ, List.getElem_cons_zero, List.setIfInBounds_toArray, List.set_cons_zero, List.set_cons_succ])
            clear p5
            refine wpAnyH_ready (rs := [8]) (by as_aux_lemma => kernel_rfl) (by simp) (AllReadyH.cons rfl (fun K hK => ?_) AllReadyH.nil)
            (try rw [if_pos (by rfl)])
            clear hS
            go_simp
            refine (spec_l14Copy _ s (Seal.cs s D0 u0 D1 u1 D2 u2) _ (Lay.later HRS.out HV.out) ls0 ls1 ls2).mono ?_
            rintro e_ w5s1 ⟨G0, is0, G1, is1, G2, is2, rfl, hq_, hb_⟩
            have hzs : wr.heap.size ≤ wr.heap.size := HV.out.size
            have HQs := Lib.hid hq_; replace HV := Lib.hid (Below.step (a := wr) HV.out hb_); clear hq_ hb_
            refine hK.out _ _ (HV.out.mono hgl) (fun hS => ?_)
            clear hK K
            (try simp only [Act.put, List.getElem_toArray, List.getElem_cons_succ, List.getElem_cons_zero, List.setIfInBounds_toArray, List.set_cons_zero, List.set_cons_succ])
            refine wpAnyH_ready (rs := [15]) (by as_aux_lemma => kernel_rfl) (by simp) (AllReadyH.cons rfl (fun K hK => ?_) AllReadyH.nil)
            (try rw [if_pos (by rfl)])
            clear hS
            go_simp
            refine (spec_l14Copy _ t (Seal.cs t E0 v0 E1 v1 E2 v2) _ (Lay.later HRT.out HV.out) lt0 lt1 lt2).mono ?_
            rintro e_ w5t2 ⟨H0, it0, H1, it1, H2, it2, rfl, hq_, hb_⟩
            have hzt : wr.heap.size ≤ w5s1.heap.size := HV.out.size
            have HQs := Lib.hid (Lay.later HQs.out hb_)
            have HQt := Lib.hid hq_; replace HV := Lib.hid (Below.step (a := wr) HV.out hb_); clear hq_ hb_
            refine hK.out _ _ (HV.out.mono hgl) (fun hS => ?_)
            clear hK K
            (try simp only [Act.put, List.getElem_toArray, List.getElem_cons_succ, List.getElem_cons_zero, List.setIfInBounds_toArray, List.set_cons_zero, List.set_cons_succ])
            refine wpAnyH_take (i := 16) (v := .agg #[.int .i64 s.head.house, .int .i64 s.head.epoch, .string s.head.root, .string s.head.prev, .int .i64 s.sig.at_, .slice G0 s.sig.open_.length is0, .slice G1 s.sig.shut.length is1, .slice G2 s.sig.sides.length is2, .int .i64 t.head.house, .int .i64 t.head.epoch, .string t.head.root, .string t.head.prev, .int .i64 t.sig.at_, .slice H0 t.sig.open_.length it0, .slice H1 t.sig.shut.length it1, .slice H2 t.sig.sides.length it2]) rfl (by as_aux_lemma => kernel_rfl) (by as_aux_lemma => kernel_rfl) (by as_aux_lemma => kernel_rfl) (fun _ _ _ h => h) (yieldsIf_pair (by rfl) _ _ rfl rfl rfl) hS ?_
            (try simp only [Act.put, List.getElem_toArray, List.getElem_cons_succ, List.getElem_cons_zero, List.setIfInBounds_toArray, List.set_cons_zero, List.set_cons_succ])
            refine wpAnyH_ready (rs := [17]) (by as_aux_lemma => kernel_rfl) (by simp) (AllReadyH.cons rfl (fun K hK => ?_) AllReadyH.nil)
            clear hS
            refine wp_buildPair rfl _ rfl rfl ?_
            obtain ⟨wa3, hwa⟩ : ∃ W, w5t2.alloc (.cells #[.int .i64 s.head.house, .int .i64 s.head.epoch, .string s.head.root, .string s.head.prev, .int .i64 s.sig.at_, .slice G0 s.sig.open_.length is0, .slice G1 s.sig.shut.length is1, .slice G2 s.sig.sides.length is2, .int .i64 t.head.house, .int .i64 t.head.epoch, .string t.head.root, .string t.head.prev, .int .i64 t.sig.at_, .slice H0 t.sig.open_.length it0, .slice H1 t.sig.shut.length it1, .slice H2 t.sig.sides.length it2] 79) = W := ⟨_, rfl⟩
            have hl_ : wr.heap.size ≤ w5t2.heap.size := HV.out.size
            have HSR : Hid (Src wa3 (some ⟨w5t2.heap.size, 0, none⟩) [(⟨s, t⟩ : Pair)] (fun b => nw wr.heap.size b ∧ b < w5t2.heap.size)) := Lib.hid (by rw [← hwa]; exact srcR w5t2 (⟨s, t⟩ : Pair) _ _ _ rfl (pair_rd (S := nw wr.heap.size) HQs.out HQt.out (fun b q => (q.1 : wr.heap.size ≤ b)) (fun b q => Nat.le_trans hzt q.1) (fun b q q2 => by have h1 := q.2; have h2 := q2.1; omega)))
            replace HV := Lib.hid (by have h := HV.out.alloc hl_ (.cells #[.int .i64 s.head.house, .int .i64 s.head.epoch, .string s.head.root, .string s.head.prev, .int .i64 s.sig.at_, .slice G0 s.sig.open_.length is0, .slice G1 s.sig.shut.length is1, .slice G2 s.sig.sides.length is2, .int .i64 t.head.house, .int .i64 t.head.epoch, .string t.head.root, .string t.head.prev, .int .i64 t.sig.at_, .slice H0 t.sig.open_.length it0, .slice H1 t.sig.shut.length it1, .slice H2 t.sig.sides.length it2] 79); rw [hwa] at h; exact h : Below wr.heap.size wr wa3)
            rw [hwa]
            clear hwa
            refine hK.out _ _ (HV.out.mono hgl) (fun hS => ?_)
            clear hK K
            (try simp only [Act.put, List.getElem_toArray, List.getElem_cons_succ, List.getElem_cons_zero, List.setIfInBounds_toArray, List.set_cons_zero, List.set_cons_succ])
            refine wpAnyH_ready (rs := [18]) (by as_aux_lemma => kernel_rfl) (by simp) (AllReadyH.cons rfl (fun K hK => ?_) AllReadyH.nil)
            clear hS
            refine step_pushN (α := Pair) (w1 := wr) (B := Y.heap.size) (y := (⟨s, t⟩ : Pair)) (hsrc := HSR.out) (hT := fun b h => h.1) rfl _ _ rfl rfl HLN.out HRW.out.1 HRW.out.2.1 HRW.out.2.2 hsY HV.out rfl hlim ?_
            intro A7 c7 w74 r7 l7 m7 hb7
            have HB7 : Hid (Below Y.heap.size wr w74) := Lib.hid ((HV.out.mono hsY).trans hb7)
            have R7 := Lib.hid (And.intro r7 (And.intro l7 m7))
            have HX7 := Lib.hid (HXR.out.keep (HB7.out.block g hgY))
            clear r7 l7 m7 hb7 HV
            refine hK.out _ _ (HB7.out.mono (Nat.le_of_lt hgY)) (fun hS => ?_)
            clear hK K
            (try simp only [Act.put, List.getElem_toArray, List.getElem_cons_succ, List.getElem_cons_zero, List.setIfInBounds_toArray, List.set_cons_zero, List.set_cons_succ])
            refine wpAnyH_take (i := 19) (v := .pointer (some ⟨g, 5, none⟩)) rfl (by as_aux_lemma => kernel_rfl) (by as_aux_lemma => kernel_rfl) (by as_aux_lemma => kernel_rfl) (fun _ _ _ h => h) (Or.inl ⟨by rfl, by intro w hSw; go_simp⟩) hS ?_
            (try simp only [Act.put, List.getElem_toArray, List.getElem_cons_succ, List.getElem_cons_zero, List.setIfInBounds_toArray, List.set_cons_zero, List.set_cons_succ])
            refine wpAnyH_ready (rs := [20]) (by as_aux_lemma => kernel_rfl) (by simp) (AllReadyH.cons rfl (fun K hK => ?_) AllReadyH.nil)
            have p7 := HX7.out.at_ (i := 5) rfl
            have f7 := HX7.out.fz
            (try rw [if_pos (by rfl)])
            clear hS
            go_simp
            refine hK.out _ _ ((HB7.out.mono (Nat.le_of_lt hgY)).setCell (Nat.le_refl _) _) (fun hS => ?_)
            clear hK K
            (try simp only [Act.put, List.getElem_toArray, List.getElem_cons_succ, List.getElem_cons_zero, List.setIfInBounds_toArray, List.set_cons_zero, List.set_cons_succ])
            clear p7 f7
            refine wpAnyH_done (by as_aux_lemma => kernel_rfl) ?_ _
            clear hS
            (try go_wp2_with (fail))
            go_roundw
            all_goals (first | (simp [intOf]; omega) | exact ⟨k + 1, A7, c7, hlt, by go_num, HX7.out.set (by simp), by rw [HN.out]; exact R7.out.1.setC (fun h => by have h1 : Y.heap.size ≤ g := h; omega) _, by have h := R7.out.2.1; rw [List.length_append, ← HLN.out] at h; simpa using h, R7.out.2.2, (HCH.out.below HB7.out (Nat.le_refl _)).setCell (.inl (.inl rfl)) _⟩)
        (try rw [if_pos (by rfl)])
        clear hS
        go_simp
        refine (spec_l14Copy _ s (Seal.cs s D0 u0 D1 u1 D2 u2) _ (Lay.later HRS.out HV.out) ls0 ls1 ls2).mono ?_
        rintro e_ w5s5 ⟨G0, is0, G1, is1, G2, is2, rfl, hq_, hb_⟩
        have hzs : wr.heap.size ≤ wr.heap.size := HV.out.size
        have HQs := Lib.hid hq_; replace HV := Lib.hid (Below.step (a := wr) HV.out hb_); clear hq_ hb_
        refine hK.out _ _ (HV.out.mono hgl) (fun hS => ?_)
        clear hK K
        (try simp only [Act.put, List.getElem_toArray, List.getElem_cons_succ, List.getElem_cons_zero, List.setIfInBounds_toArray, List.set_cons_zero, List.set_cons_succ])
        refine wpAnyH_ready (rs := [1, 15]) (by as_aux_lemma => kernel_rfl) (by simp) (AllReadyH.cons rfl (fun K hK => ?_) (AllReadyH.cons rfl (fun K hK => ?_) AllReadyH.nil))
        · as_aux_lemma =>
            have p5 := HX5.out _ HV.out
            (try rw [if_pos (by rfl)])
            clear hS
            go_simp
            refine hK.out _ _ (HV.out.mono hgl) (fun hS => ?_)
            clear hK K
            (try simp only [Act.put, List.getElem_toArray, List.getElem_cons_succ, List.getElem_cons_zero, List.setIfInBounds_toArray, List.set_cons_zero, List.set_cons_succ])
            clear p5
            refine wpAnyH_ready (rs := [15]) (by as_aux_lemma => kernel_rfl) (by simp) (AllReadyH.cons rfl (fun K hK => ?_) AllReadyH.nil)
            (try rw [if_pos (by rfl)])
            clear hS
            go_simp
            refine (spec_l14Copy _ t (Seal.cs t E0 v0 E1 v1 E2 v2) _ (Lay.later HRT.out HV.out) lt0 lt1 lt2).mono ?_
            rintro e_ w5t6 ⟨H0, it0, H1, it1, H2, it2, rfl, hq_, hb_⟩
            have hzt : wr.heap.size ≤ w5s5.heap.size := HV.out.size
            have HQs := Lib.hid (Lay.later HQs.out hb_)
            have HQt := Lib.hid hq_; replace HV := Lib.hid (Below.step (a := wr) HV.out hb_); clear hq_ hb_
            refine hK.out _ _ (HV.out.mono hgl) (fun hS => ?_)
            clear hK K
            (try simp only [Act.put, List.getElem_toArray, List.getElem_cons_succ, List.getElem_cons_zero, List.setIfInBounds_toArray, List.set_cons_zero, List.set_cons_succ])
            refine wpAnyH_take (i := 16) (v := .agg #[.int .i64 s.head.house, .int .i64 s.head.epoch, .string s.head.root, .string s.head.prev, .int .i64 s.sig.at_, .slice G0 s.sig.open_.length is0, .slice G1 s.sig.shut.length is1, .slice G2 s.sig.sides.length is2, .int .i64 t.head.house, .int .i64 t.head.epoch, .string t.head.root, .string t.head.prev, .int .i64 t.sig.at_, .slice H0 t.sig.open_.length it0, .slice H1 t.sig.shut.length it1, .slice H2 t.sig.sides.length it2]) rfl (by as_aux_lemma => kernel_rfl) (by as_aux_lemma => kernel_rfl) (by as_aux_lemma => kernel_rfl) (fun _ _ _ h => h) (yieldsIf_pair (by rfl) _ _ rfl rfl rfl) hS ?_
            (try simp only [Act.put, List.getElem_toArray, List.getElem_cons_succ, List.getElem_cons_zero, List.setIfInBounds_toArray, List.set_cons_zero, List.set_cons_succ])
            refine wpAnyH_ready (rs := [17]) (by as_aux_lemma => kernel_rfl) (by simp) (AllReadyH.cons rfl (fun K hK => ?_) AllReadyH.nil)
            clear hS
            refine wp_buildPair rfl _ rfl rfl ?_
            obtain ⟨wa7, hwa⟩ : ∃ W, w5t6.alloc (.cells #[.int .i64 s.head.house, .int .i64 s.head.epoch, .string s.head.root, .string s.head.prev, .int .i64 s.sig.at_, .slice G0 s.sig.open_.length is0, .slice G1 s.sig.shut.length is1, .slice G2 s.sig.sides.length is2, .int .i64 t.head.house, .int .i64 t.head.epoch, .string t.head.root, .string t.head.prev, .int .i64 t.sig.at_, .slice H0 t.sig.open_.length it0, .slice H1 t.sig.shut.length it1, .slice H2 t.sig.sides.length it2] 79) = W := ⟨_, rfl⟩
            have hl_ : wr.heap.size ≤ w5t6.heap.size := HV.out.size
            have HSR : Hid (Src wa7 (some ⟨w5t6.heap.size, 0, none⟩) [(⟨s, t⟩ : Pair)] (fun b => nw wr.heap.size b ∧ b < w5t6.heap.size)) := Lib.hid (by rw [← hwa]; exact srcR w5t6 (⟨s, t⟩ : Pair) _ _ _ rfl (pair_rd (S := nw wr.heap.size) HQs.out HQt.out (fun b q => (q.1 : wr.heap.size ≤ b)) (fun b q => Nat.le_trans hzt q.1) (fun b q q2 => by have h1 := q.2; have h2 := q2.1; omega)))
            replace HV := Lib.hid (by have h := HV.out.alloc hl_ (.cells #[.int .i64 s.head.house, .int .i64 s.head.epoch, .string s.head.root, .string s.head.prev, .int .i64 s.sig.at_, .slice G0 s.sig.open_.length is0, .slice G1 s.sig.shut.length is1, .slice G2 s.sig.sides.length is2, .int .i64 t.head.house, .int .i64 t.head.epoch, .string t.head.root, .string t.head.prev, .int .i64 t.sig.at_, .slice H0 t.sig.open_.length it0, .slice H1 t.sig.shut.length it1, .slice H2 t.sig.sides.length it2] 79); rw [hwa] at h; exact h : Below wr.heap.size wr wa7)
            rw [hwa]
            clear hwa
            refine hK.out _ _ (HV.out.mono hgl) (fun hS => ?_)
            clear hK K
            (try simp only [Act.put, List.getElem_toArray, List.getElem_cons_succ, List.getElem_cons_zero, List.setIfInBounds_toArray, List.set_cons_zero, List.set_cons_succ])
            refine wpAnyH_ready (rs := [18]) (by as_aux_lemma => kernel_rfl) (by simp) (AllReadyH.cons rfl (fun K hK => ?_) AllReadyH.nil)
            clear hS
            refine step_pushN (α := Pair) (w1 := wr) (B := Y.heap.size) (y := (⟨s, t⟩ : Pair)) (hsrc := HSR.out) (hT := fun b h => h.1) rfl _ _ rfl rfl HLN.out HRW.out.1 HRW.out.2.1 HRW.out.2.2 hsY HV.out rfl hlim ?_
            intro A7 c7 w78 r7 l7 m7 hb7
            have HB7 : Hid (Below Y.heap.size wr w78) := Lib.hid ((HV.out.mono hsY).trans hb7)
            have R7 := Lib.hid (And.intro r7 (And.intro l7 m7))
            have HX7 := Lib.hid (HXR.out.keep (HB7.out.block g hgY))
            clear r7 l7 m7 hb7 HV
            refine hK.out _ _ (HB7.out.mono (Nat.le_of_lt hgY)) (fun hS => ?_)
            clear hK K
            (try simp only [Act.put, List.getElem_toArray, List.getElem_cons_succ, List.getElem_cons_zero, List.setIfInBounds_toArray, List.set_cons_zero, List.set_cons_succ])
            refine wpAnyH_take (i := 19) (v := .pointer (some ⟨g, 5, none⟩)) rfl (by as_aux_lemma => kernel_rfl) (by as_aux_lemma => kernel_rfl) (by as_aux_lemma => kernel_rfl) (fun _ _ _ h => h) (Or.inl ⟨by rfl, by intro w hSw; go_simp⟩) hS ?_
            (try simp only [Act.put, List.getElem_toArray, List.getElem_cons_succ, List.getElem_cons_zero, List.setIfInBounds_toArray, List.set_cons_zero, List.set_cons_succ])
            refine wpAnyH_ready (rs := [20]) (by as_aux_lemma => kernel_rfl) (by simp) (AllReadyH.cons rfl (fun K hK => ?_) AllReadyH.nil)
            have p7 := HX7.out.at_ (i := 5) rfl
            have f7 := HX7.out.fz
            (try rw [if_pos (by rfl)])
            clear hS
            go_simp
            refine hK.out _ _ ((HB7.out.mono (Nat.le_of_lt hgY)).setCell (Nat.le_refl _) _) (fun hS => ?_)
            clear hK K
            (try simp only [Act.put, List.getElem_toArray, List.getElem_cons_succ, List.getElem_cons_zero, List.setIfInBounds_toArray, List.set_cons_zero, List.set_cons_succ])
            clear p7 f7
            refine wpAnyH_done (by as_aux_lemma => kernel_rfl) ?_ _
            clear hS
            (try go_wp2_with (fail))
            go_roundw
            all_goals (first | (simp [intOf]; omega) | exact ⟨k + 1, A7, c7, hlt, by go_num, HX7.out.set (by simp), by rw [HN.out]; exact R7.out.1.setC (fun h => by have h1 : Y.heap.size ≤ g := h; omega) _, by have h := R7.out.2.1; rw [List.length_append, ← HLN.out] at h; simpa using h, R7.out.2.2, (HCH.out.below HB7.out (Nat.le_refl _)).setCell (.inl (.inl rfl)) _⟩)
        (try rw [if_pos (by rfl)])
        clear hS
        go_simp
        refine (spec_l14Copy _ t (Seal.cs t E0 v0 E1 v1 E2 v2) _ (Lay.later HRT.out HV.out) lt0 lt1 lt2).mono ?_
        rintro e_ w5t9 ⟨H0, it0, H1, it1, H2, it2, rfl, hq_, hb_⟩
        have hzt : wr.heap.size ≤ w5s5.heap.size := HV.out.size
        have HQs := Lib.hid (Lay.later HQs.out hb_)
        have HQt := Lib.hid hq_; replace HV := Lib.hid (Below.step (a := wr) HV.out hb_); clear hq_ hb_
        refine hK.out _ _ (HV.out.mono hgl) (fun hS => ?_)
        clear hK K
        (try simp only [Act.put, List.getElem_toArray, List.getElem_cons_succ, List.getElem_cons_zero, List.setIfInBounds_toArray, List.set_cons_zero, List.set_cons_succ])
        refine wpAnyH_take (i := 16) (v := .agg #[.int .i64 s.head.house, .int .i64 s.head.epoch, .string s.head.root, .string s.head.prev, .int .i64 s.sig.at_, .slice G0 s.sig.open_.length is0, .slice G1 s.sig.shut.length is1, .slice G2 s.sig.sides.length is2, .int .i64 t.head.house, .int .i64 t.head.epoch, .string t.head.root, .string t.head.prev, .int .i64 t.sig.at_, .slice H0 t.sig.open_.length it0, .slice H1 t.sig.shut.length it1, .slice H2 t.sig.sides.length it2]) rfl (by as_aux_lemma => kernel_rfl) (by as_aux_lemma => kernel_rfl) (by as_aux_lemma => kernel_rfl) (fun _ _ _ h => h) (yieldsIf_pair (by rfl) _ _ rfl rfl rfl) hS ?_
        (try simp only [Act.put, List.getElem_toArray, List.getElem_cons_succ, List.getElem_cons_zero, List.setIfInBounds_toArray, List.set_cons_zero, List.set_cons_succ])
        refine wpAnyH_ready (rs := [1, 17]) (by as_aux_lemma => kernel_rfl) (by simp) (AllReadyH.cons rfl (fun K hK => ?_) (AllReadyH.cons rfl (fun K hK => ?_) AllReadyH.nil))
        · as_aux_lemma =>
            have p5 := HX5.out _ HV.out
            (try rw [if_pos (by rfl)])
            clear hS
            go_simp
            refine hK.out _ _ (HV.out.mono hgl) (fun hS => ?_)
            clear hK K
            (try simp only [Act.put, List.getElem_toArray, List.getElem_cons_succ, List.getElem_cons_zero, List.setIfInBounds_toArray, List.set_cons_zero, List.set_cons_succ])
            clear p5
            refine wpAnyH_ready (rs := [17]) (by as_aux_lemma => kernel_rfl) (by simp) (AllReadyH.cons rfl (fun K hK => ?_) AllReadyH.nil)
            clear hS
            refine wp_buildPair rfl _ rfl rfl ?_
            obtain ⟨wa10, hwa⟩ : ∃ W, w5t9.alloc (.cells #[.int .i64 s.head.house, .int .i64 s.head.epoch, .string s.head.root, .string s.head.prev, .int .i64 s.sig.at_, .slice G0 s.sig.open_.length is0, .slice G1 s.sig.shut.length is1, .slice G2 s.sig.sides.length is2, .int .i64 t.head.house, .int .i64 t.head.epoch, .string t.head.root, .string t.head.prev, .int .i64 t.sig.at_, .slice H0 t.sig.open_.length it0, .slice H1 t.sig.shut.length it1, .slice H2 t.sig.sides.length it2] 79) = W := ⟨_, rfl⟩
            have hl_ : wr.heap.size ≤ w5t9.heap.size := HV.out.size
            have HSR : Hid (Src wa10 (some ⟨w5t9.heap.size, 0, none⟩) [(⟨s, t⟩ : Pair)] (fun b => nw wr.heap.size b ∧ b < w5t9.heap.size)) := Lib.hid (by rw [← hwa]; exact srcR w5t9 (⟨s, t⟩ : Pair) _ _ _ rfl (pair_rd (S := nw wr.heap.size) HQs.out HQt.out (fun b q => (q.1 : wr.heap.size ≤ b)) (fun b q => Nat.le_trans hzt q.1) (fun b q q2 => by have h1 := q.2; have h2 := q2.1; omega)))
            replace HV := Lib.hid (by have h := HV.out.alloc hl_ (.cells #[.int .i64 s.head.house, .int .i64 s.head.epoch, .string s.head.root, .string s.head.prev, .int .i64 s.sig.at_, .slice G0 s.sig.open_.length is0, .slice G1 s.sig.shut.length is1, .slice G2 s.sig.sides.length is2, .int .i64 t.head.house, .int .i64 t.head.epoch, .string t.head.root, .string t.head.prev, .int .i64 t.sig.at_, .slice H0 t.sig.open_.length it0, .slice H1 t.sig.shut.length it1, .slice H2 t.sig.sides.length it2] 79); rw [hwa] at h; exact h : Below wr.heap.size wr wa10)
            rw [hwa]
            clear hwa
            refine hK.out _ _ (HV.out.mono hgl) (fun hS => ?_)
            clear hK K
            (try simp only [Act.put, List.getElem_toArray, List.getElem_cons_succ, List.getElem_cons_zero, List.setIfInBounds_toArray, List.set_cons_zero, List.set_cons_succ])
            refine wpAnyH_ready (rs := [18]) (by as_aux_lemma => kernel_rfl) (by simp) (AllReadyH.cons rfl (fun K hK => ?_) AllReadyH.nil)
            clear hS
            refine step_pushN (α := Pair) (w1 := wr) (B := Y.heap.size) (y := (⟨s, t⟩ : Pair)) (hsrc := HSR.out) (hT := fun b h => h.1) rfl _ _ rfl rfl HLN.out HRW.out.1 HRW.out.2.1 HRW.out.2.2 hsY HV.out rfl hlim ?_
            intro A7 c7 w711 r7 l7 m7 hb7
            have HB7 : Hid (Below Y.heap.size wr w711) := Lib.hid ((HV.out.mono hsY).trans hb7)
            have R7 := Lib.hid (And.intro r7 (And.intro l7 m7))
            have HX7 := Lib.hid (HXR.out.keep (HB7.out.block g hgY))
            clear r7 l7 m7 hb7 HV
            refine hK.out _ _ (HB7.out.mono (Nat.le_of_lt hgY)) (fun hS => ?_)
            clear hK K
            (try simp only [Act.put, List.getElem_toArray, List.getElem_cons_succ, List.getElem_cons_zero, List.setIfInBounds_toArray, List.set_cons_zero, List.set_cons_succ])
            refine wpAnyH_take (i := 19) (v := .pointer (some ⟨g, 5, none⟩)) rfl (by as_aux_lemma => kernel_rfl) (by as_aux_lemma => kernel_rfl) (by as_aux_lemma => kernel_rfl) (fun _ _ _ h => h) (Or.inl ⟨by rfl, by intro w hSw; go_simp⟩) hS ?_
            (try simp only [Act.put, List.getElem_toArray, List.getElem_cons_succ, List.getElem_cons_zero, List.setIfInBounds_toArray, List.set_cons_zero, List.set_cons_succ])
            refine wpAnyH_ready (rs := [20]) (by as_aux_lemma => kernel_rfl) (by simp) (AllReadyH.cons rfl (fun K hK => ?_) AllReadyH.nil)
            have p7 := HX7.out.at_ (i := 5) rfl
            have f7 := HX7.out.fz
            (try rw [if_pos (by rfl)])
            clear hS
            go_simp
            refine hK.out _ _ ((HB7.out.mono (Nat.le_of_lt hgY)).setCell (Nat.le_refl _) _) (fun hS => ?_)
            clear hK K
            (try simp only [Act.put, List.getElem_toArray, List.getElem_cons_succ, List.getElem_cons_zero, List.setIfInBounds_toArray, List.set_cons_zero, List.set_cons_succ])
            clear p7 f7
            refine wpAnyH_done (by as_aux_lemma => kernel_rfl) ?_ _
            clear hS
            (try go_wp2_with (fail))
            go_roundw
            all_goals (first | (simp [intOf]; omega) | exact ⟨k + 1, A7, c7, hlt, by go_num, HX7.out.set (by simp), by rw [HN.out]; exact R7.out.1.setC (fun h => by have h1 : Y.heap.size ≤ g := h; omega) _, by have h := R7.out.2.1; rw [List.length_append, ← HLN.out] at h; simpa using h, R7.out.2.2, (HCH.out.below HB7.out (Nat.le_refl _)).setCell (.inl (.inl rfl)) _⟩)
        clear hS
        refine wp_buildPair rfl _ rfl rfl ?_
        obtain ⟨wa12, hwa⟩ : ∃ W, w5t9.alloc (.cells #[.int .i64 s.head.house, .int .i64 s.head.epoch, .string s.head.root, .string s.head.prev, .int .i64 s.sig.at_, .slice G0 s.sig.open_.length is0, .slice G1 s.sig.shut.length is1, .slice G2 s.sig.sides.length is2, .int .i64 t.head.house, .int .i64 t.head.epoch, .string t.head.root, .string t.head.prev, .int .i64 t.sig.at_, .slice H0 t.sig.open_.length it0, .slice H1 t.sig.shut.length it1, .slice H2 t.sig.sides.length it2] 79) = W := ⟨_, rfl⟩
        have hl_ : wr.heap.size ≤ w5t9.heap.size := HV.out.size
        have HSR : Hid (Src wa12 (some ⟨w5t9.heap.size, 0, none⟩) [(⟨s, t⟩ : Pair)] (fun b => nw wr.heap.size b ∧ b < w5t9.heap.size)) := Lib.hid (by rw [← hwa]; exact srcR w5t9 (⟨s, t⟩ : Pair) _ _ _ rfl (pair_rd (S := nw wr.heap.size) HQs.out HQt.out (fun b q => (q.1 : wr.heap.size ≤ b)) (fun b q => Nat.le_trans hzt q.1) (fun b q q2 => by have h1 := q.2; have h2 := q2.1; omega)))
        replace HV := Lib.hid (by have h := HV.out.alloc hl_ (.cells #[.int .i64 s.head.house, .int .i64 s.head.epoch, .string s.head.root, .string s.head.prev, .int .i64 s.sig.at_, .slice G0 s.sig.open_.length is0, .slice G1 s.sig.shut.length is1, .slice G2 s.sig.sides.length is2, .int .i64 t.head.house, .int .i64 t.head.epoch, .string t.head.root, .string t.head.prev, .int .i64 t.sig.at_, .slice H0 t.sig.open_.length it0, .slice H1 t.sig.shut.length it1, .slice H2 t.sig.sides.length it2] 79); rw [hwa] at h; exact h : Below wr.heap.size wr wa12)
        rw [hwa]
        clear hwa
        refine hK.out _ _ (HV.out.mono hgl) (fun hS => ?_)
        clear hK K
        (try simp only [Act.put, List.getElem_toArray, List.getElem_cons_succ, List.getElem_cons_zero, List.setIfInBounds_toArray, List.set_cons_zero, List.set_cons_succ])
        refine wpAnyH_ready (rs := [1]) (by as_aux_lemma => kernel_rfl) (by simp) (AllReadyH.cons rfl (fun K hK => ?_) AllReadyH.nil)
        have p5 := HX5.out _ HV.out
        (try rw [if_pos (by rfl)])
        clear hS
        go_simp
        refine hK.out _ _ (HV.out.mono hgl) (fun hS => ?_)
        clear hK K
        (try simp only [Act.put, List.getElem_toArray, List.getElem_cons_succ, List.getElem_cons_zero, List.setIfInBounds_toArray, List.set_cons_zero, List.set_cons_succ])
        clear p5
        refine wpAnyH_ready (rs := [18]) (by as_aux_lemma => kernel_rfl) (by simp) (AllReadyH.cons rfl (fun K hK => ?_) AllReadyH.nil)
        clear hS
        refine step_pushN (α := Pair) (w1 := wr) (B := Y.heap.size) (y := (⟨s, t⟩ : Pair)) (hsrc := HSR.out) (hT := fun b h => h.1) rfl _ _ rfl rfl HLN.out HRW.out.1 HRW.out.2.1 HRW.out.2.2 hsY HV.out rfl hlim ?_
        intro A7 c7 w713 r7 l7 m7 hb7
        have HB7 : Hid (Below Y.heap.size wr w713) := Lib.hid ((HV.out.mono hsY).trans hb7)
        have R7 := Lib.hid (And.intro r7 (And.intro l7 m7))
        have HX7 := Lib.hid (HXR.out.keep (HB7.out.block g hgY))
        clear r7 l7 m7 hb7 HV
        refine hK.out _ _ (HB7.out.mono (Nat.le_of_lt hgY)) (fun hS => ?_)
        clear hK K
        (try simp only [Act.put, List.getElem_toArray, List.getElem_cons_succ, List.getElem_cons_zero, List.setIfInBounds_toArray, List.set_cons_zero, List.set_cons_succ])
        refine wpAnyH_take (i := 19) (v := .pointer (some ⟨g, 5, none⟩)) rfl (by as_aux_lemma => kernel_rfl) (by as_aux_lemma => kernel_rfl) (by as_aux_lemma => kernel_rfl) (fun _ _ _ h => h) (Or.inl ⟨by rfl, by intro w hSw; go_simp⟩) hS ?_
        (try simp only [Act.put, List.getElem_toArray, List.getElem_cons_succ, List.getElem_cons_zero, List.setIfInBounds_toArray, List.set_cons_zero, List.set_cons_succ])
        refine wpAnyH_ready (rs := [20]) (by as_aux_lemma => kernel_rfl) (by simp) (AllReadyH.cons rfl (fun K hK => ?_) AllReadyH.nil)
        have p7 := HX7.out.at_ (i := 5) rfl
        have f7 := HX7.out.fz
        (try rw [if_pos (by rfl)])
        clear hS
        go_simp
        refine hK.out _ _ ((HB7.out.mono (Nat.le_of_lt hgY)).setCell (Nat.le_refl _) _) (fun hS => ?_)
        clear hK K
        (try simp only [Act.put, List.getElem_toArray, List.getElem_cons_succ, List.getElem_cons_zero, List.setIfInBounds_toArray, List.set_cons_zero, List.set_cons_succ])
        clear p7 f7
        refine wpAnyH_done (by as_aux_lemma => kernel_rfl) ?_ _
        clear hS
        (try go_wp2_with (fail))
        go_roundw
        all_goals (first | (simp [intOf]; omega) | exact ⟨k + 1, A7, c7, hlt, by go_num, HX7.out.set (by simp), by rw [HN.out]; exact R7.out.1.setC (fun h => by have h1 : Y.heap.size ≤ g := h; omega) _, by have h := R7.out.2.1; rw [List.length_append, ← HLN.out] at h; simpa using h, R7.out.2.2, (HCH.out.below HB7.out (Nat.le_refl _)).setCell (.inl (.inl rfl)) _⟩)
      have hke : k = x.pairs.length := by omega
      subst hke
      rw [List.take_length] at HRW
      obtain ⟨B3, rfl⟩ : ∃ z, z = A := ⟨_, rfl⟩
      obtain ⟨b3, rfl⟩ : ∃ z, z = c := ⟨_, rfl⟩
      have RF5 := Lib.hid (Row.chg RF4.out HCH.out (fun b p q => by have p1 := p.1; have p2 := p.2; rcases q with q | q <;> omega))
      have RP5 := Lib.hid (Row.chg RP4.out HCH.out (fun b p q => by have p1 := p.1; have p2 := p.2; rcases q with q | q <;> omega))
      have RN5 := Lib.hid (Row.chg RN4.out HCH.out (fun b p q => by have p1 := p.1; have p2 := p.2; rcases q with q | q <;> omega))
      have RQ5 := Lib.hid (to_rng HRW.out.1)
      have xr := XW.out.keep (HBE.out.block (w.heap.size + 1) (by omega))
      have z0' := xr.at_ (i := 0) rfl
      have z1' := xr.at_ (i := 1) rfl
      have z2' := xr.at_ (i := 2) rfl
      have z3' := xr.at_ (i := 3) rfl
      have z4' := xr.at_ (i := 4) rfl
      have z5' := xr.at_ (i := 5) rfl
      have zf := xr.fz
      have y0 := HXR.out.at_ (i := 0) rfl
      have y1 := HXR.out.at_ (i := 1) rfl
      have y2 := HXR.out.at_ (i := 2) rfl
      have y3 := HXR.out.at_ (i := 3) rfl
      have y4 := HXR.out.at_ (i := 4) rfl
      have y5 := HXR.out.at_ (i := 5) rfl
      clear RF4 RP4 RN4 HRW HCH hlt xr
      go_wp2_with (fail)
      refine bodyPost_ret (v := .agg #[.int .i64 x.house, .bool x.up, .slice B0 x.disk.files.length b0, .slice B1 x.pool.length b1, .slice B2 x.pins.length b2, .slice B3 x.pairs.length b3]) (by simp [results, Tryz.results67, go_sem, *]) rfl ?_
      clear y0 y1 y2 y3 y4 y5 z0' z1' z2' z3' z4' z5' zf e0 e1 e2 e3 e4 e5
      have hset := set6R wr (w.heap.size + 1) (.int .i64 x.house) (.bool x.up) (.slice B0 x.disk.files.length b0) (.slice B1 x.pool.length b1) (.slice B2 x.pins.length b2) (.slice B3 x.pairs.length b3)
      have hrd : rd true wr (Auditor.cs x B0 b0 B1 b1 B2 b2 B3 b3) x (nw g) := Auditor.mk' HF0.out LF1.out.1 LF1.out.2 RF5.out (fun b k => Nat.le_trans (Nat.le_of_lt hgV) k.1) LP2.out.1 LP2.out.2 RP5.out (fun b k => Nat.le_trans (Nat.le_of_lt hg1) k.1) LN4.out.1 LN4.out.2 RN5.out (fun b k => Nat.le_trans (Nat.le_of_lt hg2) k.1) HKC.out.1 HKC.out.2 RQ5.out (fun b k => Nat.le_trans (Nat.le_of_lt HSG.out) k.1) (fun _ => pwmk4 (rng_dj (Nat.le_refl _)) (rng_dj (by omega)) (rng_dj (by omega)) (rng_dj (Nat.le_refl _)) (rng_dj (by omega)) (rng_dj (Nat.le_refl _)))
      refine ⟨_, rfl, Lay.mono (Lay.keep (Lay.tight hrd) (fun b k => hset.block_ne (by have k1 : g ≤ b := k.1; omega) k.2)) (fun b k => by have k1 : g ≤ b := k.1; show w.heap.size ≤ b; omega), ?_⟩
      exact (HBW.out.trans ((HBE.out.mono (by rw [← HG.out]; omega : w.heap.size + 1 ≤ g)).mono (Nat.le_succ _))).trans (hset.to_below (by omega) (fun b q => by have q : b = w.heap.size + 1 := q; omega))
end Go.Proofs.YtlfnmbcnehaikaaGreatDoor
