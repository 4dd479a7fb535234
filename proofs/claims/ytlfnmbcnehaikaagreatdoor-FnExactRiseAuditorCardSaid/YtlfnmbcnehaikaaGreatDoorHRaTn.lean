/- A part of the proof: what the laws need of it. -/
import Derived.Test.YtlfnmbcnehaikaaGreatDoorHRaL28xTf
import Derived.Test.YtlfnmbcnehaikaaGreatDoorHRaL29xUa
import Derived.Test.YtlfnmbcnehaikaaGreatDoorHRaL26xRu
import Derived.Test.YtlfnmbcnehaikaaGreatDoorHRaL24xRq
import Derived.Test.YtlfnmbcnehaikaaGreatDoorHRaL21xRb
set_option linter.unusedVariables false
set_option linter.unusedSimpArgs false
set_option linter.unusedVariables false
set_option linter.unusedSimpArgs false
namespace Go.Proofs.YtlfnmbcnehaikaaGreatDoor
open Go.RowKit Lay Mk
theorem RslRes.no {t : ByteArray} {w w' : World} (h : rdSeal t = none) (hb : Below w.heap.size w w') : RslRes t w (.returned (.tuple #[.agg #[.int .i64 0, .int .i64 0, .string ⟨#[]⟩, .string ⟨#[]⟩, .int .i64 0, .slice none 0 0, .slice none 0 0, .slice none 0 0], .bool false])) w' := ⟨_, zeroSeal, false, rfl, seal_zero, hb, fun k => (by cases k), fun _ => ⟨h, rfl⟩⟩
set_option maxRecDepth 20000 in set_option maxHeartbeats 8000000 in
theorem spec_ReadSeal (w : World) (t : ByteArray) (ht : t.size ≤ 1048576) : Calls Tryz.prog 110 #[.string t] w (RslRes t w) := by
  have hset : ∀ (Z : World) (o : Nat) (u : Value), Below w.heap.size w Z → Below w.heap.size w (Z.setCell ⟨w.heap.size, o, none⟩ u) := fun Z o u k => Below.setCell k (Nat.le_refl _) u
  go_enter Tryz.func110, Tryz.ntmps110
  go_wp2_with (fail)
  obtain ⟨W, hW⟩ : ∃ W, (w.alloc (.cells #[.int .i64 0, .int .i64 0, .string ⟨#[]⟩, .string ⟨#[]⟩, .int .i64 0, .slice none 0 0, .slice none 0 0, .slice none 0 0] 76)).alloc (.cells #[.string t, .int .i64 0, .bool false] 167) = W := ⟨_, rfl⟩
  obtain ⟨g, hg⟩ : ∃ g, w.heap.size + 1 = g := ⟨_, rfl⟩
  have hWf : Below w.heap.size w W ∧ g < W.heap.size ∧ Bx W w.heap.size #[.int .i64 0, .int .i64 0, .string ⟨#[]⟩, .string ⟨#[]⟩, .int .i64 0, .slice none 0 0, .slice none 0 0, .slice none 0 0] 76 ∧ Fld 167 W g t 0 false := by
    rw [← hW, ← hg]
    have e1 : w.heap.size + 1 = (w.alloc (.cells #[.int .i64 0, .int .i64 0, .string ⟨#[]⟩, .string ⟨#[]⟩, .int .i64 0, .slice none 0 0, .slice none 0 0, .slice none 0 0] 76)).heap.size := by simp
    refine ⟨((Below.refl _ _).alloc (Nat.le_refl _) _).alloc (by simp) _, by simp, (Bx.new _ _ _).keep (Below.heap_alloc _ _ _ (by simp)), ?_⟩
    rw [e1]
    exact Fld.new _ _ _
  have hgw : w.heap.size < g := by omega
  rw [hW, hg]
  clear hW hg
  obtain ⟨bW, sW, xW, hF⟩ := hWf
  have hSH : ∃ (s : ByteArray) (a1 : Nat) (b1 : Bool), Hid (Calls Tryz.prog 154 #[.pointer (some ⟨g, 0, none⟩)] W fun e w' => (e = .returned (.string s) ∧ Fld 167 w' g t a1 b1) ∧ Chg (fun b => b = g ∨ W.heap.size ≤ b) W w') ∧ a1 ≤ t.size ∧ s.size ≤ 1048576 ∧ Hid ((b1 = false → rdShort t 0 = some (s, a1)) ∧ (b1 = true → rdShort t 0 = none)) := by
    cases hs : rdShort t 0 with
    | none => exact ⟨_, _, _, Lib.hid ((spec_l09Short_no W g t 0 hF ht (Nat.zero_le _) hs).mono (fun e w' k => ⟨⟨k.1, k.2.1⟩, k.2.2⟩)), Nat.zero_le _, by decide, Lib.hid ⟨fun h => (by cases h), fun _ => rfl⟩⟩
    | some q =>
      obtain ⟨s, x⟩ := q
      have h1 := rdShort_some hs
      exact ⟨_, _, _, Lib.hid ((spec_l09Short_yes W g t 0 hF ht (Nat.zero_le _) hs).mono (fun e w' k => ⟨⟨k.1, k.2.1⟩, k.2.2⟩)), h1.2.1, by omega, Lib.hid ⟨fun _ => rfl, fun h => (by cases h)⟩⟩
  clear hF
  obtain ⟨s, a1, b1, HV1, ha1, hsz, H1⟩ := hSH
  refine HV1.out.mono ?_
  rintro e1 w1 ⟨⟨rfl, hF1⟩, hc1⟩
  have hs1 := hc1.size
  have x1 := xW.keep (hc1.block _ (by omega) (by omega))
  have HB1 := Lib.hid (bW.trans (hc1.to_below (B := w.heap.size) (by omega) (fun b k => by rcases k with k | k <;> omega)))
  clear hc1 HV1 xW bW
  have hRH : ∃ (h : Head) (ok : Bool), Hid (Calls Tryz.prog 153 #[.string s] w1 fun e w' => e = .returned (.tuple #[.agg #[.int .i64 h.house, .int .i64 h.epoch, .string h.root, .string h.prev], .bool ok]) ∧ Below w1.heap.size w1 w') ∧ Hid ((ok = true → rdHead s = some h) ∧ (ok = false → rdHead s = none)) ∧ I64 h.house ∧ I64 h.epoch ∧ h.root.size ≤ 16 ∧ h.prev.size ≤ 16 := by
    have h9 := spec_ReadHead w1 s hsz
    cases hh : rdHead s with
    | none =>
      rw [hh] at h9
      exact ⟨⟨0, 0, ⟨#[]⟩, ⟨#[]⟩⟩, false, Lib.hid h9, Lib.hid ⟨fun h => (by cases h), fun _ => rfl⟩, (by show I64 0; unfold I64; omega), (by show I64 0; unfold I64; omega), Nat.zero_le _, Nat.zero_le _⟩
    | some h =>
      rw [hh] at h9
      obtain ⟨p1, p2, p3, p4⟩ := headOk_b (rdHead_some hh).1
      exact ⟨h, true, Lib.hid h9, Lib.hid ⟨fun _ => rfl, fun h => (by cases h)⟩, by unfold I64; omega, by unfold I64; omega, by omega, by omega⟩
  obtain ⟨h, ok, HV2, H2, ih, ie, zr, zp⟩ := hRH
  go_wp2_with (fail)
  refine HV2.out.mono ?_
  rintro e2 w2 ⟨rfl, hb2⟩
  have x2 := x1.keep (hb2.block _ x1.lt)
  have hF2 := hF1.below hb2 hF1.lt
  have HB2 := Lib.hid (HB1.out.trans (hb2.mono HB1.out.size))
  clear hb2 HV2 x1 hF1
  go_upto_region 3 with (fail)
  obtain ⟨V, hV⟩ : ∃ V, w2.alloc (.cells #[.int .i64 h.house, .int .i64 h.epoch, .string h.root, .string h.prev] 72) = V := ⟨_, rfl⟩
  have hVf : Below w2.heap.size w2 V ∧ w2.heap.size < V.heap.size ∧ Bx V w2.heap.size #[.int .i64 h.house, .int .i64 h.epoch, .string h.root, .string h.prev] 72 := by
    rw [← hV]
    exact ⟨(Below.refl _ _).alloc (Nat.le_refl _) _, by simp, Bx.new _ _ _⟩
  rw [hV]
  clear hV
  obtain ⟨bV, sV, xh⟩ := hVf
  have xr := x2.keep (bV.block _ x2.lt)
  have hFV := hF2.below bV hF2.lt
  have HBV := Lib.hid (HB2.out.trans (bV.mono HB2.out.size))
  have hrw : w.heap.size < w2.heap.size := x2.lt
  clear x2 hF2 bV HB1 HB2
  have c1 := hFV.c1
  have c2 := hFV.c2
  have y0 := xr.at_ (i := 0) rfl
  have y1 := xr.at_ (i := 1) rfl
  have y2 := xr.at_ (i := 2) rfl
  have y3 := xr.at_ (i := 3) rfl
  have y4 := xr.at_ (i := 4) rfl
  have y5 := xr.at_ (i := 5) rfl
  have y6 := xr.at_ (i := 6) rfl
  have y7 := xr.at_ (i := 7) rfl
  have yf := xr.fz
  cases e1 : b1
  rotate_left
  · have HN := Lib.hid (rdSeal_no1 (H1.out.2 e1))
    subst e1
    clear xr xh hFV H1 H2
    go_wp2_with (fail)
    refine bodyPost_ret (v := .tuple #[.agg #[.int .i64 0, .int .i64 0, .string ⟨#[]⟩, .string ⟨#[]⟩, .int .i64 0, .slice none 0 0, .slice none 0 0, .slice none 0 0], .bool false]) (by simp [results, Tryz.results110, go_sem, *]) rfl ?_
    exact RslRes.no HN.out (hset _ _ _ (hset _ _ _ (hset _ _ _ (hset _ _ _ (hset _ _ _ (hset _ _ _ (hset _ _ _ (hset _ _ _ HBV.out))))))))
  have HS := Lib.hid (H1.out.1 e1)
  subst e1
  cases e2 : ok
  · have HN := Lib.hid (rdSeal_no2 HS.out (H2.out.2 e2))
    subst e2
    clear xr xh hFV H1 H2
    go_wp2_with (fail)
    refine bodyPost_ret (v := .tuple #[.agg #[.int .i64 0, .int .i64 0, .string ⟨#[]⟩, .string ⟨#[]⟩, .int .i64 0, .slice none 0 0, .slice none 0 0, .slice none 0 0], .bool false]) (by simp [results, Tryz.results110, go_sem, *]) rfl ?_
    exact RslRes.no HN.out (hset _ _ _ (hset _ _ _ (hset _ _ _ (hset _ _ _ (hset _ _ _ (hset _ _ _ (hset _ _ _ (hset _ _ _ HBV.out))))))))
  have HH := Lib.hid (H2.out.1 e2)
  subst e2
  clear H1 H2 y0 y1 y2 y3 y4 y5 y6 y7 yf
  have b1 : (a1 : Int) ≤ (t.size : Int) := by omega
  obtain ⟨u, hu⟩ : ∃ u, t.extract a1 t.size = u := ⟨_, rfl⟩
  have hus : u.size = t.size - a1 := by rw [← hu]; exact rest_size ha1
  have HU := Lib.hid hu
  have HRG := Lib.hid (spec_ReadSig V u (by omega))
  go_wp2_with (fail)
  refine HRG.out.mono ?_
  rintro e3 w3 ⟨cs, sg, rok, rfl, hrd, hb3, hy, hn⟩
  obtain ⟨A2, d2, S2, A3, d3, S3, A4, d4, S4, rfl, -⟩ := Sig.open hrd
  have HRD := Lib.hid hrd
  have HY := Lib.hid hy; have HN := Lib.hid hn
  have x3 := xr.keep (hb3.block _ xr.lt)
  have h3 := xh.keep (hb3.block _ xh.lt)
  have HB3 := Lib.hid (HBV.out.trans (hb3.mono HBV.out.size))
  have hs3 := hb3.size
  simp only [Sig.cs]
  clear hrd hy hn hb3 hFV c1 c2 xr xh HRG
  go_upto_region 6 with (fail)
  obtain ⟨Y, hY⟩ : ∃ V, w3.alloc (.cells #[.int .i64 sg.at_, .slice A2 sg.open_.length d2, .slice A3 sg.shut.length d3, .slice A4 sg.sides.length d4] 74) = V := ⟨_, rfl⟩
  have hYf : Below w3.heap.size w3 Y ∧ w3.heap.size < Y.heap.size ∧ Bx Y w3.heap.size #[.int .i64 sg.at_, .slice A2 sg.open_.length d2, .slice A3 sg.shut.length d3, .slice A4 sg.sides.length d4] 74 := by
    rw [← hY]
    exact ⟨(Below.refl _ _).alloc (Nat.le_refl _) _, by simp, Bx.new _ _ _⟩
  rw [hY]
  clear hY
  obtain ⟨bY, sY, xs⟩ := hYf
  have XR := Lib.hid (x3.keep (bY.block _ x3.lt))
  have xh2 := h3.keep (bY.block _ h3.lt)
  have HBY := Lib.hid (HB3.out.trans (bY.mono HB3.out.size))
  have HRY := Lib.hid (Lay.later (Lay.tight HRD.out) bY)
  clear x3 h3 bY
  have z0 := xh2.at_ (i := 0) rfl
  have z1 := xh2.at_ (i := 1) rfl
  have z2 := xh2.at_ (i := 2) rfl
  have z3 := xh2.at_ (i := 3) rfl
  have q0 := xs.at_ (i := 0) rfl
  have q1 := xs.at_ (i := 1) rfl
  have q2 := xs.at_ (i := 2) rfl
  have q3 := xs.at_ (i := 3) rfl
  clear xh2 xs
  go_upto_region 7 with (fail)
  obtain ⟨Z, hZ⟩ : ∃ V, Y.alloc (.cells #[.int .i64 h.house, .int .i64 h.epoch, .string h.root, .string h.prev, .int .i64 sg.at_, .slice A2 sg.open_.length d2, .slice A3 sg.shut.length d3, .slice A4 sg.sides.length d4] 76) = V := ⟨_, rfl⟩
  have hZf : Below Y.heap.size Y Z ∧ Y.heap.size < Z.heap.size ∧ Bx Z Y.heap.size #[.int .i64 h.house, .int .i64 h.epoch, .string h.root, .string h.prev, .int .i64 sg.at_, .slice A2 sg.open_.length d2, .slice A3 sg.shut.length d3, .slice A4 sg.sides.length d4] 76 := by
    rw [← hZ]
    exact ⟨(Below.refl _ _).alloc (Nat.le_refl _) _, by simp, Bx.new _ _ _⟩
  rw [hZ]
  clear hZ z0 z1 z2 z3 q0 q1 q2 q3
  obtain ⟨bZ, sZ, xo⟩ := hZf
  have XRZ := Lib.hid (XR.out.keep (bZ.block _ XR.out.lt))
  have HBZ := Lib.hid (HBY.out.trans (bZ.mono HBY.out.size))
  have hz := Lay.later HRY.out bZ
  have HWV := HBV.out.size
  obtain ⟨B0, k0, T0, B1, k1, T1, B2, k2, T2, hcs, iat, l0, m0, r0, s0, l1, m1, r1, s1, l2, m2, r2, s2, pw⟩ := Sig.open hz
  simp only [Sig.cs, List.cons.injEq, Value.slice.injEq, and_true, true_and] at hcs
  obtain ⟨⟨c1_, c2_⟩, ⟨c3_, c4_⟩, ⟨c5_, c6_⟩⟩ := hcs
  subst c1_; subst c2_; subst c3_; subst c4_; subst c5_; subst c6_
  have hsub : ∀ T : Blks, sub T (fun b => nw V.heap.size b ∧ b < w3.heap.size) → sub T (fun b => w.heap.size ≤ b ∧ V.heap.size ≤ b) := fun T kt b kb => by
    have k1 : V.heap.size ≤ b := (kt b kb).1
    exact ⟨by omega, k1⟩
  have HSD := Lib.hid (Seal.mk' (m := true) (x := ⟨h, sg⟩) (S := fun b => w.heap.size ≤ b ∧ V.heap.size ≤ b) ih ie (by show h.root.size ≤ maxLen; unfold maxLen; omega) (by show h.prev.size ≤ maxLen; unfold maxLen; omega) iat l0 m0 r0 (hsub _ s0) l1 m1 r1 (hsub _ s1) l2 m2 r2 (hsub _ s2) pw)
  have HST := Lib.hid (spec_SealText Z ⟨h, sg⟩ _ _ (Lay.weak HSD.out))
  simp only [Seal.cs] at HST HSD
  have hho := (rdHead_some HH.out).1
  have HHO := Lib.hid hho
  rw [hho] at HST
  clear hz pw r0 r1 r2 hho hsub bZ
  have XO := Lib.hid xo
  have z0 := xo.at_ (i := 0) rfl
  have z1 := xo.at_ (i := 1) rfl
  have z2 := xo.at_ (i := 2) rfl
  have z3 := xo.at_ (i := 3) rfl
  have z4 := xo.at_ (i := 4) rfl
  have z5 := xo.at_ (i := 5) rfl
  have z6 := xo.at_ (i := 6) rfl
  have z7 := xo.at_ (i := 7) rfl
  clear xo
  cases er : rok
  · have HNO : Hid (rdSeal t = none) := Lib.hid (by
      by_cases hz : t.size = a1 + 321
      · have h5 := rdSeal_at HS.out HH.out hz
        have h6 : sigForm (sigAt t a1 (by omega)) = false := by
          cases hx : sigForm (sigAt t a1 (by omega))
          · rfl
          · exfalso
            refine (HN.out er).1 ⟨by omega, ?_⟩
            simp only [sigForm, sigAt, Bool.and_eq_true] at hx
            have h9 := hx.1.1.1
            unfold inB at h9
            rw [decide_eq_true_iff] at h9
            have e0 : u[0] = t[a1] := by subst hu; rw [ByteArray.getElem_extract]; rfl
            rw [e0]; omega
        rw [h5, h6]; rfl
      · exact rdSeal_no3 HS.out hz)
    have hsf : sigForm sg = false := by rw [(HN.out er).2]; rfl
    rw [hsf] at HST
    simp only [Bool.and_false, sgV, Bool.false_eq_true, if_false] at HST
    subst er
    go_wp2_with (fail)
    refine HST.out.mono ?_
    rintro e7 w7 ⟨rfl, hb7⟩
    have HB7 := Lib.hid (HBZ.out.trans (hb7.mono HBZ.out.size))
    have y0 := (XRZ.out.keep (hb7.block _ XRZ.out.lt)).at_ (i := 0) rfl
    have y1 := (XRZ.out.keep (hb7.block _ XRZ.out.lt)).at_ (i := 1) rfl
    have y2 := (XRZ.out.keep (hb7.block _ XRZ.out.lt)).at_ (i := 2) rfl
    have y3 := (XRZ.out.keep (hb7.block _ XRZ.out.lt)).at_ (i := 3) rfl
    have y4 := (XRZ.out.keep (hb7.block _ XRZ.out.lt)).at_ (i := 4) rfl
    have y5 := (XRZ.out.keep (hb7.block _ XRZ.out.lt)).at_ (i := 5) rfl
    have y6 := (XRZ.out.keep (hb7.block _ XRZ.out.lt)).at_ (i := 6) rfl
    have y7 := (XRZ.out.keep (hb7.block _ XRZ.out.lt)).at_ (i := 7) rfl
    have yf := (XRZ.out.keep (hb7.block _ XRZ.out.lt)).fz
    clear z0 z1 z2 z3 z4 z5 z6 z7
    go_wp2_with (fail)
    refine bodyPost_ret (v := .tuple #[.agg #[.int .i64 0, .int .i64 0, .string ⟨#[]⟩, .string ⟨#[]⟩, .int .i64 0, .slice none 0 0, .slice none 0 0, .slice none 0 0], .bool false]) (by simp [results, Tryz.results110, go_sem, *]) rfl ?_
    exact RslRes.no HNO.out (hset _ _ _ (hset _ _ _ (hset _ _ _ (hset _ _ _ (hset _ _ _ (hset _ _ _ (hset _ _ _ (hset _ _ _ HB7.out))))))))
  · obtain ⟨v1, v2, v3⟩ := HY.out er
    have hz : t.size = a1 + 321 := by omega
    have hsg : sg = sigAt t a1 (by omega) := by rw [v3]; subst hu; exact sigAt_extract hz _ _
    have hx16 : t[a1].toNat < 16 := by
      have e0 : u[0] = t[a1] := by subst hu; rw [ByteArray.getElem_extract]; rfl
      rw [← e0]; exact v2
    have hsf : sigForm sg = true := by rw [hsg]; exact sigAt_form hz hx16
    have HYES : Hid (rdSeal t = some ⟨h, sg⟩) := Lib.hid (by rw [rdSeal_at HS.out HH.out hz, ← hsg, hsf, if_pos rfl])
    have htx : sealTx ⟨h, sg⟩ = t := (rdSeal_some HYES.out).2.2
    rw [hsf] at HST
    simp only [Bool.and_true, sgV, if_true] at HST
    rw [htx] at HST
    subst er
    clear v1 v2 v3 hz hsg hx16 hsf htx
    go_wp2_with (fail)
    refine HST.out.mono ?_
    rintro e7 w7 ⟨rfl, hb7⟩
    have HB7 := Lib.hid (HBZ.out.trans (hb7.mono HBZ.out.size))
    have y0 := (XRZ.out.keep (hb7.block _ XRZ.out.lt)).at_ (i := 0) rfl
    have y1 := (XRZ.out.keep (hb7.block _ XRZ.out.lt)).at_ (i := 1) rfl
    have y2 := (XRZ.out.keep (hb7.block _ XRZ.out.lt)).at_ (i := 2) rfl
    have y3 := (XRZ.out.keep (hb7.block _ XRZ.out.lt)).at_ (i := 3) rfl
    have y4 := (XRZ.out.keep (hb7.block _ XRZ.out.lt)).at_ (i := 4) rfl
    have y5 := (XRZ.out.keep (hb7.block _ XRZ.out.lt)).at_ (i := 5) rfl
    have y6 := (XRZ.out.keep (hb7.block _ XRZ.out.lt)).at_ (i := 6) rfl
    have y7 := (XRZ.out.keep (hb7.block _ XRZ.out.lt)).at_ (i := 7) rfl
    have yf := (XRZ.out.keep (hb7.block _ XRZ.out.lt)).fz
    have z0 := (XO.out.keep (hb7.block _ XO.out.lt)).at_ (i := 0) rfl
    have z1 := (XO.out.keep (hb7.block _ XO.out.lt)).at_ (i := 1) rfl
    have z2 := (XO.out.keep (hb7.block _ XO.out.lt)).at_ (i := 2) rfl
    have z3 := (XO.out.keep (hb7.block _ XO.out.lt)).at_ (i := 3) rfl
    have z4 := (XO.out.keep (hb7.block _ XO.out.lt)).at_ (i := 4) rfl
    have z5 := (XO.out.keep (hb7.block _ XO.out.lt)).at_ (i := 5) rfl
    have z6 := (XO.out.keep (hb7.block _ XO.out.lt)).at_ (i := 6) rfl
    have z7 := (XO.out.keep (hb7.block _ XO.out.lt)).at_ (i := 7) rfl
    go_wp2_with (fail)
    refine bodyPost_ret (v := .tuple #[.agg #[.int .i64 h.house, .int .i64 h.epoch, .string h.root, .string h.prev, .int .i64 sg.at_, .slice A2 sg.open_.length d2, .slice A3 sg.shut.length d3, .slice A4 sg.sides.length d4], .bool true]) (by simp [results, Tryz.results110, go_sem, *]) rfl ?_
    refine ⟨_, ⟨h, sg⟩, true, rfl, ?_, hset _ _ _ (hset _ _ _ (hset _ _ _ (hset _ _ _ (hset _ _ _ (hset _ _ _ (hset _ _ _ (hset _ _ _ HB7.out))))))), fun _ => HYES.out, fun k => (by cases k)⟩
    clear y0 y1 y2 y3 y4 y5 y6 y7 yf z0 z1 z2 z3 z4 z5 z6 z7
    refine Lay.mono (Lay.keep (Lay.later (Lay.tight HSD.out) hb7) (fun b k => ?_)) (fun b k => k.1.1)
    have k1 : V.heap.size ≤ b := k.1.2
    have k2 : b < Z.heap.size := k.2
    exact (set8R _ _ _ _ _ _ _ _ _ _).block_ne (by omega) (by have := hb7.size; omega)
end Go.Proofs.YtlfnmbcnehaikaaGreatDoor
