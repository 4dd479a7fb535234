/- A part of the proof. -/
import Derived.Test.YtlfnmbcnehaikaaGreatDoorHApL29xUa
set_option linter.unusedVariables false
set_option linter.unusedSimpArgs false
set_option maxRecDepth 20000
set_option maxHeartbeats 8000000
namespace Go.Proofs.YtlfnmbcnehaikaaGreatDoor
open Go.RowKit Lay Mk
theorem RslRes.no {t : ByteArray} {w w' : World} (h : rdSeal t = none) (hb : Below w.heap.size w w') : RslRes t w (.returned (.tuple #[.agg #[.int .i64 0, .int .i64 0, .string ⟨#[]⟩, .string ⟨#[]⟩, .int .i64 0, .slice none 0 0, .slice none 0 0, .slice none 0 0], .bool false])) w':=⟨_,zeroSeal,false,rfl,seal_zero,hb,fun k => (by cases k),fun _ => ⟨h,rfl⟩⟩
theorem spec_ReadSeal (w : World) (t : ByteArray) (ht : t.size ≤ 1048576) : Calls Tryz.prog 110 #[.string t] w (RslRes t w):=by
 have hset : ∀ (Z : World) (o : Nat) (u : Value),Below w.heap.size w Z → Below w.heap.size w (Z.setCell ⟨w.heap.size,o,none⟩ u):=fun Z o u k => Below.setCell k (Nat.le_refl _) u
 go_enter Tryz.func110,Tryz.ntmps110
 go_wp2_with (fail)
 obtain ⟨W,hW⟩ : ∃ W,(w.alloc (.cells #[.int .i64 0, .int .i64 0, .string ⟨#[]⟩, .string ⟨#[]⟩, .int .i64 0, .slice none 0 0, .slice none 0 0, .slice none 0 0] 76)).alloc (.cells #[.string t, .int .i64 0, .bool false] 167) = W:=⟨_,rfl⟩
 obtain ⟨g,hg⟩ : ∃ g,w.heap.size + 1 = g:=⟨_,rfl⟩
 have hWf : Below w.heap.size w W ∧ g < W.heap.size ∧ Bx W w.heap.size #[.int .i64 0, .int .i64 0, .string ⟨#[]⟩, .string ⟨#[]⟩, .int .i64 0, .slice none 0 0, .slice none 0 0, .slice none 0 0] 76 ∧ Fld 167 W g t 0 false:=by
  rw [← hW, ← hg]
  have e1 : w.heap.size + 1 = (w.alloc (.cells #[.int .i64 0, .int .i64 0, .string ⟨#[]⟩, .string ⟨#[]⟩, .int .i64 0, .slice none 0 0, .slice none 0 0, .slice none 0 0] 76)).heap.size:=zz17
  refine ⟨((Below.refl _ _).alloc (Nat.le_refl _) _).alloc zz17 _,zz17,(Bx.new _ _ _).keep (Below.heap_alloc _ _ _ zz17),?_⟩
  rw [e1]
  exact Fld.new _ _ _
 have hgw : w.heap.size < g:=zz4
 rw [hW,hg]
 clear hW hg
 obtain ⟨bW,sW,xW,hF⟩:=hWf
 have hSH : ∃ (s : ByteArray) (a1 : Nat) (b1 : Bool),Hid (Calls Tryz.prog 154 #[.pointer (some ⟨g,0,none⟩)] W fun e w' => (e = .returned (.string s) ∧ Fld 167 w' g t a1 b1) ∧ Chg (fun b => b = g ∨ W.heap.size ≤ b) W w') ∧ a1 ≤ t.size ∧ s.size ≤ 1048576 ∧ Hid ((b1 = false → rdShort t 0 = some (s,a1)) ∧ (b1 = true → rdShort t 0 = none)):=by
  cases hs : rdShort t 0 with
  | none => exact ⟨_,_,_,zd ((spec_l09Short_no W g t 0 hF ht (Nat.zero_le _) hs).mono (fun e w' k => ⟨⟨k.1,k.2.1⟩,k.2.2⟩)),Nat.zero_le _,zz44,zd ⟨fun h => (by cases h),fun _ => rfl⟩⟩
  | some q =>
   obtain ⟨s,x⟩:=q
   have h1:=rdShort_some hs
   exact ⟨_,_,_,zd ((spec_l09Short_yes W g t 0 hF ht (Nat.zero_le _) hs).mono (fun e w' k => ⟨⟨k.1,k.2.1⟩,k.2.2⟩)),h1.2.1,zz4,zd ⟨fun _ => rfl,fun h => (by cases h)⟩⟩
 clear hF
 obtain ⟨s,a1,b1,HV1,ha1,hsz,H1⟩:=hSH
 refine HV1.out.mono ?_
 rintro e1 w1 ⟨⟨rfl,hF1⟩,hc1⟩
 have hs1:=hc1.size
 have x1:=xW.keep (hc1.block _ zz4 zz4)
 have HB1:=zd (bW.trans (hc1.to_below (B:=w.heap.size) zz4 (fun b k => by rcases k with k | k <;> omega)))
 clear hc1 HV1 xW bW
 have hRH : ∃ (h : Head) (ok : Bool),Hid (Calls Tryz.prog 153 #[.string s] w1 fun e w' => e = .returned (.tuple #[.agg #[.int .i64 h.house, .int .i64 h.epoch, .string h.root, .string h.prev], .bool ok]) ∧ Below w1.heap.size w1 w') ∧ Hid ((ok = true → rdHead s = some h) ∧ (ok = false → rdHead s = none)) ∧ I64 h.house ∧ I64 h.epoch ∧ h.root.size ≤ 16 ∧ h.prev.size ≤ 16:=by
  have h9:=spec_ReadHead w1 s hsz
  cases hh : rdHead s with
  | none =>
   rw [hh] at h9
   exact ⟨⟨0,0,⟨#[]⟩,⟨#[]⟩⟩,false,zd h9,zd ⟨fun h => (by cases h),fun _ => rfl⟩,(by show I64 0; unfold I64; omega),(by show I64 0; unfold I64; omega),Nat.zero_le _,Nat.zero_le _⟩
  | some h =>
   rw [hh] at h9
   obtain ⟨p1,p2,p3,p4⟩:=headOk_b (rdHead_some hh).1
   exact ⟨h,true,zd h9,zd ⟨fun _ => rfl,fun h => (by cases h)⟩,zz30,zz30,zz4,zz4⟩
 obtain ⟨h,ok,HV2,H2,ih,ie,zr,zp⟩:=hRH
 go_wp2_with (fail)
 refine HV2.out.mono ?_
 rintro e2 w2 ⟨rfl,hb2⟩
 have x2:=x1.keep (hb2.block _ x1.lt)
 have hF2:=hF1.below hb2 hF1.lt
 have HB2:=zd (HB1.out.trans (hb2.mono HB1.out.size))
 clear hb2 HV2 x1 hF1
 go_upto_region 3 with (fail)
 obtain ⟨V,hV⟩ : ∃ V,w2.alloc (.cells #[.int .i64 h.house, .int .i64 h.epoch, .string h.root, .string h.prev] 72) = V:=⟨_,rfl⟩
 have hVf : Below w2.heap.size w2 V ∧ w2.heap.size < V.heap.size ∧ Bx V w2.heap.size #[.int .i64 h.house, .int .i64 h.epoch, .string h.root, .string h.prev] 72:=by
  rw [← hV]
  exact ⟨(Below.refl _ _).alloc (Nat.le_refl _) _,zz17,Bx.new _ _ _⟩
 rw [hV]
 clear hV
 obtain ⟨bV,sV,xh⟩:=hVf
 have xr:=x2.keep (bV.block _ x2.lt)
 have hFV:=hF2.below bV hF2.lt
 have HBV:=zd (HB2.out.trans (bV.mono HB2.out.size))
 have hrw : w.heap.size < w2.heap.size:=x2.lt
 clear x2 hF2 bV HB1 HB2
 have c1:=hFV.c1
 have c2:=hFV.c2
 have y0:=xr.at_ (i:=0) rfl
 have y1:=xr.at_ (i:=1) rfl
 have y2:=xr.at_ (i:=2) rfl
 have y3:=xr.at_ (i:=3) rfl
 have y4:=xr.at_ (i:=4) rfl
 have y5:=xr.at_ (i:=5) rfl
 have y6:=xr.at_ (i:=6) rfl
 have y7:=xr.at_ (i:=7) rfl
 have yf:=xr.fz
 cases e1 : b1
 rotate_left
 ·have HN:=zd (rdSeal_no1 (H1.out.2 e1))
  subst e1
  clear xr xh hFV H1 H2
  go_wp2_with (fail)
  refine bodyPost_ret (v:=.tuple #[.agg #[.int .i64 0, .int .i64 0, .string ⟨#[]⟩, .string ⟨#[]⟩, .int .i64 0, .slice none 0 0, .slice none 0 0, .slice none 0 0], .bool false]) (by simp [results,Tryz.results110,go_sem, *]) rfl ?_
  exact RslRes.no HN.out (hset _ _ _ (hset _ _ _ (hset _ _ _ (hset _ _ _ (hset _ _ _ (hset _ _ _ (hset _ _ _ (hset _ _ _ HBV.out))))))))
 have HS:=zd (H1.out.1 e1)
 subst e1
 cases e2 : ok
 ·have HN:=zd (rdSeal_no2 HS.out (H2.out.2 e2))
  subst e2
  clear xr xh hFV H1 H2
  go_wp2_with (fail)
  refine bodyPost_ret (v:=.tuple #[.agg #[.int .i64 0, .int .i64 0, .string ⟨#[]⟩, .string ⟨#[]⟩, .int .i64 0, .slice none 0 0, .slice none 0 0, .slice none 0 0], .bool false]) (by simp [results,Tryz.results110,go_sem, *]) rfl ?_
  exact RslRes.no HN.out (hset _ _ _ (hset _ _ _ (hset _ _ _ (hset _ _ _ (hset _ _ _ (hset _ _ _ (hset _ _ _ (hset _ _ _ HBV.out))))))))
 have HH:=zd (H2.out.1 e2)
 subst e2
 clear H1 H2 y0 y1 y2 y3 y4 y5 y6 y7 yf
 have b1 : (a1 : Int) ≤ (t.size : Int):=zz4
 obtain ⟨u,hu⟩ : ∃ u,t.extract a1 t.size = u:=⟨_,rfl⟩
 have hus : u.size = t.size - a1:=by rw [← hu]; exact rest_size ha1
 have HU:=zd hu
 have HRG:=zd (spec_ReadSig V u zz4)
 go_wp2_with (fail)
 refine HRG.out.mono ?_
 rintro e3 w3 ⟨cs,sg,rok,rfl,hrd,hb3,hy,hn⟩
 obtain ⟨A2,d2,S2,A3,d3,S3,A4,d4,S4,rfl, -⟩:=Sig.open hrd
 have HRD:=zd hrd
 have HY:=zd hy; have HN:=zd hn
 have x3:=xr.keep (hb3.block _ xr.lt)
 have h3:=xh.keep (hb3.block _ xh.lt)
 have HB3:=zd (HBV.out.trans (hb3.mono HBV.out.size))
 have hs3:=hb3.size
 simp only [Sig.cs]
 clear hrd hy hn hb3 hFV c1 c2 xr xh HRG
 go_upto_region 6 with (fail)
 obtain ⟨Y,hY⟩ : ∃ V,w3.alloc (.cells #[.int .i64 sg.at_, .slice A2 sg.open_.length d2, .slice A3 sg.shut.length d3, .slice A4 sg.sides.length d4] 74) = V:=⟨_,rfl⟩
 have hYf : Below w3.heap.size w3 Y ∧ w3.heap.size < Y.heap.size ∧ Bx Y w3.heap.size #[.int .i64 sg.at_, .slice A2 sg.open_.length d2, .slice A3 sg.shut.length d3, .slice A4 sg.sides.length d4] 74:=by
  rw [← hY]
  exact ⟨(Below.refl _ _).alloc (Nat.le_refl _) _,zz17,Bx.new _ _ _⟩
 rw [hY]
 clear hY
 obtain ⟨bY,sY,xs⟩:=hYf
 have XR:=zd (x3.keep (bY.block _ x3.lt))
 have xh2:=h3.keep (bY.block _ h3.lt)
 have HBY:=zd (HB3.out.trans (bY.mono HB3.out.size))
 have HRY:=zd (Lay.later (Lay.tight HRD.out) bY)
 clear x3 h3 bY
 have z0:=xh2.at_ (i:=0) rfl
 have z1:=xh2.at_ (i:=1) rfl
 have z2:=xh2.at_ (i:=2) rfl
 have z3:=xh2.at_ (i:=3) rfl
 have q0:=xs.at_ (i:=0) rfl
 have q1:=xs.at_ (i:=1) rfl
 have q2:=xs.at_ (i:=2) rfl
 have q3:=xs.at_ (i:=3) rfl
 clear xh2 xs
 go_upto_region 7 with (fail)
 obtain ⟨Z,hZ⟩ : ∃ V,Y.alloc (.cells #[.int .i64 h.house, .int .i64 h.epoch, .string h.root, .string h.prev, .int .i64 sg.at_, .slice A2 sg.open_.length d2, .slice A3 sg.shut.length d3, .slice A4 sg.sides.length d4] 76) = V:=⟨_,rfl⟩
 have hZf : Below Y.heap.size Y Z ∧ Y.heap.size < Z.heap.size ∧ Bx Z Y.heap.size #[.int .i64 h.house, .int .i64 h.epoch, .string h.root, .string h.prev, .int .i64 sg.at_, .slice A2 sg.open_.length d2, .slice A3 sg.shut.length d3, .slice A4 sg.sides.length d4] 76:=by
  rw [← hZ]
  exact ⟨(Below.refl _ _).alloc (Nat.le_refl _) _,zz17,Bx.new _ _ _⟩
 rw [hZ]
 clear hZ z0 z1 z2 z3 q0 q1 q2 q3
 obtain ⟨bZ,sZ,xo⟩:=hZf
 have XRZ:=zd (XR.out.keep (bZ.block _ XR.out.lt))
 have HBZ:=zd (HBY.out.trans (bZ.mono HBY.out.size))
 have hz:=Lay.later HRY.out bZ
 have HWV:=HBV.out.size
 obtain ⟨B0,k0,T0,B1,k1,T1,B2,k2,T2,hcs,iat,l0,m0,r0,s0,l1,m1,r1,s1,l2,m2,r2,s2,pw⟩:=Sig.open hz
 simp only [Sig.cs,List.cons.injEq,Value.slice.injEq,and_true,true_and] at hcs
 obtain ⟨⟨c1_,c2_⟩,⟨c3_,c4_⟩,⟨c5_,c6_⟩⟩:=hcs
 subst c1_; subst c2_; subst c3_; subst c4_; subst c5_; subst c6_
 have hsub : ∀ T : Blks,sub T (fun b => nw V.heap.size b ∧ b < w3.heap.size) → sub T (fun b => w.heap.size ≤ b ∧ V.heap.size ≤ b):=fun T kt b kb => by
  have k1 : V.heap.size ≤ b:=(kt b kb).1
  exact ⟨zz4,k1⟩
 have HSD:=zd (Seal.mk' (m:=true) (x:=⟨h,sg⟩) (S:=fun b => w.heap.size ≤ b ∧ V.heap.size ≤ b) ih ie (by show h.root.size ≤ maxLen; unfold maxLen; omega) (by show h.prev.size ≤ maxLen; unfold maxLen; omega) iat l0 m0 r0 (hsub _ s0) l1 m1 r1 (hsub _ s1) l2 m2 r2 (hsub _ s2) pw)
 have HST:=zd (spec_SealText Z ⟨h,sg⟩ _ _ (Lay.weak HSD.out))
 simp only [Seal.cs] at HST HSD
 have hho:=(rdHead_some HH.out).1
 have HHO:=zd hho
 rw [hho] at HST
 clear hz pw r0 r1 r2 hho hsub bZ
 have XO:=zd xo
 have z0:=xo.at_ (i:=0) rfl
 have z1:=xo.at_ (i:=1) rfl
 have z2:=xo.at_ (i:=2) rfl
 have z3:=xo.at_ (i:=3) rfl
 have z4:=xo.at_ (i:=4) rfl
 have z5:=xo.at_ (i:=5) rfl
 have z6:=xo.at_ (i:=6) rfl
 have z7:=xo.at_ (i:=7) rfl
 clear xo
 cases er : rok
 ·have HNO : Hid (rdSeal t = none):=zd (by
   by_cases hz : t.size = a1 + 321
   ·have h5:=rdSeal_at HS.out HH.out hz
    have h6 : sigForm (sigAt t a1 zz4) = false:=by
     cases hx : sigForm (sigAt t a1 zz4)
     ·rfl
     ·exfalso
      refine (HN.out er).1 ⟨zz4,?_⟩
      simp only [sigForm,sigAt,Bool.and_eq_true] at hx
      have h9:=hx.1.1.1
      unfold inB at h9
      rw [decide_eq_true_iff] at h9
      have e0 : u[0] = t[a1]:=by subst hu; rw [ByteArray.getElem_extract]; rfl
      rw [e0]; omega
    rw [h5,h6]; rfl
   ·exact rdSeal_no3 HS.out hz)
  have hsf : sigForm sg = false:=by rw [(HN.out er).2]; rfl
  rw [hsf] at HST
  simp only [Bool.and_false,sgV,Bool.false_eq_true,if_false] at HST
  subst er
  go_wp2_with (fail)
  refine HST.out.mono ?_
  rintro e7 w7 ⟨rfl,hb7⟩
  have HB7:=zd (HBZ.out.trans (hb7.mono HBZ.out.size))
  have y0:=(XRZ.out.keep (hb7.block _ XRZ.out.lt)).at_ (i:=0) rfl
  have y1:=(XRZ.out.keep (hb7.block _ XRZ.out.lt)).at_ (i:=1) rfl
  have y2:=(XRZ.out.keep (hb7.block _ XRZ.out.lt)).at_ (i:=2) rfl
  have y3:=(XRZ.out.keep (hb7.block _ XRZ.out.lt)).at_ (i:=3) rfl
  have y4:=(XRZ.out.keep (hb7.block _ XRZ.out.lt)).at_ (i:=4) rfl
  have y5:=(XRZ.out.keep (hb7.block _ XRZ.out.lt)).at_ (i:=5) rfl
  have y6:=(XRZ.out.keep (hb7.block _ XRZ.out.lt)).at_ (i:=6) rfl
  have y7:=(XRZ.out.keep (hb7.block _ XRZ.out.lt)).at_ (i:=7) rfl
  have yf:=(XRZ.out.keep (hb7.block _ XRZ.out.lt)).fz
  clear z0 z1 z2 z3 z4 z5 z6 z7
  go_wp2_with (fail)
  refine bodyPost_ret (v:=.tuple #[.agg #[.int .i64 0, .int .i64 0, .string ⟨#[]⟩, .string ⟨#[]⟩, .int .i64 0, .slice none 0 0, .slice none 0 0, .slice none 0 0], .bool false]) (by simp [results,Tryz.results110,go_sem, *]) rfl ?_
  exact RslRes.no HNO.out (hset _ _ _ (hset _ _ _ (hset _ _ _ (hset _ _ _ (hset _ _ _ (hset _ _ _ (hset _ _ _ (hset _ _ _ HB7.out))))))))
 ·obtain ⟨v1,v2,v3⟩:=HY.out er
  have hz : t.size = a1 + 321:=zz4
  have hsg : sg = sigAt t a1 zz4:=by rw [v3]; subst hu; exact sigAt_extract hz _ _
  have hx16 : t[a1].toNat < 16:=by
   have e0 : u[0] = t[a1]:=by subst hu; rw [ByteArray.getElem_extract]; rfl
   rw [← e0]; exact v2
  have hsf : sigForm sg = true:=by rw [hsg]; exact sigAt_form hz hx16
  have HYES : Hid (rdSeal t = some ⟨h,sg⟩):=zd (by rw [rdSeal_at HS.out HH.out hz, ← hsg,hsf,if_pos rfl])
  have htx : sealTx ⟨h,sg⟩ = t:=(rdSeal_some HYES.out).2.2
  rw [hsf] at HST
  simp only [Bool.and_true,sgV,if_true] at HST
  rw [htx] at HST
  subst er
  clear v1 v2 v3 hz hsg hx16 hsf htx
  go_wp2_with (fail)
  refine HST.out.mono ?_
  rintro e7 w7 ⟨rfl,hb7⟩
  have HB7:=zd (HBZ.out.trans (hb7.mono HBZ.out.size))
  have y0:=(XRZ.out.keep (hb7.block _ XRZ.out.lt)).at_ (i:=0) rfl
  have y1:=(XRZ.out.keep (hb7.block _ XRZ.out.lt)).at_ (i:=1) rfl
  have y2:=(XRZ.out.keep (hb7.block _ XRZ.out.lt)).at_ (i:=2) rfl
  have y3:=(XRZ.out.keep (hb7.block _ XRZ.out.lt)).at_ (i:=3) rfl
  have y4:=(XRZ.out.keep (hb7.block _ XRZ.out.lt)).at_ (i:=4) rfl
  have y5:=(XRZ.out.keep (hb7.block _ XRZ.out.lt)).at_ (i:=5) rfl
  have y6:=(XRZ.out.keep (hb7.block _ XRZ.out.lt)).at_ (i:=6) rfl
  have y7:=(XRZ.out.keep (hb7.block _ XRZ.out.lt)).at_ (i:=7) rfl
  have yf:=(XRZ.out.keep (hb7.block _ XRZ.out.lt)).fz
  have z0:=(XO.out.keep (hb7.block _ XO.out.lt)).at_ (i:=0) rfl
  have z1:=(XO.out.keep (hb7.block _ XO.out.lt)).at_ (i:=1) rfl
  have z2:=(XO.out.keep (hb7.block _ XO.out.lt)).at_ (i:=2) rfl
  have z3:=(XO.out.keep (hb7.block _ XO.out.lt)).at_ (i:=3) rfl
  have z4:=(XO.out.keep (hb7.block _ XO.out.lt)).at_ (i:=4) rfl
  have z5:=(XO.out.keep (hb7.block _ XO.out.lt)).at_ (i:=5) rfl
  have z6:=(XO.out.keep (hb7.block _ XO.out.lt)).at_ (i:=6) rfl
  have z7:=(XO.out.keep (hb7.block _ XO.out.lt)).at_ (i:=7) rfl
  go_wp2_with (fail)
  refine bodyPost_ret (v:=.tuple #[.agg #[.int .i64 h.house, .int .i64 h.epoch, .string h.root, .string h.prev, .int .i64 sg.at_, .slice A2 sg.open_.length d2, .slice A3 sg.shut.length d3, .slice A4 sg.sides.length d4], .bool true]) (by simp [results,Tryz.results110,go_sem, *]) rfl ?_
  refine ⟨_,⟨h,sg⟩,true,rfl,?_,hset _ _ _ (hset _ _ _ (hset _ _ _ (hset _ _ _ (hset _ _ _ (hset _ _ _ (hset _ _ _ (hset _ _ _ HB7.out))))))),fun _ => HYES.out,fun k => (by cases k)⟩
  clear y0 y1 y2 y3 y4 y5 y6 y7 yf z0 z1 z2 z3 z4 z5 z6 z7
  refine Lay.mono (Lay.keep (Lay.later (Lay.tight HSD.out) hb7) (fun b k => ?_)) (fun b k => k.1.1)
  have k1 : V.heap.size ≤ b:=k.1.2
  have k2 : b < Z.heap.size:=k.2
  exact (set8R _ _ _ _ _ _ _ _ _ _).block_ne zz4 (by have:=hb7.size; omega)
end Go.Proofs.YtlfnmbcnehaikaaGreatDoor
namespace Go.Proofs.YtlfnmbcnehaikaaGreatDoor
open Go.RowKit Lay Mk
theorem spec_SealTextA (w : World) (x : Seal) (cs : List Value) (S : Blks) (hx : rd false w cs x S) : Calls Tryz.prog 69 #[.agg cs.toArray] w fun e w' => e = .returned (.tuple #[.string (sealText x), .bool (headOk x.head && sigForm x.sig)]) ∧ Below w.heap.size w w' :=
 (spec_SealText w x cs S hx).mono (fun e w' h => ⟨by rw [h.1]; unfold sgV sealText; split <;> simp_all,h.2⟩)
theorem seal_same {x y : Seal} (h : GoodS x ∨ GoodS y) : (sealText x = sealText y ∧ x.head = y.head) ↔ x = y:=by
 rcases h with h | h
 ·constructor
  ·rintro ⟨h1,h2⟩; exact ((sameSeal_text h.1 h.2).1 ⟨h1.symm,h2.symm⟩).symm
  ·rintro rfl; exact ⟨rfl,rfl⟩
 ·exact sameSeal_text h.1 h.2
theorem spec_sameSeals (w : World) (xs : List Seal) (A : Option Addr) (cap : Nat) (S : Blks) (hx : Row false w A cap xs S) (ys : List Seal) (A2 : Option Addr) (cap2 : Nat) (S2 : Blks) (hy : Row false w A2 cap2 ys S2) (hl : xs.length ≤ 4000000000) (hgood : ∀ k (h : k < xs.length) (h2 : k < ys.length),GoodS xs[k] ∨ GoodS ys[k]) : Calls Tryz.prog 50 #[.slice A xs.length cap, .slice A2 ys.length cap2] w fun e w' => e = .returned (.bool (decide (xs = ys))) ∧ Below w.heap.size w w':=by
 have HGO:=zd hgood
 clear hgood
 by_cases hlen : xs.length = ys.length
 rotate_left
 ·have HF:=zd (sameL_len hlen)
  have hn : ((xs.length : Int) != (ys.length : Int)) = true:=by rw [bne_iff_ne]; omega
  clear hlen
  go_enter Tryz.func50,Tryz.ntmps50
  go_wp2
  go_ret
  exact ⟨ya1 zz24,Below.refl _ _⟩
 have HE:=zd (sameL_end (xs:=xs) (ys:=ys) hlen)
 have HBd:=zd (fun k h h2 => sameL_bad (xs:=xs) (ys:=ys) (k:=k) h h2)
 obtain ⟨L,hL⟩ : ∃ L,ys.length = L:=⟨_,rfl⟩
 rw [hL]
 have HL:=zd (hlen.trans hL); have HL2:=zd hL
 have hxl : xs.length = L:=hlen.trans hL
 rw [hxl] at hl ⊢
 clear hlen hL hxl
 go_enter Tryz.func50,Tryz.ntmps50
 go_wp2
 go_loopw [5] (fun i wr => ∃ k : Nat,k ≤ L ∧ i = .int .i64 k ∧ Hid (∀ j (h : j < xs.length) (h2 : j < ys.length),j < k → xs[j] = ys[j]) ∧ Below w.heap.size w wr) (fun i _ => L - (intOf i).toNat)
 case atStart => exact ⟨0,Nat.zero_le _,rfl,zd (fun j _ _ h => absurd h zz4),Below.refl _ _⟩
 case round =>
  obtain ⟨k,hk,rfl,HS,hB⟩:=hrel
  have hz:=hB.size
  by_cases hlt : k < L
  ·have hkx : k < xs.length:=by rw [HL.out]; exact hlt
   have hky : k < ys.length:=by rw [HL2.out]; exact hlt
   obtain ⟨b1,o1,c1,T1,rfl,hl1,hf,hr1,_,_⟩:=Row.at_ hx hkx
   obtain ⟨b2,o2,c2,T2,rfl,hl2,hg,hr2,_,_⟩:=Row.at_ hy hky
   have HGD:=zd (seal_same (HGO.out k hkx hky))
   have HB:=zd (HBd.out k hkx hky)
   have HN : Hid (xs[k] = ys[k] → ∀ j (h : j < xs.length) (h2 : j < ys.length),j < k + 1 → xs[j] = ys[j]):=zd (fun h0 j h h2 hj => zz45)
   obtain ⟨x,hxx⟩ : ∃ x,xs[k] = x:=⟨_,rfl⟩
   obtain ⟨y,hyy⟩ : ∃ y,ys[k] = y:=⟨_,rfl⟩
   rw [hxx] at hr1 HB HN HGD
   rw [hyy] at hr2 HB HN HGD
   clear hxx hyy hkx hky
   have HR1:=zd (Lay.later hr1 hB); have HR2:=zd (Lay.later hr2 hB)
   obtain ⟨A0,u0,_,A1,u1,_,A2,u2,_,rfl, -⟩:=Seal.open hr1
   obtain ⟨B0,v0,_,B1,v1,_,B2,v2,_,rfl, -⟩:=Seal.open hr2
   replace hf:=hf.keep (hB.block b1 hl1)
   replace hg:=hg.keep (hB.block b2 hl2)
   rw [show Lay.n Seal = 8 from rfl] at hf hg
   have hb1 : b1 < wr.heap.size:=zz4
   have hb2 : b2 < wr.heap.size:=zz4
   have HFA:=zd hf; have HGA:=zd hg
   have f0:=hf 0 _ rfl
   have f1:=hf 1 _ rfl
   have f2:=hf 2 _ rfl
   have f3:=hf 3 _ rfl
   have f4:=hf 4 _ rfl
   have f5:=hf 5 _ rfl
   have f6:=hf 6 _ rfl
   have f7:=hf 7 _ rfl
   simp only [Nat.add_zero] at f0
   clear hr1 hr2 hf hg
   go_wp2_with (fail)
   refine (spec_SealTextA wr x _ T1 HR1.out).mono ?_
   rintro e1 w1 ⟨rfl,hc1⟩
   have HC1:=zd hc1
   have hs1:=hc1.size
   have g0:=(HGA.out.keep (hc1.block b2 hb2)) 0 _ rfl
   have g1:=(HGA.out.keep (hc1.block b2 hb2)) 1 _ rfl
   have g2:=(HGA.out.keep (hc1.block b2 hb2)) 2 _ rfl
   have g3:=(HGA.out.keep (hc1.block b2 hb2)) 3 _ rfl
   have g4:=(HGA.out.keep (hc1.block b2 hb2)) 4 _ rfl
   have g5:=(HGA.out.keep (hc1.block b2 hb2)) 5 _ rfl
   have g6:=(HGA.out.keep (hc1.block b2 hb2)) 6 _ rfl
   have g7:=(HGA.out.keep (hc1.block b2 hb2)) 7 _ rfl
   simp only [Nat.add_zero] at g0
   clear hc1 f0 f1 f2 f3 f4 f5 f6 f7
   go_wp2_with (fail)
   refine (spec_SealTextA w1 y _ T2 (Lay.later HR2.out HC1.out)).mono ?_
   rintro e2 w2 ⟨rfl,hc2⟩
   have HC2:=zd (HC1.out.trans (hc2.mono hs1))
   clear hc2 g0 g1 g2 g3 g4 g5 g6 g7
   have f0:=(HFA.out.keep (HC2.out.block b1 hb1)) 0 _ rfl
   have g0:=(HGA.out.keep (HC2.out.block b2 hb2)) 0 _ rfl
   have f1:=(HFA.out.keep (HC2.out.block b1 hb1)) 1 _ rfl
   have g1:=(HGA.out.keep (HC2.out.block b2 hb2)) 1 _ rfl
   have f2:=(HFA.out.keep (HC2.out.block b1 hb1)) 2 _ rfl
   have g2:=(HGA.out.keep (HC2.out.block b2 hb2)) 2 _ rfl
   have f3:=(HFA.out.keep (HC2.out.block b1 hb1)) 3 _ rfl
   have g3:=(HGA.out.keep (HC2.out.block b2 hb2)) 3 _ rfl
   simp only [Nat.add_zero] at f0 g0
   have HBw : Hid (Below w.heap.size w w2):=zd (hB.trans (HC2.out.mono hz))
   obtain ⟨X,hX⟩ : ∃ X,sealText x = X:=⟨_,rfl⟩
   obtain ⟨Y,hY⟩ : ∃ Y,sealText y = Y:=⟨_,rfl⟩
   rw [hX,hY] at HGD
   rw [hX,hY]
   obtain ⟨bx,hbx⟩ : ∃ b,(headOk x.head && sigForm x.sig) = b:=⟨_,rfl⟩
   obtain ⟨by_,hby⟩ : ∃ b,(headOk y.head && sigForm y.sig) = b:=⟨_,rfl⟩
   rw [hbx,hby]
   clear hX hY hbx hby HFA HGA HR1 HR2 HC1 HC2
   by_cases h1 : X = Y
   rotate_left
   ·have HF:=zd (HB.out (fun e => h1 (HGD.out.2 e).1))
    have hte : (X.toList == Y.toList) = false:=by rw [str_dec]; exact decide_eq_false h1
    clear h1 HB HN HGD
    go_wp2
    go_quiet (fail)
    go_wp2
    go_ret
    exact ⟨ya1 zz24,Below.drewN HBw.out _⟩
   have hte : (X.toList == Y.toList) = true:=by rw [str_dec]; exact decide_eq_true h1
   have H1:=zd h1
   clear h1
   by_cases k0 : x.head.house = y.head.house
   rotate_left
   ·have HF:=zd (HB.out (fun e => k0 (by rw [e])))
    have m0 : (x.head.house == y.head.house) = false:=beq_eq_false_iff_ne.2 k0
    clear k0 HB HN HGD
    go_wp2
    go_quiet (fail)
    go_wp2
    go_ret
    exact ⟨ya1 zz24,Below.drewN HBw.out _⟩
   have m0 : (x.head.house == y.head.house) = true:=beq_iff_eq.2 k0
   have K0:=zd k0
   clear k0
   by_cases k1 : x.head.epoch = y.head.epoch
   rotate_left
   ·have HF:=zd (HB.out (fun e => k1 (by rw [e])))
    have m1 : (x.head.epoch == y.head.epoch) = false:=beq_eq_false_iff_ne.2 k1
    clear k1 HB HN HGD
    go_wp2
    go_quiet (fail)
    go_wp2
    go_ret
    exact ⟨ya1 zz24,Below.drewN HBw.out _⟩
   have m1 : (x.head.epoch == y.head.epoch) = true:=beq_iff_eq.2 k1
   have K1:=zd k1
   clear k1
   by_cases k2 : x.head.root = y.head.root
   rotate_left
   ·have HF:=zd (HB.out (fun e => k2 (by rw [e])))
    have m2 : (x.head.root.toList == y.head.root.toList) = false:=by rw [str_dec]; exact decide_eq_false k2
    clear k2 HB HN HGD
    go_wp2
    go_quiet (fail)
    go_wp2
    go_ret
    exact ⟨ya1 zz24,Below.drewN HBw.out _⟩
   have m2 : (x.head.root.toList == y.head.root.toList) = true:=by rw [str_dec]; exact decide_eq_true k2
   have K2:=zd k2
   clear k2
   by_cases k3 : x.head.prev = y.head.prev
   rotate_left
   ·have HF:=zd (HB.out (fun e => k3 (by rw [e])))
    have m3 : (x.head.prev.toList == y.head.prev.toList) = false:=by rw [str_dec]; exact decide_eq_false k3
    clear k3 HB HN HGD
    go_wp2
    go_quiet (fail)
    go_wp2
    go_ret
    exact ⟨ya1 zz24,Below.drewN HBw.out _⟩
   have m3 : (x.head.prev.toList == y.head.prev.toList) = true:=by rw [str_dec]; exact decide_eq_true k3
   have K3:=zd k3
   clear k3
   have HF:=zd (HN.out (HGD.out.1 ⟨H1.out,by have a:=K0.out; have b:=K1.out; have c:=K2.out; have d:=K3.out; obtain ⟨⟨x0,x1,x2,x3⟩,sx⟩:=x; obtain ⟨⟨y0,y1,y2,y3⟩,sy⟩:=y; simp only at a b c d; subst a b c d; rfl⟩))
   clear HB HN HGD
   go_wp2
   go_quiet (fail)
   go_wp2
   go_roundw
   case rel => exact ⟨k + 1,zz4,by go_num,HF,Below.drewN HBw.out _⟩
   case measure => simp [intOf]; omega
  ·have hke : k = L:=by omega
   subst hke
   have HF:=zd (HE.out (fun j h h2 => HS.out j h h2 (by rw [← HL.out]; exact h)))
   go_wp2
   go_ret
   exact ⟨ya1 zz24,hB⟩
end Go.Proofs.YtlfnmbcnehaikaaGreatDoor
