/- A part of the proof. -/
import Derived.Deep.DeepCutAuto
import Derived.Test.YtlfnmbcnehaikaaGreatDoorHApL25xUc
set_option linter.unusedVariables false
set_option linter.unusedSimpArgs false
set_option maxRecDepth 20000
set_option maxHeartbeats 8000000
namespace Go.Proofs.YtlfnmbcnehaikaaGreatDoor
open Go.RowKit Lay Mk
theorem spec_ReadHead (w : World) (t : ByteArray) (ht : t.size ≤ 1048576) : Calls Tryz.prog 153 #[.string t] w fun e w' => e = .returned (hdV (rdHead t)) ∧ Below w.heap.size w w':=by
 by_cases hl : 18 ≤ t.size
 rotate_left
 ·have HR:=zd (rdHead_no (t:=t) zz4)
  have d18 : decide ((t.size : Int) < 18) = true:=zz47
  go_enter Tryz.func153,Tryz.ntmps153
  go_wp2_with (fail)
  refine bodyPost_ret (v:=.tuple #[.agg #[.int .i64 0, .int .i64 0, .string ⟨#[]⟩, .string ⟨#[]⟩], .bool false]) (by simp [results,Tryz.results153,go_sem, *]) rfl ?_
  exact ⟨by rw [HR.out]; rfl,(Below.refl _ _).alloc (Nat.le_refl _) _⟩
 have HR:=zd (rdHead_at hl)
 have d18 : decide ((t.size : Int) < 18) = false:=zz21
 have h0:=t[0].toNat_lt
 have h1:=t[1].toNat_lt
 obtain ⟨p,hp⟩ : ∃ p,t.extract 18 t.size = p:=⟨_,rfl⟩
 obtain ⟨E,hE⟩ : ∃ E,t.extract 2 18 = E:=⟨_,rfl⟩
 rw [hp,hE] at HR
 have b0 : (0 : Int) < (t.size : Int):=zz4
 have b1 : (1 : Int) < (t.size : Int):=zz4
 have b2 : (18 : Int) ≤ (t.size : Int):=zz4
 go_enter Tryz.func153,Tryz.ntmps153
 go_wp2_with (fail)
 obtain ⟨W,hW⟩ : ∃ W,w.alloc (.cells #[.int .i64 0, .int .i64 0, .string ⟨#[]⟩, .string ⟨#[]⟩] 72) = W:=⟨_,rfl⟩
 have hWf : Below w.heap.size w W ∧ W.heap.size = w.heap.size + 1 ∧ Bx W w.heap.size #[.int .i64 0, .int .i64 0, .string ⟨#[]⟩, .string ⟨#[]⟩] 72:=by
  rw [← hW]
  exact ⟨(Below.refl _ _).alloc (Nat.le_refl _) _,zz17,Bx.new _ _ _⟩
 rw [hW]
 clear hW
 obtain ⟨bW,sW,xW⟩:=hWf
 have hx0 : IntKind.i64.wrap (t[0].toNat : Int) = (t[0].toNat : Int):=zz16
 have hx1 : IntKind.i64.wrap (t[1].toNat : Int) = (t[1].toNat : Int):=zz16
 go_cut [4] (fun s4 wx => s4 = .pointer (some ⟨W.heap.size,0,none⟩) ∧ Hid (wx = (W.alloc (.cells #[.int .i64 (t[0].toNat : Int), .int .i64 (t[1].toNat : Int), .string E, .string p] 72)).drew))
 case first =>
  go_region_held3 (fun w' => True) (first | trivial) (first | fail)
  all_goals (go_wp2_with (fail))
  all_goals (go_meet; exact ⟨by first | rfl | (rw [sW]),zd rfl⟩)
 case rest =>
 rename World => V
 obtain ⟨rfl,HV⟩:=hcut
 have hVf : Below w.heap.size w V ∧ V.heap.size = W.heap.size + 1 ∧ Bx V W.heap.size #[.int .i64 (t[0].toNat : Int), .int .i64 (t[1].toNat : Int), .string E, .string p] 72 ∧ Bx V w.heap.size #[.int .i64 0, .int .i64 0, .string ⟨#[]⟩, .string ⟨#[]⟩] 72:=by
  rw [HV.out]
  exact ⟨(bW.alloc zz4 _).drew,zz17,(Bx.new _ _ _).keep rfl,(xW.keep (Below.heap_alloc _ _ _ zz4)).keep rfl⟩
 have hltW : w.heap.size < W.heap.size:=zz4
 clear HV xW b0 b1 b2 hx0 hx1 hp hE
 obtain ⟨BV, -,xh,xr⟩:=hVf
 clear sW
 obtain ⟨v1,hv1⟩ : ∃ v,(t[0].toNat : Int) = v:=⟨_,rfl⟩
 obtain ⟨v2,hv2⟩ : ∃ v,(t[1].toNat : Int) = v:=⟨_,rfl⟩
 rw [hv1,hv2] at HR xh
 have z0:=xh.at_ (i:=0) rfl
 have z1:=xh.at_ (i:=1) rfl
 have z2:=xh.at_ (i:=2) rfl
 have z3:=xh.at_ (i:=3) rfl
 have HK:=zd (spec_HeadOk ⟨v1,v2,E,p⟩ V)
 have XR:=zd xr
 have XH:=zd xh
 have BB:=zd BV
 clear xr xh BV hv1 hv2
 cases hk : headOk ⟨v1,v2,E,p⟩
 ·rw [hk] at HK HR
  simp only [Bool.false_eq_true,if_false,Head.cs] at HR HK
  go_wp2_with (fail)
  refine HK.out.mono ?_
  rintro e6 w6 ⟨rfl,hb6⟩
  have y0:=(XR.out.keep (hb6.block _ XR.out.lt)).at_ (i:=0) rfl
  have y1:=(XR.out.keep (hb6.block _ XR.out.lt)).at_ (i:=1) rfl
  have y2:=(XR.out.keep (hb6.block _ XR.out.lt)).at_ (i:=2) rfl
  have y3:=(XR.out.keep (hb6.block _ XR.out.lt)).at_ (i:=3) rfl
  have yf:=(XR.out.keep (hb6.block _ XR.out.lt)).fz
  have B6:=zd (BB.out.trans (hb6.mono BB.out.size))
  clear hb6 z0 z1 z2 z3
  go_wp2_with (fail)
  refine bodyPost_ret (v:=.tuple #[.agg #[.int .i64 0, .int .i64 0, .string ⟨#[]⟩, .string ⟨#[]⟩], .bool false]) (by simp [results,Tryz.results153,go_sem, *]) rfl ?_
  exact ⟨by rw [HR.out]; rfl,Below.setCell (Below.setCell (Below.setCell (Below.setCell B6.out (Nat.le_refl _) _) (Nat.le_refl _) _) (Nat.le_refl _) _) (Nat.le_refl _) _⟩
 ·rw [hk] at HK HR
  simp only [if_true,Head.cs] at HR HK
  go_wp2_with (fail)
  refine HK.out.mono ?_
  rintro e6 w6 ⟨rfl,hb6⟩
  have y0:=(XR.out.keep (hb6.block _ XR.out.lt)).at_ (i:=0) rfl
  have y1:=(XR.out.keep (hb6.block _ XR.out.lt)).at_ (i:=1) rfl
  have y2:=(XR.out.keep (hb6.block _ XR.out.lt)).at_ (i:=2) rfl
  have y3:=(XR.out.keep (hb6.block _ XR.out.lt)).at_ (i:=3) rfl
  have yf:=(XR.out.keep (hb6.block _ XR.out.lt)).fz
  replace z0:=(XH.out.keep (hb6.block _ XH.out.lt)).at_ (i:=0) rfl
  replace z1:=(XH.out.keep (hb6.block _ XH.out.lt)).at_ (i:=1) rfl
  replace z2:=(XH.out.keep (hb6.block _ XH.out.lt)).at_ (i:=2) rfl
  replace z3:=(XH.out.keep (hb6.block _ XH.out.lt)).at_ (i:=3) rfl
  have B6:=zd (BB.out.trans (hb6.mono BB.out.size))
  clear hb6
  go_wp2_with (fail)
  refine bodyPost_ret (v:=.tuple #[.agg #[.int .i64 v1, .int .i64 v2, .string E, .string p], .bool true]) (by simp [results,Tryz.results153,go_sem, *]) rfl ?_
  exact ⟨by rw [HR.out]; rfl,Below.setCell (Below.setCell (Below.setCell (Below.setCell B6.out (Nat.le_refl _) _) (Nat.le_refl _) _) (Nat.le_refl _) _) (Nat.le_refl _) _⟩
end Go.Proofs.YtlfnmbcnehaikaaGreatDoor
namespace Go.Proofs.YtlfnmbcnehaikaaGreatDoor
open Go.RowKit Lay Mk
theorem sig_zero {w : World} {S : Blks} : rd true w [.int .i64 0, .slice none 0 0, .slice none 0 0, .slice none 0 0] (⟨0, [], [], []⟩ : Sig) S:=by
 have h:=Sig.mk' (m:=true) (w:=w) (x:=⟨0, [], [], []⟩) (S:=S) (by show I64 0; unfold I64; omega) (Nat.zero_le _) zz44 (row_nil w none_) (fun _ k => k.elim) (Nat.zero_le _) zz44 (row_nil w none_) (fun _ k => k.elim) (Nat.zero_le _) zz44 (row_nil w none_) (fun _ k => k.elim) (fun _ => .cons (fun b hb => by rcases List.mem_cons.1 hb with rfl | hb; exact fun _ k => k.elim; rw [List.mem_singleton.1 hb]; exact fun _ k => k.elim) (.cons (fun b hb => by rw [List.mem_singleton.1 hb]; exact fun _ k => k.elim) (.cons (fun b hb => by cases hb) .nil)))
 exact h
def RsgRes (t : ByteArray) (w : World) (e : Ending) (w' : World) : Prop:=∃ cs x ok,e = .returned (.tuple #[.agg cs.toArray, .bool ok]) ∧ rd true w' cs x (nw w.heap.size) ∧ Below w.heap.size w w' ∧ (ok = true → ∃ h : t.size = 321,t[0].toNat < 16 ∧ x = sigAt t 0 zz4) ∧ (ok = false → ¬ (∃ h : t.size = 321,t[0].toNat < 16) ∧ x = ⟨0, [], [], []⟩)
theorem RsgRes.no {t : ByteArray} {w w' : World} (h : ¬ (∃ h : t.size = 321,t[0].toNat < 16)) (hb : Below w.heap.size w w') : RsgRes t w (.returned (.tuple #[.agg #[.int .i64 0, .slice none 0 0, .slice none 0 0, .slice none 0 0], .bool false])) w':=⟨_,⟨0, [], [], []⟩,false,rfl,sig_zero,hb,fun h => (by cases h),fun _ => ⟨h,rfl⟩⟩
theorem spec_ReadSig (w : World) (t : ByteArray) (ht : t.size ≤ 1048576) : Calls Tryz.prog 155 #[.string t] w (RsgRes t w):=by
 by_cases hz : t.size = 321
 rotate_left
 ·have HN : Hid (¬ (∃ h : t.size = 321,t[0].toNat < 16)):=zd (fun ⟨h,_⟩ => hz h)
  have d1 : ((t.size : Int) != 321) = true:=by rw [bne_iff_ne]; omega
  go_enter Tryz.func155,Tryz.ntmps155
  go_wp2_with (fail)
  refine bodyPost_ret (v:=.tuple #[.agg #[.int .i64 0, .slice none 0 0, .slice none 0 0, .slice none 0 0], .bool false]) (by simp [results,Tryz.results155,go_sem, *]) rfl ?_
  exact RsgRes.no HN.out ((Below.refl _ _).alloc (Nat.le_refl _) _)
 have d1 : ((t.size : Int) != 321) = false:=by rw [bne_eq_false_iff_eq]; omega
 have h0:=t[0].toNat_lt
 have hi : (0 : Int) < (t.size : Int):=zz4
 by_cases hx : t[0].toNat < 16
 rotate_left
 ·have HN : Hid (¬ (∃ h : t.size = 321,t[0].toNat < 16)):=zd (fun ⟨_,h⟩ => hx h)
  have d2 : decide ((16 : Int) ≤ (t[0].toNat : Int)) = true:=zz47
  go_enter Tryz.func155,Tryz.ntmps155
  go_wp2_with (fail)
  refine bodyPost_ret (v:=.tuple #[.agg #[.int .i64 0, .slice none 0 0, .slice none 0 0, .slice none 0 0], .bool false]) (by simp [results,Tryz.results155,go_sem, *]) rfl ?_
  exact RsgRes.no HN.out ((Below.refl _ _).alloc (Nat.le_refl _) _)
 have d2 : decide ((16 : Int) ≤ (t[0].toNat : Int)) = false:=zz21
 have HX:=zd hx
 clear hx
 go_enter Tryz.func155,Tryz.ntmps155
 go_upto_region 5 with (fail)
 obtain ⟨V0,hV0⟩ : ∃ V,(w.alloc (.cells #[.int .i64 0, .slice none 0 0, .slice none 0 0, .slice none 0 0] 74)).alloc (.cells #[.int .i64 (t[0].toNat : Int), .slice none 0 0, .slice none 0 0, .slice none 0 0] 74) = V:=⟨_,rfl⟩
 obtain ⟨B,hB⟩ : ∃ B,w.heap.size + 1 = B:=⟨_,rfl⟩
 have hf0 : Bx V0 B #[.int .i64 (t[0].toNat : Int), .slice none 0 0, .slice none 0 0, .slice none 0 0] 74 ∧ Bx V0 w.heap.size #[.int .i64 0, .slice none 0 0, .slice none 0 0, .slice none 0 0] 74 ∧ Below w.heap.size w V0 ∧ V0.heap.size = B + 1:=by
  rw [← hV0]
  have e1 : B = (w.alloc (.cells #[.int .i64 0, .slice none 0 0, .slice none 0 0, .slice none 0 0] 74)).heap.size:=by rw [← hB]; simp
  refine ⟨by rw [e1]; exact Bx.new _ _ _,(Bx.new _ _ _).keep (Below.heap_alloc _ _ _ zz17),((Below.refl _ _).alloc (Nat.le_refl _) _).alloc zz17 _,by rw [← hB]; simp⟩
 have hwB : w.heap.size < B:=zz4
 rw [hV0,hB]
 clear hV0 hB
 obtain ⟨q1,q2,q4,q6⟩:=hf0
 have XS0:=zd q1; have XR0:=zd q2; have HB0:=zd q4
 have hB0 : B < V0.heap.size:=zz4
 clear q1 q2 q4 q6
 obtain ⟨v,hv⟩ : ∃ v,(t[0].toNat : Int) = v:=⟨_,rfl⟩
 have hvb : 0 ≤ v ∧ v ≤ 255:=zz4
 have HVV:=zd hv
 rw [hv] at XS0 d2 ⊢
 clear hv
 go_wp2_with (fail)
 refine (spec_l05Cut V0 t ht 1 8 zz4 zz4).mono ?_
 rintro e1 w1 ⟨A1,c1,rfl,o1⟩
 rw [cuts_len]
 have hs1:=o1.size
 have hle1:=o1.le
 have hcm1:=o1.cm
 rw [cuts_len] at hle1
 have xb:=XS0.out.keep (o1.bl.block _ (by have:=XS0.out.lt; omega))
 have xr:=XR0.out.keep (o1.bl.block _ (by have:=XR0.out.lt; omega))
 have y1:=xb.at_ (i:=1) rfl
 have yf:=xb.fz
 have XB:=zd xb; have XRa:=zd xr; have O1:=zd o1
 clear xb xr o1
 go_upto_region 6 with (fail)
 obtain ⟨V1,hV1⟩ : ∃ Z,w1.setCell ⟨B,1,none⟩ (.slice A1 8 c1) = Z:=⟨_,rfl⟩
 have hf1 : Bx V1 B #[.int .i64 v, .slice A1 8 c1, .slice none 0 0, .slice none 0 0] 74 ∧ Bx V1 w.heap.size #[.int .i64 0, .slice none 0 0, .slice none 0 0, .slice none 0 0] 74 ∧ Row true V1 A1 c1 (cuts t 1 8) (rng V0.heap.size V1.heap.size) ∧ Below w.heap.size w V1 ∧ Chg (fun b => b = B ∨ V0.heap.size ≤ b) V0 V1 ∧ V0.heap.size ≤ V1.heap.size:=by
  rw [← hV1]
  refine ⟨XB.out.set rfl,XRa.out.far zz4,?_,Below.setCell (HB0.out.trans (O1.out.bl.mono HB0.out.size)) (by show w.heap.size ≤ B; omega) _,Chg.setCell ((Chg.refl _ _).below O1.out.bl (Nat.le_refl _)) (.inl (.inl rfl)) _,zz23⟩
  have h9:=(to_rng O1.out.row).setC (p:=⟨B,1,none⟩) (fun k => by have k : V0.heap.size ≤ B:=k.1; omega) (.slice A1 8 c1)
  simpa using h9
 rw [hV1]
 clear hV1 y1 yf XB XRa
 obtain ⟨q1,q2,q3,q4,q5,q6⟩:=hf1
 have XS1:=zd q1; have XR1:=zd q2; have R1:=zd q3; have HB1:=zd q4; have HC1:=zd q5
 clear q1 q2 q3 q4 q5
 have hbs1:=XS1.out.lt
 go_wp2_with (fail)
 refine (spec_l05Cut V1 t ht 129 8 zz4 zz4).mono ?_
 rintro e2 w2 ⟨A2,c2,rfl,o2⟩
 rw [cuts_len]
 have hs2:=o2.size
 have hle2:=o2.le
 have hcm2:=o2.cm
 rw [cuts_len] at hle2
 have xb:=XS1.out.keep (o2.bl.block _ (by have:=XS1.out.lt; omega))
 have xr:=XR1.out.keep (o2.bl.block _ (by have:=XR1.out.lt; omega))
 have y2:=xb.at_ (i:=2) rfl
 have yf:=xb.fz
 have XB:=zd xb; have XRa:=zd xr; have O2:=zd o2
 clear xb xr o2
 go_upto_region 7 with (fail)
 obtain ⟨V2,hV2⟩ : ∃ Z,w2.setCell ⟨B,2,none⟩ (.slice A2 8 c2) = Z:=⟨_,rfl⟩
 have hf2 : Bx V2 B #[.int .i64 v, .slice A1 8 c1, .slice A2 8 c2, .slice none 0 0] 74 ∧ Bx V2 w.heap.size #[.int .i64 0, .slice none 0 0, .slice none 0 0, .slice none 0 0] 74 ∧ Row true V2 A2 c2 (cuts t 129 8) (rng V1.heap.size V2.heap.size) ∧ Below w.heap.size w V2 ∧ Chg (fun b => b = B ∨ V1.heap.size ≤ b) V1 V2 ∧ V1.heap.size ≤ V2.heap.size:=by
  rw [← hV2]
  refine ⟨XB.out.set rfl,XRa.out.far zz4,?_,Below.setCell (HB1.out.trans (O2.out.bl.mono HB1.out.size)) (by show w.heap.size ≤ B; omega) _,Chg.setCell ((Chg.refl _ _).below O2.out.bl (Nat.le_refl _)) (.inl (.inl rfl)) _,zz23⟩
  have h9:=(to_rng O2.out.row).setC (p:=⟨B,2,none⟩) (fun k => by have k : V1.heap.size ≤ B:=k.1; omega) (.slice A2 8 c2)
  simpa using h9
 rw [hV2]
 clear hV2 y2 yf XB XRa
 obtain ⟨q1,q2,q3,q4,q5,q6⟩:=hf2
 have XS2:=zd q1; have XR2:=zd q2; have R2:=zd q3; have HB2:=zd q4; have HC2:=zd q5
 clear q1 q2 q3 q4 q5
 have hbs2:=XS2.out.lt
 go_wp2_with (fail)
 refine (spec_l05Cut V2 t ht 257 4 zz4 zz4).mono ?_
 rintro e3 w3 ⟨A3,c3,rfl,o3⟩
 rw [cuts_len]
 have hs3:=o3.size
 have hle3:=o3.le
 have hcm3:=o3.cm
 rw [cuts_len] at hle3
 have xb:=XS2.out.keep (o3.bl.block _ (by have:=XS2.out.lt; omega))
 have xr:=XR2.out.keep (o3.bl.block _ (by have:=XR2.out.lt; omega))
 have y3:=xb.at_ (i:=3) rfl
 have yf:=xb.fz
 have XB:=zd xb; have XRa:=zd xr; have O3:=zd o3
 clear xb xr o3
 go_upto_region 8 with (fail)
 obtain ⟨V3,hV3⟩ : ∃ Z,w3.setCell ⟨B,3,none⟩ (.slice A3 4 c3) = Z:=⟨_,rfl⟩
 have hf3 : Bx V3 B #[.int .i64 v, .slice A1 8 c1, .slice A2 8 c2, .slice A3 4 c3] 74 ∧ Bx V3 w.heap.size #[.int .i64 0, .slice none 0 0, .slice none 0 0, .slice none 0 0] 74 ∧ Row true V3 A3 c3 (cuts t 257 4) (rng V2.heap.size V3.heap.size) ∧ Below w.heap.size w V3 ∧ Chg (fun b => b = B ∨ V2.heap.size ≤ b) V2 V3 ∧ V2.heap.size ≤ V3.heap.size:=by
  rw [← hV3]
  refine ⟨XB.out.set rfl,XRa.out.far zz4,?_,Below.setCell (HB2.out.trans (O3.out.bl.mono HB2.out.size)) (by show w.heap.size ≤ B; omega) _,Chg.setCell ((Chg.refl _ _).below O3.out.bl (Nat.le_refl _)) (.inl (.inl rfl)) _,zz23⟩
  have h9:=(to_rng O3.out.row).setC (p:=⟨B,3,none⟩) (fun k => by have k : V2.heap.size ≤ B:=k.1; omega) (.slice A3 4 c3)
  simpa using h9
 rw [hV3]
 clear hV3 y3 yf XB XRa
 obtain ⟨q1,q2,q3,q4,q5,q6⟩:=hf3
 have XS3:=zd q1; have XR3:=zd q2; have R3:=zd q3; have HB3:=zd q4; have HC3:=zd q5
 clear q1 q2 q3 q4 q5
 have hbs3:=XS3.out.lt
 have z0:=XS3.out.at_ (i:=0) rfl
 have z1:=XS3.out.at_ (i:=1) rfl
 have z2:=XS3.out.at_ (i:=2) rfl
 have z3:=XS3.out.at_ (i:=3) rfl
 have y0:=XR3.out.at_ (i:=0) rfl
 have y1:=XR3.out.at_ (i:=1) rfl
 have y2:=XR3.out.at_ (i:=2) rfl
 have y3:=XR3.out.at_ (i:=3) rfl
 have yf:=XR3.out.fz
 go_wp2_with (fail)
 refine bodyPost_ret (v:=.tuple #[.agg #[.int .i64 v, .slice A1 8 c1, .slice A2 8 c2, .slice A3 4 c3], .bool true]) (by simp [results,Tryz.results155,go_sem, *]) rfl ?_
 have T1 : Row true V3 A1 c1 (cuts t 1 8) (rng V0.heap.size V1.heap.size):=Row.chg (Row.chg R1.out HC2.out (fun q k1 k2 => by obtain ⟨p1,p2⟩:=k1; rcases k2 with k2 | k2 <;> omega)) HC3.out (fun q k1 k2 => by obtain ⟨p1,p2⟩:=k1; rcases k2 with k2 | k2 <;> omega)
 have T2 : Row true V3 A2 c2 (cuts t 129 8) (rng V1.heap.size V2.heap.size):=Row.chg R2.out HC3.out (fun q k1 k2 => by obtain ⟨p1,p2⟩:=k1; rcases k2 with k2 | k2 <;> omega)
 have T3:=R3.out
 have n1 : ∀ o : Nat, ¬ rng V0.heap.size V1.heap.size (⟨w.heap.size,o,none⟩ : Addr).block:=fun o k => by have k1 : V0.heap.size ≤ w.heap.size:=k.1; omega
 have n2 : ∀ o : Nat, ¬ rng V1.heap.size V2.heap.size (⟨w.heap.size,o,none⟩ : Addr).block:=fun o k => by have k1 : V1.heap.size ≤ w.heap.size:=k.1; omega
 have n3 : ∀ o : Nat, ¬ rng V2.heap.size V3.heap.size (⟨w.heap.size,o,none⟩ : Addr).block:=fun o k => by have k1 : V2.heap.size ≤ w.heap.size:=k.1; omega
 replace T1:=(((T1.setC (n1 0) (.int .i64 v)).setC (n1 1) (.slice A1 8 c1)).setC (n1 2) (.slice A2 8 c2)).setC (n1 3) (.slice A3 4 c3)
 replace T2:=(((T2.setC (n2 0) (.int .i64 v)).setC (n2 1) (.slice A1 8 c1)).setC (n2 2) (.slice A2 8 c2)).setC (n2 3) (.slice A3 4 c3)
 replace T3:=(((T3.setC (n3 0) (.int .i64 v)).setC (n3 1) (.slice A1 8 c1)).setC (n3 2) (.slice A2 8 c2)).setC (n3 3) (.slice A3 4 c3)
 have sb : ∀ p q,w.heap.size ≤ p → sub (rng p q) (nw w.heap.size):=fun p q k b k2 => Nat.le_trans k k2.1
 have HD:=Sig.mk' (m:=true) (x:=⟨v,cuts t 1 8,cuts t 129 8,cuts t 257 4⟩) (S:=nw w.heap.size) (by show I64 v; unfold I64; omega) (by show (cuts t 1 8).length ≤ _; rw [cuts_len]; exact hle1) hcm1 T1 (sb _ _ zz4) (by show (cuts t 129 8).length ≤ _; rw [cuts_len]; exact hle2) hcm2 T2 (sb _ _ zz4) (by show (cuts t 257 4).length ≤ _; rw [cuts_len]; exact hle3) hcm3 T3 (sb _ _ zz4) (fun _ => .cons (fun b hb => by rcases List.mem_cons.1 hb with rfl | hb; exact rng_dj (Nat.le_refl _); rw [List.mem_singleton.1 hb]; exact rng_dj zz4) (.cons (fun b hb => by rw [List.mem_singleton.1 hb]; exact rng_dj (Nat.le_refl _)) (.cons (fun b hb => by cases hb) .nil)))
 simp only [Sig.cs,cuts_len] at HD
 exact ⟨_,⟨v,cuts t 1 8,cuts t 129 8,cuts t 257 4⟩,true,rfl,HD,Below.setCell (Below.setCell (Below.setCell (Below.setCell HB3.out (Nat.le_refl _) _) (Nat.le_refl _) _) (Nat.le_refl _) _) (Nat.le_refl _) _,fun _ => ⟨hz,HX.out,by rw [← HVV.out]; rfl⟩,fun h => (by cases h)⟩
end Go.Proofs.YtlfnmbcnehaikaaGreatDoor
