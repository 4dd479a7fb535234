/- A part of the proof. -/
import Derived.Test.YtlfnmbcnehaikaaGreatDoorHApUmp1
set_option linter.unusedVariables false
set_option linter.unusedSimpArgs false
set_option maxRecDepth 20000
set_option maxHeartbeats 8000000
namespace Go.Proofs.YtlfnmbcnehaikaaGreatDoor
open Go.RowKit Lay Mk
theorem spec_AuditorOk (w : World) (x : Auditor) (cs : List Value) (S : Blks) (hx : rd false w cs x S) (hz : x.sz ≤ 1048576) (roots : List ByteArray) (AR : Option Addr) (kR : Nat) (SR : Blks) (hr : Row false w AR kR roots SR) (_ : roots.length ≤ kR) (_ : kR ≤ maxLen) (hzr : szL roots ≤ 1048576) : Calls Tryz.prog 18 #[.agg cs.toArray, .slice AR roots.length kR] w fun e w' => e = .returned (.bool (auditorOk x roots)) ∧ Below w.heap.size w w':=by
 have HX:=zd hx
 obtain ⟨z0,z1,z2,z3,l0,l1,l2,l3⟩:=aud_szs' hz
 have hrl : roots.length ≤ 1048576:=by have:=szT_le roots 0; omega
 have hrt : ∀ j (h : j < roots.length),(roots[j]).size ≤ 1048576:=fun j h => sz_get' h hzr
 have HRT:=zd hrt; clear hrt
 have hw1 : IntKind.i64.wrap ((roots.length : Int) - 1) = (roots.length : Int) - 1:=IntWalk.i64_in _ zz4
 obtain ⟨A0,k0,S0,A1,k1,S1,A2,k2,S2,A3,k3,S3,rfl,f0,b0,c0,q0, -,b1,c1,q1, -,b2,c2,q2, -,b3,c3,q3, -⟩:=Auditor.open hx
 have HR0:=zd (Disk.mk' (m:=false) (x:=x.disk) (S:=S0) b0 c0 q0 (ya8 _))
 have hzd : x.disk.sz ≤ 1048576:=z0
 have HF0:=zd f0
 have R1:=zd q1; have R2:=zd q2; have R3:=zd q3; have RR:=zd hr
 have HNO:=zd (fun h => aok_house (x:=x) (roots:=roots) h)
 have HNW:=zd (fun h => aok_new (x:=x) (roots:=roots) h)
 have HNP:=zd (fun k hk h => aok_pin (x:=x) (roots:=roots) (k:=k) hk h)
 have HNQ:=zd (fun k hk h => aok_pair (x:=x) (roots:=roots) (k:=k) hk h)
 have HNC:=zd (fun k hk hk2 h => aok_chain (x:=x) (roots:=roots) (k:=k) hk hk2 h)
 have HYE:=zd (fun h0 h1 h2 h3 h4 => aok_yes (x:=x) (roots:=roots) h0 h1 h2 h3 h4)
 obtain ⟨RES,hRES⟩ : ∃ R,auditorOk x roots = R:=⟨_,rfl⟩
 rw [hRES] at HNO HNW HNP HNQ HNC HYE ⊢
 clear hRES hx f0 b0 c0 q0 b1 c1 q1 b2 c2 q2 b3 c3 q3 hr
 simp only [Auditor.cs] at HX ⊢
 go_enter Tryz.func18,Tryz.ntmps18
 go_upto_region 1 with (fail)
 obtain ⟨W,hW⟩ : ∃ W,w.alloc (.cells #[.int .i64 x.house, .bool x.up, .slice A0 x.disk.files.length k0, .slice A1 x.pool.length k1, .slice A2 x.pins.length k2, .slice A3 x.pairs.length k3] 33) = W:=⟨_,rfl⟩
 have hWf : Below w.heap.size w W ∧ W.heap.size = w.heap.size + 1 ∧ Bx W w.heap.size #[.int .i64 x.house, .bool x.up, .slice A0 x.disk.files.length k0, .slice A1 x.pool.length k1, .slice A2 x.pins.length k2, .slice A3 x.pairs.length k3] 33:=by
  rw [← hW]
  exact ⟨(Below.refl _ _).alloc (Nat.le_refl _) _,zz17,Bx.new _ _ _⟩
 rw [hW]
 clear hW
 obtain ⟨bW,sW,bX⟩:=hWf
 have hwl : w.heap.size < W.heap.size:=zz4
 have HBW:=zd bW; have BX:=zd bX
 have e0:=bX.at_ (i:=0) rfl
 have e1:=bX.at_ (i:=1) rfl
 have e2:=bX.at_ (i:=2) rfl
 have e3:=bX.at_ (i:=3) rfl
 have e4:=bX.at_ (i:=4) rfl
 have e5:=bX.at_ (i:=5) rfl
 clear bW bX sW
 cases hin : inB x.house 0 2
 ·have HF:=zd (HNO.out hin)
  have HV:=zd (spec_in x.house 0 2 W)
  rw [hin] at HV
  clear hin HNO HNW HNP HNQ HNC HYE
  go_wp2_with (go_at_call 48; refine HV.out.mono ?_; rintro e_ w2 ⟨rfl,rfl⟩)
  go_ret
  exact ⟨ya1 zz24,HBW.out⟩
 have HV:=zd (spec_in x.house 0 2 W)
 rw [hin] at HV
 have HIN:=zd hin
 clear hin HNO
 go_upto_region 3 with (go_at_call 48; refine HV.out.mono ?_; rintro e_ w2 ⟨rfl,rfl⟩)
 go_wp2_with (fail)
 refine (spec_AuditorNew W x.house HF0.out x.disk (Disk.cs x.disk A0 k0) S0 (Lay.later HR0.out HBW.out) hzd).mono ?_
 rintro e3 w3 ⟨c3,rfl,hrd,hb3⟩
 have HGD:=zd (auditorNew_good x.house x.disk)
 have HNL:=zd (auditorNew_len x.house x.disk)
 obtain ⟨y,hy⟩ : ∃ y,auditorNew x.house x.disk = y:=⟨_,rfl⟩
 rw [hy] at hrd HNW HYE HGD HNL
 clear hy HV
 obtain ⟨B0,m0,_,B1,m1,_,B2,m2,_,B3,m3,_,rfl, -, -, -, -, -, -, -,p1, -, -, -,p2, -, -, -,p3, -⟩:=Auditor.open hrd
 have HB3:=zd hb3
 have hs3:=hb3.size
 simp only [Auditor.cs]
 clear hrd hb3 e0 e1 e2 e3 e4 e5
 go_upto_region 4 with (fail)
 obtain ⟨V,hV⟩ : ∃ V,w3.alloc (.cells #[.int .i64 y.house, .bool y.up, .slice B0 y.disk.files.length m0, .slice B1 y.pool.length m1, .slice B2 y.pins.length m2, .slice B3 y.pairs.length m3] 33) = V:=⟨_,rfl⟩
 have hVf : Below w3.heap.size w3 V ∧ w3.heap.size < V.heap.size ∧ Bx V w3.heap.size #[.int .i64 y.house, .bool y.up, .slice B0 y.disk.files.length m0, .slice B1 y.pool.length m1, .slice B2 y.pins.length m2, .slice B3 y.pairs.length m3] 33:=zz33
 rw [hV]
 clear hV
 obtain ⟨bV,hlV,xV⟩:=hVf
 have HBV:=zd (HBW.out.trans ((HB3.out.trans (bV.mono hs3)).mono HBW.out.size))
 have P1:=zd (Row.later p1.weak bV); have P2:=zd (Row.later p2.weak bV); have P3:=zd (Row.later p3.weak bV)
 have XV:=zd xV
 have hwV : w.heap.size < V.heap.size:=zz4
 have BV:=zd ((BX.out.keep (HB3.out.block _ zz4)).keep (bV.block _ zz4))
 clear bV xV p1 p2 p3 BX HB3
 have v0:=BV.out.at_ (i:=0) rfl
 have v1:=BV.out.at_ (i:=1) rfl
 have v2:=BV.out.at_ (i:=2) rfl
 have v3:=BV.out.at_ (i:=3) rfl
 have v4:=BV.out.at_ (i:=4) rfl
 have v5:=BV.out.at_ (i:=5) rfl
 have n3:=XV.out.at_ (i:=3) rfl
 have n4:=XV.out.at_ (i:=4) rfl
 have n5:=XV.out.at_ (i:=5) rfl
 have Q1:=zd (Row.later R1.out HBV.out); have Q2:=zd (Row.later R2.out HBV.out); have Q3:=zd (Row.later R3.out HBV.out); have QR:=zd (Row.later RR.out HBV.out)
 have HXV:=zd (Lay.later HX.out HBV.out)
 clear R1 R2 R3 RR HX
 have HS1:=zd (spec_sameTexts V y.pool B1 m1 _ P1.out x.pool A1 k1 _ Q1.out HNL.out.1)
 cases h1 : decide (y.pool = x.pool)
 ·have HF:=zd (HNW.out (by unfold sameNew; rw [decide_eq_false (fun e => by rw [e] at h1; simp at h1)]; rfl))
  rw [h1] at HS1
  clear h1 HNW HNP HNQ HNC HYE
  go_wp2_with (go_at_call 49; refine HS1.out.mono ?_; rintro e4 w4 ⟨rfl,hb4⟩)
  go_ret
  exact ⟨ya1 zz24,HBV.out.trans (hb4.mono HBV.out.size)⟩
 rw [h1] at HS1
 have H1 : Hid (x.pool = y.pool):=zd (of_decide_eq_true h1).symm
 clear h1
 go_wp2_with (fail)
 refine HS1.out.mono ?_
 rintro e4 w4 ⟨rfl,hb4⟩
 have HB4:=zd hb4
 clear v0 v1 v2 v3 v4 v5
 clear n3 n4 n5
 have v0:=(BV.out.keep (HB4.out.block _ zz4)).at_ (i:=0) rfl
 have v1:=(BV.out.keep (HB4.out.block _ zz4)).at_ (i:=1) rfl
 have v2:=(BV.out.keep (HB4.out.block _ zz4)).at_ (i:=2) rfl
 have v3:=(BV.out.keep (HB4.out.block _ zz4)).at_ (i:=3) rfl
 have v4:=(BV.out.keep (HB4.out.block _ zz4)).at_ (i:=4) rfl
 have v5:=(BV.out.keep (HB4.out.block _ zz4)).at_ (i:=5) rfl
 have n3:=(XV.out.keep (HB4.out.block _ hlV)).at_ (i:=3) rfl
 have n4:=(XV.out.keep (HB4.out.block _ hlV)).at_ (i:=4) rfl
 have n5:=(XV.out.keep (HB4.out.block _ hlV)).at_ (i:=5) rfl
 clear hb4 HS1
 have HS2:=zd (spec_sameSeals w4 y.pins B2 m2 _ (Row.later P2.out HB4.out) x.pins A2 k2 _ (Row.later Q2.out HB4.out) HNL.out.2 (fun k h _ => .inl (HGD.out.1 _ (List.getElem_mem h))))
 cases h2 : decide (y.pins = x.pins)
 ·have HF:=zd (HNW.out (by unfold sameNew; rw [decide_eq_false (fun e : x.pins = y.pins => by rw [e] at h2; simp at h2)]; simp))
  rw [h2] at HS2
  clear h2 HNW HNP HNQ HNC HYE
  go_wp2_with (go_at_call 50; refine HS2.out.mono ?_; rintro e5 w5 ⟨rfl,hb5⟩)
  go_ret
  exact ⟨ya1 zz24,HBV.out.trans ((HB4.out.trans (hb5.mono HB4.out.size)).mono HBV.out.size)⟩
 rw [h2] at HS2
 have H2 : Hid (x.pins = y.pins):=zd (of_decide_eq_true h2).symm
 clear h2
 go_wp2_with (fail)
 refine HS2.out.mono ?_
 rintro e6 w6 ⟨rfl,hb5⟩
 have HB6:=zd (HB4.out.trans (hb5.mono HB4.out.size))
 clear v0 v1 v2 v3 v4 v5
 clear n3 n4 n5
 have v0:=(BV.out.keep (HB6.out.block _ zz4)).at_ (i:=0) rfl
 have v1:=(BV.out.keep (HB6.out.block _ zz4)).at_ (i:=1) rfl
 have v2:=(BV.out.keep (HB6.out.block _ zz4)).at_ (i:=2) rfl
 have v3:=(BV.out.keep (HB6.out.block _ zz4)).at_ (i:=3) rfl
 have v4:=(BV.out.keep (HB6.out.block _ zz4)).at_ (i:=4) rfl
 have v5:=(BV.out.keep (HB6.out.block _ zz4)).at_ (i:=5) rfl
 have n3:=(XV.out.keep (HB6.out.block _ hlV)).at_ (i:=3) rfl
 have n4:=(XV.out.keep (HB6.out.block _ hlV)).at_ (i:=4) rfl
 have n5:=(XV.out.keep (HB6.out.block _ hlV)).at_ (i:=5) rfl
 clear hb5 HB4 HS2
 by_cases h3 : x.pairs.length = y.pairs.length
 rotate_left
 ·have HF:=zd (HNW.out (aok_plen h3))
  have hn : ((y.pairs.length : Int) != (x.pairs.length : Int)) = true:=by rw [bne_iff_ne]; omega
  clear h3 HNW HNP HNQ HNC HYE
  go_wp2_with (fail)
  go_ret
  exact ⟨ya1 zz24,HBV.out.trans (HB6.out.mono HBV.out.size)⟩
 have H3:=zd h3
 have hn : ((y.pairs.length : Int) != (x.pairs.length : Int)) = false:=by rw [bne_eq_false_iff_eq]; omega
 clear h3
 go_wp2_with (fail)
 clear hn
 go_loopw [6] (fun i wr => ∃ k : Nat,k ≤ x.pins.length ∧ i = .int .i64 (k : Int) ∧ Hid (∀ j,j < k → pinFit x roots j = true) ∧ Below V.heap.size V wr) (fun i _ => x.pins.length - (intOf i).toNat)
 case atStart => exact ⟨0,Nat.zero_le _,rfl,zd (fun j h => absurd h zz4),HB6.out⟩
 case round =>
  obtain ⟨k,hk,rfl,HS,hb⟩:=hrel
  have HB:=zd hb
  have hsr:=hb.size
  clear v0 v1 v2 v3 v4 v5
  clear hb n3 n4 n5
  have v0:=(BV.out.keep (HB.out.block _ zz4)).at_ (i:=0) rfl
  have v1:=(BV.out.keep (HB.out.block _ zz4)).at_ (i:=1) rfl
  have v2:=(BV.out.keep (HB.out.block _ zz4)).at_ (i:=2) rfl
  have v3:=(BV.out.keep (HB.out.block _ zz4)).at_ (i:=3) rfl
  have v4:=(BV.out.keep (HB.out.block _ zz4)).at_ (i:=4) rfl
  have v5:=(BV.out.keep (HB.out.block _ zz4)).at_ (i:=5) rfl
  by_cases hlt : k < x.pins.length
  ·obtain ⟨b1,o1,c1,T1,rfl,hl1,hf,hr1,_,_⟩:=Row.at_ Q2.out hlt
   have HR1:=zd (Lay.later hr1 HB.out)
   have HAT:=zd (pinFit_at (roots:=roots) hlt)
   have HNO:=zd (HNP.out k hlt)
   obtain ⟨s,hs⟩ : ∃ s,x.pins[k] = s:=⟨_,rfl⟩
   rw [hs] at hr1 HR1 HAT
   clear hs
   obtain ⟨F0,g0,_,F1,g1,_,F2,g2,_,rfl, -⟩:=Seal.open hr1
   replace hf:=hf.keep (HB.out.block b1 hl1)
   rw [show Lay.n Seal = 8 from rfl] at hf
   have HFA:=zd hf
   have hb1 : b1 < wr.heap.size:=zz4
   have f0:=hf 0 _ rfl
   have f1:=hf 1 _ rfl
   have f2:=hf 2 _ rfl
   have f3:=hf 3 _ rfl
   have f4:=hf 4 _ rfl
   have f5:=hf 5 _ rfl
   have f6:=hf 6 _ rfl
   have f7:=hf 7 _ rfl
   simp only [Nat.add_zero] at f0
   clear hr1 hf
   go_upto_region 10 with (fail)
   obtain ⟨Z,hZ⟩ : ∃ Z,wr.alloc (.cells #[.int .i64 s.head.house, .int .i64 s.head.epoch, .string s.head.root, .string s.head.prev] 72) = Z:=⟨_,rfl⟩
   have hZf : Below wr.heap.size wr Z ∧ wr.heap.size < Z.heap.size ∧ Bx Z wr.heap.size #[.int .i64 s.head.house, .int .i64 s.head.epoch, .string s.head.root, .string s.head.prev] 72:=by rw [← hZ]; exact ⟨(Below.refl _ _).alloc (Nat.le_refl _) _,zz17,Bx.new _ _ _⟩
   rw [hZ]
   clear hZ f0 f1 f2 f3 f4 f5 f6 f7
   obtain ⟨hbZ,hlZ,xZ⟩:=hZf
   have HBZ:=zd (HB.out.trans (hbZ.mono hsr))
   have HRZ:=zd (Lay.later HR1.out hbZ)
   have f0:=(HFA.out.keep (hbZ.block b1 hb1)) 0 _ rfl
   have f1:=(HFA.out.keep (hbZ.block b1 hb1)) 1 _ rfl
   have f2:=(HFA.out.keep (hbZ.block b1 hb1)) 2 _ rfl
   have f3:=(HFA.out.keep (hbZ.block b1 hb1)) 3 _ rfl
   have f4:=(HFA.out.keep (hbZ.block b1 hb1)) 4 _ rfl
   have f5:=(HFA.out.keep (hbZ.block b1 hb1)) 5 _ rfl
   have f6:=(HFA.out.keep (hbZ.block b1 hb1)) 6 _ rfl
   have f7:=(HFA.out.keep (hbZ.block b1 hb1)) 7 _ rfl
   simp only [Nat.add_zero] at f0
   have h0:=xZ.at_ (i:=0) rfl
   have h1:=xZ.at_ (i:=1) rfl
   have h2:=xZ.at_ (i:=2) rfl
   have h3:=xZ.at_ (i:=3) rfl
   clear v0 v1 v2 v3 v4 v5
   clear hbZ xZ HR1 HFA
   have v0:=(BV.out.keep (HBZ.out.block _ zz4)).at_ (i:=0) rfl
   have v1:=(BV.out.keep (HBZ.out.block _ zz4)).at_ (i:=1) rfl
   have v2:=(BV.out.keep (HBZ.out.block _ zz4)).at_ (i:=2) rfl
   have v3:=(BV.out.keep (HBZ.out.block _ zz4)).at_ (i:=3) rfl
   have v4:=(BV.out.keep (HBZ.out.block _ zz4)).at_ (i:=4) rfl
   have v5:=(BV.out.keep (HBZ.out.block _ zz4)).at_ (i:=5) rfl
   have hki : (k : Int) < (x.pins.length : Int):=zz4
   by_cases how : s.head.house = x.house
   ·have hq1 : (s.head.house == x.house) = true:=beq_iff_eq.2 how
    have HF:=zd (HNO.out (by rw [HAT.out]; unfold otherH; rw [decide_eq_true how]; rfl))
    clear how HAT HNO
    go_wp2_with (fail)
    have Gv0:=Grown.cell v0
    have Gv1:=Grown.cell v1
    have Gv2:=Grown.cell v2
    have Gv3:=Grown.cell v3
    have Gv4:=Grown.cell v4
    have Gv5:=Grown.cell v5
    have Gf0:=Grown.cell f0
    have Gf1:=Grown.cell f1
    have Gf2:=Grown.cell f2
    have Gf3:=Grown.cell f3
    have Gf4:=Grown.cell f4
    have Gf5:=Grown.cell f5
    have Gf6:=Grown.cell f6
    have Gf7:=Grown.cell f7
    have Gh0:=Grown.cell h0
    have Gh1:=Grown.cell h1
    have Gh2:=Grown.cell h2
    have Gh3:=Grown.cell h3
    clear v0 v1 v2 v3 v4 v5 f0 f1 f2 f3 f4 f5 f6 f7 h0 h1 h2 h3
    refine ya0 (by kernel_rfl) (by kernel_rfl) ?_
    repeat (go_big_quiet_step (fail))
    refine wpQuiet_nil ?_
    intro w7 hw_
    have HB7:=zd (HBZ.out.trans ((ya5 hw_).mono HBZ.out.size))
    clear hw_ Gv0 Gv1 Gv2 Gv3 Gv4 Gv5 Gf0 Gf1 Gf2 Gf3 Gf4 Gf5 Gf6 Gf7 Gh0 Gh1 Gh2 Gh3
    go_wp2_with (fail)
    go_ret
    exact ⟨ya1 zz24,HBV.out.trans (HB7.out.mono HBV.out.size)⟩
   have hq1 : (s.head.house == x.house) = false:=beq_eq_false_iff_ne.2 how
   have HOW:=zd how
   clear how
   cases hii : inB s.head.house 0 ((roots.length : Int) - 1)
   ·have HCL : Hid (∀ Y,Calls Tryz.prog 48 #[.int .i64 s.head.house, .int .i64 0, .int .i64 ((roots.length : Int) - 1)] Y fun e w' => e = .returned (.bool false) ∧ Y = w'):=zd (fun Y => by have h:=spec_in s.head.house 0 ((roots.length : Int) - 1) Y; rwa [hii] at h)
    have HF:=zd (HNO.out (by rw [HAT.out]; unfold otherH; rw [hii]; simp))
    clear hii HAT HNO
    go_wp2_with (fail)
    have Gv0:=Grown.cell v0
    have Gv1:=Grown.cell v1
    have Gv2:=Grown.cell v2
    have Gv3:=Grown.cell v3
    have Gv4:=Grown.cell v4
    have Gv5:=Grown.cell v5
    have Gf0:=Grown.cell f0
    have Gf1:=Grown.cell f1
    have Gf2:=Grown.cell f2
    have Gf3:=Grown.cell f3
    have Gf4:=Grown.cell f4
    have Gf5:=Grown.cell f5
    have Gf6:=Grown.cell f6
    have Gf7:=Grown.cell f7
    have Gh0:=Grown.cell h0
    have Gh1:=Grown.cell h1
    have Gh2:=Grown.cell h2
    have Gh3:=Grown.cell h3
    clear v0 v1 v2 v3 v4 v5 f0 f1 f2 f3 f4 f5 f6 f7 h0 h1 h2 h3
    refine ya0 (by kernel_rfl) (by kernel_rfl) ?_
    repeat (go_big_quiet_step (first | (go_at_call 48; with_reducible exact grown_same (HCL.out _))))
    refine wpQuiet_nil ?_
    intro w7 hw_
    have HB7:=zd (HBZ.out.trans ((ya5 hw_).mono HBZ.out.size))
    clear hw_ Gv0 Gv1 Gv2 Gv3 Gv4 Gv5 Gf0 Gf1 Gf2 Gf3 Gf4 Gf5 Gf6 Gf7 Gh0 Gh1 Gh2 Gh3
    go_wp2_with (fail)
    go_ret
    exact ⟨ya1 zz24,HBV.out.trans (HB7.out.mono HBV.out.size)⟩
   have HCL : Hid (∀ Y,Calls Tryz.prog 48 #[.int .i64 s.head.house, .int .i64 0, .int .i64 ((roots.length : Int) - 1)] Y fun e w' => e = .returned (.bool true) ∧ Y = w'):=zd (fun Y => by have h:=spec_in s.head.house 0 ((roots.length : Int) - 1) Y; rwa [hii] at h)
   have hot : otherH x.house roots.length s.head.house = true:=by unfold otherH; rw [decide_eq_false HOW.out,hii]; rfl
   clear hii
   obtain ⟨-,j,hj,hjl⟩:=other_idx hot
   rw [hj] at HCL
   have HRO:=zd (roots_at hj hjl)
   obtain ⟨bR,oR,rfl,hlR,q1, -⟩:=Row.str (Row.later QR.out HBZ.out) hjl
   have hrs:=HRT.out j hjl
   obtain ⟨rt,hrt⟩ : ∃ r,roots[j] = r:=⟨_,rfl⟩
   rw [hrt] at q1 HRO hrs
   clear hrt
   have hjj : (j : Int) < (roots.length : Int):=zz4
   have HOK : Hid (∀ Y,Below Z.heap.size Z Y → Calls Tryz.prog 51 #[.string rt, .agg #[.int .i64 s.head.house, .int .i64 s.head.epoch, .string s.head.root, .string s.head.prev, .int .i64 s.sig.at_, .slice F0 s.sig.open_.length g0, .slice F1 s.sig.shut.length g1, .slice F2 s.sig.sides.length g2]] Y fun e w' => e = .returned (.bool (sealOk rt s)) ∧ Below Y.heap.size Y w'):=zd (fun Y h => spec_SealOk Y rt s _ _ (Lay.later HRZ.out h))
   rw [hj] at hq1
   cases hok : sealOk rt s
   ·rw [hok,hj] at HOK
    have HF:=zd (HNO.out (by rw [HAT.out,HRO.out,hot,hok]; rfl))
    clear hot hok HAT HNO HRO HOW
    go_wp2_with (fail)
    have Gv0:=Grown.cell v0
    have Gv1:=Grown.cell v1
    have Gv2:=Grown.cell v2
    have Gv3:=Grown.cell v3
    have Gv4:=Grown.cell v4
    have Gv5:=Grown.cell v5
    have Gf0:=Grown.cell f0
    have Gf1:=Grown.cell f1
    have Gf2:=Grown.cell f2
    have Gf3:=Grown.cell f3
    have Gf4:=Grown.cell f4
    have Gf5:=Grown.cell f5
    have Gf6:=Grown.cell f6
    have Gf7:=Grown.cell f7
    have Gh0:=Grown.cell h0
    have Gh1:=Grown.cell h1
    have Gh2:=Grown.cell h2
    have Gh3:=Grown.cell h3
    have Gq1:=Grown.cell q1
    clear v0 v1 v2 v3 v4 v5 f0 f1 f2 f3 f4 f5 f6 f7 h0 h1 h2 h3 q1
    refine ya0 (by kernel_rfl) (by kernel_rfl) ?_
    repeat (go_big_quiet_step (first | (go_at_call 48; with_reducible exact grown_same (HCL.out _)) | (go_at_call 51; with_reducible exact ya4 (HOK.out _ (Grown.ok _)))))
    refine wpQuiet_nil ?_
    intro w7 hw_
    have HB7:=zd (HBZ.out.trans ((ya5 hw_).mono HBZ.out.size))
    clear hw_ Gv0 Gv1 Gv2 Gv3 Gv4 Gv5 Gf0 Gf1 Gf2 Gf3 Gf4 Gf5 Gf6 Gf7 Gh0 Gh1 Gh2 Gh3 Gq1
    go_wp2_with (fail)
    go_ret
    exact ⟨ya1 zz24,HBV.out.trans (HB7.out.mono HBV.out.size)⟩
   rw [hok,hj] at HOK
   have HF : Hid (∀ i,i < k + 1 → pinFit x roots i = true):=zd (fun i hi => zz46)
   clear hot hok HAT HNO HRO HOW
   go_wp2_with (fail)
   have Gv0:=Grown.cell v0
   have Gv1:=Grown.cell v1
   have Gv2:=Grown.cell v2
   have Gv3:=Grown.cell v3
   have Gv4:=Grown.cell v4
   have Gv5:=Grown.cell v5
   have Gf0:=Grown.cell f0
   have Gf1:=Grown.cell f1
   have Gf2:=Grown.cell f2
   have Gf3:=Grown.cell f3
   have Gf4:=Grown.cell f4
   have Gf5:=Grown.cell f5
   have Gf6:=Grown.cell f6
   have Gf7:=Grown.cell f7
   have Gh0:=Grown.cell h0
   have Gh1:=Grown.cell h1
   have Gh2:=Grown.cell h2
   have Gh3:=Grown.cell h3
   have Gq1:=Grown.cell q1
   clear v0 v1 v2 v3 v4 v5 f0 f1 f2 f3 f4 f5 f6 f7 h0 h1 h2 h3 q1
   refine ya0 (by kernel_rfl) (by kernel_rfl) ?_
   repeat (go_big_quiet_step (first | (go_at_call 48; with_reducible exact grown_same (HCL.out _)) | (go_at_call 51; with_reducible exact ya4 (HOK.out _ (Grown.ok _)))))
   refine wpQuiet_nil ?_
   intro w7 hw_
   have HB7:=zd (HBZ.out.trans ((ya5 hw_).mono HBZ.out.size))
   clear hw_ Gv0 Gv1 Gv2 Gv3 Gv4 Gv5 Gf0 Gf1 Gf2 Gf3 Gf4 Gf5 Gf6 Gf7 Gh0 Gh1 Gh2 Gh3 Gq1
   go_wp2_with (fail)
   go_roundw
   case rel => exact ⟨k + 1,hlt,by go_num,HF,HB7.out⟩
   case measure => simp [intOf]; omega
  have hke : k = x.pins.length:=zz4
  subst hke
  have HP1:=HS
  have HB8:=HB
  clear HS HB hlt
  have n3:=(XV.out.keep (HB8.out.block _ hlV)).at_ (i:=3) rfl
  have n4:=(XV.out.keep (HB8.out.block _ hlV)).at_ (i:=4) rfl
  have n5:=(XV.out.keep (HB8.out.block _ hlV)).at_ (i:=5) rfl
  go_wp2_with (fail)
  go_loopw [8] (fun i wr => ∃ k : Nat,k ≤ x.pairs.length ∧ i = .int .i64 (k : Int) ∧ Hid (∀ j,j < k → pairFit x roots j = true) ∧ Hid (∀ j (h1 : j < x.pairs.length) (h2 : j < y.pairs.length),j < k → x.pairs[j] = y.pairs[j]) ∧ Below V.heap.size V wr) (fun i _ => x.pairs.length - (intOf i).toNat)
  case atStart => exact ⟨0,Nat.zero_le _,rfl,zd (fun j h => absurd h zz4),zd (fun j _ _ h => absurd h zz4),HB8.out⟩
  case round =>
   obtain ⟨k,hk,rfl,HS,HSE,hb⟩:=hrel
   have HB:=zd hb
   have hsr:=hb.size
   clear v0 v1 v2 v3 v4 v5
   clear hb n3 n4 n5
   have v0:=(BV.out.keep (HB.out.block _ zz4)).at_ (i:=0) rfl
   have v1:=(BV.out.keep (HB.out.block _ zz4)).at_ (i:=1) rfl
   have v2:=(BV.out.keep (HB.out.block _ zz4)).at_ (i:=2) rfl
   have v3:=(BV.out.keep (HB.out.block _ zz4)).at_ (i:=3) rfl
   have v4:=(BV.out.keep (HB.out.block _ zz4)).at_ (i:=4) rfl
   have v5:=(BV.out.keep (HB.out.block _ zz4)).at_ (i:=5) rfl
   have n3:=(XV.out.keep (HB.out.block _ hlV)).at_ (i:=3) rfl
   have n4:=(XV.out.keep (HB.out.block _ hlV)).at_ (i:=4) rfl
   have n5:=(XV.out.keep (HB.out.block _ hlV)).at_ (i:=5) rfl
   by_cases hlt : k < x.pairs.length
   ·obtain ⟨b1,o1,c1,T1,rfl,hl1,hf,hr1,_,_⟩:=Row.at_ Q3.out hlt
    have hly : k < y.pairs.length:=by rw [← H3.out]; exact hlt
    obtain ⟨bq,oq,c2,T2,rfl,hl2,hg,hr2,_,_⟩:=Row.at_ P3.out hly
    have HR1:=zd (Lay.later hr1 HB.out); have HR2:=zd (Lay.later hr2 HB.out)
    have HAT:=zd (pairFit_at (roots:=roots) hlt)
    have HNO:=zd (HNQ.out k hlt)
    have HSZ:=zd (sz_get' hlt z3)
    have HGP:=zd (HGD.out.2 _ (List.getElem_mem hly))
    have HNE:=zd (fun h => HNW.out (aok_pne hlt hly h))
    have HEN : Hid (x.pairs[k] = y.pairs[k] → ∀ i (h1 : i < x.pairs.length) (h2 : i < y.pairs.length),i < k + 1 → x.pairs[i] = y.pairs[i]):=zd (fun h0 i h1 h2 hi => by rcases Nat.lt_succ_iff_lt_or_eq.1 hi with h | h; exact HSE.out i h1 h2 h; subst h; exact h0)
    obtain ⟨s,hs⟩ : ∃ s,x.pairs[k] = s:=⟨_,rfl⟩
    obtain ⟨u,hu⟩ : ∃ s,y.pairs[k] = s:=⟨_,rfl⟩
    rw [hs] at hr1 HR1 HAT HSZ HNE HEN
    rw [hu] at hr2 HR2 HGP HNE HEN
    clear hs hu
    obtain ⟨F0,g0,_,F1,g1,_,F2,g2,_,H0,i0,_,H1,i1,_,H2,i2,_,rfl, -⟩:=Pair.open hr1
    obtain ⟨G0,a0,_,G1,a1,_,G2,a2,_,K0,b0,_,K1,b1,_,K2,b2,_,rfl, -⟩:=Pair.open hr2
    replace hf:=hf.keep (HB.out.block _ hl1)
    replace hg:=hg.keep (HB.out.block bq hl2)
    rw [show Lay.n Pair = 16 from rfl] at hf hg
    have HGA:=zd hg
    have f0:=hf 0 _ rfl
    have f1:=hf 1 _ rfl
    have f2:=hf 2 _ rfl
    have f3:=hf 3 _ rfl
    have f4:=hf 4 _ rfl
    have f5:=hf 5 _ rfl
    have f6:=hf 6 _ rfl
    have f7:=hf 7 _ rfl
    have f8:=hf 8 _ rfl
    have f9:=hf 9 _ rfl
    have f10:=hf 10 _ rfl
    have f11:=hf 11 _ rfl
    have f12:=hf 12 _ rfl
    have f13:=hf 13 _ rfl
    have f14:=hf 14 _ rfl
    have f15:=hf 15 _ rfl
    simp only [Nat.add_zero] at f0
    clear hr1 hr2 hf hg
    go_upto_region 16 with (fail)
    obtain ⟨bp,hbp⟩ : ∃ b,wr.heap.size = b:=⟨_,rfl⟩
    obtain ⟨Y,hY⟩ : ∃ Z,wr.alloc (.cells #[.int .i64 s.a.head.house, .int .i64 s.a.head.epoch, .string s.a.head.root, .string s.a.head.prev, .int .i64 s.a.sig.at_, .slice F0 s.a.sig.open_.length g0, .slice F1 s.a.sig.shut.length g1, .slice F2 s.a.sig.sides.length g2, .int .i64 s.b.head.house, .int .i64 s.b.head.epoch, .string s.b.head.root, .string s.b.head.prev, .int .i64 s.b.sig.at_, .slice H0 s.b.sig.open_.length i0, .slice H1 s.b.sig.shut.length i1, .slice H2 s.b.sig.sides.length i2] 79) = Z:=⟨_,rfl⟩
    have hYf : Below wr.heap.size wr Y ∧ bp < Y.heap.size ∧ Bx Y bp #[.int .i64 s.a.head.house, .int .i64 s.a.head.epoch, .string s.a.head.root, .string s.a.head.prev, .int .i64 s.a.sig.at_, .slice F0 s.a.sig.open_.length g0, .slice F1 s.a.sig.shut.length g1, .slice F2 s.a.sig.sides.length g2, .int .i64 s.b.head.house, .int .i64 s.b.head.epoch, .string s.b.head.root, .string s.b.head.prev, .int .i64 s.b.sig.at_, .slice H0 s.b.sig.open_.length i0, .slice H1 s.b.sig.shut.length i1, .slice H2 s.b.sig.sides.length i2] 79:=by rw [← hY, ← hbp]; exact ⟨(Below.refl _ _).alloc (Nat.le_refl _) _,zz17,Bx.new _ _ _⟩
    rw [hY]
    simp only [hbp]
    have HBP:=zd hbp
    clear hY hbp f0 f1 f2 f3 f4 f5 f6 f7 f8 f9 f10 f11 f12 f13 f14 f15
    obtain ⟨hbY,hlY,xY⟩:=hYf
    have f0:=xY.at_ (i:=0) rfl
    have f1:=xY.at_ (i:=1) rfl
    have f2:=xY.at_ (i:=2) rfl
    have f3:=xY.at_ (i:=3) rfl
    have f4:=xY.at_ (i:=4) rfl
    have f5:=xY.at_ (i:=5) rfl
    have f6:=xY.at_ (i:=6) rfl
    have f7:=xY.at_ (i:=7) rfl
    have f8:=xY.at_ (i:=8) rfl
    have f9:=xY.at_ (i:=9) rfl
    have f10:=xY.at_ (i:=10) rfl
    have f11:=xY.at_ (i:=11) rfl
    have f12:=xY.at_ (i:=12) rfl
    have f13:=xY.at_ (i:=13) rfl
    have f14:=xY.at_ (i:=14) rfl
    have f15:=xY.at_ (i:=15) rfl
    have HBY:=zd (HB.out.trans (hbY.mono hsr))
    have HWY:=zd hbY
    have XY:=zd xY
    clear v0 v1 v2 v3 v4 v5 n3 n4 n5 hbY xY
    have v0:=(BV.out.keep (HBY.out.block _ zz4)).at_ (i:=0) rfl
    have v1:=(BV.out.keep (HBY.out.block _ zz4)).at_ (i:=1) rfl
    have v2:=(BV.out.keep (HBY.out.block _ zz4)).at_ (i:=2) rfl
    have v3:=(BV.out.keep (HBY.out.block _ zz4)).at_ (i:=3) rfl
    have v4:=(BV.out.keep (HBY.out.block _ zz4)).at_ (i:=4) rfl
    have v5:=(BV.out.keep (HBY.out.block _ zz4)).at_ (i:=5) rfl
    have n3:=(XV.out.keep (HBY.out.block _ hlV)).at_ (i:=3) rfl
    have n4:=(XV.out.keep (HBY.out.block _ hlV)).at_ (i:=4) rfl
    have n5:=(XV.out.keep (HBY.out.block _ hlV)).at_ (i:=5) rfl
    go_upto_region 17 with (fail)
    obtain ⟨bh,hbh⟩ : ∃ b,Y.heap.size = b:=⟨_,rfl⟩
    obtain ⟨Z,hZ⟩ : ∃ Z,Y.alloc (.cells #[.int .i64 s.a.head.house, .int .i64 s.a.head.epoch, .string s.a.head.root, .string s.a.head.prev] 72) = Z:=⟨_,rfl⟩
    have hZf : Below Y.heap.size Y Z ∧ bh < Z.heap.size ∧ Bx Z bh #[.int .i64 s.a.head.house, .int .i64 s.a.head.epoch, .string s.a.head.root, .string s.a.head.prev] 72:=by rw [← hZ, ← hbh]; exact ⟨(Below.refl _ _).alloc (Nat.le_refl _) _,zz17,Bx.new _ _ _⟩
    rw [hZ]
    simp only [hbh]
    clear hZ hbh f0 f1 f2 f3 f4 f5 f6 f7 f8 f9 f10 f11 f12 f13 f14 f15
    obtain ⟨hbZ,hlZ,xZ⟩:=hZf
    have HBZ:=zd (HBY.out.trans (hbZ.mono HBY.out.size))
    have HWZ:=zd (HWY.out.trans (hbZ.mono HWY.out.size))
    have hpZ : bp < Z.heap.size:=by have:=hbZ.size; omega
    have XP:=zd (XY.out.keep (hbZ.block _ hlY))
    have HRZ:=zd (Lay.later HR1.out HWZ.out); have HUZ:=zd (Lay.later HR2.out HWZ.out)
    have HA12 : Hid (∀ Q,Below Z.heap.size Z Q → At Q bp 0 (Pair.cs s F0 g0 F1 g1 F2 g2 H0 i0 H1 i1 H2 i2)):=zd (fun Q h i v hv => by rw [Nat.zero_add]; exact (h.cell (p:=⟨bp,i,none⟩) hpZ).trans (XP.out.at_ (i:=i) (by rw [← Array.getElem?_toList]; exact hv)))
    have HA1 : Hid (∀ Q,Below Z.heap.size Z Q → At Q bp 0 (Seal.cs s.a F0 g0 F1 g1 F2 g2)):=zd (fun Q h i v hv => HA12.out Q h i v ((List.getElem?_append_left (l₂:=Seal.cs s.b H0 i0 H1 i1 H2 i2) (List.getElem?_eq_some_iff.1 hv).1).trans hv))
    have HA2 : Hid (∀ Q,Below Z.heap.size Z Q → At Q bp 8 (Seal.cs s.b H0 i0 H1 i1 H2 i2)):=zd (fun Q h i v hv => by have h1:=HA12.out Q h (8 + i) v (((List.getElem?_append_right (l₁:=Seal.cs s.a F0 g0 F1 g1 F2 g2) (by show 8 ≤ 8 + i; omega)).trans (by congr 1; show 8 + i - 8 = i; omega)).trans hv); rwa [Nat.zero_add] at h1)
    have HA34 : Hid (∀ Q,Below Z.heap.size Z Q → At Q bq (oq + k * 16) (Pair.cs u G0 a0 G1 a1 G2 a2 K0 b0 K1 b1 K2 b2)):=zd (fun Q h => (HGA.out.keep (HWZ.out.block bq zz4)).keep (h.block bq (by have:=HWZ.out.size; omega)))
    have HA3 : Hid (∀ Q,Below Z.heap.size Z Q → At Q bq (oq + k * 16) (Seal.cs u.a G0 a0 G1 a1 G2 a2)):=zd (fun Q h i v hv => HA34.out Q h i v ((List.getElem?_append_left (l₂:=Seal.cs u.b K0 b0 K1 b1 K2 b2) (List.getElem?_eq_some_iff.1 hv).1).trans hv))
    have HA4 : Hid (∀ Q,Below Z.heap.size Z Q → At Q bq (oq + k * 16 + 8) (Seal.cs u.b K0 b0 K1 b1 K2 b2)):=zd (fun Q h i v hv => by have h1:=HA34.out Q h (8 + i) v (((List.getElem?_append_right (l₁:=Seal.cs u.a G0 a0 G1 a1 G2 a2) (by show 8 ≤ 8 + i; omega)).trans (by congr 1; show 8 + i - 8 = i; omega)).trans hv); rwa [show oq + k * 16 + (8 + i) = oq + k * 16 + 8 + i by omega] at h1)
    have HN5 : Hid (∀ Q,Below Z.heap.size Z Q → Q.cell? ⟨w3.heap.size,5,none⟩ = some (.slice (some ⟨bq,oq,none⟩) y.pairs.length m3)):=zd (fun Q h => (XV.out.keep ((HBZ.out.trans (h.mono HBZ.out.size)).block _ hlV)).at_ (i:=5) rfl)
    have HV0 : Hid (∀ Q,Below Z.heap.size Z Q → Q.cell? ⟨w.heap.size,0,none⟩ = some (.int .i64 x.house)):=zd (fun Q h => (BV.out.keep ((HBZ.out.trans (h.mono HBZ.out.size)).block _ hwV)).at_ (i:=0) rfl)
    have HH0 : Hid (∀ Q,Below Z.heap.size Z Q → Q.cell? ⟨bh,0,none⟩ = some (.int .i64 s.a.head.house)):=zd (fun Q h => (xZ.keep (h.block _ hlZ)).at_ (i:=0) rfl)
    obtain ⟨q1_,q2_,X1,X2,hcs_, -, -, -,hsa,hsb⟩:=HRZ.out
    obtain ⟨q3_,q4_,X3,X4,hcu_, -, -, -,hua,hub⟩:=HUZ.out
    have hq1_:=List.append_inj (show q1_ ++ q2_ = Seal.cs s.a F0 g0 F1 g1 F2 g2 ++ Seal.cs s.b H0 i0 H1 i1 H2 i2 from hcs_.symm) (by rw [Lay.len hsa]; rfl)
    have hq2_:=List.append_inj (show q3_ ++ q4_ = Seal.cs u.a G0 a0 G1 a1 G2 a2 ++ Seal.cs u.b K0 b0 K1 b1 K2 b2 from hcu_.symm) (by rw [Lay.len hua]; rfl)
    rw [hq1_.1] at hsa; rw [hq1_.2] at hsb; rw [hq2_.1] at hua; rw [hq2_.2] at hub
    have HSa:=zd hsa; have HSb:=zd hsb; have HUa:=zd hua; have HUb:=zd hub
    clear hcs_ hcu_ hq1_ hq2_ hsa hsb hua hub xZ hbZ XY HWY HGA HR1 HR2
    clear v0 v1 v2 v3 v4 v5 n3 n4 n5
    have HG2 : Hid (∀ i (h : i < [s.a,s.b].length) (h2 : i < [u.a,u.b].length),GoodS [s.a,s.b][i] ∨ GoodS [u.a,u.b][i]):=zd (fun i h h2 => by have h3 : i < 2:=h; rcases (show i = 0 ∨ i = 1 by omega) with rfl | rfl; exact .inr HGP.out.1; exact .inr HGP.out.2)
    have k_sl : (Tryz.prog.info? 76).map (·.size) = some 8:=by kernel_rfl
    have k_pr : (Tryz.prog.info? 79).map (·.size) = some 16:=by kernel_rfl
    have hki : (k : Int) < (y.pairs.length : Int):=zz4
    go_wp2_with (fail)
    by_cases hpe : s = u
    rotate_left
    ·have HF:=zd (HNE.out hpe)
     have HEQ : Hid (decide ([s.a,s.b] = [u.a,u.b]) = false):=zd (decide_eq_false (fun e => hpe (pair_two.1 e)))
     clear hpe HNE HEN HNO HAT
     have HV:=zd ((Below.refl Z.heap.size Z).drew)
     refine wp_region_held_drew (S:=fun W' => Below Z.heap.size Z W') (by kernel_rfl) HV.out (fun hS => ?_)
     refine wpAnyH_take (i:=0) (v:=.pointer (some ⟨bp,0,none⟩)) rfl (by as_aux_lemma => kernel_rfl) (by as_aux_lemma => kernel_rfl) (by as_aux_lemma => kernel_rfl) (fun _ _ _ h => h) (Or.inl ⟨zz22,by intro w hSw; go_simp⟩) hS ?_
     (try simp only [Act.put,List.getElem_toArray,List.getElem_cons_succ,List.getElem_cons_zero,List.setIfInBounds_toArray,List.set_cons_zero,List.set_cons_succ])
     refine wpAnyH_take (i:=1) (v:=.agg #[.int .i64 s.a.head.house, .int .i64 s.a.head.epoch, .string s.a.head.root, .string s.a.head.prev, .int .i64 s.a.sig.at_, .slice F0 s.a.sig.open_.length g0, .slice F1 s.a.sig.shut.length g1, .slice F2 s.a.sig.sides.length g2]) rfl (by as_aux_lemma => kernel_rfl) (by as_aux_lemma => kernel_rfl) (by as_aux_lemma => kernel_rfl) (fun _ _ _ h => h) (ya7 zz22 _ _ rfl rfl (fun _ h => HA1.out _ h) Tryz.underlying76 k_sl rfl) hS ?_
     (try simp only [Act.put,List.getElem_toArray,List.getElem_cons_succ,List.getElem_cons_zero,List.setIfInBounds_toArray,List.set_cons_zero,List.set_cons_succ])
     refine wpAnyH_take (i:=2) (v:=.pointer (some ⟨bp,8,none⟩)) rfl (by as_aux_lemma => kernel_rfl) (by as_aux_lemma => kernel_rfl) (by as_aux_lemma => kernel_rfl) (fun _ _ _ h => h) (Or.inl ⟨zz22,by intro w hSw; go_simp⟩) hS ?_
     (try simp only [Act.put,List.getElem_toArray,List.getElem_cons_succ,List.getElem_cons_zero,List.setIfInBounds_toArray,List.set_cons_zero,List.set_cons_succ])
     refine wpAnyH_take (i:=3) (v:=.agg #[.int .i64 s.b.head.house, .int .i64 s.b.head.epoch, .string s.b.head.root, .string s.b.head.prev, .int .i64 s.b.sig.at_, .slice H0 s.b.sig.open_.length i0, .slice H1 s.b.sig.shut.length i1, .slice H2 s.b.sig.sides.length i2]) rfl (by as_aux_lemma => kernel_rfl) (by as_aux_lemma => kernel_rfl) (by as_aux_lemma => kernel_rfl) (fun _ _ _ h => h) (ya7 zz22 _ _ rfl rfl (fun _ h => HA2.out _ h) Tryz.underlying76 k_sl rfl) hS ?_
     (try simp only [Act.put,List.getElem_toArray,List.getElem_cons_succ,List.getElem_cons_zero,List.setIfInBounds_toArray,List.set_cons_zero,List.set_cons_succ])
     refine wpAnyH_take (i:=5) (v:=.pointer (some ⟨w3.heap.size,5,none⟩)) rfl (by as_aux_lemma => kernel_rfl) (by as_aux_lemma => kernel_rfl) (by as_aux_lemma => kernel_rfl) (fun _ _ _ h => h) (Or.inl ⟨zz22,by intro w hSw; go_simp⟩) hS ?_
     (try simp only [Act.put,List.getElem_toArray,List.getElem_cons_succ,List.getElem_cons_zero,List.setIfInBounds_toArray,List.set_cons_zero,List.set_cons_succ])
     refine wpAnyH_take (i:=6) (v:=.slice (some ⟨bq,oq,none⟩) y.pairs.length m3) rfl (by as_aux_lemma => kernel_rfl) (by as_aux_lemma => kernel_rfl) (by as_aux_lemma => kernel_rfl) (fun _ _ _ h => h) (Or.inl ⟨zz22,by intro Q hSw; have e_:=HN5.out Q hSw; go_simp⟩) hS ?_
     (try simp only [Act.put,List.getElem_toArray,List.getElem_cons_succ,List.getElem_cons_zero,List.setIfInBounds_toArray,List.set_cons_zero,List.set_cons_succ])
     refine wpAnyH_take (i:=7) (v:=.int .i64 (k : Int)) rfl (by as_aux_lemma => kernel_rfl) (by as_aux_lemma => kernel_rfl) (by as_aux_lemma => kernel_rfl) (fun _ _ _ h => h) (ya3 zz22 _ rfl zz22) hS ?_
     (try simp only [Act.put,List.getElem_toArray,List.getElem_cons_succ,List.getElem_cons_zero,List.setIfInBounds_toArray,List.set_cons_zero,List.set_cons_succ])
     refine wpAnyH_take (i:=8) (v:=.pointer (some ⟨bq,oq + k * 16,none⟩)) rfl (by as_aux_lemma => kernel_rfl) (by as_aux_lemma => kernel_rfl) (by as_aux_lemma => kernel_rfl) (fun _ _ _ h => h) (Or.inl ⟨zz22,by intro w hSw; go_simp⟩) hS ?_
     (try simp only [Act.put,List.getElem_toArray,List.getElem_cons_succ,List.getElem_cons_zero,List.setIfInBounds_toArray,List.set_cons_zero,List.set_cons_succ])
     refine wpAnyH_take (i:=9) (v:=.pointer (some ⟨bq,oq + k * 16,none⟩)) rfl (by as_aux_lemma => kernel_rfl) (by as_aux_lemma => kernel_rfl) (by as_aux_lemma => kernel_rfl) (fun _ _ _ h => h) (Or.inl ⟨zz22,by intro w hSw; go_simp⟩) hS ?_
     (try simp only [Act.put,List.getElem_toArray,List.getElem_cons_succ,List.getElem_cons_zero,List.setIfInBounds_toArray,List.set_cons_zero,List.set_cons_succ])
     refine wpAnyH_take (i:=10) (v:=.agg #[.int .i64 u.a.head.house, .int .i64 u.a.head.epoch, .string u.a.head.root, .string u.a.head.prev, .int .i64 u.a.sig.at_, .slice G0 u.a.sig.open_.length a0, .slice G1 u.a.sig.shut.length a1, .slice G2 u.a.sig.sides.length a2]) rfl (by as_aux_lemma => kernel_rfl) (by as_aux_lemma => kernel_rfl) (by as_aux_lemma => kernel_rfl) (fun _ _ _ h => h) (ya7 zz22 _ _ rfl rfl (fun _ h => HA3.out _ h) Tryz.underlying76 k_sl rfl) hS ?_
     (try simp only [Act.put,List.getElem_toArray,List.getElem_cons_succ,List.getElem_cons_zero,List.setIfInBounds_toArray,List.set_cons_zero,List.set_cons_succ])
     refine wpAnyH_take (i:=11) (v:=.pointer (some ⟨w3.heap.size,5,none⟩)) rfl (by as_aux_lemma => kernel_rfl) (by as_aux_lemma => kernel_rfl) (by as_aux_lemma => kernel_rfl) (fun _ _ _ h => h) (Or.inl ⟨zz22,by intro w hSw; go_simp⟩) hS ?_
     (try simp only [Act.put,List.getElem_toArray,List.getElem_cons_succ,List.getElem_cons_zero,List.setIfInBounds_toArray,List.set_cons_zero,List.set_cons_succ])
     refine wpAnyH_take (i:=12) (v:=.slice (some ⟨bq,oq,none⟩) y.pairs.length m3) rfl (by as_aux_lemma => kernel_rfl) (by as_aux_lemma => kernel_rfl) (by as_aux_lemma => kernel_rfl) (fun _ _ _ h => h) (Or.inl ⟨zz22,by intro Q hSw; have e_:=HN5.out Q hSw; go_simp⟩) hS ?_
     (try simp only [Act.put,List.getElem_toArray,List.getElem_cons_succ,List.getElem_cons_zero,List.setIfInBounds_toArray,List.set_cons_zero,List.set_cons_succ])
     refine wpAnyH_take (i:=13) (v:=.int .i64 (k : Int)) rfl (by as_aux_lemma => kernel_rfl) (by as_aux_lemma => kernel_rfl) (by as_aux_lemma => kernel_rfl) (fun _ _ _ h => h) (ya3 zz22 _ rfl zz22) hS ?_
     (try simp only [Act.put,List.getElem_toArray,List.getElem_cons_succ,List.getElem_cons_zero,List.setIfInBounds_toArray,List.set_cons_zero,List.set_cons_succ])
     refine wpAnyH_take (i:=14) (v:=.pointer (some ⟨bq,oq + k * 16,none⟩)) rfl (by as_aux_lemma => kernel_rfl) (by as_aux_lemma => kernel_rfl) (by as_aux_lemma => kernel_rfl) (fun _ _ _ h => h) (Or.inl ⟨zz22,by intro w hSw; go_simp⟩) hS ?_
     (try simp only [Act.put,List.getElem_toArray,List.getElem_cons_succ,List.getElem_cons_zero,List.setIfInBounds_toArray,List.set_cons_zero,List.set_cons_succ])
     refine wpAnyH_take (i:=15) (v:=.pointer (some ⟨bq,oq + k * 16 + 8,none⟩)) rfl (by as_aux_lemma => kernel_rfl) (by as_aux_lemma => kernel_rfl) (by as_aux_lemma => kernel_rfl) (fun _ _ _ h => h) (Or.inl ⟨zz22,by intro w hSw; go_simp⟩) hS ?_
     (try simp only [Act.put,List.getElem_toArray,List.getElem_cons_succ,List.getElem_cons_zero,List.setIfInBounds_toArray,List.set_cons_zero,List.set_cons_succ])
     refine wpAnyH_take (i:=16) (v:=.agg #[.int .i64 u.b.head.house, .int .i64 u.b.head.epoch, .string u.b.head.root, .string u.b.head.prev, .int .i64 u.b.sig.at_, .slice K0 u.b.sig.open_.length b0, .slice K1 u.b.sig.shut.length b1, .slice K2 u.b.sig.sides.length b2]) rfl (by as_aux_lemma => kernel_rfl) (by as_aux_lemma => kernel_rfl) (by as_aux_lemma => kernel_rfl) (fun _ _ _ h => h) (ya7 zz22 _ _ rfl rfl (fun _ h => HA4.out _ h) Tryz.underlying76 k_sl rfl) hS ?_
     (try simp only [Act.put,List.getElem_toArray,List.getElem_cons_succ,List.getElem_cons_zero,List.setIfInBounds_toArray,List.set_cons_zero,List.set_cons_succ])
     refine wpAnyH_ready (rs:=[4,17]) (by as_aux_lemma => kernel_rfl) zz17 (AllReadyH.cons rfl (fun K hK => ?_) (AllReadyH.cons rfl (fun K hK => ?_) AllReadyH.nil))
     ·skip
      clear hS
      refine wp_buildTwo rfl _ _ rfl rfl rfl ?_
      have hl_ : Z.heap.size ≤ Z.drew.heap.size:=HV.out.size
      obtain ⟨wb11,hwa⟩ : ∃ W,Z.drew.alloc (.cells #[.int .i64 s.a.head.house, .int .i64 s.a.head.epoch, .string s.a.head.root, .string s.a.head.prev, .int .i64 s.a.sig.at_, .slice F0 s.a.sig.open_.length g0, .slice F1 s.a.sig.shut.length g1, .slice F2 s.a.sig.sides.length g2, .int .i64 s.b.head.house, .int .i64 s.b.head.epoch, .string s.b.head.root, .string s.b.head.prev, .int .i64 s.b.sig.at_, .slice H0 s.b.sig.open_.length i0, .slice H1 s.b.sig.shut.length i1, .slice H2 s.b.sig.sides.length i2] 76) = W:=⟨_,rfl⟩
      have RWs : Hid (Row false wb11 (some ⟨Z.drew.heap.size,0,none⟩) 2 [s.a,s.b] All):=zd zz25
      have hb_ : Below Z.drew.heap.size Z.drew wb11:=zz19
      replace HV : Hid (Below Z.heap.size Z wb11):=zd (Below.step (a:=Z) HV.out hb_)
      rw [hwa]
      clear hwa
      clear hb_
      refine hK.out _ _ HV.out (fun hS => ?_)
      clear hK K
      (try simp only [Act.put,List.getElem_toArray,List.getElem_cons_succ,List.getElem_cons_zero,List.setIfInBounds_toArray,List.set_cons_zero,List.set_cons_succ])
      refine wpAnyH_ready (rs:=[17]) (by as_aux_lemma => kernel_rfl) zz17 (AllReadyH.cons rfl (fun K hK => ?_) AllReadyH.nil)
      clear hS
      refine wp_buildTwo rfl _ _ rfl rfl rfl ?_
      have hl_ : Z.heap.size ≤ wb11.heap.size:=HV.out.size
      obtain ⟨wb21,hwa⟩ : ∃ W,wb11.alloc (.cells #[.int .i64 u.a.head.house, .int .i64 u.a.head.epoch, .string u.a.head.root, .string u.a.head.prev, .int .i64 u.a.sig.at_, .slice G0 u.a.sig.open_.length a0, .slice G1 u.a.sig.shut.length a1, .slice G2 u.a.sig.sides.length a2, .int .i64 u.b.head.house, .int .i64 u.b.head.epoch, .string u.b.head.root, .string u.b.head.prev, .int .i64 u.b.sig.at_, .slice K0 u.b.sig.open_.length b0, .slice K1 u.b.sig.shut.length b1, .slice K2 u.b.sig.sides.length b2] 76) = W:=⟨_,rfl⟩
      have RWu : Hid (Row false wb21 (some ⟨wb11.heap.size,0,none⟩) 2 [u.a,u.b] All):=zd zz26
      have hb_ : Below wb11.heap.size wb11 wb21:=zz19
      replace HV : Hid (Below Z.heap.size Z wb21):=zd (Below.step (a:=Z) HV.out hb_)
      rw [hwa]
      clear hwa
      replace RWs:=zd (Row.later RWs.out hb_)
      clear hb_
      refine hK.out _ _ HV.out (fun hS => ?_)
      clear hK K
      (try simp only [Act.put,List.getElem_toArray,List.getElem_cons_succ,List.getElem_cons_zero,List.setIfInBounds_toArray,List.set_cons_zero,List.set_cons_succ])
      refine wpAnyH_ready (rs:=[18]) (by as_aux_lemma => kernel_rfl) zz17 (AllReadyH.cons rfl (fun K hK => ?_) AllReadyH.nil)
      (try rw [if_pos zz22])
      clear hS
      go_simp
      have hl2_ : Z.heap.size ≤ wb21.heap.size:=HV.out.size
      have HCC:=zd (spec_sameSeals wb21 [s.a,s.b] _ 2 All RWs.out [u.a,u.b] _ 2 All RWu.out (show 2 ≤ 4000000000 by decide) HG2.out)
      rw [HEQ.out] at HCC
      refine HCC.out.mono ?_
      rintro e_ wc1s ⟨rfl,hb_⟩
      replace HV : Hid (Below Z.heap.size Z wc1s):=zd (Below.step (a:=Z) HV.out hb_)
      clear hb_ HCC RWs RWu
      refine hK.out _ _ HV.out (fun hS => ?_)
      clear hK K
      (try simp only [Act.put,List.getElem_toArray,List.getElem_cons_succ,List.getElem_cons_zero,List.setIfInBounds_toArray,List.set_cons_zero,List.set_cons_succ])
      refine wpAnyH_take (i:=19) (v:=.bool true) rfl (by as_aux_lemma => kernel_rfl) (by as_aux_lemma => kernel_rfl) (by as_aux_lemma => kernel_rfl) (fun _ _ _ h => h) (Or.inl ⟨zz22,by intro w hSw; go_simp⟩) hS ?_
      (try simp only [Act.put,List.getElem_toArray,List.getElem_cons_succ,List.getElem_cons_zero,List.setIfInBounds_toArray,List.set_cons_zero,List.set_cons_succ])
      refine wpAnyH_take (i:=20) (v:=.bool true) rfl (by as_aux_lemma => kernel_rfl) (by as_aux_lemma => kernel_rfl) (by as_aux_lemma => kernel_rfl) (fun _ _ _ h => h) (ya3 zz22 _ rfl zz22) hS ?_
      (try simp only [Act.put,List.getElem_toArray,List.getElem_cons_succ,List.getElem_cons_zero,List.setIfInBounds_toArray,List.set_cons_zero,List.set_cons_succ])
      refine wpAnyH_take (i:=21) (v:=undef) rfl (by as_aux_lemma => kernel_rfl) (by as_aux_lemma => kernel_rfl) (by as_aux_lemma => kernel_rfl) (fun _ _ _ h => h) (Or.inr ⟨zz22,rfl⟩) hS ?_
      (try simp only [Act.put,List.getElem_toArray,List.getElem_cons_succ,List.getElem_cons_zero,List.setIfInBounds_toArray,List.set_cons_zero,List.set_cons_succ])
      refine wpAnyH_take (i:=22) (v:=undef) rfl (by as_aux_lemma => kernel_rfl) (by as_aux_lemma => kernel_rfl) (by as_aux_lemma => kernel_rfl) (fun _ _ _ h => h) (Or.inr ⟨zz22,rfl⟩) hS ?_
      (try simp only [Act.put,List.getElem_toArray,List.getElem_cons_succ,List.getElem_cons_zero,List.setIfInBounds_toArray,List.set_cons_zero,List.set_cons_succ])
      refine wpAnyH_take (i:=23) (v:=undef) rfl (by as_aux_lemma => kernel_rfl) (by as_aux_lemma => kernel_rfl) (by as_aux_lemma => kernel_rfl) (fun _ _ _ h => h) (Or.inr ⟨zz22,rfl⟩) hS ?_
      (try simp only [Act.put,List.getElem_toArray,List.getElem_cons_succ,List.getElem_cons_zero,List.setIfInBounds_toArray,List.set_cons_zero,List.set_cons_succ])
      refine wpAnyH_take (i:=24) (v:=undef) rfl (by as_aux_lemma => kernel_rfl) (by as_aux_lemma => kernel_rfl) (by as_aux_lemma => kernel_rfl) (fun _ _ _ h => h) (Or.inr ⟨zz22,rfl⟩) hS ?_
      (try simp only [Act.put,List.getElem_toArray,List.getElem_cons_succ,List.getElem_cons_zero,List.setIfInBounds_toArray,List.set_cons_zero,List.set_cons_succ])
      refine wpAnyH_take (i:=25) (v:=undef) rfl (by as_aux_lemma => kernel_rfl) (by as_aux_lemma => kernel_rfl) (by as_aux_lemma => kernel_rfl) (fun _ _ _ h => h) (Or.inr ⟨zz22,rfl⟩) hS ?_
      (try simp only [Act.put,List.getElem_toArray,List.getElem_cons_succ,List.getElem_cons_zero,List.setIfInBounds_toArray,List.set_cons_zero,List.set_cons_succ])
      refine wpAnyH_take (i:=26) (v:=.bool true) rfl (by as_aux_lemma => kernel_rfl) (by as_aux_lemma => kernel_rfl) (by as_aux_lemma => kernel_rfl) (fun _ _ _ h => h) (Or.inl ⟨zz22,by intro w hSw; go_simp⟩) hS ?_
      (try simp only [Act.put,List.getElem_toArray,List.getElem_cons_succ,List.getElem_cons_zero,List.setIfInBounds_toArray,List.set_cons_zero,List.set_cons_succ])
      refine wpAnyH_take (i:=27) (v:=.bool true) rfl (by as_aux_lemma => kernel_rfl) (by as_aux_lemma => kernel_rfl) (by as_aux_lemma => kernel_rfl) (fun _ _ _ h => h) (ya3 zz22 _ rfl zz22) hS ?_
      (try simp only [Act.put,List.getElem_toArray,List.getElem_cons_succ,List.getElem_cons_zero,List.setIfInBounds_toArray,List.set_cons_zero,List.set_cons_succ])
      refine wpAnyH_take (i:=28) (v:=undef) rfl (by as_aux_lemma => kernel_rfl) (by as_aux_lemma => kernel_rfl) (by as_aux_lemma => kernel_rfl) (fun _ _ _ h => h) (Or.inr ⟨zz22,rfl⟩) hS ?_
      (try simp only [Act.put,List.getElem_toArray,List.getElem_cons_succ,List.getElem_cons_zero,List.setIfInBounds_toArray,List.set_cons_zero,List.set_cons_succ])
      refine wpAnyH_take (i:=29) (v:=undef) rfl (by as_aux_lemma => kernel_rfl) (by as_aux_lemma => kernel_rfl) (by as_aux_lemma => kernel_rfl) (fun _ _ _ h => h) (Or.inr ⟨zz22,rfl⟩) hS ?_
      (try simp only [Act.put,List.getElem_toArray,List.getElem_cons_succ,List.getElem_cons_zero,List.setIfInBounds_toArray,List.set_cons_zero,List.set_cons_succ])
      refine wpAnyH_take (i:=30) (v:=undef) rfl (by as_aux_lemma => kernel_rfl) (by as_aux_lemma => kernel_rfl) (by as_aux_lemma => kernel_rfl) (fun _ _ _ h => h) (Or.inr ⟨zz22,rfl⟩) hS ?_
      (try simp only [Act.put,List.getElem_toArray,List.getElem_cons_succ,List.getElem_cons_zero,List.setIfInBounds_toArray,List.set_cons_zero,List.set_cons_succ])
      refine wpAnyH_take (i:=31) (v:=undef) rfl (by as_aux_lemma => kernel_rfl) (by as_aux_lemma => kernel_rfl) (by as_aux_lemma => kernel_rfl) (fun _ _ _ h => h) (Or.inr ⟨zz22,rfl⟩) hS ?_
      (try simp only [Act.put,List.getElem_toArray,List.getElem_cons_succ,List.getElem_cons_zero,List.setIfInBounds_toArray,List.set_cons_zero,List.set_cons_succ])
      refine wpAnyH_take (i:=32) (v:=undef) rfl (by as_aux_lemma => kernel_rfl) (by as_aux_lemma => kernel_rfl) (by as_aux_lemma => kernel_rfl) (fun _ _ _ h => h) (Or.inr ⟨zz22,rfl⟩) hS ?_
      (try simp only [Act.put,List.getElem_toArray,List.getElem_cons_succ,List.getElem_cons_zero,List.setIfInBounds_toArray,List.set_cons_zero,List.set_cons_succ])
      refine wpAnyH_take (i:=33) (v:=undef) rfl (by as_aux_lemma => kernel_rfl) (by as_aux_lemma => kernel_rfl) (by as_aux_lemma => kernel_rfl) (fun _ _ _ h => h) (Or.inr ⟨zz22,rfl⟩) hS ?_
      (try simp only [Act.put,List.getElem_toArray,List.getElem_cons_succ,List.getElem_cons_zero,List.setIfInBounds_toArray,List.set_cons_zero,List.set_cons_succ])
      refine wpAnyH_take (i:=34) (v:=undef) rfl (by as_aux_lemma => kernel_rfl) (by as_aux_lemma => kernel_rfl) (by as_aux_lemma => kernel_rfl) (fun _ _ _ h => h) (Or.inr ⟨zz22,rfl⟩) hS ?_
      (try simp only [Act.put,List.getElem_toArray,List.getElem_cons_succ,List.getElem_cons_zero,List.setIfInBounds_toArray,List.set_cons_zero,List.set_cons_succ])
      refine wpAnyH_take (i:=35) (v:=.bool true) rfl (by as_aux_lemma => kernel_rfl) (by as_aux_lemma => kernel_rfl) (by as_aux_lemma => kernel_rfl) (fun _ _ _ h => h) (Or.inl ⟨zz22,by intro w hSw; go_simp⟩) hS ?_
      (try simp only [Act.put,List.getElem_toArray,List.getElem_cons_succ,List.getElem_cons_zero,List.setIfInBounds_toArray,List.set_cons_zero,List.set_cons_succ])
      refine wpAnyH_take (i:=36) (v:=.bool true) rfl (by as_aux_lemma => kernel_rfl) (by as_aux_lemma => kernel_rfl) (by as_aux_lemma => kernel_rfl) (fun _ _ _ h => h) (ya3 zz22 _ rfl zz22) hS ?_
      (try simp only [Act.put,List.getElem_toArray,List.getElem_cons_succ,List.getElem_cons_zero,List.setIfInBounds_toArray,List.set_cons_zero,List.set_cons_succ])
      refine wpAnyH_take (i:=37) (v:=undef) rfl (by as_aux_lemma => kernel_rfl) (by as_aux_lemma => kernel_rfl) (by as_aux_lemma => kernel_rfl) (fun _ _ _ h => h) (Or.inr ⟨zz22,rfl⟩) hS ?_
      (try simp only [Act.put,List.getElem_toArray,List.getElem_cons_succ,List.getElem_cons_zero,List.setIfInBounds_toArray,List.set_cons_zero,List.set_cons_succ])
      refine wpAnyH_take (i:=38) (v:=undef) rfl (by as_aux_lemma => kernel_rfl) (by as_aux_lemma => kernel_rfl) (by as_aux_lemma => kernel_rfl) (fun _ _ _ h => h) (Or.inr ⟨zz22,rfl⟩) hS ?_
      (try simp only [Act.put,List.getElem_toArray,List.getElem_cons_succ,List.getElem_cons_zero,List.setIfInBounds_toArray,List.set_cons_zero,List.set_cons_succ])
      refine wpAnyH_take (i:=39) (v:=undef) rfl (by as_aux_lemma => kernel_rfl) (by as_aux_lemma => kernel_rfl) (by as_aux_lemma => kernel_rfl) (fun _ _ _ h => h) (Or.inr ⟨zz22,rfl⟩) hS ?_
      (try simp only [Act.put,List.getElem_toArray,List.getElem_cons_succ,List.getElem_cons_zero,List.setIfInBounds_toArray,List.set_cons_zero,List.set_cons_succ])
      refine wpAnyH_take (i:=40) (v:=undef) rfl (by as_aux_lemma => kernel_rfl) (by as_aux_lemma => kernel_rfl) (by as_aux_lemma => kernel_rfl) (fun _ _ _ h => h) (Or.inr ⟨zz22,rfl⟩) hS ?_
      (try simp only [Act.put,List.getElem_toArray,List.getElem_cons_succ,List.getElem_cons_zero,List.setIfInBounds_toArray,List.set_cons_zero,List.set_cons_succ])
      refine wpAnyH_take (i:=41) (v:=undef) rfl (by as_aux_lemma => kernel_rfl) (by as_aux_lemma => kernel_rfl) (by as_aux_lemma => kernel_rfl) (fun _ _ _ h => h) (Or.inr ⟨zz22,rfl⟩) hS ?_
      (try simp only [Act.put,List.getElem_toArray,List.getElem_cons_succ,List.getElem_cons_zero,List.setIfInBounds_toArray,List.set_cons_zero,List.set_cons_succ])
      refine wpAnyH_take (i:=42) (v:=undef) rfl (by as_aux_lemma => kernel_rfl) (by as_aux_lemma => kernel_rfl) (by as_aux_lemma => kernel_rfl) (fun _ _ _ h => h) (Or.inr ⟨zz22,rfl⟩) hS ?_
      (try simp only [Act.put,List.getElem_toArray,List.getElem_cons_succ,List.getElem_cons_zero,List.setIfInBounds_toArray,List.set_cons_zero,List.set_cons_succ])
      refine wpAnyH_take (i:=43) (v:=undef) rfl (by as_aux_lemma => kernel_rfl) (by as_aux_lemma => kernel_rfl) (by as_aux_lemma => kernel_rfl) (fun _ _ _ h => h) (Or.inr ⟨zz22,rfl⟩) hS ?_
      (try simp only [Act.put,List.getElem_toArray,List.getElem_cons_succ,List.getElem_cons_zero,List.setIfInBounds_toArray,List.set_cons_zero,List.set_cons_succ])
      refine wpAnyH_take (i:=44) (v:=undef) rfl (by as_aux_lemma => kernel_rfl) (by as_aux_lemma => kernel_rfl) (by as_aux_lemma => kernel_rfl) (fun _ _ _ h => h) (Or.inr ⟨zz22,rfl⟩) hS ?_
      (try simp only [Act.put,List.getElem_toArray,List.getElem_cons_succ,List.getElem_cons_zero,List.setIfInBounds_toArray,List.set_cons_zero,List.set_cons_succ])
      refine wpAnyH_take (i:=45) (v:=.bool true) rfl (by as_aux_lemma => kernel_rfl) (by as_aux_lemma => kernel_rfl) (by as_aux_lemma => kernel_rfl) (fun _ _ _ h => h) (Or.inl ⟨zz22,by intro w hSw; go_simp⟩) hS ?_
      (try simp only [Act.put,List.getElem_toArray,List.getElem_cons_succ,List.getElem_cons_zero,List.setIfInBounds_toArray,List.set_cons_zero,List.set_cons_succ])
      refine wpAnyH_done (by as_aux_lemma => kernel_rfl) ?_ _
      clear hS
      have HB7:=zd (HBZ.out.trans (HV.out.mono HBZ.out.size))
      go_wp2_with (fail)
      go_ret
      exact ⟨ya1 zz24,HBV.out.trans (HB7.out.mono HBV.out.size)⟩
     ·skip
      clear hS
      refine wp_buildTwo rfl _ _ rfl rfl rfl ?_
      have hl_ : Z.heap.size ≤ Z.drew.heap.size:=HV.out.size
      obtain ⟨wb31,hwa⟩ : ∃ W,Z.drew.alloc (.cells #[.int .i64 u.a.head.house, .int .i64 u.a.head.epoch, .string u.a.head.root, .string u.a.head.prev, .int .i64 u.a.sig.at_, .slice G0 u.a.sig.open_.length a0, .slice G1 u.a.sig.shut.length a1, .slice G2 u.a.sig.sides.length a2, .int .i64 u.b.head.house, .int .i64 u.b.head.epoch, .string u.b.head.root, .string u.b.head.prev, .int .i64 u.b.sig.at_, .slice K0 u.b.sig.open_.length b0, .slice K1 u.b.sig.shut.length b1, .slice K2 u.b.sig.sides.length b2] 76) = W:=⟨_,rfl⟩
      have RWu : Hid (Row false wb31 (some ⟨Z.drew.heap.size,0,none⟩) 2 [u.a,u.b] All):=zd zz26
      have hb_ : Below Z.drew.heap.size Z.drew wb31:=zz19
      replace HV : Hid (Below Z.heap.size Z wb31):=zd (Below.step (a:=Z) HV.out hb_)
      rw [hwa]
      clear hwa
      clear hb_
      refine hK.out _ _ HV.out (fun hS => ?_)
      clear hK K
      (try simp only [Act.put,List.getElem_toArray,List.getElem_cons_succ,List.getElem_cons_zero,List.setIfInBounds_toArray,List.set_cons_zero,List.set_cons_succ])
      refine wpAnyH_ready (rs:=[4]) (by as_aux_lemma => kernel_rfl) zz17 (AllReadyH.cons rfl (fun K hK => ?_) AllReadyH.nil)
      clear hS
      refine wp_buildTwo rfl _ _ rfl rfl rfl ?_
      have hl_ : Z.heap.size ≤ wb31.heap.size:=HV.out.size
      obtain ⟨wb41,hwa⟩ : ∃ W,wb31.alloc (.cells #[.int .i64 s.a.head.house, .int .i64 s.a.head.epoch, .string s.a.head.root, .string s.a.head.prev, .int .i64 s.a.sig.at_, .slice F0 s.a.sig.open_.length g0, .slice F1 s.a.sig.shut.length g1, .slice F2 s.a.sig.sides.length g2, .int .i64 s.b.head.house, .int .i64 s.b.head.epoch, .string s.b.head.root, .string s.b.head.prev, .int .i64 s.b.sig.at_, .slice H0 s.b.sig.open_.length i0, .slice H1 s.b.sig.shut.length i1, .slice H2 s.b.sig.sides.length i2] 76) = W:=⟨_,rfl⟩
      have RWs : Hid (Row false wb41 (some ⟨wb31.heap.size,0,none⟩) 2 [s.a,s.b] All):=zd zz25
      have hb_ : Below wb31.heap.size wb31 wb41:=zz19
      replace HV : Hid (Below Z.heap.size Z wb41):=zd (Below.step (a:=Z) HV.out hb_)
      rw [hwa]
      clear hwa
      replace RWu:=zd (Row.later RWu.out hb_)
      clear hb_
      refine hK.out _ _ HV.out (fun hS => ?_)
      clear hK K
      (try simp only [Act.put,List.getElem_toArray,List.getElem_cons_succ,List.getElem_cons_zero,List.setIfInBounds_toArray,List.set_cons_zero,List.set_cons_succ])
      refine wpAnyH_ready (rs:=[18]) (by as_aux_lemma => kernel_rfl) zz17 (AllReadyH.cons rfl (fun K hK => ?_) AllReadyH.nil)
      (try rw [if_pos zz22])
      clear hS
      go_simp
      have hl2_ : Z.heap.size ≤ wb41.heap.size:=HV.out.size
      have HCC:=zd (spec_sameSeals wb41 [s.a,s.b] _ 2 All RWs.out [u.a,u.b] _ 2 All RWu.out (show 2 ≤ 4000000000 by decide) HG2.out)
      rw [HEQ.out] at HCC
      refine HCC.out.mono ?_
      rintro e_ wc1u ⟨rfl,hb_⟩
      replace HV : Hid (Below Z.heap.size Z wc1u):=zd (Below.step (a:=Z) HV.out hb_)
      clear hb_ HCC RWs RWu
      refine hK.out _ _ HV.out (fun hS => ?_)
      clear hK K
      (try simp only [Act.put,List.getElem_toArray,List.getElem_cons_succ,List.getElem_cons_zero,List.setIfInBounds_toArray,List.set_cons_zero,List.set_cons_succ])
      refine wpAnyH_take (i:=19) (v:=.bool true) rfl (by as_aux_lemma => kernel_rfl) (by as_aux_lemma => kernel_rfl) (by as_aux_lemma => kernel_rfl) (fun _ _ _ h => h) (Or.inl ⟨zz22,by intro w hSw; go_simp⟩) hS ?_
      (try simp only [Act.put,List.getElem_toArray,List.getElem_cons_succ,List.getElem_cons_zero,List.setIfInBounds_toArray,List.set_cons_zero,List.set_cons_succ])
      refine wpAnyH_take (i:=20) (v:=.bool true) rfl (by as_aux_lemma => kernel_rfl) (by as_aux_lemma => kernel_rfl) (by as_aux_lemma => kernel_rfl) (fun _ _ _ h => h) (ya3 zz22 _ rfl zz22) hS ?_
      (try simp only [Act.put,List.getElem_toArray,List.getElem_cons_succ,List.getElem_cons_zero,List.setIfInBounds_toArray,List.set_cons_zero,List.set_cons_succ])
      refine wpAnyH_take (i:=21) (v:=undef) rfl (by as_aux_lemma => kernel_rfl) (by as_aux_lemma => kernel_rfl) (by as_aux_lemma => kernel_rfl) (fun _ _ _ h => h) (Or.inr ⟨zz22,rfl⟩) hS ?_
      (try simp only [Act.put,List.getElem_toArray,List.getElem_cons_succ,List.getElem_cons_zero,List.setIfInBounds_toArray,List.set_cons_zero,List.set_cons_succ])
      refine wpAnyH_take (i:=22) (v:=undef) rfl (by as_aux_lemma => kernel_rfl) (by as_aux_lemma => kernel_rfl) (by as_aux_lemma => kernel_rfl) (fun _ _ _ h => h) (Or.inr ⟨zz22,rfl⟩) hS ?_
      (try simp only [Act.put,List.getElem_toArray,List.getElem_cons_succ,List.getElem_cons_zero,List.setIfInBounds_toArray,List.set_cons_zero,List.set_cons_succ])
      refine wpAnyH_take (i:=23) (v:=undef) rfl (by as_aux_lemma => kernel_rfl) (by as_aux_lemma => kernel_rfl) (by as_aux_lemma => kernel_rfl) (fun _ _ _ h => h) (Or.inr ⟨zz22,rfl⟩) hS ?_
      (try simp only [Act.put,List.getElem_toArray,List.getElem_cons_succ,List.getElem_cons_zero,List.setIfInBounds_toArray,List.set_cons_zero,List.set_cons_succ])
      refine wpAnyH_take (i:=24) (v:=undef) rfl (by as_aux_lemma => kernel_rfl) (by as_aux_lemma => kernel_rfl) (by as_aux_lemma => kernel_rfl) (fun _ _ _ h => h) (Or.inr ⟨zz22,rfl⟩) hS ?_
      (try simp only [Act.put,List.getElem_toArray,List.getElem_cons_succ,List.getElem_cons_zero,List.setIfInBounds_toArray,List.set_cons_zero,List.set_cons_succ])
      refine wpAnyH_take (i:=25) (v:=undef) rfl (by as_aux_lemma => kernel_rfl) (by as_aux_lemma => kernel_rfl) (by as_aux_lemma => kernel_rfl) (fun _ _ _ h => h) (Or.inr ⟨zz22,rfl⟩) hS ?_
      (try simp only [Act.put,List.getElem_toArray,List.getElem_cons_succ,List.getElem_cons_zero,List.setIfInBounds_toArray,List.set_cons_zero,List.set_cons_succ])
      refine wpAnyH_take (i:=26) (v:=.bool true) rfl (by as_aux_lemma => kernel_rfl) (by as_aux_lemma => kernel_rfl) (by as_aux_lemma => kernel_rfl) (fun _ _ _ h => h) (Or.inl ⟨zz22,by intro w hSw; go_simp⟩) hS ?_
      (try simp only [Act.put,List.getElem_toArray,List.getElem_cons_succ,List.getElem_cons_zero,List.setIfInBounds_toArray,List.set_cons_zero,List.set_cons_succ])
      refine wpAnyH_take (i:=27) (v:=.bool true) rfl (by as_aux_lemma => kernel_rfl) (by as_aux_lemma => kernel_rfl) (by as_aux_lemma => kernel_rfl) (fun _ _ _ h => h) (ya3 zz22 _ rfl zz22) hS ?_
      (try simp only [Act.put,List.getElem_toArray,List.getElem_cons_succ,List.getElem_cons_zero,List.setIfInBounds_toArray,List.set_cons_zero,List.set_cons_succ])
      refine wpAnyH_take (i:=28) (v:=undef) rfl (by as_aux_lemma => kernel_rfl) (by as_aux_lemma => kernel_rfl) (by as_aux_lemma => kernel_rfl) (fun _ _ _ h => h) (Or.inr ⟨zz22,rfl⟩) hS ?_
      (try simp only [Act.put,List.getElem_toArray,List.getElem_cons_succ,List.getElem_cons_zero,List.setIfInBounds_toArray,List.set_cons_zero,List.set_cons_succ])
      refine wpAnyH_take (i:=29) (v:=undef) rfl (by as_aux_lemma => kernel_rfl) (by as_aux_lemma => kernel_rfl) (by as_aux_lemma => kernel_rfl) (fun _ _ _ h => h) (Or.inr ⟨zz22,rfl⟩) hS ?_
      (try simp only [Act.put,List.getElem_toArray,List.getElem_cons_succ,List.getElem_cons_zero,List.setIfInBounds_toArray,List.set_cons_zero,List.set_cons_succ])
      refine wpAnyH_take (i:=30) (v:=undef) rfl (by as_aux_lemma => kernel_rfl) (by as_aux_lemma => kernel_rfl) (by as_aux_lemma => kernel_rfl) (fun _ _ _ h => h) (Or.inr ⟨zz22,rfl⟩) hS ?_
      (try simp only [Act.put,List.getElem_toArray,List.getElem_cons_succ,List.getElem_cons_zero,List.setIfInBounds_toArray,List.set_cons_zero,List.set_cons_succ])
      refine wpAnyH_take (i:=31) (v:=undef) rfl (by as_aux_lemma => kernel_rfl) (by as_aux_lemma => kernel_rfl) (by as_aux_lemma => kernel_rfl) (fun _ _ _ h => h) (Or.inr ⟨zz22,rfl⟩) hS ?_
      (try simp only [Act.put,List.getElem_toArray,List.getElem_cons_succ,List.getElem_cons_zero,List.setIfInBounds_toArray,List.set_cons_zero,List.set_cons_succ])
      refine wpAnyH_take (i:=32) (v:=undef) rfl (by as_aux_lemma => kernel_rfl) (by as_aux_lemma => kernel_rfl) (by as_aux_lemma => kernel_rfl) (fun _ _ _ h => h) (Or.inr ⟨zz22,rfl⟩) hS ?_
      (try simp only [Act.put,List.getElem_toArray,List.getElem_cons_succ,List.getElem_cons_zero,List.setIfInBounds_toArray,List.set_cons_zero,List.set_cons_succ])
      refine wpAnyH_take (i:=33) (v:=undef) rfl (by as_aux_lemma => kernel_rfl) (by as_aux_lemma => kernel_rfl) (by as_aux_lemma => kernel_rfl) (fun _ _ _ h => h) (Or.inr ⟨zz22,rfl⟩) hS ?_
      (try simp only [Act.put,List.getElem_toArray,List.getElem_cons_succ,List.getElem_cons_zero,List.setIfInBounds_toArray,List.set_cons_zero,List.set_cons_succ])
      refine wpAnyH_take (i:=34) (v:=undef) rfl (by as_aux_lemma => kernel_rfl) (by as_aux_lemma => kernel_rfl) (by as_aux_lemma => kernel_rfl) (fun _ _ _ h => h) (Or.inr ⟨zz22,rfl⟩) hS ?_
      (try simp only [Act.put,List.getElem_toArray,List.getElem_cons_succ,List.getElem_cons_zero,List.setIfInBounds_toArray,List.set_cons_zero,List.set_cons_succ])
      refine wpAnyH_take (i:=35) (v:=.bool true) rfl (by as_aux_lemma => kernel_rfl) (by as_aux_lemma => kernel_rfl) (by as_aux_lemma => kernel_rfl) (fun _ _ _ h => h) (Or.inl ⟨zz22,by intro w hSw; go_simp⟩) hS ?_
      (try simp only [Act.put,List.getElem_toArray,List.getElem_cons_succ,List.getElem_cons_zero,List.setIfInBounds_toArray,List.set_cons_zero,List.set_cons_succ])
      refine wpAnyH_take (i:=36) (v:=.bool true) rfl (by as_aux_lemma => kernel_rfl) (by as_aux_lemma => kernel_rfl) (by as_aux_lemma => kernel_rfl) (fun _ _ _ h => h) (ya3 zz22 _ rfl zz22) hS ?_
      (try simp only [Act.put,List.getElem_toArray,List.getElem_cons_succ,List.getElem_cons_zero,List.setIfInBounds_toArray,List.set_cons_zero,List.set_cons_succ])
      refine wpAnyH_take (i:=37) (v:=undef) rfl (by as_aux_lemma => kernel_rfl) (by as_aux_lemma => kernel_rfl) (by as_aux_lemma => kernel_rfl) (fun _ _ _ h => h) (Or.inr ⟨zz22,rfl⟩) hS ?_
      (try simp only [Act.put,List.getElem_toArray,List.getElem_cons_succ,List.getElem_cons_zero,List.setIfInBounds_toArray,List.set_cons_zero,List.set_cons_succ])
      refine wpAnyH_take (i:=38) (v:=undef) rfl (by as_aux_lemma => kernel_rfl) (by as_aux_lemma => kernel_rfl) (by as_aux_lemma => kernel_rfl) (fun _ _ _ h => h) (Or.inr ⟨zz22,rfl⟩) hS ?_
      (try simp only [Act.put,List.getElem_toArray,List.getElem_cons_succ,List.getElem_cons_zero,List.setIfInBounds_toArray,List.set_cons_zero,List.set_cons_succ])
      refine wpAnyH_take (i:=39) (v:=undef) rfl (by as_aux_lemma => kernel_rfl) (by as_aux_lemma => kernel_rfl) (by as_aux_lemma => kernel_rfl) (fun _ _ _ h => h) (Or.inr ⟨zz22,rfl⟩) hS ?_
      (try simp only [Act.put,List.getElem_toArray,List.getElem_cons_succ,List.getElem_cons_zero,List.setIfInBounds_toArray,List.set_cons_zero,List.set_cons_succ])
      refine wpAnyH_take (i:=40) (v:=undef) rfl (by as_aux_lemma => kernel_rfl) (by as_aux_lemma => kernel_rfl) (by as_aux_lemma => kernel_rfl) (fun _ _ _ h => h) (Or.inr ⟨zz22,rfl⟩) hS ?_
      (try simp only [Act.put,List.getElem_toArray,List.getElem_cons_succ,List.getElem_cons_zero,List.setIfInBounds_toArray,List.set_cons_zero,List.set_cons_succ])
      refine wpAnyH_take (i:=41) (v:=undef) rfl (by as_aux_lemma => kernel_rfl) (by as_aux_lemma => kernel_rfl) (by as_aux_lemma => kernel_rfl) (fun _ _ _ h => h) (Or.inr ⟨zz22,rfl⟩) hS ?_
      (try simp only [Act.put,List.getElem_toArray,List.getElem_cons_succ,List.getElem_cons_zero,List.setIfInBounds_toArray,List.set_cons_zero,List.set_cons_succ])
      refine wpAnyH_take (i:=42) (v:=undef) rfl (by as_aux_lemma => kernel_rfl) (by as_aux_lemma => kernel_rfl) (by as_aux_lemma => kernel_rfl) (fun _ _ _ h => h) (Or.inr ⟨zz22,rfl⟩) hS ?_
      (try simp only [Act.put,List.getElem_toArray,List.getElem_cons_succ,List.getElem_cons_zero,List.setIfInBounds_toArray,List.set_cons_zero,List.set_cons_succ])
      refine wpAnyH_take (i:=43) (v:=undef) rfl (by as_aux_lemma => kernel_rfl) (by as_aux_lemma => kernel_rfl) (by as_aux_lemma => kernel_rfl) (fun _ _ _ h => h) (Or.inr ⟨zz22,rfl⟩) hS ?_
      (try simp only [Act.put,List.getElem_toArray,List.getElem_cons_succ,List.getElem_cons_zero,List.setIfInBounds_toArray,List.set_cons_zero,List.set_cons_succ])
      refine wpAnyH_take (i:=44) (v:=undef) rfl (by as_aux_lemma => kernel_rfl) (by as_aux_lemma => kernel_rfl) (by as_aux_lemma => kernel_rfl) (fun _ _ _ h => h) (Or.inr ⟨zz22,rfl⟩) hS ?_
      (try simp only [Act.put,List.getElem_toArray,List.getElem_cons_succ,List.getElem_cons_zero,List.setIfInBounds_toArray,List.set_cons_zero,List.set_cons_succ])
      refine wpAnyH_take (i:=45) (v:=.bool true) rfl (by as_aux_lemma => kernel_rfl) (by as_aux_lemma => kernel_rfl) (by as_aux_lemma => kernel_rfl) (fun _ _ _ h => h) (Or.inl ⟨zz22,by intro w hSw; go_simp⟩) hS ?_
      (try simp only [Act.put,List.getElem_toArray,List.getElem_cons_succ,List.getElem_cons_zero,List.setIfInBounds_toArray,List.set_cons_zero,List.set_cons_succ])
      refine wpAnyH_done (by as_aux_lemma => kernel_rfl) ?_ _
      clear hS
      have HB7:=zd (HBZ.out.trans (HV.out.mono HBZ.out.size))
      go_wp2_with (fail)
      go_ret
      exact ⟨ya1 zz24,HBV.out.trans (HB7.out.mono HBV.out.size)⟩
    have HEQ : Hid (decide ([s.a,s.b] = [u.a,u.b]) = true):=zd (decide_eq_true (pair_two.2 hpe))
    have HF2:=zd (HEN.out hpe)
    clear hpe HNE HEN
    by_cases how : s.a.head.house = x.house
    ·have hq1 : (s.a.head.house == x.house) = true:=beq_iff_eq.2 how
     have HF:=zd (HNO.out (by rw [HAT.out]; unfold otherH; rw [decide_eq_true how]; rfl))
     clear how HAT HNO
     have HV:=zd ((Below.refl Z.heap.size Z).drew)
     refine wp_region_held_drew (S:=fun W' => Below Z.heap.size Z W') (by kernel_rfl) HV.out (fun hS => ?_)
     refine wpAnyH_take (i:=0) (v:=.pointer (some ⟨bp,0,none⟩)) rfl (by as_aux_lemma => kernel_rfl) (by as_aux_lemma => kernel_rfl) (by as_aux_lemma => kernel_rfl) (fun _ _ _ h => h) (Or.inl ⟨zz22,by intro w hSw; go_simp⟩) hS ?_
     (try simp only [Act.put,List.getElem_toArray,List.getElem_cons_succ,List.getElem_cons_zero,List.setIfInBounds_toArray,List.set_cons_zero,List.set_cons_succ])
     refine wpAnyH_take (i:=1) (v:=.agg #[.int .i64 s.a.head.house, .int .i64 s.a.head.epoch, .string s.a.head.root, .string s.a.head.prev, .int .i64 s.a.sig.at_, .slice F0 s.a.sig.open_.length g0, .slice F1 s.a.sig.shut.length g1, .slice F2 s.a.sig.sides.length g2]) rfl (by as_aux_lemma => kernel_rfl) (by as_aux_lemma => kernel_rfl) (by as_aux_lemma => kernel_rfl) (fun _ _ _ h => h) (ya7 zz22 _ _ rfl rfl (fun _ h => HA1.out _ h) Tryz.underlying76 k_sl rfl) hS ?_
     (try simp only [Act.put,List.getElem_toArray,List.getElem_cons_succ,List.getElem_cons_zero,List.setIfInBounds_toArray,List.set_cons_zero,List.set_cons_succ])
     refine wpAnyH_take (i:=2) (v:=.pointer (some ⟨bp,8,none⟩)) rfl (by as_aux_lemma => kernel_rfl) (by as_aux_lemma => kernel_rfl) (by as_aux_lemma => kernel_rfl) (fun _ _ _ h => h) (Or.inl ⟨zz22,by intro w hSw; go_simp⟩) hS ?_
     (try simp only [Act.put,List.getElem_toArray,List.getElem_cons_succ,List.getElem_cons_zero,List.setIfInBounds_toArray,List.set_cons_zero,List.set_cons_succ])
     refine wpAnyH_take (i:=3) (v:=.agg #[.int .i64 s.b.head.house, .int .i64 s.b.head.epoch, .string s.b.head.root, .string s.b.head.prev, .int .i64 s.b.sig.at_, .slice H0 s.b.sig.open_.length i0, .slice H1 s.b.sig.shut.length i1, .slice H2 s.b.sig.sides.length i2]) rfl (by as_aux_lemma => kernel_rfl) (by as_aux_lemma => kernel_rfl) (by as_aux_lemma => kernel_rfl) (fun _ _ _ h => h) (ya7 zz22 _ _ rfl rfl (fun _ h => HA2.out _ h) Tryz.underlying76 k_sl rfl) hS ?_
     (try simp only [Act.put,List.getElem_toArray,List.getElem_cons_succ,List.getElem_cons_zero,List.setIfInBounds_toArray,List.set_cons_zero,List.set_cons_succ])
     refine wpAnyH_take (i:=5) (v:=.pointer (some ⟨w3.heap.size,5,none⟩)) rfl (by as_aux_lemma => kernel_rfl) (by as_aux_lemma => kernel_rfl) (by as_aux_lemma => kernel_rfl) (fun _ _ _ h => h) (Or.inl ⟨zz22,by intro w hSw; go_simp⟩) hS ?_
     (try simp only [Act.put,List.getElem_toArray,List.getElem_cons_succ,List.getElem_cons_zero,List.setIfInBounds_toArray,List.set_cons_zero,List.set_cons_succ])
     refine wpAnyH_take (i:=6) (v:=.slice (some ⟨bq,oq,none⟩) y.pairs.length m3) rfl (by as_aux_lemma => kernel_rfl) (by as_aux_lemma => kernel_rfl) (by as_aux_lemma => kernel_rfl) (fun _ _ _ h => h) (Or.inl ⟨zz22,by intro Q hSw; have e_:=HN5.out Q hSw; go_simp⟩) hS ?_
     (try simp only [Act.put,List.getElem_toArray,List.getElem_cons_succ,List.getElem_cons_zero,List.setIfInBounds_toArray,List.set_cons_zero,List.set_cons_succ])
     refine wpAnyH_take (i:=7) (v:=.int .i64 (k : Int)) rfl (by as_aux_lemma => kernel_rfl) (by as_aux_lemma => kernel_rfl) (by as_aux_lemma => kernel_rfl) (fun _ _ _ h => h) (ya3 zz22 _ rfl zz22) hS ?_
     (try simp only [Act.put,List.getElem_toArray,List.getElem_cons_succ,List.getElem_cons_zero,List.setIfInBounds_toArray,List.set_cons_zero,List.set_cons_succ])
     refine wpAnyH_take (i:=8) (v:=.pointer (some ⟨bq,oq + k * 16,none⟩)) rfl (by as_aux_lemma => kernel_rfl) (by as_aux_lemma => kernel_rfl) (by as_aux_lemma => kernel_rfl) (fun _ _ _ h => h) (Or.inl ⟨zz22,by intro w hSw; go_simp⟩) hS ?_
     (try simp only [Act.put,List.getElem_toArray,List.getElem_cons_succ,List.getElem_cons_zero,List.setIfInBounds_toArray,List.set_cons_zero,List.set_cons_succ])
     refine wpAnyH_take (i:=9) (v:=.pointer (some ⟨bq,oq + k * 16,none⟩)) rfl (by as_aux_lemma => kernel_rfl) (by as_aux_lemma => kernel_rfl) (by as_aux_lemma => kernel_rfl) (fun _ _ _ h => h) (Or.inl ⟨zz22,by intro w hSw; go_simp⟩) hS ?_
     (try simp only [Act.put,List.getElem_toArray,List.getElem_cons_succ,List.getElem_cons_zero,List.setIfInBounds_toArray,List.set_cons_zero,List.set_cons_succ])
     refine wpAnyH_take (i:=10) (v:=.agg #[.int .i64 u.a.head.house, .int .i64 u.a.head.epoch, .string u.a.head.root, .string u.a.head.prev, .int .i64 u.a.sig.at_, .slice G0 u.a.sig.open_.length a0, .slice G1 u.a.sig.shut.length a1, .slice G2 u.a.sig.sides.length a2]) rfl (by as_aux_lemma => kernel_rfl) (by as_aux_lemma => kernel_rfl) (by as_aux_lemma => kernel_rfl) (fun _ _ _ h => h) (ya7 zz22 _ _ rfl rfl (fun _ h => HA3.out _ h) Tryz.underlying76 k_sl rfl) hS ?_
     (try simp only [Act.put,List.getElem_toArray,List.getElem_cons_succ,List.getElem_cons_zero,List.setIfInBounds_toArray,List.set_cons_zero,List.set_cons_succ])
     refine wpAnyH_take (i:=11) (v:=.pointer (some ⟨w3.heap.size,5,none⟩)) rfl (by as_aux_lemma => kernel_rfl) (by as_aux_lemma => kernel_rfl) (by as_aux_lemma => kernel_rfl) (fun _ _ _ h => h) (Or.inl ⟨zz22,by intro w hSw; go_simp⟩) hS ?_
     (try simp only [Act.put,List.getElem_toArray,List.getElem_cons_succ,List.getElem_cons_zero,List.setIfInBounds_toArray,List.set_cons_zero,List.set_cons_succ])
     refine wpAnyH_take (i:=12) (v:=.slice (some ⟨bq,oq,none⟩) y.pairs.length m3) rfl (by as_aux_lemma => kernel_rfl) (by as_aux_lemma => kernel_rfl) (by as_aux_lemma => kernel_rfl) (fun _ _ _ h => h) (Or.inl ⟨zz22,by intro Q hSw; have e_:=HN5.out Q hSw; go_simp⟩) hS ?_
     (try simp only [Act.put,List.getElem_toArray,List.getElem_cons_succ,List.getElem_cons_zero,List.setIfInBounds_toArray,List.set_cons_zero,List.set_cons_succ])
     refine wpAnyH_take (i:=13) (v:=.int .i64 (k : Int)) rfl (by as_aux_lemma => kernel_rfl) (by as_aux_lemma => kernel_rfl) (by as_aux_lemma => kernel_rfl) (fun _ _ _ h => h) (ya3 zz22 _ rfl zz22) hS ?_
     (try simp only [Act.put,List.getElem_toArray,List.getElem_cons_succ,List.getElem_cons_zero,List.setIfInBounds_toArray,List.set_cons_zero,List.set_cons_succ])
     refine wpAnyH_take (i:=14) (v:=.pointer (some ⟨bq,oq + k * 16,none⟩)) rfl (by as_aux_lemma => kernel_rfl) (by as_aux_lemma => kernel_rfl) (by as_aux_lemma => kernel_rfl) (fun _ _ _ h => h) (Or.inl ⟨zz22,by intro w hSw; go_simp⟩) hS ?_
     (try simp only [Act.put,List.getElem_toArray,List.getElem_cons_succ,List.getElem_cons_zero,List.setIfInBounds_toArray,List.set_cons_zero,List.set_cons_succ])
     refine wpAnyH_take (i:=15) (v:=.pointer (some ⟨bq,oq + k * 16 + 8,none⟩)) rfl (by as_aux_lemma => kernel_rfl) (by as_aux_lemma => kernel_rfl) (by as_aux_lemma => kernel_rfl) (fun _ _ _ h => h) (Or.inl ⟨zz22,by intro w hSw; go_simp⟩) hS ?_
     (try simp only [Act.put,List.getElem_toArray,List.getElem_cons_succ,List.getElem_cons_zero,List.setIfInBounds_toArray,List.set_cons_zero,List.set_cons_succ])
     refine wpAnyH_take (i:=16) (v:=.agg #[.int .i64 u.b.head.house, .int .i64 u.b.head.epoch, .string u.b.head.root, .string u.b.head.prev, .int .i64 u.b.sig.at_, .slice K0 u.b.sig.open_.length b0, .slice K1 u.b.sig.shut.length b1, .slice K2 u.b.sig.sides.length b2]) rfl (by as_aux_lemma => kernel_rfl) (by as_aux_lemma => kernel_rfl) (by as_aux_lemma => kernel_rfl) (fun _ _ _ h => h) (ya7 zz22 _ _ rfl rfl (fun _ h => HA4.out _ h) Tryz.underlying76 k_sl rfl) hS ?_
     (try simp only [Act.put,List.getElem_toArray,List.getElem_cons_succ,List.getElem_cons_zero,List.setIfInBounds_toArray,List.set_cons_zero,List.set_cons_succ])
     refine wpAnyH_ready (rs:=[4,17]) (by as_aux_lemma => kernel_rfl) zz17 (AllReadyH.cons rfl (fun K hK => ?_) (AllReadyH.cons rfl (fun K hK => ?_) AllReadyH.nil))
     ·skip
      clear hS
      refine wp_buildTwo rfl _ _ rfl rfl rfl ?_
      have hl_ : Z.heap.size ≤ Z.drew.heap.size:=HV.out.size
      obtain ⟨wb12,hwa⟩ : ∃ W,Z.drew.alloc (.cells #[.int .i64 s.a.head.house, .int .i64 s.a.head.epoch, .string s.a.head.root, .string s.a.head.prev, .int .i64 s.a.sig.at_, .slice F0 s.a.sig.open_.length g0, .slice F1 s.a.sig.shut.length g1, .slice F2 s.a.sig.sides.length g2, .int .i64 s.b.head.house, .int .i64 s.b.head.epoch, .string s.b.head.root, .string s.b.head.prev, .int .i64 s.b.sig.at_, .slice H0 s.b.sig.open_.length i0, .slice H1 s.b.sig.shut.length i1, .slice H2 s.b.sig.sides.length i2] 76) = W:=⟨_,rfl⟩
      have RWs : Hid (Row false wb12 (some ⟨Z.drew.heap.size,0,none⟩) 2 [s.a,s.b] All):=zd zz25
      have hb_ : Below Z.drew.heap.size Z.drew wb12:=zz19
      replace HV : Hid (Below Z.heap.size Z wb12):=zd (Below.step (a:=Z) HV.out hb_)
      rw [hwa]
      clear hwa
      clear hb_
      refine hK.out _ _ HV.out (fun hS => ?_)
      clear hK K
      (try simp only [Act.put,List.getElem_toArray,List.getElem_cons_succ,List.getElem_cons_zero,List.setIfInBounds_toArray,List.set_cons_zero,List.set_cons_succ])
      refine wpAnyH_ready (rs:=[17]) (by as_aux_lemma => kernel_rfl) zz17 (AllReadyH.cons rfl (fun K hK => ?_) AllReadyH.nil)
      clear hS
      refine wp_buildTwo rfl _ _ rfl rfl rfl ?_
      have hl_ : Z.heap.size ≤ wb12.heap.size:=HV.out.size
      obtain ⟨wb22,hwa⟩ : ∃ W,wb12.alloc (.cells #[.int .i64 u.a.head.house, .int .i64 u.a.head.epoch, .string u.a.head.root, .string u.a.head.prev, .int .i64 u.a.sig.at_, .slice G0 u.a.sig.open_.length a0, .slice G1 u.a.sig.shut.length a1, .slice G2 u.a.sig.sides.length a2, .int .i64 u.b.head.house, .int .i64 u.b.head.epoch, .string u.b.head.root, .string u.b.head.prev, .int .i64 u.b.sig.at_, .slice K0 u.b.sig.open_.length b0, .slice K1 u.b.sig.shut.length b1, .slice K2 u.b.sig.sides.length b2] 76) = W:=⟨_,rfl⟩
      have RWu : Hid (Row false wb22 (some ⟨wb12.heap.size,0,none⟩) 2 [u.a,u.b] All):=zd zz26
      have hb_ : Below wb12.heap.size wb12 wb22:=zz19
      replace HV : Hid (Below Z.heap.size Z wb22):=zd (Below.step (a:=Z) HV.out hb_)
      rw [hwa]
      clear hwa
      replace RWs:=zd (Row.later RWs.out hb_)
      clear hb_
      refine hK.out _ _ HV.out (fun hS => ?_)
      clear hK K
      (try simp only [Act.put,List.getElem_toArray,List.getElem_cons_succ,List.getElem_cons_zero,List.setIfInBounds_toArray,List.set_cons_zero,List.set_cons_succ])
      refine wpAnyH_ready (rs:=[18]) (by as_aux_lemma => kernel_rfl) zz17 (AllReadyH.cons rfl (fun K hK => ?_) AllReadyH.nil)
      (try rw [if_pos zz22])
      clear hS
      go_simp
      have hl2_ : Z.heap.size ≤ wb22.heap.size:=HV.out.size
      have HCC:=zd (spec_sameSeals wb22 [s.a,s.b] _ 2 All RWs.out [u.a,u.b] _ 2 All RWu.out (show 2 ≤ 4000000000 by decide) HG2.out)
      rw [HEQ.out] at HCC
      refine HCC.out.mono ?_
      rintro e_ wc2s ⟨rfl,hb_⟩
      replace HV : Hid (Below Z.heap.size Z wc2s):=zd (Below.step (a:=Z) HV.out hb_)
      clear hb_ HCC RWs RWu
      refine hK.out _ _ HV.out (fun hS => ?_)
      clear hK K
      (try simp only [Act.put,List.getElem_toArray,List.getElem_cons_succ,List.getElem_cons_zero,List.setIfInBounds_toArray,List.set_cons_zero,List.set_cons_succ])
      refine wpAnyH_take (i:=19) (v:=.bool false) rfl (by as_aux_lemma => kernel_rfl) (by as_aux_lemma => kernel_rfl) (by as_aux_lemma => kernel_rfl) (fun _ _ _ h => h) (Or.inl ⟨zz22,by intro w hSw; go_simp⟩) hS ?_
      (try simp only [Act.put,List.getElem_toArray,List.getElem_cons_succ,List.getElem_cons_zero,List.setIfInBounds_toArray,List.set_cons_zero,List.set_cons_succ])
      refine wpAnyH_take (i:=20) (v:=.bool false) rfl (by as_aux_lemma => kernel_rfl) (by as_aux_lemma => kernel_rfl) (by as_aux_lemma => kernel_rfl) (fun _ _ _ h => h) (ya3 zz22 _ rfl zz22) hS ?_
      (try simp only [Act.put,List.getElem_toArray,List.getElem_cons_succ,List.getElem_cons_zero,List.setIfInBounds_toArray,List.set_cons_zero,List.set_cons_succ])
      refine wpAnyH_take (i:=21) (v:=.pointer (some ⟨bh,0,none⟩)) rfl (by as_aux_lemma => kernel_rfl) (by as_aux_lemma => kernel_rfl) (by as_aux_lemma => kernel_rfl) (fun _ _ _ h => h) (Or.inl ⟨zz22,by intro w hSw; go_simp⟩) hS ?_
      (try simp only [Act.put,List.getElem_toArray,List.getElem_cons_succ,List.getElem_cons_zero,List.setIfInBounds_toArray,List.set_cons_zero,List.set_cons_succ])
      refine wpAnyH_take (i:=22) (v:=.int .i64 s.a.head.house) rfl (by as_aux_lemma => kernel_rfl) (by as_aux_lemma => kernel_rfl) (by as_aux_lemma => kernel_rfl) (fun _ _ _ h => h) (Or.inl ⟨zz22,by intro Q hSw; have e_:=HH0.out Q hSw; go_simp⟩) hS ?_
      (try simp only [Act.put,List.getElem_toArray,List.getElem_cons_succ,List.getElem_cons_zero,List.setIfInBounds_toArray,List.set_cons_zero,List.set_cons_succ])
      refine wpAnyH_take (i:=23) (v:=.pointer (some ⟨w.heap.size,0,none⟩)) rfl (by as_aux_lemma => kernel_rfl) (by as_aux_lemma => kernel_rfl) (by as_aux_lemma => kernel_rfl) (fun _ _ _ h => h) (Or.inl ⟨zz22,by intro w hSw; go_simp⟩) hS ?_
      (try simp only [Act.put,List.getElem_toArray,List.getElem_cons_succ,List.getElem_cons_zero,List.setIfInBounds_toArray,List.set_cons_zero,List.set_cons_succ])
      refine wpAnyH_take (i:=24) (v:=.int .i64 x.house) rfl (by as_aux_lemma => kernel_rfl) (by as_aux_lemma => kernel_rfl) (by as_aux_lemma => kernel_rfl) (fun _ _ _ h => h) (Or.inl ⟨zz22,by intro Q hSw; have e_:=HV0.out Q hSw; go_simp⟩) hS ?_
      (try simp only [Act.put,List.getElem_toArray,List.getElem_cons_succ,List.getElem_cons_zero,List.setIfInBounds_toArray,List.set_cons_zero,List.set_cons_succ])
      refine wpAnyH_take (i:=25) (v:=.bool true) rfl (by as_aux_lemma => kernel_rfl) (by as_aux_lemma => kernel_rfl) (by as_aux_lemma => kernel_rfl) (fun _ _ _ h => h) (Or.inl ⟨zz22,by intro w hSw; go_simp⟩) hS ?_
      (try simp only [Act.put,List.getElem_toArray,List.getElem_cons_succ,List.getElem_cons_zero,List.setIfInBounds_toArray,List.set_cons_zero,List.set_cons_succ])
      refine wpAnyH_take (i:=26) (v:=.bool true) rfl (by as_aux_lemma => kernel_rfl) (by as_aux_lemma => kernel_rfl) (by as_aux_lemma => kernel_rfl) (fun _ _ _ h => h) (Or.inl ⟨zz22,by intro w hSw; go_simp⟩) hS ?_
      (try simp only [Act.put,List.getElem_toArray,List.getElem_cons_succ,List.getElem_cons_zero,List.setIfInBounds_toArray,List.set_cons_zero,List.set_cons_succ])
      refine wpAnyH_take (i:=27) (v:=.bool true) rfl (by as_aux_lemma => kernel_rfl) (by as_aux_lemma => kernel_rfl) (by as_aux_lemma => kernel_rfl) (fun _ _ _ h => h) (ya3 zz22 _ rfl zz22) hS ?_
      (try simp only [Act.put,List.getElem_toArray,List.getElem_cons_succ,List.getElem_cons_zero,List.setIfInBounds_toArray,List.set_cons_zero,List.set_cons_succ])
      refine wpAnyH_take (i:=28) (v:=undef) rfl (by as_aux_lemma => kernel_rfl) (by as_aux_lemma => kernel_rfl) (by as_aux_lemma => kernel_rfl) (fun _ _ _ h => h) (Or.inr ⟨zz22,rfl⟩) hS ?_
      (try simp only [Act.put,List.getElem_toArray,List.getElem_cons_succ,List.getElem_cons_zero,List.setIfInBounds_toArray,List.set_cons_zero,List.set_cons_succ])
      refine wpAnyH_take (i:=29) (v:=undef) rfl (by as_aux_lemma => kernel_rfl) (by as_aux_lemma => kernel_rfl) (by as_aux_lemma => kernel_rfl) (fun _ _ _ h => h) (Or.inr ⟨zz22,rfl⟩) hS ?_
      (try simp only [Act.put,List.getElem_toArray,List.getElem_cons_succ,List.getElem_cons_zero,List.setIfInBounds_toArray,List.set_cons_zero,List.set_cons_succ])
      refine wpAnyH_take (i:=30) (v:=undef) rfl (by as_aux_lemma => kernel_rfl) (by as_aux_lemma => kernel_rfl) (by as_aux_lemma => kernel_rfl) (fun _ _ _ h => h) (Or.inr ⟨zz22,rfl⟩) hS ?_
      (try simp only [Act.put,List.getElem_toArray,List.getElem_cons_succ,List.getElem_cons_zero,List.setIfInBounds_toArray,List.set_cons_zero,List.set_cons_succ])
      refine wpAnyH_take (i:=31) (v:=undef) rfl (by as_aux_lemma => kernel_rfl) (by as_aux_lemma => kernel_rfl) (by as_aux_lemma => kernel_rfl) (fun _ _ _ h => h) (Or.inr ⟨zz22,rfl⟩) hS ?_
      (try simp only [Act.put,List.getElem_toArray,List.getElem_cons_succ,List.getElem_cons_zero,List.setIfInBounds_toArray,List.set_cons_zero,List.set_cons_succ])
      refine wpAnyH_take (i:=32) (v:=undef) rfl (by as_aux_lemma => kernel_rfl) (by as_aux_lemma => kernel_rfl) (by as_aux_lemma => kernel_rfl) (fun _ _ _ h => h) (Or.inr ⟨zz22,rfl⟩) hS ?_
      (try simp only [Act.put,List.getElem_toArray,List.getElem_cons_succ,List.getElem_cons_zero,List.setIfInBounds_toArray,List.set_cons_zero,List.set_cons_succ])
      refine wpAnyH_take (i:=33) (v:=undef) rfl (by as_aux_lemma => kernel_rfl) (by as_aux_lemma => kernel_rfl) (by as_aux_lemma => kernel_rfl) (fun _ _ _ h => h) (Or.inr ⟨zz22,rfl⟩) hS ?_
      (try simp only [Act.put,List.getElem_toArray,List.getElem_cons_succ,List.getElem_cons_zero,List.setIfInBounds_toArray,List.set_cons_zero,List.set_cons_succ])
      refine wpAnyH_take (i:=34) (v:=undef) rfl (by as_aux_lemma => kernel_rfl) (by as_aux_lemma => kernel_rfl) (by as_aux_lemma => kernel_rfl) (fun _ _ _ h => h) (Or.inr ⟨zz22,rfl⟩) hS ?_
      (try simp only [Act.put,List.getElem_toArray,List.getElem_cons_succ,List.getElem_cons_zero,List.setIfInBounds_toArray,List.set_cons_zero,List.set_cons_succ])
      refine wpAnyH_take (i:=35) (v:=.bool true) rfl (by as_aux_lemma => kernel_rfl) (by as_aux_lemma => kernel_rfl) (by as_aux_lemma => kernel_rfl) (fun _ _ _ h => h) (Or.inl ⟨zz22,by intro w hSw; go_simp⟩) hS ?_
      (try simp only [Act.put,List.getElem_toArray,List.getElem_cons_succ,List.getElem_cons_zero,List.setIfInBounds_toArray,List.set_cons_zero,List.set_cons_succ])
      refine wpAnyH_take (i:=36) (v:=.bool true) rfl (by as_aux_lemma => kernel_rfl) (by as_aux_lemma => kernel_rfl) (by as_aux_lemma => kernel_rfl) (fun _ _ _ h => h) (ya3 zz22 _ rfl zz22) hS ?_
      (try simp only [Act.put,List.getElem_toArray,List.getElem_cons_succ,List.getElem_cons_zero,List.setIfInBounds_toArray,List.set_cons_zero,List.set_cons_succ])
      refine wpAnyH_take (i:=37) (v:=undef) rfl (by as_aux_lemma => kernel_rfl) (by as_aux_lemma => kernel_rfl) (by as_aux_lemma => kernel_rfl) (fun _ _ _ h => h) (Or.inr ⟨zz22,rfl⟩) hS ?_
      (try simp only [Act.put,List.getElem_toArray,List.getElem_cons_succ,List.getElem_cons_zero,List.setIfInBounds_toArray,List.set_cons_zero,List.set_cons_succ])
      refine wpAnyH_take (i:=38) (v:=undef) rfl (by as_aux_lemma => kernel_rfl) (by as_aux_lemma => kernel_rfl) (by as_aux_lemma => kernel_rfl) (fun _ _ _ h => h) (Or.inr ⟨zz22,rfl⟩) hS ?_
      (try simp only [Act.put,List.getElem_toArray,List.getElem_cons_succ,List.getElem_cons_zero,List.setIfInBounds_toArray,List.set_cons_zero,List.set_cons_succ])
      refine wpAnyH_take (i:=39) (v:=undef) rfl (by as_aux_lemma => kernel_rfl) (by as_aux_lemma => kernel_rfl) (by as_aux_lemma => kernel_rfl) (fun _ _ _ h => h) (Or.inr ⟨zz22,rfl⟩) hS ?_
      (try simp only [Act.put,List.getElem_toArray,List.getElem_cons_succ,List.getElem_cons_zero,List.setIfInBounds_toArray,List.set_cons_zero,List.set_cons_succ])
      refine wpAnyH_take (i:=40) (v:=undef) rfl (by as_aux_lemma => kernel_rfl) (by as_aux_lemma => kernel_rfl) (by as_aux_lemma => kernel_rfl) (fun _ _ _ h => h) (Or.inr ⟨zz22,rfl⟩) hS ?_
      (try simp only [Act.put,List.getElem_toArray,List.getElem_cons_succ,List.getElem_cons_zero,List.setIfInBounds_toArray,List.set_cons_zero,List.set_cons_succ])
      refine wpAnyH_take (i:=41) (v:=undef) rfl (by as_aux_lemma => kernel_rfl) (by as_aux_lemma => kernel_rfl) (by as_aux_lemma => kernel_rfl) (fun _ _ _ h => h) (Or.inr ⟨zz22,rfl⟩) hS ?_
      (try simp only [Act.put,List.getElem_toArray,List.getElem_cons_succ,List.getElem_cons_zero,List.setIfInBounds_toArray,List.set_cons_zero,List.set_cons_succ])
      refine wpAnyH_take (i:=42) (v:=undef) rfl (by as_aux_lemma => kernel_rfl) (by as_aux_lemma => kernel_rfl) (by as_aux_lemma => kernel_rfl) (fun _ _ _ h => h) (Or.inr ⟨zz22,rfl⟩) hS ?_
      (try simp only [Act.put,List.getElem_toArray,List.getElem_cons_succ,List.getElem_cons_zero,List.setIfInBounds_toArray,List.set_cons_zero,List.set_cons_succ])
      refine wpAnyH_take (i:=43) (v:=undef) rfl (by as_aux_lemma => kernel_rfl) (by as_aux_lemma => kernel_rfl) (by as_aux_lemma => kernel_rfl) (fun _ _ _ h => h) (Or.inr ⟨zz22,rfl⟩) hS ?_
      (try simp only [Act.put,List.getElem_toArray,List.getElem_cons_succ,List.getElem_cons_zero,List.setIfInBounds_toArray,List.set_cons_zero,List.set_cons_succ])
      refine wpAnyH_take (i:=44) (v:=undef) rfl (by as_aux_lemma => kernel_rfl) (by as_aux_lemma => kernel_rfl) (by as_aux_lemma => kernel_rfl) (fun _ _ _ h => h) (Or.inr ⟨zz22,rfl⟩) hS ?_
      (try simp only [Act.put,List.getElem_toArray,List.getElem_cons_succ,List.getElem_cons_zero,List.setIfInBounds_toArray,List.set_cons_zero,List.set_cons_succ])
      refine wpAnyH_take (i:=45) (v:=.bool true) rfl (by as_aux_lemma => kernel_rfl) (by as_aux_lemma => kernel_rfl) (by as_aux_lemma => kernel_rfl) (fun _ _ _ h => h) (Or.inl ⟨zz22,by intro w hSw; go_simp⟩) hS ?_
      (try simp only [Act.put,List.getElem_toArray,List.getElem_cons_succ,List.getElem_cons_zero,List.setIfInBounds_toArray,List.set_cons_zero,List.set_cons_succ])
      refine wpAnyH_done (by as_aux_lemma => kernel_rfl) ?_ _
      clear hS
      have HB7:=zd (HBZ.out.trans (HV.out.mono HBZ.out.size))
      go_wp2_with (fail)
      go_ret
      exact ⟨ya1 zz24,HBV.out.trans (HB7.out.mono HBV.out.size)⟩
     ·skip
      clear hS
      refine wp_buildTwo rfl _ _ rfl rfl rfl ?_
      have hl_ : Z.heap.size ≤ Z.drew.heap.size:=HV.out.size
      obtain ⟨wb32,hwa⟩ : ∃ W,Z.drew.alloc (.cells #[.int .i64 u.a.head.house, .int .i64 u.a.head.epoch, .string u.a.head.root, .string u.a.head.prev, .int .i64 u.a.sig.at_, .slice G0 u.a.sig.open_.length a0, .slice G1 u.a.sig.shut.length a1, .slice G2 u.a.sig.sides.length a2, .int .i64 u.b.head.house, .int .i64 u.b.head.epoch, .string u.b.head.root, .string u.b.head.prev, .int .i64 u.b.sig.at_, .slice K0 u.b.sig.open_.length b0, .slice K1 u.b.sig.shut.length b1, .slice K2 u.b.sig.sides.length b2] 76) = W:=⟨_,rfl⟩
      have RWu : Hid (Row false wb32 (some ⟨Z.drew.heap.size,0,none⟩) 2 [u.a,u.b] All):=zd zz26
      have hb_ : Below Z.drew.heap.size Z.drew wb32:=zz19
      replace HV : Hid (Below Z.heap.size Z wb32):=zd (Below.step (a:=Z) HV.out hb_)
      rw [hwa]
      clear hwa
      clear hb_
      refine hK.out _ _ HV.out (fun hS => ?_)
      clear hK K
      (try simp only [Act.put,List.getElem_toArray,List.getElem_cons_succ,List.getElem_cons_zero,List.setIfInBounds_toArray,List.set_cons_zero,List.set_cons_succ])
      refine wpAnyH_ready (rs:=[4]) (by as_aux_lemma => kernel_rfl) zz17 (AllReadyH.cons rfl (fun K hK => ?_) AllReadyH.nil)
      clear hS
      refine wp_buildTwo rfl _ _ rfl rfl rfl ?_
      have hl_ : Z.heap.size ≤ wb32.heap.size:=HV.out.size
      obtain ⟨wb42,hwa⟩ : ∃ W,wb32.alloc (.cells #[.int .i64 s.a.head.house, .int .i64 s.a.head.epoch, .string s.a.head.root, .string s.a.head.prev, .int .i64 s.a.sig.at_, .slice F0 s.a.sig.open_.length g0, .slice F1 s.a.sig.shut.length g1, .slice F2 s.a.sig.sides.length g2, .int .i64 s.b.head.house, .int .i64 s.b.head.epoch, .string s.b.head.root, .string s.b.head.prev, .int .i64 s.b.sig.at_, .slice H0 s.b.sig.open_.length i0, .slice H1 s.b.sig.shut.length i1, .slice H2 s.b.sig.sides.length i2] 76) = W:=⟨_,rfl⟩
      have RWs : Hid (Row false wb42 (some ⟨wb32.heap.size,0,none⟩) 2 [s.a,s.b] All):=zd zz25
      have hb_ : Below wb32.heap.size wb32 wb42:=zz19
      replace HV : Hid (Below Z.heap.size Z wb42):=zd (Below.step (a:=Z) HV.out hb_)
      rw [hwa]
      clear hwa
      replace RWu:=zd (Row.later RWu.out hb_)
      clear hb_
      refine hK.out _ _ HV.out (fun hS => ?_)
      clear hK K
      (try simp only [Act.put,List.getElem_toArray,List.getElem_cons_succ,List.getElem_cons_zero,List.setIfInBounds_toArray,List.set_cons_zero,List.set_cons_succ])
      refine wpAnyH_ready (rs:=[18]) (by as_aux_lemma => kernel_rfl) zz17 (AllReadyH.cons rfl (fun K hK => ?_) AllReadyH.nil)
      (try rw [if_pos zz22])
      clear hS
      go_simp
      have hl2_ : Z.heap.size ≤ wb42.heap.size:=HV.out.size
      have HCC:=zd (spec_sameSeals wb42 [s.a,s.b] _ 2 All RWs.out [u.a,u.b] _ 2 All RWu.out (show 2 ≤ 4000000000 by decide) HG2.out)
      rw [HEQ.out] at HCC
      refine HCC.out.mono ?_
      rintro e_ wc2u ⟨rfl,hb_⟩
      replace HV : Hid (Below Z.heap.size Z wc2u):=zd (Below.step (a:=Z) HV.out hb_)
      clear hb_ HCC RWs RWu
      refine hK.out _ _ HV.out (fun hS => ?_)
      clear hK K
      (try simp only [Act.put,List.getElem_toArray,List.getElem_cons_succ,List.getElem_cons_zero,List.setIfInBounds_toArray,List.set_cons_zero,List.set_cons_succ])
      refine wpAnyH_take (i:=19) (v:=.bool false) rfl (by as_aux_lemma => kernel_rfl) (by as_aux_lemma => kernel_rfl) (by as_aux_lemma => kernel_rfl) (fun _ _ _ h => h) (Or.inl ⟨zz22,by intro w hSw; go_simp⟩) hS ?_
      (try simp only [Act.put,List.getElem_toArray,List.getElem_cons_succ,List.getElem_cons_zero,List.setIfInBounds_toArray,List.set_cons_zero,List.set_cons_succ])
      refine wpAnyH_take (i:=20) (v:=.bool false) rfl (by as_aux_lemma => kernel_rfl) (by as_aux_lemma => kernel_rfl) (by as_aux_lemma => kernel_rfl) (fun _ _ _ h => h) (ya3 zz22 _ rfl zz22) hS ?_
      (try simp only [Act.put,List.getElem_toArray,List.getElem_cons_succ,List.getElem_cons_zero,List.setIfInBounds_toArray,List.set_cons_zero,List.set_cons_succ])
      refine wpAnyH_take (i:=21) (v:=.pointer (some ⟨bh,0,none⟩)) rfl (by as_aux_lemma => kernel_rfl) (by as_aux_lemma => kernel_rfl) (by as_aux_lemma => kernel_rfl) (fun _ _ _ h => h) (Or.inl ⟨zz22,by intro w hSw; go_simp⟩) hS ?_
      (try simp only [Act.put,List.getElem_toArray,List.getElem_cons_succ,List.getElem_cons_zero,List.setIfInBounds_toArray,List.set_cons_zero,List.set_cons_succ])
      refine wpAnyH_take (i:=22) (v:=.int .i64 s.a.head.house) rfl (by as_aux_lemma => kernel_rfl) (by as_aux_lemma => kernel_rfl) (by as_aux_lemma => kernel_rfl) (fun _ _ _ h => h) (Or.inl ⟨zz22,by intro Q hSw; have e_:=HH0.out Q hSw; go_simp⟩) hS ?_
      (try simp only [Act.put,List.getElem_toArray,List.getElem_cons_succ,List.getElem_cons_zero,List.setIfInBounds_toArray,List.set_cons_zero,List.set_cons_succ])
      refine wpAnyH_take (i:=23) (v:=.pointer (some ⟨w.heap.size,0,none⟩)) rfl (by as_aux_lemma => kernel_rfl) (by as_aux_lemma => kernel_rfl) (by as_aux_lemma => kernel_rfl) (fun _ _ _ h => h) (Or.inl ⟨zz22,by intro w hSw; go_simp⟩) hS ?_
      (try simp only [Act.put,List.getElem_toArray,List.getElem_cons_succ,List.getElem_cons_zero,List.setIfInBounds_toArray,List.set_cons_zero,List.set_cons_succ])
      refine wpAnyH_take (i:=24) (v:=.int .i64 x.house) rfl (by as_aux_lemma => kernel_rfl) (by as_aux_lemma => kernel_rfl) (by as_aux_lemma => kernel_rfl) (fun _ _ _ h => h) (Or.inl ⟨zz22,by intro Q hSw; have e_:=HV0.out Q hSw; go_simp⟩) hS ?_
      (try simp only [Act.put,List.getElem_toArray,List.getElem_cons_succ,List.getElem_cons_zero,List.setIfInBounds_toArray,List.set_cons_zero,List.set_cons_succ])
      refine wpAnyH_take (i:=25) (v:=.bool true) rfl (by as_aux_lemma => kernel_rfl) (by as_aux_lemma => kernel_rfl) (by as_aux_lemma => kernel_rfl) (fun _ _ _ h => h) (Or.inl ⟨zz22,by intro w hSw; go_simp⟩) hS ?_
      (try simp only [Act.put,List.getElem_toArray,List.getElem_cons_succ,List.getElem_cons_zero,List.setIfInBounds_toArray,List.set_cons_zero,List.set_cons_succ])
      refine wpAnyH_take (i:=26) (v:=.bool true) rfl (by as_aux_lemma => kernel_rfl) (by as_aux_lemma => kernel_rfl) (by as_aux_lemma => kernel_rfl) (fun _ _ _ h => h) (Or.inl ⟨zz22,by intro w hSw; go_simp⟩) hS ?_
      (try simp only [Act.put,List.getElem_toArray,List.getElem_cons_succ,List.getElem_cons_zero,List.setIfInBounds_toArray,List.set_cons_zero,List.set_cons_succ])
      refine wpAnyH_take (i:=27) (v:=.bool true) rfl (by as_aux_lemma => kernel_rfl) (by as_aux_lemma => kernel_rfl) (by as_aux_lemma => kernel_rfl) (fun _ _ _ h => h) (ya3 zz22 _ rfl zz22) hS ?_
      (try simp only [Act.put,List.getElem_toArray,List.getElem_cons_succ,List.getElem_cons_zero,List.setIfInBounds_toArray,List.set_cons_zero,List.set_cons_succ])
      refine wpAnyH_take (i:=28) (v:=undef) rfl (by as_aux_lemma => kernel_rfl) (by as_aux_lemma => kernel_rfl) (by as_aux_lemma => kernel_rfl) (fun _ _ _ h => h) (Or.inr ⟨zz22,rfl⟩) hS ?_
      (try simp only [Act.put,List.getElem_toArray,List.getElem_cons_succ,List.getElem_cons_zero,List.setIfInBounds_toArray,List.set_cons_zero,List.set_cons_succ])
      refine wpAnyH_take (i:=29) (v:=undef) rfl (by as_aux_lemma => kernel_rfl) (by as_aux_lemma => kernel_rfl) (by as_aux_lemma => kernel_rfl) (fun _ _ _ h => h) (Or.inr ⟨zz22,rfl⟩) hS ?_
      (try simp only [Act.put,List.getElem_toArray,List.getElem_cons_succ,List.getElem_cons_zero,List.setIfInBounds_toArray,List.set_cons_zero,List.set_cons_succ])
      refine wpAnyH_take (i:=30) (v:=undef) rfl (by as_aux_lemma => kernel_rfl) (by as_aux_lemma => kernel_rfl) (by as_aux_lemma => kernel_rfl) (fun _ _ _ h => h) (Or.inr ⟨zz22,rfl⟩) hS ?_
      (try simp only [Act.put,List.getElem_toArray,List.getElem_cons_succ,List.getElem_cons_zero,List.setIfInBounds_toArray,List.set_cons_zero,List.set_cons_succ])
      refine wpAnyH_take (i:=31) (v:=undef) rfl (by as_aux_lemma => kernel_rfl) (by as_aux_lemma => kernel_rfl) (by as_aux_lemma => kernel_rfl) (fun _ _ _ h => h) (Or.inr ⟨zz22,rfl⟩) hS ?_
      (try simp only [Act.put,List.getElem_toArray,List.getElem_cons_succ,List.getElem_cons_zero,List.setIfInBounds_toArray,List.set_cons_zero,List.set_cons_succ])
      refine wpAnyH_take (i:=32) (v:=undef) rfl (by as_aux_lemma => kernel_rfl) (by as_aux_lemma => kernel_rfl) (by as_aux_lemma => kernel_rfl) (fun _ _ _ h => h) (Or.inr ⟨zz22,rfl⟩) hS ?_
      (try simp only [Act.put,List.getElem_toArray,List.getElem_cons_succ,List.getElem_cons_zero,List.setIfInBounds_toArray,List.set_cons_zero,List.set_cons_succ])
      refine wpAnyH_take (i:=33) (v:=undef) rfl (by as_aux_lemma => kernel_rfl) (by as_aux_lemma => kernel_rfl) (by as_aux_lemma => kernel_rfl) (fun _ _ _ h => h) (Or.inr ⟨zz22,rfl⟩) hS ?_
      (try simp only [Act.put,List.getElem_toArray,List.getElem_cons_succ,List.getElem_cons_zero,List.setIfInBounds_toArray,List.set_cons_zero,List.set_cons_succ])
      refine wpAnyH_take (i:=34) (v:=undef) rfl (by as_aux_lemma => kernel_rfl) (by as_aux_lemma => kernel_rfl) (by as_aux_lemma => kernel_rfl) (fun _ _ _ h => h) (Or.inr ⟨zz22,rfl⟩) hS ?_
      (try simp only [Act.put,List.getElem_toArray,List.getElem_cons_succ,List.getElem_cons_zero,List.setIfInBounds_toArray,List.set_cons_zero,List.set_cons_succ])
      refine wpAnyH_take (i:=35) (v:=.bool true) rfl (by as_aux_lemma => kernel_rfl) (by as_aux_lemma => kernel_rfl) (by as_aux_lemma => kernel_rfl) (fun _ _ _ h => h) (Or.inl ⟨zz22,by intro w hSw; go_simp⟩) hS ?_
      (try simp only [Act.put,List.getElem_toArray,List.getElem_cons_succ,List.getElem_cons_zero,List.setIfInBounds_toArray,List.set_cons_zero,List.set_cons_succ])
      refine wpAnyH_take (i:=36) (v:=.bool true) rfl (by as_aux_lemma => kernel_rfl) (by as_aux_lemma => kernel_rfl) (by as_aux_lemma => kernel_rfl) (fun _ _ _ h => h) (ya3 zz22 _ rfl zz22) hS ?_
      (try simp only [Act.put,List.getElem_toArray,List.getElem_cons_succ,List.getElem_cons_zero,List.setIfInBounds_toArray,List.set_cons_zero,List.set_cons_succ])
      refine wpAnyH_take (i:=37) (v:=undef) rfl (by as_aux_lemma => kernel_rfl) (by as_aux_lemma => kernel_rfl) (by as_aux_lemma => kernel_rfl) (fun _ _ _ h => h) (Or.inr ⟨zz22,rfl⟩) hS ?_
      (try simp only [Act.put,List.getElem_toArray,List.getElem_cons_succ,List.getElem_cons_zero,List.setIfInBounds_toArray,List.set_cons_zero,List.set_cons_succ])
      refine wpAnyH_take (i:=38) (v:=undef) rfl (by as_aux_lemma => kernel_rfl) (by as_aux_lemma => kernel_rfl) (by as_aux_lemma => kernel_rfl) (fun _ _ _ h => h) (Or.inr ⟨zz22,rfl⟩) hS ?_
      (try simp only [Act.put,List.getElem_toArray,List.getElem_cons_succ,List.getElem_cons_zero,List.setIfInBounds_toArray,List.set_cons_zero,List.set_cons_succ])
      refine wpAnyH_take (i:=39) (v:=undef) rfl (by as_aux_lemma => kernel_rfl) (by as_aux_lemma => kernel_rfl) (by as_aux_lemma => kernel_rfl) (fun _ _ _ h => h) (Or.inr ⟨zz22,rfl⟩) hS ?_
      (try simp only [Act.put,List.getElem_toArray,List.getElem_cons_succ,List.getElem_cons_zero,List.setIfInBounds_toArray,List.set_cons_zero,List.set_cons_succ])
      refine wpAnyH_take (i:=40) (v:=undef) rfl (by as_aux_lemma => kernel_rfl) (by as_aux_lemma => kernel_rfl) (by as_aux_lemma => kernel_rfl) (fun _ _ _ h => h) (Or.inr ⟨zz22,rfl⟩) hS ?_
      (try simp only [Act.put,List.getElem_toArray,List.getElem_cons_succ,List.getElem_cons_zero,List.setIfInBounds_toArray,List.set_cons_zero,List.set_cons_succ])
      refine wpAnyH_take (i:=41) (v:=undef) rfl (by as_aux_lemma => kernel_rfl) (by as_aux_lemma => kernel_rfl) (by as_aux_lemma => kernel_rfl) (fun _ _ _ h => h) (Or.inr ⟨zz22,rfl⟩) hS ?_
      (try simp only [Act.put,List.getElem_toArray,List.getElem_cons_succ,List.getElem_cons_zero,List.setIfInBounds_toArray,List.set_cons_zero,List.set_cons_succ])
      refine wpAnyH_take (i:=42) (v:=undef) rfl (by as_aux_lemma => kernel_rfl) (by as_aux_lemma => kernel_rfl) (by as_aux_lemma => kernel_rfl) (fun _ _ _ h => h) (Or.inr ⟨zz22,rfl⟩) hS ?_
      (try simp only [Act.put,List.getElem_toArray,List.getElem_cons_succ,List.getElem_cons_zero,List.setIfInBounds_toArray,List.set_cons_zero,List.set_cons_succ])
      refine wpAnyH_take (i:=43) (v:=undef) rfl (by as_aux_lemma => kernel_rfl) (by as_aux_lemma => kernel_rfl) (by as_aux_lemma => kernel_rfl) (fun _ _ _ h => h) (Or.inr ⟨zz22,rfl⟩) hS ?_
      (try simp only [Act.put,List.getElem_toArray,List.getElem_cons_succ,List.getElem_cons_zero,List.setIfInBounds_toArray,List.set_cons_zero,List.set_cons_succ])
      refine wpAnyH_take (i:=44) (v:=undef) rfl (by as_aux_lemma => kernel_rfl) (by as_aux_lemma => kernel_rfl) (by as_aux_lemma => kernel_rfl) (fun _ _ _ h => h) (Or.inr ⟨zz22,rfl⟩) hS ?_
      (try simp only [Act.put,List.getElem_toArray,List.getElem_cons_succ,List.getElem_cons_zero,List.setIfInBounds_toArray,List.set_cons_zero,List.set_cons_succ])
      refine wpAnyH_take (i:=45) (v:=.bool true) rfl (by as_aux_lemma => kernel_rfl) (by as_aux_lemma => kernel_rfl) (by as_aux_lemma => kernel_rfl) (fun _ _ _ h => h) (Or.inl ⟨zz22,by intro w hSw; go_simp⟩) hS ?_
      (try simp only [Act.put,List.getElem_toArray,List.getElem_cons_succ,List.getElem_cons_zero,List.setIfInBounds_toArray,List.set_cons_zero,List.set_cons_succ])
      refine wpAnyH_done (by as_aux_lemma => kernel_rfl) ?_ _
      clear hS
      have HB7:=zd (HBZ.out.trans (HV.out.mono HBZ.out.size))
      go_wp2_with (fail)
      go_ret
      exact ⟨ya1 zz24,HBV.out.trans (HB7.out.mono HBV.out.size)⟩
    have hq1 : (s.a.head.house == x.house) = false:=beq_eq_false_iff_ne.2 how
    have HOW:=zd how
    clear how
    cases hii : inB s.a.head.house 0 ((roots.length : Int) - 1)
    ·have HCL : Hid (∀ Y,Calls Tryz.prog 48 #[.int .i64 s.a.head.house, .int .i64 0, .int .i64 ((roots.length : Int) - 1)] Y fun e w' => e = .returned (.bool false) ∧ Y = w'):=zd (fun Y => by have h:=spec_in s.a.head.house 0 ((roots.length : Int) - 1) Y; rwa [hii] at h)
     have HF:=zd (HNO.out (by rw [HAT.out]; unfold otherH; rw [hii]; simp))
     clear hii HAT HNO
     have HV:=zd ((Below.refl Z.heap.size Z).drew)
     refine wp_region_held_drew (S:=fun W' => Below Z.heap.size Z W') (by kernel_rfl) HV.out (fun hS => ?_)
     refine wpAnyH_take (i:=0) (v:=.pointer (some ⟨bp,0,none⟩)) rfl (by as_aux_lemma => kernel_rfl) (by as_aux_lemma => kernel_rfl) (by as_aux_lemma => kernel_rfl) (fun _ _ _ h => h) (Or.inl ⟨zz22,by intro w hSw; go_simp⟩) hS ?_
     (try simp only [Act.put,List.getElem_toArray,List.getElem_cons_succ,List.getElem_cons_zero,List.setIfInBounds_toArray,List.set_cons_zero,List.set_cons_succ])
     refine wpAnyH_take (i:=1) (v:=.agg #[.int .i64 s.a.head.house, .int .i64 s.a.head.epoch, .string s.a.head.root, .string s.a.head.prev, .int .i64 s.a.sig.at_, .slice F0 s.a.sig.open_.length g0, .slice F1 s.a.sig.shut.length g1, .slice F2 s.a.sig.sides.length g2]) rfl (by as_aux_lemma => kernel_rfl) (by as_aux_lemma => kernel_rfl) (by as_aux_lemma => kernel_rfl) (fun _ _ _ h => h) (ya7 zz22 _ _ rfl rfl (fun _ h => HA1.out _ h) Tryz.underlying76 k_sl rfl) hS ?_
     (try simp only [Act.put,List.getElem_toArray,List.getElem_cons_succ,List.getElem_cons_zero,List.setIfInBounds_toArray,List.set_cons_zero,List.set_cons_succ])
     refine wpAnyH_take (i:=2) (v:=.pointer (some ⟨bp,8,none⟩)) rfl (by as_aux_lemma => kernel_rfl) (by as_aux_lemma => kernel_rfl) (by as_aux_lemma => kernel_rfl) (fun _ _ _ h => h) (Or.inl ⟨zz22,by intro w hSw; go_simp⟩) hS ?_
     (try simp only [Act.put,List.getElem_toArray,List.getElem_cons_succ,List.getElem_cons_zero,List.setIfInBounds_toArray,List.set_cons_zero,List.set_cons_succ])
     refine wpAnyH_take (i:=3) (v:=.agg #[.int .i64 s.b.head.house, .int .i64 s.b.head.epoch, .string s.b.head.root, .string s.b.head.prev, .int .i64 s.b.sig.at_, .slice H0 s.b.sig.open_.length i0, .slice H1 s.b.sig.shut.length i1, .slice H2 s.b.sig.sides.length i2]) rfl (by as_aux_lemma => kernel_rfl) (by as_aux_lemma => kernel_rfl) (by as_aux_lemma => kernel_rfl) (fun _ _ _ h => h) (ya7 zz22 _ _ rfl rfl (fun _ h => HA2.out _ h) Tryz.underlying76 k_sl rfl) hS ?_
     (try simp only [Act.put,List.getElem_toArray,List.getElem_cons_succ,List.getElem_cons_zero,List.setIfInBounds_toArray,List.set_cons_zero,List.set_cons_succ])
     refine wpAnyH_take (i:=5) (v:=.pointer (some ⟨w3.heap.size,5,none⟩)) rfl (by as_aux_lemma => kernel_rfl) (by as_aux_lemma => kernel_rfl) (by as_aux_lemma => kernel_rfl) (fun _ _ _ h => h) (Or.inl ⟨zz22,by intro w hSw; go_simp⟩) hS ?_
     (try simp only [Act.put,List.getElem_toArray,List.getElem_cons_succ,List.getElem_cons_zero,List.setIfInBounds_toArray,List.set_cons_zero,List.set_cons_succ])
     refine wpAnyH_take (i:=6) (v:=.slice (some ⟨bq,oq,none⟩) y.pairs.length m3) rfl (by as_aux_lemma => kernel_rfl) (by as_aux_lemma => kernel_rfl) (by as_aux_lemma => kernel_rfl) (fun _ _ _ h => h) (Or.inl ⟨zz22,by intro Q hSw; have e_:=HN5.out Q hSw; go_simp⟩) hS ?_
     (try simp only [Act.put,List.getElem_toArray,List.getElem_cons_succ,List.getElem_cons_zero,List.setIfInBounds_toArray,List.set_cons_zero,List.set_cons_succ])
     refine wpAnyH_take (i:=7) (v:=.int .i64 (k : Int)) rfl (by as_aux_lemma => kernel_rfl) (by as_aux_lemma => kernel_rfl) (by as_aux_lemma => kernel_rfl) (fun _ _ _ h => h) (ya3 zz22 _ rfl zz22) hS ?_
     (try simp only [Act.put,List.getElem_toArray,List.getElem_cons_succ,List.getElem_cons_zero,List.setIfInBounds_toArray,List.set_cons_zero,List.set_cons_succ])
     refine wpAnyH_take (i:=8) (v:=.pointer (some ⟨bq,oq + k * 16,none⟩)) rfl (by as_aux_lemma => kernel_rfl) (by as_aux_lemma => kernel_rfl) (by as_aux_lemma => kernel_rfl) (fun _ _ _ h => h) (Or.inl ⟨zz22,by intro w hSw; go_simp⟩) hS ?_
     (try simp only [Act.put,List.getElem_toArray,List.getElem_cons_succ,List.getElem_cons_zero,List.setIfInBounds_toArray,List.set_cons_zero,List.set_cons_succ])
     refine wpAnyH_take (i:=9) (v:=.pointer (some ⟨bq,oq + k * 16,none⟩)) rfl (by as_aux_lemma => kernel_rfl) (by as_aux_lemma => kernel_rfl) (by as_aux_lemma => kernel_rfl) (fun _ _ _ h => h) (Or.inl ⟨zz22,by intro w hSw; go_simp⟩) hS ?_
     (try simp only [Act.put,List.getElem_toArray,List.getElem_cons_succ,List.getElem_cons_zero,List.setIfInBounds_toArray,List.set_cons_zero,List.set_cons_succ])
     refine wpAnyH_take (i:=10) (v:=.agg #[.int .i64 u.a.head.house, .int .i64 u.a.head.epoch, .string u.a.head.root, .string u.a.head.prev, .int .i64 u.a.sig.at_, .slice G0 u.a.sig.open_.length a0, .slice G1 u.a.sig.shut.length a1, .slice G2 u.a.sig.sides.length a2]) rfl (by as_aux_lemma => kernel_rfl) (by as_aux_lemma => kernel_rfl) (by as_aux_lemma => kernel_rfl) (fun _ _ _ h => h) (ya7 zz22 _ _ rfl rfl (fun _ h => HA3.out _ h) Tryz.underlying76 k_sl rfl) hS ?_
     (try simp only [Act.put,List.getElem_toArray,List.getElem_cons_succ,List.getElem_cons_zero,List.setIfInBounds_toArray,List.set_cons_zero,List.set_cons_succ])
     refine wpAnyH_take (i:=11) (v:=.pointer (some ⟨w3.heap.size,5,none⟩)) rfl (by as_aux_lemma => kernel_rfl) (by as_aux_lemma => kernel_rfl) (by as_aux_lemma => kernel_rfl) (fun _ _ _ h => h) (Or.inl ⟨zz22,by intro w hSw; go_simp⟩) hS ?_
     (try simp only [Act.put,List.getElem_toArray,List.getElem_cons_succ,List.getElem_cons_zero,List.setIfInBounds_toArray,List.set_cons_zero,List.set_cons_succ])
     refine wpAnyH_take (i:=12) (v:=.slice (some ⟨bq,oq,none⟩) y.pairs.length m3) rfl (by as_aux_lemma => kernel_rfl) (by as_aux_lemma => kernel_rfl) (by as_aux_lemma => kernel_rfl) (fun _ _ _ h => h) (Or.inl ⟨zz22,by intro Q hSw; have e_:=HN5.out Q hSw; go_simp⟩) hS ?_
     (try simp only [Act.put,List.getElem_toArray,List.getElem_cons_succ,List.getElem_cons_zero,List.setIfInBounds_toArray,List.set_cons_zero,List.set_cons_succ])
     refine wpAnyH_take (i:=13) (v:=.int .i64 (k : Int)) rfl (by as_aux_lemma => kernel_rfl) (by as_aux_lemma => kernel_rfl) (by as_aux_lemma => kernel_rfl) (fun _ _ _ h => h) (ya3 zz22 _ rfl zz22) hS ?_
     (try simp only [Act.put,List.getElem_toArray,List.getElem_cons_succ,List.getElem_cons_zero,List.setIfInBounds_toArray,List.set_cons_zero,List.set_cons_succ])
     refine wpAnyH_take (i:=14) (v:=.pointer (some ⟨bq,oq + k * 16,none⟩)) rfl (by as_aux_lemma => kernel_rfl) (by as_aux_lemma => kernel_rfl) (by as_aux_lemma => kernel_rfl) (fun _ _ _ h => h) (Or.inl ⟨zz22,by intro w hSw; go_simp⟩) hS ?_
     (try simp only [Act.put,List.getElem_toArray,List.getElem_cons_succ,List.getElem_cons_zero,List.setIfInBounds_toArray,List.set_cons_zero,List.set_cons_succ])
     refine wpAnyH_take (i:=15) (v:=.pointer (some ⟨bq,oq + k * 16 + 8,none⟩)) rfl (by as_aux_lemma => kernel_rfl) (by as_aux_lemma => kernel_rfl) (by as_aux_lemma => kernel_rfl) (fun _ _ _ h => h) (Or.inl ⟨zz22,by intro w hSw; go_simp⟩) hS ?_
     (try simp only [Act.put,List.getElem_toArray,List.getElem_cons_succ,List.getElem_cons_zero,List.setIfInBounds_toArray,List.set_cons_zero,List.set_cons_succ])
     refine wpAnyH_take (i:=16) (v:=.agg #[.int .i64 u.b.head.house, .int .i64 u.b.head.epoch, .string u.b.head.root, .string u.b.head.prev, .int .i64 u.b.sig.at_, .slice K0 u.b.sig.open_.length b0, .slice K1 u.b.sig.shut.length b1, .slice K2 u.b.sig.sides.length b2]) rfl (by as_aux_lemma => kernel_rfl) (by as_aux_lemma => kernel_rfl) (by as_aux_lemma => kernel_rfl) (fun _ _ _ h => h) (ya7 zz22 _ _ rfl rfl (fun _ h => HA4.out _ h) Tryz.underlying76 k_sl rfl) hS ?_
     (try simp only [Act.put,List.getElem_toArray,List.getElem_cons_succ,List.getElem_cons_zero,List.setIfInBounds_toArray,List.set_cons_zero,List.set_cons_succ])
     refine wpAnyH_ready (rs:=[4,17]) (by as_aux_lemma => kernel_rfl) zz17 (AllReadyH.cons rfl (fun K hK => ?_) (AllReadyH.cons rfl (fun K hK => ?_) AllReadyH.nil))
     ·skip
      clear hS
      refine wp_buildTwo rfl _ _ rfl rfl rfl ?_
      have hl_ : Z.heap.size ≤ Z.drew.heap.size:=HV.out.size
      obtain ⟨wb13,hwa⟩ : ∃ W,Z.drew.alloc (.cells #[.int .i64 s.a.head.house, .int .i64 s.a.head.epoch, .string s.a.head.root, .string s.a.head.prev, .int .i64 s.a.sig.at_, .slice F0 s.a.sig.open_.length g0, .slice F1 s.a.sig.shut.length g1, .slice F2 s.a.sig.sides.length g2, .int .i64 s.b.head.house, .int .i64 s.b.head.epoch, .string s.b.head.root, .string s.b.head.prev, .int .i64 s.b.sig.at_, .slice H0 s.b.sig.open_.length i0, .slice H1 s.b.sig.shut.length i1, .slice H2 s.b.sig.sides.length i2] 76) = W:=⟨_,rfl⟩
      have RWs : Hid (Row false wb13 (some ⟨Z.drew.heap.size,0,none⟩) 2 [s.a,s.b] All):=zd zz25
      have hb_ : Below Z.drew.heap.size Z.drew wb13:=zz19
      replace HV : Hid (Below Z.heap.size Z wb13):=zd (Below.step (a:=Z) HV.out hb_)
      rw [hwa]
      clear hwa
      clear hb_
      refine hK.out _ _ HV.out (fun hS => ?_)
      clear hK K
      (try simp only [Act.put,List.getElem_toArray,List.getElem_cons_succ,List.getElem_cons_zero,List.setIfInBounds_toArray,List.set_cons_zero,List.set_cons_succ])
      refine wpAnyH_ready (rs:=[17]) (by as_aux_lemma => kernel_rfl) zz17 (AllReadyH.cons rfl (fun K hK => ?_) AllReadyH.nil)
      clear hS
      refine wp_buildTwo rfl _ _ rfl rfl rfl ?_
      have hl_ : Z.heap.size ≤ wb13.heap.size:=HV.out.size
      obtain ⟨wb23,hwa⟩ : ∃ W,wb13.alloc (.cells #[.int .i64 u.a.head.house, .int .i64 u.a.head.epoch, .string u.a.head.root, .string u.a.head.prev, .int .i64 u.a.sig.at_, .slice G0 u.a.sig.open_.length a0, .slice G1 u.a.sig.shut.length a1, .slice G2 u.a.sig.sides.length a2, .int .i64 u.b.head.house, .int .i64 u.b.head.epoch, .string u.b.head.root, .string u.b.head.prev, .int .i64 u.b.sig.at_, .slice K0 u.b.sig.open_.length b0, .slice K1 u.b.sig.shut.length b1, .slice K2 u.b.sig.sides.length b2] 76) = W:=⟨_,rfl⟩
      have RWu : Hid (Row false wb23 (some ⟨wb13.heap.size,0,none⟩) 2 [u.a,u.b] All):=zd zz26
      have hb_ : Below wb13.heap.size wb13 wb23:=zz19
      replace HV : Hid (Below Z.heap.size Z wb23):=zd (Below.step (a:=Z) HV.out hb_)
      rw [hwa]
      clear hwa
      replace RWs:=zd (Row.later RWs.out hb_)
      clear hb_
      refine hK.out _ _ HV.out (fun hS => ?_)
      clear hK K
      (try simp only [Act.put,List.getElem_toArray,List.getElem_cons_succ,List.getElem_cons_zero,List.setIfInBounds_toArray,List.set_cons_zero,List.set_cons_succ])
      refine wpAnyH_ready (rs:=[18]) (by as_aux_lemma => kernel_rfl) zz17 (AllReadyH.cons rfl (fun K hK => ?_) AllReadyH.nil)
      (try rw [if_pos zz22])
      clear hS
      go_simp
      have hl2_ : Z.heap.size ≤ wb23.heap.size:=HV.out.size
      have HCC:=zd (spec_sameSeals wb23 [s.a,s.b] _ 2 All RWs.out [u.a,u.b] _ 2 All RWu.out (show 2 ≤ 4000000000 by decide) HG2.out)
      rw [HEQ.out] at HCC
      refine HCC.out.mono ?_
      rintro e_ wc3s ⟨rfl,hb_⟩
      replace HV : Hid (Below Z.heap.size Z wc3s):=zd (Below.step (a:=Z) HV.out hb_)
      clear hb_ HCC RWs RWu
      refine hK.out _ _ HV.out (fun hS => ?_)
      clear hK K
      (try simp only [Act.put,List.getElem_toArray,List.getElem_cons_succ,List.getElem_cons_zero,List.setIfInBounds_toArray,List.set_cons_zero,List.set_cons_succ])
      refine wpAnyH_take (i:=19) (v:=.bool false) rfl (by as_aux_lemma => kernel_rfl) (by as_aux_lemma => kernel_rfl) (by as_aux_lemma => kernel_rfl) (fun _ _ _ h => h) (Or.inl ⟨zz22,by intro w hSw; go_simp⟩) hS ?_
      (try simp only [Act.put,List.getElem_toArray,List.getElem_cons_succ,List.getElem_cons_zero,List.setIfInBounds_toArray,List.set_cons_zero,List.set_cons_succ])
      refine wpAnyH_take (i:=20) (v:=.bool false) rfl (by as_aux_lemma => kernel_rfl) (by as_aux_lemma => kernel_rfl) (by as_aux_lemma => kernel_rfl) (fun _ _ _ h => h) (ya3 zz22 _ rfl zz22) hS ?_
      (try simp only [Act.put,List.getElem_toArray,List.getElem_cons_succ,List.getElem_cons_zero,List.setIfInBounds_toArray,List.set_cons_zero,List.set_cons_succ])
      refine wpAnyH_take (i:=21) (v:=.pointer (some ⟨bh,0,none⟩)) rfl (by as_aux_lemma => kernel_rfl) (by as_aux_lemma => kernel_rfl) (by as_aux_lemma => kernel_rfl) (fun _ _ _ h => h) (Or.inl ⟨zz22,by intro w hSw; go_simp⟩) hS ?_
      (try simp only [Act.put,List.getElem_toArray,List.getElem_cons_succ,List.getElem_cons_zero,List.setIfInBounds_toArray,List.set_cons_zero,List.set_cons_succ])
      refine wpAnyH_take (i:=22) (v:=.int .i64 s.a.head.house) rfl (by as_aux_lemma => kernel_rfl) (by as_aux_lemma => kernel_rfl) (by as_aux_lemma => kernel_rfl) (fun _ _ _ h => h) (Or.inl ⟨zz22,by intro Q hSw; have e_:=HH0.out Q hSw; go_simp⟩) hS ?_
      (try simp only [Act.put,List.getElem_toArray,List.getElem_cons_succ,List.getElem_cons_zero,List.setIfInBounds_toArray,List.set_cons_zero,List.set_cons_succ])
      refine wpAnyH_take (i:=23) (v:=.pointer (some ⟨w.heap.size,0,none⟩)) rfl (by as_aux_lemma => kernel_rfl) (by as_aux_lemma => kernel_rfl) (by as_aux_lemma => kernel_rfl) (fun _ _ _ h => h) (Or.inl ⟨zz22,by intro w hSw; go_simp⟩) hS ?_
      (try simp only [Act.put,List.getElem_toArray,List.getElem_cons_succ,List.getElem_cons_zero,List.setIfInBounds_toArray,List.set_cons_zero,List.set_cons_succ])
      refine wpAnyH_take (i:=24) (v:=.int .i64 x.house) rfl (by as_aux_lemma => kernel_rfl) (by as_aux_lemma => kernel_rfl) (by as_aux_lemma => kernel_rfl) (fun _ _ _ h => h) (Or.inl ⟨zz22,by intro Q hSw; have e_:=HV0.out Q hSw; go_simp⟩) hS ?_
      (try simp only [Act.put,List.getElem_toArray,List.getElem_cons_succ,List.getElem_cons_zero,List.setIfInBounds_toArray,List.set_cons_zero,List.set_cons_succ])
      refine wpAnyH_take (i:=25) (v:=.bool false) rfl (by as_aux_lemma => kernel_rfl) (by as_aux_lemma => kernel_rfl) (by as_aux_lemma => kernel_rfl) (fun _ _ _ h => h) (Or.inl ⟨zz22,by intro w hSw; go_simp⟩) hS ?_
      (try simp only [Act.put,List.getElem_toArray,List.getElem_cons_succ,List.getElem_cons_zero,List.setIfInBounds_toArray,List.set_cons_zero,List.set_cons_succ])
      refine wpAnyH_take (i:=26) (v:=.bool false) rfl (by as_aux_lemma => kernel_rfl) (by as_aux_lemma => kernel_rfl) (by as_aux_lemma => kernel_rfl) (fun _ _ _ h => h) (Or.inl ⟨zz22,by intro w hSw; go_simp⟩) hS ?_
      (try simp only [Act.put,List.getElem_toArray,List.getElem_cons_succ,List.getElem_cons_zero,List.setIfInBounds_toArray,List.set_cons_zero,List.set_cons_succ])
      refine wpAnyH_take (i:=27) (v:=.bool false) rfl (by as_aux_lemma => kernel_rfl) (by as_aux_lemma => kernel_rfl) (by as_aux_lemma => kernel_rfl) (fun _ _ _ h => h) (ya3 zz22 _ rfl zz22) hS ?_
      (try simp only [Act.put,List.getElem_toArray,List.getElem_cons_succ,List.getElem_cons_zero,List.setIfInBounds_toArray,List.set_cons_zero,List.set_cons_succ])
      refine wpAnyH_take (i:=28) (v:=.pointer (some ⟨bh,0,none⟩)) rfl (by as_aux_lemma => kernel_rfl) (by as_aux_lemma => kernel_rfl) (by as_aux_lemma => kernel_rfl) (fun _ _ _ h => h) (Or.inl ⟨zz22,by intro w hSw; go_simp⟩) hS ?_
      (try simp only [Act.put,List.getElem_toArray,List.getElem_cons_succ,List.getElem_cons_zero,List.setIfInBounds_toArray,List.set_cons_zero,List.set_cons_succ])
      refine wpAnyH_take (i:=29) (v:=.int .i64 s.a.head.house) rfl (by as_aux_lemma => kernel_rfl) (by as_aux_lemma => kernel_rfl) (by as_aux_lemma => kernel_rfl) (fun _ _ _ h => h) (Or.inl ⟨zz22,by intro Q hSw; have e_:=HH0.out Q hSw; go_simp⟩) hS ?_
      (try simp only [Act.put,List.getElem_toArray,List.getElem_cons_succ,List.getElem_cons_zero,List.setIfInBounds_toArray,List.set_cons_zero,List.set_cons_succ])
      refine wpAnyH_take (i:=30) (v:=.slice AR roots.length kR) rfl (by as_aux_lemma => kernel_rfl) (by as_aux_lemma => kernel_rfl) (by as_aux_lemma => kernel_rfl) (fun _ _ _ h => h) (ya3 zz22 _ rfl zz22) hS ?_
      (try simp only [Act.put,List.getElem_toArray,List.getElem_cons_succ,List.getElem_cons_zero,List.setIfInBounds_toArray,List.set_cons_zero,List.set_cons_succ])
      refine wpAnyH_take (i:=31) (v:=.int .i64 (roots.length : Int)) rfl (by as_aux_lemma => kernel_rfl) (by as_aux_lemma => kernel_rfl) (by as_aux_lemma => kernel_rfl) (fun _ _ _ h => h) (Or.inl ⟨zz22,by intro w hSw; go_simp⟩) hS ?_
      (try simp only [Act.put,List.getElem_toArray,List.getElem_cons_succ,List.getElem_cons_zero,List.setIfInBounds_toArray,List.set_cons_zero,List.set_cons_succ])
      refine wpAnyH_take (i:=32) (v:=.int .i64 ((roots.length : Int) - 1)) rfl (by as_aux_lemma => kernel_rfl) (by as_aux_lemma => kernel_rfl) (by as_aux_lemma => kernel_rfl) (fun _ _ _ h => h) (Or.inl ⟨zz22,by intro w hSw; go_simp⟩) hS ?_
      (try simp only [Act.put,List.getElem_toArray,List.getElem_cons_succ,List.getElem_cons_zero,List.setIfInBounds_toArray,List.set_cons_zero,List.set_cons_succ])
      refine wpAnyH_ready (rs:=[33]) (by as_aux_lemma => kernel_rfl) zz17 (AllReadyH.cons rfl (fun K hK => ?_) AllReadyH.nil)
      (try rw [if_pos zz22])
      clear hS
      go_simp
      refine (HCL.out _).mono ?_
      rintro e_ v_ ⟨rfl,rfl⟩
      refine hK.out _ _ HV.out (fun hS => ?_)
      clear hK K
      (try simp only [Act.put,List.getElem_toArray,List.getElem_cons_succ,List.getElem_cons_zero,List.setIfInBounds_toArray,List.set_cons_zero,List.set_cons_succ])
      refine wpAnyH_take (i:=34) (v:=.bool true) rfl (by as_aux_lemma => kernel_rfl) (by as_aux_lemma => kernel_rfl) (by as_aux_lemma => kernel_rfl) (fun _ _ _ h => h) (Or.inl ⟨zz22,by intro w hSw; go_simp⟩) hS ?_
      (try simp only [Act.put,List.getElem_toArray,List.getElem_cons_succ,List.getElem_cons_zero,List.setIfInBounds_toArray,List.set_cons_zero,List.set_cons_succ])
      refine wpAnyH_take (i:=35) (v:=.bool true) rfl (by as_aux_lemma => kernel_rfl) (by as_aux_lemma => kernel_rfl) (by as_aux_lemma => kernel_rfl) (fun _ _ _ h => h) (Or.inl ⟨zz22,by intro w hSw; go_simp⟩) hS ?_
      (try simp only [Act.put,List.getElem_toArray,List.getElem_cons_succ,List.getElem_cons_zero,List.setIfInBounds_toArray,List.set_cons_zero,List.set_cons_succ])
      refine wpAnyH_take (i:=36) (v:=.bool true) rfl (by as_aux_lemma => kernel_rfl) (by as_aux_lemma => kernel_rfl) (by as_aux_lemma => kernel_rfl) (fun _ _ _ h => h) (ya3 zz22 _ rfl zz22) hS ?_
      (try simp only [Act.put,List.getElem_toArray,List.getElem_cons_succ,List.getElem_cons_zero,List.setIfInBounds_toArray,List.set_cons_zero,List.set_cons_succ])
      refine wpAnyH_take (i:=37) (v:=undef) rfl (by as_aux_lemma => kernel_rfl) (by as_aux_lemma => kernel_rfl) (by as_aux_lemma => kernel_rfl) (fun _ _ _ h => h) (Or.inr ⟨zz22,rfl⟩) hS ?_
      (try simp only [Act.put,List.getElem_toArray,List.getElem_cons_succ,List.getElem_cons_zero,List.setIfInBounds_toArray,List.set_cons_zero,List.set_cons_succ])
      refine wpAnyH_take (i:=38) (v:=undef) rfl (by as_aux_lemma => kernel_rfl) (by as_aux_lemma => kernel_rfl) (by as_aux_lemma => kernel_rfl) (fun _ _ _ h => h) (Or.inr ⟨zz22,rfl⟩) hS ?_
      (try simp only [Act.put,List.getElem_toArray,List.getElem_cons_succ,List.getElem_cons_zero,List.setIfInBounds_toArray,List.set_cons_zero,List.set_cons_succ])
      refine wpAnyH_take (i:=39) (v:=undef) rfl (by as_aux_lemma => kernel_rfl) (by as_aux_lemma => kernel_rfl) (by as_aux_lemma => kernel_rfl) (fun _ _ _ h => h) (Or.inr ⟨zz22,rfl⟩) hS ?_
      (try simp only [Act.put,List.getElem_toArray,List.getElem_cons_succ,List.getElem_cons_zero,List.setIfInBounds_toArray,List.set_cons_zero,List.set_cons_succ])
      refine wpAnyH_take (i:=40) (v:=undef) rfl (by as_aux_lemma => kernel_rfl) (by as_aux_lemma => kernel_rfl) (by as_aux_lemma => kernel_rfl) (fun _ _ _ h => h) (Or.inr ⟨zz22,rfl⟩) hS ?_
      (try simp only [Act.put,List.getElem_toArray,List.getElem_cons_succ,List.getElem_cons_zero,List.setIfInBounds_toArray,List.set_cons_zero,List.set_cons_succ])
      refine wpAnyH_take (i:=41) (v:=undef) rfl (by as_aux_lemma => kernel_rfl) (by as_aux_lemma => kernel_rfl) (by as_aux_lemma => kernel_rfl) (fun _ _ _ h => h) (Or.inr ⟨zz22,rfl⟩) hS ?_
      (try simp only [Act.put,List.getElem_toArray,List.getElem_cons_succ,List.getElem_cons_zero,List.setIfInBounds_toArray,List.set_cons_zero,List.set_cons_succ])
      refine wpAnyH_take (i:=42) (v:=undef) rfl (by as_aux_lemma => kernel_rfl) (by as_aux_lemma => kernel_rfl) (by as_aux_lemma => kernel_rfl) (fun _ _ _ h => h) (Or.inr ⟨zz22,rfl⟩) hS ?_
      (try simp only [Act.put,List.getElem_toArray,List.getElem_cons_succ,List.getElem_cons_zero,List.setIfInBounds_toArray,List.set_cons_zero,List.set_cons_succ])
      refine wpAnyH_take (i:=43) (v:=undef) rfl (by as_aux_lemma => kernel_rfl) (by as_aux_lemma => kernel_rfl) (by as_aux_lemma => kernel_rfl) (fun _ _ _ h => h) (Or.inr ⟨zz22,rfl⟩) hS ?_
      (try simp only [Act.put,List.getElem_toArray,List.getElem_cons_succ,List.getElem_cons_zero,List.setIfInBounds_toArray,List.set_cons_zero,List.set_cons_succ])
      refine wpAnyH_take (i:=44) (v:=undef) rfl (by as_aux_lemma => kernel_rfl) (by as_aux_lemma => kernel_rfl) (by as_aux_lemma => kernel_rfl) (fun _ _ _ h => h) (Or.inr ⟨zz22,rfl⟩) hS ?_
      (try simp only [Act.put,List.getElem_toArray,List.getElem_cons_succ,List.getElem_cons_zero,List.setIfInBounds_toArray,List.set_cons_zero,List.set_cons_succ])
      refine wpAnyH_take (i:=45) (v:=.bool true) rfl (by as_aux_lemma => kernel_rfl) (by as_aux_lemma => kernel_rfl) (by as_aux_lemma => kernel_rfl) (fun _ _ _ h => h) (Or.inl ⟨zz22,by intro w hSw; go_simp⟩) hS ?_
      (try simp only [Act.put,List.getElem_toArray,List.getElem_cons_succ,List.getElem_cons_zero,List.setIfInBounds_toArray,List.set_cons_zero,List.set_cons_succ])
      refine wpAnyH_done (by as_aux_lemma => kernel_rfl) ?_ _
      clear hS
      have HB7:=zd (HBZ.out.trans (HV.out.mono HBZ.out.size))
      go_wp2_with (fail)
      go_ret
      exact ⟨ya1 zz24,HBV.out.trans (HB7.out.mono HBV.out.size)⟩
     ·skip
      clear hS
      refine wp_buildTwo rfl _ _ rfl rfl rfl ?_
      have hl_ : Z.heap.size ≤ Z.drew.heap.size:=HV.out.size
      obtain ⟨wb33,hwa⟩ : ∃ W,Z.drew.alloc (.cells #[.int .i64 u.a.head.house, .int .i64 u.a.head.epoch, .string u.a.head.root, .string u.a.head.prev, .int .i64 u.a.sig.at_, .slice G0 u.a.sig.open_.length a0, .slice G1 u.a.sig.shut.length a1, .slice G2 u.a.sig.sides.length a2, .int .i64 u.b.head.house, .int .i64 u.b.head.epoch, .string u.b.head.root, .string u.b.head.prev, .int .i64 u.b.sig.at_, .slice K0 u.b.sig.open_.length b0, .slice K1 u.b.sig.shut.length b1, .slice K2 u.b.sig.sides.length b2] 76) = W:=⟨_,rfl⟩
      have RWu : Hid (Row false wb33 (some ⟨Z.drew.heap.size,0,none⟩) 2 [u.a,u.b] All):=zd zz26
      have hb_ : Below Z.drew.heap.size Z.drew wb33:=zz19
      replace HV : Hid (Below Z.heap.size Z wb33):=zd (Below.step (a:=Z) HV.out hb_)
      rw [hwa]
      clear hwa
      clear hb_
      refine hK.out _ _ HV.out (fun hS => ?_)
      clear hK K
      (try simp only [Act.put,List.getElem_toArray,List.getElem_cons_succ,List.getElem_cons_zero,List.setIfInBounds_toArray,List.set_cons_zero,List.set_cons_succ])
      refine wpAnyH_ready (rs:=[4]) (by as_aux_lemma => kernel_rfl) zz17 (AllReadyH.cons rfl (fun K hK => ?_) AllReadyH.nil)
      clear hS
      refine wp_buildTwo rfl _ _ rfl rfl rfl ?_
      have hl_ : Z.heap.size ≤ wb33.heap.size:=HV.out.size
      obtain ⟨wb43,hwa⟩ : ∃ W,wb33.alloc (.cells #[.int .i64 s.a.head.house, .int .i64 s.a.head.epoch, .string s.a.head.root, .string s.a.head.prev, .int .i64 s.a.sig.at_, .slice F0 s.a.sig.open_.length g0, .slice F1 s.a.sig.shut.length g1, .slice F2 s.a.sig.sides.length g2, .int .i64 s.b.head.house, .int .i64 s.b.head.epoch, .string s.b.head.root, .string s.b.head.prev, .int .i64 s.b.sig.at_, .slice H0 s.b.sig.open_.length i0, .slice H1 s.b.sig.shut.length i1, .slice H2 s.b.sig.sides.length i2] 76) = W:=⟨_,rfl⟩
      have RWs : Hid (Row false wb43 (some ⟨wb33.heap.size,0,none⟩) 2 [s.a,s.b] All):=zd zz25
      have hb_ : Below wb33.heap.size wb33 wb43:=zz19
      replace HV : Hid (Below Z.heap.size Z wb43):=zd (Below.step (a:=Z) HV.out hb_)
      rw [hwa]
      clear hwa
      replace RWu:=zd (Row.later RWu.out hb_)
      clear hb_
      refine hK.out _ _ HV.out (fun hS => ?_)
      clear hK K
      (try simp only [Act.put,List.getElem_toArray,List.getElem_cons_succ,List.getElem_cons_zero,List.setIfInBounds_toArray,List.set_cons_zero,List.set_cons_succ])
      refine wpAnyH_ready (rs:=[18]) (by as_aux_lemma => kernel_rfl) zz17 (AllReadyH.cons rfl (fun K hK => ?_) AllReadyH.nil)
      (try rw [if_pos zz22])
      clear hS
      go_simp
      have hl2_ : Z.heap.size ≤ wb43.heap.size:=HV.out.size
      have HCC:=zd (spec_sameSeals wb43 [s.a,s.b] _ 2 All RWs.out [u.a,u.b] _ 2 All RWu.out (show 2 ≤ 4000000000 by decide) HG2.out)
      rw [HEQ.out] at HCC
      refine HCC.out.mono ?_
      rintro e_ wc3u ⟨rfl,hb_⟩
      replace HV : Hid (Below Z.heap.size Z wc3u):=zd (Below.step (a:=Z) HV.out hb_)
      clear hb_ HCC RWs RWu
      refine hK.out _ _ HV.out (fun hS => ?_)
      clear hK K
      (try simp only [Act.put,List.getElem_toArray,List.getElem_cons_succ,List.getElem_cons_zero,List.setIfInBounds_toArray,List.set_cons_zero,List.set_cons_succ])
      refine wpAnyH_take (i:=19) (v:=.bool false) rfl (by as_aux_lemma => kernel_rfl) (by as_aux_lemma => kernel_rfl) (by as_aux_lemma => kernel_rfl) (fun _ _ _ h => h) (Or.inl ⟨zz22,by intro w hSw; go_simp⟩) hS ?_
      (try simp only [Act.put,List.getElem_toArray,List.getElem_cons_succ,List.getElem_cons_zero,List.setIfInBounds_toArray,List.set_cons_zero,List.set_cons_succ])
      refine wpAnyH_take (i:=20) (v:=.bool false) rfl (by as_aux_lemma => kernel_rfl) (by as_aux_lemma => kernel_rfl) (by as_aux_lemma => kernel_rfl) (fun _ _ _ h => h) (ya3 zz22 _ rfl zz22) hS ?_
      (try simp only [Act.put,List.getElem_toArray,List.getElem_cons_succ,List.getElem_cons_zero,List.setIfInBounds_toArray,List.set_cons_zero,List.set_cons_succ])
      refine wpAnyH_take (i:=21) (v:=.pointer (some ⟨bh,0,none⟩)) rfl (by as_aux_lemma => kernel_rfl) (by as_aux_lemma => kernel_rfl) (by as_aux_lemma => kernel_rfl) (fun _ _ _ h => h) (Or.inl ⟨zz22,by intro w hSw; go_simp⟩) hS ?_
      (try simp only [Act.put,List.getElem_toArray,List.getElem_cons_succ,List.getElem_cons_zero,List.setIfInBounds_toArray,List.set_cons_zero,List.set_cons_succ])
      refine wpAnyH_take (i:=22) (v:=.int .i64 s.a.head.house) rfl (by as_aux_lemma => kernel_rfl) (by as_aux_lemma => kernel_rfl) (by as_aux_lemma => kernel_rfl) (fun _ _ _ h => h) (Or.inl ⟨zz22,by intro Q hSw; have e_:=HH0.out Q hSw; go_simp⟩) hS ?_
      (try simp only [Act.put,List.getElem_toArray,List.getElem_cons_succ,List.getElem_cons_zero,List.setIfInBounds_toArray,List.set_cons_zero,List.set_cons_succ])
      refine wpAnyH_take (i:=23) (v:=.pointer (some ⟨w.heap.size,0,none⟩)) rfl (by as_aux_lemma => kernel_rfl) (by as_aux_lemma => kernel_rfl) (by as_aux_lemma => kernel_rfl) (fun _ _ _ h => h) (Or.inl ⟨zz22,by intro w hSw; go_simp⟩) hS ?_
      (try simp only [Act.put,List.getElem_toArray,List.getElem_cons_succ,List.getElem_cons_zero,List.setIfInBounds_toArray,List.set_cons_zero,List.set_cons_succ])
      refine wpAnyH_take (i:=24) (v:=.int .i64 x.house) rfl (by as_aux_lemma => kernel_rfl) (by as_aux_lemma => kernel_rfl) (by as_aux_lemma => kernel_rfl) (fun _ _ _ h => h) (Or.inl ⟨zz22,by intro Q hSw; have e_:=HV0.out Q hSw; go_simp⟩) hS ?_
      (try simp only [Act.put,List.getElem_toArray,List.getElem_cons_succ,List.getElem_cons_zero,List.setIfInBounds_toArray,List.set_cons_zero,List.set_cons_succ])
      refine wpAnyH_take (i:=25) (v:=.bool false) rfl (by as_aux_lemma => kernel_rfl) (by as_aux_lemma => kernel_rfl) (by as_aux_lemma => kernel_rfl) (fun _ _ _ h => h) (Or.inl ⟨zz22,by intro w hSw; go_simp⟩) hS ?_
      (try simp only [Act.put,List.getElem_toArray,List.getElem_cons_succ,List.getElem_cons_zero,List.setIfInBounds_toArray,List.set_cons_zero,List.set_cons_succ])
      refine wpAnyH_take (i:=26) (v:=.bool false) rfl (by as_aux_lemma => kernel_rfl) (by as_aux_lemma => kernel_rfl) (by as_aux_lemma => kernel_rfl) (fun _ _ _ h => h) (Or.inl ⟨zz22,by intro w hSw; go_simp⟩) hS ?_
      (try simp only [Act.put,List.getElem_toArray,List.getElem_cons_succ,List.getElem_cons_zero,List.setIfInBounds_toArray,List.set_cons_zero,List.set_cons_succ])
      refine wpAnyH_take (i:=27) (v:=.bool false) rfl (by as_aux_lemma => kernel_rfl) (by as_aux_lemma => kernel_rfl) (by as_aux_lemma => kernel_rfl) (fun _ _ _ h => h) (ya3 zz22 _ rfl zz22) hS ?_
      (try simp only [Act.put,List.getElem_toArray,List.getElem_cons_succ,List.getElem_cons_zero,List.setIfInBounds_toArray,List.set_cons_zero,List.set_cons_succ])
      refine wpAnyH_take (i:=28) (v:=.pointer (some ⟨bh,0,none⟩)) rfl (by as_aux_lemma => kernel_rfl) (by as_aux_lemma => kernel_rfl) (by as_aux_lemma => kernel_rfl) (fun _ _ _ h => h) (Or.inl ⟨zz22,by intro w hSw; go_simp⟩) hS ?_
      (try simp only [Act.put,List.getElem_toArray,List.getElem_cons_succ,List.getElem_cons_zero,List.setIfInBounds_toArray,List.set_cons_zero,List.set_cons_succ])
      refine wpAnyH_take (i:=29) (v:=.int .i64 s.a.head.house) rfl (by as_aux_lemma => kernel_rfl) (by as_aux_lemma => kernel_rfl) (by as_aux_lemma => kernel_rfl) (fun _ _ _ h => h) (Or.inl ⟨zz22,by intro Q hSw; have e_:=HH0.out Q hSw; go_simp⟩) hS ?_
      (try simp only [Act.put,List.getElem_toArray,List.getElem_cons_succ,List.getElem_cons_zero,List.setIfInBounds_toArray,List.set_cons_zero,List.set_cons_succ])
      refine wpAnyH_take (i:=30) (v:=.slice AR roots.length kR) rfl (by as_aux_lemma => kernel_rfl) (by as_aux_lemma => kernel_rfl) (by as_aux_lemma => kernel_rfl) (fun _ _ _ h => h) (ya3 zz22 _ rfl zz22) hS ?_
      (try simp only [Act.put,List.getElem_toArray,List.getElem_cons_succ,List.getElem_cons_zero,List.setIfInBounds_toArray,List.set_cons_zero,List.set_cons_succ])
      refine wpAnyH_take (i:=31) (v:=.int .i64 (roots.length : Int)) rfl (by as_aux_lemma => kernel_rfl) (by as_aux_lemma => kernel_rfl) (by as_aux_lemma => kernel_rfl) (fun _ _ _ h => h) (Or.inl ⟨zz22,by intro w hSw; go_simp⟩) hS ?_
      (try simp only [Act.put,List.getElem_toArray,List.getElem_cons_succ,List.getElem_cons_zero,List.setIfInBounds_toArray,List.set_cons_zero,List.set_cons_succ])
      refine wpAnyH_take (i:=32) (v:=.int .i64 ((roots.length : Int) - 1)) rfl (by as_aux_lemma => kernel_rfl) (by as_aux_lemma => kernel_rfl) (by as_aux_lemma => kernel_rfl) (fun _ _ _ h => h) (Or.inl ⟨zz22,by intro w hSw; go_simp⟩) hS ?_
      (try simp only [Act.put,List.getElem_toArray,List.getElem_cons_succ,List.getElem_cons_zero,List.setIfInBounds_toArray,List.set_cons_zero,List.set_cons_succ])
      refine wpAnyH_ready (rs:=[33]) (by as_aux_lemma => kernel_rfl) zz17 (AllReadyH.cons rfl (fun K hK => ?_) AllReadyH.nil)
      (try rw [if_pos zz22])
      clear hS
      go_simp
      refine (HCL.out _).mono ?_
      rintro e_ v_ ⟨rfl,rfl⟩
      refine hK.out _ _ HV.out (fun hS => ?_)
      clear hK K
      (try simp only [Act.put,List.getElem_toArray,List.getElem_cons_succ,List.getElem_cons_zero,List.setIfInBounds_toArray,List.set_cons_zero,List.set_cons_succ])
      refine wpAnyH_take (i:=34) (v:=.bool true) rfl (by as_aux_lemma => kernel_rfl) (by as_aux_lemma => kernel_rfl) (by as_aux_lemma => kernel_rfl) (fun _ _ _ h => h) (Or.inl ⟨zz22,by intro w hSw; go_simp⟩) hS ?_
      (try simp only [Act.put,List.getElem_toArray,List.getElem_cons_succ,List.getElem_cons_zero,List.setIfInBounds_toArray,List.set_cons_zero,List.set_cons_succ])
      refine wpAnyH_take (i:=35) (v:=.bool true) rfl (by as_aux_lemma => kernel_rfl) (by as_aux_lemma => kernel_rfl) (by as_aux_lemma => kernel_rfl) (fun _ _ _ h => h) (Or.inl ⟨zz22,by intro w hSw; go_simp⟩) hS ?_
      (try simp only [Act.put,List.getElem_toArray,List.getElem_cons_succ,List.getElem_cons_zero,List.setIfInBounds_toArray,List.set_cons_zero,List.set_cons_succ])
      refine wpAnyH_take (i:=36) (v:=.bool true) rfl (by as_aux_lemma => kernel_rfl) (by as_aux_lemma => kernel_rfl) (by as_aux_lemma => kernel_rfl) (fun _ _ _ h => h) (ya3 zz22 _ rfl zz22) hS ?_
      (try simp only [Act.put,List.getElem_toArray,List.getElem_cons_succ,List.getElem_cons_zero,List.setIfInBounds_toArray,List.set_cons_zero,List.set_cons_succ])
      refine wpAnyH_take (i:=37) (v:=undef) rfl (by as_aux_lemma => kernel_rfl) (by as_aux_lemma => kernel_rfl) (by as_aux_lemma => kernel_rfl) (fun _ _ _ h => h) (Or.inr ⟨zz22,rfl⟩) hS ?_
      (try simp only [Act.put,List.getElem_toArray,List.getElem_cons_succ,List.getElem_cons_zero,List.setIfInBounds_toArray,List.set_cons_zero,List.set_cons_succ])
      refine wpAnyH_take (i:=38) (v:=undef) rfl (by as_aux_lemma => kernel_rfl) (by as_aux_lemma => kernel_rfl) (by as_aux_lemma => kernel_rfl) (fun _ _ _ h => h) (Or.inr ⟨zz22,rfl⟩) hS ?_
      (try simp only [Act.put,List.getElem_toArray,List.getElem_cons_succ,List.getElem_cons_zero,List.setIfInBounds_toArray,List.set_cons_zero,List.set_cons_succ])
      refine wpAnyH_take (i:=39) (v:=undef) rfl (by as_aux_lemma => kernel_rfl) (by as_aux_lemma => kernel_rfl) (by as_aux_lemma => kernel_rfl) (fun _ _ _ h => h) (Or.inr ⟨zz22,rfl⟩) hS ?_
      (try simp only [Act.put,List.getElem_toArray,List.getElem_cons_succ,List.getElem_cons_zero,List.setIfInBounds_toArray,List.set_cons_zero,List.set_cons_succ])
      refine wpAnyH_take (i:=40) (v:=undef) rfl (by as_aux_lemma => kernel_rfl) (by as_aux_lemma => kernel_rfl) (by as_aux_lemma => kernel_rfl) (fun _ _ _ h => h) (Or.inr ⟨zz22,rfl⟩) hS ?_
      (try simp only [Act.put,List.getElem_toArray,List.getElem_cons_succ,List.getElem_cons_zero,List.setIfInBounds_toArray,List.set_cons_zero,List.set_cons_succ])
      refine wpAnyH_take (i:=41) (v:=undef) rfl (by as_aux_lemma => kernel_rfl) (by as_aux_lemma => kernel_rfl) (by as_aux_lemma => kernel_rfl) (fun _ _ _ h => h) (Or.inr ⟨zz22,rfl⟩) hS ?_
      (try simp only [Act.put,List.getElem_toArray,List.getElem_cons_succ,List.getElem_cons_zero,List.setIfInBounds_toArray,List.set_cons_zero,List.set_cons_succ])
      refine wpAnyH_take (i:=42) (v:=undef) rfl (by as_aux_lemma => kernel_rfl) (by as_aux_lemma => kernel_rfl) (by as_aux_lemma => kernel_rfl) (fun _ _ _ h => h) (Or.inr ⟨zz22,rfl⟩) hS ?_
      (try simp only [Act.put,List.getElem_toArray,List.getElem_cons_succ,List.getElem_cons_zero,List.setIfInBounds_toArray,List.set_cons_zero,List.set_cons_succ])
      refine wpAnyH_take (i:=43) (v:=undef) rfl (by as_aux_lemma => kernel_rfl) (by as_aux_lemma => kernel_rfl) (by as_aux_lemma => kernel_rfl) (fun _ _ _ h => h) (Or.inr ⟨zz22,rfl⟩) hS ?_
      (try simp only [Act.put,List.getElem_toArray,List.getElem_cons_succ,List.getElem_cons_zero,List.setIfInBounds_toArray,List.set_cons_zero,List.set_cons_succ])
      refine wpAnyH_take (i:=44) (v:=undef) rfl (by as_aux_lemma => kernel_rfl) (by as_aux_lemma => kernel_rfl) (by as_aux_lemma => kernel_rfl) (fun _ _ _ h => h) (Or.inr ⟨zz22,rfl⟩) hS ?_
      (try simp only [Act.put,List.getElem_toArray,List.getElem_cons_succ,List.getElem_cons_zero,List.setIfInBounds_toArray,List.set_cons_zero,List.set_cons_succ])
      refine wpAnyH_take (i:=45) (v:=.bool true) rfl (by as_aux_lemma => kernel_rfl) (by as_aux_lemma => kernel_rfl) (by as_aux_lemma => kernel_rfl) (fun _ _ _ h => h) (Or.inl ⟨zz22,by intro w hSw; go_simp⟩) hS ?_
      (try simp only [Act.put,List.getElem_toArray,List.getElem_cons_succ,List.getElem_cons_zero,List.setIfInBounds_toArray,List.set_cons_zero,List.set_cons_succ])
      refine wpAnyH_done (by as_aux_lemma => kernel_rfl) ?_ _
      clear hS
      have HB7:=zd (HBZ.out.trans (HV.out.mono HBZ.out.size))
      go_wp2_with (fail)
      go_ret
      exact ⟨ya1 zz24,HBV.out.trans (HB7.out.mono HBV.out.size)⟩
    have HCL : Hid (∀ Y,Calls Tryz.prog 48 #[.int .i64 s.a.head.house, .int .i64 0, .int .i64 ((roots.length : Int) - 1)] Y fun e w' => e = .returned (.bool true) ∧ Y = w'):=zd (fun Y => by have h:=spec_in s.a.head.house 0 ((roots.length : Int) - 1) Y; rwa [hii] at h)
    have hot : otherH x.house roots.length s.a.head.house = true:=by unfold otherH; rw [decide_eq_false HOW.out,hii]; rfl
    clear hii
    obtain ⟨-,j,hj,hjl⟩:=other_idx hot
    have HRO:=zd (roots_at hj hjl)
    have HJ:=zd hj
    clear hj
    obtain ⟨bR,oR,rfl,hlR,q1, -⟩:=Row.str QR.out hjl
    have hrs:=HRT.out j hjl
    obtain ⟨rt,hrt⟩ : ∃ r,roots[j] = r:=⟨_,rfl⟩
    rw [hrt] at q1 HRO hrs
    clear hrt
    have HRTC : Hid (∀ Q,Below Z.heap.size Z Q → Q.cell? ⟨bR,oR + j,none⟩ = some (.string rt)):=zd (fun Q h => ((HBZ.out.trans (h.mono HBZ.out.size)).cell (p:=⟨bR,oR + j,none⟩) hlR).trans q1)
    have hjj : (j : Int) < (roots.length : Int):=zz4
    have HOK : Hid (∀ Q,Below Z.heap.size Z Q → Calls Tryz.prog 52 #[.string rt, .agg #[.int .i64 s.a.head.house, .int .i64 s.a.head.epoch, .string s.a.head.root, .string s.a.head.prev, .int .i64 s.a.sig.at_, .slice F0 s.a.sig.open_.length g0, .slice F1 s.a.sig.shut.length g1, .slice F2 s.a.sig.sides.length g2, .int .i64 s.b.head.house, .int .i64 s.b.head.epoch, .string s.b.head.root, .string s.b.head.prev, .int .i64 s.b.sig.at_, .slice H0 s.b.sig.open_.length i0, .slice H1 s.b.sig.shut.length i1, .slice H2 s.b.sig.sides.length i2]] Q fun e w' => e = .returned (.bool (evidenceOk rt s)) ∧ Below Q.heap.size Q w'):=zd (fun Q h => spec_EvidenceOk Q rt hrs s _ _ (Lay.later HRZ.out h) HSZ.out)
    clear q1
    cases hok : evidenceOk rt s
    ·rw [hok] at HOK
     have HF:=zd (HNO.out (by rw [HAT.out,HRO.out,hot,hok]; rfl))
     clear hot hok HAT HNO HRO HOW
     have HV:=zd ((Below.refl Z.heap.size Z).drew)
     refine wp_region_held_drew (S:=fun W' => Below Z.heap.size Z W') (by kernel_rfl) HV.out (fun hS => ?_)
     refine wpAnyH_take (i:=0) (v:=.pointer (some ⟨bp,0,none⟩)) rfl (by as_aux_lemma => kernel_rfl) (by as_aux_lemma => kernel_rfl) (by as_aux_lemma => kernel_rfl) (fun _ _ _ h => h) (Or.inl ⟨zz22,by intro w hSw; go_simp⟩) hS ?_
     (try simp only [Act.put,List.getElem_toArray,List.getElem_cons_succ,List.getElem_cons_zero,List.setIfInBounds_toArray,List.set_cons_zero,List.set_cons_succ])
     refine wpAnyH_take (i:=1) (v:=.agg #[.int .i64 s.a.head.house, .int .i64 s.a.head.epoch, .string s.a.head.root, .string s.a.head.prev, .int .i64 s.a.sig.at_, .slice F0 s.a.sig.open_.length g0, .slice F1 s.a.sig.shut.length g1, .slice F2 s.a.sig.sides.length g2]) rfl (by as_aux_lemma => kernel_rfl) (by as_aux_lemma => kernel_rfl) (by as_aux_lemma => kernel_rfl) (fun _ _ _ h => h) (ya7 zz22 _ _ rfl rfl (fun _ h => HA1.out _ h) Tryz.underlying76 k_sl rfl) hS ?_
     (try simp only [Act.put,List.getElem_toArray,List.getElem_cons_succ,List.getElem_cons_zero,List.setIfInBounds_toArray,List.set_cons_zero,List.set_cons_succ])
     refine wpAnyH_take (i:=2) (v:=.pointer (some ⟨bp,8,none⟩)) rfl (by as_aux_lemma => kernel_rfl) (by as_aux_lemma => kernel_rfl) (by as_aux_lemma => kernel_rfl) (fun _ _ _ h => h) (Or.inl ⟨zz22,by intro w hSw; go_simp⟩) hS ?_
     (try simp only [Act.put,List.getElem_toArray,List.getElem_cons_succ,List.getElem_cons_zero,List.setIfInBounds_toArray,List.set_cons_zero,List.set_cons_succ])
     refine wpAnyH_take (i:=3) (v:=.agg #[.int .i64 s.b.head.house, .int .i64 s.b.head.epoch, .string s.b.head.root, .string s.b.head.prev, .int .i64 s.b.sig.at_, .slice H0 s.b.sig.open_.length i0, .slice H1 s.b.sig.shut.length i1, .slice H2 s.b.sig.sides.length i2]) rfl (by as_aux_lemma => kernel_rfl) (by as_aux_lemma => kernel_rfl) (by as_aux_lemma => kernel_rfl) (fun _ _ _ h => h) (ya7 zz22 _ _ rfl rfl (fun _ h => HA2.out _ h) Tryz.underlying76 k_sl rfl) hS ?_
     (try simp only [Act.put,List.getElem_toArray,List.getElem_cons_succ,List.getElem_cons_zero,List.setIfInBounds_toArray,List.set_cons_zero,List.set_cons_succ])
     refine wpAnyH_take (i:=5) (v:=.pointer (some ⟨w3.heap.size,5,none⟩)) rfl (by as_aux_lemma => kernel_rfl) (by as_aux_lemma => kernel_rfl) (by as_aux_lemma => kernel_rfl) (fun _ _ _ h => h) (Or.inl ⟨zz22,by intro w hSw; go_simp⟩) hS ?_
     (try simp only [Act.put,List.getElem_toArray,List.getElem_cons_succ,List.getElem_cons_zero,List.setIfInBounds_toArray,List.set_cons_zero,List.set_cons_succ])
     refine wpAnyH_take (i:=6) (v:=.slice (some ⟨bq,oq,none⟩) y.pairs.length m3) rfl (by as_aux_lemma => kernel_rfl) (by as_aux_lemma => kernel_rfl) (by as_aux_lemma => kernel_rfl) (fun _ _ _ h => h) (Or.inl ⟨zz22,by intro Q hSw; have e_:=HN5.out Q hSw; go_simp⟩) hS ?_
     (try simp only [Act.put,List.getElem_toArray,List.getElem_cons_succ,List.getElem_cons_zero,List.setIfInBounds_toArray,List.set_cons_zero,List.set_cons_succ])
     refine wpAnyH_take (i:=7) (v:=.int .i64 (k : Int)) rfl (by as_aux_lemma => kernel_rfl) (by as_aux_lemma => kernel_rfl) (by as_aux_lemma => kernel_rfl) (fun _ _ _ h => h) (ya3 zz22 _ rfl zz22) hS ?_
     (try simp only [Act.put,List.getElem_toArray,List.getElem_cons_succ,List.getElem_cons_zero,List.setIfInBounds_toArray,List.set_cons_zero,List.set_cons_succ])
     refine wpAnyH_take (i:=8) (v:=.pointer (some ⟨bq,oq + k * 16,none⟩)) rfl (by as_aux_lemma => kernel_rfl) (by as_aux_lemma => kernel_rfl) (by as_aux_lemma => kernel_rfl) (fun _ _ _ h => h) (Or.inl ⟨zz22,by intro w hSw; go_simp⟩) hS ?_
     (try simp only [Act.put,List.getElem_toArray,List.getElem_cons_succ,List.getElem_cons_zero,List.setIfInBounds_toArray,List.set_cons_zero,List.set_cons_succ])
     refine wpAnyH_take (i:=9) (v:=.pointer (some ⟨bq,oq + k * 16,none⟩)) rfl (by as_aux_lemma => kernel_rfl) (by as_aux_lemma => kernel_rfl) (by as_aux_lemma => kernel_rfl) (fun _ _ _ h => h) (Or.inl ⟨zz22,by intro w hSw; go_simp⟩) hS ?_
     (try simp only [Act.put,List.getElem_toArray,List.getElem_cons_succ,List.getElem_cons_zero,List.setIfInBounds_toArray,List.set_cons_zero,List.set_cons_succ])
     refine wpAnyH_take (i:=10) (v:=.agg #[.int .i64 u.a.head.house, .int .i64 u.a.head.epoch, .string u.a.head.root, .string u.a.head.prev, .int .i64 u.a.sig.at_, .slice G0 u.a.sig.open_.length a0, .slice G1 u.a.sig.shut.length a1, .slice G2 u.a.sig.sides.length a2]) rfl (by as_aux_lemma => kernel_rfl) (by as_aux_lemma => kernel_rfl) (by as_aux_lemma => kernel_rfl) (fun _ _ _ h => h) (ya7 zz22 _ _ rfl rfl (fun _ h => HA3.out _ h) Tryz.underlying76 k_sl rfl) hS ?_
     (try simp only [Act.put,List.getElem_toArray,List.getElem_cons_succ,List.getElem_cons_zero,List.setIfInBounds_toArray,List.set_cons_zero,List.set_cons_succ])
     refine wpAnyH_take (i:=11) (v:=.pointer (some ⟨w3.heap.size,5,none⟩)) rfl (by as_aux_lemma => kernel_rfl) (by as_aux_lemma => kernel_rfl) (by as_aux_lemma => kernel_rfl) (fun _ _ _ h => h) (Or.inl ⟨zz22,by intro w hSw; go_simp⟩) hS ?_
     (try simp only [Act.put,List.getElem_toArray,List.getElem_cons_succ,List.getElem_cons_zero,List.setIfInBounds_toArray,List.set_cons_zero,List.set_cons_succ])
     refine wpAnyH_take (i:=12) (v:=.slice (some ⟨bq,oq,none⟩) y.pairs.length m3) rfl (by as_aux_lemma => kernel_rfl) (by as_aux_lemma => kernel_rfl) (by as_aux_lemma => kernel_rfl) (fun _ _ _ h => h) (Or.inl ⟨zz22,by intro Q hSw; have e_:=HN5.out Q hSw; go_simp⟩) hS ?_
     (try simp only [Act.put,List.getElem_toArray,List.getElem_cons_succ,List.getElem_cons_zero,List.setIfInBounds_toArray,List.set_cons_zero,List.set_cons_succ])
     refine wpAnyH_take (i:=13) (v:=.int .i64 (k : Int)) rfl (by as_aux_lemma => kernel_rfl) (by as_aux_lemma => kernel_rfl) (by as_aux_lemma => kernel_rfl) (fun _ _ _ h => h) (ya3 zz22 _ rfl zz22) hS ?_
     (try simp only [Act.put,List.getElem_toArray,List.getElem_cons_succ,List.getElem_cons_zero,List.setIfInBounds_toArray,List.set_cons_zero,List.set_cons_succ])
     refine wpAnyH_take (i:=14) (v:=.pointer (some ⟨bq,oq + k * 16,none⟩)) rfl (by as_aux_lemma => kernel_rfl) (by as_aux_lemma => kernel_rfl) (by as_aux_lemma => kernel_rfl) (fun _ _ _ h => h) (Or.inl ⟨zz22,by intro w hSw; go_simp⟩) hS ?_
     (try simp only [Act.put,List.getElem_toArray,List.getElem_cons_succ,List.getElem_cons_zero,List.setIfInBounds_toArray,List.set_cons_zero,List.set_cons_succ])
     refine wpAnyH_take (i:=15) (v:=.pointer (some ⟨bq,oq + k * 16 + 8,none⟩)) rfl (by as_aux_lemma => kernel_rfl) (by as_aux_lemma => kernel_rfl) (by as_aux_lemma => kernel_rfl) (fun _ _ _ h => h) (Or.inl ⟨zz22,by intro w hSw; go_simp⟩) hS ?_
     (try simp only [Act.put,List.getElem_toArray,List.getElem_cons_succ,List.getElem_cons_zero,List.setIfInBounds_toArray,List.set_cons_zero,List.set_cons_succ])
     refine wpAnyH_take (i:=16) (v:=.agg #[.int .i64 u.b.head.house, .int .i64 u.b.head.epoch, .string u.b.head.root, .string u.b.head.prev, .int .i64 u.b.sig.at_, .slice K0 u.b.sig.open_.length b0, .slice K1 u.b.sig.shut.length b1, .slice K2 u.b.sig.sides.length b2]) rfl (by as_aux_lemma => kernel_rfl) (by as_aux_lemma => kernel_rfl) (by as_aux_lemma => kernel_rfl) (fun _ _ _ h => h) (ya7 zz22 _ _ rfl rfl (fun _ h => HA4.out _ h) Tryz.underlying76 k_sl rfl) hS ?_
     (try simp only [Act.put,List.getElem_toArray,List.getElem_cons_succ,List.getElem_cons_zero,List.setIfInBounds_toArray,List.set_cons_zero,List.set_cons_succ])
     refine wpAnyH_ready (rs:=[4,17]) (by as_aux_lemma => kernel_rfl) zz17 (AllReadyH.cons rfl (fun K hK => ?_) (AllReadyH.cons rfl (fun K hK => ?_) AllReadyH.nil))
     ·skip
      clear hS
      refine wp_buildTwo rfl _ _ rfl rfl rfl ?_
      have hl_ : Z.heap.size ≤ Z.drew.heap.size:=HV.out.size
      obtain ⟨wb14,hwa⟩ : ∃ W,Z.drew.alloc (.cells #[.int .i64 s.a.head.house, .int .i64 s.a.head.epoch, .string s.a.head.root, .string s.a.head.prev, .int .i64 s.a.sig.at_, .slice F0 s.a.sig.open_.length g0, .slice F1 s.a.sig.shut.length g1, .slice F2 s.a.sig.sides.length g2, .int .i64 s.b.head.house, .int .i64 s.b.head.epoch, .string s.b.head.root, .string s.b.head.prev, .int .i64 s.b.sig.at_, .slice H0 s.b.sig.open_.length i0, .slice H1 s.b.sig.shut.length i1, .slice H2 s.b.sig.sides.length i2] 76) = W:=⟨_,rfl⟩
      have RWs : Hid (Row false wb14 (some ⟨Z.drew.heap.size,0,none⟩) 2 [s.a,s.b] All):=zd zz25
      have hb_ : Below Z.drew.heap.size Z.drew wb14:=zz19
      replace HV : Hid (Below Z.heap.size Z wb14):=zd (Below.step (a:=Z) HV.out hb_)
      rw [hwa]
      clear hwa
      clear hb_
      refine hK.out _ _ HV.out (fun hS => ?_)
      clear hK K
      (try simp only [Act.put,List.getElem_toArray,List.getElem_cons_succ,List.getElem_cons_zero,List.setIfInBounds_toArray,List.set_cons_zero,List.set_cons_succ])
      refine wpAnyH_ready (rs:=[17]) (by as_aux_lemma => kernel_rfl) zz17 (AllReadyH.cons rfl (fun K hK => ?_) AllReadyH.nil)
      clear hS
      refine wp_buildTwo rfl _ _ rfl rfl rfl ?_
      have hl_ : Z.heap.size ≤ wb14.heap.size:=HV.out.size
      obtain ⟨wb24,hwa⟩ : ∃ W,wb14.alloc (.cells #[.int .i64 u.a.head.house, .int .i64 u.a.head.epoch, .string u.a.head.root, .string u.a.head.prev, .int .i64 u.a.sig.at_, .slice G0 u.a.sig.open_.length a0, .slice G1 u.a.sig.shut.length a1, .slice G2 u.a.sig.sides.length a2, .int .i64 u.b.head.house, .int .i64 u.b.head.epoch, .string u.b.head.root, .string u.b.head.prev, .int .i64 u.b.sig.at_, .slice K0 u.b.sig.open_.length b0, .slice K1 u.b.sig.shut.length b1, .slice K2 u.b.sig.sides.length b2] 76) = W:=⟨_,rfl⟩
      have RWu : Hid (Row false wb24 (some ⟨wb14.heap.size,0,none⟩) 2 [u.a,u.b] All):=zd zz26
      have hb_ : Below wb14.heap.size wb14 wb24:=zz19
      replace HV : Hid (Below Z.heap.size Z wb24):=zd (Below.step (a:=Z) HV.out hb_)
      rw [hwa]
      clear hwa
      replace RWs:=zd (Row.later RWs.out hb_)
      clear hb_
      refine hK.out _ _ HV.out (fun hS => ?_)
      clear hK K
      (try simp only [Act.put,List.getElem_toArray,List.getElem_cons_succ,List.getElem_cons_zero,List.setIfInBounds_toArray,List.set_cons_zero,List.set_cons_succ])
      refine wpAnyH_ready (rs:=[18]) (by as_aux_lemma => kernel_rfl) zz17 (AllReadyH.cons rfl (fun K hK => ?_) AllReadyH.nil)
      (try rw [if_pos zz22])
      clear hS
      go_simp
      have hl2_ : Z.heap.size ≤ wb24.heap.size:=HV.out.size
      have HCC:=zd (spec_sameSeals wb24 [s.a,s.b] _ 2 All RWs.out [u.a,u.b] _ 2 All RWu.out (show 2 ≤ 4000000000 by decide) HG2.out)
      rw [HEQ.out] at HCC
      refine HCC.out.mono ?_
      rintro e_ wc4s ⟨rfl,hb_⟩
      replace HV : Hid (Below Z.heap.size Z wc4s):=zd (Below.step (a:=Z) HV.out hb_)
      clear hb_ HCC RWs RWu
      refine hK.out _ _ HV.out (fun hS => ?_)
      clear hK K
      (try simp only [Act.put,List.getElem_toArray,List.getElem_cons_succ,List.getElem_cons_zero,List.setIfInBounds_toArray,List.set_cons_zero,List.set_cons_succ])
      refine wpAnyH_take (i:=19) (v:=.bool false) rfl (by as_aux_lemma => kernel_rfl) (by as_aux_lemma => kernel_rfl) (by as_aux_lemma => kernel_rfl) (fun _ _ _ h => h) (Or.inl ⟨zz22,by intro w hSw; go_simp⟩) hS ?_
      (try simp only [Act.put,List.getElem_toArray,List.getElem_cons_succ,List.getElem_cons_zero,List.setIfInBounds_toArray,List.set_cons_zero,List.set_cons_succ])
      refine wpAnyH_take (i:=20) (v:=.bool false) rfl (by as_aux_lemma => kernel_rfl) (by as_aux_lemma => kernel_rfl) (by as_aux_lemma => kernel_rfl) (fun _ _ _ h => h) (ya3 zz22 _ rfl zz22) hS ?_
      (try simp only [Act.put,List.getElem_toArray,List.getElem_cons_succ,List.getElem_cons_zero,List.setIfInBounds_toArray,List.set_cons_zero,List.set_cons_succ])
      refine wpAnyH_take (i:=21) (v:=.pointer (some ⟨bh,0,none⟩)) rfl (by as_aux_lemma => kernel_rfl) (by as_aux_lemma => kernel_rfl) (by as_aux_lemma => kernel_rfl) (fun _ _ _ h => h) (Or.inl ⟨zz22,by intro w hSw; go_simp⟩) hS ?_
      (try simp only [Act.put,List.getElem_toArray,List.getElem_cons_succ,List.getElem_cons_zero,List.setIfInBounds_toArray,List.set_cons_zero,List.set_cons_succ])
      refine wpAnyH_take (i:=22) (v:=.int .i64 s.a.head.house) rfl (by as_aux_lemma => kernel_rfl) (by as_aux_lemma => kernel_rfl) (by as_aux_lemma => kernel_rfl) (fun _ _ _ h => h) (Or.inl ⟨zz22,by intro Q hSw; have e_:=HH0.out Q hSw; go_simp⟩) hS ?_
      (try simp only [Act.put,List.getElem_toArray,List.getElem_cons_succ,List.getElem_cons_zero,List.setIfInBounds_toArray,List.set_cons_zero,List.set_cons_succ])
      refine wpAnyH_take (i:=23) (v:=.pointer (some ⟨w.heap.size,0,none⟩)) rfl (by as_aux_lemma => kernel_rfl) (by as_aux_lemma => kernel_rfl) (by as_aux_lemma => kernel_rfl) (fun _ _ _ h => h) (Or.inl ⟨zz22,by intro w hSw; go_simp⟩) hS ?_
      (try simp only [Act.put,List.getElem_toArray,List.getElem_cons_succ,List.getElem_cons_zero,List.setIfInBounds_toArray,List.set_cons_zero,List.set_cons_succ])
      refine wpAnyH_take (i:=24) (v:=.int .i64 x.house) rfl (by as_aux_lemma => kernel_rfl) (by as_aux_lemma => kernel_rfl) (by as_aux_lemma => kernel_rfl) (fun _ _ _ h => h) (Or.inl ⟨zz22,by intro Q hSw; have e_:=HV0.out Q hSw; go_simp⟩) hS ?_
      (try simp only [Act.put,List.getElem_toArray,List.getElem_cons_succ,List.getElem_cons_zero,List.setIfInBounds_toArray,List.set_cons_zero,List.set_cons_succ])
      refine wpAnyH_take (i:=25) (v:=.bool false) rfl (by as_aux_lemma => kernel_rfl) (by as_aux_lemma => kernel_rfl) (by as_aux_lemma => kernel_rfl) (fun _ _ _ h => h) (Or.inl ⟨zz22,by intro w hSw; go_simp⟩) hS ?_
      (try simp only [Act.put,List.getElem_toArray,List.getElem_cons_succ,List.getElem_cons_zero,List.setIfInBounds_toArray,List.set_cons_zero,List.set_cons_succ])
      refine wpAnyH_take (i:=26) (v:=.bool false) rfl (by as_aux_lemma => kernel_rfl) (by as_aux_lemma => kernel_rfl) (by as_aux_lemma => kernel_rfl) (fun _ _ _ h => h) (Or.inl ⟨zz22,by intro w hSw; go_simp⟩) hS ?_
      (try simp only [Act.put,List.getElem_toArray,List.getElem_cons_succ,List.getElem_cons_zero,List.setIfInBounds_toArray,List.set_cons_zero,List.set_cons_succ])
      refine wpAnyH_take (i:=27) (v:=.bool false) rfl (by as_aux_lemma => kernel_rfl) (by as_aux_lemma => kernel_rfl) (by as_aux_lemma => kernel_rfl) (fun _ _ _ h => h) (ya3 zz22 _ rfl zz22) hS ?_
      (try simp only [Act.put,List.getElem_toArray,List.getElem_cons_succ,List.getElem_cons_zero,List.setIfInBounds_toArray,List.set_cons_zero,List.set_cons_succ])
      refine wpAnyH_take (i:=28) (v:=.pointer (some ⟨bh,0,none⟩)) rfl (by as_aux_lemma => kernel_rfl) (by as_aux_lemma => kernel_rfl) (by as_aux_lemma => kernel_rfl) (fun _ _ _ h => h) (Or.inl ⟨zz22,by intro w hSw; go_simp⟩) hS ?_
      (try simp only [Act.put,List.getElem_toArray,List.getElem_cons_succ,List.getElem_cons_zero,List.setIfInBounds_toArray,List.set_cons_zero,List.set_cons_succ])
      refine wpAnyH_take (i:=29) (v:=.int .i64 s.a.head.house) rfl (by as_aux_lemma => kernel_rfl) (by as_aux_lemma => kernel_rfl) (by as_aux_lemma => kernel_rfl) (fun _ _ _ h => h) (Or.inl ⟨zz22,by intro Q hSw; have e_:=HH0.out Q hSw; go_simp⟩) hS ?_
      (try simp only [Act.put,List.getElem_toArray,List.getElem_cons_succ,List.getElem_cons_zero,List.setIfInBounds_toArray,List.set_cons_zero,List.set_cons_succ])
      refine wpAnyH_take (i:=30) (v:=.slice (some ⟨bR,oR,none⟩) roots.length kR) rfl (by as_aux_lemma => kernel_rfl) (by as_aux_lemma => kernel_rfl) (by as_aux_lemma => kernel_rfl) (fun _ _ _ h => h) (ya3 zz22 _ rfl zz22) hS ?_
      (try simp only [Act.put,List.getElem_toArray,List.getElem_cons_succ,List.getElem_cons_zero,List.setIfInBounds_toArray,List.set_cons_zero,List.set_cons_succ])
      refine wpAnyH_take (i:=31) (v:=.int .i64 (roots.length : Int)) rfl (by as_aux_lemma => kernel_rfl) (by as_aux_lemma => kernel_rfl) (by as_aux_lemma => kernel_rfl) (fun _ _ _ h => h) (Or.inl ⟨zz22,by intro w hSw; go_simp⟩) hS ?_
      (try simp only [Act.put,List.getElem_toArray,List.getElem_cons_succ,List.getElem_cons_zero,List.setIfInBounds_toArray,List.set_cons_zero,List.set_cons_succ])
      refine wpAnyH_take (i:=32) (v:=.int .i64 ((roots.length : Int) - 1)) rfl (by as_aux_lemma => kernel_rfl) (by as_aux_lemma => kernel_rfl) (by as_aux_lemma => kernel_rfl) (fun _ _ _ h => h) (Or.inl ⟨zz22,by intro w hSw; go_simp⟩) hS ?_
      (try simp only [Act.put,List.getElem_toArray,List.getElem_cons_succ,List.getElem_cons_zero,List.setIfInBounds_toArray,List.set_cons_zero,List.set_cons_succ])
      refine wpAnyH_ready (rs:=[33]) (by as_aux_lemma => kernel_rfl) zz17 (AllReadyH.cons rfl (fun K hK => ?_) AllReadyH.nil)
      (try rw [if_pos zz22])
      clear hS
      go_simp
      refine (HCL.out _).mono ?_
      rintro e_ v_ ⟨rfl,rfl⟩
      refine hK.out _ _ HV.out (fun hS => ?_)
      clear hK K
      (try simp only [Act.put,List.getElem_toArray,List.getElem_cons_succ,List.getElem_cons_zero,List.setIfInBounds_toArray,List.set_cons_zero,List.set_cons_succ])
      refine wpAnyH_take (i:=34) (v:=.bool false) rfl (by as_aux_lemma => kernel_rfl) (by as_aux_lemma => kernel_rfl) (by as_aux_lemma => kernel_rfl) (fun _ _ _ h => h) (Or.inl ⟨zz22,by intro w hSw; go_simp⟩) hS ?_
      (try simp only [Act.put,List.getElem_toArray,List.getElem_cons_succ,List.getElem_cons_zero,List.setIfInBounds_toArray,List.set_cons_zero,List.set_cons_succ])
      refine wpAnyH_take (i:=35) (v:=.bool false) rfl (by as_aux_lemma => kernel_rfl) (by as_aux_lemma => kernel_rfl) (by as_aux_lemma => kernel_rfl) (fun _ _ _ h => h) (Or.inl ⟨zz22,by intro w hSw; go_simp⟩) hS ?_
      (try simp only [Act.put,List.getElem_toArray,List.getElem_cons_succ,List.getElem_cons_zero,List.setIfInBounds_toArray,List.set_cons_zero,List.set_cons_succ])
      refine wpAnyH_take (i:=36) (v:=.bool false) rfl (by as_aux_lemma => kernel_rfl) (by as_aux_lemma => kernel_rfl) (by as_aux_lemma => kernel_rfl) (fun _ _ _ h => h) (ya3 zz22 _ rfl zz22) hS ?_
      (try simp only [Act.put,List.getElem_toArray,List.getElem_cons_succ,List.getElem_cons_zero,List.setIfInBounds_toArray,List.set_cons_zero,List.set_cons_succ])
      refine wpAnyH_take (i:=37) (v:=.slice (some ⟨bR,oR,none⟩) roots.length kR) rfl (by as_aux_lemma => kernel_rfl) (by as_aux_lemma => kernel_rfl) (by as_aux_lemma => kernel_rfl) (fun _ _ _ h => h) (ya3 zz22 _ rfl zz22) hS ?_
      (try simp only [Act.put,List.getElem_toArray,List.getElem_cons_succ,List.getElem_cons_zero,List.setIfInBounds_toArray,List.set_cons_zero,List.set_cons_succ])
      refine wpAnyH_take (i:=38) (v:=.pointer (some ⟨bh,0,none⟩)) rfl (by as_aux_lemma => kernel_rfl) (by as_aux_lemma => kernel_rfl) (by as_aux_lemma => kernel_rfl) (fun _ _ _ h => h) (Or.inl ⟨zz22,by intro w hSw; go_simp⟩) hS ?_
      (try simp only [Act.put,List.getElem_toArray,List.getElem_cons_succ,List.getElem_cons_zero,List.setIfInBounds_toArray,List.set_cons_zero,List.set_cons_succ])
      refine wpAnyH_take (i:=39) (v:=.int .i64 s.a.head.house) rfl (by as_aux_lemma => kernel_rfl) (by as_aux_lemma => kernel_rfl) (by as_aux_lemma => kernel_rfl) (fun _ _ _ h => h) (Or.inl ⟨zz22,by intro Q hSw; have e_:=HH0.out Q hSw; go_simp⟩) hS ?_
      (try simp only [Act.put,List.getElem_toArray,List.getElem_cons_succ,List.getElem_cons_zero,List.setIfInBounds_toArray,List.set_cons_zero,List.set_cons_succ])
      refine wpAnyH_take (i:=40) (v:=.pointer (some ⟨bR,oR + j,none⟩)) rfl (by as_aux_lemma => kernel_rfl) (by as_aux_lemma => kernel_rfl) (by as_aux_lemma => kernel_rfl) (fun _ _ _ h => h) (Or.inl ⟨zz22,by intro Q hSw; have e_:=HJ.out; go_simp⟩) hS ?_
      (try simp only [Act.put,List.getElem_toArray,List.getElem_cons_succ,List.getElem_cons_zero,List.setIfInBounds_toArray,List.set_cons_zero,List.set_cons_succ])
      refine wpAnyH_take (i:=41) (v:=.string rt) rfl (by as_aux_lemma => kernel_rfl) (by as_aux_lemma => kernel_rfl) (by as_aux_lemma => kernel_rfl) (fun _ _ _ h => h) (Or.inl ⟨zz22,by intro Q hSw; have e_:=HRTC.out Q hSw; go_simp⟩) hS ?_
      (try simp only [Act.put,List.getElem_toArray,List.getElem_cons_succ,List.getElem_cons_zero,List.setIfInBounds_toArray,List.set_cons_zero,List.set_cons_succ])
      refine wpAnyH_take (i:=42) (v:=.agg #[.int .i64 s.a.head.house, .int .i64 s.a.head.epoch, .string s.a.head.root, .string s.a.head.prev, .int .i64 s.a.sig.at_, .slice F0 s.a.sig.open_.length g0, .slice F1 s.a.sig.shut.length g1, .slice F2 s.a.sig.sides.length g2, .int .i64 s.b.head.house, .int .i64 s.b.head.epoch, .string s.b.head.root, .string s.b.head.prev, .int .i64 s.b.sig.at_, .slice H0 s.b.sig.open_.length i0, .slice H1 s.b.sig.shut.length i1, .slice H2 s.b.sig.sides.length i2]) rfl (by as_aux_lemma => kernel_rfl) (by as_aux_lemma => kernel_rfl) (by as_aux_lemma => kernel_rfl) (fun _ _ _ h => h) (ya7 zz22 _ _ rfl rfl (fun _ h => HA12.out _ h) Tryz.underlying79 k_pr rfl) hS ?_
      (try simp only [Act.put,List.getElem_toArray,List.getElem_cons_succ,List.getElem_cons_zero,List.setIfInBounds_toArray,List.set_cons_zero,List.set_cons_succ])
      refine wpAnyH_ready (rs:=[43]) (by as_aux_lemma => kernel_rfl) zz17 (AllReadyH.cons rfl (fun K hK => ?_) AllReadyH.nil)
      (try rw [if_pos zz22])
      clear hS
      go_simp
      refine (HOK.out _ HV.out).mono ?_
      rintro e_ we4s ⟨rfl,hb_⟩
      replace HV : Hid (Below Z.heap.size Z we4s):=zd (Below.step (a:=Z) HV.out hb_)
      clear hb_
      refine hK.out _ _ HV.out (fun hS => ?_)
      clear hK K
      (try simp only [Act.put,List.getElem_toArray,List.getElem_cons_succ,List.getElem_cons_zero,List.setIfInBounds_toArray,List.set_cons_zero,List.set_cons_succ])
      refine wpAnyH_take (i:=44) (v:=.bool true) rfl (by as_aux_lemma => kernel_rfl) (by as_aux_lemma => kernel_rfl) (by as_aux_lemma => kernel_rfl) (fun _ _ _ h => h) (Or.inl ⟨zz22,by intro w hSw; go_simp⟩) hS ?_
      (try simp only [Act.put,List.getElem_toArray,List.getElem_cons_succ,List.getElem_cons_zero,List.setIfInBounds_toArray,List.set_cons_zero,List.set_cons_succ])
      refine wpAnyH_take (i:=45) (v:=.bool true) rfl (by as_aux_lemma => kernel_rfl) (by as_aux_lemma => kernel_rfl) (by as_aux_lemma => kernel_rfl) (fun _ _ _ h => h) (Or.inl ⟨zz22,by intro w hSw; go_simp⟩) hS ?_
      (try simp only [Act.put,List.getElem_toArray,List.getElem_cons_succ,List.getElem_cons_zero,List.setIfInBounds_toArray,List.set_cons_zero,List.set_cons_succ])
      refine wpAnyH_done (by as_aux_lemma => kernel_rfl) ?_ _
      clear hS
      have HB7:=zd (HBZ.out.trans (HV.out.mono HBZ.out.size))
      go_wp2_with (fail)
      go_ret
      exact ⟨ya1 zz24,HBV.out.trans (HB7.out.mono HBV.out.size)⟩
     ·skip
      clear hS
      refine wp_buildTwo rfl _ _ rfl rfl rfl ?_
      have hl_ : Z.heap.size ≤ Z.drew.heap.size:=HV.out.size
      obtain ⟨wb34,hwa⟩ : ∃ W,Z.drew.alloc (.cells #[.int .i64 u.a.head.house, .int .i64 u.a.head.epoch, .string u.a.head.root, .string u.a.head.prev, .int .i64 u.a.sig.at_, .slice G0 u.a.sig.open_.length a0, .slice G1 u.a.sig.shut.length a1, .slice G2 u.a.sig.sides.length a2, .int .i64 u.b.head.house, .int .i64 u.b.head.epoch, .string u.b.head.root, .string u.b.head.prev, .int .i64 u.b.sig.at_, .slice K0 u.b.sig.open_.length b0, .slice K1 u.b.sig.shut.length b1, .slice K2 u.b.sig.sides.length b2] 76) = W:=⟨_,rfl⟩
      have RWu : Hid (Row false wb34 (some ⟨Z.drew.heap.size,0,none⟩) 2 [u.a,u.b] All):=zd zz26
      have hb_ : Below Z.drew.heap.size Z.drew wb34:=zz19
      replace HV : Hid (Below Z.heap.size Z wb34):=zd (Below.step (a:=Z) HV.out hb_)
      rw [hwa]
      clear hwa
      clear hb_
      refine hK.out _ _ HV.out (fun hS => ?_)
      clear hK K
      (try simp only [Act.put,List.getElem_toArray,List.getElem_cons_succ,List.getElem_cons_zero,List.setIfInBounds_toArray,List.set_cons_zero,List.set_cons_succ])
      refine wpAnyH_ready (rs:=[4]) (by as_aux_lemma => kernel_rfl) zz17 (AllReadyH.cons rfl (fun K hK => ?_) AllReadyH.nil)
      clear hS
      refine wp_buildTwo rfl _ _ rfl rfl rfl ?_
      have hl_ : Z.heap.size ≤ wb34.heap.size:=HV.out.size
      obtain ⟨wb44,hwa⟩ : ∃ W,wb34.alloc (.cells #[.int .i64 s.a.head.house, .int .i64 s.a.head.epoch, .string s.a.head.root, .string s.a.head.prev, .int .i64 s.a.sig.at_, .slice F0 s.a.sig.open_.length g0, .slice F1 s.a.sig.shut.length g1, .slice F2 s.a.sig.sides.length g2, .int .i64 s.b.head.house, .int .i64 s.b.head.epoch, .string s.b.head.root, .string s.b.head.prev, .int .i64 s.b.sig.at_, .slice H0 s.b.sig.open_.length i0, .slice H1 s.b.sig.shut.length i1, .slice H2 s.b.sig.sides.length i2] 76) = W:=⟨_,rfl⟩
      have RWs : Hid (Row false wb44 (some ⟨wb34.heap.size,0,none⟩) 2 [s.a,s.b] All):=zd zz25
      have hb_ : Below wb34.heap.size wb34 wb44:=zz19
      replace HV : Hid (Below Z.heap.size Z wb44):=zd (Below.step (a:=Z) HV.out hb_)
      rw [hwa]
      clear hwa
      replace RWu:=zd (Row.later RWu.out hb_)
      clear hb_
      refine hK.out _ _ HV.out (fun hS => ?_)
      clear hK K
      (try simp only [Act.put,List.getElem_toArray,List.getElem_cons_succ,List.getElem_cons_zero,List.setIfInBounds_toArray,List.set_cons_zero,List.set_cons_succ])
      refine wpAnyH_ready (rs:=[18]) (by as_aux_lemma => kernel_rfl) zz17 (AllReadyH.cons rfl (fun K hK => ?_) AllReadyH.nil)
      (try rw [if_pos zz22])
      clear hS
      go_simp
      have hl2_ : Z.heap.size ≤ wb44.heap.size:=HV.out.size
      have HCC:=zd (spec_sameSeals wb44 [s.a,s.b] _ 2 All RWs.out [u.a,u.b] _ 2 All RWu.out (show 2 ≤ 4000000000 by decide) HG2.out)
      rw [HEQ.out] at HCC
      refine HCC.out.mono ?_
      rintro e_ wc4u ⟨rfl,hb_⟩
      replace HV : Hid (Below Z.heap.size Z wc4u):=zd (Below.step (a:=Z) HV.out hb_)
      clear hb_ HCC RWs RWu
      refine hK.out _ _ HV.out (fun hS => ?_)
      clear hK K
      (try simp only [Act.put,List.getElem_toArray,List.getElem_cons_succ,List.getElem_cons_zero,List.setIfInBounds_toArray,List.set_cons_zero,List.set_cons_succ])
      refine wpAnyH_take (i:=19) (v:=.bool false) rfl (by as_aux_lemma => kernel_rfl) (by as_aux_lemma => kernel_rfl) (by as_aux_lemma => kernel_rfl) (fun _ _ _ h => h) (Or.inl ⟨zz22,by intro w hSw; go_simp⟩) hS ?_
      (try simp only [Act.put,List.getElem_toArray,List.getElem_cons_succ,List.getElem_cons_zero,List.setIfInBounds_toArray,List.set_cons_zero,List.set_cons_succ])
      refine wpAnyH_take (i:=20) (v:=.bool false) rfl (by as_aux_lemma => kernel_rfl) (by as_aux_lemma => kernel_rfl) (by as_aux_lemma => kernel_rfl) (fun _ _ _ h => h) (ya3 zz22 _ rfl zz22) hS ?_
      (try simp only [Act.put,List.getElem_toArray,List.getElem_cons_succ,List.getElem_cons_zero,List.setIfInBounds_toArray,List.set_cons_zero,List.set_cons_succ])
      refine wpAnyH_take (i:=21) (v:=.pointer (some ⟨bh,0,none⟩)) rfl (by as_aux_lemma => kernel_rfl) (by as_aux_lemma => kernel_rfl) (by as_aux_lemma => kernel_rfl) (fun _ _ _ h => h) (Or.inl ⟨zz22,by intro w hSw; go_simp⟩) hS ?_
      (try simp only [Act.put,List.getElem_toArray,List.getElem_cons_succ,List.getElem_cons_zero,List.setIfInBounds_toArray,List.set_cons_zero,List.set_cons_succ])
      refine wpAnyH_take (i:=22) (v:=.int .i64 s.a.head.house) rfl (by as_aux_lemma => kernel_rfl) (by as_aux_lemma => kernel_rfl) (by as_aux_lemma => kernel_rfl) (fun _ _ _ h => h) (Or.inl ⟨zz22,by intro Q hSw; have e_:=HH0.out Q hSw; go_simp⟩) hS ?_
      (try simp only [Act.put,List.getElem_toArray,List.getElem_cons_succ,List.getElem_cons_zero,List.setIfInBounds_toArray,List.set_cons_zero,List.set_cons_succ])
      refine wpAnyH_take (i:=23) (v:=.pointer (some ⟨w.heap.size,0,none⟩)) rfl (by as_aux_lemma => kernel_rfl) (by as_aux_lemma => kernel_rfl) (by as_aux_lemma => kernel_rfl) (fun _ _ _ h => h) (Or.inl ⟨zz22,by intro w hSw; go_simp⟩) hS ?_
      (try simp only [Act.put,List.getElem_toArray,List.getElem_cons_succ,List.getElem_cons_zero,List.setIfInBounds_toArray,List.set_cons_zero,List.set_cons_succ])
      refine wpAnyH_take (i:=24) (v:=.int .i64 x.house) rfl (by as_aux_lemma => kernel_rfl) (by as_aux_lemma => kernel_rfl) (by as_aux_lemma => kernel_rfl) (fun _ _ _ h => h) (Or.inl ⟨zz22,by intro Q hSw; have e_:=HV0.out Q hSw; go_simp⟩) hS ?_
      (try simp only [Act.put,List.getElem_toArray,List.getElem_cons_succ,List.getElem_cons_zero,List.setIfInBounds_toArray,List.set_cons_zero,List.set_cons_succ])
      refine wpAnyH_take (i:=25) (v:=.bool false) rfl (by as_aux_lemma => kernel_rfl) (by as_aux_lemma => kernel_rfl) (by as_aux_lemma => kernel_rfl) (fun _ _ _ h => h) (Or.inl ⟨zz22,by intro w hSw; go_simp⟩) hS ?_
      (try simp only [Act.put,List.getElem_toArray,List.getElem_cons_succ,List.getElem_cons_zero,List.setIfInBounds_toArray,List.set_cons_zero,List.set_cons_succ])
      refine wpAnyH_take (i:=26) (v:=.bool false) rfl (by as_aux_lemma => kernel_rfl) (by as_aux_lemma => kernel_rfl) (by as_aux_lemma => kernel_rfl) (fun _ _ _ h => h) (Or.inl ⟨zz22,by intro w hSw; go_simp⟩) hS ?_
      (try simp only [Act.put,List.getElem_toArray,List.getElem_cons_succ,List.getElem_cons_zero,List.setIfInBounds_toArray,List.set_cons_zero,List.set_cons_succ])
      refine wpAnyH_take (i:=27) (v:=.bool false) rfl (by as_aux_lemma => kernel_rfl) (by as_aux_lemma => kernel_rfl) (by as_aux_lemma => kernel_rfl) (fun _ _ _ h => h) (ya3 zz22 _ rfl zz22) hS ?_
      (try simp only [Act.put,List.getElem_toArray,List.getElem_cons_succ,List.getElem_cons_zero,List.setIfInBounds_toArray,List.set_cons_zero,List.set_cons_succ])
      refine wpAnyH_take (i:=28) (v:=.pointer (some ⟨bh,0,none⟩)) rfl (by as_aux_lemma => kernel_rfl) (by as_aux_lemma => kernel_rfl) (by as_aux_lemma => kernel_rfl) (fun _ _ _ h => h) (Or.inl ⟨zz22,by intro w hSw; go_simp⟩) hS ?_
      (try simp only [Act.put,List.getElem_toArray,List.getElem_cons_succ,List.getElem_cons_zero,List.setIfInBounds_toArray,List.set_cons_zero,List.set_cons_succ])
      refine wpAnyH_take (i:=29) (v:=.int .i64 s.a.head.house) rfl (by as_aux_lemma => kernel_rfl) (by as_aux_lemma => kernel_rfl) (by as_aux_lemma => kernel_rfl) (fun _ _ _ h => h) (Or.inl ⟨zz22,by intro Q hSw; have e_:=HH0.out Q hSw; go_simp⟩) hS ?_
      (try simp only [Act.put,List.getElem_toArray,List.getElem_cons_succ,List.getElem_cons_zero,List.setIfInBounds_toArray,List.set_cons_zero,List.set_cons_succ])
      refine wpAnyH_take (i:=30) (v:=.slice (some ⟨bR,oR,none⟩) roots.length kR) rfl (by as_aux_lemma => kernel_rfl) (by as_aux_lemma => kernel_rfl) (by as_aux_lemma => kernel_rfl) (fun _ _ _ h => h) (ya3 zz22 _ rfl zz22) hS ?_
      (try simp only [Act.put,List.getElem_toArray,List.getElem_cons_succ,List.getElem_cons_zero,List.setIfInBounds_toArray,List.set_cons_zero,List.set_cons_succ])
      refine wpAnyH_take (i:=31) (v:=.int .i64 (roots.length : Int)) rfl (by as_aux_lemma => kernel_rfl) (by as_aux_lemma => kernel_rfl) (by as_aux_lemma => kernel_rfl) (fun _ _ _ h => h) (Or.inl ⟨zz22,by intro w hSw; go_simp⟩) hS ?_
      (try simp only [Act.put,List.getElem_toArray,List.getElem_cons_succ,List.getElem_cons_zero,List.setIfInBounds_toArray,List.set_cons_zero,List.set_cons_succ])
      refine wpAnyH_take (i:=32) (v:=.int .i64 ((roots.length : Int) - 1)) rfl (by as_aux_lemma => kernel_rfl) (by as_aux_lemma => kernel_rfl) (by as_aux_lemma => kernel_rfl) (fun _ _ _ h => h) (Or.inl ⟨zz22,by intro w hSw; go_simp⟩) hS ?_
      (try simp only [Act.put,List.getElem_toArray,List.getElem_cons_succ,List.getElem_cons_zero,List.setIfInBounds_toArray,List.set_cons_zero,List.set_cons_succ])
      refine wpAnyH_ready (rs:=[33]) (by as_aux_lemma => kernel_rfl) zz17 (AllReadyH.cons rfl (fun K hK => ?_) AllReadyH.nil)
      (try rw [if_pos zz22])
      clear hS
      go_simp
      refine (HCL.out _).mono ?_
      rintro e_ v_ ⟨rfl,rfl⟩
      refine hK.out _ _ HV.out (fun hS => ?_)
      clear hK K
      (try simp only [Act.put,List.getElem_toArray,List.getElem_cons_succ,List.getElem_cons_zero,List.setIfInBounds_toArray,List.set_cons_zero,List.set_cons_succ])
      refine wpAnyH_take (i:=34) (v:=.bool false) rfl (by as_aux_lemma => kernel_rfl) (by as_aux_lemma => kernel_rfl) (by as_aux_lemma => kernel_rfl) (fun _ _ _ h => h) (Or.inl ⟨zz22,by intro w hSw; go_simp⟩) hS ?_
      (try simp only [Act.put,List.getElem_toArray,List.getElem_cons_succ,List.getElem_cons_zero,List.setIfInBounds_toArray,List.set_cons_zero,List.set_cons_succ])
      refine wpAnyH_take (i:=35) (v:=.bool false) rfl (by as_aux_lemma => kernel_rfl) (by as_aux_lemma => kernel_rfl) (by as_aux_lemma => kernel_rfl) (fun _ _ _ h => h) (Or.inl ⟨zz22,by intro w hSw; go_simp⟩) hS ?_
      (try simp only [Act.put,List.getElem_toArray,List.getElem_cons_succ,List.getElem_cons_zero,List.setIfInBounds_toArray,List.set_cons_zero,List.set_cons_succ])
      refine wpAnyH_take (i:=36) (v:=.bool false) rfl (by as_aux_lemma => kernel_rfl) (by as_aux_lemma => kernel_rfl) (by as_aux_lemma => kernel_rfl) (fun _ _ _ h => h) (ya3 zz22 _ rfl zz22) hS ?_
      (try simp only [Act.put,List.getElem_toArray,List.getElem_cons_succ,List.getElem_cons_zero,List.setIfInBounds_toArray,List.set_cons_zero,List.set_cons_succ])
      refine wpAnyH_take (i:=37) (v:=.slice (some ⟨bR,oR,none⟩) roots.length kR) rfl (by as_aux_lemma => kernel_rfl) (by as_aux_lemma => kernel_rfl) (by as_aux_lemma => kernel_rfl) (fun _ _ _ h => h) (ya3 zz22 _ rfl zz22) hS ?_
      (try simp only [Act.put,List.getElem_toArray,List.getElem_cons_succ,List.getElem_cons_zero,List.setIfInBounds_toArray,List.set_cons_zero,List.set_cons_succ])
      refine wpAnyH_take (i:=38) (v:=.pointer (some ⟨bh,0,none⟩)) rfl (by as_aux_lemma => kernel_rfl) (by as_aux_lemma => kernel_rfl) (by as_aux_lemma => kernel_rfl) (fun _ _ _ h => h) (Or.inl ⟨zz22,by intro w hSw; go_simp⟩) hS ?_
      (try simp only [Act.put,List.getElem_toArray,List.getElem_cons_succ,List.getElem_cons_zero,List.setIfInBounds_toArray,List.set_cons_zero,List.set_cons_succ])
      refine wpAnyH_take (i:=39) (v:=.int .i64 s.a.head.house) rfl (by as_aux_lemma => kernel_rfl) (by as_aux_lemma => kernel_rfl) (by as_aux_lemma => kernel_rfl) (fun _ _ _ h => h) (Or.inl ⟨zz22,by intro Q hSw; have e_:=HH0.out Q hSw; go_simp⟩) hS ?_
      (try simp only [Act.put,List.getElem_toArray,List.getElem_cons_succ,List.getElem_cons_zero,List.setIfInBounds_toArray,List.set_cons_zero,List.set_cons_succ])
      refine wpAnyH_take (i:=40) (v:=.pointer (some ⟨bR,oR + j,none⟩)) rfl (by as_aux_lemma => kernel_rfl) (by as_aux_lemma => kernel_rfl) (by as_aux_lemma => kernel_rfl) (fun _ _ _ h => h) (Or.inl ⟨zz22,by intro Q hSw; have e_:=HJ.out; go_simp⟩) hS ?_
      (try simp only [Act.put,List.getElem_toArray,List.getElem_cons_succ,List.getElem_cons_zero,List.setIfInBounds_toArray,List.set_cons_zero,List.set_cons_succ])
      refine wpAnyH_take (i:=41) (v:=.string rt) rfl (by as_aux_lemma => kernel_rfl) (by as_aux_lemma => kernel_rfl) (by as_aux_lemma => kernel_rfl) (fun _ _ _ h => h) (Or.inl ⟨zz22,by intro Q hSw; have e_:=HRTC.out Q hSw; go_simp⟩) hS ?_
      (try simp only [Act.put,List.getElem_toArray,List.getElem_cons_succ,List.getElem_cons_zero,List.setIfInBounds_toArray,List.set_cons_zero,List.set_cons_succ])
      refine wpAnyH_take (i:=42) (v:=.agg #[.int .i64 s.a.head.house, .int .i64 s.a.head.epoch, .string s.a.head.root, .string s.a.head.prev, .int .i64 s.a.sig.at_, .slice F0 s.a.sig.open_.length g0, .slice F1 s.a.sig.shut.length g1, .slice F2 s.a.sig.sides.length g2, .int .i64 s.b.head.house, .int .i64 s.b.head.epoch, .string s.b.head.root, .string s.b.head.prev, .int .i64 s.b.sig.at_, .slice H0 s.b.sig.open_.length i0, .slice H1 s.b.sig.shut.length i1, .slice H2 s.b.sig.sides.length i2]) rfl (by as_aux_lemma => kernel_rfl) (by as_aux_lemma => kernel_rfl) (by as_aux_lemma => kernel_rfl) (fun _ _ _ h => h) (ya7 zz22 _ _ rfl rfl (fun _ h => HA12.out _ h) Tryz.underlying79 k_pr rfl) hS ?_
      (try simp only [Act.put,List.getElem_toArray,List.getElem_cons_succ,List.getElem_cons_zero,List.setIfInBounds_toArray,List.set_cons_zero,List.set_cons_succ])
      refine wpAnyH_ready (rs:=[43]) (by as_aux_lemma => kernel_rfl) zz17 (AllReadyH.cons rfl (fun K hK => ?_) AllReadyH.nil)
      (try rw [if_pos zz22])
      clear hS
      go_simp
      refine (HOK.out _ HV.out).mono ?_
      rintro e_ we4u ⟨rfl,hb_⟩
      replace HV : Hid (Below Z.heap.size Z we4u):=zd (Below.step (a:=Z) HV.out hb_)
      clear hb_
      refine hK.out _ _ HV.out (fun hS => ?_)
      clear hK K
      (try simp only [Act.put,List.getElem_toArray,List.getElem_cons_succ,List.getElem_cons_zero,List.setIfInBounds_toArray,List.set_cons_zero,List.set_cons_succ])
      refine wpAnyH_take (i:=44) (v:=.bool true) rfl (by as_aux_lemma => kernel_rfl) (by as_aux_lemma => kernel_rfl) (by as_aux_lemma => kernel_rfl) (fun _ _ _ h => h) (Or.inl ⟨zz22,by intro w hSw; go_simp⟩) hS ?_
      (try simp only [Act.put,List.getElem_toArray,List.getElem_cons_succ,List.getElem_cons_zero,List.setIfInBounds_toArray,List.set_cons_zero,List.set_cons_succ])
      refine wpAnyH_take (i:=45) (v:=.bool true) rfl (by as_aux_lemma => kernel_rfl) (by as_aux_lemma => kernel_rfl) (by as_aux_lemma => kernel_rfl) (fun _ _ _ h => h) (Or.inl ⟨zz22,by intro w hSw; go_simp⟩) hS ?_
      (try simp only [Act.put,List.getElem_toArray,List.getElem_cons_succ,List.getElem_cons_zero,List.setIfInBounds_toArray,List.set_cons_zero,List.set_cons_succ])
      refine wpAnyH_done (by as_aux_lemma => kernel_rfl) ?_ _
      clear hS
      have HB7:=zd (HBZ.out.trans (HV.out.mono HBZ.out.size))
      go_wp2_with (fail)
      go_ret
      exact ⟨ya1 zz24,HBV.out.trans (HB7.out.mono HBV.out.size)⟩
    rw [hok] at HOK
    have HF : Hid (∀ i,i < k + 1 → pairFit x roots i = true):=zd (fun i hi => zz46)
    clear hot hok HAT HNO HRO HOW
    have HV:=zd ((Below.refl Z.heap.size Z).drew)
    refine wp_region_held_drew (S:=fun W' => Below Z.heap.size Z W') (by kernel_rfl) HV.out (fun hS => ?_)
    refine wpAnyH_take (i:=0) (v:=.pointer (some ⟨bp,0,none⟩)) rfl (by as_aux_lemma => kernel_rfl) (by as_aux_lemma => kernel_rfl) (by as_aux_lemma => kernel_rfl) (fun _ _ _ h => h) (Or.inl ⟨zz22,by intro w hSw; go_simp⟩) hS ?_
    (try simp only [Act.put,List.getElem_toArray,List.getElem_cons_succ,List.getElem_cons_zero,List.setIfInBounds_toArray,List.set_cons_zero,List.set_cons_succ])
    refine wpAnyH_take (i:=1) (v:=.agg #[.int .i64 s.a.head.house, .int .i64 s.a.head.epoch, .string s.a.head.root, .string s.a.head.prev, .int .i64 s.a.sig.at_, .slice F0 s.a.sig.open_.length g0, .slice F1 s.a.sig.shut.length g1, .slice F2 s.a.sig.sides.length g2]) rfl (by as_aux_lemma => kernel_rfl) (by as_aux_lemma => kernel_rfl) (by as_aux_lemma => kernel_rfl) (fun _ _ _ h => h) (ya7 zz22 _ _ rfl rfl (fun _ h => HA1.out _ h) Tryz.underlying76 k_sl rfl) hS ?_
    (try simp only [Act.put,List.getElem_toArray,List.getElem_cons_succ,List.getElem_cons_zero,List.setIfInBounds_toArray,List.set_cons_zero,List.set_cons_succ])
    refine wpAnyH_take (i:=2) (v:=.pointer (some ⟨bp,8,none⟩)) rfl (by as_aux_lemma => kernel_rfl) (by as_aux_lemma => kernel_rfl) (by as_aux_lemma => kernel_rfl) (fun _ _ _ h => h) (Or.inl ⟨zz22,by intro w hSw; go_simp⟩) hS ?_
    (try simp only [Act.put,List.getElem_toArray,List.getElem_cons_succ,List.getElem_cons_zero,List.setIfInBounds_toArray,List.set_cons_zero,List.set_cons_succ])
    refine wpAnyH_take (i:=3) (v:=.agg #[.int .i64 s.b.head.house, .int .i64 s.b.head.epoch, .string s.b.head.root, .string s.b.head.prev, .int .i64 s.b.sig.at_, .slice H0 s.b.sig.open_.length i0, .slice H1 s.b.sig.shut.length i1, .slice H2 s.b.sig.sides.length i2]) rfl (by as_aux_lemma => kernel_rfl) (by as_aux_lemma => kernel_rfl) (by as_aux_lemma => kernel_rfl) (fun _ _ _ h => h) (ya7 zz22 _ _ rfl rfl (fun _ h => HA2.out _ h) Tryz.underlying76 k_sl rfl) hS ?_
    (try simp only [Act.put,List.getElem_toArray,List.getElem_cons_succ,List.getElem_cons_zero,List.setIfInBounds_toArray,List.set_cons_zero,List.set_cons_succ])
    refine wpAnyH_take (i:=5) (v:=.pointer (some ⟨w3.heap.size,5,none⟩)) rfl (by as_aux_lemma => kernel_rfl) (by as_aux_lemma => kernel_rfl) (by as_aux_lemma => kernel_rfl) (fun _ _ _ h => h) (Or.inl ⟨zz22,by intro w hSw; go_simp⟩) hS ?_
    (try simp only [Act.put,List.getElem_toArray,List.getElem_cons_succ,List.getElem_cons_zero,List.setIfInBounds_toArray,List.set_cons_zero,List.set_cons_succ])
    refine wpAnyH_take (i:=6) (v:=.slice (some ⟨bq,oq,none⟩) y.pairs.length m3) rfl (by as_aux_lemma => kernel_rfl) (by as_aux_lemma => kernel_rfl) (by as_aux_lemma => kernel_rfl) (fun _ _ _ h => h) (Or.inl ⟨zz22,by intro Q hSw; have e_:=HN5.out Q hSw; go_simp⟩) hS ?_
    (try simp only [Act.put,List.getElem_toArray,List.getElem_cons_succ,List.getElem_cons_zero,List.setIfInBounds_toArray,List.set_cons_zero,List.set_cons_succ])
    refine wpAnyH_take (i:=7) (v:=.int .i64 (k : Int)) rfl (by as_aux_lemma => kernel_rfl) (by as_aux_lemma => kernel_rfl) (by as_aux_lemma => kernel_rfl) (fun _ _ _ h => h) (ya3 zz22 _ rfl zz22) hS ?_
    (try simp only [Act.put,List.getElem_toArray,List.getElem_cons_succ,List.getElem_cons_zero,List.setIfInBounds_toArray,List.set_cons_zero,List.set_cons_succ])
    refine wpAnyH_take (i:=8) (v:=.pointer (some ⟨bq,oq + k * 16,none⟩)) rfl (by as_aux_lemma => kernel_rfl) (by as_aux_lemma => kernel_rfl) (by as_aux_lemma => kernel_rfl) (fun _ _ _ h => h) (Or.inl ⟨zz22,by intro w hSw; go_simp⟩) hS ?_
    (try simp only [Act.put,List.getElem_toArray,List.getElem_cons_succ,List.getElem_cons_zero,List.setIfInBounds_toArray,List.set_cons_zero,List.set_cons_succ])
    refine wpAnyH_take (i:=9) (v:=.pointer (some ⟨bq,oq + k * 16,none⟩)) rfl (by as_aux_lemma => kernel_rfl) (by as_aux_lemma => kernel_rfl) (by as_aux_lemma => kernel_rfl) (fun _ _ _ h => h) (Or.inl ⟨zz22,by intro w hSw; go_simp⟩) hS ?_
    (try simp only [Act.put,List.getElem_toArray,List.getElem_cons_succ,List.getElem_cons_zero,List.setIfInBounds_toArray,List.set_cons_zero,List.set_cons_succ])
    refine wpAnyH_take (i:=10) (v:=.agg #[.int .i64 u.a.head.house, .int .i64 u.a.head.epoch, .string u.a.head.root, .string u.a.head.prev, .int .i64 u.a.sig.at_, .slice G0 u.a.sig.open_.length a0, .slice G1 u.a.sig.shut.length a1, .slice G2 u.a.sig.sides.length a2]) rfl (by as_aux_lemma => kernel_rfl) (by as_aux_lemma => kernel_rfl) (by as_aux_lemma => kernel_rfl) (fun _ _ _ h => h) (ya7 zz22 _ _ rfl rfl (fun _ h => HA3.out _ h) Tryz.underlying76 k_sl rfl) hS ?_
    (try simp only [Act.put,List.getElem_toArray,List.getElem_cons_succ,List.getElem_cons_zero,List.setIfInBounds_toArray,List.set_cons_zero,List.set_cons_succ])
    refine wpAnyH_take (i:=11) (v:=.pointer (some ⟨w3.heap.size,5,none⟩)) rfl (by as_aux_lemma => kernel_rfl) (by as_aux_lemma => kernel_rfl) (by as_aux_lemma => kernel_rfl) (fun _ _ _ h => h) (Or.inl ⟨zz22,by intro w hSw; go_simp⟩) hS ?_
    (try simp only [Act.put,List.getElem_toArray,List.getElem_cons_succ,List.getElem_cons_zero,List.setIfInBounds_toArray,List.set_cons_zero,List.set_cons_succ])
    refine wpAnyH_take (i:=12) (v:=.slice (some ⟨bq,oq,none⟩) y.pairs.length m3) rfl (by as_aux_lemma => kernel_rfl) (by as_aux_lemma => kernel_rfl) (by as_aux_lemma => kernel_rfl) (fun _ _ _ h => h) (Or.inl ⟨zz22,by intro Q hSw; have e_:=HN5.out Q hSw; go_simp⟩) hS ?_
    (try simp only [Act.put,List.getElem_toArray,List.getElem_cons_succ,List.getElem_cons_zero,List.setIfInBounds_toArray,List.set_cons_zero,List.set_cons_succ])
    refine wpAnyH_take (i:=13) (v:=.int .i64 (k : Int)) rfl (by as_aux_lemma => kernel_rfl) (by as_aux_lemma => kernel_rfl) (by as_aux_lemma => kernel_rfl) (fun _ _ _ h => h) (ya3 zz22 _ rfl zz22) hS ?_
    (try simp only [Act.put,List.getElem_toArray,List.getElem_cons_succ,List.getElem_cons_zero,List.setIfInBounds_toArray,List.set_cons_zero,List.set_cons_succ])
    refine wpAnyH_take (i:=14) (v:=.pointer (some ⟨bq,oq + k * 16,none⟩)) rfl (by as_aux_lemma => kernel_rfl) (by as_aux_lemma => kernel_rfl) (by as_aux_lemma => kernel_rfl) (fun _ _ _ h => h) (Or.inl ⟨zz22,by intro w hSw; go_simp⟩) hS ?_
    (try simp only [Act.put,List.getElem_toArray,List.getElem_cons_succ,List.getElem_cons_zero,List.setIfInBounds_toArray,List.set_cons_zero,List.set_cons_succ])
    refine wpAnyH_take (i:=15) (v:=.pointer (some ⟨bq,oq + k * 16 + 8,none⟩)) rfl (by as_aux_lemma => kernel_rfl) (by as_aux_lemma => kernel_rfl) (by as_aux_lemma => kernel_rfl) (fun _ _ _ h => h) (Or.inl ⟨zz22,by intro w hSw; go_simp⟩) hS ?_
    (try simp only [Act.put,List.getElem_toArray,List.getElem_cons_succ,List.getElem_cons_zero,List.setIfInBounds_toArray,List.set_cons_zero,List.set_cons_succ])
    refine wpAnyH_take (i:=16) (v:=.agg #[.int .i64 u.b.head.house, .int .i64 u.b.head.epoch, .string u.b.head.root, .string u.b.head.prev, .int .i64 u.b.sig.at_, .slice K0 u.b.sig.open_.length b0, .slice K1 u.b.sig.shut.length b1, .slice K2 u.b.sig.sides.length b2]) rfl (by as_aux_lemma => kernel_rfl) (by as_aux_lemma => kernel_rfl) (by as_aux_lemma => kernel_rfl) (fun _ _ _ h => h) (ya7 zz22 _ _ rfl rfl (fun _ h => HA4.out _ h) Tryz.underlying76 k_sl rfl) hS ?_
    (try simp only [Act.put,List.getElem_toArray,List.getElem_cons_succ,List.getElem_cons_zero,List.setIfInBounds_toArray,List.set_cons_zero,List.set_cons_succ])
    refine wpAnyH_ready (rs:=[4,17]) (by as_aux_lemma => kernel_rfl) zz17 (AllReadyH.cons rfl (fun K hK => ?_) (AllReadyH.cons rfl (fun K hK => ?_) AllReadyH.nil))
    ·skip
     clear hS
     refine wp_buildTwo rfl _ _ rfl rfl rfl ?_
     have hl_ : Z.heap.size ≤ Z.drew.heap.size:=HV.out.size
     obtain ⟨wb15,hwa⟩ : ∃ W,Z.drew.alloc (.cells #[.int .i64 s.a.head.house, .int .i64 s.a.head.epoch, .string s.a.head.root, .string s.a.head.prev, .int .i64 s.a.sig.at_, .slice F0 s.a.sig.open_.length g0, .slice F1 s.a.sig.shut.length g1, .slice F2 s.a.sig.sides.length g2, .int .i64 s.b.head.house, .int .i64 s.b.head.epoch, .string s.b.head.root, .string s.b.head.prev, .int .i64 s.b.sig.at_, .slice H0 s.b.sig.open_.length i0, .slice H1 s.b.sig.shut.length i1, .slice H2 s.b.sig.sides.length i2] 76) = W:=⟨_,rfl⟩
     have RWs : Hid (Row false wb15 (some ⟨Z.drew.heap.size,0,none⟩) 2 [s.a,s.b] All):=zd zz25
     have hb_ : Below Z.drew.heap.size Z.drew wb15:=zz19
     replace HV : Hid (Below Z.heap.size Z wb15):=zd (Below.step (a:=Z) HV.out hb_)
     rw [hwa]
     clear hwa
     clear hb_
     refine hK.out _ _ HV.out (fun hS => ?_)
     clear hK K
     (try simp only [Act.put,List.getElem_toArray,List.getElem_cons_succ,List.getElem_cons_zero,List.setIfInBounds_toArray,List.set_cons_zero,List.set_cons_succ])
     refine wpAnyH_ready (rs:=[17]) (by as_aux_lemma => kernel_rfl) zz17 (AllReadyH.cons rfl (fun K hK => ?_) AllReadyH.nil)
     clear hS
     refine wp_buildTwo rfl _ _ rfl rfl rfl ?_
     have hl_ : Z.heap.size ≤ wb15.heap.size:=HV.out.size
     obtain ⟨wb25,hwa⟩ : ∃ W,wb15.alloc (.cells #[.int .i64 u.a.head.house, .int .i64 u.a.head.epoch, .string u.a.head.root, .string u.a.head.prev, .int .i64 u.a.sig.at_, .slice G0 u.a.sig.open_.length a0, .slice G1 u.a.sig.shut.length a1, .slice G2 u.a.sig.sides.length a2, .int .i64 u.b.head.house, .int .i64 u.b.head.epoch, .string u.b.head.root, .string u.b.head.prev, .int .i64 u.b.sig.at_, .slice K0 u.b.sig.open_.length b0, .slice K1 u.b.sig.shut.length b1, .slice K2 u.b.sig.sides.length b2] 76) = W:=⟨_,rfl⟩
     have RWu : Hid (Row false wb25 (some ⟨wb15.heap.size,0,none⟩) 2 [u.a,u.b] All):=zd zz26
     have hb_ : Below wb15.heap.size wb15 wb25:=zz19
     replace HV : Hid (Below Z.heap.size Z wb25):=zd (Below.step (a:=Z) HV.out hb_)
     rw [hwa]
     clear hwa
     replace RWs:=zd (Row.later RWs.out hb_)
     clear hb_
     refine hK.out _ _ HV.out (fun hS => ?_)
     clear hK K
     (try simp only [Act.put,List.getElem_toArray,List.getElem_cons_succ,List.getElem_cons_zero,List.setIfInBounds_toArray,List.set_cons_zero,List.set_cons_succ])
     refine wpAnyH_ready (rs:=[18]) (by as_aux_lemma => kernel_rfl) zz17 (AllReadyH.cons rfl (fun K hK => ?_) AllReadyH.nil)
     (try rw [if_pos zz22])
     clear hS
     go_simp
     have hl2_ : Z.heap.size ≤ wb25.heap.size:=HV.out.size
     have HCC:=zd (spec_sameSeals wb25 [s.a,s.b] _ 2 All RWs.out [u.a,u.b] _ 2 All RWu.out (show 2 ≤ 4000000000 by decide) HG2.out)
     rw [HEQ.out] at HCC
     refine HCC.out.mono ?_
     rintro e_ wc5s ⟨rfl,hb_⟩
     replace HV : Hid (Below Z.heap.size Z wc5s):=zd (Below.step (a:=Z) HV.out hb_)
     clear hb_ HCC RWs RWu
     refine hK.out _ _ HV.out (fun hS => ?_)
     clear hK K
     (try simp only [Act.put,List.getElem_toArray,List.getElem_cons_succ,List.getElem_cons_zero,List.setIfInBounds_toArray,List.set_cons_zero,List.set_cons_succ])
     refine wpAnyH_take (i:=19) (v:=.bool false) rfl (by as_aux_lemma => kernel_rfl) (by as_aux_lemma => kernel_rfl) (by as_aux_lemma => kernel_rfl) (fun _ _ _ h => h) (Or.inl ⟨zz22,by intro w hSw; go_simp⟩) hS ?_
     (try simp only [Act.put,List.getElem_toArray,List.getElem_cons_succ,List.getElem_cons_zero,List.setIfInBounds_toArray,List.set_cons_zero,List.set_cons_succ])
     refine wpAnyH_take (i:=20) (v:=.bool false) rfl (by as_aux_lemma => kernel_rfl) (by as_aux_lemma => kernel_rfl) (by as_aux_lemma => kernel_rfl) (fun _ _ _ h => h) (ya3 zz22 _ rfl zz22) hS ?_
     (try simp only [Act.put,List.getElem_toArray,List.getElem_cons_succ,List.getElem_cons_zero,List.setIfInBounds_toArray,List.set_cons_zero,List.set_cons_succ])
     refine wpAnyH_take (i:=21) (v:=.pointer (some ⟨bh,0,none⟩)) rfl (by as_aux_lemma => kernel_rfl) (by as_aux_lemma => kernel_rfl) (by as_aux_lemma => kernel_rfl) (fun _ _ _ h => h) (Or.inl ⟨zz22,by intro w hSw; go_simp⟩) hS ?_
     (try simp only [Act.put,List.getElem_toArray,List.getElem_cons_succ,List.getElem_cons_zero,List.setIfInBounds_toArray,List.set_cons_zero,List.set_cons_succ])
     refine wpAnyH_take (i:=22) (v:=.int .i64 s.a.head.house) rfl (by as_aux_lemma => kernel_rfl) (by as_aux_lemma => kernel_rfl) (by as_aux_lemma => kernel_rfl) (fun _ _ _ h => h) (Or.inl ⟨zz22,by intro Q hSw; have e_:=HH0.out Q hSw; go_simp⟩) hS ?_
     (try simp only [Act.put,List.getElem_toArray,List.getElem_cons_succ,List.getElem_cons_zero,List.setIfInBounds_toArray,List.set_cons_zero,List.set_cons_succ])
     refine wpAnyH_take (i:=23) (v:=.pointer (some ⟨w.heap.size,0,none⟩)) rfl (by as_aux_lemma => kernel_rfl) (by as_aux_lemma => kernel_rfl) (by as_aux_lemma => kernel_rfl) (fun _ _ _ h => h) (Or.inl ⟨zz22,by intro w hSw; go_simp⟩) hS ?_
     (try simp only [Act.put,List.getElem_toArray,List.getElem_cons_succ,List.getElem_cons_zero,List.setIfInBounds_toArray,List.set_cons_zero,List.set_cons_succ])
     refine wpAnyH_take (i:=24) (v:=.int .i64 x.house) rfl (by as_aux_lemma => kernel_rfl) (by as_aux_lemma => kernel_rfl) (by as_aux_lemma => kernel_rfl) (fun _ _ _ h => h) (Or.inl ⟨zz22,by intro Q hSw; have e_:=HV0.out Q hSw; go_simp⟩) hS ?_
     (try simp only [Act.put,List.getElem_toArray,List.getElem_cons_succ,List.getElem_cons_zero,List.setIfInBounds_toArray,List.set_cons_zero,List.set_cons_succ])
     refine wpAnyH_take (i:=25) (v:=.bool false) rfl (by as_aux_lemma => kernel_rfl) (by as_aux_lemma => kernel_rfl) (by as_aux_lemma => kernel_rfl) (fun _ _ _ h => h) (Or.inl ⟨zz22,by intro w hSw; go_simp⟩) hS ?_
     (try simp only [Act.put,List.getElem_toArray,List.getElem_cons_succ,List.getElem_cons_zero,List.setIfInBounds_toArray,List.set_cons_zero,List.set_cons_succ])
     refine wpAnyH_take (i:=26) (v:=.bool false) rfl (by as_aux_lemma => kernel_rfl) (by as_aux_lemma => kernel_rfl) (by as_aux_lemma => kernel_rfl) (fun _ _ _ h => h) (Or.inl ⟨zz22,by intro w hSw; go_simp⟩) hS ?_
     (try simp only [Act.put,List.getElem_toArray,List.getElem_cons_succ,List.getElem_cons_zero,List.setIfInBounds_toArray,List.set_cons_zero,List.set_cons_succ])
     refine wpAnyH_take (i:=27) (v:=.bool false) rfl (by as_aux_lemma => kernel_rfl) (by as_aux_lemma => kernel_rfl) (by as_aux_lemma => kernel_rfl) (fun _ _ _ h => h) (ya3 zz22 _ rfl zz22) hS ?_
     (try simp only [Act.put,List.getElem_toArray,List.getElem_cons_succ,List.getElem_cons_zero,List.setIfInBounds_toArray,List.set_cons_zero,List.set_cons_succ])
     refine wpAnyH_take (i:=28) (v:=.pointer (some ⟨bh,0,none⟩)) rfl (by as_aux_lemma => kernel_rfl) (by as_aux_lemma => kernel_rfl) (by as_aux_lemma => kernel_rfl) (fun _ _ _ h => h) (Or.inl ⟨zz22,by intro w hSw; go_simp⟩) hS ?_
     (try simp only [Act.put,List.getElem_toArray,List.getElem_cons_succ,List.getElem_cons_zero,List.setIfInBounds_toArray,List.set_cons_zero,List.set_cons_succ])
     refine wpAnyH_take (i:=29) (v:=.int .i64 s.a.head.house) rfl (by as_aux_lemma => kernel_rfl) (by as_aux_lemma => kernel_rfl) (by as_aux_lemma => kernel_rfl) (fun _ _ _ h => h) (Or.inl ⟨zz22,by intro Q hSw; have e_:=HH0.out Q hSw; go_simp⟩) hS ?_
     (try simp only [Act.put,List.getElem_toArray,List.getElem_cons_succ,List.getElem_cons_zero,List.setIfInBounds_toArray,List.set_cons_zero,List.set_cons_succ])
     refine wpAnyH_take (i:=30) (v:=.slice (some ⟨bR,oR,none⟩) roots.length kR) rfl (by as_aux_lemma => kernel_rfl) (by as_aux_lemma => kernel_rfl) (by as_aux_lemma => kernel_rfl) (fun _ _ _ h => h) (ya3 zz22 _ rfl zz22) hS ?_
     (try simp only [Act.put,List.getElem_toArray,List.getElem_cons_succ,List.getElem_cons_zero,List.setIfInBounds_toArray,List.set_cons_zero,List.set_cons_succ])
     refine wpAnyH_take (i:=31) (v:=.int .i64 (roots.length : Int)) rfl (by as_aux_lemma => kernel_rfl) (by as_aux_lemma => kernel_rfl) (by as_aux_lemma => kernel_rfl) (fun _ _ _ h => h) (Or.inl ⟨zz22,by intro w hSw; go_simp⟩) hS ?_
     (try simp only [Act.put,List.getElem_toArray,List.getElem_cons_succ,List.getElem_cons_zero,List.setIfInBounds_toArray,List.set_cons_zero,List.set_cons_succ])
     refine wpAnyH_take (i:=32) (v:=.int .i64 ((roots.length : Int) - 1)) rfl (by as_aux_lemma => kernel_rfl) (by as_aux_lemma => kernel_rfl) (by as_aux_lemma => kernel_rfl) (fun _ _ _ h => h) (Or.inl ⟨zz22,by intro w hSw; go_simp⟩) hS ?_
     (try simp only [Act.put,List.getElem_toArray,List.getElem_cons_succ,List.getElem_cons_zero,List.setIfInBounds_toArray,List.set_cons_zero,List.set_cons_succ])
     refine wpAnyH_ready (rs:=[33]) (by as_aux_lemma => kernel_rfl) zz17 (AllReadyH.cons rfl (fun K hK => ?_) AllReadyH.nil)
     (try rw [if_pos zz22])
     clear hS
     go_simp
     refine (HCL.out _).mono ?_
     rintro e_ v_ ⟨rfl,rfl⟩
     refine hK.out _ _ HV.out (fun hS => ?_)
     clear hK K
     (try simp only [Act.put,List.getElem_toArray,List.getElem_cons_succ,List.getElem_cons_zero,List.setIfInBounds_toArray,List.set_cons_zero,List.set_cons_succ])
     refine wpAnyH_take (i:=34) (v:=.bool false) rfl (by as_aux_lemma => kernel_rfl) (by as_aux_lemma => kernel_rfl) (by as_aux_lemma => kernel_rfl) (fun _ _ _ h => h) (Or.inl ⟨zz22,by intro w hSw; go_simp⟩) hS ?_
     (try simp only [Act.put,List.getElem_toArray,List.getElem_cons_succ,List.getElem_cons_zero,List.setIfInBounds_toArray,List.set_cons_zero,List.set_cons_succ])
     refine wpAnyH_take (i:=35) (v:=.bool false) rfl (by as_aux_lemma => kernel_rfl) (by as_aux_lemma => kernel_rfl) (by as_aux_lemma => kernel_rfl) (fun _ _ _ h => h) (Or.inl ⟨zz22,by intro w hSw; go_simp⟩) hS ?_
     (try simp only [Act.put,List.getElem_toArray,List.getElem_cons_succ,List.getElem_cons_zero,List.setIfInBounds_toArray,List.set_cons_zero,List.set_cons_succ])
     refine wpAnyH_take (i:=36) (v:=.bool false) rfl (by as_aux_lemma => kernel_rfl) (by as_aux_lemma => kernel_rfl) (by as_aux_lemma => kernel_rfl) (fun _ _ _ h => h) (ya3 zz22 _ rfl zz22) hS ?_
     (try simp only [Act.put,List.getElem_toArray,List.getElem_cons_succ,List.getElem_cons_zero,List.setIfInBounds_toArray,List.set_cons_zero,List.set_cons_succ])
     refine wpAnyH_take (i:=37) (v:=.slice (some ⟨bR,oR,none⟩) roots.length kR) rfl (by as_aux_lemma => kernel_rfl) (by as_aux_lemma => kernel_rfl) (by as_aux_lemma => kernel_rfl) (fun _ _ _ h => h) (ya3 zz22 _ rfl zz22) hS ?_
     (try simp only [Act.put,List.getElem_toArray,List.getElem_cons_succ,List.getElem_cons_zero,List.setIfInBounds_toArray,List.set_cons_zero,List.set_cons_succ])
     refine wpAnyH_take (i:=38) (v:=.pointer (some ⟨bh,0,none⟩)) rfl (by as_aux_lemma => kernel_rfl) (by as_aux_lemma => kernel_rfl) (by as_aux_lemma => kernel_rfl) (fun _ _ _ h => h) (Or.inl ⟨zz22,by intro w hSw; go_simp⟩) hS ?_
     (try simp only [Act.put,List.getElem_toArray,List.getElem_cons_succ,List.getElem_cons_zero,List.setIfInBounds_toArray,List.set_cons_zero,List.set_cons_succ])
     refine wpAnyH_take (i:=39) (v:=.int .i64 s.a.head.house) rfl (by as_aux_lemma => kernel_rfl) (by as_aux_lemma => kernel_rfl) (by as_aux_lemma => kernel_rfl) (fun _ _ _ h => h) (Or.inl ⟨zz22,by intro Q hSw; have e_:=HH0.out Q hSw; go_simp⟩) hS ?_
     (try simp only [Act.put,List.getElem_toArray,List.getElem_cons_succ,List.getElem_cons_zero,List.setIfInBounds_toArray,List.set_cons_zero,List.set_cons_succ])
     refine wpAnyH_take (i:=40) (v:=.pointer (some ⟨bR,oR + j,none⟩)) rfl (by as_aux_lemma => kernel_rfl) (by as_aux_lemma => kernel_rfl) (by as_aux_lemma => kernel_rfl) (fun _ _ _ h => h) (Or.inl ⟨zz22,by intro Q hSw; have e_:=HJ.out; go_simp⟩) hS ?_
     (try simp only [Act.put,List.getElem_toArray,List.getElem_cons_succ,List.getElem_cons_zero,List.setIfInBounds_toArray,List.set_cons_zero,List.set_cons_succ])
     refine wpAnyH_take (i:=41) (v:=.string rt) rfl (by as_aux_lemma => kernel_rfl) (by as_aux_lemma => kernel_rfl) (by as_aux_lemma => kernel_rfl) (fun _ _ _ h => h) (Or.inl ⟨zz22,by intro Q hSw; have e_:=HRTC.out Q hSw; go_simp⟩) hS ?_
     (try simp only [Act.put,List.getElem_toArray,List.getElem_cons_succ,List.getElem_cons_zero,List.setIfInBounds_toArray,List.set_cons_zero,List.set_cons_succ])
     refine wpAnyH_take (i:=42) (v:=.agg #[.int .i64 s.a.head.house, .int .i64 s.a.head.epoch, .string s.a.head.root, .string s.a.head.prev, .int .i64 s.a.sig.at_, .slice F0 s.a.sig.open_.length g0, .slice F1 s.a.sig.shut.length g1, .slice F2 s.a.sig.sides.length g2, .int .i64 s.b.head.house, .int .i64 s.b.head.epoch, .string s.b.head.root, .string s.b.head.prev, .int .i64 s.b.sig.at_, .slice H0 s.b.sig.open_.length i0, .slice H1 s.b.sig.shut.length i1, .slice H2 s.b.sig.sides.length i2]) rfl (by as_aux_lemma => kernel_rfl) (by as_aux_lemma => kernel_rfl) (by as_aux_lemma => kernel_rfl) (fun _ _ _ h => h) (ya7 zz22 _ _ rfl rfl (fun _ h => HA12.out _ h) Tryz.underlying79 k_pr rfl) hS ?_
     (try simp only [Act.put,List.getElem_toArray,List.getElem_cons_succ,List.getElem_cons_zero,List.setIfInBounds_toArray,List.set_cons_zero,List.set_cons_succ])
     refine wpAnyH_ready (rs:=[43]) (by as_aux_lemma => kernel_rfl) zz17 (AllReadyH.cons rfl (fun K hK => ?_) AllReadyH.nil)
     (try rw [if_pos zz22])
     clear hS
     go_simp
     refine (HOK.out _ HV.out).mono ?_
     rintro e_ we5s ⟨rfl,hb_⟩
     replace HV : Hid (Below Z.heap.size Z we5s):=zd (Below.step (a:=Z) HV.out hb_)
     clear hb_
     refine hK.out _ _ HV.out (fun hS => ?_)
     clear hK K
     (try simp only [Act.put,List.getElem_toArray,List.getElem_cons_succ,List.getElem_cons_zero,List.setIfInBounds_toArray,List.set_cons_zero,List.set_cons_succ])
     refine wpAnyH_take (i:=44) (v:=.bool false) rfl (by as_aux_lemma => kernel_rfl) (by as_aux_lemma => kernel_rfl) (by as_aux_lemma => kernel_rfl) (fun _ _ _ h => h) (Or.inl ⟨zz22,by intro w hSw; go_simp⟩) hS ?_
     (try simp only [Act.put,List.getElem_toArray,List.getElem_cons_succ,List.getElem_cons_zero,List.setIfInBounds_toArray,List.set_cons_zero,List.set_cons_succ])
     refine wpAnyH_take (i:=45) (v:=.bool false) rfl (by as_aux_lemma => kernel_rfl) (by as_aux_lemma => kernel_rfl) (by as_aux_lemma => kernel_rfl) (fun _ _ _ h => h) (Or.inl ⟨zz22,by intro w hSw; go_simp⟩) hS ?_
     (try simp only [Act.put,List.getElem_toArray,List.getElem_cons_succ,List.getElem_cons_zero,List.setIfInBounds_toArray,List.set_cons_zero,List.set_cons_succ])
     refine wpAnyH_done (by as_aux_lemma => kernel_rfl) ?_ _
     clear hS
     have HB7:=zd (HBZ.out.trans (HV.out.mono HBZ.out.size))
     go_wp2_with (fail)
     go_roundw
     case rel => exact ⟨k + 1,hlt,by go_num,HF,HF2,HB7.out⟩
     case measure => simp [intOf]; omega
    ·skip
     clear hS
     refine wp_buildTwo rfl _ _ rfl rfl rfl ?_
     have hl_ : Z.heap.size ≤ Z.drew.heap.size:=HV.out.size
     obtain ⟨wb35,hwa⟩ : ∃ W,Z.drew.alloc (.cells #[.int .i64 u.a.head.house, .int .i64 u.a.head.epoch, .string u.a.head.root, .string u.a.head.prev, .int .i64 u.a.sig.at_, .slice G0 u.a.sig.open_.length a0, .slice G1 u.a.sig.shut.length a1, .slice G2 u.a.sig.sides.length a2, .int .i64 u.b.head.house, .int .i64 u.b.head.epoch, .string u.b.head.root, .string u.b.head.prev, .int .i64 u.b.sig.at_, .slice K0 u.b.sig.open_.length b0, .slice K1 u.b.sig.shut.length b1, .slice K2 u.b.sig.sides.length b2] 76) = W:=⟨_,rfl⟩
     have RWu : Hid (Row false wb35 (some ⟨Z.drew.heap.size,0,none⟩) 2 [u.a,u.b] All):=zd zz26
     have hb_ : Below Z.drew.heap.size Z.drew wb35:=zz19
     replace HV : Hid (Below Z.heap.size Z wb35):=zd (Below.step (a:=Z) HV.out hb_)
     rw [hwa]
     clear hwa
     clear hb_
     refine hK.out _ _ HV.out (fun hS => ?_)
     clear hK K
     (try simp only [Act.put,List.getElem_toArray,List.getElem_cons_succ,List.getElem_cons_zero,List.setIfInBounds_toArray,List.set_cons_zero,List.set_cons_succ])
     refine wpAnyH_ready (rs:=[4]) (by as_aux_lemma => kernel_rfl) zz17 (AllReadyH.cons rfl (fun K hK => ?_) AllReadyH.nil)
     clear hS
     refine wp_buildTwo rfl _ _ rfl rfl rfl ?_
     have hl_ : Z.heap.size ≤ wb35.heap.size:=HV.out.size
     obtain ⟨wb45,hwa⟩ : ∃ W,wb35.alloc (.cells #[.int .i64 s.a.head.house, .int .i64 s.a.head.epoch, .string s.a.head.root, .string s.a.head.prev, .int .i64 s.a.sig.at_, .slice F0 s.a.sig.open_.length g0, .slice F1 s.a.sig.shut.length g1, .slice F2 s.a.sig.sides.length g2, .int .i64 s.b.head.house, .int .i64 s.b.head.epoch, .string s.b.head.root, .string s.b.head.prev, .int .i64 s.b.sig.at_, .slice H0 s.b.sig.open_.length i0, .slice H1 s.b.sig.shut.length i1, .slice H2 s.b.sig.sides.length i2] 76) = W:=⟨_,rfl⟩
     have RWs : Hid (Row false wb45 (some ⟨wb35.heap.size,0,none⟩) 2 [s.a,s.b] All):=zd zz25
     have hb_ : Below wb35.heap.size wb35 wb45:=zz19
     replace HV : Hid (Below Z.heap.size Z wb45):=zd (Below.step (a:=Z) HV.out hb_)
     rw [hwa]
     clear hwa
     replace RWu:=zd (Row.later RWu.out hb_)
     clear hb_
     refine hK.out _ _ HV.out (fun hS => ?_)
     clear hK K
     (try simp only [Act.put,List.getElem_toArray,List.getElem_cons_succ,List.getElem_cons_zero,List.setIfInBounds_toArray,List.set_cons_zero,List.set_cons_succ])
     refine wpAnyH_ready (rs:=[18]) (by as_aux_lemma => kernel_rfl) zz17 (AllReadyH.cons rfl (fun K hK => ?_) AllReadyH.nil)
     (try rw [if_pos zz22])
     clear hS
     go_simp
     have hl2_ : Z.heap.size ≤ wb45.heap.size:=HV.out.size
     have HCC:=zd (spec_sameSeals wb45 [s.a,s.b] _ 2 All RWs.out [u.a,u.b] _ 2 All RWu.out (show 2 ≤ 4000000000 by decide) HG2.out)
     rw [HEQ.out] at HCC
     refine HCC.out.mono ?_
     rintro e_ wc5u ⟨rfl,hb_⟩
     replace HV : Hid (Below Z.heap.size Z wc5u):=zd (Below.step (a:=Z) HV.out hb_)
     clear hb_ HCC RWs RWu
     refine hK.out _ _ HV.out (fun hS => ?_)
     clear hK K
     (try simp only [Act.put,List.getElem_toArray,List.getElem_cons_succ,List.getElem_cons_zero,List.setIfInBounds_toArray,List.set_cons_zero,List.set_cons_succ])
     refine wpAnyH_take (i:=19) (v:=.bool false) rfl (by as_aux_lemma => kernel_rfl) (by as_aux_lemma => kernel_rfl) (by as_aux_lemma => kernel_rfl) (fun _ _ _ h => h) (Or.inl ⟨zz22,by intro w hSw; go_simp⟩) hS ?_
     (try simp only [Act.put,List.getElem_toArray,List.getElem_cons_succ,List.getElem_cons_zero,List.setIfInBounds_toArray,List.set_cons_zero,List.set_cons_succ])
     refine wpAnyH_take (i:=20) (v:=.bool false) rfl (by as_aux_lemma => kernel_rfl) (by as_aux_lemma => kernel_rfl) (by as_aux_lemma => kernel_rfl) (fun _ _ _ h => h) (ya3 zz22 _ rfl zz22) hS ?_
     (try simp only [Act.put,List.getElem_toArray,List.getElem_cons_succ,List.getElem_cons_zero,List.setIfInBounds_toArray,List.set_cons_zero,List.set_cons_succ])
     refine wpAnyH_take (i:=21) (v:=.pointer (some ⟨bh,0,none⟩)) rfl (by as_aux_lemma => kernel_rfl) (by as_aux_lemma => kernel_rfl) (by as_aux_lemma => kernel_rfl) (fun _ _ _ h => h) (Or.inl ⟨zz22,by intro w hSw; go_simp⟩) hS ?_
     (try simp only [Act.put,List.getElem_toArray,List.getElem_cons_succ,List.getElem_cons_zero,List.setIfInBounds_toArray,List.set_cons_zero,List.set_cons_succ])
     refine wpAnyH_take (i:=22) (v:=.int .i64 s.a.head.house) rfl (by as_aux_lemma => kernel_rfl) (by as_aux_lemma => kernel_rfl) (by as_aux_lemma => kernel_rfl) (fun _ _ _ h => h) (Or.inl ⟨zz22,by intro Q hSw; have e_:=HH0.out Q hSw; go_simp⟩) hS ?_
     (try simp only [Act.put,List.getElem_toArray,List.getElem_cons_succ,List.getElem_cons_zero,List.setIfInBounds_toArray,List.set_cons_zero,List.set_cons_succ])
     refine wpAnyH_take (i:=23) (v:=.pointer (some ⟨w.heap.size,0,none⟩)) rfl (by as_aux_lemma => kernel_rfl) (by as_aux_lemma => kernel_rfl) (by as_aux_lemma => kernel_rfl) (fun _ _ _ h => h) (Or.inl ⟨zz22,by intro w hSw; go_simp⟩) hS ?_
     (try simp only [Act.put,List.getElem_toArray,List.getElem_cons_succ,List.getElem_cons_zero,List.setIfInBounds_toArray,List.set_cons_zero,List.set_cons_succ])
     refine wpAnyH_take (i:=24) (v:=.int .i64 x.house) rfl (by as_aux_lemma => kernel_rfl) (by as_aux_lemma => kernel_rfl) (by as_aux_lemma => kernel_rfl) (fun _ _ _ h => h) (Or.inl ⟨zz22,by intro Q hSw; have e_:=HV0.out Q hSw; go_simp⟩) hS ?_
     (try simp only [Act.put,List.getElem_toArray,List.getElem_cons_succ,List.getElem_cons_zero,List.setIfInBounds_toArray,List.set_cons_zero,List.set_cons_succ])
     refine wpAnyH_take (i:=25) (v:=.bool false) rfl (by as_aux_lemma => kernel_rfl) (by as_aux_lemma => kernel_rfl) (by as_aux_lemma => kernel_rfl) (fun _ _ _ h => h) (Or.inl ⟨zz22,by intro w hSw; go_simp⟩) hS ?_
     (try simp only [Act.put,List.getElem_toArray,List.getElem_cons_succ,List.getElem_cons_zero,List.setIfInBounds_toArray,List.set_cons_zero,List.set_cons_succ])
     refine wpAnyH_take (i:=26) (v:=.bool false) rfl (by as_aux_lemma => kernel_rfl) (by as_aux_lemma => kernel_rfl) (by as_aux_lemma => kernel_rfl) (fun _ _ _ h => h) (Or.inl ⟨zz22,by intro w hSw; go_simp⟩) hS ?_
     (try simp only [Act.put,List.getElem_toArray,List.getElem_cons_succ,List.getElem_cons_zero,List.setIfInBounds_toArray,List.set_cons_zero,List.set_cons_succ])
     refine wpAnyH_take (i:=27) (v:=.bool false) rfl (by as_aux_lemma => kernel_rfl) (by as_aux_lemma => kernel_rfl) (by as_aux_lemma => kernel_rfl) (fun _ _ _ h => h) (ya3 zz22 _ rfl zz22) hS ?_
     (try simp only [Act.put,List.getElem_toArray,List.getElem_cons_succ,List.getElem_cons_zero,List.setIfInBounds_toArray,List.set_cons_zero,List.set_cons_succ])
     refine wpAnyH_take (i:=28) (v:=.pointer (some ⟨bh,0,none⟩)) rfl (by as_aux_lemma => kernel_rfl) (by as_aux_lemma => kernel_rfl) (by as_aux_lemma => kernel_rfl) (fun _ _ _ h => h) (Or.inl ⟨zz22,by intro w hSw; go_simp⟩) hS ?_
     (try simp only [Act.put,List.getElem_toArray,List.getElem_cons_succ,List.getElem_cons_zero,List.setIfInBounds_toArray,List.set_cons_zero,List.set_cons_succ])
     refine wpAnyH_take (i:=29) (v:=.int .i64 s.a.head.house) rfl (by as_aux_lemma => kernel_rfl) (by as_aux_lemma => kernel_rfl) (by as_aux_lemma => kernel_rfl) (fun _ _ _ h => h) (Or.inl ⟨zz22,by intro Q hSw; have e_:=HH0.out Q hSw; go_simp⟩) hS ?_
     (try simp only [Act.put,List.getElem_toArray,List.getElem_cons_succ,List.getElem_cons_zero,List.setIfInBounds_toArray,List.set_cons_zero,List.set_cons_succ])
     refine wpAnyH_take (i:=30) (v:=.slice (some ⟨bR,oR,none⟩) roots.length kR) rfl (by as_aux_lemma => kernel_rfl) (by as_aux_lemma => kernel_rfl) (by as_aux_lemma => kernel_rfl) (fun _ _ _ h => h) (ya3 zz22 _ rfl zz22) hS ?_
     (try simp only [Act.put,List.getElem_toArray,List.getElem_cons_succ,List.getElem_cons_zero,List.setIfInBounds_toArray,List.set_cons_zero,List.set_cons_succ])
     refine wpAnyH_take (i:=31) (v:=.int .i64 (roots.length : Int)) rfl (by as_aux_lemma => kernel_rfl) (by as_aux_lemma => kernel_rfl) (by as_aux_lemma => kernel_rfl) (fun _ _ _ h => h) (Or.inl ⟨zz22,by intro w hSw; go_simp⟩) hS ?_
     (try simp only [Act.put,List.getElem_toArray,List.getElem_cons_succ,List.getElem_cons_zero,List.setIfInBounds_toArray,List.set_cons_zero,List.set_cons_succ])
     refine wpAnyH_take (i:=32) (v:=.int .i64 ((roots.length : Int) - 1)) rfl (by as_aux_lemma => kernel_rfl) (by as_aux_lemma => kernel_rfl) (by as_aux_lemma => kernel_rfl) (fun _ _ _ h => h) (Or.inl ⟨zz22,by intro w hSw; go_simp⟩) hS ?_
     (try simp only [Act.put,List.getElem_toArray,List.getElem_cons_succ,List.getElem_cons_zero,List.setIfInBounds_toArray,List.set_cons_zero,List.set_cons_succ])
     refine wpAnyH_ready (rs:=[33]) (by as_aux_lemma => kernel_rfl) zz17 (AllReadyH.cons rfl (fun K hK => ?_) AllReadyH.nil)
     (try rw [if_pos zz22])
     clear hS
     go_simp
     refine (HCL.out _).mono ?_
     rintro e_ v_ ⟨rfl,rfl⟩
     refine hK.out _ _ HV.out (fun hS => ?_)
     clear hK K
     (try simp only [Act.put,List.getElem_toArray,List.getElem_cons_succ,List.getElem_cons_zero,List.setIfInBounds_toArray,List.set_cons_zero,List.set_cons_succ])
     refine wpAnyH_take (i:=34) (v:=.bool false) rfl (by as_aux_lemma => kernel_rfl) (by as_aux_lemma => kernel_rfl) (by as_aux_lemma => kernel_rfl) (fun _ _ _ h => h) (Or.inl ⟨zz22,by intro w hSw; go_simp⟩) hS ?_
     (try simp only [Act.put,List.getElem_toArray,List.getElem_cons_succ,List.getElem_cons_zero,List.setIfInBounds_toArray,List.set_cons_zero,List.set_cons_succ])
     refine wpAnyH_take (i:=35) (v:=.bool false) rfl (by as_aux_lemma => kernel_rfl) (by as_aux_lemma => kernel_rfl) (by as_aux_lemma => kernel_rfl) (fun _ _ _ h => h) (Or.inl ⟨zz22,by intro w hSw; go_simp⟩) hS ?_
     (try simp only [Act.put,List.getElem_toArray,List.getElem_cons_succ,List.getElem_cons_zero,List.setIfInBounds_toArray,List.set_cons_zero,List.set_cons_succ])
     refine wpAnyH_take (i:=36) (v:=.bool false) rfl (by as_aux_lemma => kernel_rfl) (by as_aux_lemma => kernel_rfl) (by as_aux_lemma => kernel_rfl) (fun _ _ _ h => h) (ya3 zz22 _ rfl zz22) hS ?_
     (try simp only [Act.put,List.getElem_toArray,List.getElem_cons_succ,List.getElem_cons_zero,List.setIfInBounds_toArray,List.set_cons_zero,List.set_cons_succ])
     refine wpAnyH_take (i:=37) (v:=.slice (some ⟨bR,oR,none⟩) roots.length kR) rfl (by as_aux_lemma => kernel_rfl) (by as_aux_lemma => kernel_rfl) (by as_aux_lemma => kernel_rfl) (fun _ _ _ h => h) (ya3 zz22 _ rfl zz22) hS ?_
     (try simp only [Act.put,List.getElem_toArray,List.getElem_cons_succ,List.getElem_cons_zero,List.setIfInBounds_toArray,List.set_cons_zero,List.set_cons_succ])
     refine wpAnyH_take (i:=38) (v:=.pointer (some ⟨bh,0,none⟩)) rfl (by as_aux_lemma => kernel_rfl) (by as_aux_lemma => kernel_rfl) (by as_aux_lemma => kernel_rfl) (fun _ _ _ h => h) (Or.inl ⟨zz22,by intro w hSw; go_simp⟩) hS ?_
     (try simp only [Act.put,List.getElem_toArray,List.getElem_cons_succ,List.getElem_cons_zero,List.setIfInBounds_toArray,List.set_cons_zero,List.set_cons_succ])
     refine wpAnyH_take (i:=39) (v:=.int .i64 s.a.head.house) rfl (by as_aux_lemma => kernel_rfl) (by as_aux_lemma => kernel_rfl) (by as_aux_lemma => kernel_rfl) (fun _ _ _ h => h) (Or.inl ⟨zz22,by intro Q hSw; have e_:=HH0.out Q hSw; go_simp⟩) hS ?_
     (try simp only [Act.put,List.getElem_toArray,List.getElem_cons_succ,List.getElem_cons_zero,List.setIfInBounds_toArray,List.set_cons_zero,List.set_cons_succ])
     refine wpAnyH_take (i:=40) (v:=.pointer (some ⟨bR,oR + j,none⟩)) rfl (by as_aux_lemma => kernel_rfl) (by as_aux_lemma => kernel_rfl) (by as_aux_lemma => kernel_rfl) (fun _ _ _ h => h) (Or.inl ⟨zz22,by intro Q hSw; have e_:=HJ.out; go_simp⟩) hS ?_
     (try simp only [Act.put,List.getElem_toArray,List.getElem_cons_succ,List.getElem_cons_zero,List.setIfInBounds_toArray,List.set_cons_zero,List.set_cons_succ])
     refine wpAnyH_take (i:=41) (v:=.string rt) rfl (by as_aux_lemma => kernel_rfl) (by as_aux_lemma => kernel_rfl) (by as_aux_lemma => kernel_rfl) (fun _ _ _ h => h) (Or.inl ⟨zz22,by intro Q hSw; have e_:=HRTC.out Q hSw; go_simp⟩) hS ?_
     (try simp only [Act.put,List.getElem_toArray,List.getElem_cons_succ,List.getElem_cons_zero,List.setIfInBounds_toArray,List.set_cons_zero,List.set_cons_succ])
     refine wpAnyH_take (i:=42) (v:=.agg #[.int .i64 s.a.head.house, .int .i64 s.a.head.epoch, .string s.a.head.root, .string s.a.head.prev, .int .i64 s.a.sig.at_, .slice F0 s.a.sig.open_.length g0, .slice F1 s.a.sig.shut.length g1, .slice F2 s.a.sig.sides.length g2, .int .i64 s.b.head.house, .int .i64 s.b.head.epoch, .string s.b.head.root, .string s.b.head.prev, .int .i64 s.b.sig.at_, .slice H0 s.b.sig.open_.length i0, .slice H1 s.b.sig.shut.length i1, .slice H2 s.b.sig.sides.length i2]) rfl (by as_aux_lemma => kernel_rfl) (by as_aux_lemma => kernel_rfl) (by as_aux_lemma => kernel_rfl) (fun _ _ _ h => h) (ya7 zz22 _ _ rfl rfl (fun _ h => HA12.out _ h) Tryz.underlying79 k_pr rfl) hS ?_
     (try simp only [Act.put,List.getElem_toArray,List.getElem_cons_succ,List.getElem_cons_zero,List.setIfInBounds_toArray,List.set_cons_zero,List.set_cons_succ])
     refine wpAnyH_ready (rs:=[43]) (by as_aux_lemma => kernel_rfl) zz17 (AllReadyH.cons rfl (fun K hK => ?_) AllReadyH.nil)
     (try rw [if_pos zz22])
     clear hS
     go_simp
     refine (HOK.out _ HV.out).mono ?_
     rintro e_ we5u ⟨rfl,hb_⟩
     replace HV : Hid (Below Z.heap.size Z we5u):=zd (Below.step (a:=Z) HV.out hb_)
     clear hb_
     refine hK.out _ _ HV.out (fun hS => ?_)
     clear hK K
     (try simp only [Act.put,List.getElem_toArray,List.getElem_cons_succ,List.getElem_cons_zero,List.setIfInBounds_toArray,List.set_cons_zero,List.set_cons_succ])
     refine wpAnyH_take (i:=44) (v:=.bool false) rfl (by as_aux_lemma => kernel_rfl) (by as_aux_lemma => kernel_rfl) (by as_aux_lemma => kernel_rfl) (fun _ _ _ h => h) (Or.inl ⟨zz22,by intro w hSw; go_simp⟩) hS ?_
     (try simp only [Act.put,List.getElem_toArray,List.getElem_cons_succ,List.getElem_cons_zero,List.setIfInBounds_toArray,List.set_cons_zero,List.set_cons_succ])
     refine wpAnyH_take (i:=45) (v:=.bool false) rfl (by as_aux_lemma => kernel_rfl) (by as_aux_lemma => kernel_rfl) (by as_aux_lemma => kernel_rfl) (fun _ _ _ h => h) (Or.inl ⟨zz22,by intro w hSw; go_simp⟩) hS ?_
     (try simp only [Act.put,List.getElem_toArray,List.getElem_cons_succ,List.getElem_cons_zero,List.setIfInBounds_toArray,List.set_cons_zero,List.set_cons_succ])
     refine wpAnyH_done (by as_aux_lemma => kernel_rfl) ?_ _
     clear hS
     have HB7:=zd (HBZ.out.trans (HV.out.mono HBZ.out.size))
     go_wp2_with (fail)
     go_roundw
     case rel => exact ⟨k + 1,hlt,by go_num,HF,HF2,HB7.out⟩
     case measure => simp [intOf]; omega
   have hke : k = x.pairs.length:=zz4
   subst hke
   have HP2:=HS
   have HB9:=HB
   have HNEW : Hid (sameNew x y = true):=zd (aok_peq H1.out H2.out H3.out (fun i h1 h2 => HSE.out i h1 h2 h1))
   clear HS HB HSE hlt n3 n4 n5
   go_wp2_with (fail)
   go_loopw [11] (fun i wr => ∃ k : Nat,k ≤ roots.length ∧ k ≤ 3 ∧ i = .int .i64 (k : Int) ∧ Hid (∀ j,j < k → chainFit x j = true) ∧ Below V.heap.size V wr) (fun i _ => 3 - (intOf i).toNat)
   case atStart => exact ⟨0,Nat.zero_le _,Nat.zero_le _,rfl,zd (fun j h => absurd h zz4),HB9.out⟩
   case round =>
    obtain ⟨k,hk,hk3,rfl,HS,hb⟩:=hrel
    have HB:=zd hb
    have hsr:=hb.size
    clear hb v0 v1 v2 v3 v4 v5
    have v0:=(BV.out.keep (HB.out.block _ zz4)).at_ (i:=0) rfl
    have v1:=(BV.out.keep (HB.out.block _ zz4)).at_ (i:=1) rfl
    have v2:=(BV.out.keep (HB.out.block _ zz4)).at_ (i:=2) rfl
    have v3:=(BV.out.keep (HB.out.block _ zz4)).at_ (i:=3) rfl
    have v4:=(BV.out.keep (HB.out.block _ zz4)).at_ (i:=4) rfl
    have v5:=(BV.out.keep (HB.out.block _ zz4)).at_ (i:=5) rfl
    by_cases hlt : k < roots.length
    ·have hq1 : decide (k < roots.length) = true:=decide_eq_true hlt
     have hq2 : decide ((k : Int) < (roots.length : Int)) = true:=decide_eq_true zz4
     by_cases h3 : k < 3
     ·have hq3 : decide (k < 3) = true:=decide_eq_true h3
      have hq4 : decide ((k : Int) < 3) = true:=decide_eq_true zz4
      have HNO:=zd (HNC.out k hlt h3)
      have HPO:=zd (spec_PinsOf wr x _ S (Lay.later HXV.out HB.out) hz (k : Int) zz30)
      have hpl : (pinsOf x (k : Int)).length ≤ 4000000000:=by have:=pinsOf_len x (k : Int); omega
      have HCF : Hid (chainFit x k = chainOk (pinsOf x (k : Int)) (k : Int)):=zd rfl
      go_wp2_with (fail)
      refine HPO.out.mono ?_
      rintro e9 w9 ⟨A9,c9,rfl,l9,m9,r9,hb9⟩
      have HC9:=zd (HB.out.trans (hb9.mono hsr))
      have HCO:=zd (spec_ChainOk w9 (pinsOf x (k : Int)) A9 c9 _ r9.weak hpl (k : Int))
      clear l9 m9 r9 hb9 HPO v0 v1 v2 v3 v4 v5
      cases hc : chainOk (pinsOf x (k : Int)) (k : Int)
      ·rw [hc] at HCO
       have HF:=zd (HNO.out (by rw [HCF.out,hc]))
       clear hc HNO HCF
       go_wp2_with (go_at_call 53; refine HCO.out.mono ?_; rintro e10 w10 ⟨rfl,hb10⟩)
       go_ret
       exact ⟨ya1 zz24,HBV.out.trans ((HC9.out.trans (hb10.mono HC9.out.size)).mono HBV.out.size)⟩
      ·rw [hc] at HCO
       have HF : Hid (∀ i,i < k + 1 → chainFit x i = true):=zd (fun i hi => by rcases Nat.lt_succ_iff_lt_or_eq.1 hi with h | h; exact HS.out i h; subst h; rw [HCF.out,hc])
       clear hc HNO HCF
       go_wp2_with (go_at_call 53; refine HCO.out.mono ?_; rintro e10 w10 ⟨rfl,hb10⟩)
       go_roundw
       case rel => exact ⟨k + 1,hlt,h3,by go_num,HF,HC9.out.trans (hb10.mono HC9.out.size)⟩
       case measure => simp [intOf]; omega
     ·have hq3 : decide (k < 3) = false:=decide_eq_false h3
      have hq4 : decide ((k : Int) < 3) = false:=decide_eq_false zz4
      have HF:=zd (HYE.out HIN.out HNEW.out HP1.out HP2.out (fun j hj => HS.out j zz4))
      go_wp2_with (fail)
      go_ret
      exact ⟨ya1 zz24,HBV.out.trans (HB.out.mono HBV.out.size)⟩
    ·have hq1 : decide (k < roots.length) = false:=decide_eq_false hlt
     have hq2 : decide ((k : Int) < (roots.length : Int)) = false:=decide_eq_false zz4
     have HF:=zd (HYE.out HIN.out HNEW.out HP1.out HP2.out (fun j hj => HS.out j zz4))
     go_wp2_with (fail)
     go_ret
     exact ⟨ya1 zz24,HBV.out.trans (HB.out.mono HBV.out.size)⟩
end Go.Proofs.YtlfnmbcnehaikaaGreatDoor
