/- A part of the proof. -/
import Derived.Test.YtlfnmbcnehaikaaGreatDoorHApUe
set_option linter.unusedVariables false
set_option linter.unusedSimpArgs false
set_option maxRecDepth 20000
set_option maxHeartbeats 8000000
namespace Go.Proofs.YtlfnmbcnehaikaaGreatDoor
open Go.RowKit Lay Mk
theorem impl_other (w : World) (own h : Int) (ba br : Nat) (AR : Option Addr) (n kR : Nat) (hn : n ≤ 4000000000) (c0 : w.cell? ⟨ba,0,none⟩ = some (.int .i64 own)) (r0 : w.cell? ⟨br,0,none⟩ = some (.slice AR n kR)) : Calls Tryz.prog 61 #[.int .i64 h, .pointer (some ⟨ba,0,none⟩), .pointer (some ⟨br,0,none⟩)] w fun e w' => e = .returned (.bool (otherH own n h)) ∧ w = w':=by
 have hw1 : IntKind.i64.wrap ((n : Int) - 1) = (n : Int) - 1:=IntWalk.i64_in _ zz4
 by_cases hq : h = own
 ·have HF : Hid (otherH own n h = false):=zd (by unfold otherH; rw [decide_eq_true hq]; rfl)
  have hb : (h == own) = true:=beq_iff_eq.2 hq
  have hb2 : (h != own) = false:=by rw [bne_eq_false_iff_eq]; exact hq
  clear hq
  go_enter Tryz.func61,Tryz.ntmps61
  go_wp2
  go_ret
  exact ⟨ya1 zz24,rfl⟩
 ·have HF : Hid (otherH own n h = inB h 0 ((n : Int) - 1)):=zd (by unfold otherH; rw [decide_eq_false hq]; rfl)
  have hb : (h == own) = false:=beq_eq_false_iff_ne.2 hq
  have hb2 : (h != own) = true:=by rw [bne_iff_ne]; exact hq
  clear hq
  go_enter Tryz.func61,Tryz.ntmps61
  go_wp2_with (go_at_call 62; refine (impl_in h 0 ((n : Int) - 1) _).mono ?_; rintro e_ w2 ⟨rfl,rfl⟩)
  go_ret
  exact ⟨ya1 zz24,rfl⟩
theorem aud_szs' {x : Auditor} (hz : x.sz ≤ 1048576) : szL x.disk.files ≤ 1048576 ∧ szL x.pool ≤ 1048576 ∧ szL x.pins ≤ 1048576 ∧ szL x.pairs ≤ 1048576 ∧ x.disk.files.length ≤ 1048576 ∧ x.pool.length ≤ 1048576 ∧ x.pins.length ≤ 1048576 ∧ x.pairs.length ≤ 1048576:=by
 simp only [Auditor.sz,Disk.sz] at hz
 have:=szT_le x.disk.files 0
 have:=szT_le x.pool 0
 have:=szT_le x.pins 0
 have:=szT_le x.pairs 0
 omega
theorem impl_AuditorOk (w : World) (x : Auditor) (cs : List Value) (S : Blks) (hx : rd false w cs x S) (hz : x.sz ≤ 1048576) (roots : List ByteArray) (AR : Option Addr) (kR : Nat) (SR : Blks) (hr : Row false w AR kR roots SR) (_ : roots.length ≤ kR) (_ : kR ≤ maxLen) (hzr : szL roots ≤ 1048576) (hT : Tabs w) : Calls Tryz.prog 21 #[.agg cs.toArray, .slice AR roots.length kR] w fun e w' => e = .returned (.bool (auditorOk x roots)) ∧ Below w.heap.size w w':=by
 have HX:=zd hx
 obtain ⟨z0,z1,z2,z3,l0,l1,l2,l3⟩:=aud_szs' hz
 have hrl : roots.length ≤ 1048576:=by have:=szT_le roots 0; omega
 have hrt : ∀ j (h : j < roots.length),(roots[j]).size ≤ 1048576:=fun j h => sz_get' h hzr
 have HRT:=zd hrt; clear hrt
 obtain ⟨A0,k0,S0,A1,k1,S1,A2,k2,S2,A3,k3,S3,rfl,f0,b0,c0,q0, -,b1,c1,q1, -,b2,c2,q2, -,b3,c3,q3, -⟩:=Auditor.open hx
 have HR0:=zd (Disk.mk' (m:=false) (x:=x.disk) (S:=S0) b0 c0 q0 (ya8 _))
 have hzd : x.disk.sz ≤ 1048576:=z0
 have HF0:=zd f0
 have HT:=zd hT
 have R1:=zd q1; have R2:=zd q2; have R3:=zd q3; have RR:=zd hr
 have HNO:=zd (fun h => aok_house (x:=x) (roots:=roots) h)
 have HNW:=zd (fun h => aok_new (x:=x) (roots:=roots) h)
 have HNP:=zd (fun k hk h => aok_pin (x:=x) (roots:=roots) (k:=k) hk h)
 have HNQ:=zd (fun k hk h => aok_pair (x:=x) (roots:=roots) (k:=k) hk h)
 have HNC:=zd (fun k hk hk2 h => aok_chain (x:=x) (roots:=roots) (k:=k) hk hk2 h)
 have HYE:=zd (fun h0 h1 h2 h3 h4 => aok_yes (x:=x) (roots:=roots) h0 h1 h2 h3 h4)
 obtain ⟨RES,hRES⟩ : ∃ R,auditorOk x roots = R:=⟨_,rfl⟩
 rw [hRES] at HNO HNW HNP HNQ HNC HYE ⊢
 clear hRES hx hT f0 b0 c0 q0 b1 c1 q1 b2 c2 q2 b3 c3 q3 hr
 simp only [Auditor.cs] at HX ⊢
 go_enter Tryz.func21,Tryz.ntmps21
 go_upto_region 1 with (fail)
 obtain ⟨W,hW⟩ : ∃ W,(w.alloc (.cells #[.int .i64 x.house, .bool x.up, .slice A0 x.disk.files.length k0, .slice A1 x.pool.length k1, .slice A2 x.pins.length k2, .slice A3 x.pairs.length k3] 33)).alloc (.cells #[.slice AR roots.length kR] 29) = W:=⟨_,rfl⟩
 have hWf : Below w.heap.size w W ∧ W.heap.size = w.heap.size + 1 + 1 ∧ Bx W w.heap.size #[.int .i64 x.house, .bool x.up, .slice A0 x.disk.files.length k0, .slice A1 x.pool.length k1, .slice A2 x.pins.length k2, .slice A3 x.pairs.length k3] 33 ∧ Bx W (w.heap.size + 1) #[.slice AR roots.length kR] 29:=by
  rw [← hW]
  have e1 : w.heap.size + 1 = (w.alloc (.cells #[.int .i64 x.house, .bool x.up, .slice A0 x.disk.files.length k0, .slice A1 x.pool.length k1, .slice A2 x.pins.length k2, .slice A3 x.pairs.length k3] 33)).heap.size:=zz17
  exact ⟨((Below.refl _ _).alloc (Nat.le_refl _) _).alloc zz17 _,zz17,(Bx.new _ _ _).keep (Below.heap_alloc _ _ _ zz17),by rw [e1]; exact Bx.new _ _ _⟩
 rw [hW]
 clear hW
 obtain ⟨bW,sW,bX,xW⟩:=hWf
 have hwl : w.heap.size + 1 < W.heap.size:=zz4
 have HBW:=zd bW; have BX:=zd bX; have XW:=zd xW
 have e0:=bX.at_ (i:=0) rfl
 have e1:=bX.at_ (i:=1) rfl
 have e2:=bX.at_ (i:=2) rfl
 have e3:=bX.at_ (i:=3) rfl
 have e4:=bX.at_ (i:=4) rfl
 have e5:=bX.at_ (i:=5) rfl
 have vr:=xW.at_ (i:=0) rfl
 clear bW bX xW sW
 cases hin : inB x.house 0 2
 ·have HF:=zd (HNO.out hin)
  have HV:=zd (house_in x.house W)
  rw [hin] at HV
  clear hin HNO HNW HNP HNQ HNC HYE
  go_wp2_with (go_at_call 57; refine HV.out.mono ?_; rintro e_ w2 ⟨rfl,rfl⟩)
  go_ret
  exact ⟨ya1 zz24,HBW.out⟩
 have HV:=zd (house_in x.house W)
 rw [hin] at HV
 have HIN:=zd hin
 clear hin HNO
 go_upto_region 3 with (go_at_call 57; refine HV.out.mono ?_; rintro e_ w2 ⟨rfl,rfl⟩)
 go_wp2_with (fail)
 refine (impl_AuditorNew W x.house HF0.out x.disk (Disk.cs x.disk A0 k0) S0 (Lay.later HR0.out HBW.out) hzd (HT.out.later HBW.out)).mono ?_
 rintro e3 w3 ⟨c3,rfl,hrd,hb3⟩
 have HGD:=zd (auditorNew_good x.house x.disk)
 obtain ⟨y,hy⟩ : ∃ y,auditorNew x.house x.disk = y:=⟨_,rfl⟩
 rw [hy] at hrd HNW HYE HGD
 clear hy HV
 obtain ⟨B0,m0,_,B1,m1,_,B2,m2,_,B3,m3,_,rfl, -, -, -, -, -, -, -,p1, -, -, -,p2, -, -, -,p3, -⟩:=Auditor.open hrd
 have HB3:=zd hb3
 have hs3:=hb3.size
 simp only [Auditor.cs]
 clear hrd hb3 vr e0 e1 e2 e3 e4 e5
 go_upto_region 4 with (fail)
 obtain ⟨V,hV⟩ : ∃ V,w3.alloc (.cells #[.int .i64 y.house, .bool y.up, .slice B0 y.disk.files.length m0, .slice B1 y.pool.length m1, .slice B2 y.pins.length m2, .slice B3 y.pairs.length m3] 33) = V:=⟨_,rfl⟩
 have hVf : Below w3.heap.size w3 V ∧ w3.heap.size < V.heap.size ∧ Bx V w3.heap.size #[.int .i64 y.house, .bool y.up, .slice B0 y.disk.files.length m0, .slice B1 y.pool.length m1, .slice B2 y.pins.length m2, .slice B3 y.pairs.length m3] 33:=zz33
 rw [hV]
 clear hV
 obtain ⟨bV,hlV,xV⟩:=hVf
 have HBV:=zd (HBW.out.trans ((HB3.out.trans (bV.mono hs3)).mono HBW.out.size))
 have P1:=zd (Row.later p1.weak bV); have P2:=zd (Row.later p2.weak bV); have P3:=zd (Row.later p3.weak bV)
 have XV:=zd xV
 have hwV : w.heap.size + 1 < V.heap.size:=zz4
 have BV:=zd ((BX.out.keep (HB3.out.block _ zz4)).keep (bV.block _ zz4))
 have RV:=zd ((XW.out.keep (HB3.out.block _ hwl)).keep (bV.block _ zz4))
 clear bV xV p1 p2 p3 BX XW HB3
 have v0:=BV.out.at_ (i:=0) rfl
 have v1:=BV.out.at_ (i:=1) rfl
 have v2:=BV.out.at_ (i:=2) rfl
 have v3:=BV.out.at_ (i:=3) rfl
 have v4:=BV.out.at_ (i:=4) rfl
 have v5:=BV.out.at_ (i:=5) rfl
 have vr:=RV.out.at_ (i:=0) rfl
 have n3:=XV.out.at_ (i:=3) rfl
 have n4:=XV.out.at_ (i:=4) rfl
 have n5:=XV.out.at_ (i:=5) rfl
 have Q1:=zd (Row.later R1.out HBV.out); have Q2:=zd (Row.later R2.out HBV.out); have Q3:=zd (Row.later R3.out HBV.out); have QR:=zd (Row.later RR.out HBV.out)
 have HXV:=zd (Lay.later HX.out HBV.out)
 clear R1 R2 R3 RR HX
 by_cases h1 : x.pool = y.pool
 rotate_left
 ·have HF:=zd (HNW.out (by unfold sameNew; rw [decide_eq_false h1]; rfl))
  have H1:=zd h1
  clear h1 HNW HNP HNQ HNC HYE
  go_wp2_with (go_at_call 58; refine (texts_no Q1.out P1.out zz4 H1.out).mono ?_; rintro e4 w4 ⟨rfl,hb4⟩)
  go_ret
  exact ⟨ya1 zz24,HBV.out.trans (hb4.mono HBV.out.size)⟩
 have H1:=zd h1
 clear h1
 go_wp2_with (fail)
 refine (texts_yes Q1.out P1.out zz4 H1.out).mono ?_
 rintro e4 w4 ⟨rfl,hb4⟩
 have HB4:=zd hb4
 clear v0 v1 v2 v3 v4 v5 vr
 clear n3 n4 n5
 have v0:=(BV.out.keep (HB4.out.block _ zz4)).at_ (i:=0) rfl
 have v1:=(BV.out.keep (HB4.out.block _ zz4)).at_ (i:=1) rfl
 have v2:=(BV.out.keep (HB4.out.block _ zz4)).at_ (i:=2) rfl
 have v3:=(BV.out.keep (HB4.out.block _ zz4)).at_ (i:=3) rfl
 have v4:=(BV.out.keep (HB4.out.block _ zz4)).at_ (i:=4) rfl
 have v5:=(BV.out.keep (HB4.out.block _ zz4)).at_ (i:=5) rfl
 have vr:=(RV.out.keep (HB4.out.block _ hwV)).at_ (i:=0) rfl
 have n3:=(XV.out.keep (HB4.out.block _ hlV)).at_ (i:=3) rfl
 have n4:=(XV.out.keep (HB4.out.block _ hlV)).at_ (i:=4) rfl
 have n5:=(XV.out.keep (HB4.out.block _ hlV)).at_ (i:=5) rfl
 clear hb4
 have HS2:=zd (impl_sameSeals w4 x.pins A2 k2 S2 (Row.later Q2.out HB4.out) y.pins B2 m2 _ (Row.later P2.out HB4.out) z2)
 cases h2 : decide (x.pins = y.pins)
 ·have HF:=zd (HNW.out (by unfold sameNew; rw [h2]; simp))
  rw [h2] at HS2
  clear h2 HNW HNP HNQ HNC HYE
  go_wp2_with (go_at_call 59; refine HS2.out.mono ?_; rintro e5 w5 ⟨rfl,hb5⟩)
  go_ret
  exact ⟨ya1 zz24,HBV.out.trans ((HB4.out.trans (hb5.mono HB4.out.size)).mono HBV.out.size)⟩
 rw [h2] at HS2
 have H2:=zd h2
 clear h2
 go_wp2_with (fail)
 refine HS2.out.mono ?_
 rintro e5 w5 ⟨rfl,hb5⟩
 have HB5:=zd (HB4.out.trans (hb5.mono HB4.out.size))
 clear v0 v1 v2 v3 v4 v5 vr
 clear n3 n4 n5
 have v0:=(BV.out.keep (HB5.out.block _ zz4)).at_ (i:=0) rfl
 have v1:=(BV.out.keep (HB5.out.block _ zz4)).at_ (i:=1) rfl
 have v2:=(BV.out.keep (HB5.out.block _ zz4)).at_ (i:=2) rfl
 have v3:=(BV.out.keep (HB5.out.block _ zz4)).at_ (i:=3) rfl
 have v4:=(BV.out.keep (HB5.out.block _ zz4)).at_ (i:=4) rfl
 have v5:=(BV.out.keep (HB5.out.block _ zz4)).at_ (i:=5) rfl
 have vr:=(RV.out.keep (HB5.out.block _ hwV)).at_ (i:=0) rfl
 have n3:=(XV.out.keep (HB5.out.block _ hlV)).at_ (i:=3) rfl
 have n4:=(XV.out.keep (HB5.out.block _ hlV)).at_ (i:=4) rfl
 have n5:=(XV.out.keep (HB5.out.block _ hlV)).at_ (i:=5) rfl
 clear hb5 HB4 HS2
 have HS3:=zd (impl_samePairs w5 x.pairs A3 k3 S3 (Row.later Q3.out HB5.out) y.pairs B3 m3 _ (Row.later P3.out HB5.out) z3)
 cases h3 : decide (x.pairs = y.pairs)
 ·have HF:=zd (HNW.out (by unfold sameNew; rw [h3]; simp))
  rw [h3] at HS3
  clear h3 HNW HNP HNQ HNC HYE
  go_wp2_with (go_at_call 60; refine HS3.out.mono ?_; rintro e6 w6 ⟨rfl,hb6⟩)
  go_ret
  exact ⟨ya1 zz24,HBV.out.trans ((HB5.out.trans (hb6.mono HB5.out.size)).mono HBV.out.size)⟩
 rw [h3] at HS3
 have HNEW : Hid (sameNew x y = true):=zd (by unfold sameNew; rw [decide_eq_true H1.out,H2.out,h3]; rfl)
 clear h3 HNW H1 H2
 go_wp2_with (fail)
 refine HS3.out.mono ?_
 rintro e6 w6 ⟨rfl,hb6⟩
 have HB6:=zd (HB5.out.trans (hb6.mono HB5.out.size))
 clear v0 v1 v2 v3 v4 v5 vr
 clear n3 n4 n5
 have v0:=(BV.out.keep (HB6.out.block _ zz4)).at_ (i:=0) rfl
 have v1:=(BV.out.keep (HB6.out.block _ zz4)).at_ (i:=1) rfl
 have v2:=(BV.out.keep (HB6.out.block _ zz4)).at_ (i:=2) rfl
 have v3:=(BV.out.keep (HB6.out.block _ zz4)).at_ (i:=3) rfl
 have v4:=(BV.out.keep (HB6.out.block _ zz4)).at_ (i:=4) rfl
 have v5:=(BV.out.keep (HB6.out.block _ zz4)).at_ (i:=5) rfl
 have vr:=(RV.out.keep (HB6.out.block _ hwV)).at_ (i:=0) rfl
 clear hb6 HB5 HS3 XV P1 P2 P3 Q1
 go_wp2_with (fail)
 go_loopw [49] (fun i wr => ∃ k : Nat,k ≤ x.pins.length ∧ i = .int .i64 (k : Int) ∧ Hid (∀ j,j < k → pinFit x roots j = true) ∧ Below V.heap.size V wr) (fun i _ => x.pins.length - (intOf i).toNat)
 case atStart => exact ⟨0,Nat.zero_le _,rfl,zd (fun j h => absurd h zz4),HB6.out⟩
 case round =>
  obtain ⟨k,hk,rfl,HS,hb⟩:=hrel
  have HB:=zd hb
  have hsr:=hb.size
  clear v0 v1 v2 v3 v4 v5 vr
  clear hb
  have v0:=(BV.out.keep (HB.out.block _ zz4)).at_ (i:=0) rfl
  have v1:=(BV.out.keep (HB.out.block _ zz4)).at_ (i:=1) rfl
  have v2:=(BV.out.keep (HB.out.block _ zz4)).at_ (i:=2) rfl
  have v3:=(BV.out.keep (HB.out.block _ zz4)).at_ (i:=3) rfl
  have v4:=(BV.out.keep (HB.out.block _ zz4)).at_ (i:=4) rfl
  have v5:=(BV.out.keep (HB.out.block _ zz4)).at_ (i:=5) rfl
  have vr:=(RV.out.keep (HB.out.block _ hwV)).at_ (i:=0) rfl
  by_cases hlt : k < x.pins.length
  ·obtain ⟨b1,o1,c1,T1,rfl,hl1,hf,hr1,_,_⟩:=Row.at_ Q2.out hlt
   have HR1:=zd (Lay.later hr1 HB.out)
   have HAT:=zd (pinFit_at (roots:=roots) hlt)
   have HNO:=zd (HNP.out k hlt)
   have HSZ:=zd (sz_get' hlt z2)
   obtain ⟨s,hs⟩ : ∃ s,x.pins[k] = s:=⟨_,rfl⟩
   rw [hs] at hr1 HR1 HAT HSZ
   clear hs
   obtain ⟨F0,g0,_,F1,g1,_,F2,g2,_,rfl, -⟩:=Seal.open hr1
   replace hf:=hf.keep (HB.out.block b1 hl1)
   rw [show Lay.n Seal = 8 from rfl] at hf
   have f0:=hf 0 _ rfl
   have f1:=hf 1 _ rfl
   have f2:=hf 2 _ rfl
   have f3:=hf 3 _ rfl
   have f4:=hf 4 _ rfl
   have f5:=hf 5 _ rfl
   have f6:=hf 6 _ rfl
   have f7:=hf 7 _ rfl
   simp only [Nat.add_zero] at f0
   clear hr1 hf
   go_upto_region 10 with (fail)
   obtain ⟨Z,hZ⟩ : ∃ Z,wr.alloc (.cells #[.int .i64 s.head.house, .int .i64 s.head.epoch, .string s.head.root, .string s.head.prev, .int .i64 s.sig.at_, .slice F0 s.sig.open_.length g0, .slice F1 s.sig.shut.length g1, .slice F2 s.sig.sides.length g2] 76) = Z:=⟨_,rfl⟩
   have hZf : Below wr.heap.size wr Z ∧ wr.heap.size < Z.heap.size ∧ Bx Z wr.heap.size #[.int .i64 s.head.house, .int .i64 s.head.epoch, .string s.head.root, .string s.head.prev, .int .i64 s.sig.at_, .slice F0 s.sig.open_.length g0, .slice F1 s.sig.shut.length g1, .slice F2 s.sig.sides.length g2] 76:=by rw [← hZ]; exact ⟨(Below.refl _ _).alloc (Nat.le_refl _) _,zz17,Bx.new _ _ _⟩
   rw [hZ]
   clear hZ f0 f1 f2 f3 f4 f5 f6 f7
   obtain ⟨hbZ,hlZ,xZ⟩:=hZf
   have HBZ:=zd (HB.out.trans (hbZ.mono hsr))
   have HRZ:=zd (Lay.later HR1.out hbZ)
   have f0:=xZ.at_ (i:=0) rfl
   have f1:=xZ.at_ (i:=1) rfl
   have f2:=xZ.at_ (i:=2) rfl
   have f3:=xZ.at_ (i:=3) rfl
   have f4:=xZ.at_ (i:=4) rfl
   have f5:=xZ.at_ (i:=5) rfl
   have f6:=xZ.at_ (i:=6) rfl
   have f7:=xZ.at_ (i:=7) rfl
   clear v0 v1 v2 v3 v4 v5 vr
   clear hbZ xZ HR1
   have v0:=(BV.out.keep (HBZ.out.block _ zz4)).at_ (i:=0) rfl
   have v1:=(BV.out.keep (HBZ.out.block _ zz4)).at_ (i:=1) rfl
   have v2:=(BV.out.keep (HBZ.out.block _ zz4)).at_ (i:=2) rfl
   have v3:=(BV.out.keep (HBZ.out.block _ zz4)).at_ (i:=3) rfl
   have v4:=(BV.out.keep (HBZ.out.block _ zz4)).at_ (i:=4) rfl
   have v5:=(BV.out.keep (HBZ.out.block _ zz4)).at_ (i:=5) rfl
   have vr:=(RV.out.keep (HBZ.out.block _ hwV)).at_ (i:=0) rfl
   have HCL : Hid (∀ Y,Below Z.heap.size Z Y → Calls Tryz.prog 61 #[.int .i64 s.head.house, .pointer (some ⟨w.heap.size,0,none⟩), .pointer (some ⟨w.heap.size + 1,0,none⟩)] Y fun e w' => e = .returned (.bool (otherH x.house roots.length s.head.house)) ∧ Y = w'):=zd (fun (Y : World) (h : Below Z.heap.size Z Y) => impl_other Y x.house s.head.house w.heap.size (w.heap.size + 1) AR roots.length kR zz4 ((h.cell (p:=⟨w.heap.size,0,none⟩) (by show w.heap.size < Z.heap.size; have:=HBZ.out.size; omega)).trans v0) ((h.cell (p:=⟨w.heap.size + 1,0,none⟩) (by show w.heap.size + 1 < Z.heap.size; have:=HBZ.out.size; omega)).trans vr))
   go_upto_region 11 with (fail)
   cases hot : otherH x.house roots.length s.head.house
   ·rw [hot] at HCL
    have HF:=zd (HNO.out (by rw [HAT.out,hot]; rfl))
    clear hot HAT HNO
    go_wp2_with (fail)
    have Gv0:=Grown.cell v0
    have Gv1:=Grown.cell v1
    have Gv2:=Grown.cell v2
    have Gv3:=Grown.cell v3
    have Gv4:=Grown.cell v4
    have Gv5:=Grown.cell v5
    have Gvr:=Grown.cell vr
    have Gf0:=Grown.cell f0
    have Gf1:=Grown.cell f1
    have Gf2:=Grown.cell f2
    have Gf3:=Grown.cell f3
    have Gf4:=Grown.cell f4
    have Gf5:=Grown.cell f5
    have Gf6:=Grown.cell f6
    have Gf7:=Grown.cell f7
    clear v0 v1 v2 v3 v4 v5 vr f0 f1 f2 f3 f4 f5 f6 f7
    refine ya0 (by kernel_rfl) (by kernel_rfl) ?_
    repeat (go_big_quiet_step (first | (go_at_call 61; with_reducible exact grown_same (HCL.out _ (Grown.ok _)))))
    refine wpQuiet_nil ?_
    intro w7 hw_
    have HB7:=zd (HBZ.out.trans ((ya5 hw_).mono HBZ.out.size))
    clear hw_ Gv0 Gv1 Gv2 Gv3 Gv4 Gv5 Gvr Gf0 Gf1 Gf2 Gf3 Gf4 Gf5 Gf6 Gf7
    go_wp2_with (fail)
    go_ret
    exact ⟨ya1 zz24,HBV.out.trans (HB7.out.mono HBV.out.size)⟩
   rw [hot] at HCL
   obtain ⟨-,j,hj,hjl⟩:=other_idx hot
   rw [hj] at HCL
   have HRO:=zd (roots_at hj hjl)
   obtain ⟨bR,oR,rfl,hlR,q1, -⟩:=Row.str (Row.later QR.out HBZ.out) hjl
   have hrs:=HRT.out j hjl
   obtain ⟨rt,hrt⟩ : ∃ r,roots[j] = r:=⟨_,rfl⟩
   rw [hrt] at q1 HRO hrs
   clear hrt
   have hjj : (j : Int) < (roots.length : Int):=zz4
   have HOK : Hid (∀ Y,Below Z.heap.size Z Y → Calls Tryz.prog 63 #[.string rt, .agg #[.int .i64 s.head.house, .int .i64 s.head.epoch, .string s.head.root, .string s.head.prev, .int .i64 s.sig.at_, .slice F0 s.sig.open_.length g0, .slice F1 s.sig.shut.length g1, .slice F2 s.sig.sides.length g2]] Y fun e w' => e = .returned (.bool (sealOk rt s)) ∧ Below Y.heap.size Y w'):=zd (fun Y h => impl_SealOk Y rt s _ _ (Lay.later HRZ.out h) (HT.out.later (HBV.out.trans ((HBZ.out.trans (h.mono HBZ.out.size)).mono HBV.out.size))))
   cases hok : sealOk rt s
   ·rw [hok,hj] at HOK
    have HF:=zd (HNO.out (by rw [HAT.out,HRO.out,hot,hok]; rfl))
    clear hot hok HAT HNO HRO
    go_wp2_with (fail)
    have Gv0:=Grown.cell v0
    have Gv1:=Grown.cell v1
    have Gv2:=Grown.cell v2
    have Gv3:=Grown.cell v3
    have Gv4:=Grown.cell v4
    have Gv5:=Grown.cell v5
    have Gvr:=Grown.cell vr
    have Gf0:=Grown.cell f0
    have Gf1:=Grown.cell f1
    have Gf2:=Grown.cell f2
    have Gf3:=Grown.cell f3
    have Gf4:=Grown.cell f4
    have Gf5:=Grown.cell f5
    have Gf6:=Grown.cell f6
    have Gf7:=Grown.cell f7
    have Gq1:=Grown.cell q1
    clear v0 v1 v2 v3 v4 v5 vr f0 f1 f2 f3 f4 f5 f6 f7 q1
    refine ya0 (by kernel_rfl) (by kernel_rfl) ?_
    repeat (go_big_quiet_step (first | (go_at_call 61; with_reducible exact grown_same (HCL.out _ (Grown.ok _))) | (go_at_call 63; with_reducible exact ya4 (HOK.out _ (Grown.ok _)))))
    refine wpQuiet_nil ?_
    intro w7 hw_
    have HB7:=zd (HBZ.out.trans ((ya5 hw_).mono HBZ.out.size))
    clear hw_ Gv0 Gv1 Gv2 Gv3 Gv4 Gv5 Gvr Gf0 Gf1 Gf2 Gf3 Gf4 Gf5 Gf6 Gf7 Gq1
    go_wp2_with (fail)
    go_ret
    exact ⟨ya1 zz24,HBV.out.trans (HB7.out.mono HBV.out.size)⟩
   rw [hok,hj] at HOK
   have HF : Hid (∀ i,i < k + 1 → pinFit x roots i = true):=zd (fun i hi => zz46)
   clear hot hok HAT HNO HRO
   go_wp2_with (fail)
   have Gv0:=Grown.cell v0
   have Gv1:=Grown.cell v1
   have Gv2:=Grown.cell v2
   have Gv3:=Grown.cell v3
   have Gv4:=Grown.cell v4
   have Gv5:=Grown.cell v5
   have Gvr:=Grown.cell vr
   have Gf0:=Grown.cell f0
   have Gf1:=Grown.cell f1
   have Gf2:=Grown.cell f2
   have Gf3:=Grown.cell f3
   have Gf4:=Grown.cell f4
   have Gf5:=Grown.cell f5
   have Gf6:=Grown.cell f6
   have Gf7:=Grown.cell f7
   have Gq1:=Grown.cell q1
   clear v0 v1 v2 v3 v4 v5 vr f0 f1 f2 f3 f4 f5 f6 f7 q1
   refine ya0 (by kernel_rfl) (by kernel_rfl) ?_
   repeat (go_big_quiet_step (first | (go_at_call 61; with_reducible exact grown_same (HCL.out _ (Grown.ok _))) | (go_at_call 63; with_reducible exact ya4 (HOK.out _ (Grown.ok _)))))
   refine wpQuiet_nil ?_
   intro w7 hw_
   have HB7:=zd (HBZ.out.trans ((ya5 hw_).mono HBZ.out.size))
   clear hw_ Gv0 Gv1 Gv2 Gv3 Gv4 Gv5 Gvr Gf0 Gf1 Gf2 Gf3 Gf4 Gf5 Gf6 Gf7 Gq1
   go_wp2_with (fail)
   go_roundw
   case rel => exact ⟨k + 1,hlt,by go_num,HF,HB7.out⟩
   case measure => simp [intOf]; omega
  have hke : k = x.pins.length:=zz4
  subst hke
  have HP1:=HS
  have HB8:=HB
  clear HS HB hlt
  go_wp2_with (fail)
  go_loopw [73] (fun i wr => ∃ k : Nat,k ≤ x.pairs.length ∧ i = .int .i64 (k : Int) ∧ Hid (∀ j,j < k → pairFit x roots j = true) ∧ Below V.heap.size V wr) (fun i _ => x.pairs.length - (intOf i).toNat)
  case atStart => exact ⟨0,Nat.zero_le _,rfl,zd (fun j h => absurd h zz4),HB8.out⟩
  case round =>
   obtain ⟨k,hk,rfl,HS,hb⟩:=hrel
   have HB:=zd hb
   have hsr:=hb.size
   clear v0 v1 v2 v3 v4 v5 vr
   clear hb
   have v0:=(BV.out.keep (HB.out.block _ zz4)).at_ (i:=0) rfl
   have v1:=(BV.out.keep (HB.out.block _ zz4)).at_ (i:=1) rfl
   have v2:=(BV.out.keep (HB.out.block _ zz4)).at_ (i:=2) rfl
   have v3:=(BV.out.keep (HB.out.block _ zz4)).at_ (i:=3) rfl
   have v4:=(BV.out.keep (HB.out.block _ zz4)).at_ (i:=4) rfl
   have v5:=(BV.out.keep (HB.out.block _ zz4)).at_ (i:=5) rfl
   have vr:=(RV.out.keep (HB.out.block _ hwV)).at_ (i:=0) rfl
   by_cases hlt : k < x.pairs.length
   ·obtain ⟨b1,o1,c1,T1,rfl,hl1,hf,hr1,_,_⟩:=Row.at_ Q3.out hlt
    have HR1:=zd (Lay.later hr1 HB.out)
    have HAT:=zd (pairFit_at (roots:=roots) hlt)
    have HNO:=zd (HNQ.out k hlt)
    have HSZ:=zd (sz_get' hlt z3)
    obtain ⟨s,hs⟩ : ∃ s,x.pairs[k] = s:=⟨_,rfl⟩
    rw [hs] at hr1 HR1 HAT HSZ
    clear hs
    obtain ⟨F0,g0,_,F1,g1,_,F2,g2,_,H0,i0,_,H1,i1,_,H2,i2,_,rfl, -⟩:=Pair.open hr1
    replace hf:=hf.keep (HB.out.block b1 hl1)
    rw [show Lay.n Pair = 16 from rfl] at hf
    have f0:=hf 0 _ rfl
    have f1:=hf 1 _ rfl
    have f2:=hf 2 _ rfl
    have f3:=hf 3 _ rfl
    have f4:=hf 4 _ rfl
    have f5:=hf 5 _ rfl
    have f6:=hf 6 _ rfl
    have f7:=hf 7 _ rfl
    have f8:=hf 8 _ rfl
    have f9:=hf 9 _ rfl
    have f10:=hf 10 _ rfl
    have f11:=hf 11 _ rfl
    have f12:=hf 12 _ rfl
    have f13:=hf 13 _ rfl
    have f14:=hf 14 _ rfl
    have f15:=hf 15 _ rfl
    simp only [Nat.add_zero] at f0
    clear hr1 hf
    go_upto_region 17 with (fail)
    obtain ⟨Z,hZ⟩ : ∃ Z,wr.alloc (.cells #[.int .i64 s.a.head.house, .int .i64 s.a.head.epoch, .string s.a.head.root, .string s.a.head.prev, .int .i64 s.a.sig.at_, .slice F0 s.a.sig.open_.length g0, .slice F1 s.a.sig.shut.length g1, .slice F2 s.a.sig.sides.length g2, .int .i64 s.b.head.house, .int .i64 s.b.head.epoch, .string s.b.head.root, .string s.b.head.prev, .int .i64 s.b.sig.at_, .slice H0 s.b.sig.open_.length i0, .slice H1 s.b.sig.shut.length i1, .slice H2 s.b.sig.sides.length i2] 79) = Z:=⟨_,rfl⟩
    have hZf : Below wr.heap.size wr Z ∧ wr.heap.size < Z.heap.size ∧ Bx Z wr.heap.size #[.int .i64 s.a.head.house, .int .i64 s.a.head.epoch, .string s.a.head.root, .string s.a.head.prev, .int .i64 s.a.sig.at_, .slice F0 s.a.sig.open_.length g0, .slice F1 s.a.sig.shut.length g1, .slice F2 s.a.sig.sides.length g2, .int .i64 s.b.head.house, .int .i64 s.b.head.epoch, .string s.b.head.root, .string s.b.head.prev, .int .i64 s.b.sig.at_, .slice H0 s.b.sig.open_.length i0, .slice H1 s.b.sig.shut.length i1, .slice H2 s.b.sig.sides.length i2] 79:=by rw [← hZ]; exact ⟨(Below.refl _ _).alloc (Nat.le_refl _) _,zz17,Bx.new _ _ _⟩
    rw [hZ]
    clear hZ f0 f1 f2 f3 f4 f5 f6 f7 f8 f9 f10 f11 f12 f13 f14 f15
    obtain ⟨hbZ,hlZ,xZ⟩:=hZf
    have HBZ:=zd (HB.out.trans (hbZ.mono hsr))
    have HRZ:=zd (Lay.later HR1.out hbZ)
    have f0:=xZ.at_ (i:=0) rfl
    have f1:=xZ.at_ (i:=1) rfl
    have f2:=xZ.at_ (i:=2) rfl
    have f3:=xZ.at_ (i:=3) rfl
    have f4:=xZ.at_ (i:=4) rfl
    have f5:=xZ.at_ (i:=5) rfl
    have f6:=xZ.at_ (i:=6) rfl
    have f7:=xZ.at_ (i:=7) rfl
    have f8:=xZ.at_ (i:=8) rfl
    have f9:=xZ.at_ (i:=9) rfl
    have f10:=xZ.at_ (i:=10) rfl
    have f11:=xZ.at_ (i:=11) rfl
    have f12:=xZ.at_ (i:=12) rfl
    have f13:=xZ.at_ (i:=13) rfl
    have f14:=xZ.at_ (i:=14) rfl
    have f15:=xZ.at_ (i:=15) rfl
    clear v0 v1 v2 v3 v4 v5 vr
    clear hbZ xZ HR1
    have v0:=(BV.out.keep (HBZ.out.block _ zz4)).at_ (i:=0) rfl
    have v1:=(BV.out.keep (HBZ.out.block _ zz4)).at_ (i:=1) rfl
    have v2:=(BV.out.keep (HBZ.out.block _ zz4)).at_ (i:=2) rfl
    have v3:=(BV.out.keep (HBZ.out.block _ zz4)).at_ (i:=3) rfl
    have v4:=(BV.out.keep (HBZ.out.block _ zz4)).at_ (i:=4) rfl
    have v5:=(BV.out.keep (HBZ.out.block _ zz4)).at_ (i:=5) rfl
    have vr:=(RV.out.keep (HBZ.out.block _ hwV)).at_ (i:=0) rfl
    have HCL : Hid (∀ Y,Below Z.heap.size Z Y → Calls Tryz.prog 61 #[.int .i64 s.a.head.house, .pointer (some ⟨w.heap.size,0,none⟩), .pointer (some ⟨w.heap.size + 1,0,none⟩)] Y fun e w' => e = .returned (.bool (otherH x.house roots.length s.a.head.house)) ∧ Y = w'):=zd (fun (Y : World) (h : Below Z.heap.size Z Y) => impl_other Y x.house s.a.head.house w.heap.size (w.heap.size + 1) AR roots.length kR zz4 ((h.cell (p:=⟨w.heap.size,0,none⟩) (by show w.heap.size < Z.heap.size; have:=HBZ.out.size; omega)).trans v0) ((h.cell (p:=⟨w.heap.size + 1,0,none⟩) (by show w.heap.size + 1 < Z.heap.size; have:=HBZ.out.size; omega)).trans vr))
    go_upto_region 18 with (fail)
    cases hot : otherH x.house roots.length s.a.head.house
    ·rw [hot] at HCL
     have HF:=zd (HNO.out (by rw [HAT.out,hot]; rfl))
     clear hot HAT HNO
     go_wp2_with (fail)
     have Gv0:=Grown.cell v0
     have Gv1:=Grown.cell v1
     have Gv2:=Grown.cell v2
     have Gv3:=Grown.cell v3
     have Gv4:=Grown.cell v4
     have Gv5:=Grown.cell v5
     have Gvr:=Grown.cell vr
     have Gf0:=Grown.cell f0
     have Gf1:=Grown.cell f1
     have Gf2:=Grown.cell f2
     have Gf3:=Grown.cell f3
     have Gf4:=Grown.cell f4
     have Gf5:=Grown.cell f5
     have Gf6:=Grown.cell f6
     have Gf7:=Grown.cell f7
     have Gf8:=Grown.cell f8
     have Gf9:=Grown.cell f9
     have Gf10:=Grown.cell f10
     have Gf11:=Grown.cell f11
     have Gf12:=Grown.cell f12
     have Gf13:=Grown.cell f13
     have Gf14:=Grown.cell f14
     have Gf15:=Grown.cell f15
     clear v0 v1 v2 v3 v4 v5 vr f0 f1 f2 f3 f4 f5 f6 f7 f8 f9 f10 f11 f12 f13 f14 f15
     refine ya0 (by kernel_rfl) (by kernel_rfl) ?_
     repeat (go_big_quiet_step (first | (go_at_call 61; with_reducible exact grown_same (HCL.out _ (Grown.ok _)))))
     refine wpQuiet_nil ?_
     intro w7 hw_
     have HB7:=zd (HBZ.out.trans ((ya5 hw_).mono HBZ.out.size))
     clear hw_ Gv0 Gv1 Gv2 Gv3 Gv4 Gv5 Gvr Gf0 Gf1 Gf2 Gf3 Gf4 Gf5 Gf6 Gf7 Gf8 Gf9 Gf10 Gf11 Gf12 Gf13 Gf14 Gf15
     go_wp2_with (fail)
     go_ret
     exact ⟨ya1 zz24,HBV.out.trans (HB7.out.mono HBV.out.size)⟩
    rw [hot] at HCL
    obtain ⟨-,j,hj,hjl⟩:=other_idx hot
    rw [hj] at HCL
    have HRO:=zd (roots_at hj hjl)
    obtain ⟨bR,oR,rfl,hlR,q1, -⟩:=Row.str (Row.later QR.out HBZ.out) hjl
    have hrs:=HRT.out j hjl
    obtain ⟨rt,hrt⟩ : ∃ r,roots[j] = r:=⟨_,rfl⟩
    rw [hrt] at q1 HRO hrs
    clear hrt
    have hjj : (j : Int) < (roots.length : Int):=zz4
    have HOK : Hid (∀ Y,Below Z.heap.size Z Y → Calls Tryz.prog 64 #[.string rt, .agg #[.int .i64 s.a.head.house, .int .i64 s.a.head.epoch, .string s.a.head.root, .string s.a.head.prev, .int .i64 s.a.sig.at_, .slice F0 s.a.sig.open_.length g0, .slice F1 s.a.sig.shut.length g1, .slice F2 s.a.sig.sides.length g2, .int .i64 s.b.head.house, .int .i64 s.b.head.epoch, .string s.b.head.root, .string s.b.head.prev, .int .i64 s.b.sig.at_, .slice H0 s.b.sig.open_.length i0, .slice H1 s.b.sig.shut.length i1, .slice H2 s.b.sig.sides.length i2]] Y fun e w' => e = .returned (.bool (evidenceOk rt s)) ∧ Below Y.heap.size Y w'):=zd (fun Y h => impl_EvidenceOk Y rt hrs s _ _ (Lay.later HRZ.out h) HSZ.out (HT.out.later (HBV.out.trans ((HBZ.out.trans (h.mono HBZ.out.size)).mono HBV.out.size))))
    cases hok : evidenceOk rt s
    ·rw [hok,hj] at HOK
     have HF:=zd (HNO.out (by rw [HAT.out,HRO.out,hot,hok]; rfl))
     clear hot hok HAT HNO HRO
     go_wp2_with (fail)
     have Gv0:=Grown.cell v0
     have Gv1:=Grown.cell v1
     have Gv2:=Grown.cell v2
     have Gv3:=Grown.cell v3
     have Gv4:=Grown.cell v4
     have Gv5:=Grown.cell v5
     have Gvr:=Grown.cell vr
     have Gf0:=Grown.cell f0
     have Gf1:=Grown.cell f1
     have Gf2:=Grown.cell f2
     have Gf3:=Grown.cell f3
     have Gf4:=Grown.cell f4
     have Gf5:=Grown.cell f5
     have Gf6:=Grown.cell f6
     have Gf7:=Grown.cell f7
     have Gf8:=Grown.cell f8
     have Gf9:=Grown.cell f9
     have Gf10:=Grown.cell f10
     have Gf11:=Grown.cell f11
     have Gf12:=Grown.cell f12
     have Gf13:=Grown.cell f13
     have Gf14:=Grown.cell f14
     have Gf15:=Grown.cell f15
     have Gq1:=Grown.cell q1
     clear v0 v1 v2 v3 v4 v5 vr f0 f1 f2 f3 f4 f5 f6 f7 f8 f9 f10 f11 f12 f13 f14 f15 q1
     refine ya0 (by kernel_rfl) (by kernel_rfl) ?_
     repeat (go_big_quiet_step (first | (go_at_call 61; with_reducible exact grown_same (HCL.out _ (Grown.ok _))) | (go_at_call 64; with_reducible exact ya4 (HOK.out _ (Grown.ok _)))))
     refine wpQuiet_nil ?_
     intro w7 hw_
     have HB7:=zd (HBZ.out.trans ((ya5 hw_).mono HBZ.out.size))
     clear hw_ Gv0 Gv1 Gv2 Gv3 Gv4 Gv5 Gvr Gf0 Gf1 Gf2 Gf3 Gf4 Gf5 Gf6 Gf7 Gf8 Gf9 Gf10 Gf11 Gf12 Gf13 Gf14 Gf15 Gq1
     go_wp2_with (fail)
     go_ret
     exact ⟨ya1 zz24,HBV.out.trans (HB7.out.mono HBV.out.size)⟩
    rw [hok,hj] at HOK
    have HF : Hid (∀ i,i < k + 1 → pairFit x roots i = true):=zd (fun i hi => zz46)
    clear hot hok HAT HNO HRO
    go_wp2_with (fail)
    have Gv0:=Grown.cell v0
    have Gv1:=Grown.cell v1
    have Gv2:=Grown.cell v2
    have Gv3:=Grown.cell v3
    have Gv4:=Grown.cell v4
    have Gv5:=Grown.cell v5
    have Gvr:=Grown.cell vr
    have Gf0:=Grown.cell f0
    have Gf1:=Grown.cell f1
    have Gf2:=Grown.cell f2
    have Gf3:=Grown.cell f3
    have Gf4:=Grown.cell f4
    have Gf5:=Grown.cell f5
    have Gf6:=Grown.cell f6
    have Gf7:=Grown.cell f7
    have Gf8:=Grown.cell f8
    have Gf9:=Grown.cell f9
    have Gf10:=Grown.cell f10
    have Gf11:=Grown.cell f11
    have Gf12:=Grown.cell f12
    have Gf13:=Grown.cell f13
    have Gf14:=Grown.cell f14
    have Gf15:=Grown.cell f15
    have Gq1:=Grown.cell q1
    clear v0 v1 v2 v3 v4 v5 vr f0 f1 f2 f3 f4 f5 f6 f7 f8 f9 f10 f11 f12 f13 f14 f15 q1
    refine ya0 (by kernel_rfl) (by kernel_rfl) ?_
    repeat (go_big_quiet_step (first | (go_at_call 61; with_reducible exact grown_same (HCL.out _ (Grown.ok _))) | (go_at_call 64; with_reducible exact ya4 (HOK.out _ (Grown.ok _)))))
    refine wpQuiet_nil ?_
    intro w7 hw_
    have HB7:=zd (HBZ.out.trans ((ya5 hw_).mono HBZ.out.size))
    clear hw_ Gv0 Gv1 Gv2 Gv3 Gv4 Gv5 Gvr Gf0 Gf1 Gf2 Gf3 Gf4 Gf5 Gf6 Gf7 Gf8 Gf9 Gf10 Gf11 Gf12 Gf13 Gf14 Gf15 Gq1
    go_wp2_with (fail)
    go_roundw
    case rel => exact ⟨k + 1,hlt,by go_num,HF,HB7.out⟩
    case measure => simp [intOf]; omega
   have hke : k = x.pairs.length:=zz4
   subst hke
   have HP2:=HS
   have HB9:=HB
   clear HS HB hlt
   go_wp2_with (fail)
   go_loopw [13] (fun i wr => ∃ k : Nat,k ≤ roots.length ∧ k ≤ 3 ∧ i = .int .i64 (k : Int) ∧ Hid (∀ j,j < k → chainFit x j = true) ∧ Below V.heap.size V wr) (fun i _ => 3 - (intOf i).toNat)
   case atStart => exact ⟨0,Nat.zero_le _,Nat.zero_le _,rfl,zd (fun j h => absurd h zz4),HB9.out⟩
   case round =>
    obtain ⟨k,hk,hk3,rfl,HS,hb⟩:=hrel
    have HB:=zd hb
    have hsr:=hb.size
    clear hb v0 v1 v2 v3 v4 v5 vr
    have v0:=(BV.out.keep (HB.out.block _ zz4)).at_ (i:=0) rfl
    have v1:=(BV.out.keep (HB.out.block _ zz4)).at_ (i:=1) rfl
    have v2:=(BV.out.keep (HB.out.block _ zz4)).at_ (i:=2) rfl
    have v3:=(BV.out.keep (HB.out.block _ zz4)).at_ (i:=3) rfl
    have v4:=(BV.out.keep (HB.out.block _ zz4)).at_ (i:=4) rfl
    have v5:=(BV.out.keep (HB.out.block _ zz4)).at_ (i:=5) rfl
    have vr:=(RV.out.keep (HB.out.block _ hwV)).at_ (i:=0) rfl
    by_cases hlt : k < roots.length
    ·have hq1 : decide (k < roots.length) = true:=decide_eq_true hlt
     have hq2 : decide ((k : Int) < (roots.length : Int)) = true:=decide_eq_true zz4
     by_cases h3 : k < 3
     ·have hq3 : decide (k < 3) = true:=decide_eq_true h3
      have hq4 : decide ((k : Int) < 3) = true:=decide_eq_true zz4
      have HNO:=zd (HNC.out k hlt h3)
      have HPO:=zd (impl_PinsOf wr x _ S (Lay.later HXV.out HB.out) hz (k : Int) zz30)
      have hpl : (pinsOf x (k : Int)).length ≤ 4000000000:=by have:=pinsOf_len x (k : Int); omega
      have HCF : Hid (chainFit x k = chainOk (pinsOf x (k : Int)) (k : Int)):=zd rfl
      go_wp2_with (fail)
      refine HPO.out.mono ?_
      rintro e9 w9 ⟨A9,c9,rfl,l9,m9,r9,hb9⟩
      have HC9:=zd (HB.out.trans (hb9.mono hsr))
      have HCO:=zd (impl_ChainOk w9 (pinsOf x (k : Int)) A9 c9 _ r9.weak hpl l9 (k : Int) (HT.out.later (HBV.out.trans (HC9.out.mono HBV.out.size))))
      clear l9 m9 r9 hb9 HPO v0 v1 v2 v3 v4 v5 vr
      cases hc : chainOk (pinsOf x (k : Int)) (k : Int)
      ·rw [hc] at HCO
       have HF:=zd (HNO.out (by rw [HCF.out,hc]))
       clear hc HNO HCF
       go_wp2_with (go_at_call 65; refine HCO.out.mono ?_; rintro e10 w10 ⟨rfl,hb10⟩)
       go_ret
       exact ⟨ya1 zz24,HBV.out.trans ((HC9.out.trans (hb10.mono HC9.out.size)).mono HBV.out.size)⟩
      ·rw [hc] at HCO
       have HF : Hid (∀ i,i < k + 1 → chainFit x i = true):=zd (fun i hi => by rcases Nat.lt_succ_iff_lt_or_eq.1 hi with h | h; exact HS.out i h; subst h; rw [HCF.out,hc])
       clear hc HNO HCF
       go_wp2_with (go_at_call 65; refine HCO.out.mono ?_; rintro e10 w10 ⟨rfl,hb10⟩)
       go_roundw
       case rel => exact ⟨k + 1,hlt,h3,by go_num,HF,HC9.out.trans (hb10.mono HC9.out.size)⟩
       case measure => simp [intOf]; omega
     ·have hq3 : decide (k < 3) = false:=decide_eq_false h3
      have hq4 : decide ((k : Int) < 3) = false:=decide_eq_false zz4
      have HF:=zd (HYE.out HIN.out HNEW.out HP1.out HP2.out (fun j hj => HS.out j zz4))
      go_wp2_with (fail)
      go_ret
      exact ⟨ya1 zz24,HBV.out.trans (HB.out.mono HBV.out.size)⟩
    ·have hq1 : decide (k < roots.length) = false:=decide_eq_false hlt
     have hq2 : decide ((k : Int) < (roots.length : Int)) = false:=decide_eq_false zz4
     have HF:=zd (HYE.out HIN.out HNEW.out HP1.out HP2.out (fun j hj => HS.out j zz4))
     go_wp2_with (fail)
     go_ret
     exact ⟨ya1 zz24,HBV.out.trans (HB.out.mono HBV.out.size)⟩
end Go.Proofs.YtlfnmbcnehaikaaGreatDoor
