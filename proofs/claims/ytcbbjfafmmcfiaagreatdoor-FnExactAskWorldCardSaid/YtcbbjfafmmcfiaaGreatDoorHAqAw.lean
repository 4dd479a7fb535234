/- A part of the proof. -/
import Derived.Test.YtcbbjfafmmcfiaaGreatDoorHAqRy
import Derived.Test.YtcbbjfafmmcfiaaGreatDoorHAqVf
set_option linter.unusedVariables false
set_option linter.unusedSimpArgs false
set_option maxRecDepth 20000
set_option maxHeartbeats 8000000
namespace Go.Proofs.YtcbbjfafmmcfiaaGreatDoor
open Go.RowKit Lay Mk
def askWorld (x:Wrld) (t:Trust) (house:Int) (name:ByteArray) (ep:Int):ByteArray × Bool × Int :=
 if ¬ (resolve x house name ep).2=0 then (⟨#[]⟩,false,10+(resolve x house name ep).2)
 else if ¬ (verify t house name ep (resolve x house name ep).1).2.2=0 then (⟨#[]⟩,false,20+(verify t house name ep (resolve x house name ep).1).2.2)
 else ((verify t house name ep (resolve x house name ep).1).1,(verify t house name ep (resolve x house name ep).1).2.1,0)
theorem ver_code (t:Trust) (house:Int) (name:ByteArray) (ep:Int) (x:Whole):0≤(verify t house name ep x).2.2∧(verify t house name ep x).2.2≤5:=by
 unfold verify; repeat' split
 all_goals (constructor <;> (simp only; omega))
theorem wzero_small:WSmall wzero:=by unfold WSmall wzero; decide
theorem resS_small (x:Wrld) (house:Int) (name:ByteArray) (ep:Int) (h:House) (s:Server) (sl:Seal):WSmall (resolveS x house name ep h s sl).1:=by
 unfold resolveS; split
 ·have h1:=look_small s ep name
  have h2:=comb_small (h.servers.map (shRoot ep)) (shardOf name h.coord.k) 16
  have h3:(stampsOf x house ep).length≤3:=stampTo_len _ _ _ 3
  unfold WSmall
  refine ⟨h1,?_,?_,?_⟩
  ·show (combineSides _ _ 16).1.length≤_; omega
  ·show (stampsOf x house ep).length≤_; omega
  ·show (stampsOf x house ep).length≤_; omega
 ·exact wzero_small
theorem resH_small (x:Wrld) (house:Int) (name:ByteArray) (ep:Int) (h:House):WSmall (resolveH x house name ep h).1:=by
 unfold resolveH
 split
 ·exact wzero_small
 ·split
  ·exact wzero_small
  ·split
   ·split
    ·exact resS_small _ _ _ _ _ _ _
    ·exact wzero_small
   ·exact wzero_small
theorem res_small (x:Wrld) (house:Int) (name:ByteArray) (ep:Int):WSmall (resolve x house name ep).1:=by
 unfold resolve
 split
 ·exact wzero_small
 ·split
  ·exact resH_small _ _ _ _ _
  ·exact wzero_small
def AwRes (R:ByteArray × Bool × Int) (w:World) (e:Ending) (w':World):Prop:=e = .returned (.tuple #[.string R.1,.bool R.2.1,.int .i64 R.2.2])∧Below w.heap.size w w'
theorem AwRes.mk {R:ByteArray × Bool × Int} {s:ByteArray} {b:Bool} {k:Int} {w w':World} (hR:R=(s,b,k)) (hb:Below w.heap.size w w'):AwRes R w (.returned (.tuple #[.string s,.bool b,.int .i64 k])) w':=by
 subst hR; exact ⟨rfl,hb⟩
theorem impl_AskWorld (w:World) (x:Wrld) (cs:List Value) (S:Blks) (hx:rd false w cs x S) (hz:x.sz≤1048576) (t:Trust) (ct:List Value) (St:Blks) (ht:rd false w ct t St) (hzt:t.sz≤1048576) (house:Int) (hh:I64 house) (name:ByteArray) (hn:name.size≤1048576) (ep:Int) (he:I64 ep) (hT:Tabs w):Calls Tryz.prog 54 #[.agg cs.toArray,.agg ct.toArray,.int .i64 house,.string name,.int .i64 ep] w (AwRes (askWorld x t house name ep) w):=by
 have HX1:=zd hx
 have HT1:=zd ht
 obtain ⟨A0,k0,S0,A1,k1,S1,A2,k2,S2,A3,k3,S3,A4,k4,S4,A5,k5,S5,rfl, -⟩:=Wrld.open hx
 obtain ⟨B0,j0,U0,rfl, -⟩:=Trust.open ht
 simp only [Wrld.cs] at HX1 ⊢
 simp only [Trust.cs] at HT1 ⊢
 clear hx ht
 have HT:=zd hT
 clear hT
 have HRS:=zd (fun W (h:Below w.heap.size w W) => impl_Resolve W x _ S (Lay.later HX1.out h) hz house hh name hn ep he (HT.out.later h))
 have hc:=res_code x house name ep
 have HSM:=zd (res_small x house name ep)
 have HE1:Hid (¬ (resolve x house name ep).2=0→askWorld x t house name ep=(⟨#[]⟩,false,10+(resolve x house name ep).2)):=zd (fun h => by unfold askWorld; rw [if_pos h])
 have HE2:Hid ((resolve x house name ep).2=0→¬ (verify t house name ep (resolve x house name ep).1).2.2=0→askWorld x t house name ep=(⟨#[]⟩,false,20+(verify t house name ep (resolve x house name ep).1).2.2)):=zd (fun h h2 => by unfold askWorld; rw [if_neg (by simp [h]),if_pos h2])
 have HE3:Hid ((resolve x house name ep).2=0→(verify t house name ep (resolve x house name ep).1).2.2=0→askWorld x t house name ep=((verify t house name ep (resolve x house name ep).1).1,(verify t house name ep (resolve x house name ep).1).2.1,0)):=zd (fun h h2 => by unfold askWorld; rw [if_neg (by simp [h]),if_neg (by simp [h2])])
 obtain ⟨R,hR⟩:∃ R,askWorld x t house name ep=R:=⟨_,rfl⟩
 rw [hR] at HE1 HE2 HE3 ⊢
 clear hR
 obtain ⟨Q,hQ⟩:∃ Q,resolve x house name ep=Q:=⟨_,rfl⟩
 rw [hQ] at HRS hc HSM HE1 HE2 HE3
 clear hQ
 obtain ⟨y,code⟩:=Q
 simp only at HSM hc HE1 HE2 HE3
 have hvc:=ver_code t house name ep y
 have HVF:=zd (fun W (h:Below w.heap.size w W) (cy:List Value) (Sy:Blks) (hy:rd true W cy y Sy) => impl_Verify W t _ St (Lay.later HT1.out h) hzt house hh name hn ep he y cy Sy (Lay.weak hy) HSM.out (HT.out.later h))
 obtain ⟨V,hV⟩:∃ V,verify t house name ep y=V:=⟨_,rfl⟩
 rw [hV] at HVF HE2 HE3 hvc
 clear hV
 obtain ⟨v1,v2,v3⟩:=V
 simp only at HVF HE2 HE3 hvc
 clear hz hzt hh hn he HSM
 have hWd:∀ W,W=(w.alloc (.cells #[.slice A0 x.houses.length k0,.slice A1 x.auditors.length k1,.slice A2 x.notes.length k2,.slice A3 x.given.length k3,.slice A4 x.evil.length k4,.slice A5 x.codes.length k5] 132)).alloc (.cells #[.slice B0 t.roots.length j0,.int .i64 t.k,.int .i64 t.need] 62)→Below w.heap.size w W∧W.heap.size=w.heap.size+1+1∧W.cell? ⟨w.heap.size,0,none⟩=some (.slice A0 x.houses.length k0)∧W.cell? ⟨w.heap.size,1,none⟩=some (.slice A1 x.auditors.length k1)∧W.cell? ⟨w.heap.size,2,none⟩=some (.slice A2 x.notes.length k2)∧W.cell? ⟨w.heap.size,3,none⟩=some (.slice A3 x.given.length k3)∧W.cell? ⟨w.heap.size,4,none⟩=some (.slice A4 x.evil.length k4)∧W.cell? ⟨w.heap.size,5,none⟩=some (.slice A5 x.codes.length k5)∧W.cell? ⟨w.heap.size+1,0,none⟩=some (.slice B0 t.roots.length j0)∧W.cell? ⟨w.heap.size+1,1,none⟩=some (.int .i64 t.k)∧W.cell? ⟨w.heap.size+1,2,none⟩=some (.int .i64 t.need):=by
  rintro W rfl
  have e1:w.heap.size+1=(w.alloc (.cells #[.slice A0 x.houses.length k0,.slice A1 x.auditors.length k1,.slice A2 x.notes.length k2,.slice A3 x.given.length k3,.slice A4 x.evil.length k4,.slice A5 x.codes.length k5] 132)).heap.size:=zz30
  refine ⟨((Below.refl _ _).alloc (Nat.le_refl _) _).alloc zz30 _,zz30,?_⟩
  refine ⟨ya7 (ya1 _ _ _ _ _ rfl),ya7 (ya1 _ _ _ _ _ rfl),ya7 (ya1 _ _ _ _ _ rfl),ya7 (ya1 _ _ _ _ _ rfl),ya7 (ya1 _ _ _ _ _ rfl),ya7 (ya1 _ _ _ _ _ rfl),zz44,zz44,zz44⟩
 go_enter Tryz.func54,Tryz.ntmps54
 go_wp2_with (fail)
 obtain ⟨W,hW⟩:∃ W,(w.alloc (.cells #[.slice A0 x.houses.length k0,.slice A1 x.auditors.length k1,.slice A2 x.notes.length k2,.slice A3 x.given.length k3,.slice A4 x.evil.length k4,.slice A5 x.codes.length k5] 132)).alloc (.cells #[.slice B0 t.roots.length j0,.int .i64 t.k,.int .i64 t.need] 62)=W:=⟨_,rfl⟩
 rw [hW]
 obtain ⟨hBW,hWs,x0,x1,x2,x3,x4,x5,t0,t1,t2⟩:=hWd W hW.symm
 clear hW hWd
 have HBW:=zd hBW
 have hlW:w.heap.size+1<W.heap.size:=zz13
 have HALL:=zd (fun (w':World) (h:Below W.heap.size W w') => (⟨(h.cell (p:=⟨w.heap.size,0,none⟩) zz22).trans x0,(h.cell (p:=⟨w.heap.size,1,none⟩) zz22).trans x1,(h.cell (p:=⟨w.heap.size,2,none⟩) zz22).trans x2,(h.cell (p:=⟨w.heap.size,3,none⟩) zz22).trans x3,(h.cell (p:=⟨w.heap.size,4,none⟩) zz22).trans x4,(h.cell (p:=⟨w.heap.size,5,none⟩) zz22).trans x5,(h.cell (p:=⟨w.heap.size+1,0,none⟩) zz12).trans t0,(h.cell (p:=⟨w.heap.size+1,1,none⟩) zz12).trans t1,(h.cell (p:=⟨w.heap.size+1,2,none⟩) zz12).trans t2⟩:w'.cell? ⟨w.heap.size,0,none⟩=some (.slice A0 x.houses.length k0)∧w'.cell? ⟨w.heap.size,1,none⟩=some (.slice A1 x.auditors.length k1)∧w'.cell? ⟨w.heap.size,2,none⟩=some (.slice A2 x.notes.length k2)∧w'.cell? ⟨w.heap.size,3,none⟩=some (.slice A3 x.given.length k3)∧w'.cell? ⟨w.heap.size,4,none⟩=some (.slice A4 x.evil.length k4)∧w'.cell? ⟨w.heap.size,5,none⟩=some (.slice A5 x.codes.length k5)∧w'.cell? ⟨w.heap.size+1,0,none⟩=some (.slice B0 t.roots.length j0)∧w'.cell? ⟨w.heap.size+1,1,none⟩=some (.int .i64 t.k)∧w'.cell? ⟨w.heap.size+1,2,none⟩=some (.int .i64 t.need)))
 clear hWs hBW x0 x1 x2 x3 x4 x5 t0 t1 t2
 refine (HRS.out _ HBW.out).mono ?_
 rintro e1 w1 ⟨cy,rfl,hy,hb1⟩
 have HB1:=zd hb1
 have HB1w:=zd (HBW.out.trans (hb1.mono HBW.out.size))
 have hl1:=hb1.size
 have hl1x:w.heap.size+1<w1.heap.size:=zz13
 have hl1y:w.heap.size<w1.heap.size:=zz13
 have HY:=zd hy
 obtain ⟨P0,n0,T0,P1,n1,T1,P2,n2,T2,P3,n3,T3,P4,n4,T4,P5,n5,T5,P6,n6,T6,rfl, -⟩:=Whole.open hy
 simp only [Whole.cs] at HY ⊢
 obtain ⟨x0,x1,x2,x3,x4,x5,t0,t1,t2⟩:=HALL.out w1 HB1.out
 clear hy hb1 HRS
 by_cases h0:code=0
 ·subst h0
  have HE2':=zd (HE2.out rfl)
  have HE3':=zd (HE3.out rfl)
  clear HE1 HE2 HE3 hc
  go_wp2_with (fail)
  obtain ⟨V,hV⟩:∃ V,w1.alloc (.cells #[.slice P0 y.proof.bucket.length n0,.slice P1 y.proof.sides.length n1,.slice P2 y.tops.length n2,.int .i64 y.seal_.head.house,.int .i64 y.seal_.head.epoch,.string y.seal_.head.root,.string y.seal_.head.prev,.int .i64 y.seal_.sig.at_,.slice P3 y.seal_.sig.open_.length n3,.slice P4 y.seal_.sig.shut.length n4,.slice P5 y.seal_.sig.sides.length n5,.slice P6 y.stamps.length n6] 108)=V:=⟨_,rfl⟩
  rw [hV]
  have hVB:Below w1.heap.size w1 V:=by rw [← hV]; exact (Below.refl _ _).alloc (Nat.le_refl _) _
  clear x0 x1 x2 x3 x4 x5 t0 t1 t2
  obtain ⟨x0,x1,x2,x3,x4,x5,t0,t1,t2⟩:=HALL.out V (HB1.out.trans (hVB.mono HB1.out.size))
  have hlV:w1.heap.size<V.heap.size:=by rw [← hV]; simp
  have y0:V.cell? ⟨w1.heap.size,0,none⟩=some (.slice P0 y.proof.bucket.length n0):=zz42
  have y1:V.cell? ⟨w1.heap.size,1,none⟩=some (.slice P1 y.proof.sides.length n1):=zz42
  have y2:V.cell? ⟨w1.heap.size,2,none⟩=some (.slice P2 y.tops.length n2):=zz42
  have y3:V.cell? ⟨w1.heap.size,3,none⟩=some (.int .i64 y.seal_.head.house):=zz42
  have y4:V.cell? ⟨w1.heap.size,4,none⟩=some (.int .i64 y.seal_.head.epoch):=zz42
  have y5:V.cell? ⟨w1.heap.size,5,none⟩=some (.string y.seal_.head.root):=zz42
  have y6:V.cell? ⟨w1.heap.size,6,none⟩=some (.string y.seal_.head.prev):=zz42
  have y7:V.cell? ⟨w1.heap.size,7,none⟩=some (.int .i64 y.seal_.sig.at_):=zz42
  have y8:V.cell? ⟨w1.heap.size,8,none⟩=some (.slice P3 y.seal_.sig.open_.length n3):=zz42
  have y9:V.cell? ⟨w1.heap.size,9,none⟩=some (.slice P4 y.seal_.sig.shut.length n4):=zz42
  have y10:V.cell? ⟨w1.heap.size,10,none⟩=some (.slice P5 y.seal_.sig.sides.length n5):=zz42
  have y11:V.cell? ⟨w1.heap.size,11,none⟩=some (.slice P6 y.stamps.length n6):=zz42
  have HVB:=zd (HB1w.out.trans (hVB.mono HB1w.out.size))
  have HYV:=zd (Lay.later HY.out hVB)
  clear hV hVB
  refine (HVF.out _ HVB.out _ _ HYV.out).mono ?_
  rintro e2 w2 ⟨rfl,hb2⟩
  have HB2:=zd (HVB.out.trans (hb2.mono HVB.out.size))
  clear hb2
  by_cases h3:v3=0
  ·have HE:=zd (HE3'.out h3)
   subst h3
   clear HE2' HE3' hvc
   go_wp2
   go_ret3
   exact AwRes.mk HE.out HB2.out
  ·have HE:=zd (HE2'.out h3)
   have hq:(v3 != 0)=true:=by rw [bne_iff_ne]; exact h3
   have hq2:(v3 == 0)=false:=beq_eq_false_iff_ne.2 h3
   have hw:IntKind.i64.wrap (20+v3)=20+v3:=zz72
   clear HE2' HE3' hvc h3
   go_wp2
   go_ret3
   exact AwRes.mk HE.out HB2.out
 ·have HE:=zd (HE1.out h0)
  have hq:(code != 0)=true:=by rw [bne_iff_ne]; exact h0
  have hq2:(code == 0)=false:=beq_eq_false_iff_ne.2 h0
  have hw:IntKind.i64.wrap (10+code)=10+code:=zz72
  clear HE1 HE2 HE3 hc h0 hvc
  go_wp2
  go_ret3
  exact AwRes.mk HE.out (HB1w.out.alloc HB1w.out.size _)
theorem spec_AskWorld (w:World) (x:Wrld) (cs:List Value) (S:Blks) (hx:rd false w cs x S) (hz:x.sz≤1048576) (t:Trust) (ct:List Value) (St:Blks) (ht:rd false w ct t St) (hzt:t.sz≤1048576) (house:Int) (hh:I64 house) (name:ByteArray) (hn:name.size≤1048576) (ep:Int) (he:I64 ep):Calls Tryz.prog 53 #[.agg cs.toArray,.agg ct.toArray,.int .i64 house,.string name,.int .i64 ep] w (AwRes (askWorld x t house name ep) w):=by
 have HX1:=zd hx
 have HT1:=zd ht
 obtain ⟨A0,k0,S0,A1,k1,S1,A2,k2,S2,A3,k3,S3,A4,k4,S4,A5,k5,S5,rfl, -⟩:=Wrld.open hx
 obtain ⟨B0,j0,U0,rfl, -⟩:=Trust.open ht
 simp only [Wrld.cs] at HX1 ⊢
 simp only [Trust.cs] at HT1 ⊢
 clear hx ht
 have HRS:=zd (fun W (h:Below w.heap.size w W) => spec_Resolve W x _ S (Lay.later HX1.out h) hz house hh name hn ep he)
 have hc:=res_code x house name ep
 have HSM:=zd (res_small x house name ep)
 have HE1:Hid (¬ (resolve x house name ep).2=0→askWorld x t house name ep=(⟨#[]⟩,false,10+(resolve x house name ep).2)):=zd (fun h => by unfold askWorld; rw [if_pos h])
 have HE2:Hid ((resolve x house name ep).2=0→¬ (verify t house name ep (resolve x house name ep).1).2.2=0→askWorld x t house name ep=(⟨#[]⟩,false,20+(verify t house name ep (resolve x house name ep).1).2.2)):=zd (fun h h2 => by unfold askWorld; rw [if_neg (by simp [h]),if_pos h2])
 have HE3:Hid ((resolve x house name ep).2=0→(verify t house name ep (resolve x house name ep).1).2.2=0→askWorld x t house name ep=((verify t house name ep (resolve x house name ep).1).1,(verify t house name ep (resolve x house name ep).1).2.1,0)):=zd (fun h h2 => by unfold askWorld; rw [if_neg (by simp [h]),if_neg (by simp [h2])])
 obtain ⟨R,hR⟩:∃ R,askWorld x t house name ep=R:=⟨_,rfl⟩
 rw [hR] at HE1 HE2 HE3 ⊢
 clear hR
 obtain ⟨Q,hQ⟩:∃ Q,resolve x house name ep=Q:=⟨_,rfl⟩
 rw [hQ] at HRS hc HSM HE1 HE2 HE3
 clear hQ
 obtain ⟨y,code⟩:=Q
 simp only at HSM hc HE1 HE2 HE3
 have hvc:=ver_code t house name ep y
 have HVF:=zd (fun W (h:Below w.heap.size w W) (cy:List Value) (Sy:Blks) (hy:rd true W cy y Sy) => spec_Verify W t _ St (Lay.later HT1.out h) hzt house hh name hn ep he y cy Sy (Lay.weak hy) HSM.out)
 obtain ⟨V,hV⟩:∃ V,verify t house name ep y=V:=⟨_,rfl⟩
 rw [hV] at HVF HE2 HE3 hvc
 clear hV
 obtain ⟨v1,v2,v3⟩:=V
 simp only at HVF HE2 HE3 hvc
 clear hz hzt hh hn he HSM
 have hWd:∀ W,W=(w.alloc (.cells #[.slice A0 x.houses.length k0,.slice A1 x.auditors.length k1,.slice A2 x.notes.length k2,.slice A3 x.given.length k3,.slice A4 x.evil.length k4,.slice A5 x.codes.length k5] 132)).alloc (.cells #[.slice B0 t.roots.length j0,.int .i64 t.k,.int .i64 t.need] 62)→Below w.heap.size w W∧W.heap.size=w.heap.size+1+1∧W.cell? ⟨w.heap.size,0,none⟩=some (.slice A0 x.houses.length k0)∧W.cell? ⟨w.heap.size,1,none⟩=some (.slice A1 x.auditors.length k1)∧W.cell? ⟨w.heap.size,2,none⟩=some (.slice A2 x.notes.length k2)∧W.cell? ⟨w.heap.size,3,none⟩=some (.slice A3 x.given.length k3)∧W.cell? ⟨w.heap.size,4,none⟩=some (.slice A4 x.evil.length k4)∧W.cell? ⟨w.heap.size,5,none⟩=some (.slice A5 x.codes.length k5)∧W.cell? ⟨w.heap.size+1,0,none⟩=some (.slice B0 t.roots.length j0)∧W.cell? ⟨w.heap.size+1,1,none⟩=some (.int .i64 t.k)∧W.cell? ⟨w.heap.size+1,2,none⟩=some (.int .i64 t.need):=by
  rintro W rfl
  have e1:w.heap.size+1=(w.alloc (.cells #[.slice A0 x.houses.length k0,.slice A1 x.auditors.length k1,.slice A2 x.notes.length k2,.slice A3 x.given.length k3,.slice A4 x.evil.length k4,.slice A5 x.codes.length k5] 132)).heap.size:=zz30
  refine ⟨((Below.refl _ _).alloc (Nat.le_refl _) _).alloc zz30 _,zz30,?_⟩
  refine ⟨ya7 (ya1 _ _ _ _ _ rfl),ya7 (ya1 _ _ _ _ _ rfl),ya7 (ya1 _ _ _ _ _ rfl),ya7 (ya1 _ _ _ _ _ rfl),ya7 (ya1 _ _ _ _ _ rfl),ya7 (ya1 _ _ _ _ _ rfl),zz44,zz44,zz44⟩
 go_enter Tryz.func53,Tryz.ntmps53
 go_wp2_with (fail)
 obtain ⟨W,hW⟩:∃ W,(w.alloc (.cells #[.slice A0 x.houses.length k0,.slice A1 x.auditors.length k1,.slice A2 x.notes.length k2,.slice A3 x.given.length k3,.slice A4 x.evil.length k4,.slice A5 x.codes.length k5] 132)).alloc (.cells #[.slice B0 t.roots.length j0,.int .i64 t.k,.int .i64 t.need] 62)=W:=⟨_,rfl⟩
 rw [hW]
 obtain ⟨hBW,hWs,x0,x1,x2,x3,x4,x5,t0,t1,t2⟩:=hWd W hW.symm
 clear hW hWd
 have HBW:=zd hBW
 have hlW:w.heap.size+1<W.heap.size:=zz13
 have HALL:=zd (fun (w':World) (h:Below W.heap.size W w') => (⟨(h.cell (p:=⟨w.heap.size,0,none⟩) zz22).trans x0,(h.cell (p:=⟨w.heap.size,1,none⟩) zz22).trans x1,(h.cell (p:=⟨w.heap.size,2,none⟩) zz22).trans x2,(h.cell (p:=⟨w.heap.size,3,none⟩) zz22).trans x3,(h.cell (p:=⟨w.heap.size,4,none⟩) zz22).trans x4,(h.cell (p:=⟨w.heap.size,5,none⟩) zz22).trans x5,(h.cell (p:=⟨w.heap.size+1,0,none⟩) zz12).trans t0,(h.cell (p:=⟨w.heap.size+1,1,none⟩) zz12).trans t1,(h.cell (p:=⟨w.heap.size+1,2,none⟩) zz12).trans t2⟩:w'.cell? ⟨w.heap.size,0,none⟩=some (.slice A0 x.houses.length k0)∧w'.cell? ⟨w.heap.size,1,none⟩=some (.slice A1 x.auditors.length k1)∧w'.cell? ⟨w.heap.size,2,none⟩=some (.slice A2 x.notes.length k2)∧w'.cell? ⟨w.heap.size,3,none⟩=some (.slice A3 x.given.length k3)∧w'.cell? ⟨w.heap.size,4,none⟩=some (.slice A4 x.evil.length k4)∧w'.cell? ⟨w.heap.size,5,none⟩=some (.slice A5 x.codes.length k5)∧w'.cell? ⟨w.heap.size+1,0,none⟩=some (.slice B0 t.roots.length j0)∧w'.cell? ⟨w.heap.size+1,1,none⟩=some (.int .i64 t.k)∧w'.cell? ⟨w.heap.size+1,2,none⟩=some (.int .i64 t.need)))
 clear hWs hBW x0 x1 x2 x3 x4 x5 t0 t1 t2
 refine (HRS.out _ HBW.out).mono ?_
 rintro e1 w1 ⟨cy,rfl,hy,hb1⟩
 have HB1:=zd hb1
 have HB1w:=zd (HBW.out.trans (hb1.mono HBW.out.size))
 have hl1:=hb1.size
 have hl1x:w.heap.size+1<w1.heap.size:=zz13
 have hl1y:w.heap.size<w1.heap.size:=zz13
 have HY:=zd hy
 obtain ⟨P0,n0,T0,P1,n1,T1,P2,n2,T2,P3,n3,T3,P4,n4,T4,P5,n5,T5,P6,n6,T6,rfl, -⟩:=Whole.open hy
 simp only [Whole.cs] at HY ⊢
 obtain ⟨x0,x1,x2,x3,x4,x5,t0,t1,t2⟩:=HALL.out w1 HB1.out
 clear hy hb1 HRS
 by_cases h0:code=0
 ·subst h0
  have HE2':=zd (HE2.out rfl)
  have HE3':=zd (HE3.out rfl)
  clear HE1 HE2 HE3 hc
  go_wp2_with (fail)
  obtain ⟨V,hV⟩:∃ V,w1.alloc (.cells #[.slice P0 y.proof.bucket.length n0,.slice P1 y.proof.sides.length n1,.slice P2 y.tops.length n2,.int .i64 y.seal_.head.house,.int .i64 y.seal_.head.epoch,.string y.seal_.head.root,.string y.seal_.head.prev,.int .i64 y.seal_.sig.at_,.slice P3 y.seal_.sig.open_.length n3,.slice P4 y.seal_.sig.shut.length n4,.slice P5 y.seal_.sig.sides.length n5,.slice P6 y.stamps.length n6] 108)=V:=⟨_,rfl⟩
  rw [hV]
  have hVB:Below w1.heap.size w1 V:=by rw [← hV]; exact (Below.refl _ _).alloc (Nat.le_refl _) _
  clear x0 x1 x2 x3 x4 x5 t0 t1 t2
  obtain ⟨x0,x1,x2,x3,x4,x5,t0,t1,t2⟩:=HALL.out V (HB1.out.trans (hVB.mono HB1.out.size))
  have hlV:w1.heap.size<V.heap.size:=by rw [← hV]; simp
  have y0:V.cell? ⟨w1.heap.size,0,none⟩=some (.slice P0 y.proof.bucket.length n0):=zz42
  have y1:V.cell? ⟨w1.heap.size,1,none⟩=some (.slice P1 y.proof.sides.length n1):=zz42
  have y2:V.cell? ⟨w1.heap.size,2,none⟩=some (.slice P2 y.tops.length n2):=zz42
  have y3:V.cell? ⟨w1.heap.size,3,none⟩=some (.int .i64 y.seal_.head.house):=zz42
  have y4:V.cell? ⟨w1.heap.size,4,none⟩=some (.int .i64 y.seal_.head.epoch):=zz42
  have y5:V.cell? ⟨w1.heap.size,5,none⟩=some (.string y.seal_.head.root):=zz42
  have y6:V.cell? ⟨w1.heap.size,6,none⟩=some (.string y.seal_.head.prev):=zz42
  have y7:V.cell? ⟨w1.heap.size,7,none⟩=some (.int .i64 y.seal_.sig.at_):=zz42
  have y8:V.cell? ⟨w1.heap.size,8,none⟩=some (.slice P3 y.seal_.sig.open_.length n3):=zz42
  have y9:V.cell? ⟨w1.heap.size,9,none⟩=some (.slice P4 y.seal_.sig.shut.length n4):=zz42
  have y10:V.cell? ⟨w1.heap.size,10,none⟩=some (.slice P5 y.seal_.sig.sides.length n5):=zz42
  have y11:V.cell? ⟨w1.heap.size,11,none⟩=some (.slice P6 y.stamps.length n6):=zz42
  have HVB:=zd (HB1w.out.trans (hVB.mono HB1w.out.size))
  have HYV:=zd (Lay.later HY.out hVB)
  clear hV hVB
  refine (HVF.out _ HVB.out _ _ HYV.out).mono ?_
  rintro e2 w2 ⟨rfl,hb2⟩
  have HB2:=zd (HVB.out.trans (hb2.mono HVB.out.size))
  clear hb2
  by_cases h3:v3=0
  ·have HE:=zd (HE3'.out h3)
   subst h3
   clear HE2' HE3' hvc
   go_wp2
   go_ret3
   exact AwRes.mk HE.out HB2.out
  ·have HE:=zd (HE2'.out h3)
   have hq:(v3 != 0)=true:=by rw [bne_iff_ne]; exact h3
   have hq2:(v3 == 0)=false:=beq_eq_false_iff_ne.2 h3
   have hw:IntKind.i64.wrap (20+v3)=20+v3:=zz72
   clear HE2' HE3' hvc h3
   go_wp2
   go_ret3
   exact AwRes.mk HE.out HB2.out
 ·have HE:=zd (HE1.out h0)
  have hq:(code != 0)=true:=by rw [bne_iff_ne]; exact h0
  have hq2:(code == 0)=false:=beq_eq_false_iff_ne.2 h0
  have hw:IntKind.i64.wrap (10+code)=10+code:=zz72
  clear HE1 HE2 HE3 hc h0 hvc
  go_wp2
  go_ret3
  exact AwRes.mk HE.out (HB1w.out.alloc HB1w.out.size _)
end Go.Proofs.YtcbbjfafmmcfiaaGreatDoor
