/- A part of the proof. -/
import Derived.Test.YtcbbjfafmmcfiaaGreatDoorHPqMap1
set_option linter.unusedVariables false
set_option linter.unusedSimpArgs false
set_option maxRecDepth 40000
set_option maxHeartbeats 4000000
namespace Go.Proofs.YtcbbjfafmmcfiaaGreatDoor
open Go.RowKit Lay Mk
theorem mark_HouseS (xs:List House) (w:World) (A:Option Addr) (cap:Nat) (S:Blks) (a:Int) (k0:Nat) (ha:a=(k0:Int)) (hk:k0+cnL xs≤4611686018427387904) (hx:Row true w A cap xs S) (hl:xs.length≤maxLen) :
  Calls Tryz.prog 146 #[.slice A xs.length cap,.int .i64 a] w fun e w' => e = .returned (.int .i64 ((k0+cnL xs:Nat):Int))∧Row true w' A cap (meL xs k0) S∧Chg S w w':=by
 subst ha
 unfold maxLen at hl
 have hxx:=hx
 rcases hx with ⟨rfl,rfl,rfl⟩ | ⟨g,cur_,rfl,hg,hh_,hcs_,_⟩
 ·go_enter Tryz.func146,Tryz.ntmps146
  go_wp2
  go_loopw [1,5] (fun l i wr => i = .int .i64 0∧l = .int .i64 (k0:Int)∧wr=w) (fun _ _ _ => 0)
  case atStart => exact ⟨rfl,rfl,rfl⟩
  case round =>
   obtain ⟨rfl,rfl,rfl⟩:=hrel
   go_wp2
   go_ret; exact ⟨rfl,.inl ⟨rfl,rfl,rfl⟩,Chg.refl _ _⟩
 have hsh0:Shp w g (ty House) (cap*14):=⟨cur_,hh_,hcs_⟩
 clear hh_ hcs_
 go_enter Tryz.func146,Tryz.ntmps146
 go_wp2
 go_loopw [1,5] (fun l i wr => ∃ k:Nat,k≤xs.length∧i = .int .i64 k∧l = .int .i64 ((k0+cnL (xs.take k):Nat):Int)∧Chg S w wr∧Row true wr (some ⟨g,0,none⟩) cap (meL (xs.take k) k0 ++ xs.drop k) S) (fun _ i _ => xs.length - (intOf i).toNat)
 case atStart => exact ⟨0,Nat.zero_le _,rfl,by simp [cnL],Chg.refl _ _,by simpa [meL] using hxx⟩
 case round =>
  obtain ⟨k,hkk,rfl,rfl,hch,hrow⟩:=hrel
  clear hxx
  by_cases hlt:k<xs.length
  ·have hylen:(meL (xs.take k) k0 ++ xs.drop k).length=xs.length:=by simp; omega
   have hstep:=meL_step xs k0 k hlt
   have hat:=meL_at xs k0 k hlt (by rw [hylen]; exact hlt)
   generalize hys:meL (xs.take k) k0 ++ xs.drop k=ys at hrow hylen hat hstep
   have hlty:k<ys.length:=zz18
   have hcs:=cnL_take_succ xs k hlt
   have hcl:=cnL_take_le xs (k+1)
   generalize hK:k0+cnL (xs.take k)=K at hstep
   generalize xs[k]=x at hat hcs hstep
   rw [show Mk.cn x=House.cn x from rfl] at hcs
   have hs2:Hid (k0+cnL (xs.take (k+1))=K+House.cn x):=zd zz18
   have hKb:K+House.cn x≤4611686018427387904:=zz18
   unfold House.cn at hKb
   have hst:Hid (meL (xs.take (k+1)) k0 ++ xs.drop (k+1)=ys.set k (House.me x K)):=zd hstep
   rcases hrow with ⟨h_,_⟩ | ⟨g2,cur,e_,_,hh,hcz,T,hT,hd,he⟩
   ·cases h_
   cases e_
   have hsh:Shp wr g (ty House) (cap*14):=⟨cur,hh,hcz⟩
   have hd:=hd rfl
   have hgl:=hsh.lt
   have hgT : ¬ T k g:=fun h => (hT k g h).2 rfl
   obtain ⟨c1,ha1,hr1⟩:=he k hlty
   rw [hat] at hr1
   have HE:=zd he; have HD:=zd hd; have HT:=zd hT
   clear hcs hcl hstep hat hys he hd hT hh hcz
   obtain ⟨eA0,ek0,eS0,eA1,ek1,eS1,eA2,ek2,eS2,eA3,ek3,eS3,eA4,ek4,eS4,eA5,ek5,eS5,eA6,ek6,eS6,eA7,ek7,eS7,eA8,ek8,eS8,rfl,ef0,ef1,ef7,ea0,eb0,er0,es0,ea1,eb1,er1,es1,ea2,eb2,er2,es2,ea3,eb3,er3,es3,ea4,eb4,er4,es4,ea5,eb5,er5,es5,ea6,eb6,er6,es6,ea7,eb7,er7,es7,ea8,eb8,er8,es8,epw⟩:=House.open hr1
   have epw_:=zd (epw rfl); clear epw
   have q0:wr.cell? ⟨g,k*14,none⟩=some (.int .i64 x.coord.house):=by have:=ha1 0 _ rfl; simpa [show Lay.n House=14 from rfl] using this
   have q1:wr.cell? ⟨g,k*14+1,none⟩=some (.int .i64 x.coord.k):=by have:=ha1 1 _ rfl; simpa [show Lay.n House=14 from rfl] using this
   have q2:wr.cell? ⟨g,k*14+2,none⟩=some (.bool x.coord.up):=by have:=ha1 2 _ rfl; simpa [show Lay.n House=14 from rfl] using this
   have q3:wr.cell? ⟨g,k*14+3,none⟩=some (.slice eA0 x.coord.disk.files.length ek0):=by have:=ha1 3 _ rfl; simpa [show Lay.n House=14 from rfl] using this
   have q4:wr.cell? ⟨g,k*14+4,none⟩=some (.slice eA1 x.coord.pool.length ek1):=by have:=ha1 4 _ rfl; simpa [show Lay.n House=14 from rfl] using this
   have q5:wr.cell? ⟨g,k*14+5,none⟩=some (.slice eA2 x.coord.seals.length ek2):=by have:=ha1 5 _ rfl; simpa [show Lay.n House=14 from rfl] using this
   have q6:wr.cell? ⟨g,k*14+6,none⟩=some (.slice eA3 x.coord.tries.length ek3):=by have:=ha1 6 _ rfl; simpa [show Lay.n House=14 from rfl] using this
   have q7:wr.cell? ⟨g,k*14+7,none⟩=some (.int .i64 x.coord.try_):=by have:=ha1 7 _ rfl; simpa [show Lay.n House=14 from rfl] using this
   have q8:wr.cell? ⟨g,k*14+8,none⟩=some (.bool x.coord.asking):=by have:=ha1 8 _ rfl; simpa [show Lay.n House=14 from rfl] using this
   have q9:wr.cell? ⟨g,k*14+9,none⟩=some (.slice eA4 x.coord.votes.length ek4):=by have:=ha1 9 _ rfl; simpa [show Lay.n House=14 from rfl] using this
   have q10:wr.cell? ⟨g,k*14+10,none⟩=some (.slice eA5 x.coord.dones.length ek5):=by have:=ha1 10 _ rfl; simpa [show Lay.n House=14 from rfl] using this
   have q11:wr.cell? ⟨g,k*14+11,none⟩=some (.slice eA6 x.servers.length ek6):=by have:=ha1 11 _ rfl; simpa [show Lay.n House=14 from rfl] using this
   have q12:wr.cell? ⟨g,k*14+12,none⟩=some (.slice eA7 x.net.length ek7):=by have:=ha1 12 _ rfl; simpa [show Lay.n House=14 from rfl] using this
   have q13:wr.cell? ⟨g,k*14+13,none⟩=some (.slice eA8 x.codes.length ek8):=by have:=ha1 13 _ rfl; simpa [show Lay.n House=14 from rfl] using this
   clear ha1
   have hf0:=fun o => hsh.frozen o
   obtain ⟨K1,hK1⟩:∃ q,K+1+1+1+cnL x.coord.disk.files=q:=⟨_,rfl⟩
   have HK1:=zd hK1; clear hK1
   obtain ⟨K2,hK2⟩:∃ q,K1+cnL x.coord.pool=q:=⟨_,rfl⟩
   have HK2:=zd hK2; clear hK2
   obtain ⟨K3,hK3⟩:∃ q,K2+cnL x.coord.seals=q:=⟨_,rfl⟩
   have HK3:=zd hK3; clear hK3
   obtain ⟨K4,hK4⟩:∃ q,K3+cnL x.coord.tries=q:=⟨_,rfl⟩
   have HK4:=zd hK4; clear hK4
   obtain ⟨K5,hK5⟩:∃ q,K4+1+1+cnL x.coord.votes=q:=⟨_,rfl⟩
   have HK5:=zd hK5; clear hK5
   obtain ⟨K6,hK6⟩:∃ q,K5+cnL x.coord.dones=q:=⟨_,rfl⟩
   have HK6:=zd hK6; clear hK6
   obtain ⟨K7,hK7⟩:∃ q,K6+cnL x.servers=q:=⟨_,rfl⟩
   have HK7:=zd hK7; clear hK7
   obtain ⟨K8,hK8⟩:∃ q,K7+cnL x.net=q:=⟨_,rfl⟩
   have HK8:=zd hK8; clear hK8
   obtain ⟨K9,hK9⟩:∃ q,K8+cnL x.codes=q:=⟨_,rfl⟩
   have HK9:=zd hK9; clear hK9
   have hme:Hid (House.me x K=(⟨(⟨(((K):Nat):Int),(((K+1):Nat):Int),((((K+1+1):Nat):Int) % 3 == 0),(⟨meL x.coord.disk.files (K+1+1+1)⟩:Disk),meL x.coord.pool (K1),meL x.coord.seals (K2),meL x.coord.tries (K3),(((K4):Nat):Int),((((K4+1):Nat):Int) % 3 == 0),meL x.coord.votes (K4+1+1),meL x.coord.dones (K5)⟩:Coord),meL x.servers (K6),meL x.net (K7),meL x.codes (K8)⟩:House)):=zd (by simp only [House.me,HK1.out,HK2.out,HK3.out,HK4.out,HK5.out,HK6.out,HK7.out,HK8.out,HK9.out])
   have hKb0:K+3≤4611686018427387904:=zz36
   have hKb1:K1+0≤4611686018427387904:=zz36
   have hKb2:K2+0≤4611686018427387904:=zz36
   have hKb3:K3+0≤4611686018427387904:=zz36
   have hKb4:K4+2≤4611686018427387904:=zz36
   have hKb5:K5+0≤4611686018427387904:=zz36
   have hKb6:K6+0≤4611686018427387904:=zz36
   have hKb7:K7+0≤4611686018427387904:=zz36
   have hKb8:K8+0≤4611686018427387904:=zz36
   have hKb9:K9+0≤4611686018427387904:=zz36
   have hC0:Chg (fun b => b=g∨T k b) wr wr:=Chg.refl _ _
   have hS0:=hsh
   go_wp2_with (fail)
   refine (mark_FileS x.coord.disk.files _ _ _ _ _ (K+1+1+1) zz34 (by have:=HK1.out; omega) (show Row true _ eA0 ek0 x.coord.disk.files eS0 from by have zh:=er0; exact zz9) (Nat.le_trans ea0 eb0)).mono ?_
   rw [HK1.out]
   rintro e1 w1 ⟨rfl,hr0_1,hb1⟩
   have hC1:Chg (fun b => b=g∨T k b) wr w1:=Chg.trans (b:=_) (by have zh:=hC0; exact zz8) (hb1.mono (fun b _ h => .inr (es0 b h)))
   have hS1:Shp w1 g (ty House) (cap*14):=Shp.ofc (by have zh:=hS0; exact zz5) hb1 (fun h => hgT (es0 _ h))
   have hr1_1:=Row.chg (show Row true _ eA1 ek1 x.coord.pool eS1 from by have zh:=er1; exact zz10) hb1 (ya5 (pwget9_0_1 epw_.out))
   have hr2_1:=Row.chg (show Row true _ eA2 ek2 x.coord.seals eS2 from by have zh:=er2; exact zz11) hb1 (ya5 (pwget9_0_2 epw_.out))
   have hr3_1:=Row.chg (show Row true _ eA3 ek3 x.coord.tries eS3 from by have zh:=er3; exact zz16) hb1 (ya5 (pwget9_0_3 epw_.out))
   have hr4_1:=Row.chg (show Row true _ eA4 ek4 x.coord.votes eS4 from by have zh:=er4; exact zz20) hb1 (ya5 (pwget9_0_4 epw_.out))
   have hr5_1:=Row.chg (show Row true _ eA5 ek5 x.coord.dones eS5 from by have zh:=er5; exact zz21) hb1 (ya5 (pwget9_0_5 epw_.out))
   have hr6_1:=Row.chg (show Row true _ eA6 ek6 x.servers eS6 from by have zh:=er6; exact zz30) hb1 (ya5 (pwget9_0_6 epw_.out))
   have hr7_1:=Row.chg (show Row true _ eA7 ek7 x.net eS7 from by have zh:=er7; exact zz42) hb1 (ya5 (pwget9_0_7 epw_.out))
   have hr8_1:=Row.chg (show Row true _ eA8 ek8 x.codes eS8 from by have zh:=er8; exact zz43) hb1 (ya5 (pwget9_0_8 epw_.out))
   have hc1:=fun o => hb1.cellC (p:=⟨g,o,none⟩) (Shp.lt (show Shp _ g (ty House) (cap*14) from by have zh:=hS0; exact zz5)) (fun h => hgT (es0 _ h))
   have hf1:=fun o => hS1.frozen o
   go_wp2_with (fail)
   refine (mark_StringS x.coord.pool _ _ _ _ _ (K1) zz34 (by have:=HK2.out; omega) (show Row true _ eA1 ek1 x.coord.pool eS1 from by have zh:=hr1_1; exact zz10) (Nat.le_trans ea1 eb1)).mono ?_
   rw [HK2.out]
   rintro e2 w2 ⟨rfl,hr1_2,hb2⟩
   have hC2:Chg (fun b => b=g∨T k b) wr w2:=Chg.trans (b:=_) (by have zh:=hC1; exact zz8) (hb2.mono (fun b _ h => .inr (es1 b h)))
   have hS2:Shp w2 g (ty House) (cap*14):=Shp.ofc (by have zh:=hS1; exact zz5) hb2 (fun h => hgT (es1 _ h))
   have hr0_2:=Row.chg (show Row true _ eA0 ek0 (meL x.coord.disk.files (K+1+1+1)) eS0 from by have zh:=hr0_1; exact zz9) hb2 (pwget9_0_1 epw_.out)
   have hr2_2:=Row.chg (show Row true _ eA2 ek2 x.coord.seals eS2 from by have zh:=hr2_1; exact zz11) hb2 (ya5 (pwget9_1_2 epw_.out))
   have hr3_2:=Row.chg (show Row true _ eA3 ek3 x.coord.tries eS3 from by have zh:=hr3_1; exact zz16) hb2 (ya5 (pwget9_1_3 epw_.out))
   have hr4_2:=Row.chg (show Row true _ eA4 ek4 x.coord.votes eS4 from by have zh:=hr4_1; exact zz20) hb2 (ya5 (pwget9_1_4 epw_.out))
   have hr5_2:=Row.chg (show Row true _ eA5 ek5 x.coord.dones eS5 from by have zh:=hr5_1; exact zz21) hb2 (ya5 (pwget9_1_5 epw_.out))
   have hr6_2:=Row.chg (show Row true _ eA6 ek6 x.servers eS6 from by have zh:=hr6_1; exact zz30) hb2 (ya5 (pwget9_1_6 epw_.out))
   have hr7_2:=Row.chg (show Row true _ eA7 ek7 x.net eS7 from by have zh:=hr7_1; exact zz42) hb2 (ya5 (pwget9_1_7 epw_.out))
   have hr8_2:=Row.chg (show Row true _ eA8 ek8 x.codes eS8 from by have zh:=hr8_1; exact zz43) hb2 (ya5 (pwget9_1_8 epw_.out))
   have hc2:=fun o => hb2.cellC (p:=⟨g,o,none⟩) (Shp.lt (show Shp _ g (ty House) (cap*14) from by have zh:=hS1; exact zz5)) (fun h => hgT (es1 _ h))
   have hf2:=fun o => hS2.frozen o
   go_wp2_with (fail)
   refine (mark_SealS x.coord.seals _ _ _ _ _ (K2) zz34 (by have:=HK3.out; omega) (show Row true _ eA2 ek2 x.coord.seals eS2 from by have zh:=hr2_2; exact zz11) (Nat.le_trans ea2 eb2)).mono ?_
   rw [HK3.out]
   rintro e3 w3 ⟨rfl,hr2_3,hb3⟩
   have hC3:Chg (fun b => b=g∨T k b) wr w3:=Chg.trans (b:=_) (by have zh:=hC2; exact zz8) (hb3.mono (fun b _ h => .inr (es2 b h)))
   have hS3:Shp w3 g (ty House) (cap*14):=Shp.ofc (by have zh:=hS2; exact zz5) hb3 (fun h => hgT (es2 _ h))
   have hr0_3:=Row.chg (show Row true _ eA0 ek0 (meL x.coord.disk.files (K+1+1+1)) eS0 from by have zh:=hr0_2; exact zz9) hb3 (pwget9_0_2 epw_.out)
   have hr1_3:=Row.chg (show Row true _ eA1 ek1 (meL x.coord.pool (K1)) eS1 from by have zh:=hr1_2; exact zz10) hb3 (pwget9_1_2 epw_.out)
   have hr3_3:=Row.chg (show Row true _ eA3 ek3 x.coord.tries eS3 from by have zh:=hr3_2; exact zz16) hb3 (ya5 (pwget9_2_3 epw_.out))
   have hr4_3:=Row.chg (show Row true _ eA4 ek4 x.coord.votes eS4 from by have zh:=hr4_2; exact zz20) hb3 (ya5 (pwget9_2_4 epw_.out))
   have hr5_3:=Row.chg (show Row true _ eA5 ek5 x.coord.dones eS5 from by have zh:=hr5_2; exact zz21) hb3 (ya5 (pwget9_2_5 epw_.out))
   have hr6_3:=Row.chg (show Row true _ eA6 ek6 x.servers eS6 from by have zh:=hr6_2; exact zz30) hb3 (ya5 (pwget9_2_6 epw_.out))
   have hr7_3:=Row.chg (show Row true _ eA7 ek7 x.net eS7 from by have zh:=hr7_2; exact zz42) hb3 (ya5 (pwget9_2_7 epw_.out))
   have hr8_3:=Row.chg (show Row true _ eA8 ek8 x.codes eS8 from by have zh:=hr8_2; exact zz43) hb3 (ya5 (pwget9_2_8 epw_.out))
   have hc3:=fun o => hb3.cellC (p:=⟨g,o,none⟩) (Shp.lt (show Shp _ g (ty House) (cap*14) from by have zh:=hS2; exact zz5)) (fun h => hgT (es2 _ h))
   have hf3:=fun o => hS3.frozen o
   go_wp2_with (fail)
   refine (mark_IntS x.coord.tries _ _ _ _ _ (K3) zz34 (by have:=HK4.out; omega) (show Row true _ eA3 ek3 x.coord.tries eS3 from by have zh:=hr3_3; exact zz16) (Nat.le_trans ea3 eb3)).mono ?_
   rw [HK4.out]
   rintro e4 w4 ⟨rfl,hr3_4,hb4⟩
   have hC4:Chg (fun b => b=g∨T k b) wr w4:=Chg.trans (b:=_) (by have zh:=hC3; exact zz8) (hb4.mono (fun b _ h => .inr (es3 b h)))
   have hS4:Shp w4 g (ty House) (cap*14):=Shp.ofc (by have zh:=hS3; exact zz5) hb4 (fun h => hgT (es3 _ h))
   have hr0_4:=Row.chg (show Row true _ eA0 ek0 (meL x.coord.disk.files (K+1+1+1)) eS0 from by have zh:=hr0_3; exact zz9) hb4 (pwget9_0_3 epw_.out)
   have hr1_4:=Row.chg (show Row true _ eA1 ek1 (meL x.coord.pool (K1)) eS1 from by have zh:=hr1_3; exact zz10) hb4 (pwget9_1_3 epw_.out)
   have hr2_4:=Row.chg (show Row true _ eA2 ek2 (meL x.coord.seals (K2)) eS2 from by have zh:=hr2_3; exact zz11) hb4 (pwget9_2_3 epw_.out)
   have hr4_4:=Row.chg (show Row true _ eA4 ek4 x.coord.votes eS4 from by have zh:=hr4_3; exact zz20) hb4 (ya5 (pwget9_3_4 epw_.out))
   have hr5_4:=Row.chg (show Row true _ eA5 ek5 x.coord.dones eS5 from by have zh:=hr5_3; exact zz21) hb4 (ya5 (pwget9_3_5 epw_.out))
   have hr6_4:=Row.chg (show Row true _ eA6 ek6 x.servers eS6 from by have zh:=hr6_3; exact zz30) hb4 (ya5 (pwget9_3_6 epw_.out))
   have hr7_4:=Row.chg (show Row true _ eA7 ek7 x.net eS7 from by have zh:=hr7_3; exact zz42) hb4 (ya5 (pwget9_3_7 epw_.out))
   have hr8_4:=Row.chg (show Row true _ eA8 ek8 x.codes eS8 from by have zh:=hr8_3; exact zz43) hb4 (ya5 (pwget9_3_8 epw_.out))
   have hc4:=fun o => hb4.cellC (p:=⟨g,o,none⟩) (Shp.lt (show Shp _ g (ty House) (cap*14) from by have zh:=hS3; exact zz5)) (fun h => hgT (es3 _ h))
   have hf4:=fun o => hS4.frozen o
   go_wp2_with (fail)
   refine (mark_StringS x.coord.votes _ _ _ _ _ (K4+1+1) zz34 (by have:=HK5.out; omega) (show Row true _ eA4 ek4 x.coord.votes eS4 from by have zh:=hr4_4; exact zz20) (Nat.le_trans ea4 eb4)).mono ?_
   rw [HK5.out]
   rintro e5 w5 ⟨rfl,hr4_5,hb5⟩
   have hC5:Chg (fun b => b=g∨T k b) wr w5:=Chg.trans (b:=_) (by have zh:=hC4; exact zz8) (hb5.mono (fun b _ h => .inr (es4 b h)))
   have hS5:Shp w5 g (ty House) (cap*14):=Shp.ofc (by have zh:=hS4; exact zz5) hb5 (fun h => hgT (es4 _ h))
   have hr0_5:=Row.chg (show Row true _ eA0 ek0 (meL x.coord.disk.files (K+1+1+1)) eS0 from by have zh:=hr0_4; exact zz9) hb5 (pwget9_0_4 epw_.out)
   have hr1_5:=Row.chg (show Row true _ eA1 ek1 (meL x.coord.pool (K1)) eS1 from by have zh:=hr1_4; exact zz10) hb5 (pwget9_1_4 epw_.out)
   have hr2_5:=Row.chg (show Row true _ eA2 ek2 (meL x.coord.seals (K2)) eS2 from by have zh:=hr2_4; exact zz11) hb5 (pwget9_2_4 epw_.out)
   have hr3_5:=Row.chg (show Row true _ eA3 ek3 (meL x.coord.tries (K3)) eS3 from by have zh:=hr3_4; exact zz16) hb5 (pwget9_3_4 epw_.out)
   have hr5_5:=Row.chg (show Row true _ eA5 ek5 x.coord.dones eS5 from by have zh:=hr5_4; exact zz21) hb5 (ya5 (pwget9_4_5 epw_.out))
   have hr6_5:=Row.chg (show Row true _ eA6 ek6 x.servers eS6 from by have zh:=hr6_4; exact zz30) hb5 (ya5 (pwget9_4_6 epw_.out))
   have hr7_5:=Row.chg (show Row true _ eA7 ek7 x.net eS7 from by have zh:=hr7_4; exact zz42) hb5 (ya5 (pwget9_4_7 epw_.out))
   have hr8_5:=Row.chg (show Row true _ eA8 ek8 x.codes eS8 from by have zh:=hr8_4; exact zz43) hb5 (ya5 (pwget9_4_8 epw_.out))
   have hc5:=fun o => hb5.cellC (p:=⟨g,o,none⟩) (Shp.lt (show Shp _ g (ty House) (cap*14) from by have zh:=hS4; exact zz5)) (fun h => hgT (es4 _ h))
   have hf5:=fun o => hS5.frozen o
   go_wp2_with (fail)
   refine (mark_BoolS x.coord.dones _ _ _ _ _ (K5) zz34 (by have:=HK6.out; omega) (show Row true _ eA5 ek5 x.coord.dones eS5 from by have zh:=hr5_5; exact zz21) (Nat.le_trans ea5 eb5)).mono ?_
   rw [HK6.out]
   rintro e6 w6 ⟨rfl,hr5_6,hb6⟩
   have hC6:Chg (fun b => b=g∨T k b) wr w6:=Chg.trans (b:=_) (by have zh:=hC5; exact zz8) (hb6.mono (fun b _ h => .inr (es5 b h)))
   have hS6:Shp w6 g (ty House) (cap*14):=Shp.ofc (by have zh:=hS5; exact zz5) hb6 (fun h => hgT (es5 _ h))
   have hr0_6:=Row.chg (show Row true _ eA0 ek0 (meL x.coord.disk.files (K+1+1+1)) eS0 from by have zh:=hr0_5; exact zz9) hb6 (pwget9_0_5 epw_.out)
   have hr1_6:=Row.chg (show Row true _ eA1 ek1 (meL x.coord.pool (K1)) eS1 from by have zh:=hr1_5; exact zz10) hb6 (pwget9_1_5 epw_.out)
   have hr2_6:=Row.chg (show Row true _ eA2 ek2 (meL x.coord.seals (K2)) eS2 from by have zh:=hr2_5; exact zz11) hb6 (pwget9_2_5 epw_.out)
   have hr3_6:=Row.chg (show Row true _ eA3 ek3 (meL x.coord.tries (K3)) eS3 from by have zh:=hr3_5; exact zz16) hb6 (pwget9_3_5 epw_.out)
   have hr4_6:=Row.chg (show Row true _ eA4 ek4 (meL x.coord.votes (K4+1+1)) eS4 from by have zh:=hr4_5; exact zz20) hb6 (pwget9_4_5 epw_.out)
   have hr6_6:=Row.chg (show Row true _ eA6 ek6 x.servers eS6 from by have zh:=hr6_5; exact zz30) hb6 (ya5 (pwget9_5_6 epw_.out))
   have hr7_6:=Row.chg (show Row true _ eA7 ek7 x.net eS7 from by have zh:=hr7_5; exact zz42) hb6 (ya5 (pwget9_5_7 epw_.out))
   have hr8_6:=Row.chg (show Row true _ eA8 ek8 x.codes eS8 from by have zh:=hr8_5; exact zz43) hb6 (ya5 (pwget9_5_8 epw_.out))
   have hc6:=fun o => hb6.cellC (p:=⟨g,o,none⟩) (Shp.lt (show Shp _ g (ty House) (cap*14) from by have zh:=hS5; exact zz5)) (fun h => hgT (es5 _ h))
   have hf6:=fun o => hS6.frozen o
   go_wp2_with (fail)
   refine (mark_ServerS x.servers _ _ _ _ _ (K6) zz34 (by have:=HK7.out; omega) (show Row true _ eA6 ek6 x.servers eS6 from by have zh:=hr6_6; exact zz30) (Nat.le_trans ea6 eb6)).mono ?_
   rw [HK7.out]
   rintro e7 w7 ⟨rfl,hr6_7,hb7⟩
   have hC7:Chg (fun b => b=g∨T k b) wr w7:=Chg.trans (b:=_) (by have zh:=hC6; exact zz8) (hb7.mono (fun b _ h => .inr (es6 b h)))
   have hS7:Shp w7 g (ty House) (cap*14):=Shp.ofc (by have zh:=hS6; exact zz5) hb7 (fun h => hgT (es6 _ h))
   have hr0_7:=Row.chg (show Row true _ eA0 ek0 (meL x.coord.disk.files (K+1+1+1)) eS0 from by have zh:=hr0_6; exact zz9) hb7 (pwget9_0_6 epw_.out)
   have hr1_7:=Row.chg (show Row true _ eA1 ek1 (meL x.coord.pool (K1)) eS1 from by have zh:=hr1_6; exact zz10) hb7 (pwget9_1_6 epw_.out)
   have hr2_7:=Row.chg (show Row true _ eA2 ek2 (meL x.coord.seals (K2)) eS2 from by have zh:=hr2_6; exact zz11) hb7 (pwget9_2_6 epw_.out)
   have hr3_7:=Row.chg (show Row true _ eA3 ek3 (meL x.coord.tries (K3)) eS3 from by have zh:=hr3_6; exact zz16) hb7 (pwget9_3_6 epw_.out)
   have hr4_7:=Row.chg (show Row true _ eA4 ek4 (meL x.coord.votes (K4+1+1)) eS4 from by have zh:=hr4_6; exact zz20) hb7 (pwget9_4_6 epw_.out)
   have hr5_7:=Row.chg (show Row true _ eA5 ek5 (meL x.coord.dones (K5)) eS5 from by have zh:=hr5_6; exact zz21) hb7 (pwget9_5_6 epw_.out)
   have hr7_7:=Row.chg (show Row true _ eA7 ek7 x.net eS7 from by have zh:=hr7_6; exact zz42) hb7 (ya5 (pwget9_6_7 epw_.out))
   have hr8_7:=Row.chg (show Row true _ eA8 ek8 x.codes eS8 from by have zh:=hr8_6; exact zz43) hb7 (ya5 (pwget9_6_8 epw_.out))
   have hc7:=fun o => hb7.cellC (p:=⟨g,o,none⟩) (Shp.lt (show Shp _ g (ty House) (cap*14) from by have zh:=hS6; exact zz5)) (fun h => hgT (es6 _ h))
   have hf7:=fun o => hS7.frozen o
   go_wp2_with (fail)
   refine (mark_StringS x.net _ _ _ _ _ (K7) zz34 (by have:=HK8.out; omega) (show Row true _ eA7 ek7 x.net eS7 from by have zh:=hr7_7; exact zz42) (Nat.le_trans ea7 eb7)).mono ?_
   rw [HK8.out]
   rintro e8 w8 ⟨rfl,hr7_8,hb8⟩
   have hC8:Chg (fun b => b=g∨T k b) wr w8:=Chg.trans (b:=_) (by have zh:=hC7; exact zz8) (hb8.mono (fun b _ h => .inr (es7 b h)))
   have hS8:Shp w8 g (ty House) (cap*14):=Shp.ofc (by have zh:=hS7; exact zz5) hb8 (fun h => hgT (es7 _ h))
   have hr0_8:=Row.chg (show Row true _ eA0 ek0 (meL x.coord.disk.files (K+1+1+1)) eS0 from by have zh:=hr0_7; exact zz9) hb8 (pwget9_0_7 epw_.out)
   have hr1_8:=Row.chg (show Row true _ eA1 ek1 (meL x.coord.pool (K1)) eS1 from by have zh:=hr1_7; exact zz10) hb8 (pwget9_1_7 epw_.out)
   have hr2_8:=Row.chg (show Row true _ eA2 ek2 (meL x.coord.seals (K2)) eS2 from by have zh:=hr2_7; exact zz11) hb8 (pwget9_2_7 epw_.out)
   have hr3_8:=Row.chg (show Row true _ eA3 ek3 (meL x.coord.tries (K3)) eS3 from by have zh:=hr3_7; exact zz16) hb8 (pwget9_3_7 epw_.out)
   have hr4_8:=Row.chg (show Row true _ eA4 ek4 (meL x.coord.votes (K4+1+1)) eS4 from by have zh:=hr4_7; exact zz20) hb8 (pwget9_4_7 epw_.out)
   have hr5_8:=Row.chg (show Row true _ eA5 ek5 (meL x.coord.dones (K5)) eS5 from by have zh:=hr5_7; exact zz21) hb8 (pwget9_5_7 epw_.out)
   have hr6_8:=Row.chg (show Row true _ eA6 ek6 (meL x.servers (K6)) eS6 from by have zh:=hr6_7; exact zz30) hb8 (pwget9_6_7 epw_.out)
   have hr8_8:=Row.chg (show Row true _ eA8 ek8 x.codes eS8 from by have zh:=hr8_7; exact zz43) hb8 (ya5 (pwget9_7_8 epw_.out))
   have hc8:=fun o => hb8.cellC (p:=⟨g,o,none⟩) (Shp.lt (show Shp _ g (ty House) (cap*14) from by have zh:=hS7; exact zz5)) (fun h => hgT (es7 _ h))
   have hf8:=fun o => hS8.frozen o
   go_wp2_with (fail)
   refine (mark_IntS x.codes _ _ _ _ _ (K8) zz34 (by have:=HK9.out; omega) (show Row true _ eA8 ek8 x.codes eS8 from by have zh:=hr8_8; exact zz43) (Nat.le_trans ea8 eb8)).mono ?_
   rw [HK9.out]
   rintro e9 w9 ⟨rfl,hr8_9,hb9⟩
   have hC9:Chg (fun b => b=g∨T k b) wr w9:=Chg.trans (b:=_) (by have zh:=hC8; exact zz8) (hb9.mono (fun b _ h => .inr (es8 b h)))
   have hS9:Shp w9 g (ty House) (cap*14):=Shp.ofc (by have zh:=hS8; exact zz5) hb9 (fun h => hgT (es8 _ h))
   have hr0_9:=Row.chg (show Row true _ eA0 ek0 (meL x.coord.disk.files (K+1+1+1)) eS0 from by have zh:=hr0_8; exact zz9) hb9 (pwget9_0_8 epw_.out)
   have hr1_9:=Row.chg (show Row true _ eA1 ek1 (meL x.coord.pool (K1)) eS1 from by have zh:=hr1_8; exact zz10) hb9 (pwget9_1_8 epw_.out)
   have hr2_9:=Row.chg (show Row true _ eA2 ek2 (meL x.coord.seals (K2)) eS2 from by have zh:=hr2_8; exact zz11) hb9 (pwget9_2_8 epw_.out)
   have hr3_9:=Row.chg (show Row true _ eA3 ek3 (meL x.coord.tries (K3)) eS3 from by have zh:=hr3_8; exact zz16) hb9 (pwget9_3_8 epw_.out)
   have hr4_9:=Row.chg (show Row true _ eA4 ek4 (meL x.coord.votes (K4+1+1)) eS4 from by have zh:=hr4_8; exact zz20) hb9 (pwget9_4_8 epw_.out)
   have hr5_9:=Row.chg (show Row true _ eA5 ek5 (meL x.coord.dones (K5)) eS5 from by have zh:=hr5_8; exact zz21) hb9 (pwget9_5_8 epw_.out)
   have hr6_9:=Row.chg (show Row true _ eA6 ek6 (meL x.servers (K6)) eS6 from by have zh:=hr6_8; exact zz30) hb9 (pwget9_6_8 epw_.out)
   have hr7_9:=Row.chg (show Row true _ eA7 ek7 (meL x.net (K7)) eS7 from by have zh:=hr7_8; exact zz42) hb9 (pwget9_7_8 epw_.out)
   have hc9:=fun o => hb9.cellC (p:=⟨g,o,none⟩) (Shp.lt (show Shp _ g (ty House) (cap*14) from by have zh:=hS8; exact zz5)) (fun h => hgT (es8 _ h))
   have hf9:=fun o => hS9.frozen o
   go_wp2
   go_roundw
   case rel =>
    refine ⟨k+1,zz18,by go_num,by rw [hs2.out]; first | go_num | (congr 1; unfold House.cn; have:=HK1.out; have:=HK2.out; have:=HK3.out; have:=HK4.out; have:=HK5.out; have:=HK6.out; have:=HK7.out; have:=HK8.out; have:=HK9.out; omega),?_,?_⟩
    ·refine Chg.trans hch (Chg.mono (show Chg (fun b => b=g∨T k b) wr _ from by have zh:=hC9; exact zz8) (fun b _ h => h.elim (fun e => e ▸ hg) (fun h => (HT.out k b h).1)))
    ·rw [hst.out,hme.out]
     refine Row.setN (N:=14) (T:=T) (w:=wr) (cs:=[.int .i64 (((K):Nat):Int),.int .i64 (((K+1):Nat):Int),.bool ((((K+1+1):Nat):Int) % 3 == 0),.slice eA0 (meL x.coord.disk.files (K+1+1+1)).length ek0,.slice eA1 (meL x.coord.pool (K1)).length ek1,.slice eA2 (meL x.coord.seals (K2)).length ek2,.slice eA3 (meL x.coord.tries (K3)).length ek3,.int .i64 (((K4):Nat):Int),.bool ((((K4+1):Nat):Int) % 3 == 0),.slice eA4 (meL x.coord.votes (K4+1+1)).length ek4,.slice eA5 (meL x.coord.dones (K5)).length ek5,.slice eA6 (meL x.servers (K6)).length ek6,.slice eA7 (meL x.net (K7)).length ek7,.slice eA8 (meL x.codes (K8)).length ek8]) rfl hg HT.out HD.out HE.out hlty (show Shp _ g (ty House) (cap*14) from by have zh:=hS9; exact zz5) (fun o ho => ?_) (show Chg (fun b => b=g∨T k b) wr _ from by have zh:=hC9; exact zz8) ?_ ?_
     ·have n0:o≠k*14:=by intro h; apply ho; rw [h]; omega
      have n1:o≠k*14+1:=zz23
      have n2:o≠k*14+2:=zz23
      have n3:o≠k*14+3:=zz23
      have n4:o≠k*14+4:=zz23
      have n5:o≠k*14+5:=zz23
      have n6:o≠k*14+6:=zz23
      have n7:o≠k*14+7:=zz23
      have n8:o≠k*14+8:=zz23
      have n9:o≠k*14+9:=zz23
      have n10:o≠k*14+10:=zz23
      have n11:o≠k*14+11:=zz23
      have n12:o≠k*14+12:=zz23
      have n13:o≠k*14+13:=zz23
      simp only [hc9,hc8,hc7,hc6,hc5,hc4,hc3,hc2,hc1,ya1 _ _ _ o _ n0,ya1 _ _ _ o _ n1,ya1 _ _ _ o _ n2,ya1 _ _ _ o _ n3,ya1 _ _ _ o _ n4,ya1 _ _ _ o _ n5,ya1 _ _ _ o _ n6,ya1 _ _ _ o _ n7,ya1 _ _ _ o _ n8,ya1 _ _ _ o _ n9,ya1 _ _ _ o _ n10,ya1 _ _ _ o _ n11,ya1 _ _ _ o _ n12,ya1 _ _ _ o _ n13]
     ·intro j u hu
      have hj:j<14:=(List.getElem?_eq_some_iff.1 hu).1
      rcases (by omega:j=0∨j=1∨j=2∨j=3∨j=4∨j=5∨j=6∨j=7∨j=8∨j=9∨j=10∨j=11∨j=12∨j=13) with rfl | rfl | rfl | rfl | rfl | rfl | rfl | rfl | rfl | rfl | rfl | rfl | rfl | rfl
      all_goals (have hu:=Option.some.inj hu; subst hu; go_simp; try simp)
     ·exact House.mk' (m:=true) (x:=(⟨(⟨(((K):Nat):Int),(((K+1):Nat):Int),((((K+1+1):Nat):Int) % 3 == 0),(⟨meL x.coord.disk.files (K+1+1+1)⟩:Disk),meL x.coord.pool (K1),meL x.coord.seals (K2),meL x.coord.tries (K3),(((K4):Nat):Int),((((K4+1):Nat):Int) % 3 == 0),meL x.coord.votes (K4+1+1),meL x.coord.dones (K5)⟩:Coord),meL x.servers (K6),meL x.net (K7),meL x.codes (K8)⟩:House)) (S:=T k) (I64_nat zz36) (I64_nat zz36) (by rw [meL_length]; exact ea0) eb0 (show Row true _ eA0 ek0 (meL x.coord.disk.files (K+1+1+1)) eS0 from by have zh:=hr0_9; exact zz9) es0 (by rw [meL_length]; exact ea1) eb1 (show Row true _ eA1 ek1 (meL x.coord.pool (K1)) eS1 from by have zh:=hr1_9; exact zz10) es1 (by rw [meL_length]; exact ea2) eb2 (show Row true _ eA2 ek2 (meL x.coord.seals (K2)) eS2 from by have zh:=hr2_9; exact zz11) es2 (by rw [meL_length]; exact ea3) eb3 (show Row true _ eA3 ek3 (meL x.coord.tries (K3)) eS3 from by have zh:=hr3_9; exact zz16) es3 (I64_nat zz36) (by rw [meL_length]; exact ea4) eb4 (show Row true _ eA4 ek4 (meL x.coord.votes (K4+1+1)) eS4 from by have zh:=hr4_9; exact zz20) es4 (by rw [meL_length]; exact ea5) eb5 (show Row true _ eA5 ek5 (meL x.coord.dones (K5)) eS5 from by have zh:=hr5_9; exact zz21) es5 (by rw [meL_length]; exact ea6) eb6 (show Row true _ eA6 ek6 (meL x.servers (K6)) eS6 from by have zh:=hr6_9; exact zz30) es6 (by rw [meL_length]; exact ea7) eb7 (show Row true _ eA7 ek7 (meL x.net (K7)) eS7 from by have zh:=hr7_9; exact zz42) es7 (by rw [meL_length]; exact ea8) eb8 (show Row true _ eA8 ek8 (meL x.codes (K8)) eS8 from by have zh:=hr8_9; exact zz43) es8 (fun _ => epw_.out)
   case measure => simp [intOf]; omega
  ·have hke:k=xs.length:=by omega
   go_wp2
   go_ret; subst hke; refine ⟨zz71,zz84,hch⟩
theorem mark_PairS (xs:List Pair) (w:World) (A:Option Addr) (cap:Nat) (S:Blks) (a:Int) (k0:Nat) (ha:a=(k0:Int)) (hk:k0+cnL xs≤4611686018427387904) (hx:Row true w A cap xs S) (hl:xs.length≤maxLen) :
  Calls Tryz.prog 228 #[.slice A xs.length cap,.int .i64 a] w fun e w' => e = .returned (.int .i64 ((k0+cnL xs:Nat):Int))∧Row true w' A cap (meL xs k0) S∧Chg S w w':=by
 subst ha
 unfold maxLen at hl
 have hxx:=hx
 rcases hx with ⟨rfl,rfl,rfl⟩ | ⟨g,cur_,rfl,hg,hh_,hcs_,_⟩
 ·go_enter Tryz.func228,Tryz.ntmps228
  go_wp2
  go_loopw [1,5] (fun l i wr => i = .int .i64 0∧l = .int .i64 (k0:Int)∧wr=w) (fun _ _ _ => 0)
  case atStart => exact ⟨rfl,rfl,rfl⟩
  case round =>
   obtain ⟨rfl,rfl,rfl⟩:=hrel
   go_wp2
   go_ret; exact ⟨rfl,.inl ⟨rfl,rfl,rfl⟩,Chg.refl _ _⟩
 have hsh0:Shp w g (ty Pair) (cap*16):=⟨cur_,hh_,hcs_⟩
 clear hh_ hcs_
 go_enter Tryz.func228,Tryz.ntmps228
 go_wp2
 go_loopw [1,5] (fun l i wr => ∃ k:Nat,k≤xs.length∧i = .int .i64 k∧l = .int .i64 ((k0+cnL (xs.take k):Nat):Int)∧Chg S w wr∧Row true wr (some ⟨g,0,none⟩) cap (meL (xs.take k) k0 ++ xs.drop k) S) (fun _ i _ => xs.length - (intOf i).toNat)
 case atStart => exact ⟨0,Nat.zero_le _,rfl,by simp [cnL],Chg.refl _ _,by simpa [meL] using hxx⟩
 case round =>
  obtain ⟨k,hkk,rfl,rfl,hch,hrow⟩:=hrel
  clear hxx
  by_cases hlt:k<xs.length
  ·have hylen:(meL (xs.take k) k0 ++ xs.drop k).length=xs.length:=by simp; omega
   have hstep:=meL_step xs k0 k hlt
   have hat:=meL_at xs k0 k hlt (by rw [hylen]; exact hlt)
   generalize hys:meL (xs.take k) k0 ++ xs.drop k=ys at hrow hylen hat hstep
   have hlty:k<ys.length:=zz18
   have hcs:=cnL_take_succ xs k hlt
   have hcl:=cnL_take_le xs (k+1)
   generalize hK:k0+cnL (xs.take k)=K at hstep
   generalize xs[k]=x at hat hcs hstep
   rw [show Mk.cn x=Pair.cn x from rfl] at hcs
   have hs2:Hid (k0+cnL (xs.take (k+1))=K+Pair.cn x):=zd zz18
   have hKb:K+Pair.cn x≤4611686018427387904:=zz18
   unfold Pair.cn at hKb
   have hst:Hid (meL (xs.take (k+1)) k0 ++ xs.drop (k+1)=ys.set k (Pair.me x K)):=zd hstep
   rcases hrow with ⟨h_,_⟩ | ⟨g2,cur,e_,_,hh,hcz,T,hT,hd,he⟩
   ·cases h_
   cases e_
   have hsh:Shp wr g (ty Pair) (cap*16):=⟨cur,hh,hcz⟩
   have hd:=hd rfl
   have hgl:=hsh.lt
   have hgT : ¬ T k g:=fun h => (hT k g h).2 rfl
   obtain ⟨c1,ha1,hr1⟩:=he k hlty
   rw [hat] at hr1
   have HE:=zd he; have HD:=zd hd; have HT:=zd hT
   clear hcs hcl hstep hat hys he hd hT hh hcz
   obtain ⟨eA0,ek0,eS0,eA1,ek1,eS1,eA2,ek2,eS2,eA3,ek3,eS3,eA4,ek4,eS4,eA5,ek5,eS5,rfl,ef0,ef1,ef2,ef3,ef4,ef8,ef9,ef10,ef11,ef12,ea0,eb0,er0,es0,ea1,eb1,er1,es1,ea2,eb2,er2,es2,ea3,eb3,er3,es3,ea4,eb4,er4,es4,ea5,eb5,er5,es5,epw⟩:=Pair.open hr1
   have epw_:=zd (epw rfl); clear epw
   have q0:wr.cell? ⟨g,k*16,none⟩=some (.int .i64 x.a.head.house):=by have:=ha1 0 _ rfl; simpa [show Lay.n Pair=16 from rfl] using this
   have q1:wr.cell? ⟨g,k*16+1,none⟩=some (.int .i64 x.a.head.epoch):=by have:=ha1 1 _ rfl; simpa [show Lay.n Pair=16 from rfl] using this
   have q2:wr.cell? ⟨g,k*16+2,none⟩=some (.string x.a.head.root):=by have:=ha1 2 _ rfl; simpa [show Lay.n Pair=16 from rfl] using this
   have q3:wr.cell? ⟨g,k*16+3,none⟩=some (.string x.a.head.prev):=by have:=ha1 3 _ rfl; simpa [show Lay.n Pair=16 from rfl] using this
   have q4:wr.cell? ⟨g,k*16+4,none⟩=some (.int .i64 x.a.sig.at_):=by have:=ha1 4 _ rfl; simpa [show Lay.n Pair=16 from rfl] using this
   have q5:wr.cell? ⟨g,k*16+5,none⟩=some (.slice eA0 x.a.sig.open_.length ek0):=by have:=ha1 5 _ rfl; simpa [show Lay.n Pair=16 from rfl] using this
   have q6:wr.cell? ⟨g,k*16+6,none⟩=some (.slice eA1 x.a.sig.shut.length ek1):=by have:=ha1 6 _ rfl; simpa [show Lay.n Pair=16 from rfl] using this
   have q7:wr.cell? ⟨g,k*16+7,none⟩=some (.slice eA2 x.a.sig.sides.length ek2):=by have:=ha1 7 _ rfl; simpa [show Lay.n Pair=16 from rfl] using this
   have q8:wr.cell? ⟨g,k*16+8,none⟩=some (.int .i64 x.b.head.house):=by have:=ha1 8 _ rfl; simpa [show Lay.n Pair=16 from rfl] using this
   have q9:wr.cell? ⟨g,k*16+9,none⟩=some (.int .i64 x.b.head.epoch):=by have:=ha1 9 _ rfl; simpa [show Lay.n Pair=16 from rfl] using this
   have q10:wr.cell? ⟨g,k*16+10,none⟩=some (.string x.b.head.root):=by have:=ha1 10 _ rfl; simpa [show Lay.n Pair=16 from rfl] using this
   have q11:wr.cell? ⟨g,k*16+11,none⟩=some (.string x.b.head.prev):=by have:=ha1 11 _ rfl; simpa [show Lay.n Pair=16 from rfl] using this
   have q12:wr.cell? ⟨g,k*16+12,none⟩=some (.int .i64 x.b.sig.at_):=by have:=ha1 12 _ rfl; simpa [show Lay.n Pair=16 from rfl] using this
   have q13:wr.cell? ⟨g,k*16+13,none⟩=some (.slice eA3 x.b.sig.open_.length ek3):=by have:=ha1 13 _ rfl; simpa [show Lay.n Pair=16 from rfl] using this
   have q14:wr.cell? ⟨g,k*16+14,none⟩=some (.slice eA4 x.b.sig.shut.length ek4):=by have:=ha1 14 _ rfl; simpa [show Lay.n Pair=16 from rfl] using this
   have q15:wr.cell? ⟨g,k*16+15,none⟩=some (.slice eA5 x.b.sig.sides.length ek5):=by have:=ha1 15 _ rfl; simpa [show Lay.n Pair=16 from rfl] using this
   clear ha1
   have hf0:=fun o => hsh.frozen o
   obtain ⟨K1,hK1⟩:∃ q,K+1+1+1+1+1+cnL x.a.sig.open_=q:=⟨_,rfl⟩
   have HK1:=zd hK1; clear hK1
   obtain ⟨K2,hK2⟩:∃ q,K1+cnL x.a.sig.shut=q:=⟨_,rfl⟩
   have HK2:=zd hK2; clear hK2
   obtain ⟨K3,hK3⟩:∃ q,K2+cnL x.a.sig.sides=q:=⟨_,rfl⟩
   have HK3:=zd hK3; clear hK3
   obtain ⟨K4,hK4⟩:∃ q,K3+1+1+1+1+1+cnL x.b.sig.open_=q:=⟨_,rfl⟩
   have HK4:=zd hK4; clear hK4
   obtain ⟨K5,hK5⟩:∃ q,K4+cnL x.b.sig.shut=q:=⟨_,rfl⟩
   have HK5:=zd hK5; clear hK5
   obtain ⟨K6,hK6⟩:∃ q,K5+cnL x.b.sig.sides=q:=⟨_,rfl⟩
   have HK6:=zd hK6; clear hK6
   have hme:Hid (Pair.me x K=(⟨(⟨(⟨(((K):Nat):Int),(((K+1):Nat):Int),mtext (K+1+1),mtext (K+1+1+1)⟩:Head),(⟨(((K+1+1+1+1):Nat):Int),meL x.a.sig.open_ (K+1+1+1+1+1),meL x.a.sig.shut (K1),meL x.a.sig.sides (K2)⟩:Sig)⟩:Seal),(⟨(⟨(((K3):Nat):Int),(((K3+1):Nat):Int),mtext (K3+1+1),mtext (K3+1+1+1)⟩:Head),(⟨(((K3+1+1+1+1):Nat):Int),meL x.b.sig.open_ (K3+1+1+1+1+1),meL x.b.sig.shut (K4),meL x.b.sig.sides (K5)⟩:Sig)⟩:Seal)⟩:Pair)):=zd (by simp only [Pair.me,HK1.out,HK2.out,HK3.out,HK4.out,HK5.out,HK6.out])
   have hKb0:K+5≤4611686018427387904:=zz40
   have hKb1:K1+0≤4611686018427387904:=zz40
   have hKb2:K2+0≤4611686018427387904:=zz40
   have hKb3:K3+5≤4611686018427387904:=zz40
   have hKb4:K4+0≤4611686018427387904:=zz40
   have hKb5:K5+0≤4611686018427387904:=zz40
   have hKb6:K6+0≤4611686018427387904:=zz40
   have hC0:Chg (fun b => b=g∨T k b) wr wr:=Chg.refl _ _
   have hS0:=hsh
   go_wp2_with (fail)
   refine (mark_Text _ (K+1+1) zz34 zz18 _).mono ?_
   rintro e1 w1 ⟨rfl,hb1⟩
   have hC1:Chg (fun b => b=g∨T k b) wr w1:=Chg.trans (b:=_) (by have zh:=hC0; exact zz8) (hb1.chg_ (fun b => b=g∨T k b))
   have hS1:Shp w1 g (ty Pair) (cap*16):=Shp.ofb (by have zh:=hS0; exact zz5) hb1
   have hr0_1:=Row.later (show Row true _ eA0 ek0 x.a.sig.open_ eS0 from by have zh:=er0; exact zz9) hb1
   have hr1_1:=Row.later (show Row true _ eA1 ek1 x.a.sig.shut eS1 from by have zh:=er1; exact zz10) hb1
   have hr2_1:=Row.later (show Row true _ eA2 ek2 x.a.sig.sides eS2 from by have zh:=er2; exact zz11) hb1
   have hr3_1:=Row.later (show Row true _ eA3 ek3 x.b.sig.open_ eS3 from by have zh:=er3; exact zz16) hb1
   have hr4_1:=Row.later (show Row true _ eA4 ek4 x.b.sig.shut eS4 from by have zh:=er4; exact zz20) hb1
   have hr5_1:=Row.later (show Row true _ eA5 ek5 x.b.sig.sides eS5 from by have zh:=er5; exact zz21) hb1
   have hc1:=fun o => hb1.cell (p:=⟨g,o,none⟩) (Shp.lt (show Shp _ g (ty Pair) (cap*16) from by have zh:=hS0; exact zz5))
   have hf1:=fun o => hS1.frozen o
   go_wp2_with (fail)
   refine (mark_Text _ (K+1+1+1) zz34 zz18 _).mono ?_
   rintro e2 w2 ⟨rfl,hb2⟩
   have hC2:Chg (fun b => b=g∨T k b) wr w2:=Chg.trans (b:=_) (by have zh:=hC1; exact zz8) (hb2.chg_ (fun b => b=g∨T k b))
   have hS2:Shp w2 g (ty Pair) (cap*16):=Shp.ofb (by have zh:=hS1; exact zz5) hb2
   have hr0_2:=Row.later (show Row true _ eA0 ek0 x.a.sig.open_ eS0 from by have zh:=hr0_1; exact zz9) hb2
   have hr1_2:=Row.later (show Row true _ eA1 ek1 x.a.sig.shut eS1 from by have zh:=hr1_1; exact zz10) hb2
   have hr2_2:=Row.later (show Row true _ eA2 ek2 x.a.sig.sides eS2 from by have zh:=hr2_1; exact zz11) hb2
   have hr3_2:=Row.later (show Row true _ eA3 ek3 x.b.sig.open_ eS3 from by have zh:=hr3_1; exact zz16) hb2
   have hr4_2:=Row.later (show Row true _ eA4 ek4 x.b.sig.shut eS4 from by have zh:=hr4_1; exact zz20) hb2
   have hr5_2:=Row.later (show Row true _ eA5 ek5 x.b.sig.sides eS5 from by have zh:=hr5_1; exact zz21) hb2
   have hc2:=fun o => hb2.cell (p:=⟨g,o,none⟩) (Shp.lt (show Shp _ g (ty Pair) (cap*16) from by have zh:=hS1; exact zz5))
   have hf2:=fun o => hS2.frozen o
   go_wp2_with (fail)
   refine (mark_StringS x.a.sig.open_ _ _ _ _ _ (K+1+1+1+1+1) zz34 (by have:=HK1.out; omega) (show Row true _ eA0 ek0 x.a.sig.open_ eS0 from by have zh:=hr0_2; exact zz9) (Nat.le_trans ea0 eb0)).mono ?_
   rw [HK1.out]
   rintro e3 w3 ⟨rfl,hr0_3,hb3⟩
   have hC3:Chg (fun b => b=g∨T k b) wr w3:=Chg.trans (b:=_) (by have zh:=hC2; exact zz8) (hb3.mono (fun b _ h => .inr (es0 b h)))
   have hS3:Shp w3 g (ty Pair) (cap*16):=Shp.ofc (by have zh:=hS2; exact zz5) hb3 (fun h => hgT (es0 _ h))
   have hr1_3:=Row.chg (show Row true _ eA1 ek1 x.a.sig.shut eS1 from by have zh:=hr1_2; exact zz10) hb3 (ya5 (pwget6_0_1 epw_.out))
   have hr2_3:=Row.chg (show Row true _ eA2 ek2 x.a.sig.sides eS2 from by have zh:=hr2_2; exact zz11) hb3 (ya5 (pwget6_0_2 epw_.out))
   have hr3_3:=Row.chg (show Row true _ eA3 ek3 x.b.sig.open_ eS3 from by have zh:=hr3_2; exact zz16) hb3 (ya5 (pwget6_0_3 epw_.out))
   have hr4_3:=Row.chg (show Row true _ eA4 ek4 x.b.sig.shut eS4 from by have zh:=hr4_2; exact zz20) hb3 (ya5 (pwget6_0_4 epw_.out))
   have hr5_3:=Row.chg (show Row true _ eA5 ek5 x.b.sig.sides eS5 from by have zh:=hr5_2; exact zz21) hb3 (ya5 (pwget6_0_5 epw_.out))
   have hc3:=fun o => hb3.cellC (p:=⟨g,o,none⟩) (Shp.lt (show Shp _ g (ty Pair) (cap*16) from by have zh:=hS2; exact zz5)) (fun h => hgT (es0 _ h))
   have hf3:=fun o => hS3.frozen o
   go_wp2_with (fail)
   refine (mark_StringS x.a.sig.shut _ _ _ _ _ (K1) zz34 (by have:=HK2.out; omega) (show Row true _ eA1 ek1 x.a.sig.shut eS1 from by have zh:=hr1_3; exact zz10) (Nat.le_trans ea1 eb1)).mono ?_
   rw [HK2.out]
   rintro e4 w4 ⟨rfl,hr1_4,hb4⟩
   have hC4:Chg (fun b => b=g∨T k b) wr w4:=Chg.trans (b:=_) (by have zh:=hC3; exact zz8) (hb4.mono (fun b _ h => .inr (es1 b h)))
   have hS4:Shp w4 g (ty Pair) (cap*16):=Shp.ofc (by have zh:=hS3; exact zz5) hb4 (fun h => hgT (es1 _ h))
   have hr0_4:=Row.chg (show Row true _ eA0 ek0 (meL x.a.sig.open_ (K+1+1+1+1+1)) eS0 from by have zh:=hr0_3; exact zz9) hb4 (pwget6_0_1 epw_.out)
   have hr2_4:=Row.chg (show Row true _ eA2 ek2 x.a.sig.sides eS2 from by have zh:=hr2_3; exact zz11) hb4 (ya5 (pwget6_1_2 epw_.out))
   have hr3_4:=Row.chg (show Row true _ eA3 ek3 x.b.sig.open_ eS3 from by have zh:=hr3_3; exact zz16) hb4 (ya5 (pwget6_1_3 epw_.out))
   have hr4_4:=Row.chg (show Row true _ eA4 ek4 x.b.sig.shut eS4 from by have zh:=hr4_3; exact zz20) hb4 (ya5 (pwget6_1_4 epw_.out))
   have hr5_4:=Row.chg (show Row true _ eA5 ek5 x.b.sig.sides eS5 from by have zh:=hr5_3; exact zz21) hb4 (ya5 (pwget6_1_5 epw_.out))
   have hc4:=fun o => hb4.cellC (p:=⟨g,o,none⟩) (Shp.lt (show Shp _ g (ty Pair) (cap*16) from by have zh:=hS3; exact zz5)) (fun h => hgT (es1 _ h))
   have hf4:=fun o => hS4.frozen o
   go_wp2_with (fail)
   refine (mark_StringS x.a.sig.sides _ _ _ _ _ (K2) zz34 (by have:=HK3.out; omega) (show Row true _ eA2 ek2 x.a.sig.sides eS2 from by have zh:=hr2_4; exact zz11) (Nat.le_trans ea2 eb2)).mono ?_
   rw [HK3.out]
   rintro e5 w5 ⟨rfl,hr2_5,hb5⟩
   have hC5:Chg (fun b => b=g∨T k b) wr w5:=Chg.trans (b:=_) (by have zh:=hC4; exact zz8) (hb5.mono (fun b _ h => .inr (es2 b h)))
   have hS5:Shp w5 g (ty Pair) (cap*16):=Shp.ofc (by have zh:=hS4; exact zz5) hb5 (fun h => hgT (es2 _ h))
   have hr0_5:=Row.chg (show Row true _ eA0 ek0 (meL x.a.sig.open_ (K+1+1+1+1+1)) eS0 from by have zh:=hr0_4; exact zz9) hb5 (pwget6_0_2 epw_.out)
   have hr1_5:=Row.chg (show Row true _ eA1 ek1 (meL x.a.sig.shut (K1)) eS1 from by have zh:=hr1_4; exact zz10) hb5 (pwget6_1_2 epw_.out)
   have hr3_5:=Row.chg (show Row true _ eA3 ek3 x.b.sig.open_ eS3 from by have zh:=hr3_4; exact zz16) hb5 (ya5 (pwget6_2_3 epw_.out))
   have hr4_5:=Row.chg (show Row true _ eA4 ek4 x.b.sig.shut eS4 from by have zh:=hr4_4; exact zz20) hb5 (ya5 (pwget6_2_4 epw_.out))
   have hr5_5:=Row.chg (show Row true _ eA5 ek5 x.b.sig.sides eS5 from by have zh:=hr5_4; exact zz21) hb5 (ya5 (pwget6_2_5 epw_.out))
   have hc5:=fun o => hb5.cellC (p:=⟨g,o,none⟩) (Shp.lt (show Shp _ g (ty Pair) (cap*16) from by have zh:=hS4; exact zz5)) (fun h => hgT (es2 _ h))
   have hf5:=fun o => hS5.frozen o
   go_wp2_with (fail)
   refine (mark_Text _ (K3+1+1) zz34 zz18 _).mono ?_
   rintro e6 w6 ⟨rfl,hb6⟩
   have hC6:Chg (fun b => b=g∨T k b) wr w6:=Chg.trans (b:=_) (by have zh:=hC5; exact zz8) (hb6.chg_ (fun b => b=g∨T k b))
   have hS6:Shp w6 g (ty Pair) (cap*16):=Shp.ofb (by have zh:=hS5; exact zz5) hb6
   have hr0_6:=Row.later (show Row true _ eA0 ek0 (meL x.a.sig.open_ (K+1+1+1+1+1)) eS0 from by have zh:=hr0_5; exact zz9) hb6
   have hr1_6:=Row.later (show Row true _ eA1 ek1 (meL x.a.sig.shut (K1)) eS1 from by have zh:=hr1_5; exact zz10) hb6
   have hr2_6:=Row.later (show Row true _ eA2 ek2 (meL x.a.sig.sides (K2)) eS2 from by have zh:=hr2_5; exact zz11) hb6
   have hr3_6:=Row.later (show Row true _ eA3 ek3 x.b.sig.open_ eS3 from by have zh:=hr3_5; exact zz16) hb6
   have hr4_6:=Row.later (show Row true _ eA4 ek4 x.b.sig.shut eS4 from by have zh:=hr4_5; exact zz20) hb6
   have hr5_6:=Row.later (show Row true _ eA5 ek5 x.b.sig.sides eS5 from by have zh:=hr5_5; exact zz21) hb6
   have hc6:=fun o => hb6.cell (p:=⟨g,o,none⟩) (Shp.lt (show Shp _ g (ty Pair) (cap*16) from by have zh:=hS5; exact zz5))
   have hf6:=fun o => hS6.frozen o
   go_wp2_with (fail)
   refine (mark_Text _ (K3+1+1+1) zz34 zz18 _).mono ?_
   rintro e7 w7 ⟨rfl,hb7⟩
   have hC7:Chg (fun b => b=g∨T k b) wr w7:=Chg.trans (b:=_) (by have zh:=hC6; exact zz8) (hb7.chg_ (fun b => b=g∨T k b))
   have hS7:Shp w7 g (ty Pair) (cap*16):=Shp.ofb (by have zh:=hS6; exact zz5) hb7
   have hr0_7:=Row.later (show Row true _ eA0 ek0 (meL x.a.sig.open_ (K+1+1+1+1+1)) eS0 from by have zh:=hr0_6; exact zz9) hb7
   have hr1_7:=Row.later (show Row true _ eA1 ek1 (meL x.a.sig.shut (K1)) eS1 from by have zh:=hr1_6; exact zz10) hb7
   have hr2_7:=Row.later (show Row true _ eA2 ek2 (meL x.a.sig.sides (K2)) eS2 from by have zh:=hr2_6; exact zz11) hb7
   have hr3_7:=Row.later (show Row true _ eA3 ek3 x.b.sig.open_ eS3 from by have zh:=hr3_6; exact zz16) hb7
   have hr4_7:=Row.later (show Row true _ eA4 ek4 x.b.sig.shut eS4 from by have zh:=hr4_6; exact zz20) hb7
   have hr5_7:=Row.later (show Row true _ eA5 ek5 x.b.sig.sides eS5 from by have zh:=hr5_6; exact zz21) hb7
   have hc7:=fun o => hb7.cell (p:=⟨g,o,none⟩) (Shp.lt (show Shp _ g (ty Pair) (cap*16) from by have zh:=hS6; exact zz5))
   have hf7:=fun o => hS7.frozen o
   go_wp2_with (fail)
   refine (mark_StringS x.b.sig.open_ _ _ _ _ _ (K3+1+1+1+1+1) zz34 (by have:=HK4.out; omega) (show Row true _ eA3 ek3 x.b.sig.open_ eS3 from by have zh:=hr3_7; exact zz16) (Nat.le_trans ea3 eb3)).mono ?_
   rw [HK4.out]
   rintro e8 w8 ⟨rfl,hr3_8,hb8⟩
   have hC8:Chg (fun b => b=g∨T k b) wr w8:=Chg.trans (b:=_) (by have zh:=hC7; exact zz8) (hb8.mono (fun b _ h => .inr (es3 b h)))
   have hS8:Shp w8 g (ty Pair) (cap*16):=Shp.ofc (by have zh:=hS7; exact zz5) hb8 (fun h => hgT (es3 _ h))
   have hr0_8:=Row.chg (show Row true _ eA0 ek0 (meL x.a.sig.open_ (K+1+1+1+1+1)) eS0 from by have zh:=hr0_7; exact zz9) hb8 (pwget6_0_3 epw_.out)
   have hr1_8:=Row.chg (show Row true _ eA1 ek1 (meL x.a.sig.shut (K1)) eS1 from by have zh:=hr1_7; exact zz10) hb8 (pwget6_1_3 epw_.out)
   have hr2_8:=Row.chg (show Row true _ eA2 ek2 (meL x.a.sig.sides (K2)) eS2 from by have zh:=hr2_7; exact zz11) hb8 (pwget6_2_3 epw_.out)
   have hr4_8:=Row.chg (show Row true _ eA4 ek4 x.b.sig.shut eS4 from by have zh:=hr4_7; exact zz20) hb8 (ya5 (pwget6_3_4 epw_.out))
   have hr5_8:=Row.chg (show Row true _ eA5 ek5 x.b.sig.sides eS5 from by have zh:=hr5_7; exact zz21) hb8 (ya5 (pwget6_3_5 epw_.out))
   have hc8:=fun o => hb8.cellC (p:=⟨g,o,none⟩) (Shp.lt (show Shp _ g (ty Pair) (cap*16) from by have zh:=hS7; exact zz5)) (fun h => hgT (es3 _ h))
   have hf8:=fun o => hS8.frozen o
   go_wp2_with (fail)
   refine (mark_StringS x.b.sig.shut _ _ _ _ _ (K4) zz34 (by have:=HK5.out; omega) (show Row true _ eA4 ek4 x.b.sig.shut eS4 from by have zh:=hr4_8; exact zz20) (Nat.le_trans ea4 eb4)).mono ?_
   rw [HK5.out]
   rintro e9 w9 ⟨rfl,hr4_9,hb9⟩
   have hC9:Chg (fun b => b=g∨T k b) wr w9:=Chg.trans (b:=_) (by have zh:=hC8; exact zz8) (hb9.mono (fun b _ h => .inr (es4 b h)))
   have hS9:Shp w9 g (ty Pair) (cap*16):=Shp.ofc (by have zh:=hS8; exact zz5) hb9 (fun h => hgT (es4 _ h))
   have hr0_9:=Row.chg (show Row true _ eA0 ek0 (meL x.a.sig.open_ (K+1+1+1+1+1)) eS0 from by have zh:=hr0_8; exact zz9) hb9 (pwget6_0_4 epw_.out)
   have hr1_9:=Row.chg (show Row true _ eA1 ek1 (meL x.a.sig.shut (K1)) eS1 from by have zh:=hr1_8; exact zz10) hb9 (pwget6_1_4 epw_.out)
   have hr2_9:=Row.chg (show Row true _ eA2 ek2 (meL x.a.sig.sides (K2)) eS2 from by have zh:=hr2_8; exact zz11) hb9 (pwget6_2_4 epw_.out)
   have hr3_9:=Row.chg (show Row true _ eA3 ek3 (meL x.b.sig.open_ (K3+1+1+1+1+1)) eS3 from by have zh:=hr3_8; exact zz16) hb9 (pwget6_3_4 epw_.out)
   have hr5_9:=Row.chg (show Row true _ eA5 ek5 x.b.sig.sides eS5 from by have zh:=hr5_8; exact zz21) hb9 (ya5 (pwget6_4_5 epw_.out))
   have hc9:=fun o => hb9.cellC (p:=⟨g,o,none⟩) (Shp.lt (show Shp _ g (ty Pair) (cap*16) from by have zh:=hS8; exact zz5)) (fun h => hgT (es4 _ h))
   have hf9:=fun o => hS9.frozen o
   go_wp2_with (fail)
   refine (mark_StringS x.b.sig.sides _ _ _ _ _ (K5) zz34 (by have:=HK6.out; omega) (show Row true _ eA5 ek5 x.b.sig.sides eS5 from by have zh:=hr5_9; exact zz21) (Nat.le_trans ea5 eb5)).mono ?_
   rw [HK6.out]
   rintro e10 w10 ⟨rfl,hr5_10,hb10⟩
   have hC10:Chg (fun b => b=g∨T k b) wr w10:=Chg.trans (b:=_) (by have zh:=hC9; exact zz8) (hb10.mono (fun b _ h => .inr (es5 b h)))
   have hS10:Shp w10 g (ty Pair) (cap*16):=Shp.ofc (by have zh:=hS9; exact zz5) hb10 (fun h => hgT (es5 _ h))
   have hr0_10:=Row.chg (show Row true _ eA0 ek0 (meL x.a.sig.open_ (K+1+1+1+1+1)) eS0 from by have zh:=hr0_9; exact zz9) hb10 (pwget6_0_5 epw_.out)
   have hr1_10:=Row.chg (show Row true _ eA1 ek1 (meL x.a.sig.shut (K1)) eS1 from by have zh:=hr1_9; exact zz10) hb10 (pwget6_1_5 epw_.out)
   have hr2_10:=Row.chg (show Row true _ eA2 ek2 (meL x.a.sig.sides (K2)) eS2 from by have zh:=hr2_9; exact zz11) hb10 (pwget6_2_5 epw_.out)
   have hr3_10:=Row.chg (show Row true _ eA3 ek3 (meL x.b.sig.open_ (K3+1+1+1+1+1)) eS3 from by have zh:=hr3_9; exact zz16) hb10 (pwget6_3_5 epw_.out)
   have hr4_10:=Row.chg (show Row true _ eA4 ek4 (meL x.b.sig.shut (K4)) eS4 from by have zh:=hr4_9; exact zz20) hb10 (pwget6_4_5 epw_.out)
   have hc10:=fun o => hb10.cellC (p:=⟨g,o,none⟩) (Shp.lt (show Shp _ g (ty Pair) (cap*16) from by have zh:=hS9; exact zz5)) (fun h => hgT (es5 _ h))
   have hf10:=fun o => hS10.frozen o
   go_wp2
   go_roundw
   case rel =>
    refine ⟨k+1,zz18,by go_num,by rw [hs2.out]; first | go_num | (congr 1; unfold Pair.cn; have:=HK1.out; have:=HK2.out; have:=HK3.out; have:=HK4.out; have:=HK5.out; have:=HK6.out; omega),?_,?_⟩
    ·refine Chg.trans hch (Chg.mono (show Chg (fun b => b=g∨T k b) wr _ from by have zh:=hC10; exact zz8) (fun b _ h => h.elim (fun e => e ▸ hg) (fun h => (HT.out k b h).1)))
    ·rw [hst.out,hme.out]
     refine Row.setN (N:=16) (T:=T) (w:=wr) (cs:=[.int .i64 (((K):Nat):Int),.int .i64 (((K+1):Nat):Int),.string (mtext (K+1+1)),.string (mtext (K+1+1+1)),.int .i64 (((K+1+1+1+1):Nat):Int),.slice eA0 (meL x.a.sig.open_ (K+1+1+1+1+1)).length ek0,.slice eA1 (meL x.a.sig.shut (K1)).length ek1,.slice eA2 (meL x.a.sig.sides (K2)).length ek2,.int .i64 (((K3):Nat):Int),.int .i64 (((K3+1):Nat):Int),.string (mtext (K3+1+1)),.string (mtext (K3+1+1+1)),.int .i64 (((K3+1+1+1+1):Nat):Int),.slice eA3 (meL x.b.sig.open_ (K3+1+1+1+1+1)).length ek3,.slice eA4 (meL x.b.sig.shut (K4)).length ek4,.slice eA5 (meL x.b.sig.sides (K5)).length ek5]) rfl hg HT.out HD.out HE.out hlty (show Shp _ g (ty Pair) (cap*16) from by have zh:=hS10; exact zz5) (fun o ho => ?_) (show Chg (fun b => b=g∨T k b) wr _ from by have zh:=hC10; exact zz8) ?_ ?_
     ·have n0:o≠k*16:=by intro h; apply ho; rw [h]; omega
      have n1:o≠k*16+1:=zz23
      have n2:o≠k*16+2:=zz23
      have n3:o≠k*16+3:=zz23
      have n4:o≠k*16+4:=zz23
      have n5:o≠k*16+5:=zz23
      have n6:o≠k*16+6:=zz23
      have n7:o≠k*16+7:=zz23
      have n8:o≠k*16+8:=zz23
      have n9:o≠k*16+9:=zz23
      have n10:o≠k*16+10:=zz23
      have n11:o≠k*16+11:=zz23
      have n12:o≠k*16+12:=zz23
      have n13:o≠k*16+13:=zz23
      have n14:o≠k*16+14:=zz23
      have n15:o≠k*16+15:=zz23
      simp only [hc10,hc9,hc8,hc7,hc6,hc5,hc4,hc3,hc2,hc1,ya1 _ _ _ o _ n0,ya1 _ _ _ o _ n1,ya1 _ _ _ o _ n2,ya1 _ _ _ o _ n3,ya1 _ _ _ o _ n4,ya1 _ _ _ o _ n5,ya1 _ _ _ o _ n6,ya1 _ _ _ o _ n7,ya1 _ _ _ o _ n8,ya1 _ _ _ o _ n9,ya1 _ _ _ o _ n10,ya1 _ _ _ o _ n11,ya1 _ _ _ o _ n12,ya1 _ _ _ o _ n13,ya1 _ _ _ o _ n14,ya1 _ _ _ o _ n15]
     ·intro j u hu
      have hj:j<16:=(List.getElem?_eq_some_iff.1 hu).1
      rcases (by omega:j=0∨j=1∨j=2∨j=3∨j=4∨j=5∨j=6∨j=7∨j=8∨j=9∨j=10∨j=11∨j=12∨j=13∨j=14∨j=15) with rfl | rfl | rfl | rfl | rfl | rfl | rfl | rfl | rfl | rfl | rfl | rfl | rfl | rfl | rfl | rfl
      all_goals (have hu:=Option.some.inj hu; subst hu; go_simp; try simp)
     ·exact Pair.mk' (m:=true) (x:=(⟨(⟨(⟨(((K):Nat):Int),(((K+1):Nat):Int),mtext (K+1+1),mtext (K+1+1+1)⟩:Head),(⟨(((K+1+1+1+1):Nat):Int),meL x.a.sig.open_ (K+1+1+1+1+1),meL x.a.sig.shut (K1),meL x.a.sig.sides (K2)⟩:Sig)⟩:Seal),(⟨(⟨(((K3):Nat):Int),(((K3+1):Nat):Int),mtext (K3+1+1),mtext (K3+1+1+1)⟩:Head),(⟨(((K3+1+1+1+1):Nat):Int),meL x.b.sig.open_ (K3+1+1+1+1+1),meL x.b.sig.shut (K4),meL x.b.sig.sides (K5)⟩:Sig)⟩:Seal)⟩:Pair)) (S:=T k) (I64_nat zz40) (I64_nat zz40) (mtext_size (K+1+1) zz40) (mtext_size (K+1+1+1) zz40) (I64_nat zz40) (by rw [meL_length]; exact ea0) eb0 (show Row true _ eA0 ek0 (meL x.a.sig.open_ (K+1+1+1+1+1)) eS0 from by have zh:=hr0_10; exact zz9) es0 (by rw [meL_length]; exact ea1) eb1 (show Row true _ eA1 ek1 (meL x.a.sig.shut (K1)) eS1 from by have zh:=hr1_10; exact zz10) es1 (by rw [meL_length]; exact ea2) eb2 (show Row true _ eA2 ek2 (meL x.a.sig.sides (K2)) eS2 from by have zh:=hr2_10; exact zz11) es2 (I64_nat zz40) (I64_nat zz40) (mtext_size (K3+1+1) zz40) (mtext_size (K3+1+1+1) zz40) (I64_nat zz40) (by rw [meL_length]; exact ea3) eb3 (show Row true _ eA3 ek3 (meL x.b.sig.open_ (K3+1+1+1+1+1)) eS3 from by have zh:=hr3_10; exact zz16) es3 (by rw [meL_length]; exact ea4) eb4 (show Row true _ eA4 ek4 (meL x.b.sig.shut (K4)) eS4 from by have zh:=hr4_10; exact zz20) es4 (by rw [meL_length]; exact ea5) eb5 (show Row true _ eA5 ek5 (meL x.b.sig.sides (K5)) eS5 from by have zh:=hr5_10; exact zz21) es5 (fun _ => epw_.out)
   case measure => simp [intOf]; omega
  ·have hke:k=xs.length:=by omega
   go_wp2
   go_ret; subst hke; refine ⟨zz71,zz84,hch⟩
theorem mark_AuditorS (xs:List Auditor) (w:World) (A:Option Addr) (cap:Nat) (S:Blks) (a:Int) (k0:Nat) (ha:a=(k0:Int)) (hk:k0+cnL xs≤4611686018427387904) (hx:Row true w A cap xs S) (hl:xs.length≤maxLen) :
  Calls Tryz.prog 147 #[.slice A xs.length cap,.int .i64 a] w fun e w' => e = .returned (.int .i64 ((k0+cnL xs:Nat):Int))∧Row true w' A cap (meL xs k0) S∧Chg S w w':=by
 subst ha
 unfold maxLen at hl
 have hxx:=hx
 rcases hx with ⟨rfl,rfl,rfl⟩ | ⟨g,cur_,rfl,hg,hh_,hcs_,_⟩
 ·go_enter Tryz.func147,Tryz.ntmps147
  go_wp2
  go_loopw [1,5] (fun l i wr => i = .int .i64 0∧l = .int .i64 (k0:Int)∧wr=w) (fun _ _ _ => 0)
  case atStart => exact ⟨rfl,rfl,rfl⟩
  case round =>
   obtain ⟨rfl,rfl,rfl⟩:=hrel
   go_wp2
   go_ret; exact ⟨rfl,.inl ⟨rfl,rfl,rfl⟩,Chg.refl _ _⟩
 have hsh0:Shp w g (ty Auditor) (cap*6):=⟨cur_,hh_,hcs_⟩
 clear hh_ hcs_
 go_enter Tryz.func147,Tryz.ntmps147
 go_wp2
 go_loopw [1,5] (fun l i wr => ∃ k:Nat,k≤xs.length∧i = .int .i64 k∧l = .int .i64 ((k0+cnL (xs.take k):Nat):Int)∧Chg S w wr∧Row true wr (some ⟨g,0,none⟩) cap (meL (xs.take k) k0 ++ xs.drop k) S) (fun _ i _ => xs.length - (intOf i).toNat)
 case atStart => exact ⟨0,Nat.zero_le _,rfl,by simp [cnL],Chg.refl _ _,by simpa [meL] using hxx⟩
 case round =>
  obtain ⟨k,hkk,rfl,rfl,hch,hrow⟩:=hrel
  clear hxx
  by_cases hlt:k<xs.length
  ·have hylen:(meL (xs.take k) k0 ++ xs.drop k).length=xs.length:=by simp; omega
   have hstep:=meL_step xs k0 k hlt
   have hat:=meL_at xs k0 k hlt (by rw [hylen]; exact hlt)
   generalize hys:meL (xs.take k) k0 ++ xs.drop k=ys at hrow hylen hat hstep
   have hlty:k<ys.length:=zz18
   have hcs:=cnL_take_succ xs k hlt
   have hcl:=cnL_take_le xs (k+1)
   generalize hK:k0+cnL (xs.take k)=K at hstep
   generalize xs[k]=x at hat hcs hstep
   rw [show Mk.cn x=Auditor.cn x from rfl] at hcs
   have hs2:Hid (k0+cnL (xs.take (k+1))=K+Auditor.cn x):=zd zz18
   have hKb:K+Auditor.cn x≤4611686018427387904:=zz18
   unfold Auditor.cn at hKb
   have hst:Hid (meL (xs.take (k+1)) k0 ++ xs.drop (k+1)=ys.set k (Auditor.me x K)):=zd hstep
   rcases hrow with ⟨h_,_⟩ | ⟨g2,cur,e_,_,hh,hcz,T,hT,hd,he⟩
   ·cases h_
   cases e_
   have hsh:Shp wr g (ty Auditor) (cap*6):=⟨cur,hh,hcz⟩
   have hd:=hd rfl
   have hgl:=hsh.lt
   have hgT : ¬ T k g:=fun h => (hT k g h).2 rfl
   obtain ⟨c1,ha1,hr1⟩:=he k hlty
   rw [hat] at hr1
   have HE:=zd he; have HD:=zd hd; have HT:=zd hT
   clear hcs hcl hstep hat hys he hd hT hh hcz
   obtain ⟨eA0,ek0,eS0,eA1,ek1,eS1,eA2,ek2,eS2,eA3,ek3,eS3,rfl,ef0,ea0,eb0,er0,es0,ea1,eb1,er1,es1,ea2,eb2,er2,es2,ea3,eb3,er3,es3,epw⟩:=Auditor.open hr1
   have epw_:=zd (epw rfl); clear epw
   have q0:wr.cell? ⟨g,k*6,none⟩=some (.int .i64 x.house):=by have:=ha1 0 _ rfl; simpa [show Lay.n Auditor=6 from rfl] using this
   have q1:wr.cell? ⟨g,k*6+1,none⟩=some (.bool x.up):=by have:=ha1 1 _ rfl; simpa [show Lay.n Auditor=6 from rfl] using this
   have q2:wr.cell? ⟨g,k*6+2,none⟩=some (.slice eA0 x.disk.files.length ek0):=by have:=ha1 2 _ rfl; simpa [show Lay.n Auditor=6 from rfl] using this
   have q3:wr.cell? ⟨g,k*6+3,none⟩=some (.slice eA1 x.pool.length ek1):=by have:=ha1 3 _ rfl; simpa [show Lay.n Auditor=6 from rfl] using this
   have q4:wr.cell? ⟨g,k*6+4,none⟩=some (.slice eA2 x.pins.length ek2):=by have:=ha1 4 _ rfl; simpa [show Lay.n Auditor=6 from rfl] using this
   have q5:wr.cell? ⟨g,k*6+5,none⟩=some (.slice eA3 x.pairs.length ek3):=by have:=ha1 5 _ rfl; simpa [show Lay.n Auditor=6 from rfl] using this
   clear ha1
   have hf0:=fun o => hsh.frozen o
   obtain ⟨K1,hK1⟩:∃ q,K+1+1+cnL x.disk.files=q:=⟨_,rfl⟩
   have HK1:=zd hK1; clear hK1
   obtain ⟨K2,hK2⟩:∃ q,K1+cnL x.pool=q:=⟨_,rfl⟩
   have HK2:=zd hK2; clear hK2
   obtain ⟨K3,hK3⟩:∃ q,K2+cnL x.pins=q:=⟨_,rfl⟩
   have HK3:=zd hK3; clear hK3
   obtain ⟨K4,hK4⟩:∃ q,K3+cnL x.pairs=q:=⟨_,rfl⟩
   have HK4:=zd hK4; clear hK4
   have hme:Hid (Auditor.me x K=(⟨(((K):Nat):Int),((((K+1):Nat):Int) % 3 == 0),(⟨meL x.disk.files (K+1+1)⟩:Disk),meL x.pool (K1),meL x.pins (K2),meL x.pairs (K3)⟩:Auditor)):=zd (by simp only [Auditor.me,HK1.out,HK2.out,HK3.out,HK4.out])
   have hKb0:K+2≤4611686018427387904:=zz50
   have hKb1:K1+0≤4611686018427387904:=zz50
   have hKb2:K2+0≤4611686018427387904:=zz50
   have hKb3:K3+0≤4611686018427387904:=zz50
   have hKb4:K4+0≤4611686018427387904:=zz50
   have hC0:Chg (fun b => b=g∨T k b) wr wr:=Chg.refl _ _
   have hS0:=hsh
   go_wp2_with (fail)
   refine (mark_FileS x.disk.files _ _ _ _ _ (K+1+1) zz34 (by have:=HK1.out; omega) (show Row true _ eA0 ek0 x.disk.files eS0 from by have zh:=er0; exact zz9) (Nat.le_trans ea0 eb0)).mono ?_
   rw [HK1.out]
   rintro e1 w1 ⟨rfl,hr0_1,hb1⟩
   have hC1:Chg (fun b => b=g∨T k b) wr w1:=Chg.trans (b:=_) (by have zh:=hC0; exact zz8) (hb1.mono (fun b _ h => .inr (es0 b h)))
   have hS1:Shp w1 g (ty Auditor) (cap*6):=Shp.ofc (by have zh:=hS0; exact zz5) hb1 (fun h => hgT (es0 _ h))
   have hr1_1:=Row.chg (show Row true _ eA1 ek1 x.pool eS1 from by have zh:=er1; exact zz10) hb1 (ya5 (pwget4_0_1 epw_.out))
   have hr2_1:=Row.chg (show Row true _ eA2 ek2 x.pins eS2 from by have zh:=er2; exact zz11) hb1 (ya5 (pwget4_0_2 epw_.out))
   have hr3_1:=Row.chg (show Row true _ eA3 ek3 x.pairs eS3 from by have zh:=er3; exact zz16) hb1 (ya5 (pwget4_0_3 epw_.out))
   have hc1:=fun o => hb1.cellC (p:=⟨g,o,none⟩) (Shp.lt (show Shp _ g (ty Auditor) (cap*6) from by have zh:=hS0; exact zz5)) (fun h => hgT (es0 _ h))
   have hf1:=fun o => hS1.frozen o
   go_wp2_with (fail)
   refine (mark_StringS x.pool _ _ _ _ _ (K1) zz34 (by have:=HK2.out; omega) (show Row true _ eA1 ek1 x.pool eS1 from by have zh:=hr1_1; exact zz10) (Nat.le_trans ea1 eb1)).mono ?_
   rw [HK2.out]
   rintro e2 w2 ⟨rfl,hr1_2,hb2⟩
   have hC2:Chg (fun b => b=g∨T k b) wr w2:=Chg.trans (b:=_) (by have zh:=hC1; exact zz8) (hb2.mono (fun b _ h => .inr (es1 b h)))
   have hS2:Shp w2 g (ty Auditor) (cap*6):=Shp.ofc (by have zh:=hS1; exact zz5) hb2 (fun h => hgT (es1 _ h))
   have hr0_2:=Row.chg (show Row true _ eA0 ek0 (meL x.disk.files (K+1+1)) eS0 from by have zh:=hr0_1; exact zz9) hb2 (pwget4_0_1 epw_.out)
   have hr2_2:=Row.chg (show Row true _ eA2 ek2 x.pins eS2 from by have zh:=hr2_1; exact zz11) hb2 (ya5 (pwget4_1_2 epw_.out))
   have hr3_2:=Row.chg (show Row true _ eA3 ek3 x.pairs eS3 from by have zh:=hr3_1; exact zz16) hb2 (ya5 (pwget4_1_3 epw_.out))
   have hc2:=fun o => hb2.cellC (p:=⟨g,o,none⟩) (Shp.lt (show Shp _ g (ty Auditor) (cap*6) from by have zh:=hS1; exact zz5)) (fun h => hgT (es1 _ h))
   have hf2:=fun o => hS2.frozen o
   go_wp2_with (fail)
   refine (mark_SealS x.pins _ _ _ _ _ (K2) zz34 (by have:=HK3.out; omega) (show Row true _ eA2 ek2 x.pins eS2 from by have zh:=hr2_2; exact zz11) (Nat.le_trans ea2 eb2)).mono ?_
   rw [HK3.out]
   rintro e3 w3 ⟨rfl,hr2_3,hb3⟩
   have hC3:Chg (fun b => b=g∨T k b) wr w3:=Chg.trans (b:=_) (by have zh:=hC2; exact zz8) (hb3.mono (fun b _ h => .inr (es2 b h)))
   have hS3:Shp w3 g (ty Auditor) (cap*6):=Shp.ofc (by have zh:=hS2; exact zz5) hb3 (fun h => hgT (es2 _ h))
   have hr0_3:=Row.chg (show Row true _ eA0 ek0 (meL x.disk.files (K+1+1)) eS0 from by have zh:=hr0_2; exact zz9) hb3 (pwget4_0_2 epw_.out)
   have hr1_3:=Row.chg (show Row true _ eA1 ek1 (meL x.pool (K1)) eS1 from by have zh:=hr1_2; exact zz10) hb3 (pwget4_1_2 epw_.out)
   have hr3_3:=Row.chg (show Row true _ eA3 ek3 x.pairs eS3 from by have zh:=hr3_2; exact zz16) hb3 (ya5 (pwget4_2_3 epw_.out))
   have hc3:=fun o => hb3.cellC (p:=⟨g,o,none⟩) (Shp.lt (show Shp _ g (ty Auditor) (cap*6) from by have zh:=hS2; exact zz5)) (fun h => hgT (es2 _ h))
   have hf3:=fun o => hS3.frozen o
   go_wp2_with (fail)
   refine (mark_PairS x.pairs _ _ _ _ _ (K3) zz34 (by have:=HK4.out; omega) (show Row true _ eA3 ek3 x.pairs eS3 from by have zh:=hr3_3; exact zz16) (Nat.le_trans ea3 eb3)).mono ?_
   rw [HK4.out]
   rintro e4 w4 ⟨rfl,hr3_4,hb4⟩
   have hC4:Chg (fun b => b=g∨T k b) wr w4:=Chg.trans (b:=_) (by have zh:=hC3; exact zz8) (hb4.mono (fun b _ h => .inr (es3 b h)))
   have hS4:Shp w4 g (ty Auditor) (cap*6):=Shp.ofc (by have zh:=hS3; exact zz5) hb4 (fun h => hgT (es3 _ h))
   have hr0_4:=Row.chg (show Row true _ eA0 ek0 (meL x.disk.files (K+1+1)) eS0 from by have zh:=hr0_3; exact zz9) hb4 (pwget4_0_3 epw_.out)
   have hr1_4:=Row.chg (show Row true _ eA1 ek1 (meL x.pool (K1)) eS1 from by have zh:=hr1_3; exact zz10) hb4 (pwget4_1_3 epw_.out)
   have hr2_4:=Row.chg (show Row true _ eA2 ek2 (meL x.pins (K2)) eS2 from by have zh:=hr2_3; exact zz11) hb4 (pwget4_2_3 epw_.out)
   have hc4:=fun o => hb4.cellC (p:=⟨g,o,none⟩) (Shp.lt (show Shp _ g (ty Auditor) (cap*6) from by have zh:=hS3; exact zz5)) (fun h => hgT (es3 _ h))
   have hf4:=fun o => hS4.frozen o
   go_wp2
   go_roundw
   case rel =>
    refine ⟨k+1,zz18,by go_num,by rw [hs2.out]; first | go_num | (congr 1; unfold Auditor.cn; have:=HK1.out; have:=HK2.out; have:=HK3.out; have:=HK4.out; omega),?_,?_⟩
    ·refine Chg.trans hch (Chg.mono (show Chg (fun b => b=g∨T k b) wr _ from by have zh:=hC4; exact zz8) (fun b _ h => h.elim (fun e => e ▸ hg) (fun h => (HT.out k b h).1)))
    ·rw [hst.out,hme.out]
     refine Row.setN (N:=6) (T:=T) (w:=wr) (cs:=[.int .i64 (((K):Nat):Int),.bool ((((K+1):Nat):Int) % 3 == 0),.slice eA0 (meL x.disk.files (K+1+1)).length ek0,.slice eA1 (meL x.pool (K1)).length ek1,.slice eA2 (meL x.pins (K2)).length ek2,.slice eA3 (meL x.pairs (K3)).length ek3]) rfl hg HT.out HD.out HE.out hlty (show Shp _ g (ty Auditor) (cap*6) from by have zh:=hS4; exact zz5) (fun o ho => ?_) (show Chg (fun b => b=g∨T k b) wr _ from by have zh:=hC4; exact zz8) ?_ ?_
     ·have n0:o≠k*6:=by intro h; apply ho; rw [h]; omega
      have n1:o≠k*6+1:=zz23
      have n2:o≠k*6+2:=zz23
      have n3:o≠k*6+3:=zz23
      have n4:o≠k*6+4:=zz23
      have n5:o≠k*6+5:=zz23
      simp only [hc4,hc3,hc2,hc1,ya1 _ _ _ o _ n0,ya1 _ _ _ o _ n1,ya1 _ _ _ o _ n2,ya1 _ _ _ o _ n3,ya1 _ _ _ o _ n4,ya1 _ _ _ o _ n5]
     ·intro j u hu
      have hj:j<6:=(List.getElem?_eq_some_iff.1 hu).1
      rcases (by omega:j=0∨j=1∨j=2∨j=3∨j=4∨j=5) with rfl | rfl | rfl | rfl | rfl | rfl
      all_goals (have hu:=Option.some.inj hu; subst hu; go_simp; try simp)
     ·exact Auditor.mk' (m:=true) (x:=(⟨(((K):Nat):Int),((((K+1):Nat):Int) % 3 == 0),(⟨meL x.disk.files (K+1+1)⟩:Disk),meL x.pool (K1),meL x.pins (K2),meL x.pairs (K3)⟩:Auditor)) (S:=T k) (I64_nat zz50) (by rw [meL_length]; exact ea0) eb0 (show Row true _ eA0 ek0 (meL x.disk.files (K+1+1)) eS0 from by have zh:=hr0_4; exact zz9) es0 (by rw [meL_length]; exact ea1) eb1 (show Row true _ eA1 ek1 (meL x.pool (K1)) eS1 from by have zh:=hr1_4; exact zz10) es1 (by rw [meL_length]; exact ea2) eb2 (show Row true _ eA2 ek2 (meL x.pins (K2)) eS2 from by have zh:=hr2_4; exact zz11) es2 (by rw [meL_length]; exact ea3) eb3 (show Row true _ eA3 ek3 (meL x.pairs (K3)) eS3 from by have zh:=hr3_4; exact zz16) es3 (fun _ => epw_.out)
   case measure => simp [intOf]; omega
  ·have hke:k=xs.length:=by omega
   go_wp2
   go_ret; subst hke; refine ⟨zz71,zz84,hch⟩
theorem mark_NoteS (xs:List Note) (w:World) (A:Option Addr) (cap:Nat) (S:Blks) (a:Int) (k0:Nat) (ha:a=(k0:Int)) (hk:k0+cnL xs≤4611686018427387904) (hx:Row true w A cap xs S) (hl:xs.length≤maxLen) :
  Calls Tryz.prog 148 #[.slice A xs.length cap,.int .i64 a] w fun e w' => e = .returned (.int .i64 ((k0+cnL xs:Nat):Int))∧Row true w' A cap (meL xs k0) S∧Chg S w w':=by
 subst ha
 unfold maxLen at hl
 have hxx:=hx
 rcases hx with ⟨rfl,rfl,rfl⟩ | ⟨g,cur_,rfl,hg,hh_,hcs_,_⟩
 ·go_enter Tryz.func148,Tryz.ntmps148
  go_wp2
  go_loopw [1,5] (fun l i wr => i = .int .i64 0∧l = .int .i64 (k0:Int)∧wr=w) (fun _ _ _ => 0)
  case atStart => exact ⟨rfl,rfl,rfl⟩
  case round =>
   obtain ⟨rfl,rfl,rfl⟩:=hrel
   go_wp2
   go_ret; exact ⟨rfl,.inl ⟨rfl,rfl,rfl⟩,Chg.refl _ _⟩
 have hsh0:Shp w g (ty Note) (cap*2):=⟨cur_,hh_,hcs_⟩
 clear hh_ hcs_
 go_enter Tryz.func148,Tryz.ntmps148
 go_wp2
 go_loopw [1,5] (fun l i wr => ∃ k:Nat,k≤xs.length∧i = .int .i64 k∧l = .int .i64 ((k0+cnL (xs.take k):Nat):Int)∧Chg S w wr∧Row true wr (some ⟨g,0,none⟩) cap (meL (xs.take k) k0 ++ xs.drop k) S) (fun _ i _ => xs.length - (intOf i).toNat)
 case atStart => exact ⟨0,Nat.zero_le _,rfl,by simp [cnL],Chg.refl _ _,by simpa [meL] using hxx⟩
 case round =>
  obtain ⟨k,hkk,rfl,rfl,hch,hrow⟩:=hrel
  clear hxx
  by_cases hlt:k<xs.length
  ·have hylen:(meL (xs.take k) k0 ++ xs.drop k).length=xs.length:=by simp; omega
   have hstep:=meL_step xs k0 k hlt
   have hat:=meL_at xs k0 k hlt (by rw [hylen]; exact hlt)
   generalize hys:meL (xs.take k) k0 ++ xs.drop k=ys at hrow hylen hat hstep
   have hlty:k<ys.length:=zz18
   have hcs:=cnL_take_succ xs k hlt
   have hcl:=cnL_take_le xs (k+1)
   generalize hK:k0+cnL (xs.take k)=K at hstep
   generalize xs[k]=x at hat hcs hstep
   rw [show Mk.cn x=Note.cn x from rfl] at hcs
   have hs2:Hid (k0+cnL (xs.take (k+1))=K+Note.cn x):=zd zz18
   have hKb:K+Note.cn x≤4611686018427387904:=zz18
   unfold Note.cn at hKb
   have hst:Hid (meL (xs.take (k+1)) k0 ++ xs.drop (k+1)=ys.set k (Note.me x K)):=zd hstep
   rcases hrow with ⟨h_,_⟩ | ⟨g2,cur,e_,_,hh,hcz,T,hT,hd,he⟩
   ·cases h_
   cases e_
   have hsh:Shp wr g (ty Note) (cap*2):=⟨cur,hh,hcz⟩
   have hd:=hd rfl
   have hgl:=hsh.lt
   have hgT : ¬ T k g:=fun h => (hT k g h).2 rfl
   obtain ⟨c1,ha1,hr1⟩:=he k hlty
   rw [hat] at hr1
   have HE:=zd he; have HD:=zd hd; have HT:=zd hT
   clear hcs hcl hstep hat hys he hd hT hh hcz
   obtain ⟨rfl,ef0,ef1⟩:=Note.open hr1
   have q0:wr.cell? ⟨g,k*2,none⟩=some (.int .i64 x.to):=by have:=ha1 0 _ rfl; simpa [show Lay.n Note=2 from rfl] using this
   have q1:wr.cell? ⟨g,k*2+1,none⟩=some (.string x.text):=by have:=ha1 1 _ rfl; simpa [show Lay.n Note=2 from rfl] using this
   clear ha1
   have hf0:=fun o => hsh.frozen o
   have hme:Hid (Note.me x K=(⟨(((K):Nat):Int),mtext (K+1)⟩:Note)):=zd (by simp only [Note.me])
   have hKb0:K+2≤4611686018427387904:=zz18
   have hC0:Chg (fun b => b=g∨T k b) wr wr:=Chg.refl _ _
   have hS0:=hsh
   go_wp2_with (fail)
   refine (mark_Text _ (K+1) zz34 zz18 _).mono ?_
   rintro e1 w1 ⟨rfl,hb1⟩
   have hC1:Chg (fun b => b=g∨T k b) wr w1:=Chg.trans (b:=_) (by have zh:=hC0; exact zz8) (hb1.chg_ (fun b => b=g∨T k b))
   have hS1:Shp w1 g (ty Note) (cap*2):=Shp.ofb (by have zh:=hS0; exact zz5) hb1
   have hc1:=fun o => hb1.cell (p:=⟨g,o,none⟩) (Shp.lt (show Shp _ g (ty Note) (cap*2) from by have zh:=hS0; exact zz5))
   have hf1:=fun o => hS1.frozen o
   go_wp2
   go_roundw
   case rel =>
    refine ⟨k+1,zz18,by go_num,by rw [hs2.out]; first | go_num | (congr 1; unfold Note.cn; omega),?_,?_⟩
    ·refine Chg.trans hch (Chg.mono (show Chg (fun b => b=g∨T k b) wr _ from by have zh:=hC1; exact zz8) (fun b _ h => h.elim (fun e => e ▸ hg) (fun h => (HT.out k b h).1)))
    ·rw [hst.out,hme.out]
     refine Row.setN (N:=2) (T:=T) (w:=wr) (cs:=[.int .i64 (((K):Nat):Int),.string (mtext (K+1))]) rfl hg HT.out HD.out HE.out hlty (show Shp _ g (ty Note) (cap*2) from by have zh:=hS1; exact zz5) (fun o ho => ?_) (show Chg (fun b => b=g∨T k b) wr _ from by have zh:=hC1; exact zz8) ?_ ?_
     ·have n0:o≠k*2:=by intro h; apply ho; rw [h]; omega
      have n1:o≠k*2+1:=zz23
      simp only [hc1,ya1 _ _ _ o _ n0,ya1 _ _ _ o _ n1]
     ·intro j u hu
      have hj:j<2:=(List.getElem?_eq_some_iff.1 hu).1
      rcases (by omega:j=0∨j=1) with rfl | rfl
      all_goals (have hu:=Option.some.inj hu; subst hu; go_simp; try simp)
     ·exact Note.mk' (m:=true) (x:=(⟨(((K):Nat):Int),mtext (K+1)⟩:Note)) (S:=T k) (I64_nat zz18) (mtext_size (K+1) zz18)
   case measure => simp [intOf]; omega
  ·have hke:k=xs.length:=by omega
   go_wp2
   go_ret; subst hke; refine ⟨zz71,zz84,hch⟩
theorem mark_GivenS (xs:List Given) (w:World) (A:Option Addr) (cap:Nat) (S:Blks) (a:Int) (k0:Nat) (ha:a=(k0:Int)) (hk:k0+cnL xs≤4611686018427387904) (hx:Row true w A cap xs S) (hl:xs.length≤maxLen) :
  Calls Tryz.prog 149 #[.slice A xs.length cap,.int .i64 a] w fun e w' => e = .returned (.int .i64 ((k0+cnL xs:Nat):Int))∧Row true w' A cap (meL xs k0) S∧Chg S w w':=by
 subst ha
 unfold maxLen at hl
 have hxx:=hx
 rcases hx with ⟨rfl,rfl,rfl⟩ | ⟨g,cur_,rfl,hg,hh_,hcs_,_⟩
 ·go_enter Tryz.func149,Tryz.ntmps149
  go_wp2
  go_loopw [1,5] (fun l i wr => i = .int .i64 0∧l = .int .i64 (k0:Int)∧wr=w) (fun _ _ _ => 0)
  case atStart => exact ⟨rfl,rfl,rfl⟩
  case round =>
   obtain ⟨rfl,rfl,rfl⟩:=hrel
   go_wp2
   go_ret; exact ⟨rfl,.inl ⟨rfl,rfl,rfl⟩,Chg.refl _ _⟩
 have hsh0:Shp w g (ty Given) (cap*7):=⟨cur_,hh_,hcs_⟩
 clear hh_ hcs_
 go_enter Tryz.func149,Tryz.ntmps149
 go_wp2
 go_loopw [1,5] (fun l i wr => ∃ k:Nat,k≤xs.length∧i = .int .i64 k∧l = .int .i64 ((k0+cnL (xs.take k):Nat):Int)∧Chg S w wr∧Row true wr (some ⟨g,0,none⟩) cap (meL (xs.take k) k0 ++ xs.drop k) S) (fun _ i _ => xs.length - (intOf i).toNat)
 case atStart => exact ⟨0,Nat.zero_le _,rfl,by simp [cnL],Chg.refl _ _,by simpa [meL] using hxx⟩
 case round =>
  obtain ⟨k,hkk,rfl,rfl,hch,hrow⟩:=hrel
  clear hxx
  by_cases hlt:k<xs.length
  ·have hylen:(meL (xs.take k) k0 ++ xs.drop k).length=xs.length:=by simp; omega
   have hstep:=meL_step xs k0 k hlt
   have hat:=meL_at xs k0 k hlt (by rw [hylen]; exact hlt)
   generalize hys:meL (xs.take k) k0 ++ xs.drop k=ys at hrow hylen hat hstep
   have hlty:k<ys.length:=zz18
   have hcs:=cnL_take_succ xs k hlt
   have hcl:=cnL_take_le xs (k+1)
   generalize hK:k0+cnL (xs.take k)=K at hstep
   generalize xs[k]=x at hat hcs hstep
   rw [show Mk.cn x=Given.cn x from rfl] at hcs
   have hs2:Hid (k0+cnL (xs.take (k+1))=K+Given.cn x):=zd zz18
   have hKb:K+Given.cn x≤4611686018427387904:=zz18
   unfold Given.cn at hKb
   have hst:Hid (meL (xs.take (k+1)) k0 ++ xs.drop (k+1)=ys.set k (Given.me x K)):=zd hstep
   rcases hrow with ⟨h_,_⟩ | ⟨g2,cur,e_,_,hh,hcz,T,hT,hd,he⟩
   ·cases h_
   cases e_
   have hsh:Shp wr g (ty Given) (cap*7):=⟨cur,hh,hcz⟩
   have hd:=hd rfl
   have hgl:=hsh.lt
   have hgT : ¬ T k g:=fun h => (hT k g h).2 rfl
   obtain ⟨c1,ha1,hr1⟩:=he k hlty
   rw [hat] at hr1
   have HE:=zd he; have HD:=zd hd; have HT:=zd hT
   clear hcs hcl hstep hat hys he hd hT hh hcz
   obtain ⟨eA0,ek0,eS0,eA1,ek1,eS1,eA2,ek2,eS2,rfl,ef0,ef1,ef2,ef3,ea0,eb0,er0,es0,ea1,eb1,er1,es1,ea2,eb2,er2,es2,epw⟩:=Given.open hr1
   have epw_:=zd (epw rfl); clear epw
   have q0:wr.cell? ⟨g,k*7,none⟩=some (.int .i64 x.house):=by have:=ha1 0 _ rfl; simpa [show Lay.n Given=7 from rfl] using this
   have q1:wr.cell? ⟨g,k*7+1,none⟩=some (.int .i64 x.epoch):=by have:=ha1 1 _ rfl; simpa [show Lay.n Given=7 from rfl] using this
   have q2:wr.cell? ⟨g,k*7+2,none⟩=some (.int .i64 x.stamp.by_):=by have:=ha1 2 _ rfl; simpa [show Lay.n Given=7 from rfl] using this
   have q3:wr.cell? ⟨g,k*7+3,none⟩=some (.int .i64 x.stamp.sig.at_):=by have:=ha1 3 _ rfl; simpa [show Lay.n Given=7 from rfl] using this
   have q4:wr.cell? ⟨g,k*7+4,none⟩=some (.slice eA0 x.stamp.sig.open_.length ek0):=by have:=ha1 4 _ rfl; simpa [show Lay.n Given=7 from rfl] using this
   have q5:wr.cell? ⟨g,k*7+5,none⟩=some (.slice eA1 x.stamp.sig.shut.length ek1):=by have:=ha1 5 _ rfl; simpa [show Lay.n Given=7 from rfl] using this
   have q6:wr.cell? ⟨g,k*7+6,none⟩=some (.slice eA2 x.stamp.sig.sides.length ek2):=by have:=ha1 6 _ rfl; simpa [show Lay.n Given=7 from rfl] using this
   clear ha1
   have hf0:=fun o => hsh.frozen o
   obtain ⟨K1,hK1⟩:∃ q,K+1+1+1+1+cnL x.stamp.sig.open_=q:=⟨_,rfl⟩
   have HK1:=zd hK1; clear hK1
   obtain ⟨K2,hK2⟩:∃ q,K1+cnL x.stamp.sig.shut=q:=⟨_,rfl⟩
   have HK2:=zd hK2; clear hK2
   obtain ⟨K3,hK3⟩:∃ q,K2+cnL x.stamp.sig.sides=q:=⟨_,rfl⟩
   have HK3:=zd hK3; clear hK3
   have hme:Hid (Given.me x K=(⟨(((K):Nat):Int),(((K+1):Nat):Int),(⟨(((K+1+1):Nat):Int),(⟨(((K+1+1+1):Nat):Int),meL x.stamp.sig.open_ (K+1+1+1+1),meL x.stamp.sig.shut (K1),meL x.stamp.sig.sides (K2)⟩:Sig)⟩:Stamp)⟩:Given)):=zd (by simp only [Given.me,HK1.out,HK2.out,HK3.out])
   have hKb0:K+4≤4611686018427387904:=zz47
   have hKb1:K1+0≤4611686018427387904:=zz47
   have hKb2:K2+0≤4611686018427387904:=zz47
   have hKb3:K3+0≤4611686018427387904:=zz47
   have hC0:Chg (fun b => b=g∨T k b) wr wr:=Chg.refl _ _
   have hS0:=hsh
   go_wp2_with (fail)
   refine (mark_StringS x.stamp.sig.open_ _ _ _ _ _ (K+1+1+1+1) zz34 (by have:=HK1.out; omega) (show Row true _ eA0 ek0 x.stamp.sig.open_ eS0 from by have zh:=er0; exact zz9) (Nat.le_trans ea0 eb0)).mono ?_
   rw [HK1.out]
   rintro e1 w1 ⟨rfl,hr0_1,hb1⟩
   have hC1:Chg (fun b => b=g∨T k b) wr w1:=Chg.trans (b:=_) (by have zh:=hC0; exact zz8) (hb1.mono (fun b _ h => .inr (es0 b h)))
   have hS1:Shp w1 g (ty Given) (cap*7):=Shp.ofc (by have zh:=hS0; exact zz5) hb1 (fun h => hgT (es0 _ h))
   have hr1_1:=Row.chg (show Row true _ eA1 ek1 x.stamp.sig.shut eS1 from by have zh:=er1; exact zz10) hb1 (ya5 (pwget3_0_1 epw_.out))
   have hr2_1:=Row.chg (show Row true _ eA2 ek2 x.stamp.sig.sides eS2 from by have zh:=er2; exact zz11) hb1 (ya5 (pwget3_0_2 epw_.out))
   have hc1:=fun o => hb1.cellC (p:=⟨g,o,none⟩) (Shp.lt (show Shp _ g (ty Given) (cap*7) from by have zh:=hS0; exact zz5)) (fun h => hgT (es0 _ h))
   have hf1:=fun o => hS1.frozen o
   go_wp2_with (fail)
   refine (mark_StringS x.stamp.sig.shut _ _ _ _ _ (K1) zz34 (by have:=HK2.out; omega) (show Row true _ eA1 ek1 x.stamp.sig.shut eS1 from by have zh:=hr1_1; exact zz10) (Nat.le_trans ea1 eb1)).mono ?_
   rw [HK2.out]
   rintro e2 w2 ⟨rfl,hr1_2,hb2⟩
   have hC2:Chg (fun b => b=g∨T k b) wr w2:=Chg.trans (b:=_) (by have zh:=hC1; exact zz8) (hb2.mono (fun b _ h => .inr (es1 b h)))
   have hS2:Shp w2 g (ty Given) (cap*7):=Shp.ofc (by have zh:=hS1; exact zz5) hb2 (fun h => hgT (es1 _ h))
   have hr0_2:=Row.chg (show Row true _ eA0 ek0 (meL x.stamp.sig.open_ (K+1+1+1+1)) eS0 from by have zh:=hr0_1; exact zz9) hb2 (pwget3_0_1 epw_.out)
   have hr2_2:=Row.chg (show Row true _ eA2 ek2 x.stamp.sig.sides eS2 from by have zh:=hr2_1; exact zz11) hb2 (ya5 (pwget3_1_2 epw_.out))
   have hc2:=fun o => hb2.cellC (p:=⟨g,o,none⟩) (Shp.lt (show Shp _ g (ty Given) (cap*7) from by have zh:=hS1; exact zz5)) (fun h => hgT (es1 _ h))
   have hf2:=fun o => hS2.frozen o
   go_wp2_with (fail)
   refine (mark_StringS x.stamp.sig.sides _ _ _ _ _ (K2) zz34 (by have:=HK3.out; omega) (show Row true _ eA2 ek2 x.stamp.sig.sides eS2 from by have zh:=hr2_2; exact zz11) (Nat.le_trans ea2 eb2)).mono ?_
   rw [HK3.out]
   rintro e3 w3 ⟨rfl,hr2_3,hb3⟩
   have hC3:Chg (fun b => b=g∨T k b) wr w3:=Chg.trans (b:=_) (by have zh:=hC2; exact zz8) (hb3.mono (fun b _ h => .inr (es2 b h)))
   have hS3:Shp w3 g (ty Given) (cap*7):=Shp.ofc (by have zh:=hS2; exact zz5) hb3 (fun h => hgT (es2 _ h))
   have hr0_3:=Row.chg (show Row true _ eA0 ek0 (meL x.stamp.sig.open_ (K+1+1+1+1)) eS0 from by have zh:=hr0_2; exact zz9) hb3 (pwget3_0_2 epw_.out)
   have hr1_3:=Row.chg (show Row true _ eA1 ek1 (meL x.stamp.sig.shut (K1)) eS1 from by have zh:=hr1_2; exact zz10) hb3 (pwget3_1_2 epw_.out)
   have hc3:=fun o => hb3.cellC (p:=⟨g,o,none⟩) (Shp.lt (show Shp _ g (ty Given) (cap*7) from by have zh:=hS2; exact zz5)) (fun h => hgT (es2 _ h))
   have hf3:=fun o => hS3.frozen o
   go_wp2
   go_roundw
   case rel =>
    refine ⟨k+1,zz18,by go_num,by rw [hs2.out]; first | go_num | (congr 1; unfold Given.cn; have:=HK1.out; have:=HK2.out; have:=HK3.out; omega),?_,?_⟩
    ·refine Chg.trans hch (Chg.mono (show Chg (fun b => b=g∨T k b) wr _ from by have zh:=hC3; exact zz8) (fun b _ h => h.elim (fun e => e ▸ hg) (fun h => (HT.out k b h).1)))
    ·rw [hst.out,hme.out]
     refine Row.setN (N:=7) (T:=T) (w:=wr) (cs:=[.int .i64 (((K):Nat):Int),.int .i64 (((K+1):Nat):Int),.int .i64 (((K+1+1):Nat):Int),.int .i64 (((K+1+1+1):Nat):Int),.slice eA0 (meL x.stamp.sig.open_ (K+1+1+1+1)).length ek0,.slice eA1 (meL x.stamp.sig.shut (K1)).length ek1,.slice eA2 (meL x.stamp.sig.sides (K2)).length ek2]) rfl hg HT.out HD.out HE.out hlty (show Shp _ g (ty Given) (cap*7) from by have zh:=hS3; exact zz5) (fun o ho => ?_) (show Chg (fun b => b=g∨T k b) wr _ from by have zh:=hC3; exact zz8) ?_ ?_
     ·have n0:o≠k*7:=by intro h; apply ho; rw [h]; omega
      have n1:o≠k*7+1:=zz23
      have n2:o≠k*7+2:=zz23
      have n3:o≠k*7+3:=zz23
      have n4:o≠k*7+4:=zz23
      have n5:o≠k*7+5:=zz23
      have n6:o≠k*7+6:=zz23
      simp only [hc3,hc2,hc1,ya1 _ _ _ o _ n0,ya1 _ _ _ o _ n1,ya1 _ _ _ o _ n2,ya1 _ _ _ o _ n3,ya1 _ _ _ o _ n4,ya1 _ _ _ o _ n5,ya1 _ _ _ o _ n6]
     ·intro j u hu
      have hj:j<7:=(List.getElem?_eq_some_iff.1 hu).1
      rcases (by omega:j=0∨j=1∨j=2∨j=3∨j=4∨j=5∨j=6) with rfl | rfl | rfl | rfl | rfl | rfl | rfl
      all_goals (have hu:=Option.some.inj hu; subst hu; go_simp; try simp)
     ·exact Given.mk' (m:=true) (x:=(⟨(((K):Nat):Int),(((K+1):Nat):Int),(⟨(((K+1+1):Nat):Int),(⟨(((K+1+1+1):Nat):Int),meL x.stamp.sig.open_ (K+1+1+1+1),meL x.stamp.sig.shut (K1),meL x.stamp.sig.sides (K2)⟩:Sig)⟩:Stamp)⟩:Given)) (S:=T k) (I64_nat zz47) (I64_nat zz47) (I64_nat zz47) (I64_nat zz47) (by rw [meL_length]; exact ea0) eb0 (show Row true _ eA0 ek0 (meL x.stamp.sig.open_ (K+1+1+1+1)) eS0 from by have zh:=hr0_3; exact zz9) es0 (by rw [meL_length]; exact ea1) eb1 (show Row true _ eA1 ek1 (meL x.stamp.sig.shut (K1)) eS1 from by have zh:=hr1_3; exact zz10) es1 (by rw [meL_length]; exact ea2) eb2 (show Row true _ eA2 ek2 (meL x.stamp.sig.sides (K2)) eS2 from by have zh:=hr2_3; exact zz11) es2 (fun _ => epw_.out)
   case measure => simp [intOf]; omega
  ·have hke:k=xs.length:=by omega
   go_wp2
   go_ret; subst hke; refine ⟨zz71,zz84,hch⟩
theorem markr_Wrld (x:Wrld) (w:World) (A0:Option Addr) (k0:Nat) (S0:Blks) (A1:Option Addr) (k1:Nat) (S1:Blks) (A2:Option Addr) (k2:Nat) (S2:Blks) (A3:Option Addr) (k3:Nat) (S3:Blks) (A4:Option Addr) (k4:Nat) (S4:Blks) (A5:Option Addr) (k5:Nat) (S5:Blks) (a:Int) (k:Nat) (ha:a=(k:Int)) (hk:k+x.ct≤4611686018427387904) (r0:Row true w A0 k0 x.houses S0) (l0:x.houses.length≤maxLen) (r1:Row true w A1 k1 x.auditors S1) (l1:x.auditors.length≤maxLen) (r2:Row true w A2 k2 x.notes S2) (l2:x.notes.length≤maxLen) (r3:Row true w A3 k3 x.given S3) (l3:x.given.length≤maxLen) (r4:Row true w A4 k4 x.evil S4) (l4:x.evil.length≤maxLen) (r5:Row true w A5 k5 x.codes S5) (l5:x.codes.length≤maxLen) (pw:List.Pairwise disj [S0,S1,S2,S3,S4,S5]) :
  Calls Tryz.prog 51 #[.agg (Wrld.cs x A0 k0 A1 k1 A2 k2 A3 k3 A4 k4 A5 k5).toArray,.int .i64 a] w fun e w' => e = .returned (.int .i64 ((k+x.ct:Nat):Int))∧(Row true w' A0 k0 (meL x.houses (k)) S0∧Row true w' A1 k1 (meL x.auditors (k+cnL x.houses)) S1∧Row true w' A2 k2 (meL x.notes (k+cnL x.houses+cnL x.auditors)) S2∧Row true w' A3 k3 (meL x.given (k+cnL x.houses+cnL x.auditors+cnL x.notes)) S3∧Row true w' A4 k4 (meL x.evil (k+cnL x.houses+cnL x.auditors+cnL x.notes+cnL x.given)) S4∧Row true w' A5 k5 (meL x.codes (k+cnL x.houses+cnL x.auditors+cnL x.notes+cnL x.given+cnL x.evil)) S5)∧Chg (un S0 (un S1 (un S2 (un S3 (un S4 S5))))) w w':=by
 subst ha
 unfold Wrld.ct at hk
 obtain ⟨K0,hK0⟩:∃ q,k+cnL x.houses=q:=⟨_,rfl⟩
 obtain ⟨K1,hK1⟩:∃ q,K0+cnL x.auditors=q:=⟨_,rfl⟩
 obtain ⟨K2,hK2⟩:∃ q,K1+cnL x.notes=q:=⟨_,rfl⟩
 obtain ⟨K3,hK3⟩:∃ q,K2+cnL x.given=q:=⟨_,rfl⟩
 obtain ⟨K4,hK4⟩:∃ q,K3+cnL x.evil=q:=⟨_,rfl⟩
 obtain ⟨K5,hK5⟩:∃ q,K4+cnL x.codes=q:=⟨_,rfl⟩
 have hfin:Hid (((k+x.ct:Nat):Int)=(K5:Int)):=zd (by unfold Wrld.ct; omega)
 simp only [hK0,hK1,hK2,hK3,hK4]
 have HK0:=zd hK0; clear hK0
 have HK1:=zd hK1; clear hK1
 have HK2:=zd hK2; clear hK2
 have HK3:=zd hK3; clear hK3
 have HK4:=zd hK4; clear hK4
 have HK5:=zd hK5; clear hK5
 rw [hfin.out]
 have t0_0:=r0.tight
 have t0_1:=r1.tight
 have t0_2:=r2.tight
 have t0_3:=r3.tight
 have t0_4:=r4.tight
 have t0_5:=r5.tight
 clear r0 r1 r2 r3 r4 r5
 have d0_1:=ya4 (pwget6_0_1 pw) (fun b (x:S0 b∧b<w.heap.size) => x.1) (fun b (x:S1 b∧b<w.heap.size) => x.1)
 have d0_2:=ya4 (pwget6_0_2 pw) (fun b (x:S0 b∧b<w.heap.size) => x.1) (fun b (x:S2 b∧b<w.heap.size) => x.1)
 have d0_3:=ya4 (pwget6_0_3 pw) (fun b (x:S0 b∧b<w.heap.size) => x.1) (fun b (x:S3 b∧b<w.heap.size) => x.1)
 have d0_4:=ya4 (pwget6_0_4 pw) (fun b (x:S0 b∧b<w.heap.size) => x.1) (fun b (x:S4 b∧b<w.heap.size) => x.1)
 have d0_5:=ya4 (pwget6_0_5 pw) (fun b (x:S0 b∧b<w.heap.size) => x.1) (fun b (x:S5 b∧b<w.heap.size) => x.1)
 have d1_2:=ya4 (pwget6_1_2 pw) (fun b (x:S1 b∧b<w.heap.size) => x.1) (fun b (x:S2 b∧b<w.heap.size) => x.1)
 have d1_3:=ya4 (pwget6_1_3 pw) (fun b (x:S1 b∧b<w.heap.size) => x.1) (fun b (x:S3 b∧b<w.heap.size) => x.1)
 have d1_4:=ya4 (pwget6_1_4 pw) (fun b (x:S1 b∧b<w.heap.size) => x.1) (fun b (x:S4 b∧b<w.heap.size) => x.1)
 have d1_5:=ya4 (pwget6_1_5 pw) (fun b (x:S1 b∧b<w.heap.size) => x.1) (fun b (x:S5 b∧b<w.heap.size) => x.1)
 have d2_3:=ya4 (pwget6_2_3 pw) (fun b (x:S2 b∧b<w.heap.size) => x.1) (fun b (x:S3 b∧b<w.heap.size) => x.1)
 have d2_4:=ya4 (pwget6_2_4 pw) (fun b (x:S2 b∧b<w.heap.size) => x.1) (fun b (x:S4 b∧b<w.heap.size) => x.1)
 have d2_5:=ya4 (pwget6_2_5 pw) (fun b (x:S2 b∧b<w.heap.size) => x.1) (fun b (x:S5 b∧b<w.heap.size) => x.1)
 have d3_4:=ya4 (pwget6_3_4 pw) (fun b (x:S3 b∧b<w.heap.size) => x.1) (fun b (x:S4 b∧b<w.heap.size) => x.1)
 have d3_5:=ya4 (pwget6_3_5 pw) (fun b (x:S3 b∧b<w.heap.size) => x.1) (fun b (x:S5 b∧b<w.heap.size) => x.1)
 have d4_5:=ya4 (pwget6_4_5 pw) (fun b (x:S4 b∧b<w.heap.size) => x.1) (fun b (x:S5 b∧b<w.heap.size) => x.1)
 clear pw
 have hC0:Chg (un S0 (un S1 (un S2 (un S3 (un S4 S5))))) w w:=Chg.refl _ _
 have hz0:=Nat.le_refl w.heap.size
 simp only [Wrld.cs]
 go_enter Tryz.func51,Tryz.ntmps51
 go_wp2_with (fail)
 refine (mark_HouseS x.houses _ _ _ (fun b => S0 b∧b<w.heap.size) _ k (by first | rfl | omega) zz73 (show Row true _ A0 k0 x.houses (fun b => S0 b∧b<w.heap.size) from by have zh:=t0_0; exact zz26) l0).mono ?_
 rw [HK0.out]
 rintro e1 w1 ⟨rfl,t1_0,hb1⟩
 have hV1:∀ b,(fun b => S0 b∧b<w.heap.size) b→b<w.heap.size:=(fun b (h:(fun b => S0 b∧b<w.heap.size) b) => (show b<w.heap.size from by exact h.2))
 have hz1:w.heap.size+1≤w1.heap.size:=zz35
 have hC1:Chg (un S0 (un S1 (un S2 (un S3 (un S4 S5))))) w w1:=Chg.trans (b:=_) (by have zh:=hC0; exact zz59) (hb1.mono (fun b _ h => (ya8 _ _) b h.1))
 have t1_1:=Row.chg (show Row true _ A1 k1 x.auditors (fun b => S1 b∧b<w.heap.size) from by have zh:=t0_1; exact zz26) hb1 (ya5 d0_1)
 have t1_2:=Row.chg (show Row true _ A2 k2 x.notes (fun b => S2 b∧b<w.heap.size) from by have zh:=t0_2; exact zz26) hb1 (ya5 d0_2)
 have t1_3:=Row.chg (show Row true _ A3 k3 x.given (fun b => S3 b∧b<w.heap.size) from by have zh:=t0_3; exact zz26) hb1 (ya5 d0_3)
 have t1_4:=Row.chg (show Row true _ A4 k4 x.evil (fun b => S4 b∧b<w.heap.size) from by have zh:=t0_4; exact zz26) hb1 (ya5 d0_4)
 have t1_5:=Row.chg (show Row true _ A5 k5 x.codes (fun b => S5 b∧b<w.heap.size) from by have zh:=t0_5; exact zz26) hb1 (ya5 d0_5)
 have hc1:=fun o => hb1.cellC (p:=⟨w.heap.size,o,none⟩) zz0 (fun h => absurd (hV1 _ h) (Nat.lt_irrefl _))
 go_wp2_with (fail)
 refine (mark_AuditorS x.auditors _ _ _ (fun b => S1 b∧b<w.heap.size) _ K0 (by first | rfl | omega) zz73 (show Row true _ A1 k1 x.auditors (fun b => S1 b∧b<w.heap.size) from by have zh:=t1_1; exact zz26) l1).mono ?_
 rw [HK1.out]
 rintro e2 w2 ⟨rfl,t2_1,hb2⟩
 have hV2:∀ b,(fun b => S1 b∧b<w.heap.size) b→b<w.heap.size:=(fun b (h:(fun b => S1 b∧b<w.heap.size) b) => (show b<w.heap.size from by exact h.2))
 have hz2:w.heap.size+1≤w2.heap.size:=zz55
 have hC2:Chg (un S0 (un S1 (un S2 (un S3 (un S4 S5))))) w w2:=Chg.trans (b:=_) (by have zh:=hC1; exact zz59) (hb2.mono (fun b _ h => (ya0 (ya8 _ _) (ya2 _ _)) b h.1))
 have t2_0:=Row.chg (show Row true _ A0 k0 (meL x.houses k) (fun b => S0 b∧b<w.heap.size) from by have zh:=t1_0; exact zz26) hb2 d0_1
 have t2_2:=Row.chg (show Row true _ A2 k2 x.notes (fun b => S2 b∧b<w.heap.size) from by have zh:=t1_2; exact zz26) hb2 (ya5 d1_2)
 have t2_3:=Row.chg (show Row true _ A3 k3 x.given (fun b => S3 b∧b<w.heap.size) from by have zh:=t1_3; exact zz26) hb2 (ya5 d1_3)
 have t2_4:=Row.chg (show Row true _ A4 k4 x.evil (fun b => S4 b∧b<w.heap.size) from by have zh:=t1_4; exact zz26) hb2 (ya5 d1_4)
 have t2_5:=Row.chg (show Row true _ A5 k5 x.codes (fun b => S5 b∧b<w.heap.size) from by have zh:=t1_5; exact zz26) hb2 (ya5 d1_5)
 have hc2:=fun o => hb2.cellC (p:=⟨w.heap.size,o,none⟩) zz0 (fun h => absurd (hV2 _ h) (Nat.lt_irrefl _))
 go_wp2_with (fail)
 refine (mark_NoteS x.notes _ _ _ (fun b => S2 b∧b<w.heap.size) _ K1 (by first | rfl | omega) zz73 (show Row true _ A2 k2 x.notes (fun b => S2 b∧b<w.heap.size) from by have zh:=t2_2; exact zz26) l2).mono ?_
 rw [HK2.out]
 rintro e3 w3 ⟨rfl,t3_2,hb3⟩
 have hV3:∀ b,(fun b => S2 b∧b<w.heap.size) b→b<w.heap.size:=(fun b (h:(fun b => S2 b∧b<w.heap.size) b) => (show b<w.heap.size from by exact h.2))
 have hz3:w.heap.size+1≤w3.heap.size:=zz67
 have hC3:Chg (un S0 (un S1 (un S2 (un S3 (un S4 S5))))) w w3:=Chg.trans (b:=_) (by have zh:=hC2; exact zz59) (hb3.mono (fun b _ h => (ya0 (ya0 (ya8 _ _) (ya2 _ _)) (ya2 _ _)) b h.1))
 have t3_0:=Row.chg (show Row true _ A0 k0 (meL x.houses k) (fun b => S0 b∧b<w.heap.size) from by have zh:=t2_0; exact zz26) hb3 d0_2
 have t3_1:=Row.chg (show Row true _ A1 k1 (meL x.auditors K0) (fun b => S1 b∧b<w.heap.size) from by have zh:=t2_1; exact zz26) hb3 d1_2
 have t3_3:=Row.chg (show Row true _ A3 k3 x.given (fun b => S3 b∧b<w.heap.size) from by have zh:=t2_3; exact zz26) hb3 (ya5 d2_3)
 have t3_4:=Row.chg (show Row true _ A4 k4 x.evil (fun b => S4 b∧b<w.heap.size) from by have zh:=t2_4; exact zz26) hb3 (ya5 d2_4)
 have t3_5:=Row.chg (show Row true _ A5 k5 x.codes (fun b => S5 b∧b<w.heap.size) from by have zh:=t2_5; exact zz26) hb3 (ya5 d2_5)
 have hc3:=fun o => hb3.cellC (p:=⟨w.heap.size,o,none⟩) zz0 (fun h => absurd (hV3 _ h) (Nat.lt_irrefl _))
 go_wp2_with (fail)
 refine (mark_GivenS x.given _ _ _ (fun b => S3 b∧b<w.heap.size) _ K2 (by first | rfl | omega) zz73 (show Row true _ A3 k3 x.given (fun b => S3 b∧b<w.heap.size) from by have zh:=t3_3; exact zz26) l3).mono ?_
 rw [HK3.out]
 rintro e4 w4 ⟨rfl,t4_3,hb4⟩
 have hV4:∀ b,(fun b => S3 b∧b<w.heap.size) b→b<w.heap.size:=(fun b (h:(fun b => S3 b∧b<w.heap.size) b) => (show b<w.heap.size from by exact h.2))
 have hz4:w.heap.size+1≤w4.heap.size:=zz70
 have hC4:Chg (un S0 (un S1 (un S2 (un S3 (un S4 S5))))) w w4:=Chg.trans (b:=_) (by have zh:=hC3; exact zz59) (hb4.mono (fun b _ h => (ya0 (ya0 (ya0 (ya8 _ _) (ya2 _ _)) (ya2 _ _)) (ya2 _ _)) b h.1))
 have t4_0:=Row.chg (show Row true _ A0 k0 (meL x.houses k) (fun b => S0 b∧b<w.heap.size) from by have zh:=t3_0; exact zz26) hb4 d0_3
 have t4_1:=Row.chg (show Row true _ A1 k1 (meL x.auditors K0) (fun b => S1 b∧b<w.heap.size) from by have zh:=t3_1; exact zz26) hb4 d1_3
 have t4_2:=Row.chg (show Row true _ A2 k2 (meL x.notes K1) (fun b => S2 b∧b<w.heap.size) from by have zh:=t3_2; exact zz26) hb4 d2_3
 have t4_4:=Row.chg (show Row true _ A4 k4 x.evil (fun b => S4 b∧b<w.heap.size) from by have zh:=t3_4; exact zz26) hb4 (ya5 d3_4)
 have t4_5:=Row.chg (show Row true _ A5 k5 x.codes (fun b => S5 b∧b<w.heap.size) from by have zh:=t3_5; exact zz26) hb4 (ya5 d3_5)
 have hc4:=fun o => hb4.cellC (p:=⟨w.heap.size,o,none⟩) zz0 (fun h => absurd (hV4 _ h) (Nat.lt_irrefl _))
 go_wp2_with (fail)
 refine (mark_BoolS x.evil _ _ _ (fun b => S4 b∧b<w.heap.size) _ K3 (by first | rfl | omega) zz73 (show Row true _ A4 k4 x.evil (fun b => S4 b∧b<w.heap.size) from by have zh:=t4_4; exact zz26) l4).mono ?_
 rw [HK4.out]
 rintro e5 w5 ⟨rfl,t5_4,hb5⟩
 have hV5:∀ b,(fun b => S4 b∧b<w.heap.size) b→b<w.heap.size:=(fun b (h:(fun b => S4 b∧b<w.heap.size) b) => (show b<w.heap.size from by exact h.2))
 have hz5:w.heap.size+1≤w5.heap.size:=zz85
 have hC5:Chg (un S0 (un S1 (un S2 (un S3 (un S4 S5))))) w w5:=Chg.trans (b:=_) (by have zh:=hC4; exact zz59) (hb5.mono (fun b _ h => (ya0 (ya0 (ya0 (ya0 (ya8 _ _) (ya2 _ _)) (ya2 _ _)) (ya2 _ _)) (ya2 _ _)) b h.1))
 have t5_0:=Row.chg (show Row true _ A0 k0 (meL x.houses k) (fun b => S0 b∧b<w.heap.size) from by have zh:=t4_0; exact zz26) hb5 d0_4
 have t5_1:=Row.chg (show Row true _ A1 k1 (meL x.auditors K0) (fun b => S1 b∧b<w.heap.size) from by have zh:=t4_1; exact zz26) hb5 d1_4
 have t5_2:=Row.chg (show Row true _ A2 k2 (meL x.notes K1) (fun b => S2 b∧b<w.heap.size) from by have zh:=t4_2; exact zz26) hb5 d2_4
 have t5_3:=Row.chg (show Row true _ A3 k3 (meL x.given K2) (fun b => S3 b∧b<w.heap.size) from by have zh:=t4_3; exact zz26) hb5 d3_4
 have t5_5:=Row.chg (show Row true _ A5 k5 x.codes (fun b => S5 b∧b<w.heap.size) from by have zh:=t4_5; exact zz26) hb5 (ya5 d4_5)
 have hc5:=fun o => hb5.cellC (p:=⟨w.heap.size,o,none⟩) zz0 (fun h => absurd (hV5 _ h) (Nat.lt_irrefl _))
 go_wp2_with (fail)
 refine (mark_IntS x.codes _ _ _ (fun b => S5 b∧b<w.heap.size) _ K4 (by first | rfl | omega) zz73 (show Row true _ A5 k5 x.codes (fun b => S5 b∧b<w.heap.size) from by have zh:=t5_5; exact zz26) l5).mono ?_
 rw [HK5.out]
 rintro e6 w6 ⟨rfl,t6_5,hb6⟩
 have hV6:∀ b,(fun b => S5 b∧b<w.heap.size) b→b<w.heap.size:=(fun b (h:(fun b => S5 b∧b<w.heap.size) b) => (show b<w.heap.size from by exact h.2))
 have hz6:w.heap.size+1≤w6.heap.size:=by have:=hb6.size; (try simp at this); omega
 have hC6:Chg (un S0 (un S1 (un S2 (un S3 (un S4 S5))))) w w6:=Chg.trans (b:=_) (by have zh:=hC5; exact zz59) (hb6.mono (fun b _ h => (ya0 (ya0 (ya0 (ya0 (ya0 (ya3 _) (ya2 _ _)) (ya2 _ _)) (ya2 _ _)) (ya2 _ _)) (ya2 _ _)) b h.1))
 have t6_0:=Row.chg (show Row true _ A0 k0 (meL x.houses k) (fun b => S0 b∧b<w.heap.size) from by have zh:=t5_0; exact zz26) hb6 d0_5
 have t6_1:=Row.chg (show Row true _ A1 k1 (meL x.auditors K0) (fun b => S1 b∧b<w.heap.size) from by have zh:=t5_1; exact zz26) hb6 d1_5
 have t6_2:=Row.chg (show Row true _ A2 k2 (meL x.notes K1) (fun b => S2 b∧b<w.heap.size) from by have zh:=t5_2; exact zz26) hb6 d2_5
 have t6_3:=Row.chg (show Row true _ A3 k3 (meL x.given K2) (fun b => S3 b∧b<w.heap.size) from by have zh:=t5_3; exact zz26) hb6 d3_5
 have t6_4:=Row.chg (show Row true _ A4 k4 (meL x.evil K3) (fun b => S4 b∧b<w.heap.size) from by have zh:=t5_4; exact zz26) hb6 d4_5
 have hc6:=fun o => hb6.cellC (p:=⟨w.heap.size,o,none⟩) zz0 (fun h => absurd (hV6 _ h) (Nat.lt_irrefl _))
 go_wp2
 go_ret
 exact ⟨rfl,⟨Row.mono (show Row true _ A0 k0 (meL x.houses k) (fun b => S0 b∧b<w.heap.size) from by have zh:=t6_0; exact zz26) (fun _ x => x.1),Row.mono (show Row true _ A1 k1 (meL x.auditors K0) (fun b => S1 b∧b<w.heap.size) from by have zh:=t6_1; exact zz26) (fun _ x => x.1),Row.mono (show Row true _ A2 k2 (meL x.notes K1) (fun b => S2 b∧b<w.heap.size) from by have zh:=t6_2; exact zz26) (fun _ x => x.1),Row.mono (show Row true _ A3 k3 (meL x.given K2) (fun b => S3 b∧b<w.heap.size) from by have zh:=t6_3; exact zz26) (fun _ x => x.1),Row.mono (show Row true _ A4 k4 (meL x.evil K3) (fun b => S4 b∧b<w.heap.size) from by have zh:=t6_4; exact zz26) (fun _ x => x.1),Row.mono (show Row true _ A5 k5 (meL x.codes K4) (fun b => S5 b∧b<w.heap.size) from by have zh:=t6_5; exact zz26) (fun _ x => x.1)⟩,by have zh:=hC6; exact zz59⟩
theorem mark_Wrld (x:Wrld) (w:World) (cs:List Value) (S:Blks) (a:Int) (k:Nat) (ha:a=(k:Int)) (hk:k+x.ct≤4611686018427387904) (hx:rd true w cs x S) :
  Calls Tryz.prog 51 #[.agg cs.toArray,.int .i64 a] w fun e w' => e = .returned (.int .i64 ((k+x.ct:Nat):Int))∧rd true w' cs (x.mt k) S∧Chg S w w':=by
 obtain ⟨A0,k0,S0,A1,k1,S1,A2,k2,S2,A3,k3,S3,A4,k4,S4,A5,k5,S5,rfl,a0,b0,r0,s0,a1,b1,r1,s1,a2,b2,r2,s2,a3,b3,r3,s3,a4,b4,r4,s4,a5,b5,r5,s5,pw⟩:=Wrld.open hx
 refine (markr_Wrld x w A0 k0 S0 A1 k1 S1 A2 k2 S2 A3 k3 S3 A4 k4 S4 A5 k5 S5 a k ha hk r0 (Nat.le_trans a0 b0) r1 (Nat.le_trans a1 b1) r2 (Nat.le_trans a2 b2) r3 (Nat.le_trans a3 b3) r4 (Nat.le_trans a4 b4) r5 (Nat.le_trans a5 b5) (pw rfl)).mono ?_
 rintro e w1 ⟨rfl,⟨t0,t1,t2,t3,t4,t5⟩,hb⟩
 have hm:rd true w1 (Wrld.cs (⟨meL x.houses (k),meL x.auditors (k+cnL x.houses),meL x.notes (k+cnL x.houses+cnL x.auditors),meL x.given (k+cnL x.houses+cnL x.auditors+cnL x.notes),meL x.evil (k+cnL x.houses+cnL x.auditors+cnL x.notes+cnL x.given),meL x.codes (k+cnL x.houses+cnL x.auditors+cnL x.notes+cnL x.given+cnL x.evil)⟩:Wrld) A0 k0 A1 k1 A2 k2 A3 k3 A4 k4 A5 k5) (⟨meL x.houses (k),meL x.auditors (k+cnL x.houses),meL x.notes (k+cnL x.houses+cnL x.auditors),meL x.given (k+cnL x.houses+cnL x.auditors+cnL x.notes),meL x.evil (k+cnL x.houses+cnL x.auditors+cnL x.notes+cnL x.given),meL x.codes (k+cnL x.houses+cnL x.auditors+cnL x.notes+cnL x.given+cnL x.evil)⟩:Wrld) S:=Wrld.mk' (x:=(⟨meL x.houses (k),meL x.auditors (k+cnL x.houses),meL x.notes (k+cnL x.houses+cnL x.auditors),meL x.given (k+cnL x.houses+cnL x.auditors+cnL x.notes),meL x.evil (k+cnL x.houses+cnL x.auditors+cnL x.notes+cnL x.given),meL x.codes (k+cnL x.houses+cnL x.auditors+cnL x.notes+cnL x.given+cnL x.evil)⟩:Wrld)) (by rw [meL_length]; exact a0) b0 t0 s0 (by rw [meL_length]; exact a1) b1 t1 s1 (by rw [meL_length]; exact a2) b2 t2 s2 (by rw [meL_length]; exact a3) b3 t3 s3 (by rw [meL_length]; exact a4) b4 t4 s4 (by rw [meL_length]; exact a5) b5 t5 s5 pw
 refine ⟨rfl,?_,hb.mono (fun b _ h => (show S b from by unfold un at h; (try simp only at h); rcases h with h | (h | (h | (h | (h | h)))) <;> first | exact s0 b h | exact s1 b h | exact s2 b h | exact s3 b h | exact s4 b h | exact s5 b h))⟩
 simpa only [Wrld.cs,meL_length,Wrld.mt] using hm
end Go.Proofs.YtcbbjfafmmcfiaaGreatDoor
