/- A part of the proof. -/
import Derived.Test.YtcbbjfafmmcfiaaGreatDoorHAqTop1
set_option linter.unusedVariables false
set_option linter.unusedSimpArgs false
set_option maxRecDepth 40000
set_option maxHeartbeats 4000000
namespace Go.Proofs.YtcbbjfafmmcfiaaGreatDoor
open Go.RowKit Lay Mk
theorem to_Pair (x:Pair) (w:World) (cs:List Value) (S:Blks) (hx:rd false w cs x S) (hsz:x.sz≤1048576) :
  Calls Tryz.prog 299 #[.agg cs.toArray] w fun e w' => ∃ cs',e = .returned (.agg cs'.toArray)∧rd true w' cs' x (rng w.heap.size w'.heap.size)∧Below w.heap.size w w':=by
 obtain ⟨A0,k0,S0,A1,k1,S1,A2,k2,S2,A3,k3,S3,A4,k4,S4,A5,k5,S5,rfl,f0,f1,f2,f3,f4,f8,f9,f10,f11,f12,a0,b0,r0,s0,a1,b1,r1,s1,a2,b2,r2,s2,a3,b3,r3,s3,a4,b4,r4,s4,a5,b5,r5,s5,pw⟩:=Pair.open hx
 clear hx
 unfold Pair.sz at hsz
 simp only [Pair.cs]
 go_enter Tryz.func299,Tryz.ntmps299
 go_wp2_with (fail)
 refine (to_Seal x.a _ _ S (Seal.mk' (m:=false) f0 f1 f2 f3 f4 a0 b0 (r0.later zz5) s0 a1 b1 (r1.later zz5) s1 a2 b2 (r2.later zz5) s2 zz30) zz13).mono ?_
 rintro e1 w1 ⟨cs1,rfl,hr1,hb1⟩
 obtain ⟨nA0,nk0,nS0,nA1,nk1,nS1,nA2,nk2,nS2,rfl,_,_,_,_,_,na0,nb0,nr0,ns0,na1,nb1,nr1,ns1,na2,nb2,nr2,ns2,pw1⟩:=Seal.open hr1
 replace pw1:=zd (pw1 rfl)
 simp only [Seal.cs]
 have hB1:Below w.heap.size w w1:=by refine Below.trans (b:=_) ?_ (hb1.mono ?_) <;> exact zz5
 have hz1:w.heap.size+3≤w1.heap.size:=zz23
 have hc1:=fun o => hb1.cell (p:=⟨w.heap.size,o,none⟩) zz0
 have hd1:=fun o => hb1.cell (p:=⟨w.heap.size+1,o,none⟩) zz0
 have he1:=fun o => hb1.cell (p:=⟨w.heap.size+2,o,none⟩) zz0
 have hfd1:=fun o => hb1.frozen (p:=⟨w.heap.size+1,o,none⟩) zz0
 have hfe1:=fun o => hb1.frozen (p:=⟨w.heap.size+2,o,none⟩) zz0
 have hw1:=hb1.size
 (try simp at hw1)
 replace nr0:=(nr0.mono (S':=fun b => nS0 b∧rng (w.heap.size+3) w1.heap.size b) (fun b h => ⟨h,zz69⟩))
 replace nr1:=(nr1.mono (S':=fun b => nS1 b∧rng (w.heap.size+3) w1.heap.size b) (fun b h => ⟨h,by have:=ns1 b h; unfold rng at this ⊢; (try simp at this); omega⟩))
 replace nr2:=(nr2.mono (S':=fun b => nS2 b∧rng (w.heap.size+3) w1.heap.size b) (fun b h => ⟨h,by have:=ns2 b h; unfold rng at this ⊢; (try simp at this); omega⟩))
 go_wp2_with (fail)
 refine (to_Seal x.b _ _ S (Seal.mk' (m:=false) f8 f9 f10 f11 f12 a3 b3 (r3.later (by have zh:=hB1; exact zz2)) s3 a4 b4 (r4.later (by have zh:=hB1; exact zz2)) s4 a5 b5 (r5.later (by have zh:=hB1; exact zz2)) s5 zz30) zz13).mono ?_
 rintro e2 w2 ⟨cs2,rfl,hr2,hb2⟩
 obtain ⟨nA3,nk3,nS3,nA4,nk4,nS4,nA5,nk5,nS5,rfl,_,_,_,_,_,na3,nb3,nr3,ns3,na4,nb4,nr4,ns4,na5,nb5,nr5,ns5,pw2⟩:=Seal.open hr2
 replace pw2:=zd (pw2 rfl)
 simp only [Seal.cs]
 have hB2:Below w.heap.size w w2:=by have zh:=hB1; refine Below.trans (b:=_) ?_ (hb2.mono ?_) <;> exact zz2
 have hz2:w.heap.size+3≤w2.heap.size:=zz45
 have hc2:=fun o => hb2.cell (p:=⟨w.heap.size,o,none⟩) zz0
 have hd2:=fun o => hb2.cell (p:=⟨w.heap.size+1,o,none⟩) zz0
 have he2:=fun o => hb2.cell (p:=⟨w.heap.size+2,o,none⟩) zz0
 have hfd2:=fun o => hb2.frozen (p:=⟨w.heap.size+1,o,none⟩) zz0
 have hfe2:=fun o => hb2.frozen (p:=⟨w.heap.size+2,o,none⟩) zz0
 have hw2:=hb2.size
 (try simp at hw2)
 have nr0_2:=Row.later (show Row true _ nA0 nk0 x.a.sig.open_ (fun b => nS0 b∧rng (w.heap.size+3) w1.heap.size b) from by have zh:=nr0; exact zz3) hb2
 have nr1_2:=Row.later (show Row true _ nA1 nk1 x.a.sig.shut (fun b => nS1 b∧rng (w.heap.size+3) w1.heap.size b) from by have zh:=nr1; exact zz3) hb2
 have nr2_2:=Row.later (show Row true _ nA2 nk2 x.a.sig.sides (fun b => nS2 b∧rng (w.heap.size+3) w1.heap.size b) from by have zh:=nr2; exact zz3) hb2
 replace nr3:=(nr3.mono (S':=fun b => nS3 b∧rng (w1.heap.size) w2.heap.size b) (fun b h => ⟨h,by have:=ns3 b h; unfold rng at this ⊢; (try simp at this); omega⟩))
 replace nr4:=(nr4.mono (S':=fun b => nS4 b∧rng (w1.heap.size) w2.heap.size b) (fun b h => ⟨h,by have:=ns4 b h; unfold rng at this ⊢; (try simp at this); omega⟩))
 replace nr5:=(nr5.mono (S':=fun b => nS5 b∧rng (w1.heap.size) w2.heap.size b) (fun b h => ⟨h,by have:=ns5 b h; unfold rng at this ⊢; (try simp at this); omega⟩))
 go_wp2
 refine bodyPost_ret (v:=.agg #[.int .i64 x.a.head.house,.int .i64 x.a.head.epoch,.string x.a.head.root,.string x.a.head.prev,.int .i64 x.a.sig.at_,.slice nA0 x.a.sig.open_.length nk0,.slice nA1 x.a.sig.shut.length nk1,.slice nA2 x.a.sig.sides.length nk2,.int .i64 x.b.head.house,.int .i64 x.b.head.epoch,.string x.b.head.root,.string x.b.head.prev,.int .i64 x.b.sig.at_,.slice nA3 x.b.sig.open_.length nk3,.slice nA4 x.b.sig.shut.length nk4,.slice nA5 x.b.sig.sides.length nk5]) (by simp [results,Tryz.results299,go_sem,hd2,he2,hd1,he1]) rfl ⟨[.int .i64 x.a.head.house,.int .i64 x.a.head.epoch,.string x.a.head.root,.string x.a.head.prev,.int .i64 x.a.sig.at_,.slice nA0 x.a.sig.open_.length nk0,.slice nA1 x.a.sig.shut.length nk1,.slice nA2 x.a.sig.sides.length nk2,.int .i64 x.b.head.house,.int .i64 x.b.head.epoch,.string x.b.head.root,.string x.b.head.prev,.int .i64 x.b.sig.at_,.slice nA3 x.b.sig.open_.length nk3,.slice nA4 x.b.sig.shut.length nk4,.slice nA5 x.b.sig.sides.length nk5],rfl,?_,by have zh:=hB2; exact zz2⟩
 exact Pair.mk' (m:=true) (x:=x) f0 f1 f2 f3 f4 na0 nb0 (show Row true _ nA0 nk0 x.a.sig.open_ (fun b => nS0 b∧rng (w.heap.size+3) w1.heap.size b) from by have zh:=nr0_2; exact zz3) (fun b h => zz40) na1 nb1 (show Row true _ nA1 nk1 x.a.sig.shut (fun b => nS1 b∧rng (w.heap.size+3) w1.heap.size b) from by have zh:=nr1_2; exact zz3) (fun b h => zz40) na2 nb2 (show Row true _ nA2 nk2 x.a.sig.sides (fun b => nS2 b∧rng (w.heap.size+3) w1.heap.size b) from by have zh:=nr2_2; exact zz3) (fun b h => zz40) f8 f9 f10 f11 f12 na3 nb3 (show Row true _ nA3 nk3 x.b.sig.open_ (fun b => nS3 b∧rng (w1.heap.size) w2.heap.size b) from by have zh:=nr3; exact zz3) (fun b h => zz40) na4 nb4 (show Row true _ nA4 nk4 x.b.sig.shut (fun b => nS4 b∧rng (w1.heap.size) w2.heap.size b) from by have zh:=nr4; exact zz3) (fun b h => zz40) na5 nb5 (show Row true _ nA5 nk5 x.b.sig.sides (fun b => nS5 b∧rng (w1.heap.size) w2.heap.size b) from by have zh:=nr5; exact zz3) (fun b h => zz40) (fun _ => pwmk6 (ya6 (pwget3_0_1 pw1.out) (fun b (x:_∧_) => x.1) (fun b (x:_∧_) => x.1)) (ya6 (pwget3_0_2 pw1.out) (fun b (x:_∧_) => x.1) (fun b (x:_∧_) => x.1)) (fun b h1 h2 => zz60) (fun b h1 h2 => zz60) (fun b h1 h2 => zz60) (ya6 (pwget3_1_2 pw1.out) (fun b (x:_∧_) => x.1) (fun b (x:_∧_) => x.1)) (fun b h1 h2 => zz60) (fun b h1 h2 => zz60) (fun b h1 h2 => zz60) (fun b h1 h2 => zz60) (fun b h1 h2 => zz60) (fun b h1 h2 => zz60) (ya6 (pwget3_0_1 pw2.out) (fun b (x:_∧_) => x.1) (fun b (x:_∧_) => x.1)) (ya6 (pwget3_0_2 pw2.out) (fun b (x:_∧_) => x.1) (fun b (x:_∧_) => x.1)) (ya6 (pwget3_1_2 pw2.out) (fun b (x:_∧_) => x.1) (fun b (x:_∧_) => x.1)))
theorem info_PairS:(Tryz.prog.info? 349).map (fun i => (i.zero,i.size,i.bytes))=some (some (.agg #[.int .i64 0,.int .i64 0,.string ⟨#[]⟩,.string ⟨#[]⟩,.int .i64 0,.slice none 0 0,.slice none 0 0,.slice none 0 0,.int .i64 0,.int .i64 0,.string ⟨#[]⟩,.string ⟨#[]⟩,.int .i64 0,.slice none 0 0,.slice none 0 0,.slice none 0 0]),16,256):=by kernel_rfl
theorem to_PairS (xs:List Pair) (w:World) (A:Option Addr) (cap:Nat) (S:Blks) (hx:Row false w A cap xs S) (hsz:szL xs≤1048576) :
  Calls Tryz.prog 273 #[.slice A xs.length cap] w fun e w' => ∃ A' cap',e = .returned (.slice A' xs.length cap')∧xs.length≤cap'∧cap'≤maxLen∧Row true w' A' cap' xs (rng w.heap.size w'.heap.size)∧Below w.heap.size w w':=by
 have hl:xs.length≤1048576:=zz83
 obtain ⟨i0,hi0,hz0,hz1,hz2⟩:=info_parts info_PairS
 have hmk:=fun W => run_make_rowN (P:=Tryz.prog) 300 349 i0 _ Tryz.underlying300 hi0 hz0 .i64 .i64 xs.length xs.length (Nat.le_refl _) (by rw [hz2]; omega) zz13 W
 rw [hz1] at hmk
 clear hi0 hz0 hz1 hz2
 have hm0:=Row.made (α:=Pair) (N:=16) w xs.length (#[.int .i64 0,.int .i64 0,.string ByteArray.empty,.string ByteArray.empty,.int .i64 0,.slice none 0 0,.slice none 0 0,.slice none 0 0,.int .i64 0,.int .i64 0,.string ByteArray.empty,.string ByteArray.empty,.int .i64 0,.slice none 0 0,.slice none 0 0,.slice none 0 0]:Array Value) rfl rfl
 go_enter Tryz.func273,Tryz.ntmps273
 go_wp2
 go_loopw [4] (fun i wr => ∃ k:Nat,k≤xs.length∧i = .int .i64 k∧Below w.heap.size w wr∧w.heap.size+1≤wr.heap.size∧Row true wr (some ⟨w.heap.size,0,none⟩) xs.length (xs.take k ++ List.replicate (xs.length - k) (Mk.z:Pair)) (rng w.heap.size wr.heap.size)) (fun i _ => xs.length - (intOf i).toNat)
 case atStart => exact ⟨0,Nat.zero_le _,rfl,zz5,zz30,zz36⟩
 case round =>
  obtain ⟨k,hkk,rfl,hb,hz,hrow⟩:=hrel
  clear hm0
  by_cases hlt:k<xs.length
  ·have hne:xs≠[]:=by rintro rfl; simp at hlt
   obtain ⟨b1,o1,rfl,hS1,T1,hT1,_,he1⟩:=hx hne
   obtain ⟨c1,ha1,hr1⟩:=he1 k hlt
   have hl1:=ha1.lt zz28
   replace ha1:=ha1.keep (hb.block _ hl1)
   replace hr1:=Lay.later hr1 hb
   have hszk:=sz_le_L xs k hlt
   have hst:=zd (take_step xs (Mk.z:Pair) k hlt)
   generalize xs[k]=x at hr1 hszk hst
   rcases hrow with ⟨h_,_⟩ | ⟨g2,cur,e_,_,hh,hcz,T,hT,hd,he⟩
   ·cases h_
   cases e_
   have hsh:Shp wr w.heap.size (ty Pair) (xs.length*16):=⟨cur,hh,hcz⟩
   have HE:=zd he; have HD:=zd (hd rfl); have HT:=zd hT
   have ho:=old_cells (N:=16) he k zz46 rfl
   clear he hd hT hh hcz he1 hx
   obtain ⟨v0,ov0⟩:∃ v,wr.cell? ⟨w.heap.size,k*16,none⟩=some v:=by have:=ho 0 zz13; simpa using this
   obtain ⟨v1,ov1⟩:∃ v,wr.cell? ⟨w.heap.size,k*16+1,none⟩=some v:=by have:=ho 1 zz13; simpa using this
   obtain ⟨v2,ov2⟩:∃ v,wr.cell? ⟨w.heap.size,k*16+2,none⟩=some v:=by have:=ho 2 zz13; simpa using this
   obtain ⟨v3,ov3⟩:∃ v,wr.cell? ⟨w.heap.size,k*16+3,none⟩=some v:=by have:=ho 3 zz13; simpa using this
   obtain ⟨v4,ov4⟩:∃ v,wr.cell? ⟨w.heap.size,k*16+4,none⟩=some v:=by have:=ho 4 zz13; simpa using this
   obtain ⟨v5,ov5⟩:∃ v,wr.cell? ⟨w.heap.size,k*16+5,none⟩=some v:=by have:=ho 5 zz13; simpa using this
   obtain ⟨v6,ov6⟩:∃ v,wr.cell? ⟨w.heap.size,k*16+6,none⟩=some v:=by have:=ho 6 zz13; simpa using this
   obtain ⟨v7,ov7⟩:∃ v,wr.cell? ⟨w.heap.size,k*16+7,none⟩=some v:=by have:=ho 7 zz13; simpa using this
   obtain ⟨v8,ov8⟩:∃ v,wr.cell? ⟨w.heap.size,k*16+8,none⟩=some v:=by have:=ho 8 zz13; simpa using this
   obtain ⟨v9,ov9⟩:∃ v,wr.cell? ⟨w.heap.size,k*16+9,none⟩=some v:=by have:=ho 9 zz13; simpa using this
   obtain ⟨v10,ov10⟩:∃ v,wr.cell? ⟨w.heap.size,k*16+10,none⟩=some v:=by have:=ho 10 zz13; simpa using this
   obtain ⟨v11,ov11⟩:∃ v,wr.cell? ⟨w.heap.size,k*16+11,none⟩=some v:=by have:=ho 11 zz13; simpa using this
   obtain ⟨v12,ov12⟩:∃ v,wr.cell? ⟨w.heap.size,k*16+12,none⟩=some v:=by have:=ho 12 zz13; simpa using this
   obtain ⟨v13,ov13⟩:∃ v,wr.cell? ⟨w.heap.size,k*16+13,none⟩=some v:=by have:=ho 13 zz13; simpa using this
   obtain ⟨v14,ov14⟩:∃ v,wr.cell? ⟨w.heap.size,k*16+14,none⟩=some v:=by have:=ho 14 zz13; simpa using this
   obtain ⟨v15,ov15⟩:∃ v,wr.cell? ⟨w.heap.size,k*16+15,none⟩=some v:=by have:=ho 15 zz13; simpa using this
   have hf0:=fun o => hsh.frozen o
   clear ho
   have ht:=zd hr1
   obtain ⟨eA0,ek0,eS0,eA1,ek1,eS1,eA2,ek2,eS2,eA3,ek3,eS3,eA4,ek4,eS4,eA5,ek5,eS5,rfl,ef0,ef1,ef2,ef3,ef4,ef8,ef9,ef10,ef11,ef12,ea0,eb0,er0,es0,ea1,eb1,er1,es1,ea2,eb2,er2,es2,ea3,eb3,er3,es3,ea4,eb4,er4,es4,ea5,eb5,er5,es5,epw⟩:=Pair.open hr1
   have q0:=ha1 0 _ rfl
   have q1:=ha1 1 _ rfl
   have q2:=ha1 2 _ rfl
   have q3:=ha1 3 _ rfl
   have q4:=ha1 4 _ rfl
   have q5:=ha1 5 _ rfl
   have q6:=ha1 6 _ rfl
   have q7:=ha1 7 _ rfl
   have q8:=ha1 8 _ rfl
   have q9:=ha1 9 _ rfl
   have q10:=ha1 10 _ rfl
   have q11:=ha1 11 _ rfl
   have q12:=ha1 12 _ rfl
   have q13:=ha1 13 _ rfl
   have q14:=ha1 14 _ rfl
   have q15:=ha1 15 _ rfl
   simp only [show Lay.n Pair=16 from rfl,Nat.add_zero] at q0 q1 q2 q3 q4 q5 q6 q7 q8 q9 q10 q11 q12 q13 q14 q15
   clear ha1
   have hszx:x.sz≤1048576:=zz84
   go_wp2_with (fail)
   refine (to_Pair x _ (Pair.cs x eA0 ek0 eA1 ek1 eA2 ek2 eA3 ek3 eA4 ek4 eA5 ek5) _ (Lay.later ht.out zz5) hszx).mono ?_
   rintro e1 w1 ⟨cs1,rfl,hn1,hb1⟩
   have hn2:=zd hn1
   obtain ⟨nA0,nk0,nS0,nA1,nk1,nS1,nA2,nk2,nS2,nA3,nk3,nS3,nA4,nk4,nS4,nA5,nk5,nS5,rfl,nf0,nf1,nf2,nf3,nf4,nf8,nf9,nf10,nf11,nf12,na0,nb0,nr0,ns0,na1,nb1,nr1,ns1,na2,nb2,nr2,ns2,na3,nb3,nr3,ns3,na4,nb4,nr4,ns4,na5,nb5,nr5,ns5,_⟩:=Pair.open hn1
   simp only [Pair.cs]
   have hB1:Below w.heap.size w w1:=by have zh:=hb; refine Below.trans (b:=_) ?_ (hb1.mono ?_) <;> exact zz2
   have hz1:wr.heap.size≤w1.heap.size:=zz23
   have hc1:=fun o => hb1.cell (p:=⟨w.heap.size,o,none⟩) zz0
   have hg1:=fun o => hb1.frozen (p:=⟨w.heap.size,o,none⟩) zz0
   have hsh1:Shp w1 w.heap.size (ty Pair) (xs.length*16):=hsh.of (hb1.block _ zz0)
   have hn3:rd true w1 [.int .i64 x.a.head.house,.int .i64 x.a.head.epoch,.string x.a.head.root,.string x.a.head.prev,.int .i64 x.a.sig.at_,.slice nA0 x.a.sig.open_.length nk0,.slice nA1 x.a.sig.shut.length nk1,.slice nA2 x.a.sig.sides.length nk2,.int .i64 x.b.head.house,.int .i64 x.b.head.epoch,.string x.b.head.root,.string x.b.head.prev,.int .i64 x.b.sig.at_,.slice nA3 x.b.sig.open_.length nk3,.slice nA4 x.b.sig.shut.length nk4,.slice nA5 x.b.sig.sides.length nk5] x (rng wr.heap.size w1.heap.size):=Lay.mono hn2.out (fun b h => zz26)
   have hq1:Chg (fun b => b=w.heap.size) wr w1:=(show Chg _ wr _ from zz51).below hb1 zz0
   go_wp2
   go_roundw
   case rel =>
    refine ⟨k+1,zz13,by go_num,by have zh:=hB1; exact zz2,by (try simp); omega,?_⟩
    rw [hst.out]
    refine Row.setU (N:=16) (T:=T) (w:=wr) (U:=(rng wr.heap.size w1.heap.size)) (cs:=[.int .i64 x.a.head.house,.int .i64 x.a.head.epoch,.string x.a.head.root,.string x.a.head.prev,.int .i64 x.a.sig.at_,.slice nA0 x.a.sig.open_.length nk0,.slice nA1 x.a.sig.shut.length nk1,.slice nA2 x.a.sig.sides.length nk2,.int .i64 x.b.head.house,.int .i64 x.b.head.epoch,.string x.b.head.root,.string x.b.head.prev,.int .i64 x.b.sig.at_,.slice nA3 x.b.sig.open_.length nk3,.slice nA4 x.b.sig.shut.length nk4,.slice nA5 x.b.sig.sides.length nk5]) rfl zz77 (fun b h => zz70) HT.out HD.out HE.out zz46 (show Shp _ _ (ty Pair) (xs.length*16) from by have zh:=hsh1; exact zz27) (fun o ho => ?_) ?_ ?_ ?_ ?_ ?_
    ·have n0:o≠k*16:=by intro h; apply ho; rw [h]; omega
     have n1:o≠k*16+1:=zz24
     have n2:o≠k*16+2:=zz24
     have n3:o≠k*16+3:=zz24
     have n4:o≠k*16+4:=zz24
     have n5:o≠k*16+5:=zz24
     have n6:o≠k*16+6:=zz24
     have n7:o≠k*16+7:=zz24
     have n8:o≠k*16+8:=zz24
     have n9:o≠k*16+9:=zz24
     have n10:o≠k*16+10:=zz24
     have n11:o≠k*16+11:=zz24
     have n12:o≠k*16+12:=zz24
     have n13:o≠k*16+13:=zz24
     have n14:o≠k*16+14:=zz24
     have n15:o≠k*16+15:=zz24
     simp only [hc1,ya5 _ _ _ o _ n0,ya5 _ _ _ o _ n1,ya5 _ _ _ o _ n2,ya5 _ _ _ o _ n3,ya5 _ _ _ o _ n4,ya5 _ _ _ o _ n5,ya5 _ _ _ o _ n6,ya5 _ _ _ o _ n7,ya5 _ _ _ o _ n8,ya5 _ _ _ o _ n9,ya5 _ _ _ o _ n10,ya5 _ _ _ o _ n11,ya5 _ _ _ o _ n12,ya5 _ _ _ o _ n13,ya5 _ _ _ o _ n14,ya5 _ _ _ o _ n15]
    ·exact (show Chg (fun b => b=w.heap.size) wr _ from by have zh:=hq1; exact zz39)
    ·intro j u hu
     have hj:j<16:=(List.getElem?_eq_some_iff.1 hu).1
     rcases (by omega:j=0∨j=1∨j=2∨j=3∨j=4∨j=5∨j=6∨j=7∨j=8∨j=9∨j=10∨j=11∨j=12∨j=13∨j=14∨j=15) with rfl | rfl | rfl | rfl | rfl | rfl | rfl | rfl | rfl | rfl | rfl | rfl | rfl | rfl | rfl | rfl
     all_goals (have hu:=Option.some.inj hu; subst hu; go_simp; try simp)
    ·exact (show rd true _ [.int .i64 x.a.head.house,.int .i64 x.a.head.epoch,.string x.a.head.root,.string x.a.head.prev,.int .i64 x.a.sig.at_,.slice nA0 x.a.sig.open_.length nk0,.slice nA1 x.a.sig.shut.length nk1,.slice nA2 x.a.sig.sides.length nk2,.int .i64 x.b.head.house,.int .i64 x.b.head.epoch,.string x.b.head.root,.string x.b.head.prev,.int .i64 x.b.sig.at_,.slice nA3 x.b.sig.open_.length nk3,.slice nA4 x.b.sig.shut.length nk4,.slice nA5 x.b.sig.sides.length nk5] x (rng wr.heap.size w1.heap.size) from by have zh:=hn3; exact zz32)
    ·exact fun b h => by unfold rng at h ⊢; (try simp); constructor <;> omega
    ·exact fun b h => by unfold rng at h; exact h.1
   case measure => simp [intOf]; omega
  ·have hke:k=xs.length:=by omega
   go_wp2
   go_ret; subst hke; exact ⟨some ⟨w.heap.size,0,none⟩,xs.length,rfl,Nat.le_refl _,zz56,by simpa using hrow,hb⟩
theorem to_Auditor (x:Auditor) (w:World) (cs:List Value) (S:Blks) (hx:rd false w cs x S) (hsz:x.sz≤1048576) :
  Calls Tryz.prog 216 #[.agg cs.toArray] w fun e w' => ∃ cs',e = .returned (.agg cs'.toArray)∧rd true w' cs' x (rng w.heap.size w'.heap.size)∧Below w.heap.size w w':=by
 obtain ⟨A0,k0,S0,A1,k1,S1,A2,k2,S2,A3,k3,S3,rfl,f0,a0,b0,r0,s0,a1,b1,r1,s1,a2,b2,r2,s2,a3,b3,r3,s3,pw⟩:=Auditor.open hx
 clear hx
 unfold Auditor.sz at hsz
 simp only [Auditor.cs]
 go_enter Tryz.func216,Tryz.ntmps216
 go_wp2_with (fail)
 refine (to_Disk x.disk _ _ S (Disk.mk' (m:=false) a0 b0 (r0.later zz5) s0) zz13).mono ?_
 rintro e1 w1 ⟨cs1,rfl,hr1,hb1⟩
 obtain ⟨nA0,nk0,nS0,rfl,na0,nb0,nr0,ns0⟩:=Disk.open hr1
 simp only [Disk.cs]
 have hB1:Below w.heap.size w w1:=by refine Below.trans (b:=_) ?_ (hb1.mono ?_) <;> exact zz5
 have hz1:w.heap.size+3≤w1.heap.size:=zz23
 have hc1:=fun o => hb1.cell (p:=⟨w.heap.size,o,none⟩) zz0
 have hd1:=fun o => hb1.cell (p:=⟨w.heap.size+1,o,none⟩) zz0
 have he1:=fun o => hb1.cell (p:=⟨w.heap.size+2,o,none⟩) zz0
 have hfd1:=fun o => hb1.frozen (p:=⟨w.heap.size+1,o,none⟩) zz0
 have hfe1:=fun o => hb1.frozen (p:=⟨w.heap.size+2,o,none⟩) zz0
 have hw1:=hb1.size
 (try simp at hw1)
 replace nr0:=(nr0.mono (S':=fun b => nS0 b∧rng (w.heap.size+3) w1.heap.size b) (fun b h => ⟨h,zz69⟩))
 go_wp2_with (fail)
 refine (to_StringS x.pool _ A1 k1 S1 (r1.later (by have zh:=hB1; exact zz2)) zz13).mono ?_
 rintro e2 w2 ⟨nA1,nk1,rfl,na1,nb1,nr1,hb2⟩
 have hB2:Below w.heap.size w w2:=by have zh:=hB1; refine Below.trans (b:=_) ?_ (hb2.mono ?_) <;> exact zz2
 have hz2:w.heap.size+3≤w2.heap.size:=zz45
 have hc2:=fun o => hb2.cell (p:=⟨w.heap.size,o,none⟩) zz0
 have hd2:=fun o => hb2.cell (p:=⟨w.heap.size+1,o,none⟩) zz0
 have he2:=fun o => hb2.cell (p:=⟨w.heap.size+2,o,none⟩) zz0
 have hfd2:=fun o => hb2.frozen (p:=⟨w.heap.size+1,o,none⟩) zz0
 have hfe2:=fun o => hb2.frozen (p:=⟨w.heap.size+2,o,none⟩) zz0
 have hw2:=hb2.size
 (try simp at hw2)
 have nr0_2:=Row.later (show Row true _ nA0 nk0 x.disk.files (fun b => nS0 b∧rng (w.heap.size+3) w1.heap.size b) from by have zh:=nr0; exact zz3) hb2
 have nS1_:True:=trivial
 replace nr1:=nr1.mono (S':=rng (w1.heap.size) w2.heap.size) (fun b h => zz26)
 go_wp2_with (fail)
 refine (to_SealS x.pins _ A2 k2 S2 (r2.later (by have zh:=hB2; exact zz2)) zz13).mono ?_
 rintro e3 w3 ⟨nA2,nk2,rfl,na2,nb2,nr2,hb3⟩
 have hB3:Below w.heap.size w w3:=by have zh:=hB2; refine Below.trans (b:=_) ?_ (hb3.mono ?_) <;> exact zz2
 have hz3:w.heap.size+3≤w3.heap.size:=zz55
 have hc3:=fun o => hb3.cell (p:=⟨w.heap.size,o,none⟩) zz0
 have hd3:=fun o => hb3.cell (p:=⟨w.heap.size+1,o,none⟩) zz0
 have he3:=fun o => hb3.cell (p:=⟨w.heap.size+2,o,none⟩) zz0
 have hfd3:=fun o => hb3.frozen (p:=⟨w.heap.size+1,o,none⟩) zz0
 have hfe3:=fun o => hb3.frozen (p:=⟨w.heap.size+2,o,none⟩) zz0
 have hw3:=hb3.size
 (try simp at hw3)
 have nr0_3:=Row.later (show Row true _ nA0 nk0 x.disk.files (fun b => nS0 b∧rng (w.heap.size+3) w1.heap.size b) from by have zh:=nr0_2; exact zz3) hb3
 have nr1_3:=Row.later (show Row true _ nA1 nk1 x.pool (rng (w1.heap.size) w2.heap.size) from by have zh:=nr1; exact zz3) hb3
 have nS2_:True:=trivial
 replace nr2:=nr2.mono (S':=rng (w2.heap.size) w3.heap.size) (fun b h => zz26)
 go_wp2_with (fail)
 refine (to_PairS x.pairs _ A3 k3 S3 (r3.later (by have zh:=hB3; exact zz2)) zz13).mono ?_
 rintro e4 w4 ⟨nA3,nk3,rfl,na3,nb3,nr3,hb4⟩
 have hB4:Below w.heap.size w w4:=by have zh:=hB3; refine Below.trans (b:=_) ?_ (hb4.mono ?_) <;> exact zz2
 have hz4:w.heap.size+3≤w4.heap.size:=zz57
 have hc4:=fun o => hb4.cell (p:=⟨w.heap.size,o,none⟩) zz0
 have hd4:=fun o => hb4.cell (p:=⟨w.heap.size+1,o,none⟩) zz0
 have he4:=fun o => hb4.cell (p:=⟨w.heap.size+2,o,none⟩) zz0
 have hfd4:=fun o => hb4.frozen (p:=⟨w.heap.size+1,o,none⟩) zz0
 have hfe4:=fun o => hb4.frozen (p:=⟨w.heap.size+2,o,none⟩) zz0
 have hw4:=hb4.size
 (try simp at hw4)
 have nr0_4:=Row.later (show Row true _ nA0 nk0 x.disk.files (fun b => nS0 b∧rng (w.heap.size+3) w1.heap.size b) from by have zh:=nr0_3; exact zz3) hb4
 have nr1_4:=Row.later (show Row true _ nA1 nk1 x.pool (rng (w1.heap.size) w2.heap.size) from by have zh:=nr1_3; exact zz3) hb4
 have nr2_4:=Row.later (show Row true _ nA2 nk2 x.pins (rng (w2.heap.size) w3.heap.size) from by have zh:=nr2; exact zz3) hb4
 have nS3_:True:=trivial
 replace nr3:=nr3.mono (S':=rng (w3.heap.size) w4.heap.size) (fun b h => zz26)
 go_wp2
 refine bodyPost_ret (v:=.agg #[.int .i64 x.house,.bool x.up,.slice nA0 x.disk.files.length nk0,.slice nA1 x.pool.length nk1,.slice nA2 x.pins.length nk2,.slice nA3 x.pairs.length nk3]) (by simp [results,Tryz.results216,go_sem,hd4,he4,hd3,he3,hd2,he2,hd1,he1]) rfl ⟨[.int .i64 x.house,.bool x.up,.slice nA0 x.disk.files.length nk0,.slice nA1 x.pool.length nk1,.slice nA2 x.pins.length nk2,.slice nA3 x.pairs.length nk3],rfl,?_,by have zh:=hB4; exact zz2⟩
 exact Auditor.mk' (m:=true) (x:=x) f0 na0 nb0 (show Row true _ nA0 nk0 x.disk.files (fun b => nS0 b∧rng (w.heap.size+3) w1.heap.size b) from by have zh:=nr0_4; exact zz3) (fun b h => zz40) na1 nb1 (show Row true _ nA1 nk1 x.pool (rng (w1.heap.size) w2.heap.size) from by have zh:=nr1_4; exact zz3) (fun b h => zz52) na2 nb2 (show Row true _ nA2 nk2 x.pins (rng (w2.heap.size) w3.heap.size) from by have zh:=nr2_4; exact zz3) (fun b h => zz52) na3 nb3 (show Row true _ nA3 nk3 x.pairs (rng (w3.heap.size) w4.heap.size) from by have zh:=nr3; exact zz3) (fun b h => zz52) (fun _ => pwmk4 (fun b h1 h2 => zz34) (fun b h1 h2 => zz34) (fun b h1 h2 => zz34) (fun b h1 h2 => zz50) (fun b h1 h2 => zz50) (fun b h1 h2 => zz50))
theorem info_AuditorS:(Tryz.prog.info? 302).map (fun i => (i.zero,i.size,i.bytes))=some (some (.agg #[.int .i64 0,.bool false,.slice none 0 0,.slice none 0 0,.slice none 0 0,.slice none 0 0]),6,112):=by kernel_rfl
theorem to_AuditorS (xs:List Auditor) (w:World) (A:Option Addr) (cap:Nat) (S:Blks) (hx:Row false w A cap xs S) (hsz:szL xs≤1048576) :
  Calls Tryz.prog 131 #[.slice A xs.length cap] w fun e w' => ∃ A' cap',e = .returned (.slice A' xs.length cap')∧xs.length≤cap'∧cap'≤maxLen∧Row true w' A' cap' xs (rng w.heap.size w'.heap.size)∧Below w.heap.size w w':=by
 have hl:xs.length≤1048576:=zz83
 obtain ⟨i0,hi0,hz0,hz1,hz2⟩:=info_parts info_AuditorS
 have hmk:=fun W => run_make_rowN (P:=Tryz.prog) 128 302 i0 _ Tryz.underlying128 hi0 hz0 .i64 .i64 xs.length xs.length (Nat.le_refl _) (by rw [hz2]; omega) zz13 W
 rw [hz1] at hmk
 clear hi0 hz0 hz1 hz2
 have hm0:=Row.made (α:=Auditor) (N:=6) w xs.length (#[.int .i64 0,.bool false,.slice none 0 0,.slice none 0 0,.slice none 0 0,.slice none 0 0]:Array Value) rfl rfl
 go_enter Tryz.func131,Tryz.ntmps131
 go_wp2
 go_loopw [4] (fun i wr => ∃ k:Nat,k≤xs.length∧i = .int .i64 k∧Below w.heap.size w wr∧w.heap.size+1≤wr.heap.size∧Row true wr (some ⟨w.heap.size,0,none⟩) xs.length (xs.take k ++ List.replicate (xs.length - k) (Mk.z:Auditor)) (rng w.heap.size wr.heap.size)) (fun i _ => xs.length - (intOf i).toNat)
 case atStart => exact ⟨0,Nat.zero_le _,rfl,zz5,zz30,zz36⟩
 case round =>
  obtain ⟨k,hkk,rfl,hb,hz,hrow⟩:=hrel
  clear hm0
  by_cases hlt:k<xs.length
  ·have hne:xs≠[]:=by rintro rfl; simp at hlt
   obtain ⟨b1,o1,rfl,hS1,T1,hT1,_,he1⟩:=hx hne
   obtain ⟨c1,ha1,hr1⟩:=he1 k hlt
   have hl1:=ha1.lt zz28
   replace ha1:=ha1.keep (hb.block _ hl1)
   replace hr1:=Lay.later hr1 hb
   have hszk:=sz_le_L xs k hlt
   have hst:=zd (take_step xs (Mk.z:Auditor) k hlt)
   generalize xs[k]=x at hr1 hszk hst
   rcases hrow with ⟨h_,_⟩ | ⟨g2,cur,e_,_,hh,hcz,T,hT,hd,he⟩
   ·cases h_
   cases e_
   have hsh:Shp wr w.heap.size (ty Auditor) (xs.length*6):=⟨cur,hh,hcz⟩
   have HE:=zd he; have HD:=zd (hd rfl); have HT:=zd hT
   have ho:=old_cells (N:=6) he k zz46 rfl
   clear he hd hT hh hcz he1 hx
   obtain ⟨v0,ov0⟩:∃ v,wr.cell? ⟨w.heap.size,k*6,none⟩=some v:=by have:=ho 0 zz13; simpa using this
   obtain ⟨v1,ov1⟩:∃ v,wr.cell? ⟨w.heap.size,k*6+1,none⟩=some v:=by have:=ho 1 zz13; simpa using this
   obtain ⟨v2,ov2⟩:∃ v,wr.cell? ⟨w.heap.size,k*6+2,none⟩=some v:=by have:=ho 2 zz13; simpa using this
   obtain ⟨v3,ov3⟩:∃ v,wr.cell? ⟨w.heap.size,k*6+3,none⟩=some v:=by have:=ho 3 zz13; simpa using this
   obtain ⟨v4,ov4⟩:∃ v,wr.cell? ⟨w.heap.size,k*6+4,none⟩=some v:=by have:=ho 4 zz13; simpa using this
   obtain ⟨v5,ov5⟩:∃ v,wr.cell? ⟨w.heap.size,k*6+5,none⟩=some v:=by have:=ho 5 zz13; simpa using this
   have hf0:=fun o => hsh.frozen o
   clear ho
   have ht:=zd hr1
   obtain ⟨eA0,ek0,eS0,eA1,ek1,eS1,eA2,ek2,eS2,eA3,ek3,eS3,rfl,ef0,ea0,eb0,er0,es0,ea1,eb1,er1,es1,ea2,eb2,er2,es2,ea3,eb3,er3,es3,epw⟩:=Auditor.open hr1
   have q0:=ha1 0 _ rfl
   have q1:=ha1 1 _ rfl
   have q2:=ha1 2 _ rfl
   have q3:=ha1 3 _ rfl
   have q4:=ha1 4 _ rfl
   have q5:=ha1 5 _ rfl
   simp only [show Lay.n Auditor=6 from rfl,Nat.add_zero] at q0 q1 q2 q3 q4 q5
   clear ha1
   have hszx:x.sz≤1048576:=zz84
   go_wp2_with (fail)
   refine (to_Auditor x _ (Auditor.cs x eA0 ek0 eA1 ek1 eA2 ek2 eA3 ek3) _ (Lay.later ht.out zz5) hszx).mono ?_
   rintro e1 w1 ⟨cs1,rfl,hn1,hb1⟩
   have hn2:=zd hn1
   obtain ⟨nA0,nk0,nS0,nA1,nk1,nS1,nA2,nk2,nS2,nA3,nk3,nS3,rfl,nf0,na0,nb0,nr0,ns0,na1,nb1,nr1,ns1,na2,nb2,nr2,ns2,na3,nb3,nr3,ns3,_⟩:=Auditor.open hn1
   simp only [Auditor.cs]
   have hB1:Below w.heap.size w w1:=by have zh:=hb; refine Below.trans (b:=_) ?_ (hb1.mono ?_) <;> exact zz2
   have hz1:wr.heap.size≤w1.heap.size:=zz23
   have hc1:=fun o => hb1.cell (p:=⟨w.heap.size,o,none⟩) zz0
   have hg1:=fun o => hb1.frozen (p:=⟨w.heap.size,o,none⟩) zz0
   have hsh1:Shp w1 w.heap.size (ty Auditor) (xs.length*6):=hsh.of (hb1.block _ zz0)
   have hn3:rd true w1 [.int .i64 x.house,.bool x.up,.slice nA0 x.disk.files.length nk0,.slice nA1 x.pool.length nk1,.slice nA2 x.pins.length nk2,.slice nA3 x.pairs.length nk3] x (rng wr.heap.size w1.heap.size):=Lay.mono hn2.out (fun b h => zz26)
   have hq1:Chg (fun b => b=w.heap.size) wr w1:=(show Chg _ wr _ from zz51).below hb1 zz0
   go_wp2
   go_roundw
   case rel =>
    refine ⟨k+1,zz13,by go_num,by have zh:=hB1; exact zz2,by (try simp); omega,?_⟩
    rw [hst.out]
    refine Row.setU (N:=6) (T:=T) (w:=wr) (U:=(rng wr.heap.size w1.heap.size)) (cs:=[.int .i64 x.house,.bool x.up,.slice nA0 x.disk.files.length nk0,.slice nA1 x.pool.length nk1,.slice nA2 x.pins.length nk2,.slice nA3 x.pairs.length nk3]) rfl zz77 (fun b h => zz70) HT.out HD.out HE.out zz46 (show Shp _ _ (ty Auditor) (xs.length*6) from by have zh:=hsh1; exact zz27) (fun o ho => ?_) ?_ ?_ ?_ ?_ ?_
    ·have n0:o≠k*6:=by intro h; apply ho; rw [h]; omega
     have n1:o≠k*6+1:=zz24
     have n2:o≠k*6+2:=zz24
     have n3:o≠k*6+3:=zz24
     have n4:o≠k*6+4:=zz24
     have n5:o≠k*6+5:=zz24
     simp only [hc1,ya5 _ _ _ o _ n0,ya5 _ _ _ o _ n1,ya5 _ _ _ o _ n2,ya5 _ _ _ o _ n3,ya5 _ _ _ o _ n4,ya5 _ _ _ o _ n5]
    ·exact (show Chg (fun b => b=w.heap.size) wr _ from by have zh:=hq1; exact zz39)
    ·intro j u hu
     have hj:j<6:=(List.getElem?_eq_some_iff.1 hu).1
     rcases (by omega:j=0∨j=1∨j=2∨j=3∨j=4∨j=5) with rfl | rfl | rfl | rfl | rfl | rfl
     all_goals (have hu:=Option.some.inj hu; subst hu; go_simp; try simp)
    ·exact (show rd true _ [.int .i64 x.house,.bool x.up,.slice nA0 x.disk.files.length nk0,.slice nA1 x.pool.length nk1,.slice nA2 x.pins.length nk2,.slice nA3 x.pairs.length nk3] x (rng wr.heap.size w1.heap.size) from by have zh:=hn3; exact zz32)
    ·exact fun b h => by unfold rng at h ⊢; (try simp); constructor <;> omega
    ·exact fun b h => by unfold rng at h; exact h.1
   case measure => simp [intOf]; omega
  ·have hke:k=xs.length:=by omega
   go_wp2
   go_ret; subst hke; exact ⟨some ⟨w.heap.size,0,none⟩,xs.length,rfl,Nat.le_refl _,zz56,by simpa using hrow,hb⟩
theorem to_Note (x:Note) (w:World) (cs:List Value) (S:Blks) (hx:rd false w cs x S) (hsz:x.sz≤1048576) :
  Calls Tryz.prog 217 #[.agg cs.toArray] w fun e w' => ∃ cs',e = .returned (.agg cs'.toArray)∧rd true w' cs' x (rng w.heap.size w'.heap.size)∧Below w.heap.size w w':=by
 obtain ⟨rfl,f0,f1⟩:=Note.open hx
 clear hx
 unfold Note.sz at hsz
 simp only [Note.cs]
 go_enter Tryz.func217,Tryz.ntmps217
 go_wp2
 refine bodyPost_ret (v:=.agg #[.int .i64 x.to,.string x.text]) (by simp [results,Tryz.results217,go_sem]) rfl ⟨[.int .i64 x.to,.string x.text],rfl,?_,zz5⟩
 exact Note.mk' (m:=true) (x:=x) f0 f1
theorem info_NoteS:(Tryz.prog.info? 304).map (fun i => (i.zero,i.size,i.bytes))=some (some (.agg #[.int .i64 0,.string ⟨#[]⟩]),2,24):=by kernel_rfl
theorem to_NoteS (xs:List Note) (w:World) (A:Option Addr) (cap:Nat) (S:Blks) (hx:Row false w A cap xs S) (hsz:szL xs≤1048576) :
  Calls Tryz.prog 132 #[.slice A xs.length cap] w fun e w' => ∃ A' cap',e = .returned (.slice A' xs.length cap')∧xs.length≤cap'∧cap'≤maxLen∧Row true w' A' cap' xs (rng w.heap.size w'.heap.size)∧Below w.heap.size w w':=by
 have hl:xs.length≤1048576:=zz83
 obtain ⟨i0,hi0,hz0,hz1,hz2⟩:=info_parts info_NoteS
 have hmk:=fun W => run_make_rowN (P:=Tryz.prog) 129 304 i0 _ Tryz.underlying129 hi0 hz0 .i64 .i64 xs.length xs.length (Nat.le_refl _) (by rw [hz2]; omega) zz13 W
 rw [hz1] at hmk
 clear hi0 hz0 hz1 hz2
 have hm0:=Row.made (α:=Note) (N:=2) w xs.length (#[.int .i64 0,.string ByteArray.empty]:Array Value) rfl rfl
 go_enter Tryz.func132,Tryz.ntmps132
 go_wp2
 go_loopw [4] (fun i wr => ∃ k:Nat,k≤xs.length∧i = .int .i64 k∧Below w.heap.size w wr∧w.heap.size+1≤wr.heap.size∧Row true wr (some ⟨w.heap.size,0,none⟩) xs.length (xs.take k ++ List.replicate (xs.length - k) (Mk.z:Note)) (rng w.heap.size wr.heap.size)) (fun i _ => xs.length - (intOf i).toNat)
 case atStart => exact ⟨0,Nat.zero_le _,rfl,zz5,zz30,zz36⟩
 case round =>
  obtain ⟨k,hkk,rfl,hb,hz,hrow⟩:=hrel
  clear hm0
  by_cases hlt:k<xs.length
  ·have hne:xs≠[]:=by rintro rfl; simp at hlt
   obtain ⟨b1,o1,rfl,hS1,T1,hT1,_,he1⟩:=hx hne
   obtain ⟨c1,ha1,hr1⟩:=he1 k hlt
   have hl1:=ha1.lt zz28
   replace ha1:=ha1.keep (hb.block _ hl1)
   replace hr1:=Lay.later hr1 hb
   have hszk:=sz_le_L xs k hlt
   have hst:=zd (take_step xs (Mk.z:Note) k hlt)
   generalize xs[k]=x at hr1 hszk hst
   rcases hrow with ⟨h_,_⟩ | ⟨g2,cur,e_,_,hh,hcz,T,hT,hd,he⟩
   ·cases h_
   cases e_
   have hsh:Shp wr w.heap.size (ty Note) (xs.length*2):=⟨cur,hh,hcz⟩
   have HE:=zd he; have HD:=zd (hd rfl); have HT:=zd hT
   have ho:=old_cells (N:=2) he k zz46 rfl
   clear he hd hT hh hcz he1 hx
   obtain ⟨v0,ov0⟩:∃ v,wr.cell? ⟨w.heap.size,k*2,none⟩=some v:=by have:=ho 0 zz13; simpa using this
   obtain ⟨v1,ov1⟩:∃ v,wr.cell? ⟨w.heap.size,k*2+1,none⟩=some v:=by have:=ho 1 zz13; simpa using this
   have hf0:=fun o => hsh.frozen o
   clear ho
   have ht:=zd hr1
   obtain ⟨rfl,ef0,ef1⟩:=Note.open hr1
   have q0:=ha1 0 _ rfl
   have q1:=ha1 1 _ rfl
   simp only [show Lay.n Note=2 from rfl,Nat.add_zero] at q0 q1
   clear ha1
   have hszx:x.sz≤1048576:=zz84
   go_wp2_with (fail)
   refine (to_Note x _ (Note.cs x) _ (Lay.later ht.out zz5) hszx).mono ?_
   rintro e1 w1 ⟨cs1,rfl,hn1,hb1⟩
   have hn2:=zd hn1
   obtain ⟨rfl,nf0,nf1⟩:=Note.open hn1
   simp only [Note.cs]
   have hB1:Below w.heap.size w w1:=by have zh:=hb; refine Below.trans (b:=_) ?_ (hb1.mono ?_) <;> exact zz2
   have hz1:wr.heap.size≤w1.heap.size:=zz23
   have hc1:=fun o => hb1.cell (p:=⟨w.heap.size,o,none⟩) zz0
   have hg1:=fun o => hb1.frozen (p:=⟨w.heap.size,o,none⟩) zz0
   have hsh1:Shp w1 w.heap.size (ty Note) (xs.length*2):=hsh.of (hb1.block _ zz0)
   have hn3:rd true w1 [.int .i64 x.to,.string x.text] x (rng wr.heap.size w1.heap.size):=Lay.mono hn2.out (fun b h => zz26)
   have hq1:Chg (fun b => b=w.heap.size) wr w1:=(show Chg _ wr _ from zz51).below hb1 zz0
   go_wp2
   go_roundw
   case rel =>
    refine ⟨k+1,zz13,by go_num,by have zh:=hB1; exact zz2,by (try simp); omega,?_⟩
    rw [hst.out]
    refine Row.setU (N:=2) (T:=T) (w:=wr) (U:=(rng wr.heap.size w1.heap.size)) (cs:=[.int .i64 x.to,.string x.text]) rfl zz77 (fun b h => zz70) HT.out HD.out HE.out zz46 (show Shp _ _ (ty Note) (xs.length*2) from by have zh:=hsh1; exact zz27) (fun o ho => ?_) ?_ ?_ ?_ ?_ ?_
    ·have n0:o≠k*2:=by intro h; apply ho; rw [h]; omega
     have n1:o≠k*2+1:=zz24
     simp only [hc1,ya5 _ _ _ o _ n0,ya5 _ _ _ o _ n1]
    ·exact (show Chg (fun b => b=w.heap.size) wr _ from by have zh:=hq1; exact zz39)
    ·intro j u hu
     have hj:j<2:=(List.getElem?_eq_some_iff.1 hu).1
     rcases (by omega:j=0∨j=1) with rfl | rfl
     all_goals (have hu:=Option.some.inj hu; subst hu; go_simp; try simp)
    ·exact (show rd true _ [.int .i64 x.to,.string x.text] x (rng wr.heap.size w1.heap.size) from by have zh:=hn3; exact zz32)
    ·exact fun b h => by unfold rng at h ⊢; (try simp); constructor <;> omega
    ·exact fun b h => by unfold rng at h; exact h.1
   case measure => simp [intOf]; omega
  ·have hke:k=xs.length:=by omega
   go_wp2
   go_ret; subst hke; exact ⟨some ⟨w.heap.size,0,none⟩,xs.length,rfl,Nat.le_refl _,zz56,by simpa using hrow,hb⟩
theorem to_Given (x:Given) (w:World) (cs:List Value) (S:Blks) (hx:rd false w cs x S) (hsz:x.sz≤1048576) :
  Calls Tryz.prog 218 #[.agg cs.toArray] w fun e w' => ∃ cs',e = .returned (.agg cs'.toArray)∧rd true w' cs' x (rng w.heap.size w'.heap.size)∧Below w.heap.size w w':=by
 obtain ⟨A0,k0,S0,A1,k1,S1,A2,k2,S2,rfl,f0,f1,f2,f3,a0,b0,r0,s0,a1,b1,r1,s1,a2,b2,r2,s2,pw⟩:=Given.open hx
 clear hx
 unfold Given.sz at hsz
 simp only [Given.cs]
 go_enter Tryz.func218,Tryz.ntmps218
 go_wp2_with (fail)
 refine (to_Stamp x.stamp _ _ S (Stamp.mk' (m:=false) f2 f3 a0 b0 (r0.later zz5) s0 a1 b1 (r1.later zz5) s1 a2 b2 (r2.later zz5) s2 zz30) zz13).mono ?_
 rintro e1 w1 ⟨cs1,rfl,hr1,hb1⟩
 obtain ⟨nA0,nk0,nS0,nA1,nk1,nS1,nA2,nk2,nS2,rfl,_,_,na0,nb0,nr0,ns0,na1,nb1,nr1,ns1,na2,nb2,nr2,ns2,pw1⟩:=Stamp.open hr1
 replace pw1:=zd (pw1 rfl)
 simp only [Stamp.cs]
 have hB1:Below w.heap.size w w1:=by refine Below.trans (b:=_) ?_ (hb1.mono ?_) <;> exact zz5
 have hz1:w.heap.size+3≤w1.heap.size:=zz23
 have hc1:=fun o => hb1.cell (p:=⟨w.heap.size,o,none⟩) zz0
 have hd1:=fun o => hb1.cell (p:=⟨w.heap.size+1,o,none⟩) zz0
 have he1:=fun o => hb1.cell (p:=⟨w.heap.size+2,o,none⟩) zz0
 have hfd1:=fun o => hb1.frozen (p:=⟨w.heap.size+1,o,none⟩) zz0
 have hfe1:=fun o => hb1.frozen (p:=⟨w.heap.size+2,o,none⟩) zz0
 have hw1:=hb1.size
 (try simp at hw1)
 replace nr0:=(nr0.mono (S':=fun b => nS0 b∧rng (w.heap.size+3) w1.heap.size b) (fun b h => ⟨h,zz69⟩))
 replace nr1:=(nr1.mono (S':=fun b => nS1 b∧rng (w.heap.size+3) w1.heap.size b) (fun b h => ⟨h,by have:=ns1 b h; unfold rng at this ⊢; (try simp at this); omega⟩))
 replace nr2:=(nr2.mono (S':=fun b => nS2 b∧rng (w.heap.size+3) w1.heap.size b) (fun b h => ⟨h,by have:=ns2 b h; unfold rng at this ⊢; (try simp at this); omega⟩))
 go_wp2
 refine bodyPost_ret (v:=.agg #[.int .i64 x.house,.int .i64 x.epoch,.int .i64 x.stamp.by_,.int .i64 x.stamp.sig.at_,.slice nA0 x.stamp.sig.open_.length nk0,.slice nA1 x.stamp.sig.shut.length nk1,.slice nA2 x.stamp.sig.sides.length nk2]) (by simp [results,Tryz.results218,go_sem,hd1,he1]) rfl ⟨[.int .i64 x.house,.int .i64 x.epoch,.int .i64 x.stamp.by_,.int .i64 x.stamp.sig.at_,.slice nA0 x.stamp.sig.open_.length nk0,.slice nA1 x.stamp.sig.shut.length nk1,.slice nA2 x.stamp.sig.sides.length nk2],rfl,?_,by have zh:=hB1; exact zz2⟩
 exact Given.mk' (m:=true) (x:=x) f0 f1 f2 f3 na0 nb0 (show Row true _ nA0 nk0 x.stamp.sig.open_ (fun b => nS0 b∧rng (w.heap.size+3) w1.heap.size b) from by have zh:=nr0; exact zz3) (fun b h => zz40) na1 nb1 (show Row true _ nA1 nk1 x.stamp.sig.shut (fun b => nS1 b∧rng (w.heap.size+3) w1.heap.size b) from by have zh:=nr1; exact zz3) (fun b h => zz40) na2 nb2 (show Row true _ nA2 nk2 x.stamp.sig.sides (fun b => nS2 b∧rng (w.heap.size+3) w1.heap.size b) from by have zh:=nr2; exact zz3) (fun b h => zz40) (fun _ => pwmk3 (ya6 (pwget3_0_1 pw1.out) (fun b (x:_∧_) => x.1) (fun b (x:_∧_) => x.1)) (ya6 (pwget3_0_2 pw1.out) (fun b (x:_∧_) => x.1) (fun b (x:_∧_) => x.1)) (ya6 (pwget3_1_2 pw1.out) (fun b (x:_∧_) => x.1) (fun b (x:_∧_) => x.1)))
theorem info_GivenS:(Tryz.prog.info? 298).map (fun i => (i.zero,i.size,i.bytes))=some (some (.agg #[.int .i64 0,.int .i64 0,.int .i64 0,.int .i64 0,.slice none 0 0,.slice none 0 0,.slice none 0 0]),7,104):=by kernel_rfl
theorem to_GivenS (xs:List Given) (w:World) (A:Option Addr) (cap:Nat) (S:Blks) (hx:Row false w A cap xs S) (hsz:szL xs≤1048576) :
  Calls Tryz.prog 133 #[.slice A xs.length cap] w fun e w' => ∃ A' cap',e = .returned (.slice A' xs.length cap')∧xs.length≤cap'∧cap'≤maxLen∧Row true w' A' cap' xs (rng w.heap.size w'.heap.size)∧Below w.heap.size w w':=by
 have hl:xs.length≤1048576:=zz83
 obtain ⟨i0,hi0,hz0,hz1,hz2⟩:=info_parts info_GivenS
 have hmk:=fun W => run_make_rowN (P:=Tryz.prog) 130 298 i0 _ Tryz.underlying130 hi0 hz0 .i64 .i64 xs.length xs.length (Nat.le_refl _) (by rw [hz2]; omega) zz13 W
 rw [hz1] at hmk
 clear hi0 hz0 hz1 hz2
 have hm0:=Row.made (α:=Given) (N:=7) w xs.length (#[.int .i64 0,.int .i64 0,.int .i64 0,.int .i64 0,.slice none 0 0,.slice none 0 0,.slice none 0 0]:Array Value) rfl rfl
 go_enter Tryz.func133,Tryz.ntmps133
 go_wp2
 go_loopw [4] (fun i wr => ∃ k:Nat,k≤xs.length∧i = .int .i64 k∧Below w.heap.size w wr∧w.heap.size+1≤wr.heap.size∧Row true wr (some ⟨w.heap.size,0,none⟩) xs.length (xs.take k ++ List.replicate (xs.length - k) (Mk.z:Given)) (rng w.heap.size wr.heap.size)) (fun i _ => xs.length - (intOf i).toNat)
 case atStart => exact ⟨0,Nat.zero_le _,rfl,zz5,zz30,zz36⟩
 case round =>
  obtain ⟨k,hkk,rfl,hb,hz,hrow⟩:=hrel
  clear hm0
  by_cases hlt:k<xs.length
  ·have hne:xs≠[]:=by rintro rfl; simp at hlt
   obtain ⟨b1,o1,rfl,hS1,T1,hT1,_,he1⟩:=hx hne
   obtain ⟨c1,ha1,hr1⟩:=he1 k hlt
   have hl1:=ha1.lt zz28
   replace ha1:=ha1.keep (hb.block _ hl1)
   replace hr1:=Lay.later hr1 hb
   have hszk:=sz_le_L xs k hlt
   have hst:=zd (take_step xs (Mk.z:Given) k hlt)
   generalize xs[k]=x at hr1 hszk hst
   rcases hrow with ⟨h_,_⟩ | ⟨g2,cur,e_,_,hh,hcz,T,hT,hd,he⟩
   ·cases h_
   cases e_
   have hsh:Shp wr w.heap.size (ty Given) (xs.length*7):=⟨cur,hh,hcz⟩
   have HE:=zd he; have HD:=zd (hd rfl); have HT:=zd hT
   have ho:=old_cells (N:=7) he k zz46 rfl
   clear he hd hT hh hcz he1 hx
   obtain ⟨v0,ov0⟩:∃ v,wr.cell? ⟨w.heap.size,k*7,none⟩=some v:=by have:=ho 0 zz13; simpa using this
   obtain ⟨v1,ov1⟩:∃ v,wr.cell? ⟨w.heap.size,k*7+1,none⟩=some v:=by have:=ho 1 zz13; simpa using this
   obtain ⟨v2,ov2⟩:∃ v,wr.cell? ⟨w.heap.size,k*7+2,none⟩=some v:=by have:=ho 2 zz13; simpa using this
   obtain ⟨v3,ov3⟩:∃ v,wr.cell? ⟨w.heap.size,k*7+3,none⟩=some v:=by have:=ho 3 zz13; simpa using this
   obtain ⟨v4,ov4⟩:∃ v,wr.cell? ⟨w.heap.size,k*7+4,none⟩=some v:=by have:=ho 4 zz13; simpa using this
   obtain ⟨v5,ov5⟩:∃ v,wr.cell? ⟨w.heap.size,k*7+5,none⟩=some v:=by have:=ho 5 zz13; simpa using this
   obtain ⟨v6,ov6⟩:∃ v,wr.cell? ⟨w.heap.size,k*7+6,none⟩=some v:=by have:=ho 6 zz13; simpa using this
   have hf0:=fun o => hsh.frozen o
   clear ho
   have ht:=zd hr1
   obtain ⟨eA0,ek0,eS0,eA1,ek1,eS1,eA2,ek2,eS2,rfl,ef0,ef1,ef2,ef3,ea0,eb0,er0,es0,ea1,eb1,er1,es1,ea2,eb2,er2,es2,epw⟩:=Given.open hr1
   have q0:=ha1 0 _ rfl
   have q1:=ha1 1 _ rfl
   have q2:=ha1 2 _ rfl
   have q3:=ha1 3 _ rfl
   have q4:=ha1 4 _ rfl
   have q5:=ha1 5 _ rfl
   have q6:=ha1 6 _ rfl
   simp only [show Lay.n Given=7 from rfl,Nat.add_zero] at q0 q1 q2 q3 q4 q5 q6
   clear ha1
   have hszx:x.sz≤1048576:=zz84
   go_wp2_with (fail)
   refine (to_Given x _ (Given.cs x eA0 ek0 eA1 ek1 eA2 ek2) _ (Lay.later ht.out zz5) hszx).mono ?_
   rintro e1 w1 ⟨cs1,rfl,hn1,hb1⟩
   have hn2:=zd hn1
   obtain ⟨nA0,nk0,nS0,nA1,nk1,nS1,nA2,nk2,nS2,rfl,nf0,nf1,nf2,nf3,na0,nb0,nr0,ns0,na1,nb1,nr1,ns1,na2,nb2,nr2,ns2,_⟩:=Given.open hn1
   simp only [Given.cs]
   have hB1:Below w.heap.size w w1:=by have zh:=hb; refine Below.trans (b:=_) ?_ (hb1.mono ?_) <;> exact zz2
   have hz1:wr.heap.size≤w1.heap.size:=zz23
   have hc1:=fun o => hb1.cell (p:=⟨w.heap.size,o,none⟩) zz0
   have hg1:=fun o => hb1.frozen (p:=⟨w.heap.size,o,none⟩) zz0
   have hsh1:Shp w1 w.heap.size (ty Given) (xs.length*7):=hsh.of (hb1.block _ zz0)
   have hn3:rd true w1 [.int .i64 x.house,.int .i64 x.epoch,.int .i64 x.stamp.by_,.int .i64 x.stamp.sig.at_,.slice nA0 x.stamp.sig.open_.length nk0,.slice nA1 x.stamp.sig.shut.length nk1,.slice nA2 x.stamp.sig.sides.length nk2] x (rng wr.heap.size w1.heap.size):=Lay.mono hn2.out (fun b h => zz26)
   have hq1:Chg (fun b => b=w.heap.size) wr w1:=(show Chg _ wr _ from zz51).below hb1 zz0
   go_wp2
   go_roundw
   case rel =>
    refine ⟨k+1,zz13,by go_num,by have zh:=hB1; exact zz2,by (try simp); omega,?_⟩
    rw [hst.out]
    refine Row.setU (N:=7) (T:=T) (w:=wr) (U:=(rng wr.heap.size w1.heap.size)) (cs:=[.int .i64 x.house,.int .i64 x.epoch,.int .i64 x.stamp.by_,.int .i64 x.stamp.sig.at_,.slice nA0 x.stamp.sig.open_.length nk0,.slice nA1 x.stamp.sig.shut.length nk1,.slice nA2 x.stamp.sig.sides.length nk2]) rfl zz77 (fun b h => zz70) HT.out HD.out HE.out zz46 (show Shp _ _ (ty Given) (xs.length*7) from by have zh:=hsh1; exact zz27) (fun o ho => ?_) ?_ ?_ ?_ ?_ ?_
    ·have n0:o≠k*7:=by intro h; apply ho; rw [h]; omega
     have n1:o≠k*7+1:=zz24
     have n2:o≠k*7+2:=zz24
     have n3:o≠k*7+3:=zz24
     have n4:o≠k*7+4:=zz24
     have n5:o≠k*7+5:=zz24
     have n6:o≠k*7+6:=zz24
     simp only [hc1,ya5 _ _ _ o _ n0,ya5 _ _ _ o _ n1,ya5 _ _ _ o _ n2,ya5 _ _ _ o _ n3,ya5 _ _ _ o _ n4,ya5 _ _ _ o _ n5,ya5 _ _ _ o _ n6]
    ·exact (show Chg (fun b => b=w.heap.size) wr _ from by have zh:=hq1; exact zz39)
    ·intro j u hu
     have hj:j<7:=(List.getElem?_eq_some_iff.1 hu).1
     rcases (by omega:j=0∨j=1∨j=2∨j=3∨j=4∨j=5∨j=6) with rfl | rfl | rfl | rfl | rfl | rfl | rfl
     all_goals (have hu:=Option.some.inj hu; subst hu; go_simp; try simp)
    ·exact (show rd true _ [.int .i64 x.house,.int .i64 x.epoch,.int .i64 x.stamp.by_,.int .i64 x.stamp.sig.at_,.slice nA0 x.stamp.sig.open_.length nk0,.slice nA1 x.stamp.sig.shut.length nk1,.slice nA2 x.stamp.sig.sides.length nk2] x (rng wr.heap.size w1.heap.size) from by have zh:=hn3; exact zz32)
    ·exact fun b h => by unfold rng at h ⊢; (try simp); constructor <;> omega
    ·exact fun b h => by unfold rng at h; exact h.1
   case measure => simp [intOf]; omega
  ·have hke:k=xs.length:=by omega
   go_wp2
   go_ret; subst hke; exact ⟨some ⟨w.heap.size,0,none⟩,xs.length,rfl,Nat.le_refl _,zz56,by simpa using hrow,hb⟩
theorem to_Wrld (x:Wrld) (w:World) (cs:List Value) (S:Blks) (hx:rd false w cs x S) (hsz:x.sz≤1048576) :
  Calls Tryz.prog 48 #[.agg cs.toArray] w fun e w' => ∃ cs',e = .returned (.agg cs'.toArray)∧rd true w' cs' x (rng w.heap.size w'.heap.size)∧Below w.heap.size w w':=by
 obtain ⟨A0,k0,S0,A1,k1,S1,A2,k2,S2,A3,k3,S3,A4,k4,S4,A5,k5,S5,rfl,a0,b0,r0,s0,a1,b1,r1,s1,a2,b2,r2,s2,a3,b3,r3,s3,a4,b4,r4,s4,a5,b5,r5,s5,pw⟩:=Wrld.open hx
 clear hx
 unfold Wrld.sz at hsz
 simp only [Wrld.cs]
 go_enter Tryz.func48,Tryz.ntmps48
 go_wp2_with (fail)
 refine (to_HouseS x.houses _ A0 k0 S0 (r0.later zz5) zz13).mono ?_
 rintro e1 w1 ⟨nA0,nk0,rfl,na0,nb0,nr0,hb1⟩
 have hB1:Below w.heap.size w w1:=by refine Below.trans (b:=_) ?_ (hb1.mono ?_) <;> exact zz5
 have hz1:w.heap.size+3≤w1.heap.size:=zz23
 have hc1:=fun o => hb1.cell (p:=⟨w.heap.size,o,none⟩) zz0
 have hd1:=fun o => hb1.cell (p:=⟨w.heap.size+1,o,none⟩) zz0
 have he1:=fun o => hb1.cell (p:=⟨w.heap.size+2,o,none⟩) zz0
 have hfd1:=fun o => hb1.frozen (p:=⟨w.heap.size+1,o,none⟩) zz0
 have hfe1:=fun o => hb1.frozen (p:=⟨w.heap.size+2,o,none⟩) zz0
 have hw1:=hb1.size
 (try simp at hw1)
 have nS0_:True:=trivial
 replace nr0:=nr0.mono (S':=rng (w.heap.size+3) w1.heap.size) (fun b h => zz26)
 go_wp2_with (fail)
 refine (to_AuditorS x.auditors _ A1 k1 S1 (r1.later (by have zh:=hB1; exact zz2)) zz13).mono ?_
 rintro e2 w2 ⟨nA1,nk1,rfl,na1,nb1,nr1,hb2⟩
 have hB2:Below w.heap.size w w2:=by have zh:=hB1; refine Below.trans (b:=_) ?_ (hb2.mono ?_) <;> exact zz2
 have hz2:w.heap.size+3≤w2.heap.size:=zz45
 have hc2:=fun o => hb2.cell (p:=⟨w.heap.size,o,none⟩) zz0
 have hd2:=fun o => hb2.cell (p:=⟨w.heap.size+1,o,none⟩) zz0
 have he2:=fun o => hb2.cell (p:=⟨w.heap.size+2,o,none⟩) zz0
 have hfd2:=fun o => hb2.frozen (p:=⟨w.heap.size+1,o,none⟩) zz0
 have hfe2:=fun o => hb2.frozen (p:=⟨w.heap.size+2,o,none⟩) zz0
 have hw2:=hb2.size
 (try simp at hw2)
 have nr0_2:=Row.later (show Row true _ nA0 nk0 x.houses (rng (w.heap.size+3) w1.heap.size) from by have zh:=nr0; exact zz3) hb2
 have nS1_:True:=trivial
 replace nr1:=nr1.mono (S':=rng (w1.heap.size) w2.heap.size) (fun b h => zz26)
 go_wp2_with (fail)
 refine (to_NoteS x.notes _ A2 k2 S2 (r2.later (by have zh:=hB2; exact zz2)) zz13).mono ?_
 rintro e3 w3 ⟨nA2,nk2,rfl,na2,nb2,nr2,hb3⟩
 have hB3:Below w.heap.size w w3:=by have zh:=hB2; refine Below.trans (b:=_) ?_ (hb3.mono ?_) <;> exact zz2
 have hz3:w.heap.size+3≤w3.heap.size:=zz55
 have hc3:=fun o => hb3.cell (p:=⟨w.heap.size,o,none⟩) zz0
 have hd3:=fun o => hb3.cell (p:=⟨w.heap.size+1,o,none⟩) zz0
 have he3:=fun o => hb3.cell (p:=⟨w.heap.size+2,o,none⟩) zz0
 have hfd3:=fun o => hb3.frozen (p:=⟨w.heap.size+1,o,none⟩) zz0
 have hfe3:=fun o => hb3.frozen (p:=⟨w.heap.size+2,o,none⟩) zz0
 have hw3:=hb3.size
 (try simp at hw3)
 have nr0_3:=Row.later (show Row true _ nA0 nk0 x.houses (rng (w.heap.size+3) w1.heap.size) from by have zh:=nr0_2; exact zz3) hb3
 have nr1_3:=Row.later (show Row true _ nA1 nk1 x.auditors (rng (w1.heap.size) w2.heap.size) from by have zh:=nr1; exact zz3) hb3
 have nS2_:True:=trivial
 replace nr2:=nr2.mono (S':=rng (w2.heap.size) w3.heap.size) (fun b h => zz26)
 go_wp2_with (fail)
 refine (to_GivenS x.given _ A3 k3 S3 (r3.later (by have zh:=hB3; exact zz2)) zz13).mono ?_
 rintro e4 w4 ⟨nA3,nk3,rfl,na3,nb3,nr3,hb4⟩
 have hB4:Below w.heap.size w w4:=by have zh:=hB3; refine Below.trans (b:=_) ?_ (hb4.mono ?_) <;> exact zz2
 have hz4:w.heap.size+3≤w4.heap.size:=zz57
 have hc4:=fun o => hb4.cell (p:=⟨w.heap.size,o,none⟩) zz0
 have hd4:=fun o => hb4.cell (p:=⟨w.heap.size+1,o,none⟩) zz0
 have he4:=fun o => hb4.cell (p:=⟨w.heap.size+2,o,none⟩) zz0
 have hfd4:=fun o => hb4.frozen (p:=⟨w.heap.size+1,o,none⟩) zz0
 have hfe4:=fun o => hb4.frozen (p:=⟨w.heap.size+2,o,none⟩) zz0
 have hw4:=hb4.size
 (try simp at hw4)
 have nr0_4:=Row.later (show Row true _ nA0 nk0 x.houses (rng (w.heap.size+3) w1.heap.size) from by have zh:=nr0_3; exact zz3) hb4
 have nr1_4:=Row.later (show Row true _ nA1 nk1 x.auditors (rng (w1.heap.size) w2.heap.size) from by have zh:=nr1_3; exact zz3) hb4
 have nr2_4:=Row.later (show Row true _ nA2 nk2 x.notes (rng (w2.heap.size) w3.heap.size) from by have zh:=nr2; exact zz3) hb4
 have nS3_:True:=trivial
 replace nr3:=nr3.mono (S':=rng (w3.heap.size) w4.heap.size) (fun b h => zz26)
 go_wp2_with (fail)
 refine (to_BoolS x.evil _ A4 k4 S4 (r4.later (by have zh:=hB4; exact zz2)) zz13).mono ?_
 rintro e5 w5 ⟨nA4,nk4,rfl,na4,nb4,nr4,hb5⟩
 have hB5:Below w.heap.size w w5:=by have zh:=hB4; refine Below.trans (b:=_) ?_ (hb5.mono ?_) <;> exact zz2
 have hz5:w.heap.size+3≤w5.heap.size:=zz78
 have hc5:=fun o => hb5.cell (p:=⟨w.heap.size,o,none⟩) zz0
 have hd5:=fun o => hb5.cell (p:=⟨w.heap.size+1,o,none⟩) zz0
 have he5:=fun o => hb5.cell (p:=⟨w.heap.size+2,o,none⟩) zz0
 have hfd5:=fun o => hb5.frozen (p:=⟨w.heap.size+1,o,none⟩) zz0
 have hfe5:=fun o => hb5.frozen (p:=⟨w.heap.size+2,o,none⟩) zz0
 have hw5:=hb5.size
 (try simp at hw5)
 have nr0_5:=Row.later (show Row true _ nA0 nk0 x.houses (rng (w.heap.size+3) w1.heap.size) from by have zh:=nr0_4; exact zz3) hb5
 have nr1_5:=Row.later (show Row true _ nA1 nk1 x.auditors (rng (w1.heap.size) w2.heap.size) from by have zh:=nr1_4; exact zz3) hb5
 have nr2_5:=Row.later (show Row true _ nA2 nk2 x.notes (rng (w2.heap.size) w3.heap.size) from by have zh:=nr2_4; exact zz3) hb5
 have nr3_5:=Row.later (show Row true _ nA3 nk3 x.given (rng (w3.heap.size) w4.heap.size) from by have zh:=nr3; exact zz3) hb5
 have nS4_:True:=trivial
 replace nr4:=nr4.mono (S':=rng (w4.heap.size) w5.heap.size) (fun b h => zz26)
 go_wp2_with (fail)
 refine (to_IntS x.codes _ A5 k5 S5 (r5.later (by have zh:=hB5; exact zz2)) zz13).mono ?_
 rintro e6 w6 ⟨nA5,nk5,rfl,na5,nb5,nr5,hb6⟩
 have hB6:Below w.heap.size w w6:=by have zh:=hB5; refine Below.trans (b:=_) ?_ (hb6.mono ?_) <;> exact zz2
 have hz6:w.heap.size+3≤w6.heap.size:=by have:=hb6.size; (try simp at this); omega
 have hc6:=fun o => hb6.cell (p:=⟨w.heap.size,o,none⟩) zz0
 have hd6:=fun o => hb6.cell (p:=⟨w.heap.size+1,o,none⟩) zz0
 have he6:=fun o => hb6.cell (p:=⟨w.heap.size+2,o,none⟩) zz0
 have hfd6:=fun o => hb6.frozen (p:=⟨w.heap.size+1,o,none⟩) zz0
 have hfe6:=fun o => hb6.frozen (p:=⟨w.heap.size+2,o,none⟩) zz0
 have hw6:=hb6.size
 (try simp at hw6)
 have nr0_6:=Row.later (show Row true _ nA0 nk0 x.houses (rng (w.heap.size+3) w1.heap.size) from by have zh:=nr0_5; exact zz3) hb6
 have nr1_6:=Row.later (show Row true _ nA1 nk1 x.auditors (rng (w1.heap.size) w2.heap.size) from by have zh:=nr1_5; exact zz3) hb6
 have nr2_6:=Row.later (show Row true _ nA2 nk2 x.notes (rng (w2.heap.size) w3.heap.size) from by have zh:=nr2_5; exact zz3) hb6
 have nr3_6:=Row.later (show Row true _ nA3 nk3 x.given (rng (w3.heap.size) w4.heap.size) from by have zh:=nr3_5; exact zz3) hb6
 have nr4_6:=Row.later (show Row true _ nA4 nk4 x.evil (rng (w4.heap.size) w5.heap.size) from by have zh:=nr4; exact zz3) hb6
 have nS5_:True:=trivial
 replace nr5:=nr5.mono (S':=rng (w5.heap.size) w6.heap.size) (fun b h => zz26)
 go_wp2
 refine bodyPost_ret (v:=.agg #[.slice nA0 x.houses.length nk0,.slice nA1 x.auditors.length nk1,.slice nA2 x.notes.length nk2,.slice nA3 x.given.length nk3,.slice nA4 x.evil.length nk4,.slice nA5 x.codes.length nk5]) (by simp [results,Tryz.results48,go_sem,hd6,he6,hd5,he5,hd4,he4,hd3,he3,hd2,he2,hd1,he1]) rfl ⟨[.slice nA0 x.houses.length nk0,.slice nA1 x.auditors.length nk1,.slice nA2 x.notes.length nk2,.slice nA3 x.given.length nk3,.slice nA4 x.evil.length nk4,.slice nA5 x.codes.length nk5],rfl,?_,by have zh:=hB6; exact zz2⟩
 exact Wrld.mk' (m:=true) (x:=x) na0 nb0 (show Row true _ nA0 nk0 x.houses (rng (w.heap.size+3) w1.heap.size) from by have zh:=nr0_6; exact zz3) (fun b h => zz52) na1 nb1 (show Row true _ nA1 nk1 x.auditors (rng (w1.heap.size) w2.heap.size) from by have zh:=nr1_6; exact zz3) (fun b h => zz52) na2 nb2 (show Row true _ nA2 nk2 x.notes (rng (w2.heap.size) w3.heap.size) from by have zh:=nr2_6; exact zz3) (fun b h => zz52) na3 nb3 (show Row true _ nA3 nk3 x.given (rng (w3.heap.size) w4.heap.size) from by have zh:=nr3_6; exact zz3) (fun b h => zz52) na4 nb4 (show Row true _ nA4 nk4 x.evil (rng (w4.heap.size) w5.heap.size) from by have zh:=nr4_6; exact zz3) (fun b h => zz52) na5 nb5 (show Row true _ nA5 nk5 x.codes (rng (w5.heap.size) w6.heap.size) from by have zh:=nr5; exact zz3) (fun b h => zz52) (fun _ => pwmk6 (fun b h1 h2 => zz50) (fun b h1 h2 => zz50) (fun b h1 h2 => zz50) (fun b h1 h2 => zz50) (fun b h1 h2 => zz50) (fun b h1 h2 => zz50) (fun b h1 h2 => zz50) (fun b h1 h2 => zz50) (fun b h1 h2 => zz50) (fun b h1 h2 => zz50) (fun b h1 h2 => zz50) (fun b h1 h2 => zz50) (fun b h1 h2 => zz50) (fun b h1 h2 => zz50) (fun b h1 h2 => zz50))
end Go.Proofs.YtcbbjfafmmcfiaaGreatDoor
