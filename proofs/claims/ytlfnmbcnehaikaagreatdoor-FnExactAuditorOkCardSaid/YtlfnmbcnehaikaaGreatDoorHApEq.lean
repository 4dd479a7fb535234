/- A part of the proof. -/
import Derived.Test.YtlfnmbcnehaikaaGreatDoorHApTy
set_option linter.unusedVariables false
set_option linter.unusedSimpArgs false
set_option maxRecDepth 20000
set_option maxHeartbeats 1000000
namespace Go.Proofs.YtlfnmbcnehaikaaGreatDoor
open Go.RowKit Lay Mk
theorem eq_File (x : File) (w : World) (c1 c2 : List Value) (S S' : Blks) (hx : rd false w c1 x S) (hy : rd false w c2 x S') :
  Calls Tryz.prog 88 #[.agg c1.toArray, .agg c2.toArray] w fun e w' => e = .returned (.bool true) ∧ Below w.heap.size w w':=by
 obtain ⟨rfl,f0,f1,f2⟩:=File.open hx
 obtain ⟨rfl,zf0,zf1,zf2⟩:=File.open hy
 clear hx hy
 simp only [File.cs]
 go_enter Tryz.func88,Tryz.ntmps88
 go_wp2_with (fail)
 go_ret; exact ⟨rfl,zz3⟩
theorem eq_FileS (xs : List File) (w : World) (A1 A2 : Option Addr) (d1 d2 : Nat) (S S' : Blks) (hx : Row false w A1 d1 xs S) (hy : Row false w A2 d2 xs S') (hl : xs.length ≤ maxLen) :
  Calls Tryz.prog 38 #[.slice A1 xs.length d1, .slice A2 xs.length d2] w fun e w' => e = .returned (.bool true) ∧ Below w.heap.size w w':=by
 unfold maxLen at hl
 go_enter Tryz.func38,Tryz.ntmps38
 go_wp2
 go_loopw [5] (fun i wr => ∃ k : Nat,k ≤ xs.length ∧ i = .int .i64 k ∧ Below w.heap.size w wr) (fun i _ => xs.length - (intOf i).toNat)
 case atStart => exact ⟨0,Nat.zero_le _,rfl,Below.refl _ _⟩
 case round =>
  obtain ⟨k,hk,rfl,hb⟩:=hrel
  have hz:=hb.size
  by_cases hlt : k < xs.length
  ·have hne : xs ≠ []:=by rintro rfl; simp at hlt
   obtain ⟨b1,o1,rfl,_,T1,_,_,he1⟩:=hx hne
   obtain ⟨c1,ha1,hr1⟩:=he1 k hlt
   have hl1:=ha1.lt zz39
   replace ha1:=ha1.keep (hb.block _ hl1)
   replace hr1:=Lay.later hr1 hb
   obtain ⟨b2,o2,rfl,_,T2,_,_,he2⟩:=hy hne
   obtain ⟨c2,ha2,hr2⟩:=he2 k hlt
   have hl2:=ha2.lt (by rintro rfl; have:=Lay.len hr2; cases this)
   replace ha2:=ha2.keep (hb.block _ hl2)
   replace hr2:=Lay.later hr2 hb
   have ht1:=zd hr1
   obtain ⟨rfl,f0,f1,f2⟩:=File.open hr1
   have q0:=ha1 0 _ rfl
   have q1:=ha1 1 _ rfl
   have q2:=ha1 2 _ rfl
   simp only [show Lay.n File = 3 from rfl,Nat.add_zero] at q0 q1 q2
   have ht2:=zd hr2
   obtain ⟨rfl,zf0,zf1,zf2⟩:=File.open hr2
   have zq0:=ha2 0 _ rfl
   have zq1:=ha2 1 _ rfl
   have zq2:=ha2 2 _ rfl
   simp only [show Lay.n File = 3 from rfl,Nat.add_zero] at zq0 zq1 zq2
   clear he1 he2 ha1 ha2 hx hy
   go_wp2_with (fail)
   refine still_tail 8 (by kernel_rfl) (by kernel_rfl) ?_
   simp only [List.take_succ_cons,List.take_zero,List.drop_succ_cons,List.drop_zero]
   repeat still_step
   refine wpStill_nil ?_
   go_wp2_with (fail)
   refine (eq_File xs[k] _ (File.cs xs[k]) (File.cs xs[k]) _ _ (Lay.later ht1.out zz3) (Lay.later ht2.out zz3)).mono ?_
   rintro e1 w1 ⟨rfl,hb1⟩
   have hB1 : Below w.heap.size w w1:=by have zh:=hb; refine Below.trans ?_ (hb1.mono ?_) <;> exact zz13
   go_wp2
   go_roundw
   case rel => exact ⟨k + 1,zz4,by go_num,hB1⟩
   case measure => simp [intOf]; omega
  ·go_wp2
   go_ret; exact ⟨rfl,hb⟩
theorem eq_Disk (x : Disk) (w : World) (c1 c2 : List Value) (S S' : Blks) (hx : rd false w c1 x S) (hy : rd false w c2 x S') :
  Calls Tryz.prog 12 #[.agg c1.toArray, .agg c2.toArray] w fun e w' => e = .returned (.bool true) ∧ Below w.heap.size w w':=by
 obtain ⟨A0,k0,S0,rfl,a0,b0,r0,s0⟩:=Disk.open hx
 obtain ⟨zA0,zk0,zS0,rfl,za0,zb0,zr0,zs0⟩:=Disk.open hy
 clear hx hy
 simp only [Disk.cs]
 go_enter Tryz.func12,Tryz.ntmps12
 go_wp2_with (fail)
 refine (eq_FileS x.files _ _ _ _ _ _ _ (r0.later zz3) (zr0.later zz3) (Nat.le_trans a0 b0)).mono ?_
 rintro e1 w1 ⟨rfl,hb1⟩
 have hB1 : Below w.heap.size w w1:=by refine Below.trans (b:=_) ?_ (hb1.mono ?_) <;> exact zz9
 have hz1 : w.heap.size + 2 ≤ w1.heap.size:=zz28
 have hc1:=fun o => hb1.cell (p:=⟨w.heap.size,o,none⟩) zz0
 have hd1:=fun o => hb1.cell (p:=⟨w.heap.size + 1,o,none⟩) zz0
 go_wp2_with (fail)
 go_ret; exact ⟨rfl,by have zh:=hB1; exact zz1⟩
theorem eq_StringS (xs : List ByteArray) (w : World) (A1 A2 : Option Addr) (d1 d2 : Nat) (S S' : Blks) (hx : Row false w A1 d1 xs S) (hy : Row false w A2 d2 xs S') (hl : xs.length ≤ maxLen) :
  Calls Tryz.prog 22 #[.slice A1 xs.length d1, .slice A2 xs.length d2] w fun e w' => e = .returned (.bool true) ∧ Below w.heap.size w w':=by
 unfold maxLen at hl
 go_enter Tryz.func22,Tryz.ntmps22
 go_wp2
 go_loopw [5] (fun i wr => ∃ k : Nat,k ≤ xs.length ∧ i = .int .i64 k ∧ Below w.heap.size w wr) (fun i _ => xs.length - (intOf i).toNat)
 case atStart => exact ⟨0,Nat.zero_le _,rfl,Below.refl _ _⟩
 case round =>
  obtain ⟨k,hk,rfl,hb⟩:=hrel
  have hz:=hb.size
  by_cases hlt : k < xs.length
  ·have hne : xs ≠ []:=by rintro rfl; simp at hlt
   obtain ⟨b1,o1,rfl,_,T1,_,_,he1⟩:=hx hne
   obtain ⟨c1,ha1,hr1⟩:=he1 k hlt
   have hl1:=ha1.lt zz39
   replace ha1:=ha1.keep (hb.block _ hl1)
   replace hr1:=Lay.later hr1 hb
   obtain ⟨b2,o2,rfl,_,T2,_,_,he2⟩:=hy hne
   obtain ⟨c2,ha2,hr2⟩:=he2 k hlt
   have hl2:=ha2.lt (by rintro rfl; have:=Lay.len hr2; cases this)
   replace ha2:=ha2.keep (hb.block _ hl2)
   replace hr2:=Lay.later hr2 hb
   obtain ⟨rfl,_⟩:=open_str hr1
   have f1:=ha1 0 _ rfl; clear hr1
   simp only [show Lay.n ByteArray = 1 from rfl,Nat.add_zero,Nat.mul_one] at f1
   obtain ⟨rfl,_⟩:=open_str hr2
   have f2:=ha2 0 _ rfl; clear hr2
   simp only [show Lay.n ByteArray = 1 from rfl,Nat.add_zero,Nat.mul_one] at f2
   clear he1 he2 ha1 ha2 hx hy
   go_wp2_with (fail)
   refine still_tail 8 (by kernel_rfl) (by kernel_rfl) ?_
   simp only [List.take_succ_cons,List.take_zero,List.drop_succ_cons,List.drop_zero]
   repeat still_step
   refine wpStill_nil ?_
   go_wp2
   go_roundw
   case rel => exact ⟨k + 1,zz4,by go_num,by have zh:=hb; exact zz1⟩
   case measure => simp [intOf]; omega
  ·go_wp2
   go_ret; exact ⟨rfl,hb⟩
theorem eq_Head (x : Head) (w : World) (c1 c2 : List Value) (S S' : Blks) (hx : rd false w c1 x S) (hy : rd false w c2 x S') :
  Calls Tryz.prog 137 #[.agg c1.toArray, .agg c2.toArray] w fun e w' => e = .returned (.bool true) ∧ Below w.heap.size w w':=by
 obtain ⟨rfl,f0,f1,f2,f3⟩:=Head.open hx
 obtain ⟨rfl,zf0,zf1,zf2,zf3⟩:=Head.open hy
 clear hx hy
 simp only [Head.cs]
 go_enter Tryz.func137,Tryz.ntmps137
 go_wp2_with (fail)
 go_ret; exact ⟨rfl,zz3⟩
theorem eq_Sig (x : Sig) (w : World) (c1 c2 : List Value) (S S' : Blks) (hx : rd false w c1 x S) (hy : rd false w c2 x S') :
  Calls Tryz.prog 138 #[.agg c1.toArray, .agg c2.toArray] w fun e w' => e = .returned (.bool true) ∧ Below w.heap.size w w':=by
 obtain ⟨A0,k0,S0,A1,k1,S1,A2,k2,S2,rfl,f0,a0,b0,r0,s0,a1,b1,r1,s1,a2,b2,r2,s2,pw⟩:=Sig.open hx
 obtain ⟨zA0,zk0,zS0,zA1,zk1,zS1,zA2,zk2,zS2,rfl,zf0,za0,zb0,zr0,zs0,za1,zb1,zr1,zs1,za2,zb2,zr2,zs2,zpw⟩:=Sig.open hy
 clear hx hy
 simp only [Sig.cs]
 go_enter Tryz.func138,Tryz.ntmps138
 go_wp2_with (fail)
 refine (eq_StringS x.open_ _ _ _ _ _ _ _ (r0.later zz3) (zr0.later zz3) (Nat.le_trans a0 b0)).mono ?_
 rintro e1 w1 ⟨rfl,hb1⟩
 have hB1 : Below w.heap.size w w1:=by refine Below.trans (b:=_) ?_ (hb1.mono ?_) <;> exact zz9
 have hz1 : w.heap.size + 2 ≤ w1.heap.size:=zz28
 have hc1:=fun o => hb1.cell (p:=⟨w.heap.size,o,none⟩) zz0
 have hd1:=fun o => hb1.cell (p:=⟨w.heap.size + 1,o,none⟩) zz0
 go_wp2_with (fail)
 refine (eq_StringS x.shut _ _ _ _ _ _ _ (r1.later (by have zh:=hB1; exact zz1)) (zr1.later (by have zh:=hB1; exact zz1)) (Nat.le_trans a1 b1)).mono ?_
 rintro e2 w2 ⟨rfl,hb2⟩
 have hB2 : Below w.heap.size w w2:=by have zh:=hB1; refine Below.trans (b:=_) ?_ (hb2.mono ?_) <;> exact zz7
 have hz2 : w.heap.size + 2 ≤ w2.heap.size:=zz35
 have hc2:=fun o => hb2.cell (p:=⟨w.heap.size,o,none⟩) zz0
 have hd2:=fun o => hb2.cell (p:=⟨w.heap.size + 1,o,none⟩) zz0
 go_wp2_with (fail)
 refine (eq_StringS x.sides _ _ _ _ _ _ _ (r2.later (by have zh:=hB2; exact zz1)) (zr2.later (by have zh:=hB2; exact zz1)) (Nat.le_trans a2 b2)).mono ?_
 rintro e3 w3 ⟨rfl,hb3⟩
 have hB3 : Below w.heap.size w w3:=by have zh:=hB2; refine Below.trans (b:=_) ?_ (hb3.mono ?_) <;> exact zz7
 have hz3 : w.heap.size + 2 ≤ w3.heap.size:=by have:=hb3.size; (try simp at this); omega
 have hc3:=fun o => hb3.cell (p:=⟨w.heap.size,o,none⟩) zz0
 have hd3:=fun o => hb3.cell (p:=⟨w.heap.size + 1,o,none⟩) zz0
 go_wp2_with (fail)
 go_ret; exact ⟨rfl,by have zh:=hB3; exact zz1⟩
theorem eq_Seal (x : Seal) (w : World) (c1 c2 : List Value) (S S' : Blks) (hx : rd false w c1 x S) (hy : rd false w c2 x S') :
  Calls Tryz.prog 86 #[.agg c1.toArray, .agg c2.toArray] w fun e w' => e = .returned (.bool true) ∧ Below w.heap.size w w':=by
 obtain ⟨A0,k0,S0,A1,k1,S1,A2,k2,S2,rfl,f0,f1,f2,f3,f4,a0,b0,r0,s0,a1,b1,r1,s1,a2,b2,r2,s2,pw⟩:=Seal.open hx
 obtain ⟨zA0,zk0,zS0,zA1,zk1,zS1,zA2,zk2,zS2,rfl,zf0,zf1,zf2,zf3,zf4,za0,zb0,zr0,zs0,za1,zb1,zr1,zs1,za2,zb2,zr2,zs2,zpw⟩:=Seal.open hy
 clear hx hy
 simp only [Seal.cs]
 go_enter Tryz.func86,Tryz.ntmps86
 go_wp2_with (fail)
 refine (eq_Head x.head _ _ _ _ _ (Head.mk' (m:=false) (S:=S) f0 f1 f2 f3) (Head.mk' (m:=false) (S:=S') zf0 zf1 zf2 zf3)).mono ?_
 rintro e1 w1 ⟨rfl,hb1⟩
 have hB1 : Below w.heap.size w w1:=by refine Below.trans (b:=_) ?_ (hb1.mono ?_) <;> exact zz9
 have hz1 : w.heap.size + 2 ≤ w1.heap.size:=zz28
 have hc1:=fun o => hb1.cell (p:=⟨w.heap.size,o,none⟩) zz0
 have hd1:=fun o => hb1.cell (p:=⟨w.heap.size + 1,o,none⟩) zz0
 go_wp2_with (fail)
 refine (eq_Sig x.sig _ _ _ _ _ (Sig.mk' (m:=false) (S:=S) f4 a0 b0 (r0.later (by have zh:=hB1; exact zz1)) s0 a1 b1 (r1.later (by have zh:=hB1; exact zz1)) s1 a2 b2 (r2.later (by have zh:=hB1; exact zz1)) s2 zz17) (Sig.mk' (m:=false) (S:=S') zf4 za0 zb0 (zr0.later (by have zh:=hB1; exact zz1)) zs0 za1 zb1 (zr1.later (by have zh:=hB1; exact zz1)) zs1 za2 zb2 (zr2.later (by have zh:=hB1; exact zz1)) zs2 zz17)).mono ?_
 rintro e2 w2 ⟨rfl,hb2⟩
 have hB2 : Below w.heap.size w w2:=by have zh:=hB1; refine Below.trans (b:=_) ?_ (hb2.mono ?_) <;> exact zz7
 have hz2 : w.heap.size + 2 ≤ w2.heap.size:=zz35
 have hc2:=fun o => hb2.cell (p:=⟨w.heap.size,o,none⟩) zz0
 have hd2:=fun o => hb2.cell (p:=⟨w.heap.size + 1,o,none⟩) zz0
 go_wp2_with (fail)
 go_ret; exact ⟨rfl,by have zh:=hB2; exact zz1⟩
theorem eq_SealS (xs : List Seal) (w : World) (A1 A2 : Option Addr) (d1 d2 : Nat) (S S' : Blks) (hx : Row false w A1 d1 xs S) (hy : Row false w A2 d2 xs S') (hl : xs.length ≤ maxLen) :
  Calls Tryz.prog 36 #[.slice A1 xs.length d1, .slice A2 xs.length d2] w fun e w' => e = .returned (.bool true) ∧ Below w.heap.size w w':=by
 unfold maxLen at hl
 go_enter Tryz.func36,Tryz.ntmps36
 go_wp2
 go_loopw [5] (fun i wr => ∃ k : Nat,k ≤ xs.length ∧ i = .int .i64 k ∧ Below w.heap.size w wr) (fun i _ => xs.length - (intOf i).toNat)
 case atStart => exact ⟨0,Nat.zero_le _,rfl,Below.refl _ _⟩
 case round =>
  obtain ⟨k,hk,rfl,hb⟩:=hrel
  have hz:=hb.size
  by_cases hlt : k < xs.length
  ·have hne : xs ≠ []:=by rintro rfl; simp at hlt
   obtain ⟨b1,o1,rfl,_,T1,_,_,he1⟩:=hx hne
   obtain ⟨c1,ha1,hr1⟩:=he1 k hlt
   have hl1:=ha1.lt zz39
   replace ha1:=ha1.keep (hb.block _ hl1)
   replace hr1:=Lay.later hr1 hb
   obtain ⟨b2,o2,rfl,_,T2,_,_,he2⟩:=hy hne
   obtain ⟨c2,ha2,hr2⟩:=he2 k hlt
   have hl2:=ha2.lt (by rintro rfl; have:=Lay.len hr2; cases this)
   replace ha2:=ha2.keep (hb.block _ hl2)
   replace hr2:=Lay.later hr2 hb
   have ht1:=zd hr1
   obtain ⟨A0,k0,S0,A1,k1,S1,A2,k2,S2,rfl,f0,f1,f2,f3,f4,a0,b0,r0,s0,a1,b1,r1,s1,a2,b2,r2,s2,pw⟩:=Seal.open hr1
   have q0:=ha1 0 _ rfl
   have q1:=ha1 1 _ rfl
   have q2:=ha1 2 _ rfl
   have q3:=ha1 3 _ rfl
   have q4:=ha1 4 _ rfl
   have q5:=ha1 5 _ rfl
   have q6:=ha1 6 _ rfl
   have q7:=ha1 7 _ rfl
   simp only [show Lay.n Seal = 8 from rfl,Nat.add_zero] at q0 q1 q2 q3 q4 q5 q6 q7
   have ht2:=zd hr2
   obtain ⟨zA0,zk0,zS0,zA1,zk1,zS1,zA2,zk2,zS2,rfl,zf0,zf1,zf2,zf3,zf4,za0,zb0,zr0,zs0,za1,zb1,zr1,zs1,za2,zb2,zr2,zs2,zpw⟩:=Seal.open hr2
   have zq0:=ha2 0 _ rfl
   have zq1:=ha2 1 _ rfl
   have zq2:=ha2 2 _ rfl
   have zq3:=ha2 3 _ rfl
   have zq4:=ha2 4 _ rfl
   have zq5:=ha2 5 _ rfl
   have zq6:=ha2 6 _ rfl
   have zq7:=ha2 7 _ rfl
   simp only [show Lay.n Seal = 8 from rfl,Nat.add_zero] at zq0 zq1 zq2 zq3 zq4 zq5 zq6 zq7
   clear he1 he2 ha1 ha2 hx hy
   go_wp2_with (fail)
   refine still_tail 8 (by kernel_rfl) (by kernel_rfl) ?_
   simp only [List.take_succ_cons,List.take_zero,List.drop_succ_cons,List.drop_zero]
   repeat still_step
   refine wpStill_nil ?_
   go_wp2_with (fail)
   refine (eq_Seal xs[k] _ (Seal.cs xs[k] A0 k0 A1 k1 A2 k2) (Seal.cs xs[k] zA0 zk0 zA1 zk1 zA2 zk2) _ _ (Lay.later ht1.out zz3) (Lay.later ht2.out zz3)).mono ?_
   rintro e1 w1 ⟨rfl,hb1⟩
   have hB1 : Below w.heap.size w w1:=by have zh:=hb; refine Below.trans ?_ (hb1.mono ?_) <;> exact zz13
   go_wp2
   go_roundw
   case rel => exact ⟨k + 1,zz4,by go_num,hB1⟩
   case measure => simp [intOf]; omega
  ·go_wp2
   go_ret; exact ⟨rfl,hb⟩
theorem eq_Pair (x : Pair) (w : World) (c1 c2 : List Value) (S S' : Blks) (hx : rd false w c1 x S) (hy : rd false w c2 x S') :
  Calls Tryz.prog 87 #[.agg c1.toArray, .agg c2.toArray] w fun e w' => e = .returned (.bool true) ∧ Below w.heap.size w w':=by
 obtain ⟨A0,k0,S0,A1,k1,S1,A2,k2,S2,A3,k3,S3,A4,k4,S4,A5,k5,S5,rfl,f0,f1,f2,f3,f4,f8,f9,f10,f11,f12,a0,b0,r0,s0,a1,b1,r1,s1,a2,b2,r2,s2,a3,b3,r3,s3,a4,b4,r4,s4,a5,b5,r5,s5,pw⟩:=Pair.open hx
 obtain ⟨zA0,zk0,zS0,zA1,zk1,zS1,zA2,zk2,zS2,zA3,zk3,zS3,zA4,zk4,zS4,zA5,zk5,zS5,rfl,zf0,zf1,zf2,zf3,zf4,zf8,zf9,zf10,zf11,zf12,za0,zb0,zr0,zs0,za1,zb1,zr1,zs1,za2,zb2,zr2,zs2,za3,zb3,zr3,zs3,za4,zb4,zr4,zs4,za5,zb5,zr5,zs5,zpw⟩:=Pair.open hy
 clear hx hy
 simp only [Pair.cs]
 go_enter Tryz.func87,Tryz.ntmps87
 go_wp2_with (fail)
 refine (eq_Seal x.a _ _ _ _ _ (Seal.mk' (m:=false) (S:=S) f0 f1 f2 f3 f4 a0 b0 (r0.later zz3) s0 a1 b1 (r1.later zz3) s1 a2 b2 (r2.later zz3) s2 zz17) (Seal.mk' (m:=false) (S:=S') zf0 zf1 zf2 zf3 zf4 za0 zb0 (zr0.later zz3) zs0 za1 zb1 (zr1.later zz3) zs1 za2 zb2 (zr2.later zz3) zs2 zz17)).mono ?_
 rintro e1 w1 ⟨rfl,hb1⟩
 have hB1 : Below w.heap.size w w1:=by refine Below.trans (b:=_) ?_ (hb1.mono ?_) <;> exact zz9
 have hz1 : w.heap.size + 2 ≤ w1.heap.size:=zz28
 have hc1:=fun o => hb1.cell (p:=⟨w.heap.size,o,none⟩) zz0
 have hd1:=fun o => hb1.cell (p:=⟨w.heap.size + 1,o,none⟩) zz0
 go_wp2_with (fail)
 refine (eq_Seal x.b _ _ _ _ _ (Seal.mk' (m:=false) (S:=S) f8 f9 f10 f11 f12 a3 b3 (r3.later (by have zh:=hB1; exact zz1)) s3 a4 b4 (r4.later (by have zh:=hB1; exact zz1)) s4 a5 b5 (r5.later (by have zh:=hB1; exact zz1)) s5 zz17) (Seal.mk' (m:=false) (S:=S') zf8 zf9 zf10 zf11 zf12 za3 zb3 (zr3.later (by have zh:=hB1; exact zz1)) zs3 za4 zb4 (zr4.later (by have zh:=hB1; exact zz1)) zs4 za5 zb5 (zr5.later (by have zh:=hB1; exact zz1)) zs5 zz17)).mono ?_
 rintro e2 w2 ⟨rfl,hb2⟩
 have hB2 : Below w.heap.size w w2:=by have zh:=hB1; refine Below.trans (b:=_) ?_ (hb2.mono ?_) <;> exact zz7
 have hz2 : w.heap.size + 2 ≤ w2.heap.size:=zz35
 have hc2:=fun o => hb2.cell (p:=⟨w.heap.size,o,none⟩) zz0
 have hd2:=fun o => hb2.cell (p:=⟨w.heap.size + 1,o,none⟩) zz0
 go_wp2_with (fail)
 go_ret; exact ⟨rfl,by have zh:=hB2; exact zz1⟩
theorem eq_PairS (xs : List Pair) (w : World) (A1 A2 : Option Addr) (d1 d2 : Nat) (S S' : Blks) (hx : Row false w A1 d1 xs S) (hy : Row false w A2 d2 xs S') (hl : xs.length ≤ maxLen) :
  Calls Tryz.prog 37 #[.slice A1 xs.length d1, .slice A2 xs.length d2] w fun e w' => e = .returned (.bool true) ∧ Below w.heap.size w w':=by
 unfold maxLen at hl
 go_enter Tryz.func37,Tryz.ntmps37
 go_wp2
 go_loopw [5] (fun i wr => ∃ k : Nat,k ≤ xs.length ∧ i = .int .i64 k ∧ Below w.heap.size w wr) (fun i _ => xs.length - (intOf i).toNat)
 case atStart => exact ⟨0,Nat.zero_le _,rfl,Below.refl _ _⟩
 case round =>
  obtain ⟨k,hk,rfl,hb⟩:=hrel
  have hz:=hb.size
  by_cases hlt : k < xs.length
  ·have hne : xs ≠ []:=by rintro rfl; simp at hlt
   obtain ⟨b1,o1,rfl,_,T1,_,_,he1⟩:=hx hne
   obtain ⟨c1,ha1,hr1⟩:=he1 k hlt
   have hl1:=ha1.lt zz39
   replace ha1:=ha1.keep (hb.block _ hl1)
   replace hr1:=Lay.later hr1 hb
   obtain ⟨b2,o2,rfl,_,T2,_,_,he2⟩:=hy hne
   obtain ⟨c2,ha2,hr2⟩:=he2 k hlt
   have hl2:=ha2.lt (by rintro rfl; have:=Lay.len hr2; cases this)
   replace ha2:=ha2.keep (hb.block _ hl2)
   replace hr2:=Lay.later hr2 hb
   have ht1:=zd hr1
   obtain ⟨A0,k0,S0,A1,k1,S1,A2,k2,S2,A3,k3,S3,A4,k4,S4,A5,k5,S5,rfl,f0,f1,f2,f3,f4,f8,f9,f10,f11,f12,a0,b0,r0,s0,a1,b1,r1,s1,a2,b2,r2,s2,a3,b3,r3,s3,a4,b4,r4,s4,a5,b5,r5,s5,pw⟩:=Pair.open hr1
   have q0:=ha1 0 _ rfl
   have q1:=ha1 1 _ rfl
   have q2:=ha1 2 _ rfl
   have q3:=ha1 3 _ rfl
   have q4:=ha1 4 _ rfl
   have q5:=ha1 5 _ rfl
   have q6:=ha1 6 _ rfl
   have q7:=ha1 7 _ rfl
   have q8:=ha1 8 _ rfl
   have q9:=ha1 9 _ rfl
   have q10:=ha1 10 _ rfl
   have q11:=ha1 11 _ rfl
   have q12:=ha1 12 _ rfl
   have q13:=ha1 13 _ rfl
   have q14:=ha1 14 _ rfl
   have q15:=ha1 15 _ rfl
   simp only [show Lay.n Pair = 16 from rfl,Nat.add_zero] at q0 q1 q2 q3 q4 q5 q6 q7 q8 q9 q10 q11 q12 q13 q14 q15
   have ht2:=zd hr2
   obtain ⟨zA0,zk0,zS0,zA1,zk1,zS1,zA2,zk2,zS2,zA3,zk3,zS3,zA4,zk4,zS4,zA5,zk5,zS5,rfl,zf0,zf1,zf2,zf3,zf4,zf8,zf9,zf10,zf11,zf12,za0,zb0,zr0,zs0,za1,zb1,zr1,zs1,za2,zb2,zr2,zs2,za3,zb3,zr3,zs3,za4,zb4,zr4,zs4,za5,zb5,zr5,zs5,zpw⟩:=Pair.open hr2
   have zq0:=ha2 0 _ rfl
   have zq1:=ha2 1 _ rfl
   have zq2:=ha2 2 _ rfl
   have zq3:=ha2 3 _ rfl
   have zq4:=ha2 4 _ rfl
   have zq5:=ha2 5 _ rfl
   have zq6:=ha2 6 _ rfl
   have zq7:=ha2 7 _ rfl
   have zq8:=ha2 8 _ rfl
   have zq9:=ha2 9 _ rfl
   have zq10:=ha2 10 _ rfl
   have zq11:=ha2 11 _ rfl
   have zq12:=ha2 12 _ rfl
   have zq13:=ha2 13 _ rfl
   have zq14:=ha2 14 _ rfl
   have zq15:=ha2 15 _ rfl
   simp only [show Lay.n Pair = 16 from rfl,Nat.add_zero] at zq0 zq1 zq2 zq3 zq4 zq5 zq6 zq7 zq8 zq9 zq10 zq11 zq12 zq13 zq14 zq15
   clear he1 he2 ha1 ha2 hx hy
   go_wp2_with (fail)
   refine still_tail 8 (by kernel_rfl) (by kernel_rfl) ?_
   simp only [List.take_succ_cons,List.take_zero,List.drop_succ_cons,List.drop_zero]
   repeat still_step
   refine wpStill_nil ?_
   go_wp2_with (fail)
   refine (eq_Pair xs[k] _ (Pair.cs xs[k] A0 k0 A1 k1 A2 k2 A3 k3 A4 k4 A5 k5) (Pair.cs xs[k] zA0 zk0 zA1 zk1 zA2 zk2 zA3 zk3 zA4 zk4 zA5 zk5) _ _ (Lay.later ht1.out zz3) (Lay.later ht2.out zz3)).mono ?_
   rintro e1 w1 ⟨rfl,hb1⟩
   have hB1 : Below w.heap.size w w1:=by have zh:=hb; refine Below.trans ?_ (hb1.mono ?_) <;> exact zz13
   go_wp2
   go_roundw
   case rel => exact ⟨k + 1,zz4,by go_num,hB1⟩
   case measure => simp [intOf]; omega
  ·go_wp2
   go_ret; exact ⟨rfl,hb⟩
theorem eq_Auditor (x : Auditor) (w : World) (c1 c2 : List Value) (S S' : Blks) (hx : rd false w c1 x S) (hy : rd false w c2 x S') :
  Calls Tryz.prog 11 #[.agg c1.toArray, .agg c2.toArray] w fun e w' => e = .returned (.bool true) ∧ Below w.heap.size w w':=by
 obtain ⟨A0,k0,S0,A1,k1,S1,A2,k2,S2,A3,k3,S3,rfl,f0,a0,b0,r0,s0,a1,b1,r1,s1,a2,b2,r2,s2,a3,b3,r3,s3,pw⟩:=Auditor.open hx
 obtain ⟨zA0,zk0,zS0,zA1,zk1,zS1,zA2,zk2,zS2,zA3,zk3,zS3,rfl,zf0,za0,zb0,zr0,zs0,za1,zb1,zr1,zs1,za2,zb2,zr2,zs2,za3,zb3,zr3,zs3,zpw⟩:=Auditor.open hy
 clear hx hy
 simp only [Auditor.cs]
 go_enter Tryz.func11,Tryz.ntmps11
 go_wp2_with (fail)
 refine (eq_Disk x.disk _ _ _ _ _ (Disk.mk' (m:=false) (S:=S) a0 b0 (r0.later zz3) s0) (Disk.mk' (m:=false) (S:=S') za0 zb0 (zr0.later zz3) zs0)).mono ?_
 rintro e1 w1 ⟨rfl,hb1⟩
 have hB1 : Below w.heap.size w w1:=by refine Below.trans (b:=_) ?_ (hb1.mono ?_) <;> exact zz9
 have hz1 : w.heap.size + 2 ≤ w1.heap.size:=zz28
 have hc1:=fun o => hb1.cell (p:=⟨w.heap.size,o,none⟩) zz0
 have hd1:=fun o => hb1.cell (p:=⟨w.heap.size + 1,o,none⟩) zz0
 go_wp2_with (fail)
 refine (eq_StringS x.pool _ _ _ _ _ _ _ (r1.later (by have zh:=hB1; exact zz1)) (zr1.later (by have zh:=hB1; exact zz1)) (Nat.le_trans a1 b1)).mono ?_
 rintro e2 w2 ⟨rfl,hb2⟩
 have hB2 : Below w.heap.size w w2:=by have zh:=hB1; refine Below.trans (b:=_) ?_ (hb2.mono ?_) <;> exact zz7
 have hz2 : w.heap.size + 2 ≤ w2.heap.size:=zz35
 have hc2:=fun o => hb2.cell (p:=⟨w.heap.size,o,none⟩) zz0
 have hd2:=fun o => hb2.cell (p:=⟨w.heap.size + 1,o,none⟩) zz0
 go_wp2_with (fail)
 refine (eq_SealS x.pins _ _ _ _ _ _ _ (r2.later (by have zh:=hB2; exact zz1)) (zr2.later (by have zh:=hB2; exact zz1)) (Nat.le_trans a2 b2)).mono ?_
 rintro e3 w3 ⟨rfl,hb3⟩
 have hB3 : Below w.heap.size w w3:=by have zh:=hB2; refine Below.trans (b:=_) ?_ (hb3.mono ?_) <;> exact zz7
 have hz3 : w.heap.size + 2 ≤ w3.heap.size:=by have:=hb3.size; (try simp at this); omega
 have hc3:=fun o => hb3.cell (p:=⟨w.heap.size,o,none⟩) zz0
 have hd3:=fun o => hb3.cell (p:=⟨w.heap.size + 1,o,none⟩) zz0
 go_wp2_with (fail)
 refine (eq_PairS x.pairs _ _ _ _ _ _ _ (r3.later (by have zh:=hB3; exact zz1)) (zr3.later (by have zh:=hB3; exact zz1)) (Nat.le_trans a3 b3)).mono ?_
 rintro e4 w4 ⟨rfl,hb4⟩
 have hB4 : Below w.heap.size w w4:=by have zh:=hB3; refine Below.trans (b:=_) ?_ (hb4.mono ?_) <;> exact zz7
 have hz4 : w.heap.size + 2 ≤ w4.heap.size:=by have:=hb4.size; (try simp at this); omega
 have hc4:=fun o => hb4.cell (p:=⟨w.heap.size,o,none⟩) zz0
 have hd4:=fun o => hb4.cell (p:=⟨w.heap.size + 1,o,none⟩) zz0
 go_wp2_with (fail)
 go_ret; exact ⟨rfl,by have zh:=hB4; exact zz1⟩
end Go.Proofs.YtlfnmbcnehaikaaGreatDoor
