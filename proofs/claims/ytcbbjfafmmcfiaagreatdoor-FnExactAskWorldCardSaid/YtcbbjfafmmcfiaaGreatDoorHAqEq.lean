/- A part of the proof. -/
import Derived.Test.YtcbbjfafmmcfiaaGreatDoorProg
import Derived.Test.YtcbbjfafmmcfiaaGreatDoorHAqTy
set_option linter.unusedVariables false
set_option linter.unusedSimpArgs false
set_option maxRecDepth 20000
set_option maxHeartbeats 1000000
namespace Go.Proofs.YtcbbjfafmmcfiaaGreatDoor
open Go.RowKit Lay Mk
theorem eq_Leaf (x:Leaf) (w:World) (c1 c2:List Value) (S S':Blks) (hx:rd false w c1 x S) (hy:rd false w c2 x S') :
  Calls Tryz.prog 172 #[.agg c1.toArray,.agg c2.toArray] w fun e w' => e = .returned (.bool true)∧Below w.heap.size w w':=by
 obtain ⟨rfl,f0,f1⟩:=Leaf.open hx
 obtain ⟨rfl,zf0,zf1⟩:=Leaf.open hy
 clear hx hy
 simp only [Leaf.cs]
 go_enter Tryz.func172,Tryz.ntmps172
 go_wp2_with (fail)
 go_ret; exact ⟨rfl,zz4⟩
theorem eq_LeafS (xs:List Leaf) (w:World) (A1 A2:Option Addr) (d1 d2:Nat) (S S':Blks) (hx:Row false w A1 d1 xs S) (hy:Row false w A2 d2 xs S') (hl:xs.length≤maxLen) :
  Calls Tryz.prog 75 #[.slice A1 xs.length d1,.slice A2 xs.length d2] w fun e w' => e = .returned (.bool true)∧Below w.heap.size w w':=by
 unfold maxLen at hl
 go_enter Tryz.func75,Tryz.ntmps75
 go_wp2
 go_loopw [5] (fun i wr => ∃ k:Nat,k≤xs.length∧i = .int .i64 k∧Below w.heap.size w wr) (fun i _ => xs.length - (intOf i).toNat)
 case atStart => exact ⟨0,Nat.zero_le _,rfl,Below.refl _ _⟩
 case round =>
  obtain ⟨k,hk,rfl,hb⟩:=hrel
  have hz:=hb.size
  by_cases hlt:k<xs.length
  ·have hne:xs≠[]:=by rintro rfl; simp at hlt
   obtain ⟨b1,o1,rfl,_,T1,_,_,he1⟩:=hx hne
   obtain ⟨c1,ha1,hr1⟩:=he1 k hlt
   have hl1:=ha1.lt zz28
   replace ha1:=ha1.keep (hb.block _ hl1)
   replace hr1:=Lay.later hr1 hb
   obtain ⟨b2,o2,rfl,_,T2,_,_,he2⟩:=hy hne
   obtain ⟨c2,ha2,hr2⟩:=he2 k hlt
   have hl2:=ha2.lt zz59
   replace ha2:=ha2.keep (hb.block _ hl2)
   replace hr2:=Lay.later hr2 hb
   have ht1:=zd hr1
   obtain ⟨rfl,f0,f1⟩:=Leaf.open hr1
   have q0:=ha1 0 _ rfl
   have q1:=ha1 1 _ rfl
   simp only [show Lay.n Leaf=2 from rfl,Nat.add_zero] at q0 q1
   have ht2:=zd hr2
   obtain ⟨rfl,zf0,zf1⟩:=Leaf.open hr2
   have zq0:=ha2 0 _ rfl
   have zq1:=ha2 1 _ rfl
   simp only [show Lay.n Leaf=2 from rfl,Nat.add_zero] at zq0 zq1
   clear he1 he2 ha1 ha2 hx hy
   go_wp2_with (fail)
   refine still_tail 8 (by kernel_rfl) (by kernel_rfl) ?_
   simp only [List.take_succ_cons,List.take_zero,List.drop_succ_cons,List.drop_zero]
   repeat still_step
   refine wpStill_nil ?_
   go_wp2_with (fail)
   refine (eq_Leaf xs[k] _ (Leaf.cs xs[k]) (Leaf.cs xs[k]) _ _ (Lay.later ht1.out zz4) (Lay.later ht2.out zz4)).mono ?_
   rintro e1 w1 ⟨rfl,hb1⟩
   have hB1:Below w.heap.size w w1:=by have zh:=hb; refine Below.trans ?_ (hb1.mono ?_) <;> exact zz14
   go_wp2
   go_roundw
   case rel => exact ⟨k+1,zz13,by go_num,hB1⟩
   case measure => simp [intOf]; omega
  ·go_wp2
   go_ret; exact ⟨rfl,hb⟩
theorem eq_StringS (xs:List ByteArray) (w:World) (A1 A2:Option Addr) (d1 d2:Nat) (S S':Blks) (hx:Row false w A1 d1 xs S) (hy:Row false w A2 d2 xs S') (hl:xs.length≤maxLen) :
  Calls Tryz.prog 24 #[.slice A1 xs.length d1,.slice A2 xs.length d2] w fun e w' => e = .returned (.bool true)∧Below w.heap.size w w':=by
 unfold maxLen at hl
 go_enter Tryz.func24,Tryz.ntmps24
 go_wp2
 go_loopw [5] (fun i wr => ∃ k:Nat,k≤xs.length∧i = .int .i64 k∧Below w.heap.size w wr) (fun i _ => xs.length - (intOf i).toNat)
 case atStart => exact ⟨0,Nat.zero_le _,rfl,Below.refl _ _⟩
 case round =>
  obtain ⟨k,hk,rfl,hb⟩:=hrel
  have hz:=hb.size
  by_cases hlt:k<xs.length
  ·have hne:xs≠[]:=by rintro rfl; simp at hlt
   obtain ⟨b1,o1,rfl,_,T1,_,_,he1⟩:=hx hne
   obtain ⟨c1,ha1,hr1⟩:=he1 k hlt
   have hl1:=ha1.lt zz28
   replace ha1:=ha1.keep (hb.block _ hl1)
   replace hr1:=Lay.later hr1 hb
   obtain ⟨b2,o2,rfl,_,T2,_,_,he2⟩:=hy hne
   obtain ⟨c2,ha2,hr2⟩:=he2 k hlt
   have hl2:=ha2.lt zz59
   replace ha2:=ha2.keep (hb.block _ hl2)
   replace hr2:=Lay.later hr2 hb
   obtain ⟨rfl,_⟩:=open_str hr1
   have f1:=ha1 0 _ rfl; clear hr1
   simp only [show Lay.n ByteArray=1 from rfl,Nat.add_zero,Nat.mul_one] at f1
   obtain ⟨rfl,_⟩:=open_str hr2
   have f2:=ha2 0 _ rfl; clear hr2
   simp only [show Lay.n ByteArray=1 from rfl,Nat.add_zero,Nat.mul_one] at f2
   clear he1 he2 ha1 ha2 hx hy
   go_wp2_with (fail)
   refine still_tail 8 (by kernel_rfl) (by kernel_rfl) ?_
   simp only [List.take_succ_cons,List.take_zero,List.drop_succ_cons,List.drop_zero]
   repeat still_step
   refine wpStill_nil ?_
   go_wp2
   go_roundw
   case rel => exact ⟨k+1,zz13,by go_num,by have zh:=hb; exact zz1⟩
   case measure => simp [intOf]; omega
  ·go_wp2
   go_ret; exact ⟨rfl,hb⟩
theorem eq_File (x:File) (w:World) (c1 c2:List Value) (S S':Blks) (hx:rd false w c1 x S) (hy:rd false w c2 x S') :
  Calls Tryz.prog 242 #[.agg c1.toArray,.agg c2.toArray] w fun e w' => e = .returned (.bool true)∧Below w.heap.size w w':=by
 obtain ⟨rfl,f0,f1,f2⟩:=File.open hx
 obtain ⟨rfl,zf0,zf1,zf2⟩:=File.open hy
 clear hx hy
 simp only [File.cs]
 go_enter Tryz.func242,Tryz.ntmps242
 go_wp2_with (fail)
 go_ret; exact ⟨rfl,zz4⟩
theorem eq_FileS (xs:List File) (w:World) (A1 A2:Option Addr) (d1 d2:Nat) (S S':Blks) (hx:Row false w A1 d1 xs S) (hy:Row false w A2 d2 xs S') (hl:xs.length≤maxLen) :
  Calls Tryz.prog 173 #[.slice A1 xs.length d1,.slice A2 xs.length d2] w fun e w' => e = .returned (.bool true)∧Below w.heap.size w w':=by
 unfold maxLen at hl
 go_enter Tryz.func173,Tryz.ntmps173
 go_wp2
 go_loopw [5] (fun i wr => ∃ k:Nat,k≤xs.length∧i = .int .i64 k∧Below w.heap.size w wr) (fun i _ => xs.length - (intOf i).toNat)
 case atStart => exact ⟨0,Nat.zero_le _,rfl,Below.refl _ _⟩
 case round =>
  obtain ⟨k,hk,rfl,hb⟩:=hrel
  have hz:=hb.size
  by_cases hlt:k<xs.length
  ·have hne:xs≠[]:=by rintro rfl; simp at hlt
   obtain ⟨b1,o1,rfl,_,T1,_,_,he1⟩:=hx hne
   obtain ⟨c1,ha1,hr1⟩:=he1 k hlt
   have hl1:=ha1.lt zz28
   replace ha1:=ha1.keep (hb.block _ hl1)
   replace hr1:=Lay.later hr1 hb
   obtain ⟨b2,o2,rfl,_,T2,_,_,he2⟩:=hy hne
   obtain ⟨c2,ha2,hr2⟩:=he2 k hlt
   have hl2:=ha2.lt zz59
   replace ha2:=ha2.keep (hb.block _ hl2)
   replace hr2:=Lay.later hr2 hb
   have ht1:=zd hr1
   obtain ⟨rfl,f0,f1,f2⟩:=File.open hr1
   have q0:=ha1 0 _ rfl
   have q1:=ha1 1 _ rfl
   have q2:=ha1 2 _ rfl
   simp only [show Lay.n File=3 from rfl,Nat.add_zero] at q0 q1 q2
   have ht2:=zd hr2
   obtain ⟨rfl,zf0,zf1,zf2⟩:=File.open hr2
   have zq0:=ha2 0 _ rfl
   have zq1:=ha2 1 _ rfl
   have zq2:=ha2 2 _ rfl
   simp only [show Lay.n File=3 from rfl,Nat.add_zero] at zq0 zq1 zq2
   clear he1 he2 ha1 ha2 hx hy
   go_wp2_with (fail)
   refine still_tail 8 (by kernel_rfl) (by kernel_rfl) ?_
   simp only [List.take_succ_cons,List.take_zero,List.drop_succ_cons,List.drop_zero]
   repeat still_step
   refine wpStill_nil ?_
   go_wp2_with (fail)
   refine (eq_File xs[k] _ (File.cs xs[k]) (File.cs xs[k]) _ _ (Lay.later ht1.out zz4) (Lay.later ht2.out zz4)).mono ?_
   rintro e1 w1 ⟨rfl,hb1⟩
   have hB1:Below w.heap.size w w1:=by have zh:=hb; refine Below.trans ?_ (hb1.mono ?_) <;> exact zz14
   go_wp2
   go_roundw
   case rel => exact ⟨k+1,zz13,by go_num,hB1⟩
   case measure => simp [intOf]; omega
  ·go_wp2
   go_ret; exact ⟨rfl,hb⟩
theorem eq_Disk (x:Disk) (w:World) (c1 c2:List Value) (S S':Blks) (hx:rd false w c1 x S) (hy:rd false w c2 x S') :
  Calls Tryz.prog 76 #[.agg c1.toArray,.agg c2.toArray] w fun e w' => e = .returned (.bool true)∧Below w.heap.size w w':=by
 obtain ⟨A0,k0,S0,rfl,a0,b0,r0,s0⟩:=Disk.open hx
 obtain ⟨zA0,zk0,zS0,rfl,za0,zb0,zr0,zs0⟩:=Disk.open hy
 clear hx hy
 simp only [Disk.cs]
 go_enter Tryz.func76,Tryz.ntmps76
 go_wp2_with (fail)
 refine (eq_FileS x.files _ _ _ _ _ _ _ (r0.later zz4) (zr0.later zz4) (Nat.le_trans a0 b0)).mono ?_
 rintro e1 w1 ⟨rfl,hb1⟩
 have hB1:Below w.heap.size w w1:=by refine Below.trans (b:=_) ?_ (hb1.mono ?_) <;> exact zz8
 have hz1:w.heap.size+2≤w1.heap.size:=zz23
 have hc1:=fun o => hb1.cell (p:=⟨w.heap.size,o,none⟩) zz0
 have hd1:=fun o => hb1.cell (p:=⟨w.heap.size+1,o,none⟩) zz0
 go_wp2_with (fail)
 go_ret; exact ⟨rfl,by have zh:=hB1; exact zz1⟩
theorem eq_LeafSS (xs:List (List Leaf)) (w:World) (A1 A2:Option Addr) (d1 d2:Nat) (S S':Blks) (hx:Row false w A1 d1 xs S) (hy:Row false w A2 d2 xs S') (hl:xs.length≤maxLen) :
  Calls Tryz.prog 77 #[.slice A1 xs.length d1,.slice A2 xs.length d2] w fun e w' => e = .returned (.bool true)∧Below w.heap.size w w':=by
 unfold maxLen at hl
 go_enter Tryz.func77,Tryz.ntmps77
 go_wp2
 go_loopw [5] (fun i wr => ∃ k:Nat,k≤xs.length∧i = .int .i64 k∧Below w.heap.size w wr) (fun i _ => xs.length - (intOf i).toNat)
 case atStart => exact ⟨0,Nat.zero_le _,rfl,Below.refl _ _⟩
 case round =>
  obtain ⟨k,hk,rfl,hb⟩:=hrel
  have hz:=hb.size
  by_cases hlt:k<xs.length
  ·have hne:xs≠[]:=by rintro rfl; simp at hlt
   obtain ⟨b1,o1,rfl,_,T1,_,_,he1⟩:=hx hne
   obtain ⟨c1,ha1,hr1⟩:=he1 k hlt
   have hl1:=ha1.lt zz28
   replace ha1:=ha1.keep (hb.block _ hl1)
   replace hr1:=Lay.later hr1 hb
   obtain ⟨b2,o2,rfl,_,T2,_,_,he2⟩:=hy hne
   obtain ⟨c2,ha2,hr2⟩:=he2 k hlt
   have hl2:=ha2.lt zz59
   replace ha2:=ha2.keep (hb.block _ hl2)
   replace hr2:=Lay.later hr2 hb
   obtain ⟨B1,k1,rfl,g1,i1,row1⟩:=open_list hr1
   have f1:=ha1 0 _ rfl; clear hr1
   simp only [show Lay.n (List Leaf)=1 from rfl,Nat.add_zero,Nat.mul_one] at f1
   obtain ⟨B2,k2,rfl,g2,i2,row2⟩:=open_list hr2
   have f2:=ha2 0 _ rfl; clear hr2
   simp only [show Lay.n (List Leaf)=1 from rfl,Nat.add_zero,Nat.mul_one] at f2
   clear he1 he2 ha1 ha2 hx hy
   go_wp2_with (fail)
   refine still_tail 8 (by kernel_rfl) (by kernel_rfl) ?_
   simp only [List.take_succ_cons,List.take_zero,List.drop_succ_cons,List.drop_zero]
   repeat still_step
   refine wpStill_nil ?_
   go_wp2_with (fail)
   refine (eq_LeafS xs[k] _ _ _ _ _ _ _ (row1.later zz4) (row2.later zz4) (Nat.le_trans g1 i1)).mono ?_
   rintro e1 w1 ⟨rfl,hb1⟩
   have hB1:Below w.heap.size w w1:=by have zh:=hb; refine Below.trans ?_ (hb1.mono ?_) <;> exact zz14
   go_wp2
   go_roundw
   case rel => exact ⟨k+1,zz13,by go_num,hB1⟩
   case measure => simp [intOf]; omega
  ·go_wp2
   go_ret; exact ⟨rfl,hb⟩
theorem eq_IntS (xs:List Int) (w:World) (A1 A2:Option Addr) (d1 d2:Nat) (S S':Blks) (hx:Row false w A1 d1 xs S) (hy:Row false w A2 d2 xs S') (hl:xs.length≤maxLen) :
  Calls Tryz.prog 78 #[.slice A1 xs.length d1,.slice A2 xs.length d2] w fun e w' => e = .returned (.bool true)∧Below w.heap.size w w':=by
 unfold maxLen at hl
 go_enter Tryz.func78,Tryz.ntmps78
 go_wp2
 go_loopw [5] (fun i wr => ∃ k:Nat,k≤xs.length∧i = .int .i64 k∧Below w.heap.size w wr) (fun i _ => xs.length - (intOf i).toNat)
 case atStart => exact ⟨0,Nat.zero_le _,rfl,Below.refl _ _⟩
 case round =>
  obtain ⟨k,hk,rfl,hb⟩:=hrel
  have hz:=hb.size
  by_cases hlt:k<xs.length
  ·have hne:xs≠[]:=by rintro rfl; simp at hlt
   obtain ⟨b1,o1,rfl,_,T1,_,_,he1⟩:=hx hne
   obtain ⟨c1,ha1,hr1⟩:=he1 k hlt
   have hl1:=ha1.lt zz28
   replace ha1:=ha1.keep (hb.block _ hl1)
   replace hr1:=Lay.later hr1 hb
   obtain ⟨b2,o2,rfl,_,T2,_,_,he2⟩:=hy hne
   obtain ⟨c2,ha2,hr2⟩:=he2 k hlt
   have hl2:=ha2.lt zz59
   replace ha2:=ha2.keep (hb.block _ hl2)
   replace hr2:=Lay.later hr2 hb
   obtain ⟨rfl,_⟩:=open_int hr1
   have f1:=ha1 0 _ rfl; clear hr1
   simp only [show Lay.n Int=1 from rfl,Nat.add_zero,Nat.mul_one] at f1
   obtain ⟨rfl,_⟩:=open_int hr2
   have f2:=ha2 0 _ rfl; clear hr2
   simp only [show Lay.n Int=1 from rfl,Nat.add_zero,Nat.mul_one] at f2
   clear he1 he2 ha1 ha2 hx hy
   go_wp2_with (fail)
   refine still_tail 8 (by kernel_rfl) (by kernel_rfl) ?_
   simp only [List.take_succ_cons,List.take_zero,List.drop_succ_cons,List.drop_zero]
   repeat still_step
   refine wpStill_nil ?_
   go_wp2
   go_roundw
   case rel => exact ⟨k+1,zz13,by go_num,by have zh:=hb; exact zz1⟩
   case measure => simp [intOf]; omega
  ·go_wp2
   go_ret; exact ⟨rfl,hb⟩
theorem eq_Change (x:Change) (w:World) (c1 c2:List Value) (S S':Blks) (hx:rd false w c1 x S) (hy:rd false w c2 x S') :
  Calls Tryz.prog 174 #[.agg c1.toArray,.agg c2.toArray] w fun e w' => e = .returned (.bool true)∧Below w.heap.size w w':=by
 obtain ⟨rfl,f0,f1,f2⟩:=Change.open hx
 obtain ⟨rfl,zf0,zf1,zf2⟩:=Change.open hy
 clear hx hy
 simp only [Change.cs]
 go_enter Tryz.func174,Tryz.ntmps174
 go_wp2_with (fail)
 go_ret; exact ⟨rfl,zz4⟩
theorem eq_ChangeS (xs:List Change) (w:World) (A1 A2:Option Addr) (d1 d2:Nat) (S S':Blks) (hx:Row false w A1 d1 xs S) (hy:Row false w A2 d2 xs S') (hl:xs.length≤maxLen) :
  Calls Tryz.prog 79 #[.slice A1 xs.length d1,.slice A2 xs.length d2] w fun e w' => e = .returned (.bool true)∧Below w.heap.size w w':=by
 unfold maxLen at hl
 go_enter Tryz.func79,Tryz.ntmps79
 go_wp2
 go_loopw [5] (fun i wr => ∃ k:Nat,k≤xs.length∧i = .int .i64 k∧Below w.heap.size w wr) (fun i _ => xs.length - (intOf i).toNat)
 case atStart => exact ⟨0,Nat.zero_le _,rfl,Below.refl _ _⟩
 case round =>
  obtain ⟨k,hk,rfl,hb⟩:=hrel
  have hz:=hb.size
  by_cases hlt:k<xs.length
  ·have hne:xs≠[]:=by rintro rfl; simp at hlt
   obtain ⟨b1,o1,rfl,_,T1,_,_,he1⟩:=hx hne
   obtain ⟨c1,ha1,hr1⟩:=he1 k hlt
   have hl1:=ha1.lt zz28
   replace ha1:=ha1.keep (hb.block _ hl1)
   replace hr1:=Lay.later hr1 hb
   obtain ⟨b2,o2,rfl,_,T2,_,_,he2⟩:=hy hne
   obtain ⟨c2,ha2,hr2⟩:=he2 k hlt
   have hl2:=ha2.lt zz59
   replace ha2:=ha2.keep (hb.block _ hl2)
   replace hr2:=Lay.later hr2 hb
   have ht1:=zd hr1
   obtain ⟨rfl,f0,f1,f2⟩:=Change.open hr1
   have q0:=ha1 0 _ rfl
   have q1:=ha1 1 _ rfl
   have q2:=ha1 2 _ rfl
   simp only [show Lay.n Change=3 from rfl,Nat.add_zero] at q0 q1 q2
   have ht2:=zd hr2
   obtain ⟨rfl,zf0,zf1,zf2⟩:=Change.open hr2
   have zq0:=ha2 0 _ rfl
   have zq1:=ha2 1 _ rfl
   have zq2:=ha2 2 _ rfl
   simp only [show Lay.n Change=3 from rfl,Nat.add_zero] at zq0 zq1 zq2
   clear he1 he2 ha1 ha2 hx hy
   go_wp2_with (fail)
   refine still_tail 8 (by kernel_rfl) (by kernel_rfl) ?_
   simp only [List.take_succ_cons,List.take_zero,List.drop_succ_cons,List.drop_zero]
   repeat still_step
   refine wpStill_nil ?_
   go_wp2_with (fail)
   refine (eq_Change xs[k] _ (Change.cs xs[k]) (Change.cs xs[k]) _ _ (Lay.later ht1.out zz4) (Lay.later ht2.out zz4)).mono ?_
   rintro e1 w1 ⟨rfl,hb1⟩
   have hB1:Below w.heap.size w w1:=by have zh:=hb; refine Below.trans ?_ (hb1.mono ?_) <;> exact zz14
   go_wp2
   go_roundw
   case rel => exact ⟨k+1,zz13,by go_num,hB1⟩
   case measure => simp [intOf]; omega
  ·go_wp2
   go_ret; exact ⟨rfl,hb⟩
theorem eq_Ready (x:Ready) (w:World) (c1 c2:List Value) (S S':Blks) (hx:rd false w c1 x S) (hy:rd false w c2 x S') :
  Calls Tryz.prog 80 #[.agg c1.toArray,.agg c2.toArray] w fun e w' => e = .returned (.bool true)∧Below w.heap.size w w':=by
 obtain ⟨rfl,f0,f1,f2⟩:=Ready.open hx
 obtain ⟨rfl,zf0,zf1,zf2⟩:=Ready.open hy
 clear hx hy
 simp only [Ready.cs]
 go_enter Tryz.func80,Tryz.ntmps80
 go_wp2_with (fail)
 go_ret; exact ⟨rfl,zz4⟩
theorem eq_Server (x:Server) (w:World) (c1 c2:List Value) (S S':Blks) (hx:rd false w c1 x S) (hy:rd false w c2 x S') :
  Calls Tryz.prog 14 #[.agg c1.toArray,.agg c2.toArray] w fun e w' => e = .returned (.bool true)∧Below w.heap.size w w':=by
 obtain ⟨A0,k0,S0,A1,k1,S1,A2,k2,S2,A3,k3,S3,rfl,f0,f1,f4,f8,f9,f10,a0,b0,r0,s0,a1,b1,r1,s1,a2,b2,r2,s2,a3,b3,r3,s3,pw⟩:=Server.open hx
 obtain ⟨zA0,zk0,zS0,zA1,zk1,zS1,zA2,zk2,zS2,zA3,zk3,zS3,rfl,zf0,zf1,zf4,zf8,zf9,zf10,za0,zb0,zr0,zs0,za1,zb1,zr1,zs1,za2,zb2,zr2,zs2,za3,zb3,zr3,zs3,zpw⟩:=Server.open hy
 clear hx hy
 simp only [Server.cs]
 go_enter Tryz.func14,Tryz.ntmps14
 go_wp2_with (fail)
 refine (eq_Disk x.disk _ _ _ _ _ (Disk.mk' (m:=false) (S:=S) a0 b0 (r0.later zz4) s0) (Disk.mk' (m:=false) (S:=S') za0 zb0 (zr0.later zz4) zs0)).mono ?_
 rintro e1 w1 ⟨rfl,hb1⟩
 have hB1:Below w.heap.size w w1:=by refine Below.trans (b:=_) ?_ (hb1.mono ?_) <;> exact zz8
 have hz1:w.heap.size+2≤w1.heap.size:=zz23
 have hc1:=fun o => hb1.cell (p:=⟨w.heap.size,o,none⟩) zz0
 have hd1:=fun o => hb1.cell (p:=⟨w.heap.size+1,o,none⟩) zz0
 go_wp2_with (fail)
 refine (eq_LeafSS x.views _ _ _ _ _ _ _ (r1.later (by have zh:=hB1; exact zz1)) (zr1.later (by have zh:=hB1; exact zz1)) (Nat.le_trans a1 b1)).mono ?_
 rintro e2 w2 ⟨rfl,hb2⟩
 have hB2:Below w.heap.size w w2:=by have zh:=hB1; refine Below.trans (b:=_) ?_ (hb2.mono ?_) <;> exact zz6
 have hz2:w.heap.size+2≤w2.heap.size:=zz45
 have hc2:=fun o => hb2.cell (p:=⟨w.heap.size,o,none⟩) zz0
 have hd2:=fun o => hb2.cell (p:=⟨w.heap.size+1,o,none⟩) zz0
 go_wp2_with (fail)
 refine (eq_IntS x.taken _ _ _ _ _ _ _ (r2.later (by have zh:=hB2; exact zz1)) (zr2.later (by have zh:=hB2; exact zz1)) (Nat.le_trans a2 b2)).mono ?_
 rintro e3 w3 ⟨rfl,hb3⟩
 have hB3:Below w.heap.size w w3:=by have zh:=hB2; refine Below.trans (b:=_) ?_ (hb3.mono ?_) <;> exact zz6
 have hz3:w.heap.size+2≤w3.heap.size:=zz55
 have hc3:=fun o => hb3.cell (p:=⟨w.heap.size,o,none⟩) zz0
 have hd3:=fun o => hb3.cell (p:=⟨w.heap.size+1,o,none⟩) zz0
 go_wp2_with (fail)
 refine (eq_ChangeS x.all _ _ _ _ _ _ _ (r3.later (by have zh:=hB3; exact zz1)) (zr3.later (by have zh:=hB3; exact zz1)) (Nat.le_trans a3 b3)).mono ?_
 rintro e4 w4 ⟨rfl,hb4⟩
 have hB4:Below w.heap.size w w4:=by have zh:=hB3; refine Below.trans (b:=_) ?_ (hb4.mono ?_) <;> exact zz6
 have hz4:w.heap.size+2≤w4.heap.size:=zz57
 have hc4:=fun o => hb4.cell (p:=⟨w.heap.size,o,none⟩) zz0
 have hd4:=fun o => hb4.cell (p:=⟨w.heap.size+1,o,none⟩) zz0
 go_wp2_with (fail)
 refine (eq_Ready x.ready _ _ _ _ _ (Ready.mk' (m:=false) (S:=S) f8 f9 f10) (Ready.mk' (m:=false) (S:=S') zf8 zf9 zf10)).mono ?_
 rintro e5 w5 ⟨rfl,hb5⟩
 have hB5:Below w.heap.size w w5:=by have zh:=hB4; refine Below.trans (b:=_) ?_ (hb5.mono ?_) <;> exact zz6
 have hz5:w.heap.size+2≤w5.heap.size:=zz78
 have hc5:=fun o => hb5.cell (p:=⟨w.heap.size,o,none⟩) zz0
 have hd5:=fun o => hb5.cell (p:=⟨w.heap.size+1,o,none⟩) zz0
 go_wp2_with (fail)
 go_ret; exact ⟨rfl,by have zh:=hB5; exact zz1⟩
theorem eq_Trust (x:Trust) (w:World) (c1 c2:List Value) (S S':Blks) (hx:rd false w c1 x S) (hy:rd false w c2 x S') :
  Calls Tryz.prog 25 #[.agg c1.toArray,.agg c2.toArray] w fun e w' => e = .returned (.bool true)∧Below w.heap.size w w':=by
 obtain ⟨A0,k0,S0,rfl,f1,f2,a0,b0,r0,s0⟩:=Trust.open hx
 obtain ⟨zA0,zk0,zS0,rfl,zf1,zf2,za0,zb0,zr0,zs0⟩:=Trust.open hy
 clear hx hy
 simp only [Trust.cs]
 go_enter Tryz.func25,Tryz.ntmps25
 go_wp2_with (fail)
 refine (eq_StringS x.roots _ _ _ _ _ _ _ (r0.later zz4) (zr0.later zz4) (Nat.le_trans a0 b0)).mono ?_
 rintro e1 w1 ⟨rfl,hb1⟩
 have hB1:Below w.heap.size w w1:=by refine Below.trans (b:=_) ?_ (hb1.mono ?_) <;> exact zz8
 have hz1:w.heap.size+2≤w1.heap.size:=zz23
 have hc1:=fun o => hb1.cell (p:=⟨w.heap.size,o,none⟩) zz0
 have hd1:=fun o => hb1.cell (p:=⟨w.heap.size+1,o,none⟩) zz0
 go_wp2_with (fail)
 go_ret; exact ⟨rfl,by have zh:=hB1; exact zz1⟩
theorem eq_Head (x:Head) (w:World) (c1 c2:List Value) (S S':Blks) (hx:rd false w c1 x S) (hy:rd false w c2 x S') :
  Calls Tryz.prog 202 #[.agg c1.toArray,.agg c2.toArray] w fun e w' => e = .returned (.bool true)∧Below w.heap.size w w':=by
 obtain ⟨rfl,f0,f1,f2,f3⟩:=Head.open hx
 obtain ⟨rfl,zf0,zf1,zf2,zf3⟩:=Head.open hy
 clear hx hy
 simp only [Head.cs]
 go_enter Tryz.func202,Tryz.ntmps202
 go_wp2_with (fail)
 go_ret; exact ⟨rfl,zz4⟩
theorem eq_Sig (x:Sig) (w:World) (c1 c2:List Value) (S S':Blks) (hx:rd false w c1 x S) (hy:rd false w c2 x S') :
  Calls Tryz.prog 203 #[.agg c1.toArray,.agg c2.toArray] w fun e w' => e = .returned (.bool true)∧Below w.heap.size w w':=by
 obtain ⟨A0,k0,S0,A1,k1,S1,A2,k2,S2,rfl,f0,a0,b0,r0,s0,a1,b1,r1,s1,a2,b2,r2,s2,pw⟩:=Sig.open hx
 obtain ⟨zA0,zk0,zS0,zA1,zk1,zS1,zA2,zk2,zS2,rfl,zf0,za0,zb0,zr0,zs0,za1,zb1,zr1,zs1,za2,zb2,zr2,zs2,zpw⟩:=Sig.open hy
 clear hx hy
 simp only [Sig.cs]
 go_enter Tryz.func203,Tryz.ntmps203
 go_wp2_with (fail)
 refine (eq_StringS x.open_ _ _ _ _ _ _ _ (r0.later zz4) (zr0.later zz4) (Nat.le_trans a0 b0)).mono ?_
 rintro e1 w1 ⟨rfl,hb1⟩
 have hB1:Below w.heap.size w w1:=by refine Below.trans (b:=_) ?_ (hb1.mono ?_) <;> exact zz8
 have hz1:w.heap.size+2≤w1.heap.size:=zz23
 have hc1:=fun o => hb1.cell (p:=⟨w.heap.size,o,none⟩) zz0
 have hd1:=fun o => hb1.cell (p:=⟨w.heap.size+1,o,none⟩) zz0
 go_wp2_with (fail)
 refine (eq_StringS x.shut _ _ _ _ _ _ _ (r1.later (by have zh:=hB1; exact zz1)) (zr1.later (by have zh:=hB1; exact zz1)) (Nat.le_trans a1 b1)).mono ?_
 rintro e2 w2 ⟨rfl,hb2⟩
 have hB2:Below w.heap.size w w2:=by have zh:=hB1; refine Below.trans (b:=_) ?_ (hb2.mono ?_) <;> exact zz6
 have hz2:w.heap.size+2≤w2.heap.size:=zz45
 have hc2:=fun o => hb2.cell (p:=⟨w.heap.size,o,none⟩) zz0
 have hd2:=fun o => hb2.cell (p:=⟨w.heap.size+1,o,none⟩) zz0
 go_wp2_with (fail)
 refine (eq_StringS x.sides _ _ _ _ _ _ _ (r2.later (by have zh:=hB2; exact zz1)) (zr2.later (by have zh:=hB2; exact zz1)) (Nat.le_trans a2 b2)).mono ?_
 rintro e3 w3 ⟨rfl,hb3⟩
 have hB3:Below w.heap.size w w3:=by have zh:=hB2; refine Below.trans (b:=_) ?_ (hb3.mono ?_) <;> exact zz6
 have hz3:w.heap.size+2≤w3.heap.size:=zz55
 have hc3:=fun o => hb3.cell (p:=⟨w.heap.size,o,none⟩) zz0
 have hd3:=fun o => hb3.cell (p:=⟨w.heap.size+1,o,none⟩) zz0
 go_wp2_with (fail)
 go_ret; exact ⟨rfl,by have zh:=hB3; exact zz1⟩
theorem eq_Seal (x:Seal) (w:World) (c1 c2:List Value) (S S':Blks) (hx:rd false w c1 x S) (hy:rd false w c2 x S') :
  Calls Tryz.prog 113 #[.agg c1.toArray,.agg c2.toArray] w fun e w' => e = .returned (.bool true)∧Below w.heap.size w w':=by
 obtain ⟨A0,k0,S0,A1,k1,S1,A2,k2,S2,rfl,f0,f1,f2,f3,f4,a0,b0,r0,s0,a1,b1,r1,s1,a2,b2,r2,s2,pw⟩:=Seal.open hx
 obtain ⟨zA0,zk0,zS0,zA1,zk1,zS1,zA2,zk2,zS2,rfl,zf0,zf1,zf2,zf3,zf4,za0,zb0,zr0,zs0,za1,zb1,zr1,zs1,za2,zb2,zr2,zs2,zpw⟩:=Seal.open hy
 clear hx hy
 simp only [Seal.cs]
 go_enter Tryz.func113,Tryz.ntmps113
 go_wp2_with (fail)
 refine (eq_Head x.head _ _ _ _ _ (Head.mk' (m:=false) (S:=S) f0 f1 f2 f3) (Head.mk' (m:=false) (S:=S') zf0 zf1 zf2 zf3)).mono ?_
 rintro e1 w1 ⟨rfl,hb1⟩
 have hB1:Below w.heap.size w w1:=by refine Below.trans (b:=_) ?_ (hb1.mono ?_) <;> exact zz8
 have hz1:w.heap.size+2≤w1.heap.size:=zz23
 have hc1:=fun o => hb1.cell (p:=⟨w.heap.size,o,none⟩) zz0
 have hd1:=fun o => hb1.cell (p:=⟨w.heap.size+1,o,none⟩) zz0
 go_wp2_with (fail)
 refine (eq_Sig x.sig _ _ _ _ _ (Sig.mk' (m:=false) (S:=S) f4 a0 b0 (r0.later (by have zh:=hB1; exact zz1)) s0 a1 b1 (r1.later (by have zh:=hB1; exact zz1)) s1 a2 b2 (r2.later (by have zh:=hB1; exact zz1)) s2 zz30) (Sig.mk' (m:=false) (S:=S') zf4 za0 zb0 (zr0.later (by have zh:=hB1; exact zz1)) zs0 za1 zb1 (zr1.later (by have zh:=hB1; exact zz1)) zs1 za2 zb2 (zr2.later (by have zh:=hB1; exact zz1)) zs2 zz30)).mono ?_
 rintro e2 w2 ⟨rfl,hb2⟩
 have hB2:Below w.heap.size w w2:=by have zh:=hB1; refine Below.trans (b:=_) ?_ (hb2.mono ?_) <;> exact zz6
 have hz2:w.heap.size+2≤w2.heap.size:=zz45
 have hc2:=fun o => hb2.cell (p:=⟨w.heap.size,o,none⟩) zz0
 have hd2:=fun o => hb2.cell (p:=⟨w.heap.size+1,o,none⟩) zz0
 go_wp2_with (fail)
 go_ret; exact ⟨rfl,by have zh:=hB2; exact zz1⟩
theorem eq_Stamp (x:Stamp) (w:World) (c1 c2:List Value) (S S':Blks) (hx:rd false w c1 x S) (hy:rd false w c2 x S') :
  Calls Tryz.prog 204 #[.agg c1.toArray,.agg c2.toArray] w fun e w' => e = .returned (.bool true)∧Below w.heap.size w w':=by
 obtain ⟨A0,k0,S0,A1,k1,S1,A2,k2,S2,rfl,f0,f1,a0,b0,r0,s0,a1,b1,r1,s1,a2,b2,r2,s2,pw⟩:=Stamp.open hx
 obtain ⟨zA0,zk0,zS0,zA1,zk1,zS1,zA2,zk2,zS2,rfl,zf0,zf1,za0,zb0,zr0,zs0,za1,zb1,zr1,zs1,za2,zb2,zr2,zs2,zpw⟩:=Stamp.open hy
 clear hx hy
 simp only [Stamp.cs]
 go_enter Tryz.func204,Tryz.ntmps204
 go_wp2_with (fail)
 refine (eq_Sig x.sig _ _ _ _ _ (Sig.mk' (m:=false) (S:=S) f1 a0 b0 (r0.later zz4) s0 a1 b1 (r1.later zz4) s1 a2 b2 (r2.later zz4) s2 zz30) (Sig.mk' (m:=false) (S:=S') zf1 za0 zb0 (zr0.later zz4) zs0 za1 zb1 (zr1.later zz4) zs1 za2 zb2 (zr2.later zz4) zs2 zz30)).mono ?_
 rintro e1 w1 ⟨rfl,hb1⟩
 have hB1:Below w.heap.size w w1:=by refine Below.trans (b:=_) ?_ (hb1.mono ?_) <;> exact zz8
 have hz1:w.heap.size+2≤w1.heap.size:=zz23
 have hc1:=fun o => hb1.cell (p:=⟨w.heap.size,o,none⟩) zz0
 have hd1:=fun o => hb1.cell (p:=⟨w.heap.size+1,o,none⟩) zz0
 go_wp2_with (fail)
 go_ret; exact ⟨rfl,by have zh:=hB1; exact zz1⟩
theorem eq_SealS (xs:List Seal) (w:World) (A1 A2:Option Addr) (d1 d2:Nat) (S S':Blks) (hx:Row false w A1 d1 xs S) (hy:Row false w A2 d2 xs S') (hl:xs.length≤maxLen) :
  Calls Tryz.prog 40 #[.slice A1 xs.length d1,.slice A2 xs.length d2] w fun e w' => e = .returned (.bool true)∧Below w.heap.size w w':=by
 unfold maxLen at hl
 go_enter Tryz.func40,Tryz.ntmps40
 go_wp2
 go_loopw [5] (fun i wr => ∃ k:Nat,k≤xs.length∧i = .int .i64 k∧Below w.heap.size w wr) (fun i _ => xs.length - (intOf i).toNat)
 case atStart => exact ⟨0,Nat.zero_le _,rfl,Below.refl _ _⟩
 case round =>
  obtain ⟨k,hk,rfl,hb⟩:=hrel
  have hz:=hb.size
  by_cases hlt:k<xs.length
  ·have hne:xs≠[]:=by rintro rfl; simp at hlt
   obtain ⟨b1,o1,rfl,_,T1,_,_,he1⟩:=hx hne
   obtain ⟨c1,ha1,hr1⟩:=he1 k hlt
   have hl1:=ha1.lt zz28
   replace ha1:=ha1.keep (hb.block _ hl1)
   replace hr1:=Lay.later hr1 hb
   obtain ⟨b2,o2,rfl,_,T2,_,_,he2⟩:=hy hne
   obtain ⟨c2,ha2,hr2⟩:=he2 k hlt
   have hl2:=ha2.lt zz59
   replace ha2:=ha2.keep (hb.block _ hl2)
   replace hr2:=Lay.later hr2 hb
   have ht1:=zd hr1
   obtain ⟨A0,k0,S0,A1,k1,S1,A2,k2,S2,rfl,f0,f1,f2,f3,f4,a0,b0,r0,s0,a1,b1,r1,s1,a2,b2,r2,s2,pw⟩:=Seal.open hr1
   have q0:=ha1 0 _ rfl
   have q1:=ha1 1 _ rfl
   have q2:=ha1 2 _ rfl
   have q3:=ha1 3 _ rfl
   have q4:=ha1 4 _ rfl
   have q5:=ha1 5 _ rfl
   have q6:=ha1 6 _ rfl
   have q7:=ha1 7 _ rfl
   simp only [show Lay.n Seal=8 from rfl,Nat.add_zero] at q0 q1 q2 q3 q4 q5 q6 q7
   have ht2:=zd hr2
   obtain ⟨zA0,zk0,zS0,zA1,zk1,zS1,zA2,zk2,zS2,rfl,zf0,zf1,zf2,zf3,zf4,za0,zb0,zr0,zs0,za1,zb1,zr1,zs1,za2,zb2,zr2,zs2,zpw⟩:=Seal.open hr2
   have zq0:=ha2 0 _ rfl
   have zq1:=ha2 1 _ rfl
   have zq2:=ha2 2 _ rfl
   have zq3:=ha2 3 _ rfl
   have zq4:=ha2 4 _ rfl
   have zq5:=ha2 5 _ rfl
   have zq6:=ha2 6 _ rfl
   have zq7:=ha2 7 _ rfl
   simp only [show Lay.n Seal=8 from rfl,Nat.add_zero] at zq0 zq1 zq2 zq3 zq4 zq5 zq6 zq7
   clear he1 he2 ha1 ha2 hx hy
   go_wp2_with (fail)
   refine still_tail 8 (by kernel_rfl) (by kernel_rfl) ?_
   simp only [List.take_succ_cons,List.take_zero,List.drop_succ_cons,List.drop_zero]
   repeat still_step
   refine wpStill_nil ?_
   go_wp2_with (fail)
   refine (eq_Seal xs[k] _ (Seal.cs xs[k] A0 k0 A1 k1 A2 k2) (Seal.cs xs[k] zA0 zk0 zA1 zk1 zA2 zk2) _ _ (Lay.later ht1.out zz4) (Lay.later ht2.out zz4)).mono ?_
   rintro e1 w1 ⟨rfl,hb1⟩
   have hB1:Below w.heap.size w w1:=by have zh:=hb; refine Below.trans ?_ (hb1.mono ?_) <;> exact zz14
   go_wp2
   go_roundw
   case rel => exact ⟨k+1,zz13,by go_num,hB1⟩
   case measure => simp [intOf]; omega
  ·go_wp2
   go_ret; exact ⟨rfl,hb⟩
theorem eq_BoolS (xs:List Bool) (w:World) (A1 A2:Option Addr) (d1 d2:Nat) (S S':Blks) (hx:Row false w A1 d1 xs S) (hy:Row false w A2 d2 xs S') (hl:xs.length≤maxLen) :
  Calls Tryz.prog 145 #[.slice A1 xs.length d1,.slice A2 xs.length d2] w fun e w' => e = .returned (.bool true)∧Below w.heap.size w w':=by
 unfold maxLen at hl
 go_enter Tryz.func145,Tryz.ntmps145
 go_wp2
 go_loopw [5] (fun i wr => ∃ k:Nat,k≤xs.length∧i = .int .i64 k∧Below w.heap.size w wr) (fun i _ => xs.length - (intOf i).toNat)
 case atStart => exact ⟨0,Nat.zero_le _,rfl,Below.refl _ _⟩
 case round =>
  obtain ⟨k,hk,rfl,hb⟩:=hrel
  have hz:=hb.size
  by_cases hlt:k<xs.length
  ·have hne:xs≠[]:=by rintro rfl; simp at hlt
   obtain ⟨b1,o1,rfl,_,T1,_,_,he1⟩:=hx hne
   obtain ⟨c1,ha1,hr1⟩:=he1 k hlt
   have hl1:=ha1.lt zz28
   replace ha1:=ha1.keep (hb.block _ hl1)
   replace hr1:=Lay.later hr1 hb
   obtain ⟨b2,o2,rfl,_,T2,_,_,he2⟩:=hy hne
   obtain ⟨c2,ha2,hr2⟩:=he2 k hlt
   have hl2:=ha2.lt zz59
   replace ha2:=ha2.keep (hb.block _ hl2)
   replace hr2:=Lay.later hr2 hb
   obtain rfl:=open_bool hr1
   have f1:=ha1 0 _ rfl; clear hr1
   simp only [show Lay.n Bool=1 from rfl,Nat.add_zero,Nat.mul_one] at f1
   obtain rfl:=open_bool hr2
   have f2:=ha2 0 _ rfl; clear hr2
   simp only [show Lay.n Bool=1 from rfl,Nat.add_zero,Nat.mul_one] at f2
   clear he1 he2 ha1 ha2 hx hy
   go_wp2_with (fail)
   refine still_tail 8 (by kernel_rfl) (by kernel_rfl) ?_
   simp only [List.take_succ_cons,List.take_zero,List.drop_succ_cons,List.drop_zero]
   repeat still_step
   refine wpStill_nil ?_
   go_wp2
   go_roundw
   case rel => exact ⟨k+1,zz13,by go_num,by have zh:=hb; exact zz1⟩
   case measure => simp [intOf]; omega
  ·go_wp2
   go_ret; exact ⟨rfl,hb⟩
theorem eq_Coord (x:Coord) (w:World) (c1 c2:List Value) (S S':Blks) (hx:rd false w c1 x S) (hy:rd false w c2 x S') :
  Calls Tryz.prog 275 #[.agg c1.toArray,.agg c2.toArray] w fun e w' => e = .returned (.bool true)∧Below w.heap.size w w':=by
 obtain ⟨A0,k0,S0,A1,k1,S1,A2,k2,S2,A3,k3,S3,A4,k4,S4,A5,k5,S5,rfl,f0,f1,f7,a0,b0,r0,s0,a1,b1,r1,s1,a2,b2,r2,s2,a3,b3,r3,s3,a4,b4,r4,s4,a5,b5,r5,s5,pw⟩:=Coord.open hx
 obtain ⟨zA0,zk0,zS0,zA1,zk1,zS1,zA2,zk2,zS2,zA3,zk3,zS3,zA4,zk4,zS4,zA5,zk5,zS5,rfl,zf0,zf1,zf7,za0,zb0,zr0,zs0,za1,zb1,zr1,zs1,za2,zb2,zr2,zs2,za3,zb3,zr3,zs3,za4,zb4,zr4,zs4,za5,zb5,zr5,zs5,zpw⟩:=Coord.open hy
 clear hx hy
 simp only [Coord.cs]
 go_enter Tryz.func275,Tryz.ntmps275
 go_wp2_with (fail)
 refine (eq_Disk x.disk _ _ _ _ _ (Disk.mk' (m:=false) (S:=S) a0 b0 (r0.later zz4) s0) (Disk.mk' (m:=false) (S:=S') za0 zb0 (zr0.later zz4) zs0)).mono ?_
 rintro e1 w1 ⟨rfl,hb1⟩
 have hB1:Below w.heap.size w w1:=by refine Below.trans (b:=_) ?_ (hb1.mono ?_) <;> exact zz8
 have hz1:w.heap.size+2≤w1.heap.size:=zz23
 have hc1:=fun o => hb1.cell (p:=⟨w.heap.size,o,none⟩) zz0
 have hd1:=fun o => hb1.cell (p:=⟨w.heap.size+1,o,none⟩) zz0
 go_wp2_with (fail)
 refine (eq_StringS x.pool _ _ _ _ _ _ _ (r1.later (by have zh:=hB1; exact zz1)) (zr1.later (by have zh:=hB1; exact zz1)) (Nat.le_trans a1 b1)).mono ?_
 rintro e2 w2 ⟨rfl,hb2⟩
 have hB2:Below w.heap.size w w2:=by have zh:=hB1; refine Below.trans (b:=_) ?_ (hb2.mono ?_) <;> exact zz6
 have hz2:w.heap.size+2≤w2.heap.size:=zz45
 have hc2:=fun o => hb2.cell (p:=⟨w.heap.size,o,none⟩) zz0
 have hd2:=fun o => hb2.cell (p:=⟨w.heap.size+1,o,none⟩) zz0
 go_wp2_with (fail)
 refine (eq_SealS x.seals _ _ _ _ _ _ _ (r2.later (by have zh:=hB2; exact zz1)) (zr2.later (by have zh:=hB2; exact zz1)) (Nat.le_trans a2 b2)).mono ?_
 rintro e3 w3 ⟨rfl,hb3⟩
 have hB3:Below w.heap.size w w3:=by have zh:=hB2; refine Below.trans (b:=_) ?_ (hb3.mono ?_) <;> exact zz6
 have hz3:w.heap.size+2≤w3.heap.size:=zz55
 have hc3:=fun o => hb3.cell (p:=⟨w.heap.size,o,none⟩) zz0
 have hd3:=fun o => hb3.cell (p:=⟨w.heap.size+1,o,none⟩) zz0
 go_wp2_with (fail)
 refine (eq_IntS x.tries _ _ _ _ _ _ _ (r3.later (by have zh:=hB3; exact zz1)) (zr3.later (by have zh:=hB3; exact zz1)) (Nat.le_trans a3 b3)).mono ?_
 rintro e4 w4 ⟨rfl,hb4⟩
 have hB4:Below w.heap.size w w4:=by have zh:=hB3; refine Below.trans (b:=_) ?_ (hb4.mono ?_) <;> exact zz6
 have hz4:w.heap.size+2≤w4.heap.size:=zz57
 have hc4:=fun o => hb4.cell (p:=⟨w.heap.size,o,none⟩) zz0
 have hd4:=fun o => hb4.cell (p:=⟨w.heap.size+1,o,none⟩) zz0
 go_wp2_with (fail)
 refine (eq_StringS x.votes _ _ _ _ _ _ _ (r4.later (by have zh:=hB4; exact zz1)) (zr4.later (by have zh:=hB4; exact zz1)) (Nat.le_trans a4 b4)).mono ?_
 rintro e5 w5 ⟨rfl,hb5⟩
 have hB5:Below w.heap.size w w5:=by have zh:=hB4; refine Below.trans (b:=_) ?_ (hb5.mono ?_) <;> exact zz6
 have hz5:w.heap.size+2≤w5.heap.size:=zz78
 have hc5:=fun o => hb5.cell (p:=⟨w.heap.size,o,none⟩) zz0
 have hd5:=fun o => hb5.cell (p:=⟨w.heap.size+1,o,none⟩) zz0
 go_wp2_with (fail)
 refine (eq_BoolS x.dones _ _ _ _ _ _ _ (r5.later (by have zh:=hB5; exact zz1)) (zr5.later (by have zh:=hB5; exact zz1)) (Nat.le_trans a5 b5)).mono ?_
 rintro e6 w6 ⟨rfl,hb6⟩
 have hB6:Below w.heap.size w w6:=by have zh:=hB5; refine Below.trans (b:=_) ?_ (hb6.mono ?_) <;> exact zz6
 have hz6:w.heap.size+2≤w6.heap.size:=by have:=hb6.size; (try simp at this); omega
 have hc6:=fun o => hb6.cell (p:=⟨w.heap.size,o,none⟩) zz0
 have hd6:=fun o => hb6.cell (p:=⟨w.heap.size+1,o,none⟩) zz0
 go_wp2_with (fail)
 go_ret; exact ⟨rfl,by have zh:=hB6; exact zz1⟩
theorem eq_ServerS (xs:List Server) (w:World) (A1 A2:Option Addr) (d1 d2:Nat) (S S':Blks) (hx:Row false w A1 d1 xs S) (hy:Row false w A2 d2 xs S') (hl:xs.length≤maxLen) :
  Calls Tryz.prog 276 #[.slice A1 xs.length d1,.slice A2 xs.length d2] w fun e w' => e = .returned (.bool true)∧Below w.heap.size w w':=by
 unfold maxLen at hl
 go_enter Tryz.func276,Tryz.ntmps276
 go_wp2
 go_loopw [5] (fun i wr => ∃ k:Nat,k≤xs.length∧i = .int .i64 k∧Below w.heap.size w wr) (fun i _ => xs.length - (intOf i).toNat)
 case atStart => exact ⟨0,Nat.zero_le _,rfl,Below.refl _ _⟩
 case round =>
  obtain ⟨k,hk,rfl,hb⟩:=hrel
  have hz:=hb.size
  by_cases hlt:k<xs.length
  ·have hne:xs≠[]:=by rintro rfl; simp at hlt
   obtain ⟨b1,o1,rfl,_,T1,_,_,he1⟩:=hx hne
   obtain ⟨c1,ha1,hr1⟩:=he1 k hlt
   have hl1:=ha1.lt zz28
   replace ha1:=ha1.keep (hb.block _ hl1)
   replace hr1:=Lay.later hr1 hb
   obtain ⟨b2,o2,rfl,_,T2,_,_,he2⟩:=hy hne
   obtain ⟨c2,ha2,hr2⟩:=he2 k hlt
   have hl2:=ha2.lt zz59
   replace ha2:=ha2.keep (hb.block _ hl2)
   replace hr2:=Lay.later hr2 hb
   have ht1:=zd hr1
   obtain ⟨A0,k0,S0,A1,k1,S1,A2,k2,S2,A3,k3,S3,rfl,f0,f1,f4,f8,f9,f10,a0,b0,r0,s0,a1,b1,r1,s1,a2,b2,r2,s2,a3,b3,r3,s3,pw⟩:=Server.open hr1
   have q0:=ha1 0 _ rfl
   have q1:=ha1 1 _ rfl
   have q2:=ha1 2 _ rfl
   have q3:=ha1 3 _ rfl
   have q4:=ha1 4 _ rfl
   have q5:=ha1 5 _ rfl
   have q6:=ha1 6 _ rfl
   have q7:=ha1 7 _ rfl
   have q8:=ha1 8 _ rfl
   have q9:=ha1 9 _ rfl
   have q10:=ha1 10 _ rfl
   simp only [show Lay.n Server=11 from rfl,Nat.add_zero] at q0 q1 q2 q3 q4 q5 q6 q7 q8 q9 q10
   have ht2:=zd hr2
   obtain ⟨zA0,zk0,zS0,zA1,zk1,zS1,zA2,zk2,zS2,zA3,zk3,zS3,rfl,zf0,zf1,zf4,zf8,zf9,zf10,za0,zb0,zr0,zs0,za1,zb1,zr1,zs1,za2,zb2,zr2,zs2,za3,zb3,zr3,zs3,zpw⟩:=Server.open hr2
   have zq0:=ha2 0 _ rfl
   have zq1:=ha2 1 _ rfl
   have zq2:=ha2 2 _ rfl
   have zq3:=ha2 3 _ rfl
   have zq4:=ha2 4 _ rfl
   have zq5:=ha2 5 _ rfl
   have zq6:=ha2 6 _ rfl
   have zq7:=ha2 7 _ rfl
   have zq8:=ha2 8 _ rfl
   have zq9:=ha2 9 _ rfl
   have zq10:=ha2 10 _ rfl
   simp only [show Lay.n Server=11 from rfl,Nat.add_zero] at zq0 zq1 zq2 zq3 zq4 zq5 zq6 zq7 zq8 zq9 zq10
   clear he1 he2 ha1 ha2 hx hy
   go_wp2_with (fail)
   refine still_tail 8 (by kernel_rfl) (by kernel_rfl) ?_
   simp only [List.take_succ_cons,List.take_zero,List.drop_succ_cons,List.drop_zero]
   repeat still_step
   refine wpStill_nil ?_
   go_wp2_with (fail)
   refine (eq_Server xs[k] _ (Server.cs xs[k] A0 k0 A1 k1 A2 k2 A3 k3) (Server.cs xs[k] zA0 zk0 zA1 zk1 zA2 zk2 zA3 zk3) _ _ (Lay.later ht1.out zz4) (Lay.later ht2.out zz4)).mono ?_
   rintro e1 w1 ⟨rfl,hb1⟩
   have hB1:Below w.heap.size w w1:=by have zh:=hb; refine Below.trans ?_ (hb1.mono ?_) <;> exact zz14
   go_wp2
   go_roundw
   case rel => exact ⟨k+1,zz13,by go_num,hB1⟩
   case measure => simp [intOf]; omega
  ·go_wp2
   go_ret; exact ⟨rfl,hb⟩
theorem eq_House (x:House) (w:World) (c1 c2:List Value) (S S':Blks) (hx:rd false w c1 x S) (hy:rd false w c2 x S') :
  Calls Tryz.prog 223 #[.agg c1.toArray,.agg c2.toArray] w fun e w' => e = .returned (.bool true)∧Below w.heap.size w w':=by
 obtain ⟨A0,k0,S0,A1,k1,S1,A2,k2,S2,A3,k3,S3,A4,k4,S4,A5,k5,S5,A6,k6,S6,A7,k7,S7,A8,k8,S8,rfl,f0,f1,f7,a0,b0,r0,s0,a1,b1,r1,s1,a2,b2,r2,s2,a3,b3,r3,s3,a4,b4,r4,s4,a5,b5,r5,s5,a6,b6,r6,s6,a7,b7,r7,s7,a8,b8,r8,s8,pw⟩:=House.open hx
 obtain ⟨zA0,zk0,zS0,zA1,zk1,zS1,zA2,zk2,zS2,zA3,zk3,zS3,zA4,zk4,zS4,zA5,zk5,zS5,zA6,zk6,zS6,zA7,zk7,zS7,zA8,zk8,zS8,rfl,zf0,zf1,zf7,za0,zb0,zr0,zs0,za1,zb1,zr1,zs1,za2,zb2,zr2,zs2,za3,zb3,zr3,zs3,za4,zb4,zr4,zs4,za5,zb5,zr5,zs5,za6,zb6,zr6,zs6,za7,zb7,zr7,zs7,za8,zb8,zr8,zs8,zpw⟩:=House.open hy
 clear hx hy
 simp only [House.cs]
 go_enter Tryz.func223,Tryz.ntmps223
 go_wp2_with (fail)
 refine (eq_Coord x.coord _ _ _ _ _ (Coord.mk' (m:=false) (S:=S) f0 f1 a0 b0 (r0.later zz4) s0 a1 b1 (r1.later zz4) s1 a2 b2 (r2.later zz4) s2 a3 b3 (r3.later zz4) s3 f7 a4 b4 (r4.later zz4) s4 a5 b5 (r5.later zz4) s5 zz30) (Coord.mk' (m:=false) (S:=S') zf0 zf1 za0 zb0 (zr0.later zz4) zs0 za1 zb1 (zr1.later zz4) zs1 za2 zb2 (zr2.later zz4) zs2 za3 zb3 (zr3.later zz4) zs3 zf7 za4 zb4 (zr4.later zz4) zs4 za5 zb5 (zr5.later zz4) zs5 zz30)).mono ?_
 rintro e1 w1 ⟨rfl,hb1⟩
 have hB1:Below w.heap.size w w1:=by refine Below.trans (b:=_) ?_ (hb1.mono ?_) <;> exact zz8
 have hz1:w.heap.size+2≤w1.heap.size:=zz23
 have hc1:=fun o => hb1.cell (p:=⟨w.heap.size,o,none⟩) zz0
 have hd1:=fun o => hb1.cell (p:=⟨w.heap.size+1,o,none⟩) zz0
 go_wp2_with (fail)
 refine (eq_ServerS x.servers _ _ _ _ _ _ _ (r6.later (by have zh:=hB1; exact zz1)) (zr6.later (by have zh:=hB1; exact zz1)) (Nat.le_trans a6 b6)).mono ?_
 rintro e2 w2 ⟨rfl,hb2⟩
 have hB2:Below w.heap.size w w2:=by have zh:=hB1; refine Below.trans (b:=_) ?_ (hb2.mono ?_) <;> exact zz6
 have hz2:w.heap.size+2≤w2.heap.size:=zz45
 have hc2:=fun o => hb2.cell (p:=⟨w.heap.size,o,none⟩) zz0
 have hd2:=fun o => hb2.cell (p:=⟨w.heap.size+1,o,none⟩) zz0
 go_wp2_with (fail)
 refine (eq_StringS x.net _ _ _ _ _ _ _ (r7.later (by have zh:=hB2; exact zz1)) (zr7.later (by have zh:=hB2; exact zz1)) (Nat.le_trans a7 b7)).mono ?_
 rintro e3 w3 ⟨rfl,hb3⟩
 have hB3:Below w.heap.size w w3:=by have zh:=hB2; refine Below.trans (b:=_) ?_ (hb3.mono ?_) <;> exact zz6
 have hz3:w.heap.size+2≤w3.heap.size:=zz55
 have hc3:=fun o => hb3.cell (p:=⟨w.heap.size,o,none⟩) zz0
 have hd3:=fun o => hb3.cell (p:=⟨w.heap.size+1,o,none⟩) zz0
 go_wp2_with (fail)
 refine (eq_IntS x.codes _ _ _ _ _ _ _ (r8.later (by have zh:=hB3; exact zz1)) (zr8.later (by have zh:=hB3; exact zz1)) (Nat.le_trans a8 b8)).mono ?_
 rintro e4 w4 ⟨rfl,hb4⟩
 have hB4:Below w.heap.size w w4:=by have zh:=hB3; refine Below.trans (b:=_) ?_ (hb4.mono ?_) <;> exact zz6
 have hz4:w.heap.size+2≤w4.heap.size:=zz57
 have hc4:=fun o => hb4.cell (p:=⟨w.heap.size,o,none⟩) zz0
 have hd4:=fun o => hb4.cell (p:=⟨w.heap.size+1,o,none⟩) zz0
 go_wp2_with (fail)
 go_ret; exact ⟨rfl,by have zh:=hB4; exact zz1⟩
theorem eq_HouseS (xs:List House) (w:World) (A1 A2:Option Addr) (d1 d2:Nat) (S S':Blks) (hx:Row false w A1 d1 xs S) (hy:Row false w A2 d2 xs S') (hl:xs.length≤maxLen) :
  Calls Tryz.prog 141 #[.slice A1 xs.length d1,.slice A2 xs.length d2] w fun e w' => e = .returned (.bool true)∧Below w.heap.size w w':=by
 unfold maxLen at hl
 go_enter Tryz.func141,Tryz.ntmps141
 go_wp2
 go_loopw [5] (fun i wr => ∃ k:Nat,k≤xs.length∧i = .int .i64 k∧Below w.heap.size w wr) (fun i _ => xs.length - (intOf i).toNat)
 case atStart => exact ⟨0,Nat.zero_le _,rfl,Below.refl _ _⟩
 case round =>
  obtain ⟨k,hk,rfl,hb⟩:=hrel
  have hz:=hb.size
  by_cases hlt:k<xs.length
  ·have hne:xs≠[]:=by rintro rfl; simp at hlt
   obtain ⟨b1,o1,rfl,_,T1,_,_,he1⟩:=hx hne
   obtain ⟨c1,ha1,hr1⟩:=he1 k hlt
   have hl1:=ha1.lt zz28
   replace ha1:=ha1.keep (hb.block _ hl1)
   replace hr1:=Lay.later hr1 hb
   obtain ⟨b2,o2,rfl,_,T2,_,_,he2⟩:=hy hne
   obtain ⟨c2,ha2,hr2⟩:=he2 k hlt
   have hl2:=ha2.lt zz59
   replace ha2:=ha2.keep (hb.block _ hl2)
   replace hr2:=Lay.later hr2 hb
   have ht1:=zd hr1
   obtain ⟨A0,k0,S0,A1,k1,S1,A2,k2,S2,A3,k3,S3,A4,k4,S4,A5,k5,S5,A6,k6,S6,A7,k7,S7,A8,k8,S8,rfl,f0,f1,f7,a0,b0,r0,s0,a1,b1,r1,s1,a2,b2,r2,s2,a3,b3,r3,s3,a4,b4,r4,s4,a5,b5,r5,s5,a6,b6,r6,s6,a7,b7,r7,s7,a8,b8,r8,s8,pw⟩:=House.open hr1
   have q0:=ha1 0 _ rfl
   have q1:=ha1 1 _ rfl
   have q2:=ha1 2 _ rfl
   have q3:=ha1 3 _ rfl
   have q4:=ha1 4 _ rfl
   have q5:=ha1 5 _ rfl
   have q6:=ha1 6 _ rfl
   have q7:=ha1 7 _ rfl
   have q8:=ha1 8 _ rfl
   have q9:=ha1 9 _ rfl
   have q10:=ha1 10 _ rfl
   have q11:=ha1 11 _ rfl
   have q12:=ha1 12 _ rfl
   have q13:=ha1 13 _ rfl
   simp only [show Lay.n House=14 from rfl,Nat.add_zero] at q0 q1 q2 q3 q4 q5 q6 q7 q8 q9 q10 q11 q12 q13
   have ht2:=zd hr2
   obtain ⟨zA0,zk0,zS0,zA1,zk1,zS1,zA2,zk2,zS2,zA3,zk3,zS3,zA4,zk4,zS4,zA5,zk5,zS5,zA6,zk6,zS6,zA7,zk7,zS7,zA8,zk8,zS8,rfl,zf0,zf1,zf7,za0,zb0,zr0,zs0,za1,zb1,zr1,zs1,za2,zb2,zr2,zs2,za3,zb3,zr3,zs3,za4,zb4,zr4,zs4,za5,zb5,zr5,zs5,za6,zb6,zr6,zs6,za7,zb7,zr7,zs7,za8,zb8,zr8,zs8,zpw⟩:=House.open hr2
   have zq0:=ha2 0 _ rfl
   have zq1:=ha2 1 _ rfl
   have zq2:=ha2 2 _ rfl
   have zq3:=ha2 3 _ rfl
   have zq4:=ha2 4 _ rfl
   have zq5:=ha2 5 _ rfl
   have zq6:=ha2 6 _ rfl
   have zq7:=ha2 7 _ rfl
   have zq8:=ha2 8 _ rfl
   have zq9:=ha2 9 _ rfl
   have zq10:=ha2 10 _ rfl
   have zq11:=ha2 11 _ rfl
   have zq12:=ha2 12 _ rfl
   have zq13:=ha2 13 _ rfl
   simp only [show Lay.n House=14 from rfl,Nat.add_zero] at zq0 zq1 zq2 zq3 zq4 zq5 zq6 zq7 zq8 zq9 zq10 zq11 zq12 zq13
   clear he1 he2 ha1 ha2 hx hy
   go_wp2_with (fail)
   refine still_tail 8 (by kernel_rfl) (by kernel_rfl) ?_
   simp only [List.take_succ_cons,List.take_zero,List.drop_succ_cons,List.drop_zero]
   repeat still_step
   refine wpStill_nil ?_
   go_wp2_with (fail)
   refine (eq_House xs[k] _ (House.cs xs[k] A0 k0 A1 k1 A2 k2 A3 k3 A4 k4 A5 k5 A6 k6 A7 k7 A8 k8) (House.cs xs[k] zA0 zk0 zA1 zk1 zA2 zk2 zA3 zk3 zA4 zk4 zA5 zk5 zA6 zk6 zA7 zk7 zA8 zk8) _ _ (Lay.later ht1.out zz4) (Lay.later ht2.out zz4)).mono ?_
   rintro e1 w1 ⟨rfl,hb1⟩
   have hB1:Below w.heap.size w w1:=by have zh:=hb; refine Below.trans ?_ (hb1.mono ?_) <;> exact zz14
   go_wp2
   go_roundw
   case rel => exact ⟨k+1,zz13,by go_num,hB1⟩
   case measure => simp [intOf]; omega
  ·go_wp2
   go_ret; exact ⟨rfl,hb⟩
theorem eq_Pair (x:Pair) (w:World) (c1 c2:List Value) (S S':Blks) (hx:rd false w c1 x S) (hy:rd false w c2 x S') :
  Calls Tryz.prog 300 #[.agg c1.toArray,.agg c2.toArray] w fun e w' => e = .returned (.bool true)∧Below w.heap.size w w':=by
 obtain ⟨A0,k0,S0,A1,k1,S1,A2,k2,S2,A3,k3,S3,A4,k4,S4,A5,k5,S5,rfl,f0,f1,f2,f3,f4,f8,f9,f10,f11,f12,a0,b0,r0,s0,a1,b1,r1,s1,a2,b2,r2,s2,a3,b3,r3,s3,a4,b4,r4,s4,a5,b5,r5,s5,pw⟩:=Pair.open hx
 obtain ⟨zA0,zk0,zS0,zA1,zk1,zS1,zA2,zk2,zS2,zA3,zk3,zS3,zA4,zk4,zS4,zA5,zk5,zS5,rfl,zf0,zf1,zf2,zf3,zf4,zf8,zf9,zf10,zf11,zf12,za0,zb0,zr0,zs0,za1,zb1,zr1,zs1,za2,zb2,zr2,zs2,za3,zb3,zr3,zs3,za4,zb4,zr4,zs4,za5,zb5,zr5,zs5,zpw⟩:=Pair.open hy
 clear hx hy
 simp only [Pair.cs]
 go_enter Tryz.func300,Tryz.ntmps300
 go_wp2_with (fail)
 refine (eq_Seal x.a _ _ _ _ _ (Seal.mk' (m:=false) (S:=S) f0 f1 f2 f3 f4 a0 b0 (r0.later zz4) s0 a1 b1 (r1.later zz4) s1 a2 b2 (r2.later zz4) s2 zz30) (Seal.mk' (m:=false) (S:=S') zf0 zf1 zf2 zf3 zf4 za0 zb0 (zr0.later zz4) zs0 za1 zb1 (zr1.later zz4) zs1 za2 zb2 (zr2.later zz4) zs2 zz30)).mono ?_
 rintro e1 w1 ⟨rfl,hb1⟩
 have hB1:Below w.heap.size w w1:=by refine Below.trans (b:=_) ?_ (hb1.mono ?_) <;> exact zz8
 have hz1:w.heap.size+2≤w1.heap.size:=zz23
 have hc1:=fun o => hb1.cell (p:=⟨w.heap.size,o,none⟩) zz0
 have hd1:=fun o => hb1.cell (p:=⟨w.heap.size+1,o,none⟩) zz0
 go_wp2_with (fail)
 refine (eq_Seal x.b _ _ _ _ _ (Seal.mk' (m:=false) (S:=S) f8 f9 f10 f11 f12 a3 b3 (r3.later (by have zh:=hB1; exact zz1)) s3 a4 b4 (r4.later (by have zh:=hB1; exact zz1)) s4 a5 b5 (r5.later (by have zh:=hB1; exact zz1)) s5 zz30) (Seal.mk' (m:=false) (S:=S') zf8 zf9 zf10 zf11 zf12 za3 zb3 (zr3.later (by have zh:=hB1; exact zz1)) zs3 za4 zb4 (zr4.later (by have zh:=hB1; exact zz1)) zs4 za5 zb5 (zr5.later (by have zh:=hB1; exact zz1)) zs5 zz30)).mono ?_
 rintro e2 w2 ⟨rfl,hb2⟩
 have hB2:Below w.heap.size w w2:=by have zh:=hB1; refine Below.trans (b:=_) ?_ (hb2.mono ?_) <;> exact zz6
 have hz2:w.heap.size+2≤w2.heap.size:=zz45
 have hc2:=fun o => hb2.cell (p:=⟨w.heap.size,o,none⟩) zz0
 have hd2:=fun o => hb2.cell (p:=⟨w.heap.size+1,o,none⟩) zz0
 go_wp2_with (fail)
 go_ret; exact ⟨rfl,by have zh:=hB2; exact zz1⟩
theorem eq_PairS (xs:List Pair) (w:World) (A1 A2:Option Addr) (d1 d2:Nat) (S S':Blks) (hx:Row false w A1 d1 xs S) (hy:Row false w A2 d2 xs S') (hl:xs.length≤maxLen) :
  Calls Tryz.prog 277 #[.slice A1 xs.length d1,.slice A2 xs.length d2] w fun e w' => e = .returned (.bool true)∧Below w.heap.size w w':=by
 unfold maxLen at hl
 go_enter Tryz.func277,Tryz.ntmps277
 go_wp2
 go_loopw [5] (fun i wr => ∃ k:Nat,k≤xs.length∧i = .int .i64 k∧Below w.heap.size w wr) (fun i _ => xs.length - (intOf i).toNat)
 case atStart => exact ⟨0,Nat.zero_le _,rfl,Below.refl _ _⟩
 case round =>
  obtain ⟨k,hk,rfl,hb⟩:=hrel
  have hz:=hb.size
  by_cases hlt:k<xs.length
  ·have hne:xs≠[]:=by rintro rfl; simp at hlt
   obtain ⟨b1,o1,rfl,_,T1,_,_,he1⟩:=hx hne
   obtain ⟨c1,ha1,hr1⟩:=he1 k hlt
   have hl1:=ha1.lt zz28
   replace ha1:=ha1.keep (hb.block _ hl1)
   replace hr1:=Lay.later hr1 hb
   obtain ⟨b2,o2,rfl,_,T2,_,_,he2⟩:=hy hne
   obtain ⟨c2,ha2,hr2⟩:=he2 k hlt
   have hl2:=ha2.lt zz59
   replace ha2:=ha2.keep (hb.block _ hl2)
   replace hr2:=Lay.later hr2 hb
   have ht1:=zd hr1
   obtain ⟨A0,k0,S0,A1,k1,S1,A2,k2,S2,A3,k3,S3,A4,k4,S4,A5,k5,S5,rfl,f0,f1,f2,f3,f4,f8,f9,f10,f11,f12,a0,b0,r0,s0,a1,b1,r1,s1,a2,b2,r2,s2,a3,b3,r3,s3,a4,b4,r4,s4,a5,b5,r5,s5,pw⟩:=Pair.open hr1
   have q0:=ha1 0 _ rfl
   have q1:=ha1 1 _ rfl
   have q2:=ha1 2 _ rfl
   have q3:=ha1 3 _ rfl
   have q4:=ha1 4 _ rfl
   have q5:=ha1 5 _ rfl
   have q6:=ha1 6 _ rfl
   have q7:=ha1 7 _ rfl
   have q8:=ha1 8 _ rfl
   have q9:=ha1 9 _ rfl
   have q10:=ha1 10 _ rfl
   have q11:=ha1 11 _ rfl
   have q12:=ha1 12 _ rfl
   have q13:=ha1 13 _ rfl
   have q14:=ha1 14 _ rfl
   have q15:=ha1 15 _ rfl
   simp only [show Lay.n Pair=16 from rfl,Nat.add_zero] at q0 q1 q2 q3 q4 q5 q6 q7 q8 q9 q10 q11 q12 q13 q14 q15
   have ht2:=zd hr2
   obtain ⟨zA0,zk0,zS0,zA1,zk1,zS1,zA2,zk2,zS2,zA3,zk3,zS3,zA4,zk4,zS4,zA5,zk5,zS5,rfl,zf0,zf1,zf2,zf3,zf4,zf8,zf9,zf10,zf11,zf12,za0,zb0,zr0,zs0,za1,zb1,zr1,zs1,za2,zb2,zr2,zs2,za3,zb3,zr3,zs3,za4,zb4,zr4,zs4,za5,zb5,zr5,zs5,zpw⟩:=Pair.open hr2
   have zq0:=ha2 0 _ rfl
   have zq1:=ha2 1 _ rfl
   have zq2:=ha2 2 _ rfl
   have zq3:=ha2 3 _ rfl
   have zq4:=ha2 4 _ rfl
   have zq5:=ha2 5 _ rfl
   have zq6:=ha2 6 _ rfl
   have zq7:=ha2 7 _ rfl
   have zq8:=ha2 8 _ rfl
   have zq9:=ha2 9 _ rfl
   have zq10:=ha2 10 _ rfl
   have zq11:=ha2 11 _ rfl
   have zq12:=ha2 12 _ rfl
   have zq13:=ha2 13 _ rfl
   have zq14:=ha2 14 _ rfl
   have zq15:=ha2 15 _ rfl
   simp only [show Lay.n Pair=16 from rfl,Nat.add_zero] at zq0 zq1 zq2 zq3 zq4 zq5 zq6 zq7 zq8 zq9 zq10 zq11 zq12 zq13 zq14 zq15
   clear he1 he2 ha1 ha2 hx hy
   go_wp2_with (fail)
   refine still_tail 8 (by kernel_rfl) (by kernel_rfl) ?_
   simp only [List.take_succ_cons,List.take_zero,List.drop_succ_cons,List.drop_zero]
   repeat still_step
   refine wpStill_nil ?_
   go_wp2_with (fail)
   refine (eq_Pair xs[k] _ (Pair.cs xs[k] A0 k0 A1 k1 A2 k2 A3 k3 A4 k4 A5 k5) (Pair.cs xs[k] zA0 zk0 zA1 zk1 zA2 zk2 zA3 zk3 zA4 zk4 zA5 zk5) _ _ (Lay.later ht1.out zz4) (Lay.later ht2.out zz4)).mono ?_
   rintro e1 w1 ⟨rfl,hb1⟩
   have hB1:Below w.heap.size w w1:=by have zh:=hb; refine Below.trans ?_ (hb1.mono ?_) <;> exact zz14
   go_wp2
   go_roundw
   case rel => exact ⟨k+1,zz13,by go_num,hB1⟩
   case measure => simp [intOf]; omega
  ·go_wp2
   go_ret; exact ⟨rfl,hb⟩
theorem eq_Auditor (x:Auditor) (w:World) (c1 c2:List Value) (S S':Blks) (hx:rd false w c1 x S) (hy:rd false w c2 x S') :
  Calls Tryz.prog 224 #[.agg c1.toArray,.agg c2.toArray] w fun e w' => e = .returned (.bool true)∧Below w.heap.size w w':=by
 obtain ⟨A0,k0,S0,A1,k1,S1,A2,k2,S2,A3,k3,S3,rfl,f0,a0,b0,r0,s0,a1,b1,r1,s1,a2,b2,r2,s2,a3,b3,r3,s3,pw⟩:=Auditor.open hx
 obtain ⟨zA0,zk0,zS0,zA1,zk1,zS1,zA2,zk2,zS2,zA3,zk3,zS3,rfl,zf0,za0,zb0,zr0,zs0,za1,zb1,zr1,zs1,za2,zb2,zr2,zs2,za3,zb3,zr3,zs3,zpw⟩:=Auditor.open hy
 clear hx hy
 simp only [Auditor.cs]
 go_enter Tryz.func224,Tryz.ntmps224
 go_wp2_with (fail)
 refine (eq_Disk x.disk _ _ _ _ _ (Disk.mk' (m:=false) (S:=S) a0 b0 (r0.later zz4) s0) (Disk.mk' (m:=false) (S:=S') za0 zb0 (zr0.later zz4) zs0)).mono ?_
 rintro e1 w1 ⟨rfl,hb1⟩
 have hB1:Below w.heap.size w w1:=by refine Below.trans (b:=_) ?_ (hb1.mono ?_) <;> exact zz8
 have hz1:w.heap.size+2≤w1.heap.size:=zz23
 have hc1:=fun o => hb1.cell (p:=⟨w.heap.size,o,none⟩) zz0
 have hd1:=fun o => hb1.cell (p:=⟨w.heap.size+1,o,none⟩) zz0
 go_wp2_with (fail)
 refine (eq_StringS x.pool _ _ _ _ _ _ _ (r1.later (by have zh:=hB1; exact zz1)) (zr1.later (by have zh:=hB1; exact zz1)) (Nat.le_trans a1 b1)).mono ?_
 rintro e2 w2 ⟨rfl,hb2⟩
 have hB2:Below w.heap.size w w2:=by have zh:=hB1; refine Below.trans (b:=_) ?_ (hb2.mono ?_) <;> exact zz6
 have hz2:w.heap.size+2≤w2.heap.size:=zz45
 have hc2:=fun o => hb2.cell (p:=⟨w.heap.size,o,none⟩) zz0
 have hd2:=fun o => hb2.cell (p:=⟨w.heap.size+1,o,none⟩) zz0
 go_wp2_with (fail)
 refine (eq_SealS x.pins _ _ _ _ _ _ _ (r2.later (by have zh:=hB2; exact zz1)) (zr2.later (by have zh:=hB2; exact zz1)) (Nat.le_trans a2 b2)).mono ?_
 rintro e3 w3 ⟨rfl,hb3⟩
 have hB3:Below w.heap.size w w3:=by have zh:=hB2; refine Below.trans (b:=_) ?_ (hb3.mono ?_) <;> exact zz6
 have hz3:w.heap.size+2≤w3.heap.size:=zz55
 have hc3:=fun o => hb3.cell (p:=⟨w.heap.size,o,none⟩) zz0
 have hd3:=fun o => hb3.cell (p:=⟨w.heap.size+1,o,none⟩) zz0
 go_wp2_with (fail)
 refine (eq_PairS x.pairs _ _ _ _ _ _ _ (r3.later (by have zh:=hB3; exact zz1)) (zr3.later (by have zh:=hB3; exact zz1)) (Nat.le_trans a3 b3)).mono ?_
 rintro e4 w4 ⟨rfl,hb4⟩
 have hB4:Below w.heap.size w w4:=by have zh:=hB3; refine Below.trans (b:=_) ?_ (hb4.mono ?_) <;> exact zz6
 have hz4:w.heap.size+2≤w4.heap.size:=zz57
 have hc4:=fun o => hb4.cell (p:=⟨w.heap.size,o,none⟩) zz0
 have hd4:=fun o => hb4.cell (p:=⟨w.heap.size+1,o,none⟩) zz0
 go_wp2_with (fail)
 go_ret; exact ⟨rfl,by have zh:=hB4; exact zz1⟩
theorem eq_AuditorS (xs:List Auditor) (w:World) (A1 A2:Option Addr) (d1 d2:Nat) (S S':Blks) (hx:Row false w A1 d1 xs S) (hy:Row false w A2 d2 xs S') (hl:xs.length≤maxLen) :
  Calls Tryz.prog 142 #[.slice A1 xs.length d1,.slice A2 xs.length d2] w fun e w' => e = .returned (.bool true)∧Below w.heap.size w w':=by
 unfold maxLen at hl
 go_enter Tryz.func142,Tryz.ntmps142
 go_wp2
 go_loopw [5] (fun i wr => ∃ k:Nat,k≤xs.length∧i = .int .i64 k∧Below w.heap.size w wr) (fun i _ => xs.length - (intOf i).toNat)
 case atStart => exact ⟨0,Nat.zero_le _,rfl,Below.refl _ _⟩
 case round =>
  obtain ⟨k,hk,rfl,hb⟩:=hrel
  have hz:=hb.size
  by_cases hlt:k<xs.length
  ·have hne:xs≠[]:=by rintro rfl; simp at hlt
   obtain ⟨b1,o1,rfl,_,T1,_,_,he1⟩:=hx hne
   obtain ⟨c1,ha1,hr1⟩:=he1 k hlt
   have hl1:=ha1.lt zz28
   replace ha1:=ha1.keep (hb.block _ hl1)
   replace hr1:=Lay.later hr1 hb
   obtain ⟨b2,o2,rfl,_,T2,_,_,he2⟩:=hy hne
   obtain ⟨c2,ha2,hr2⟩:=he2 k hlt
   have hl2:=ha2.lt zz59
   replace ha2:=ha2.keep (hb.block _ hl2)
   replace hr2:=Lay.later hr2 hb
   have ht1:=zd hr1
   obtain ⟨A0,k0,S0,A1,k1,S1,A2,k2,S2,A3,k3,S3,rfl,f0,a0,b0,r0,s0,a1,b1,r1,s1,a2,b2,r2,s2,a3,b3,r3,s3,pw⟩:=Auditor.open hr1
   have q0:=ha1 0 _ rfl
   have q1:=ha1 1 _ rfl
   have q2:=ha1 2 _ rfl
   have q3:=ha1 3 _ rfl
   have q4:=ha1 4 _ rfl
   have q5:=ha1 5 _ rfl
   simp only [show Lay.n Auditor=6 from rfl,Nat.add_zero] at q0 q1 q2 q3 q4 q5
   have ht2:=zd hr2
   obtain ⟨zA0,zk0,zS0,zA1,zk1,zS1,zA2,zk2,zS2,zA3,zk3,zS3,rfl,zf0,za0,zb0,zr0,zs0,za1,zb1,zr1,zs1,za2,zb2,zr2,zs2,za3,zb3,zr3,zs3,zpw⟩:=Auditor.open hr2
   have zq0:=ha2 0 _ rfl
   have zq1:=ha2 1 _ rfl
   have zq2:=ha2 2 _ rfl
   have zq3:=ha2 3 _ rfl
   have zq4:=ha2 4 _ rfl
   have zq5:=ha2 5 _ rfl
   simp only [show Lay.n Auditor=6 from rfl,Nat.add_zero] at zq0 zq1 zq2 zq3 zq4 zq5
   clear he1 he2 ha1 ha2 hx hy
   go_wp2_with (fail)
   refine still_tail 8 (by kernel_rfl) (by kernel_rfl) ?_
   simp only [List.take_succ_cons,List.take_zero,List.drop_succ_cons,List.drop_zero]
   repeat still_step
   refine wpStill_nil ?_
   go_wp2_with (fail)
   refine (eq_Auditor xs[k] _ (Auditor.cs xs[k] A0 k0 A1 k1 A2 k2 A3 k3) (Auditor.cs xs[k] zA0 zk0 zA1 zk1 zA2 zk2 zA3 zk3) _ _ (Lay.later ht1.out zz4) (Lay.later ht2.out zz4)).mono ?_
   rintro e1 w1 ⟨rfl,hb1⟩
   have hB1:Below w.heap.size w w1:=by have zh:=hb; refine Below.trans ?_ (hb1.mono ?_) <;> exact zz14
   go_wp2
   go_roundw
   case rel => exact ⟨k+1,zz13,by go_num,hB1⟩
   case measure => simp [intOf]; omega
  ·go_wp2
   go_ret; exact ⟨rfl,hb⟩
theorem eq_Note (x:Note) (w:World) (c1 c2:List Value) (S S':Blks) (hx:rd false w c1 x S) (hy:rd false w c2 x S') :
  Calls Tryz.prog 225 #[.agg c1.toArray,.agg c2.toArray] w fun e w' => e = .returned (.bool true)∧Below w.heap.size w w':=by
 obtain ⟨rfl,f0,f1⟩:=Note.open hx
 obtain ⟨rfl,zf0,zf1⟩:=Note.open hy
 clear hx hy
 simp only [Note.cs]
 go_enter Tryz.func225,Tryz.ntmps225
 go_wp2_with (fail)
 go_ret; exact ⟨rfl,zz4⟩
theorem eq_NoteS (xs:List Note) (w:World) (A1 A2:Option Addr) (d1 d2:Nat) (S S':Blks) (hx:Row false w A1 d1 xs S) (hy:Row false w A2 d2 xs S') (hl:xs.length≤maxLen) :
  Calls Tryz.prog 143 #[.slice A1 xs.length d1,.slice A2 xs.length d2] w fun e w' => e = .returned (.bool true)∧Below w.heap.size w w':=by
 unfold maxLen at hl
 go_enter Tryz.func143,Tryz.ntmps143
 go_wp2
 go_loopw [5] (fun i wr => ∃ k:Nat,k≤xs.length∧i = .int .i64 k∧Below w.heap.size w wr) (fun i _ => xs.length - (intOf i).toNat)
 case atStart => exact ⟨0,Nat.zero_le _,rfl,Below.refl _ _⟩
 case round =>
  obtain ⟨k,hk,rfl,hb⟩:=hrel
  have hz:=hb.size
  by_cases hlt:k<xs.length
  ·have hne:xs≠[]:=by rintro rfl; simp at hlt
   obtain ⟨b1,o1,rfl,_,T1,_,_,he1⟩:=hx hne
   obtain ⟨c1,ha1,hr1⟩:=he1 k hlt
   have hl1:=ha1.lt zz28
   replace ha1:=ha1.keep (hb.block _ hl1)
   replace hr1:=Lay.later hr1 hb
   obtain ⟨b2,o2,rfl,_,T2,_,_,he2⟩:=hy hne
   obtain ⟨c2,ha2,hr2⟩:=he2 k hlt
   have hl2:=ha2.lt zz59
   replace ha2:=ha2.keep (hb.block _ hl2)
   replace hr2:=Lay.later hr2 hb
   have ht1:=zd hr1
   obtain ⟨rfl,f0,f1⟩:=Note.open hr1
   have q0:=ha1 0 _ rfl
   have q1:=ha1 1 _ rfl
   simp only [show Lay.n Note=2 from rfl,Nat.add_zero] at q0 q1
   have ht2:=zd hr2
   obtain ⟨rfl,zf0,zf1⟩:=Note.open hr2
   have zq0:=ha2 0 _ rfl
   have zq1:=ha2 1 _ rfl
   simp only [show Lay.n Note=2 from rfl,Nat.add_zero] at zq0 zq1
   clear he1 he2 ha1 ha2 hx hy
   go_wp2_with (fail)
   refine still_tail 8 (by kernel_rfl) (by kernel_rfl) ?_
   simp only [List.take_succ_cons,List.take_zero,List.drop_succ_cons,List.drop_zero]
   repeat still_step
   refine wpStill_nil ?_
   go_wp2_with (fail)
   refine (eq_Note xs[k] _ (Note.cs xs[k]) (Note.cs xs[k]) _ _ (Lay.later ht1.out zz4) (Lay.later ht2.out zz4)).mono ?_
   rintro e1 w1 ⟨rfl,hb1⟩
   have hB1:Below w.heap.size w w1:=by have zh:=hb; refine Below.trans ?_ (hb1.mono ?_) <;> exact zz14
   go_wp2
   go_roundw
   case rel => exact ⟨k+1,zz13,by go_num,hB1⟩
   case measure => simp [intOf]; omega
  ·go_wp2
   go_ret; exact ⟨rfl,hb⟩
theorem eq_Given (x:Given) (w:World) (c1 c2:List Value) (S S':Blks) (hx:rd false w c1 x S) (hy:rd false w c2 x S') :
  Calls Tryz.prog 226 #[.agg c1.toArray,.agg c2.toArray] w fun e w' => e = .returned (.bool true)∧Below w.heap.size w w':=by
 obtain ⟨A0,k0,S0,A1,k1,S1,A2,k2,S2,rfl,f0,f1,f2,f3,a0,b0,r0,s0,a1,b1,r1,s1,a2,b2,r2,s2,pw⟩:=Given.open hx
 obtain ⟨zA0,zk0,zS0,zA1,zk1,zS1,zA2,zk2,zS2,rfl,zf0,zf1,zf2,zf3,za0,zb0,zr0,zs0,za1,zb1,zr1,zs1,za2,zb2,zr2,zs2,zpw⟩:=Given.open hy
 clear hx hy
 simp only [Given.cs]
 go_enter Tryz.func226,Tryz.ntmps226
 go_wp2_with (fail)
 refine (eq_Stamp x.stamp _ _ _ _ _ (Stamp.mk' (m:=false) (S:=S) f2 f3 a0 b0 (r0.later zz4) s0 a1 b1 (r1.later zz4) s1 a2 b2 (r2.later zz4) s2 zz30) (Stamp.mk' (m:=false) (S:=S') zf2 zf3 za0 zb0 (zr0.later zz4) zs0 za1 zb1 (zr1.later zz4) zs1 za2 zb2 (zr2.later zz4) zs2 zz30)).mono ?_
 rintro e1 w1 ⟨rfl,hb1⟩
 have hB1:Below w.heap.size w w1:=by refine Below.trans (b:=_) ?_ (hb1.mono ?_) <;> exact zz8
 have hz1:w.heap.size+2≤w1.heap.size:=zz23
 have hc1:=fun o => hb1.cell (p:=⟨w.heap.size,o,none⟩) zz0
 have hd1:=fun o => hb1.cell (p:=⟨w.heap.size+1,o,none⟩) zz0
 go_wp2_with (fail)
 go_ret; exact ⟨rfl,by have zh:=hB1; exact zz1⟩
theorem eq_GivenS (xs:List Given) (w:World) (A1 A2:Option Addr) (d1 d2:Nat) (S S':Blks) (hx:Row false w A1 d1 xs S) (hy:Row false w A2 d2 xs S') (hl:xs.length≤maxLen) :
  Calls Tryz.prog 144 #[.slice A1 xs.length d1,.slice A2 xs.length d2] w fun e w' => e = .returned (.bool true)∧Below w.heap.size w w':=by
 unfold maxLen at hl
 go_enter Tryz.func144,Tryz.ntmps144
 go_wp2
 go_loopw [5] (fun i wr => ∃ k:Nat,k≤xs.length∧i = .int .i64 k∧Below w.heap.size w wr) (fun i _ => xs.length - (intOf i).toNat)
 case atStart => exact ⟨0,Nat.zero_le _,rfl,Below.refl _ _⟩
 case round =>
  obtain ⟨k,hk,rfl,hb⟩:=hrel
  have hz:=hb.size
  by_cases hlt:k<xs.length
  ·have hne:xs≠[]:=by rintro rfl; simp at hlt
   obtain ⟨b1,o1,rfl,_,T1,_,_,he1⟩:=hx hne
   obtain ⟨c1,ha1,hr1⟩:=he1 k hlt
   have hl1:=ha1.lt zz28
   replace ha1:=ha1.keep (hb.block _ hl1)
   replace hr1:=Lay.later hr1 hb
   obtain ⟨b2,o2,rfl,_,T2,_,_,he2⟩:=hy hne
   obtain ⟨c2,ha2,hr2⟩:=he2 k hlt
   have hl2:=ha2.lt zz59
   replace ha2:=ha2.keep (hb.block _ hl2)
   replace hr2:=Lay.later hr2 hb
   have ht1:=zd hr1
   obtain ⟨A0,k0,S0,A1,k1,S1,A2,k2,S2,rfl,f0,f1,f2,f3,a0,b0,r0,s0,a1,b1,r1,s1,a2,b2,r2,s2,pw⟩:=Given.open hr1
   have q0:=ha1 0 _ rfl
   have q1:=ha1 1 _ rfl
   have q2:=ha1 2 _ rfl
   have q3:=ha1 3 _ rfl
   have q4:=ha1 4 _ rfl
   have q5:=ha1 5 _ rfl
   have q6:=ha1 6 _ rfl
   simp only [show Lay.n Given=7 from rfl,Nat.add_zero] at q0 q1 q2 q3 q4 q5 q6
   have ht2:=zd hr2
   obtain ⟨zA0,zk0,zS0,zA1,zk1,zS1,zA2,zk2,zS2,rfl,zf0,zf1,zf2,zf3,za0,zb0,zr0,zs0,za1,zb1,zr1,zs1,za2,zb2,zr2,zs2,zpw⟩:=Given.open hr2
   have zq0:=ha2 0 _ rfl
   have zq1:=ha2 1 _ rfl
   have zq2:=ha2 2 _ rfl
   have zq3:=ha2 3 _ rfl
   have zq4:=ha2 4 _ rfl
   have zq5:=ha2 5 _ rfl
   have zq6:=ha2 6 _ rfl
   simp only [show Lay.n Given=7 from rfl,Nat.add_zero] at zq0 zq1 zq2 zq3 zq4 zq5 zq6
   clear he1 he2 ha1 ha2 hx hy
   go_wp2_with (fail)
   refine still_tail 8 (by kernel_rfl) (by kernel_rfl) ?_
   simp only [List.take_succ_cons,List.take_zero,List.drop_succ_cons,List.drop_zero]
   repeat still_step
   refine wpStill_nil ?_
   go_wp2_with (fail)
   refine (eq_Given xs[k] _ (Given.cs xs[k] A0 k0 A1 k1 A2 k2) (Given.cs xs[k] zA0 zk0 zA1 zk1 zA2 zk2) _ _ (Lay.later ht1.out zz4) (Lay.later ht2.out zz4)).mono ?_
   rintro e1 w1 ⟨rfl,hb1⟩
   have hB1:Below w.heap.size w w1:=by have zh:=hb; refine Below.trans ?_ (hb1.mono ?_) <;> exact zz14
   go_wp2
   go_roundw
   case rel => exact ⟨k+1,zz13,by go_num,hB1⟩
   case measure => simp [intOf]; omega
  ·go_wp2
   go_ret; exact ⟨rfl,hb⟩
theorem eq_Wrld (x:Wrld) (w:World) (c1 c2:List Value) (S S':Blks) (hx:rd false w c1 x S) (hy:rd false w c2 x S') :
  Calls Tryz.prog 50 #[.agg c1.toArray,.agg c2.toArray] w fun e w' => e = .returned (.bool true)∧Below w.heap.size w w':=by
 obtain ⟨A0,k0,S0,A1,k1,S1,A2,k2,S2,A3,k3,S3,A4,k4,S4,A5,k5,S5,rfl,a0,b0,r0,s0,a1,b1,r1,s1,a2,b2,r2,s2,a3,b3,r3,s3,a4,b4,r4,s4,a5,b5,r5,s5,pw⟩:=Wrld.open hx
 obtain ⟨zA0,zk0,zS0,zA1,zk1,zS1,zA2,zk2,zS2,zA3,zk3,zS3,zA4,zk4,zS4,zA5,zk5,zS5,rfl,za0,zb0,zr0,zs0,za1,zb1,zr1,zs1,za2,zb2,zr2,zs2,za3,zb3,zr3,zs3,za4,zb4,zr4,zs4,za5,zb5,zr5,zs5,zpw⟩:=Wrld.open hy
 clear hx hy
 simp only [Wrld.cs]
 go_enter Tryz.func50,Tryz.ntmps50
 go_wp2_with (fail)
 refine (eq_HouseS x.houses _ _ _ _ _ _ _ (r0.later zz4) (zr0.later zz4) (Nat.le_trans a0 b0)).mono ?_
 rintro e1 w1 ⟨rfl,hb1⟩
 have hB1:Below w.heap.size w w1:=by refine Below.trans (b:=_) ?_ (hb1.mono ?_) <;> exact zz8
 have hz1:w.heap.size+2≤w1.heap.size:=zz23
 have hc1:=fun o => hb1.cell (p:=⟨w.heap.size,o,none⟩) zz0
 have hd1:=fun o => hb1.cell (p:=⟨w.heap.size+1,o,none⟩) zz0
 go_wp2_with (fail)
 refine (eq_AuditorS x.auditors _ _ _ _ _ _ _ (r1.later (by have zh:=hB1; exact zz1)) (zr1.later (by have zh:=hB1; exact zz1)) (Nat.le_trans a1 b1)).mono ?_
 rintro e2 w2 ⟨rfl,hb2⟩
 have hB2:Below w.heap.size w w2:=by have zh:=hB1; refine Below.trans (b:=_) ?_ (hb2.mono ?_) <;> exact zz6
 have hz2:w.heap.size+2≤w2.heap.size:=zz45
 have hc2:=fun o => hb2.cell (p:=⟨w.heap.size,o,none⟩) zz0
 have hd2:=fun o => hb2.cell (p:=⟨w.heap.size+1,o,none⟩) zz0
 go_wp2_with (fail)
 refine (eq_NoteS x.notes _ _ _ _ _ _ _ (r2.later (by have zh:=hB2; exact zz1)) (zr2.later (by have zh:=hB2; exact zz1)) (Nat.le_trans a2 b2)).mono ?_
 rintro e3 w3 ⟨rfl,hb3⟩
 have hB3:Below w.heap.size w w3:=by have zh:=hB2; refine Below.trans (b:=_) ?_ (hb3.mono ?_) <;> exact zz6
 have hz3:w.heap.size+2≤w3.heap.size:=zz55
 have hc3:=fun o => hb3.cell (p:=⟨w.heap.size,o,none⟩) zz0
 have hd3:=fun o => hb3.cell (p:=⟨w.heap.size+1,o,none⟩) zz0
 go_wp2_with (fail)
 refine (eq_GivenS x.given _ _ _ _ _ _ _ (r3.later (by have zh:=hB3; exact zz1)) (zr3.later (by have zh:=hB3; exact zz1)) (Nat.le_trans a3 b3)).mono ?_
 rintro e4 w4 ⟨rfl,hb4⟩
 have hB4:Below w.heap.size w w4:=by have zh:=hB3; refine Below.trans (b:=_) ?_ (hb4.mono ?_) <;> exact zz6
 have hz4:w.heap.size+2≤w4.heap.size:=zz57
 have hc4:=fun o => hb4.cell (p:=⟨w.heap.size,o,none⟩) zz0
 have hd4:=fun o => hb4.cell (p:=⟨w.heap.size+1,o,none⟩) zz0
 go_wp2_with (fail)
 refine (eq_BoolS x.evil _ _ _ _ _ _ _ (r4.later (by have zh:=hB4; exact zz1)) (zr4.later (by have zh:=hB4; exact zz1)) (Nat.le_trans a4 b4)).mono ?_
 rintro e5 w5 ⟨rfl,hb5⟩
 have hB5:Below w.heap.size w w5:=by have zh:=hB4; refine Below.trans (b:=_) ?_ (hb5.mono ?_) <;> exact zz6
 have hz5:w.heap.size+2≤w5.heap.size:=zz78
 have hc5:=fun o => hb5.cell (p:=⟨w.heap.size,o,none⟩) zz0
 have hd5:=fun o => hb5.cell (p:=⟨w.heap.size+1,o,none⟩) zz0
 go_wp2_with (fail)
 refine (eq_IntS x.codes _ _ _ _ _ _ _ (r5.later (by have zh:=hB5; exact zz1)) (zr5.later (by have zh:=hB5; exact zz1)) (Nat.le_trans a5 b5)).mono ?_
 rintro e6 w6 ⟨rfl,hb6⟩
 have hB6:Below w.heap.size w w6:=by have zh:=hB5; refine Below.trans (b:=_) ?_ (hb6.mono ?_) <;> exact zz6
 have hz6:w.heap.size+2≤w6.heap.size:=by have:=hb6.size; (try simp at this); omega
 have hc6:=fun o => hb6.cell (p:=⟨w.heap.size,o,none⟩) zz0
 have hd6:=fun o => hb6.cell (p:=⟨w.heap.size+1,o,none⟩) zz0
 go_wp2_with (fail)
 go_ret; exact ⟨rfl,by have zh:=hB6; exact zz1⟩
end Go.Proofs.YtcbbjfafmmcfiaaGreatDoor
