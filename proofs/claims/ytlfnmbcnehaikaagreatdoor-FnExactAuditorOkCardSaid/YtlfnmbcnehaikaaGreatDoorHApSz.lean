/- A part of the proof. -/
import Derived.Test.YtlfnmbcnehaikaaGreatDoorHApTy
set_option linter.unusedVariables false
set_option linter.unusedSimpArgs false
set_option maxRecDepth 20000
set_option maxHeartbeats 1000000
namespace Go.Proofs.YtlfnmbcnehaikaaGreatDoor
open Go.RowKit Lay Mk
theorem sz_File (x : File) (w : World) (cs : List Value) (S : Blks) (left : Int) (hx : rd false w cs x S) (h0 : 0 ≤ left) (h1 : left ≤ 1048576) :
  Calls Tryz.prog 74 #[.agg cs.toArray, .int .i64 left] w fun e w' => (∃ n,e = .returned (.int .i64 n) ∧ SzR n left x.sz) ∧ Below w.heap.size w w':=by
 obtain ⟨rfl,f0,f1,f2⟩:=File.open hx
 clear hx
 unfold maxLen at f0 f1
 simp only [File.cs]
 go_enter Tryz.func74,Tryz.ntmps74
 go_wp2_with (fail)
 all_goals (go_ret; refine ⟨⟨_,rfl,?_⟩,zz3⟩; first | exact .inl ⟨rfl,by (try simp only [File.sz]) <;> omega⟩ | exact .inr ⟨by (try simp only [File.sz]) <;> omega,by (try simp only [File.sz]) <;> omega⟩)
theorem sz_FileS (xs : List File) (w : World) (A : Option Addr) (cap : Nat) (S : Blks) (left : Int) (hx : Row false w A cap xs S) (hl : xs.length ≤ maxLen) (h0 : 0 ≤ left) (h1 : left ≤ 1048576) :
  Calls Tryz.prog 28 #[.slice A xs.length cap, .int .i64 left] w fun e w' => (∃ n,e = .returned (.int .i64 n) ∧ SzR n left (szL xs)) ∧ Below w.heap.size w w':=by
 unfold maxLen at hl
 have hall:=szT_all xs
 go_enter Tryz.func28,Tryz.ntmps28
 go_wp2_with (fail)
 ·go_ret; refine ⟨⟨_,rfl,?_⟩,Below.refl _ _⟩; have:=szT_le xs 0; exact .inl ⟨rfl,zz4⟩
 have HA:=zd hall; clear hall
 go_loopw [1,5] (fun l i wr => ∃ k : Nat,k ≤ xs.length ∧ i = .int .i64 k ∧ l = .int .i64 (left - xs.length - (szT xs k : Int)) ∧ 0 ≤ left - xs.length - (szT xs k : Int) ∧ Below w.heap.size w wr) (fun _ i _ => xs.length - (intOf i).toNat)
 case atStart => exact ⟨0,Nat.zero_le _,rfl,by rw [szT_zero]; simp,by rw [szT_zero]; omega,Below.refl _ _⟩
 case round =>
  obtain ⟨k,hk,rfl,rfl,hpos,hb⟩:=hrel
  have hz:=hb.size
  by_cases hlt : k < xs.length
  ·have hne : xs ≠ []:=by rintro rfl; simp at hlt
   obtain ⟨b1,o1,rfl,hS,T1,hT1,_,he1⟩:=hx hne
   obtain ⟨c1,ha1,hr1⟩:=he1 k hlt
   have hl1:=ha1.lt zz39
   replace ha1:=ha1.keep (hb.block _ hl1)
   replace hr1:=Lay.later hr1 hb
   have hsu:=szT_succ xs k hlt
   have hle:=szT_le xs (k + 1)
   have hr2:=zd hr1
   obtain ⟨rfl,f0,f1,f2⟩:=File.open hr1
   have q0:=ha1 0 _ rfl
   have q1:=ha1 1 _ rfl
   have q2:=ha1 2 _ rfl
   simp only [show Lay.n File = 3 from rfl,Nat.add_zero] at q0 q1 q2
   have hse : Mk.sz xs[k] = xs[k].sz:=rfl
   rw [hse] at hsu
   have HS:=zd hsu; clear hsu hse hle ha1 he1
   go_wp2_with (fail)
   refine (sz_File xs[k] _ (File.cs xs[k]) _ _ (Lay.later hr2.out zz3) zz4 zz4).mono ?_
   rintro e1 w1 ⟨⟨n1,rfl,hn1⟩,hb1⟩
   have hB1 : Below w.heap.size w w1:=by have zh:=hb; refine Below.trans ?_ (hb1.mono ?_) <;> exact zz13
   rcases hn1 with ⟨rfl,hn1⟩ | ⟨rfl,hn1⟩
   ·go_wp2
    go_ret; refine ⟨⟨_,rfl,?_⟩,hB1⟩; have:=HS.out; have:=HA.out; have:=szT_le xs (k + 1); exact .inl ⟨rfl,zz4⟩
   ·go_wp2
    go_roundw
    case rel => exact ⟨k + 1,zz4,by go_num,by rw [HS.out]; congr 1; omega,by rw [HS.out]; omega,hB1⟩
    case measure => simp [intOf]; omega
  ·have hke : k = xs.length:=by omega
   go_wp2
   go_ret; refine ⟨⟨_,rfl,?_⟩,hb⟩; have:=HA.out; subst hke; exact .inr ⟨zz4,zz4⟩
theorem sz_Disk (x : Disk) (w : World) (cs : List Value) (S : Blks) (left : Int) (hx : rd false w cs x S) (h0 : 0 ≤ left) (h1 : left ≤ 1048576) :
  Calls Tryz.prog 7 #[.agg cs.toArray, .int .i64 left] w fun e w' => (∃ n,e = .returned (.int .i64 n) ∧ SzR n left x.sz) ∧ Below w.heap.size w w':=by
 obtain ⟨A0,k0,S0,rfl,a0,b0,r0,s0⟩:=Disk.open hx
 clear hx
 simp only [Disk.cs]
 go_enter Tryz.func7,Tryz.ntmps7
 go_wp2_with (fail)
 try any_goals (go_ret; refine ⟨⟨_,rfl,?_⟩,zz3⟩; first | exact .inl ⟨rfl,by (try simp only [Disk.sz]) <;> omega⟩ | exact .inr ⟨by (try simp only [Disk.sz]) <;> omega,by (try simp only [Disk.sz]) <;> omega⟩)
 refine (sz_FileS x.files _ _ _ _ _ (r0.later zz3) (Nat.le_trans a0 b0) zz4 zz4).mono ?_
 rintro e1 w1 ⟨⟨n1,rfl,hn1⟩,hb1⟩
 have hB1 : Below w.heap.size w w1:=by refine Below.trans (b:=_) ?_ (hb1.mono ?_) <;> exact zz9
 have hz1 : w.heap.size + 1 ≤ w1.heap.size:=zz28
 have hc1:=fun o => hb1.cell (p:=⟨w.heap.size,o,none⟩) zz0
 rcases hn1 with ⟨rfl,hn1⟩ | ⟨rfl,hn1⟩
 ·go_wp2_with (fail)
  (go_ret; refine ⟨⟨_,rfl,?_⟩,by have zh:=hB1; exact zz1⟩; first | exact .inl ⟨rfl,by (try simp only [Disk.sz]) <;> omega⟩ | exact .inr ⟨by (try simp only [Disk.sz]) <;> omega,by (try simp only [Disk.sz]) <;> omega⟩)
 go_wp2_with (fail)
 all_goals (go_ret; refine ⟨⟨_,rfl,?_⟩,by have zh:=hB1; exact zz1⟩; first | exact .inl ⟨rfl,by (try simp only [Disk.sz]) <;> omega⟩ | exact .inr ⟨by (try simp only [Disk.sz]) <;> omega,by (try simp only [Disk.sz]) <;> omega⟩)
theorem sz_StringS (xs : List ByteArray) (w : World) (A : Option Addr) (cap : Nat) (S : Blks) (left : Int) (hx : Row false w A cap xs S) (hl : xs.length ≤ maxLen) (h0 : 0 ≤ left) (h1 : left ≤ 1048576) :
  Calls Tryz.prog 17 #[.slice A xs.length cap, .int .i64 left] w fun e w' => (∃ n,e = .returned (.int .i64 n) ∧ SzR n left (szL xs)) ∧ Below w.heap.size w w':=by
 unfold maxLen at hl
 have hall:=szT_all xs
 go_enter Tryz.func17,Tryz.ntmps17
 go_wp2_with (fail)
 ·go_ret; refine ⟨⟨_,rfl,?_⟩,Below.refl _ _⟩; have:=szT_le xs 0; exact .inl ⟨rfl,zz4⟩
 have HA:=zd hall; clear hall
 go_loopw [1,5] (fun l i wr => ∃ k : Nat,k ≤ xs.length ∧ i = .int .i64 k ∧ l = .int .i64 (left - xs.length - (szT xs k : Int)) ∧ 0 ≤ left - xs.length - (szT xs k : Int) ∧ Below w.heap.size w wr) (fun _ i _ => xs.length - (intOf i).toNat)
 case atStart => exact ⟨0,Nat.zero_le _,rfl,by rw [szT_zero]; simp,by rw [szT_zero]; omega,Below.refl _ _⟩
 case round =>
  obtain ⟨k,hk,rfl,rfl,hpos,hb⟩:=hrel
  have hz:=hb.size
  by_cases hlt : k < xs.length
  ·have hne : xs ≠ []:=by rintro rfl; simp at hlt
   obtain ⟨b1,o1,rfl,hS,T1,hT1,_,he1⟩:=hx hne
   obtain ⟨c1,ha1,hr1⟩:=he1 k hlt
   have hl1:=ha1.lt zz39
   replace ha1:=ha1.keep (hb.block _ hl1)
   replace hr1:=Lay.later hr1 hb
   have hsu:=szT_succ xs k hlt
   have hle:=szT_le xs (k + 1)
   obtain ⟨rfl,g1⟩:=open_str hr1
   have f0:=ha1 0 _ rfl
   simp only [show Lay.n ByteArray = 1 from rfl,Nat.add_zero,Nat.mul_one] at f0
   unfold maxLen at g1
   have hse : Mk.sz xs[k] = xs[k].size:=rfl
   rw [hse] at hsu
   have HS:=zd hsu; clear hsu hse hle ha1 he1 hr1
   go_wp2
   ·go_ret; refine ⟨⟨_,rfl,?_⟩,hb⟩; have:=HS.out; have:=HA.out; have:=szT_le xs (k + 1); exact .inl ⟨rfl,zz4⟩
   go_roundw
   case rel => exact ⟨k + 1,zz4,by go_num,by rw [HS.out]; congr 1; omega,by rw [HS.out]; omega,hb⟩
   case measure => simp [intOf]; omega
  ·have hke : k = xs.length:=by omega
   go_wp2
   go_ret; refine ⟨⟨_,rfl,?_⟩,hb⟩; have:=HA.out; subst hke; exact .inr ⟨zz4,zz4⟩
theorem sz_Head (x : Head) (w : World) (cs : List Value) (S : Blks) (left : Int) (hx : rd false w cs x S) (h0 : 0 ≤ left) (h1 : left ≤ 1048576) :
  Calls Tryz.prog 139 #[.agg cs.toArray, .int .i64 left] w fun e w' => (∃ n,e = .returned (.int .i64 n) ∧ SzR n left x.sz) ∧ Below w.heap.size w w':=by
 obtain ⟨rfl,f0,f1,f2,f3⟩:=Head.open hx
 clear hx
 unfold maxLen at f2 f3
 simp only [Head.cs]
 go_enter Tryz.func139,Tryz.ntmps139
 go_wp2_with (fail)
 all_goals (go_ret; refine ⟨⟨_,rfl,?_⟩,zz3⟩; first | exact .inl ⟨rfl,by (try simp only [Head.sz]) <;> omega⟩ | exact .inr ⟨by (try simp only [Head.sz]) <;> omega,by (try simp only [Head.sz]) <;> omega⟩)
theorem sz_Sig (x : Sig) (w : World) (cs : List Value) (S : Blks) (left : Int) (hx : rd false w cs x S) (h0 : 0 ≤ left) (h1 : left ≤ 1048576) :
  Calls Tryz.prog 140 #[.agg cs.toArray, .int .i64 left] w fun e w' => (∃ n,e = .returned (.int .i64 n) ∧ SzR n left x.sz) ∧ Below w.heap.size w w':=by
 obtain ⟨A0,k0,S0,A1,k1,S1,A2,k2,S2,rfl,f0,a0,b0,r0,s0,a1,b1,r1,s1,a2,b2,r2,s2,pw⟩:=Sig.open hx
 clear hx
 simp only [Sig.cs]
 go_enter Tryz.func140,Tryz.ntmps140
 go_wp2_with (fail)
 try any_goals (go_ret; refine ⟨⟨_,rfl,?_⟩,zz3⟩; first | exact .inl ⟨rfl,by (try simp only [Sig.sz]) <;> omega⟩ | exact .inr ⟨by (try simp only [Sig.sz]) <;> omega,by (try simp only [Sig.sz]) <;> omega⟩)
 refine (sz_StringS x.open_ _ _ _ _ _ (r0.later zz3) (Nat.le_trans a0 b0) zz4 zz4).mono ?_
 rintro e1 w1 ⟨⟨n1,rfl,hn1⟩,hb1⟩
 have hB1 : Below w.heap.size w w1:=by refine Below.trans (b:=_) ?_ (hb1.mono ?_) <;> exact zz9
 have hz1 : w.heap.size + 1 ≤ w1.heap.size:=zz28
 have hc1:=fun o => hb1.cell (p:=⟨w.heap.size,o,none⟩) zz0
 rcases hn1 with ⟨rfl,hn1⟩ | ⟨rfl,hn1⟩
 ·go_wp2_with (fail)
  (go_ret; refine ⟨⟨_,rfl,?_⟩,by have zh:=hB1; exact zz1⟩; first | exact .inl ⟨rfl,by (try simp only [Sig.sz]) <;> omega⟩ | exact .inr ⟨by (try simp only [Sig.sz]) <;> omega,by (try simp only [Sig.sz]) <;> omega⟩)
 go_wp2_with (fail)
 try any_goals (go_ret; refine ⟨⟨_,rfl,?_⟩,by have zh:=hB1; exact zz1⟩; first | exact .inl ⟨rfl,by (try simp only [Sig.sz]) <;> omega⟩ | exact .inr ⟨by (try simp only [Sig.sz]) <;> omega,by (try simp only [Sig.sz]) <;> omega⟩)
 refine (sz_StringS x.shut _ _ _ _ _ (r1.later (by have zh:=hB1; exact zz1)) (Nat.le_trans a1 b1) zz4 zz4).mono ?_
 rintro e2 w2 ⟨⟨n2,rfl,hn2⟩,hb2⟩
 have hB2 : Below w.heap.size w w2:=by have zh:=hB1; refine Below.trans (b:=_) ?_ (hb2.mono ?_) <;> exact zz7
 have hz2 : w.heap.size + 1 ≤ w2.heap.size:=zz35
 have hc2:=fun o => hb2.cell (p:=⟨w.heap.size,o,none⟩) zz0
 rcases hn2 with ⟨rfl,hn2⟩ | ⟨rfl,hn2⟩
 ·go_wp2_with (fail)
  (go_ret; refine ⟨⟨_,rfl,?_⟩,by have zh:=hB2; exact zz1⟩; first | exact .inl ⟨rfl,by (try simp only [Sig.sz]) <;> omega⟩ | exact .inr ⟨by (try simp only [Sig.sz]) <;> omega,by (try simp only [Sig.sz]) <;> omega⟩)
 go_wp2_with (fail)
 try any_goals (go_ret; refine ⟨⟨_,rfl,?_⟩,by have zh:=hB2; exact zz1⟩; first | exact .inl ⟨rfl,by (try simp only [Sig.sz]) <;> omega⟩ | exact .inr ⟨by (try simp only [Sig.sz]) <;> omega,by (try simp only [Sig.sz]) <;> omega⟩)
 refine (sz_StringS x.sides _ _ _ _ _ (r2.later (by have zh:=hB2; exact zz1)) (Nat.le_trans a2 b2) zz4 zz4).mono ?_
 rintro e3 w3 ⟨⟨n3,rfl,hn3⟩,hb3⟩
 have hB3 : Below w.heap.size w w3:=by have zh:=hB2; refine Below.trans (b:=_) ?_ (hb3.mono ?_) <;> exact zz7
 have hz3 : w.heap.size + 1 ≤ w3.heap.size:=by have:=hb3.size; (try simp at this); omega
 have hc3:=fun o => hb3.cell (p:=⟨w.heap.size,o,none⟩) zz0
 rcases hn3 with ⟨rfl,hn3⟩ | ⟨rfl,hn3⟩
 ·go_wp2_with (fail)
  (go_ret; refine ⟨⟨_,rfl,?_⟩,by have zh:=hB3; exact zz1⟩; first | exact .inl ⟨rfl,by (try simp only [Sig.sz]) <;> omega⟩ | exact .inr ⟨by (try simp only [Sig.sz]) <;> omega,by (try simp only [Sig.sz]) <;> omega⟩)
 go_wp2_with (fail)
 all_goals (go_ret; refine ⟨⟨_,rfl,?_⟩,by have zh:=hB3; exact zz1⟩; first | exact .inl ⟨rfl,by (try simp only [Sig.sz]) <;> omega⟩ | exact .inr ⟨by (try simp only [Sig.sz]) <;> omega,by (try simp only [Sig.sz]) <;> omega⟩)
theorem sz_Seal (x : Seal) (w : World) (cs : List Value) (S : Blks) (left : Int) (hx : rd false w cs x S) (h0 : 0 ≤ left) (h1 : left ≤ 1048576) :
  Calls Tryz.prog 90 #[.agg cs.toArray, .int .i64 left] w fun e w' => (∃ n,e = .returned (.int .i64 n) ∧ SzR n left x.sz) ∧ Below w.heap.size w w':=by
 obtain ⟨A0,k0,S0,A1,k1,S1,A2,k2,S2,rfl,f0,f1,f2,f3,f4,a0,b0,r0,s0,a1,b1,r1,s1,a2,b2,r2,s2,pw⟩:=Seal.open hx
 clear hx
 unfold maxLen at f2 f3
 simp only [Seal.cs]
 go_enter Tryz.func90,Tryz.ntmps90
 go_wp2_with (fail)
 try any_goals (go_ret; refine ⟨⟨_,rfl,?_⟩,zz3⟩; first | exact .inl ⟨rfl,by (try simp only [Seal.sz]) <;> omega⟩ | exact .inr ⟨by (try simp only [Seal.sz]) <;> omega,by (try simp only [Seal.sz]) <;> omega⟩)
 refine (sz_Head x.head _ _ _ _ (Head.mk' (m:=false) (S:=S) f0 f1 f2 f3) zz4 zz4).mono ?_
 rintro e1 w1 ⟨⟨n1,rfl,hn1⟩,hb1⟩
 have hB1 : Below w.heap.size w w1:=by refine Below.trans (b:=_) ?_ (hb1.mono ?_) <;> exact zz9
 have hz1 : w.heap.size + 1 ≤ w1.heap.size:=zz28
 have hc1:=fun o => hb1.cell (p:=⟨w.heap.size,o,none⟩) zz0
 rcases hn1 with ⟨rfl,hn1⟩ | ⟨rfl,hn1⟩
 ·go_wp2_with (fail)
  (go_ret; refine ⟨⟨_,rfl,?_⟩,by have zh:=hB1; exact zz1⟩; first | exact .inl ⟨rfl,by (try simp only [Seal.sz]) <;> omega⟩ | exact .inr ⟨by (try simp only [Seal.sz]) <;> omega,by (try simp only [Seal.sz]) <;> omega⟩)
 go_wp2_with (fail)
 try any_goals (go_ret; refine ⟨⟨_,rfl,?_⟩,by have zh:=hB1; exact zz1⟩; first | exact .inl ⟨rfl,by (try simp only [Seal.sz]) <;> omega⟩ | exact .inr ⟨by (try simp only [Seal.sz]) <;> omega,by (try simp only [Seal.sz]) <;> omega⟩)
 refine (sz_Sig x.sig _ _ _ _ (Sig.mk' (m:=false) (S:=S) f4 a0 b0 (r0.later (by have zh:=hB1; exact zz1)) s0 a1 b1 (r1.later (by have zh:=hB1; exact zz1)) s1 a2 b2 (r2.later (by have zh:=hB1; exact zz1)) s2 zz17) zz4 zz4).mono ?_
 rintro e2 w2 ⟨⟨n2,rfl,hn2⟩,hb2⟩
 have hB2 : Below w.heap.size w w2:=by have zh:=hB1; refine Below.trans (b:=_) ?_ (hb2.mono ?_) <;> exact zz7
 have hz2 : w.heap.size + 1 ≤ w2.heap.size:=zz35
 have hc2:=fun o => hb2.cell (p:=⟨w.heap.size,o,none⟩) zz0
 rcases hn2 with ⟨rfl,hn2⟩ | ⟨rfl,hn2⟩
 ·go_wp2_with (fail)
  (go_ret; refine ⟨⟨_,rfl,?_⟩,by have zh:=hB2; exact zz1⟩; first | exact .inl ⟨rfl,by (try simp only [Seal.sz]) <;> omega⟩ | exact .inr ⟨by (try simp only [Seal.sz]) <;> omega,by (try simp only [Seal.sz]) <;> omega⟩)
 go_wp2_with (fail)
 all_goals (go_ret; refine ⟨⟨_,rfl,?_⟩,by have zh:=hB2; exact zz1⟩; first | exact .inl ⟨rfl,by (try simp only [Seal.sz]) <;> omega⟩ | exact .inr ⟨by (try simp only [Seal.sz]) <;> omega,by (try simp only [Seal.sz]) <;> omega⟩)
theorem sz_SealS (xs : List Seal) (w : World) (A : Option Addr) (cap : Nat) (S : Blks) (left : Int) (hx : Row false w A cap xs S) (hl : xs.length ≤ maxLen) (h0 : 0 ≤ left) (h1 : left ≤ 1048576) :
  Calls Tryz.prog 46 #[.slice A xs.length cap, .int .i64 left] w fun e w' => (∃ n,e = .returned (.int .i64 n) ∧ SzR n left (szL xs)) ∧ Below w.heap.size w w':=by
 unfold maxLen at hl
 have hall:=szT_all xs
 go_enter Tryz.func46,Tryz.ntmps46
 go_wp2_with (fail)
 ·go_ret; refine ⟨⟨_,rfl,?_⟩,Below.refl _ _⟩; have:=szT_le xs 0; exact .inl ⟨rfl,zz4⟩
 have HA:=zd hall; clear hall
 go_loopw [1,5] (fun l i wr => ∃ k : Nat,k ≤ xs.length ∧ i = .int .i64 k ∧ l = .int .i64 (left - xs.length - (szT xs k : Int)) ∧ 0 ≤ left - xs.length - (szT xs k : Int) ∧ Below w.heap.size w wr) (fun _ i _ => xs.length - (intOf i).toNat)
 case atStart => exact ⟨0,Nat.zero_le _,rfl,by rw [szT_zero]; simp,by rw [szT_zero]; omega,Below.refl _ _⟩
 case round =>
  obtain ⟨k,hk,rfl,rfl,hpos,hb⟩:=hrel
  have hz:=hb.size
  by_cases hlt : k < xs.length
  ·have hne : xs ≠ []:=by rintro rfl; simp at hlt
   obtain ⟨b1,o1,rfl,hS,T1,hT1,_,he1⟩:=hx hne
   obtain ⟨c1,ha1,hr1⟩:=he1 k hlt
   have hl1:=ha1.lt zz39
   replace ha1:=ha1.keep (hb.block _ hl1)
   replace hr1:=Lay.later hr1 hb
   have hsu:=szT_succ xs k hlt
   have hle:=szT_le xs (k + 1)
   have hr2:=zd hr1
   obtain ⟨A0,k0,S0,A1,k1,S1,A2,k2,S2,rfl,f0,f1,f2,f3,f4,a0,b0,r0,s0,a1,b1,r1,s1,a2,b2,r2,s2,pw⟩:=Seal.open hr1
   have q0:=ha1 0 _ rfl
   have q1:=ha1 1 _ rfl
   have q2:=ha1 2 _ rfl
   have q3:=ha1 3 _ rfl
   have q4:=ha1 4 _ rfl
   have q5:=ha1 5 _ rfl
   have q6:=ha1 6 _ rfl
   have q7:=ha1 7 _ rfl
   simp only [show Lay.n Seal = 8 from rfl,Nat.add_zero] at q0 q1 q2 q3 q4 q5 q6 q7
   have hse : Mk.sz xs[k] = xs[k].sz:=rfl
   rw [hse] at hsu
   have HS:=zd hsu; clear hsu hse hle ha1 he1
   go_wp2_with (fail)
   refine (sz_Seal xs[k] _ (Seal.cs xs[k] A0 k0 A1 k1 A2 k2) _ _ (Lay.later hr2.out zz3) zz4 zz4).mono ?_
   rintro e1 w1 ⟨⟨n1,rfl,hn1⟩,hb1⟩
   have hB1 : Below w.heap.size w w1:=by have zh:=hb; refine Below.trans ?_ (hb1.mono ?_) <;> exact zz13
   rcases hn1 with ⟨rfl,hn1⟩ | ⟨rfl,hn1⟩
   ·go_wp2
    go_ret; refine ⟨⟨_,rfl,?_⟩,hB1⟩; have:=HS.out; have:=HA.out; have:=szT_le xs (k + 1); exact .inl ⟨rfl,zz4⟩
   ·go_wp2
    go_roundw
    case rel => exact ⟨k + 1,zz4,by go_num,by rw [HS.out]; congr 1; omega,by rw [HS.out]; omega,hB1⟩
    case measure => simp [intOf]; omega
  ·have hke : k = xs.length:=by omega
   go_wp2
   go_ret; refine ⟨⟨_,rfl,?_⟩,hb⟩; have:=HA.out; subst hke; exact .inr ⟨zz4,zz4⟩
theorem sz_Pair (x : Pair) (w : World) (cs : List Value) (S : Blks) (left : Int) (hx : rd false w cs x S) (h0 : 0 ≤ left) (h1 : left ≤ 1048576) :
  Calls Tryz.prog 91 #[.agg cs.toArray, .int .i64 left] w fun e w' => (∃ n,e = .returned (.int .i64 n) ∧ SzR n left x.sz) ∧ Below w.heap.size w w':=by
 obtain ⟨A0,k0,S0,A1,k1,S1,A2,k2,S2,A3,k3,S3,A4,k4,S4,A5,k5,S5,rfl,f0,f1,f2,f3,f4,f8,f9,f10,f11,f12,a0,b0,r0,s0,a1,b1,r1,s1,a2,b2,r2,s2,a3,b3,r3,s3,a4,b4,r4,s4,a5,b5,r5,s5,pw⟩:=Pair.open hx
 clear hx
 unfold maxLen at f2 f3 f10 f11
 simp only [Pair.cs]
 go_enter Tryz.func91,Tryz.ntmps91
 go_wp2_with (fail)
 try any_goals (go_ret; refine ⟨⟨_,rfl,?_⟩,zz3⟩; first | exact .inl ⟨rfl,by (try simp only [Pair.sz]) <;> omega⟩ | exact .inr ⟨by (try simp only [Pair.sz]) <;> omega,by (try simp only [Pair.sz]) <;> omega⟩)
 refine (sz_Seal x.a _ _ _ _ (Seal.mk' (m:=false) (S:=S) f0 f1 f2 f3 f4 a0 b0 (r0.later zz3) s0 a1 b1 (r1.later zz3) s1 a2 b2 (r2.later zz3) s2 zz17) zz4 zz4).mono ?_
 rintro e1 w1 ⟨⟨n1,rfl,hn1⟩,hb1⟩
 have hB1 : Below w.heap.size w w1:=by refine Below.trans (b:=_) ?_ (hb1.mono ?_) <;> exact zz9
 have hz1 : w.heap.size + 1 ≤ w1.heap.size:=zz28
 have hc1:=fun o => hb1.cell (p:=⟨w.heap.size,o,none⟩) zz0
 rcases hn1 with ⟨rfl,hn1⟩ | ⟨rfl,hn1⟩
 ·go_wp2_with (fail)
  (go_ret; refine ⟨⟨_,rfl,?_⟩,by have zh:=hB1; exact zz1⟩; first | exact .inl ⟨rfl,by (try simp only [Pair.sz]) <;> omega⟩ | exact .inr ⟨by (try simp only [Pair.sz]) <;> omega,by (try simp only [Pair.sz]) <;> omega⟩)
 go_wp2_with (fail)
 try any_goals (go_ret; refine ⟨⟨_,rfl,?_⟩,by have zh:=hB1; exact zz1⟩; first | exact .inl ⟨rfl,by (try simp only [Pair.sz]) <;> omega⟩ | exact .inr ⟨by (try simp only [Pair.sz]) <;> omega,by (try simp only [Pair.sz]) <;> omega⟩)
 refine (sz_Seal x.b _ _ _ _ (Seal.mk' (m:=false) (S:=S) f8 f9 f10 f11 f12 a3 b3 (r3.later (by have zh:=hB1; exact zz1)) s3 a4 b4 (r4.later (by have zh:=hB1; exact zz1)) s4 a5 b5 (r5.later (by have zh:=hB1; exact zz1)) s5 zz17) zz4 zz4).mono ?_
 rintro e2 w2 ⟨⟨n2,rfl,hn2⟩,hb2⟩
 have hB2 : Below w.heap.size w w2:=by have zh:=hB1; refine Below.trans (b:=_) ?_ (hb2.mono ?_) <;> exact zz7
 have hz2 : w.heap.size + 1 ≤ w2.heap.size:=zz35
 have hc2:=fun o => hb2.cell (p:=⟨w.heap.size,o,none⟩) zz0
 rcases hn2 with ⟨rfl,hn2⟩ | ⟨rfl,hn2⟩
 ·go_wp2_with (fail)
  (go_ret; refine ⟨⟨_,rfl,?_⟩,by have zh:=hB2; exact zz1⟩; first | exact .inl ⟨rfl,by (try simp only [Pair.sz]) <;> omega⟩ | exact .inr ⟨by (try simp only [Pair.sz]) <;> omega,by (try simp only [Pair.sz]) <;> omega⟩)
 go_wp2_with (fail)
 all_goals (go_ret; refine ⟨⟨_,rfl,?_⟩,by have zh:=hB2; exact zz1⟩; first | exact .inl ⟨rfl,by (try simp only [Pair.sz]) <;> omega⟩ | exact .inr ⟨by (try simp only [Pair.sz]) <;> omega,by (try simp only [Pair.sz]) <;> omega⟩)
theorem sz_PairS (xs : List Pair) (w : World) (A : Option Addr) (cap : Nat) (S : Blks) (left : Int) (hx : Row false w A cap xs S) (hl : xs.length ≤ maxLen) (h0 : 0 ≤ left) (h1 : left ≤ 1048576) :
  Calls Tryz.prog 47 #[.slice A xs.length cap, .int .i64 left] w fun e w' => (∃ n,e = .returned (.int .i64 n) ∧ SzR n left (szL xs)) ∧ Below w.heap.size w w':=by
 unfold maxLen at hl
 have hall:=szT_all xs
 go_enter Tryz.func47,Tryz.ntmps47
 go_wp2_with (fail)
 ·go_ret; refine ⟨⟨_,rfl,?_⟩,Below.refl _ _⟩; have:=szT_le xs 0; exact .inl ⟨rfl,zz4⟩
 have HA:=zd hall; clear hall
 go_loopw [1,5] (fun l i wr => ∃ k : Nat,k ≤ xs.length ∧ i = .int .i64 k ∧ l = .int .i64 (left - xs.length - (szT xs k : Int)) ∧ 0 ≤ left - xs.length - (szT xs k : Int) ∧ Below w.heap.size w wr) (fun _ i _ => xs.length - (intOf i).toNat)
 case atStart => exact ⟨0,Nat.zero_le _,rfl,by rw [szT_zero]; simp,by rw [szT_zero]; omega,Below.refl _ _⟩
 case round =>
  obtain ⟨k,hk,rfl,rfl,hpos,hb⟩:=hrel
  have hz:=hb.size
  by_cases hlt : k < xs.length
  ·have hne : xs ≠ []:=by rintro rfl; simp at hlt
   obtain ⟨b1,o1,rfl,hS,T1,hT1,_,he1⟩:=hx hne
   obtain ⟨c1,ha1,hr1⟩:=he1 k hlt
   have hl1:=ha1.lt zz39
   replace ha1:=ha1.keep (hb.block _ hl1)
   replace hr1:=Lay.later hr1 hb
   have hsu:=szT_succ xs k hlt
   have hle:=szT_le xs (k + 1)
   have hr2:=zd hr1
   obtain ⟨A0,k0,S0,A1,k1,S1,A2,k2,S2,A3,k3,S3,A4,k4,S4,A5,k5,S5,rfl,f0,f1,f2,f3,f4,f8,f9,f10,f11,f12,a0,b0,r0,s0,a1,b1,r1,s1,a2,b2,r2,s2,a3,b3,r3,s3,a4,b4,r4,s4,a5,b5,r5,s5,pw⟩:=Pair.open hr1
   have q0:=ha1 0 _ rfl
   have q1:=ha1 1 _ rfl
   have q2:=ha1 2 _ rfl
   have q3:=ha1 3 _ rfl
   have q4:=ha1 4 _ rfl
   have q5:=ha1 5 _ rfl
   have q6:=ha1 6 _ rfl
   have q7:=ha1 7 _ rfl
   have q8:=ha1 8 _ rfl
   have q9:=ha1 9 _ rfl
   have q10:=ha1 10 _ rfl
   have q11:=ha1 11 _ rfl
   have q12:=ha1 12 _ rfl
   have q13:=ha1 13 _ rfl
   have q14:=ha1 14 _ rfl
   have q15:=ha1 15 _ rfl
   simp only [show Lay.n Pair = 16 from rfl,Nat.add_zero] at q0 q1 q2 q3 q4 q5 q6 q7 q8 q9 q10 q11 q12 q13 q14 q15
   have hse : Mk.sz xs[k] = xs[k].sz:=rfl
   rw [hse] at hsu
   have HS:=zd hsu; clear hsu hse hle ha1 he1
   go_wp2_with (fail)
   refine (sz_Pair xs[k] _ (Pair.cs xs[k] A0 k0 A1 k1 A2 k2 A3 k3 A4 k4 A5 k5) _ _ (Lay.later hr2.out zz3) zz4 zz4).mono ?_
   rintro e1 w1 ⟨⟨n1,rfl,hn1⟩,hb1⟩
   have hB1 : Below w.heap.size w w1:=by have zh:=hb; refine Below.trans ?_ (hb1.mono ?_) <;> exact zz13
   rcases hn1 with ⟨rfl,hn1⟩ | ⟨rfl,hn1⟩
   ·go_wp2
    go_ret; refine ⟨⟨_,rfl,?_⟩,hB1⟩; have:=HS.out; have:=HA.out; have:=szT_le xs (k + 1); exact .inl ⟨rfl,zz4⟩
   ·go_wp2
    go_roundw
    case rel => exact ⟨k + 1,zz4,by go_num,by rw [HS.out]; congr 1; omega,by rw [HS.out]; omega,hB1⟩
    case measure => simp [intOf]; omega
  ·have hke : k = xs.length:=by omega
   go_wp2
   go_ret; refine ⟨⟨_,rfl,?_⟩,hb⟩; have:=HA.out; subst hke; exact .inr ⟨zz4,zz4⟩
theorem sz_Auditor (x : Auditor) (w : World) (cs : List Value) (S : Blks) (left : Int) (hx : rd false w cs x S) (h0 : 0 ≤ left) (h1 : left ≤ 1048576) :
  Calls Tryz.prog 16 #[.agg cs.toArray, .int .i64 left] w fun e w' => (∃ n,e = .returned (.int .i64 n) ∧ SzR n left x.sz) ∧ Below w.heap.size w w':=by
 obtain ⟨A0,k0,S0,A1,k1,S1,A2,k2,S2,A3,k3,S3,rfl,f0,a0,b0,r0,s0,a1,b1,r1,s1,a2,b2,r2,s2,a3,b3,r3,s3,pw⟩:=Auditor.open hx
 clear hx
 simp only [Auditor.cs]
 go_enter Tryz.func16,Tryz.ntmps16
 go_wp2_with (fail)
 try any_goals (go_ret; refine ⟨⟨_,rfl,?_⟩,zz3⟩; first | exact .inl ⟨rfl,by (try simp only [Auditor.sz]) <;> omega⟩ | exact .inr ⟨by (try simp only [Auditor.sz]) <;> omega,by (try simp only [Auditor.sz]) <;> omega⟩)
 refine (sz_Disk x.disk _ _ _ _ (Disk.mk' (m:=false) (S:=S) a0 b0 (r0.later zz3) s0) zz4 zz4).mono ?_
 rintro e1 w1 ⟨⟨n1,rfl,hn1⟩,hb1⟩
 have hB1 : Below w.heap.size w w1:=by refine Below.trans (b:=_) ?_ (hb1.mono ?_) <;> exact zz9
 have hz1 : w.heap.size + 1 ≤ w1.heap.size:=zz28
 have hc1:=fun o => hb1.cell (p:=⟨w.heap.size,o,none⟩) zz0
 rcases hn1 with ⟨rfl,hn1⟩ | ⟨rfl,hn1⟩
 ·go_wp2_with (fail)
  (go_ret; refine ⟨⟨_,rfl,?_⟩,by have zh:=hB1; exact zz1⟩; first | exact .inl ⟨rfl,by (try simp only [Auditor.sz]) <;> omega⟩ | exact .inr ⟨by (try simp only [Auditor.sz]) <;> omega,by (try simp only [Auditor.sz]) <;> omega⟩)
 go_wp2_with (fail)
 try any_goals (go_ret; refine ⟨⟨_,rfl,?_⟩,by have zh:=hB1; exact zz1⟩; first | exact .inl ⟨rfl,by (try simp only [Auditor.sz]) <;> omega⟩ | exact .inr ⟨by (try simp only [Auditor.sz]) <;> omega,by (try simp only [Auditor.sz]) <;> omega⟩)
 refine (sz_StringS x.pool _ _ _ _ _ (r1.later (by have zh:=hB1; exact zz1)) (Nat.le_trans a1 b1) zz4 zz4).mono ?_
 rintro e2 w2 ⟨⟨n2,rfl,hn2⟩,hb2⟩
 have hB2 : Below w.heap.size w w2:=by have zh:=hB1; refine Below.trans (b:=_) ?_ (hb2.mono ?_) <;> exact zz7
 have hz2 : w.heap.size + 1 ≤ w2.heap.size:=zz35
 have hc2:=fun o => hb2.cell (p:=⟨w.heap.size,o,none⟩) zz0
 rcases hn2 with ⟨rfl,hn2⟩ | ⟨rfl,hn2⟩
 ·go_wp2_with (fail)
  (go_ret; refine ⟨⟨_,rfl,?_⟩,by have zh:=hB2; exact zz1⟩; first | exact .inl ⟨rfl,by (try simp only [Auditor.sz]) <;> omega⟩ | exact .inr ⟨by (try simp only [Auditor.sz]) <;> omega,by (try simp only [Auditor.sz]) <;> omega⟩)
 go_wp2_with (fail)
 try any_goals (go_ret; refine ⟨⟨_,rfl,?_⟩,by have zh:=hB2; exact zz1⟩; first | exact .inl ⟨rfl,by (try simp only [Auditor.sz]) <;> omega⟩ | exact .inr ⟨by (try simp only [Auditor.sz]) <;> omega,by (try simp only [Auditor.sz]) <;> omega⟩)
 refine (sz_SealS x.pins _ _ _ _ _ (r2.later (by have zh:=hB2; exact zz1)) (Nat.le_trans a2 b2) zz4 zz4).mono ?_
 rintro e3 w3 ⟨⟨n3,rfl,hn3⟩,hb3⟩
 have hB3 : Below w.heap.size w w3:=by have zh:=hB2; refine Below.trans (b:=_) ?_ (hb3.mono ?_) <;> exact zz7
 have hz3 : w.heap.size + 1 ≤ w3.heap.size:=by have:=hb3.size; (try simp at this); omega
 have hc3:=fun o => hb3.cell (p:=⟨w.heap.size,o,none⟩) zz0
 rcases hn3 with ⟨rfl,hn3⟩ | ⟨rfl,hn3⟩
 ·go_wp2_with (fail)
  (go_ret; refine ⟨⟨_,rfl,?_⟩,by have zh:=hB3; exact zz1⟩; first | exact .inl ⟨rfl,by (try simp only [Auditor.sz]) <;> omega⟩ | exact .inr ⟨by (try simp only [Auditor.sz]) <;> omega,by (try simp only [Auditor.sz]) <;> omega⟩)
 go_wp2_with (fail)
 try any_goals (go_ret; refine ⟨⟨_,rfl,?_⟩,by have zh:=hB3; exact zz1⟩; first | exact .inl ⟨rfl,by (try simp only [Auditor.sz]) <;> omega⟩ | exact .inr ⟨by (try simp only [Auditor.sz]) <;> omega,by (try simp only [Auditor.sz]) <;> omega⟩)
 refine (sz_PairS x.pairs _ _ _ _ _ (r3.later (by have zh:=hB3; exact zz1)) (Nat.le_trans a3 b3) zz4 zz4).mono ?_
 rintro e4 w4 ⟨⟨n4,rfl,hn4⟩,hb4⟩
 have hB4 : Below w.heap.size w w4:=by have zh:=hB3; refine Below.trans (b:=_) ?_ (hb4.mono ?_) <;> exact zz7
 have hz4 : w.heap.size + 1 ≤ w4.heap.size:=by have:=hb4.size; (try simp at this); omega
 have hc4:=fun o => hb4.cell (p:=⟨w.heap.size,o,none⟩) zz0
 rcases hn4 with ⟨rfl,hn4⟩ | ⟨rfl,hn4⟩
 ·go_wp2_with (fail)
  (go_ret; refine ⟨⟨_,rfl,?_⟩,by have zh:=hB4; exact zz1⟩; first | exact .inl ⟨rfl,by (try simp only [Auditor.sz]) <;> omega⟩ | exact .inr ⟨by (try simp only [Auditor.sz]) <;> omega,by (try simp only [Auditor.sz]) <;> omega⟩)
 go_wp2_with (fail)
 all_goals (go_ret; refine ⟨⟨_,rfl,?_⟩,by have zh:=hB4; exact zz1⟩; first | exact .inl ⟨rfl,by (try simp only [Auditor.sz]) <;> omega⟩ | exact .inr ⟨by (try simp only [Auditor.sz]) <;> omega,by (try simp only [Auditor.sz]) <;> omega⟩)
end Go.Proofs.YtlfnmbcnehaikaaGreatDoor
