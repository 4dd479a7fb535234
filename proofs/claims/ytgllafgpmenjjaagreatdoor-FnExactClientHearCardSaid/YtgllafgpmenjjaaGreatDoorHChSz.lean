/- A part of the proof. -/
import Derived.Test.YtgllafgpmenjjaaGreatDoorProg
import Derived.Test.YtgllafgpmenjjaaGreatDoorHChTy
set_option linter.unusedVariables false
set_option linter.unusedSimpArgs false
set_option maxRecDepth 20000
set_option maxHeartbeats 1000000
namespace Go.Proofs.YtgllafgpmenjjaaGreatDoor
open Go.RowKit Lay Mk
theorem sz_Head (x : Head) (w : World) (cs : List Value) (S : Blks) (left : Int) (hx : rd false w cs x S) (h0 : 0 ≤ left) (h1 : left ≤ 1048576) :
  Calls Tryz.prog 78 #[.agg cs.toArray, .int .i64 left] w fun e w' => (∃ n,e = .returned (.int .i64 n) ∧ SzR n left x.sz) ∧ Below w.heap.size w w':=by
 obtain ⟨rfl,f0,f1,f2,f3⟩:=Head.open hx
 clear hx
 unfold maxLen at f2 f3
 simp only [Head.cs]
 go_enter Tryz.func78,Tryz.ntmps78
 go_wp2_with (fail)
 all_goals (go_ret; refine ⟨⟨_,rfl,?_⟩,zz3⟩; first | exact .inl ⟨rfl,by (try simp only [Head.sz]) <;> omega⟩ | exact .inr ⟨by (try simp only [Head.sz]) <;> omega,by (try simp only [Head.sz]) <;> omega⟩)
theorem sz_HeadS (xs : List Head) (w : World) (A : Option Addr) (cap : Nat) (S : Blks) (left : Int) (hx : Row false w A cap xs S) (hl : xs.length ≤ maxLen) (h0 : 0 ≤ left) (h1 : left ≤ 1048576) :
  Calls Tryz.prog 39 #[.slice A xs.length cap, .int .i64 left] w fun e w' => (∃ n,e = .returned (.int .i64 n) ∧ SzR n left (szL xs)) ∧ Below w.heap.size w w':=by
 unfold maxLen at hl
 have hall:=szT_all xs
 go_enter Tryz.func39,Tryz.ntmps39
 go_wp2_with (fail)
 ·go_ret; refine ⟨⟨_,rfl,?_⟩,Below.refl _ _⟩; have:=szT_le xs 0; exact .inl ⟨rfl,zz8⟩
 have HA:=zd hall; clear hall
 go_loopw [1,5] (fun l i wr => ∃ k : Nat,k ≤ xs.length ∧ i = .int .i64 k ∧ l = .int .i64 (left - xs.length - (szT xs k : Int)) ∧ 0 ≤ left - xs.length - (szT xs k : Int) ∧ Below w.heap.size w wr) (fun _ i _ => xs.length - (intOf i).toNat)
 case atStart => exact ⟨0,Nat.zero_le _,rfl,by rw [szT_zero]; simp,by rw [szT_zero]; omega,Below.refl _ _⟩
 case round =>
  obtain ⟨k,hk,rfl,rfl,hpos,hb⟩:=hrel
  have hz:=hb.size
  by_cases hlt : k < xs.length
  ·have hne : xs ≠ []:=by rintro rfl; simp at hlt
   obtain ⟨b1,o1,rfl,hS,T1,hT1,_,he1⟩:=hx hne
   obtain ⟨c1,ha1,hr1⟩:=he1 k hlt
   have hl1:=ha1.lt zz41
   replace ha1:=ha1.keep (hb.block _ hl1)
   replace hr1:=Lay.later hr1 hb
   have hsu:=szT_succ xs k hlt
   have hle:=szT_le xs (k + 1)
   have hr2:=zd hr1
   obtain ⟨rfl,f0,f1,f2,f3⟩:=Head.open hr1
   have q0:=ha1 0 _ rfl
   have q1:=ha1 1 _ rfl
   have q2:=ha1 2 _ rfl
   have q3:=ha1 3 _ rfl
   simp only [show Lay.n Head = 4 from rfl,Nat.add_zero] at q0 q1 q2 q3
   have hse : Mk.sz xs[k] = xs[k].sz:=rfl
   rw [hse] at hsu
   have HS:=zd hsu; clear hsu hse hle ha1 he1
   go_wp2_with (fail)
   refine (sz_Head xs[k] _ (Head.cs xs[k]) _ _ (Lay.later hr2.out zz3) zz8 zz8).mono ?_
   rintro e1 w1 ⟨⟨n1,rfl,hn1⟩,hb1⟩
   have hB1 : Below w.heap.size w w1:=by have zh:=hb; refine Below.trans ?_ (hb1.mono ?_) <;> exact zz19
   rcases hn1 with ⟨rfl,hn1⟩ | ⟨rfl,hn1⟩
   ·go_wp2
    go_ret; refine ⟨⟨_,rfl,?_⟩,hB1⟩; have:=HS.out; have:=HA.out; have:=szT_le xs (k + 1); exact .inl ⟨rfl,zz8⟩
   ·go_wp2
    go_roundw
    case rel => exact ⟨k + 1,zz8,by go_num,by rw [HS.out]; congr 1; omega,by rw [HS.out]; omega,hB1⟩
    case measure => simp [intOf]; omega
  ·have hke : k = xs.length:=by omega
   go_wp2
   go_ret; refine ⟨⟨_,rfl,?_⟩,hb⟩; have:=HA.out; subst hke; exact .inr ⟨zz8,zz8⟩
theorem sz_Client (x : Client) (w : World) (cs : List Value) (S : Blks) (left : Int) (hx : rd false w cs x S) (h0 : 0 ≤ left) (h1 : left ≤ 1048576) :
  Calls Tryz.prog 6 #[.agg cs.toArray, .int .i64 left] w fun e w' => (∃ n,e = .returned (.int .i64 n) ∧ SzR n left x.sz) ∧ Below w.heap.size w w':=by
 obtain ⟨A0,k0,S0,rfl,f0,a0,b0,r0,s0⟩:=Client.open hx
 clear hx
 simp only [Client.cs]
 go_enter Tryz.func6,Tryz.ntmps6
 go_wp2_with (fail)
 try any_goals (go_ret; refine ⟨⟨_,rfl,?_⟩,zz3⟩; first | exact .inl ⟨rfl,by (try simp only [Client.sz]) <;> omega⟩ | exact .inr ⟨by (try simp only [Client.sz]) <;> omega,by (try simp only [Client.sz]) <;> omega⟩)
 refine (sz_HeadS x.seen _ _ _ _ _ (r0.later zz3) (Nat.le_trans a0 b0) zz8 zz8).mono ?_
 rintro e1 w1 ⟨⟨n1,rfl,hn1⟩,hb1⟩
 have hB1 : Below w.heap.size w w1:=by refine Below.trans (b:=_) ?_ (hb1.mono ?_) <;> exact zz10
 have hz1 : w.heap.size + 1 ≤ w1.heap.size:=zz27
 have hc1:=fun o => hb1.cell (p:=⟨w.heap.size,o,none⟩) zz0
 rcases hn1 with ⟨rfl,hn1⟩ | ⟨rfl,hn1⟩
 ·go_wp2_with (fail)
  (go_ret; refine ⟨⟨_,rfl,?_⟩,by have zh:=hB1; exact zz1⟩; first | exact .inl ⟨rfl,by (try simp only [Client.sz]) <;> omega⟩ | exact .inr ⟨by (try simp only [Client.sz]) <;> omega,by (try simp only [Client.sz]) <;> omega⟩)
 go_wp2_with (fail)
 all_goals (go_ret; refine ⟨⟨_,rfl,?_⟩,by have zh:=hB1; exact zz1⟩; first | exact .inl ⟨rfl,by (try simp only [Client.sz]) <;> omega⟩ | exact .inr ⟨by (try simp only [Client.sz]) <;> omega,by (try simp only [Client.sz]) <;> omega⟩)
theorem sz_StringS (xs : List ByteArray) (w : World) (A : Option Addr) (cap : Nat) (S : Blks) (left : Int) (hx : Row false w A cap xs S) (hl : xs.length ≤ maxLen) (h0 : 0 ≤ left) (h1 : left ≤ 1048576) :
  Calls Tryz.prog 40 #[.slice A xs.length cap, .int .i64 left] w fun e w' => (∃ n,e = .returned (.int .i64 n) ∧ SzR n left (szL xs)) ∧ Below w.heap.size w w':=by
 unfold maxLen at hl
 have hall:=szT_all xs
 go_enter Tryz.func40,Tryz.ntmps40
 go_wp2_with (fail)
 ·go_ret; refine ⟨⟨_,rfl,?_⟩,Below.refl _ _⟩; have:=szT_le xs 0; exact .inl ⟨rfl,zz8⟩
 have HA:=zd hall; clear hall
 go_loopw [1,5] (fun l i wr => ∃ k : Nat,k ≤ xs.length ∧ i = .int .i64 k ∧ l = .int .i64 (left - xs.length - (szT xs k : Int)) ∧ 0 ≤ left - xs.length - (szT xs k : Int) ∧ Below w.heap.size w wr) (fun _ i _ => xs.length - (intOf i).toNat)
 case atStart => exact ⟨0,Nat.zero_le _,rfl,by rw [szT_zero]; simp,by rw [szT_zero]; omega,Below.refl _ _⟩
 case round =>
  obtain ⟨k,hk,rfl,rfl,hpos,hb⟩:=hrel
  have hz:=hb.size
  by_cases hlt : k < xs.length
  ·have hne : xs ≠ []:=by rintro rfl; simp at hlt
   obtain ⟨b1,o1,rfl,hS,T1,hT1,_,he1⟩:=hx hne
   obtain ⟨c1,ha1,hr1⟩:=he1 k hlt
   have hl1:=ha1.lt zz41
   replace ha1:=ha1.keep (hb.block _ hl1)
   replace hr1:=Lay.later hr1 hb
   have hsu:=szT_succ xs k hlt
   have hle:=szT_le xs (k + 1)
   obtain ⟨rfl,g1⟩:=open_str hr1
   have f0:=ha1 0 _ rfl
   simp only [show Lay.n ByteArray = 1 from rfl,Nat.add_zero,Nat.mul_one] at f0
   unfold maxLen at g1
   have hse : Mk.sz xs[k] = xs[k].size:=rfl
   rw [hse] at hsu
   have HS:=zd hsu; clear hsu hse hle ha1 he1 hr1
   go_wp2
   ·go_ret; refine ⟨⟨_,rfl,?_⟩,hb⟩; have:=HS.out; have:=HA.out; have:=szT_le xs (k + 1); exact .inl ⟨rfl,zz8⟩
   go_roundw
   case rel => exact ⟨k + 1,zz8,by go_num,by rw [HS.out]; congr 1; omega,by rw [HS.out]; omega,hb⟩
   case measure => simp [intOf]; omega
  ·have hke : k = xs.length:=by omega
   go_wp2
   go_ret; refine ⟨⟨_,rfl,?_⟩,hb⟩; have:=HA.out; subst hke; exact .inr ⟨zz8,zz8⟩
theorem sz_Trust (x : Trust) (w : World) (cs : List Value) (S : Blks) (left : Int) (hx : rd false w cs x S) (h0 : 0 ≤ left) (h1 : left ≤ 1048576) :
  Calls Tryz.prog 7 #[.agg cs.toArray, .int .i64 left] w fun e w' => (∃ n,e = .returned (.int .i64 n) ∧ SzR n left x.sz) ∧ Below w.heap.size w w':=by
 obtain ⟨A0,k0,S0,rfl,f1,f2,a0,b0,r0,s0⟩:=Trust.open hx
 clear hx
 simp only [Trust.cs]
 go_enter Tryz.func7,Tryz.ntmps7
 go_wp2_with (fail)
 try any_goals (go_ret; refine ⟨⟨_,rfl,?_⟩,zz3⟩; first | exact .inl ⟨rfl,by (try simp only [Trust.sz]) <;> omega⟩ | exact .inr ⟨by (try simp only [Trust.sz]) <;> omega,by (try simp only [Trust.sz]) <;> omega⟩)
 refine (sz_StringS x.roots _ _ _ _ _ (r0.later zz3) (Nat.le_trans a0 b0) zz8 zz8).mono ?_
 rintro e1 w1 ⟨⟨n1,rfl,hn1⟩,hb1⟩
 have hB1 : Below w.heap.size w w1:=by refine Below.trans (b:=_) ?_ (hb1.mono ?_) <;> exact zz10
 have hz1 : w.heap.size + 1 ≤ w1.heap.size:=zz27
 have hc1:=fun o => hb1.cell (p:=⟨w.heap.size,o,none⟩) zz0
 rcases hn1 with ⟨rfl,hn1⟩ | ⟨rfl,hn1⟩
 ·go_wp2_with (fail)
  (go_ret; refine ⟨⟨_,rfl,?_⟩,by have zh:=hB1; exact zz1⟩; first | exact .inl ⟨rfl,by (try simp only [Trust.sz]) <;> omega⟩ | exact .inr ⟨by (try simp only [Trust.sz]) <;> omega,by (try simp only [Trust.sz]) <;> omega⟩)
 go_wp2_with (fail)
 all_goals (go_ret; refine ⟨⟨_,rfl,?_⟩,by have zh:=hB1; exact zz1⟩; first | exact .inl ⟨rfl,by (try simp only [Trust.sz]) <;> omega⟩ | exact .inr ⟨by (try simp only [Trust.sz]) <;> omega,by (try simp only [Trust.sz]) <;> omega⟩)
theorem sz_Sig (x : Sig) (w : World) (cs : List Value) (S : Blks) (left : Int) (hx : rd false w cs x S) (h0 : 0 ≤ left) (h1 : left ≤ 1048576) :
  Calls Tryz.prog 79 #[.agg cs.toArray, .int .i64 left] w fun e w' => (∃ n,e = .returned (.int .i64 n) ∧ SzR n left x.sz) ∧ Below w.heap.size w w':=by
 obtain ⟨A0,k0,S0,A1,k1,S1,A2,k2,S2,rfl,f0,a0,b0,r0,s0,a1,b1,r1,s1,a2,b2,r2,s2,pw⟩:=Sig.open hx
 clear hx
 simp only [Sig.cs]
 go_enter Tryz.func79,Tryz.ntmps79
 go_wp2_with (fail)
 try any_goals (go_ret; refine ⟨⟨_,rfl,?_⟩,zz3⟩; first | exact .inl ⟨rfl,by (try simp only [Sig.sz]) <;> omega⟩ | exact .inr ⟨by (try simp only [Sig.sz]) <;> omega,by (try simp only [Sig.sz]) <;> omega⟩)
 refine (sz_StringS x.open_ _ _ _ _ _ (r0.later zz3) (Nat.le_trans a0 b0) zz8 zz8).mono ?_
 rintro e1 w1 ⟨⟨n1,rfl,hn1⟩,hb1⟩
 have hB1 : Below w.heap.size w w1:=by refine Below.trans (b:=_) ?_ (hb1.mono ?_) <;> exact zz10
 have hz1 : w.heap.size + 1 ≤ w1.heap.size:=zz27
 have hc1:=fun o => hb1.cell (p:=⟨w.heap.size,o,none⟩) zz0
 rcases hn1 with ⟨rfl,hn1⟩ | ⟨rfl,hn1⟩
 ·go_wp2_with (fail)
  (go_ret; refine ⟨⟨_,rfl,?_⟩,by have zh:=hB1; exact zz1⟩; first | exact .inl ⟨rfl,by (try simp only [Sig.sz]) <;> omega⟩ | exact .inr ⟨by (try simp only [Sig.sz]) <;> omega,by (try simp only [Sig.sz]) <;> omega⟩)
 go_wp2_with (fail)
 try any_goals (go_ret; refine ⟨⟨_,rfl,?_⟩,by have zh:=hB1; exact zz1⟩; first | exact .inl ⟨rfl,by (try simp only [Sig.sz]) <;> omega⟩ | exact .inr ⟨by (try simp only [Sig.sz]) <;> omega,by (try simp only [Sig.sz]) <;> omega⟩)
 refine (sz_StringS x.shut _ _ _ _ _ (r1.later (by have zh:=hB1; exact zz1)) (Nat.le_trans a1 b1) zz8 zz8).mono ?_
 rintro e2 w2 ⟨⟨n2,rfl,hn2⟩,hb2⟩
 have hB2 : Below w.heap.size w w2:=by have zh:=hB1; refine Below.trans (b:=_) ?_ (hb2.mono ?_) <;> exact zz11
 have hz2 : w.heap.size + 1 ≤ w2.heap.size:=zz42
 have hc2:=fun o => hb2.cell (p:=⟨w.heap.size,o,none⟩) zz0
 rcases hn2 with ⟨rfl,hn2⟩ | ⟨rfl,hn2⟩
 ·go_wp2_with (fail)
  (go_ret; refine ⟨⟨_,rfl,?_⟩,by have zh:=hB2; exact zz1⟩; first | exact .inl ⟨rfl,by (try simp only [Sig.sz]) <;> omega⟩ | exact .inr ⟨by (try simp only [Sig.sz]) <;> omega,by (try simp only [Sig.sz]) <;> omega⟩)
 go_wp2_with (fail)
 try any_goals (go_ret; refine ⟨⟨_,rfl,?_⟩,by have zh:=hB2; exact zz1⟩; first | exact .inl ⟨rfl,by (try simp only [Sig.sz]) <;> omega⟩ | exact .inr ⟨by (try simp only [Sig.sz]) <;> omega,by (try simp only [Sig.sz]) <;> omega⟩)
 refine (sz_StringS x.sides _ _ _ _ _ (r2.later (by have zh:=hB2; exact zz1)) (Nat.le_trans a2 b2) zz8 zz8).mono ?_
 rintro e3 w3 ⟨⟨n3,rfl,hn3⟩,hb3⟩
 have hB3 : Below w.heap.size w w3:=by have zh:=hB2; refine Below.trans (b:=_) ?_ (hb3.mono ?_) <;> exact zz11
 have hz3 : w.heap.size + 1 ≤ w3.heap.size:=zz65
 have hc3:=fun o => hb3.cell (p:=⟨w.heap.size,o,none⟩) zz0
 rcases hn3 with ⟨rfl,hn3⟩ | ⟨rfl,hn3⟩
 ·go_wp2_with (fail)
  (go_ret; refine ⟨⟨_,rfl,?_⟩,by have zh:=hB3; exact zz1⟩; first | exact .inl ⟨rfl,by (try simp only [Sig.sz]) <;> omega⟩ | exact .inr ⟨by (try simp only [Sig.sz]) <;> omega,by (try simp only [Sig.sz]) <;> omega⟩)
 go_wp2_with (fail)
 all_goals (go_ret; refine ⟨⟨_,rfl,?_⟩,by have zh:=hB3; exact zz1⟩; first | exact .inl ⟨rfl,by (try simp only [Sig.sz]) <;> omega⟩ | exact .inr ⟨by (try simp only [Sig.sz]) <;> omega,by (try simp only [Sig.sz]) <;> omega⟩)
theorem sz_Seal (x : Seal) (w : World) (cs : List Value) (S : Blks) (left : Int) (hx : rd false w cs x S) (h0 : 0 ≤ left) (h1 : left ≤ 1048576) :
  Calls Tryz.prog 41 #[.agg cs.toArray, .int .i64 left] w fun e w' => (∃ n,e = .returned (.int .i64 n) ∧ SzR n left x.sz) ∧ Below w.heap.size w w':=by
 obtain ⟨A0,k0,S0,A1,k1,S1,A2,k2,S2,rfl,f0,f1,f2,f3,f4,a0,b0,r0,s0,a1,b1,r1,s1,a2,b2,r2,s2,pw⟩:=Seal.open hx
 clear hx
 unfold maxLen at f2 f3
 simp only [Seal.cs]
 go_enter Tryz.func41,Tryz.ntmps41
 go_wp2_with (fail)
 try any_goals (go_ret; refine ⟨⟨_,rfl,?_⟩,zz3⟩; first | exact .inl ⟨rfl,by (try simp only [Seal.sz]) <;> omega⟩ | exact .inr ⟨by (try simp only [Seal.sz]) <;> omega,by (try simp only [Seal.sz]) <;> omega⟩)
 refine (sz_Head x.head _ _ _ _ (Head.mk' (m:=false) (S:=S) f0 f1 f2 f3) zz8 zz8).mono ?_
 rintro e1 w1 ⟨⟨n1,rfl,hn1⟩,hb1⟩
 have hB1 : Below w.heap.size w w1:=by refine Below.trans (b:=_) ?_ (hb1.mono ?_) <;> exact zz10
 have hz1 : w.heap.size + 1 ≤ w1.heap.size:=zz27
 have hc1:=fun o => hb1.cell (p:=⟨w.heap.size,o,none⟩) zz0
 rcases hn1 with ⟨rfl,hn1⟩ | ⟨rfl,hn1⟩
 ·go_wp2_with (fail)
  (go_ret; refine ⟨⟨_,rfl,?_⟩,by have zh:=hB1; exact zz1⟩; first | exact .inl ⟨rfl,by (try simp only [Seal.sz]) <;> omega⟩ | exact .inr ⟨by (try simp only [Seal.sz]) <;> omega,by (try simp only [Seal.sz]) <;> omega⟩)
 go_wp2_with (fail)
 try any_goals (go_ret; refine ⟨⟨_,rfl,?_⟩,by have zh:=hB1; exact zz1⟩; first | exact .inl ⟨rfl,by (try simp only [Seal.sz]) <;> omega⟩ | exact .inr ⟨by (try simp only [Seal.sz]) <;> omega,by (try simp only [Seal.sz]) <;> omega⟩)
 refine (sz_Sig x.sig _ _ _ _ (Sig.mk' (m:=false) (S:=S) f4 a0 b0 (r0.later (by have zh:=hB1; exact zz1)) s0 a1 b1 (r1.later (by have zh:=hB1; exact zz1)) s1 a2 b2 (r2.later (by have zh:=hB1; exact zz1)) s2 zz32) zz8 zz8).mono ?_
 rintro e2 w2 ⟨⟨n2,rfl,hn2⟩,hb2⟩
 have hB2 : Below w.heap.size w w2:=by have zh:=hB1; refine Below.trans (b:=_) ?_ (hb2.mono ?_) <;> exact zz11
 have hz2 : w.heap.size + 1 ≤ w2.heap.size:=zz42
 have hc2:=fun o => hb2.cell (p:=⟨w.heap.size,o,none⟩) zz0
 rcases hn2 with ⟨rfl,hn2⟩ | ⟨rfl,hn2⟩
 ·go_wp2_with (fail)
  (go_ret; refine ⟨⟨_,rfl,?_⟩,by have zh:=hB2; exact zz1⟩; first | exact .inl ⟨rfl,by (try simp only [Seal.sz]) <;> omega⟩ | exact .inr ⟨by (try simp only [Seal.sz]) <;> omega,by (try simp only [Seal.sz]) <;> omega⟩)
 go_wp2_with (fail)
 all_goals (go_ret; refine ⟨⟨_,rfl,?_⟩,by have zh:=hB2; exact zz1⟩; first | exact .inl ⟨rfl,by (try simp only [Seal.sz]) <;> omega⟩ | exact .inr ⟨by (try simp only [Seal.sz]) <;> omega,by (try simp only [Seal.sz]) <;> omega⟩)
theorem sz_SealS (xs : List Seal) (w : World) (A : Option Addr) (cap : Nat) (S : Blks) (left : Int) (hx : Row false w A cap xs S) (hl : xs.length ≤ maxLen) (h0 : 0 ≤ left) (h1 : left ≤ 1048576) :
  Calls Tryz.prog 8 #[.slice A xs.length cap, .int .i64 left] w fun e w' => (∃ n,e = .returned (.int .i64 n) ∧ SzR n left (szL xs)) ∧ Below w.heap.size w w':=by
 unfold maxLen at hl
 have hall:=szT_all xs
 go_enter Tryz.func8,Tryz.ntmps8
 go_wp2_with (fail)
 ·go_ret; refine ⟨⟨_,rfl,?_⟩,Below.refl _ _⟩; have:=szT_le xs 0; exact .inl ⟨rfl,zz8⟩
 have HA:=zd hall; clear hall
 go_loopw [1,5] (fun l i wr => ∃ k : Nat,k ≤ xs.length ∧ i = .int .i64 k ∧ l = .int .i64 (left - xs.length - (szT xs k : Int)) ∧ 0 ≤ left - xs.length - (szT xs k : Int) ∧ Below w.heap.size w wr) (fun _ i _ => xs.length - (intOf i).toNat)
 case atStart => exact ⟨0,Nat.zero_le _,rfl,by rw [szT_zero]; simp,by rw [szT_zero]; omega,Below.refl _ _⟩
 case round =>
  obtain ⟨k,hk,rfl,rfl,hpos,hb⟩:=hrel
  have hz:=hb.size
  by_cases hlt : k < xs.length
  ·have hne : xs ≠ []:=by rintro rfl; simp at hlt
   obtain ⟨b1,o1,rfl,hS,T1,hT1,_,he1⟩:=hx hne
   obtain ⟨c1,ha1,hr1⟩:=he1 k hlt
   have hl1:=ha1.lt zz41
   replace ha1:=ha1.keep (hb.block _ hl1)
   replace hr1:=Lay.later hr1 hb
   have hsu:=szT_succ xs k hlt
   have hle:=szT_le xs (k + 1)
   have hr2:=zd hr1
   obtain ⟨A0,k0,S0,A1,k1,S1,A2,k2,S2,rfl,f0,f1,f2,f3,f4,a0,b0,r0,s0,a1,b1,r1,s1,a2,b2,r2,s2,pw⟩:=Seal.open hr1
   have q0:=ha1 0 _ rfl
   have q1:=ha1 1 _ rfl
   have q2:=ha1 2 _ rfl
   have q3:=ha1 3 _ rfl
   have q4:=ha1 4 _ rfl
   have q5:=ha1 5 _ rfl
   have q6:=ha1 6 _ rfl
   have q7:=ha1 7 _ rfl
   simp only [show Lay.n Seal = 8 from rfl,Nat.add_zero] at q0 q1 q2 q3 q4 q5 q6 q7
   have hse : Mk.sz xs[k] = xs[k].sz:=rfl
   rw [hse] at hsu
   have HS:=zd hsu; clear hsu hse hle ha1 he1
   go_wp2_with (fail)
   refine (sz_Seal xs[k] _ (Seal.cs xs[k] A0 k0 A1 k1 A2 k2) _ _ (Lay.later hr2.out zz3) zz8 zz8).mono ?_
   rintro e1 w1 ⟨⟨n1,rfl,hn1⟩,hb1⟩
   have hB1 : Below w.heap.size w w1:=by have zh:=hb; refine Below.trans ?_ (hb1.mono ?_) <;> exact zz19
   rcases hn1 with ⟨rfl,hn1⟩ | ⟨rfl,hn1⟩
   ·go_wp2
    go_ret; refine ⟨⟨_,rfl,?_⟩,hB1⟩; have:=HS.out; have:=HA.out; have:=szT_le xs (k + 1); exact .inl ⟨rfl,zz8⟩
   ·go_wp2
    go_roundw
    case rel => exact ⟨k + 1,zz8,by go_num,by rw [HS.out]; congr 1; omega,by rw [HS.out]; omega,hB1⟩
    case measure => simp [intOf]; omega
  ·have hke : k = xs.length:=by omega
   go_wp2
   go_ret; refine ⟨⟨_,rfl,?_⟩,hb⟩; have:=HA.out; subst hke; exact .inr ⟨zz8,zz8⟩
theorem sz_Leaf (x : Leaf) (w : World) (cs : List Value) (S : Blks) (left : Int) (hx : rd false w cs x S) (h0 : 0 ≤ left) (h1 : left ≤ 1048576) :
  Calls Tryz.prog 128 #[.agg cs.toArray, .int .i64 left] w fun e w' => (∃ n,e = .returned (.int .i64 n) ∧ SzR n left x.sz) ∧ Below w.heap.size w w':=by
 obtain ⟨rfl,f0,f1⟩:=Leaf.open hx
 clear hx
 unfold maxLen at f0 f1
 simp only [Leaf.cs]
 go_enter Tryz.func128,Tryz.ntmps128
 go_wp2_with (fail)
 all_goals (go_ret; refine ⟨⟨_,rfl,?_⟩,zz3⟩; first | exact .inl ⟨rfl,by (try simp only [Leaf.sz]) <;> omega⟩ | exact .inr ⟨by (try simp only [Leaf.sz]) <;> omega,by (try simp only [Leaf.sz]) <;> omega⟩)
theorem sz_LeafS (xs : List Leaf) (w : World) (A : Option Addr) (cap : Nat) (S : Blks) (left : Int) (hx : Row false w A cap xs S) (hl : xs.length ≤ maxLen) (h0 : 0 ≤ left) (h1 : left ≤ 1048576) :
  Calls Tryz.prog 80 #[.slice A xs.length cap, .int .i64 left] w fun e w' => (∃ n,e = .returned (.int .i64 n) ∧ SzR n left (szL xs)) ∧ Below w.heap.size w w':=by
 unfold maxLen at hl
 have hall:=szT_all xs
 go_enter Tryz.func80,Tryz.ntmps80
 go_wp2_with (fail)
 ·go_ret; refine ⟨⟨_,rfl,?_⟩,Below.refl _ _⟩; have:=szT_le xs 0; exact .inl ⟨rfl,zz8⟩
 have HA:=zd hall; clear hall
 go_loopw [1,5] (fun l i wr => ∃ k : Nat,k ≤ xs.length ∧ i = .int .i64 k ∧ l = .int .i64 (left - xs.length - (szT xs k : Int)) ∧ 0 ≤ left - xs.length - (szT xs k : Int) ∧ Below w.heap.size w wr) (fun _ i _ => xs.length - (intOf i).toNat)
 case atStart => exact ⟨0,Nat.zero_le _,rfl,by rw [szT_zero]; simp,by rw [szT_zero]; omega,Below.refl _ _⟩
 case round =>
  obtain ⟨k,hk,rfl,rfl,hpos,hb⟩:=hrel
  have hz:=hb.size
  by_cases hlt : k < xs.length
  ·have hne : xs ≠ []:=by rintro rfl; simp at hlt
   obtain ⟨b1,o1,rfl,hS,T1,hT1,_,he1⟩:=hx hne
   obtain ⟨c1,ha1,hr1⟩:=he1 k hlt
   have hl1:=ha1.lt zz41
   replace ha1:=ha1.keep (hb.block _ hl1)
   replace hr1:=Lay.later hr1 hb
   have hsu:=szT_succ xs k hlt
   have hle:=szT_le xs (k + 1)
   have hr2:=zd hr1
   obtain ⟨rfl,f0,f1⟩:=Leaf.open hr1
   have q0:=ha1 0 _ rfl
   have q1:=ha1 1 _ rfl
   simp only [show Lay.n Leaf = 2 from rfl,Nat.add_zero] at q0 q1
   have hse : Mk.sz xs[k] = xs[k].sz:=rfl
   rw [hse] at hsu
   have HS:=zd hsu; clear hsu hse hle ha1 he1
   go_wp2_with (fail)
   refine (sz_Leaf xs[k] _ (Leaf.cs xs[k]) _ _ (Lay.later hr2.out zz3) zz8 zz8).mono ?_
   rintro e1 w1 ⟨⟨n1,rfl,hn1⟩,hb1⟩
   have hB1 : Below w.heap.size w w1:=by have zh:=hb; refine Below.trans ?_ (hb1.mono ?_) <;> exact zz19
   rcases hn1 with ⟨rfl,hn1⟩ | ⟨rfl,hn1⟩
   ·go_wp2
    go_ret; refine ⟨⟨_,rfl,?_⟩,hB1⟩; have:=HS.out; have:=HA.out; have:=szT_le xs (k + 1); exact .inl ⟨rfl,zz8⟩
   ·go_wp2
    go_roundw
    case rel => exact ⟨k + 1,zz8,by go_num,by rw [HS.out]; congr 1; omega,by rw [HS.out]; omega,hB1⟩
    case measure => simp [intOf]; omega
  ·have hke : k = xs.length:=by omega
   go_wp2
   go_ret; refine ⟨⟨_,rfl,?_⟩,hb⟩; have:=HA.out; subst hke; exact .inr ⟨zz8,zz8⟩
theorem sz_Proof (x : Proof) (w : World) (cs : List Value) (S : Blks) (left : Int) (hx : rd false w cs x S) (h0 : 0 ≤ left) (h1 : left ≤ 1048576) :
  Calls Tryz.prog 42 #[.agg cs.toArray, .int .i64 left] w fun e w' => (∃ n,e = .returned (.int .i64 n) ∧ SzR n left x.sz) ∧ Below w.heap.size w w':=by
 obtain ⟨A0,k0,S0,A1,k1,S1,rfl,a0,b0,r0,s0,a1,b1,r1,s1,pw⟩:=Proof.open hx
 clear hx
 simp only [Proof.cs]
 go_enter Tryz.func42,Tryz.ntmps42
 go_wp2_with (fail)
 try any_goals (go_ret; refine ⟨⟨_,rfl,?_⟩,zz3⟩; first | exact .inl ⟨rfl,by (try simp only [Proof.sz]) <;> omega⟩ | exact .inr ⟨by (try simp only [Proof.sz]) <;> omega,by (try simp only [Proof.sz]) <;> omega⟩)
 refine (sz_LeafS x.bucket _ _ _ _ _ (r0.later zz3) (Nat.le_trans a0 b0) zz8 zz8).mono ?_
 rintro e1 w1 ⟨⟨n1,rfl,hn1⟩,hb1⟩
 have hB1 : Below w.heap.size w w1:=by refine Below.trans (b:=_) ?_ (hb1.mono ?_) <;> exact zz10
 have hz1 : w.heap.size + 1 ≤ w1.heap.size:=zz27
 have hc1:=fun o => hb1.cell (p:=⟨w.heap.size,o,none⟩) zz0
 rcases hn1 with ⟨rfl,hn1⟩ | ⟨rfl,hn1⟩
 ·go_wp2_with (fail)
  (go_ret; refine ⟨⟨_,rfl,?_⟩,by have zh:=hB1; exact zz1⟩; first | exact .inl ⟨rfl,by (try simp only [Proof.sz]) <;> omega⟩ | exact .inr ⟨by (try simp only [Proof.sz]) <;> omega,by (try simp only [Proof.sz]) <;> omega⟩)
 go_wp2_with (fail)
 try any_goals (go_ret; refine ⟨⟨_,rfl,?_⟩,by have zh:=hB1; exact zz1⟩; first | exact .inl ⟨rfl,by (try simp only [Proof.sz]) <;> omega⟩ | exact .inr ⟨by (try simp only [Proof.sz]) <;> omega,by (try simp only [Proof.sz]) <;> omega⟩)
 refine (sz_StringS x.sides _ _ _ _ _ (r1.later (by have zh:=hB1; exact zz1)) (Nat.le_trans a1 b1) zz8 zz8).mono ?_
 rintro e2 w2 ⟨⟨n2,rfl,hn2⟩,hb2⟩
 have hB2 : Below w.heap.size w w2:=by have zh:=hB1; refine Below.trans (b:=_) ?_ (hb2.mono ?_) <;> exact zz11
 have hz2 : w.heap.size + 1 ≤ w2.heap.size:=zz42
 have hc2:=fun o => hb2.cell (p:=⟨w.heap.size,o,none⟩) zz0
 rcases hn2 with ⟨rfl,hn2⟩ | ⟨rfl,hn2⟩
 ·go_wp2_with (fail)
  (go_ret; refine ⟨⟨_,rfl,?_⟩,by have zh:=hB2; exact zz1⟩; first | exact .inl ⟨rfl,by (try simp only [Proof.sz]) <;> omega⟩ | exact .inr ⟨by (try simp only [Proof.sz]) <;> omega,by (try simp only [Proof.sz]) <;> omega⟩)
 go_wp2_with (fail)
 all_goals (go_ret; refine ⟨⟨_,rfl,?_⟩,by have zh:=hB2; exact zz1⟩; first | exact .inl ⟨rfl,by (try simp only [Proof.sz]) <;> omega⟩ | exact .inr ⟨by (try simp only [Proof.sz]) <;> omega,by (try simp only [Proof.sz]) <;> omega⟩)
theorem sz_Stamp (x : Stamp) (w : World) (cs : List Value) (S : Blks) (left : Int) (hx : rd false w cs x S) (h0 : 0 ≤ left) (h1 : left ≤ 1048576) :
  Calls Tryz.prog 81 #[.agg cs.toArray, .int .i64 left] w fun e w' => (∃ n,e = .returned (.int .i64 n) ∧ SzR n left x.sz) ∧ Below w.heap.size w w':=by
 obtain ⟨A0,k0,S0,A1,k1,S1,A2,k2,S2,rfl,f0,f1,a0,b0,r0,s0,a1,b1,r1,s1,a2,b2,r2,s2,pw⟩:=Stamp.open hx
 clear hx
 simp only [Stamp.cs]
 go_enter Tryz.func81,Tryz.ntmps81
 go_wp2_with (fail)
 try any_goals (go_ret; refine ⟨⟨_,rfl,?_⟩,zz3⟩; first | exact .inl ⟨rfl,by (try simp only [Stamp.sz]) <;> omega⟩ | exact .inr ⟨by (try simp only [Stamp.sz]) <;> omega,by (try simp only [Stamp.sz]) <;> omega⟩)
 refine (sz_Sig x.sig _ _ _ _ (Sig.mk' (m:=false) (S:=S) f1 a0 b0 (r0.later zz3) s0 a1 b1 (r1.later zz3) s1 a2 b2 (r2.later zz3) s2 zz32) zz8 zz8).mono ?_
 rintro e1 w1 ⟨⟨n1,rfl,hn1⟩,hb1⟩
 have hB1 : Below w.heap.size w w1:=by refine Below.trans (b:=_) ?_ (hb1.mono ?_) <;> exact zz10
 have hz1 : w.heap.size + 1 ≤ w1.heap.size:=zz27
 have hc1:=fun o => hb1.cell (p:=⟨w.heap.size,o,none⟩) zz0
 rcases hn1 with ⟨rfl,hn1⟩ | ⟨rfl,hn1⟩
 ·go_wp2_with (fail)
  (go_ret; refine ⟨⟨_,rfl,?_⟩,by have zh:=hB1; exact zz1⟩; first | exact .inl ⟨rfl,by (try simp only [Stamp.sz]) <;> omega⟩ | exact .inr ⟨by (try simp only [Stamp.sz]) <;> omega,by (try simp only [Stamp.sz]) <;> omega⟩)
 go_wp2_with (fail)
 all_goals (go_ret; refine ⟨⟨_,rfl,?_⟩,by have zh:=hB1; exact zz1⟩; first | exact .inl ⟨rfl,by (try simp only [Stamp.sz]) <;> omega⟩ | exact .inr ⟨by (try simp only [Stamp.sz]) <;> omega,by (try simp only [Stamp.sz]) <;> omega⟩)
theorem sz_StampS (xs : List Stamp) (w : World) (A : Option Addr) (cap : Nat) (S : Blks) (left : Int) (hx : Row false w A cap xs S) (hl : xs.length ≤ maxLen) (h0 : 0 ≤ left) (h1 : left ≤ 1048576) :
  Calls Tryz.prog 43 #[.slice A xs.length cap, .int .i64 left] w fun e w' => (∃ n,e = .returned (.int .i64 n) ∧ SzR n left (szL xs)) ∧ Below w.heap.size w w':=by
 unfold maxLen at hl
 have hall:=szT_all xs
 go_enter Tryz.func43,Tryz.ntmps43
 go_wp2_with (fail)
 ·go_ret; refine ⟨⟨_,rfl,?_⟩,Below.refl _ _⟩; have:=szT_le xs 0; exact .inl ⟨rfl,zz8⟩
 have HA:=zd hall; clear hall
 go_loopw [1,5] (fun l i wr => ∃ k : Nat,k ≤ xs.length ∧ i = .int .i64 k ∧ l = .int .i64 (left - xs.length - (szT xs k : Int)) ∧ 0 ≤ left - xs.length - (szT xs k : Int) ∧ Below w.heap.size w wr) (fun _ i _ => xs.length - (intOf i).toNat)
 case atStart => exact ⟨0,Nat.zero_le _,rfl,by rw [szT_zero]; simp,by rw [szT_zero]; omega,Below.refl _ _⟩
 case round =>
  obtain ⟨k,hk,rfl,rfl,hpos,hb⟩:=hrel
  have hz:=hb.size
  by_cases hlt : k < xs.length
  ·have hne : xs ≠ []:=by rintro rfl; simp at hlt
   obtain ⟨b1,o1,rfl,hS,T1,hT1,_,he1⟩:=hx hne
   obtain ⟨c1,ha1,hr1⟩:=he1 k hlt
   have hl1:=ha1.lt zz41
   replace ha1:=ha1.keep (hb.block _ hl1)
   replace hr1:=Lay.later hr1 hb
   have hsu:=szT_succ xs k hlt
   have hle:=szT_le xs (k + 1)
   have hr2:=zd hr1
   obtain ⟨A0,k0,S0,A1,k1,S1,A2,k2,S2,rfl,f0,f1,a0,b0,r0,s0,a1,b1,r1,s1,a2,b2,r2,s2,pw⟩:=Stamp.open hr1
   have q0:=ha1 0 _ rfl
   have q1:=ha1 1 _ rfl
   have q2:=ha1 2 _ rfl
   have q3:=ha1 3 _ rfl
   have q4:=ha1 4 _ rfl
   simp only [show Lay.n Stamp = 5 from rfl,Nat.add_zero] at q0 q1 q2 q3 q4
   have hse : Mk.sz xs[k] = xs[k].sz:=rfl
   rw [hse] at hsu
   have HS:=zd hsu; clear hsu hse hle ha1 he1
   go_wp2_with (fail)
   refine (sz_Stamp xs[k] _ (Stamp.cs xs[k] A0 k0 A1 k1 A2 k2) _ _ (Lay.later hr2.out zz3) zz8 zz8).mono ?_
   rintro e1 w1 ⟨⟨n1,rfl,hn1⟩,hb1⟩
   have hB1 : Below w.heap.size w w1:=by have zh:=hb; refine Below.trans ?_ (hb1.mono ?_) <;> exact zz19
   rcases hn1 with ⟨rfl,hn1⟩ | ⟨rfl,hn1⟩
   ·go_wp2
    go_ret; refine ⟨⟨_,rfl,?_⟩,hB1⟩; have:=HS.out; have:=HA.out; have:=szT_le xs (k + 1); exact .inl ⟨rfl,zz8⟩
   ·go_wp2
    go_roundw
    case rel => exact ⟨k + 1,zz8,by go_num,by rw [HS.out]; congr 1; omega,by rw [HS.out]; omega,hB1⟩
    case measure => simp [intOf]; omega
  ·have hke : k = xs.length:=by omega
   go_wp2
   go_ret; refine ⟨⟨_,rfl,?_⟩,hb⟩; have:=HA.out; subst hke; exact .inr ⟨zz8,zz8⟩
theorem sz_Whole (x : Whole) (w : World) (cs : List Value) (S : Blks) (left : Int) (hx : rd false w cs x S) (h0 : 0 ≤ left) (h1 : left ≤ 1048576) :
  Calls Tryz.prog 9 #[.agg cs.toArray, .int .i64 left] w fun e w' => (∃ n,e = .returned (.int .i64 n) ∧ SzR n left x.sz) ∧ Below w.heap.size w w':=by
 obtain ⟨A0,k0,S0,A1,k1,S1,A2,k2,S2,A3,k3,S3,A4,k4,S4,A5,k5,S5,A6,k6,S6,rfl,f3,f4,f5,f6,f7,a0,b0,r0,s0,a1,b1,r1,s1,a2,b2,r2,s2,a3,b3,r3,s3,a4,b4,r4,s4,a5,b5,r5,s5,a6,b6,r6,s6,pw⟩:=Whole.open hx
 clear hx
 unfold maxLen at f5 f6
 simp only [Whole.cs]
 go_enter Tryz.func9,Tryz.ntmps9
 go_wp2_with (fail)
 try any_goals (go_ret; refine ⟨⟨_,rfl,?_⟩,zz3⟩; first | exact .inl ⟨rfl,by (try simp only [Whole.sz]) <;> omega⟩ | exact .inr ⟨by (try simp only [Whole.sz]) <;> omega,by (try simp only [Whole.sz]) <;> omega⟩)
 refine (sz_Proof x.proof _ _ _ _ (Proof.mk' (m:=false) (S:=S) a0 b0 (r0.later zz3) s0 a1 b1 (r1.later zz3) s1 zz32) zz8 zz8).mono ?_
 rintro e1 w1 ⟨⟨n1,rfl,hn1⟩,hb1⟩
 have hB1 : Below w.heap.size w w1:=by refine Below.trans (b:=_) ?_ (hb1.mono ?_) <;> exact zz10
 have hz1 : w.heap.size + 1 ≤ w1.heap.size:=zz27
 have hc1:=fun o => hb1.cell (p:=⟨w.heap.size,o,none⟩) zz0
 rcases hn1 with ⟨rfl,hn1⟩ | ⟨rfl,hn1⟩
 ·go_wp2_with (fail)
  (go_ret; refine ⟨⟨_,rfl,?_⟩,by have zh:=hB1; exact zz1⟩; first | exact .inl ⟨rfl,by (try simp only [Whole.sz]) <;> omega⟩ | exact .inr ⟨by (try simp only [Whole.sz]) <;> omega,by (try simp only [Whole.sz]) <;> omega⟩)
 go_wp2_with (fail)
 try any_goals (go_ret; refine ⟨⟨_,rfl,?_⟩,by have zh:=hB1; exact zz1⟩; first | exact .inl ⟨rfl,by (try simp only [Whole.sz]) <;> omega⟩ | exact .inr ⟨by (try simp only [Whole.sz]) <;> omega,by (try simp only [Whole.sz]) <;> omega⟩)
 refine (sz_StringS x.tops _ _ _ _ _ (r2.later (by have zh:=hB1; exact zz1)) (Nat.le_trans a2 b2) zz8 zz8).mono ?_
 rintro e2 w2 ⟨⟨n2,rfl,hn2⟩,hb2⟩
 have hB2 : Below w.heap.size w w2:=by have zh:=hB1; refine Below.trans (b:=_) ?_ (hb2.mono ?_) <;> exact zz11
 have hz2 : w.heap.size + 1 ≤ w2.heap.size:=zz42
 have hc2:=fun o => hb2.cell (p:=⟨w.heap.size,o,none⟩) zz0
 rcases hn2 with ⟨rfl,hn2⟩ | ⟨rfl,hn2⟩
 ·go_wp2_with (fail)
  (go_ret; refine ⟨⟨_,rfl,?_⟩,by have zh:=hB2; exact zz1⟩; first | exact .inl ⟨rfl,by (try simp only [Whole.sz]) <;> omega⟩ | exact .inr ⟨by (try simp only [Whole.sz]) <;> omega,by (try simp only [Whole.sz]) <;> omega⟩)
 go_wp2_with (fail)
 try any_goals (go_ret; refine ⟨⟨_,rfl,?_⟩,by have zh:=hB2; exact zz1⟩; first | exact .inl ⟨rfl,by (try simp only [Whole.sz]) <;> omega⟩ | exact .inr ⟨by (try simp only [Whole.sz]) <;> omega,by (try simp only [Whole.sz]) <;> omega⟩)
 refine (sz_Seal x.seal_ _ _ _ _ (Seal.mk' (m:=false) (S:=S) f3 f4 f5 f6 f7 a3 b3 (r3.later (by have zh:=hB2; exact zz1)) s3 a4 b4 (r4.later (by have zh:=hB2; exact zz1)) s4 a5 b5 (r5.later (by have zh:=hB2; exact zz1)) s5 zz32) zz8 zz8).mono ?_
 rintro e3 w3 ⟨⟨n3,rfl,hn3⟩,hb3⟩
 have hB3 : Below w.heap.size w w3:=by have zh:=hB2; refine Below.trans (b:=_) ?_ (hb3.mono ?_) <;> exact zz11
 have hz3 : w.heap.size + 1 ≤ w3.heap.size:=zz65
 have hc3:=fun o => hb3.cell (p:=⟨w.heap.size,o,none⟩) zz0
 rcases hn3 with ⟨rfl,hn3⟩ | ⟨rfl,hn3⟩
 ·go_wp2_with (fail)
  (go_ret; refine ⟨⟨_,rfl,?_⟩,by have zh:=hB3; exact zz1⟩; first | exact .inl ⟨rfl,by (try simp only [Whole.sz]) <;> omega⟩ | exact .inr ⟨by (try simp only [Whole.sz]) <;> omega,by (try simp only [Whole.sz]) <;> omega⟩)
 go_wp2_with (fail)
 try any_goals (go_ret; refine ⟨⟨_,rfl,?_⟩,by have zh:=hB3; exact zz1⟩; first | exact .inl ⟨rfl,by (try simp only [Whole.sz]) <;> omega⟩ | exact .inr ⟨by (try simp only [Whole.sz]) <;> omega,by (try simp only [Whole.sz]) <;> omega⟩)
 refine (sz_StampS x.stamps _ _ _ _ _ (r6.later (by have zh:=hB3; exact zz1)) (Nat.le_trans a6 b6) zz8 zz8).mono ?_
 rintro e4 w4 ⟨⟨n4,rfl,hn4⟩,hb4⟩
 have hB4 : Below w.heap.size w w4:=by have zh:=hB3; refine Below.trans (b:=_) ?_ (hb4.mono ?_) <;> exact zz11
 have hz4 : w.heap.size + 1 ≤ w4.heap.size:=by have:=hb4.size; (try simp at this); omega
 have hc4:=fun o => hb4.cell (p:=⟨w.heap.size,o,none⟩) zz0
 rcases hn4 with ⟨rfl,hn4⟩ | ⟨rfl,hn4⟩
 ·go_wp2_with (fail)
  (go_ret; refine ⟨⟨_,rfl,?_⟩,by have zh:=hB4; exact zz1⟩; first | exact .inl ⟨rfl,by (try simp only [Whole.sz]) <;> omega⟩ | exact .inr ⟨by (try simp only [Whole.sz]) <;> omega,by (try simp only [Whole.sz]) <;> omega⟩)
 go_wp2_with (fail)
 all_goals (go_ret; refine ⟨⟨_,rfl,?_⟩,by have zh:=hB4; exact zz1⟩; first | exact .inl ⟨rfl,by (try simp only [Whole.sz]) <;> omega⟩ | exact .inr ⟨by (try simp only [Whole.sz]) <;> omega,by (try simp only [Whole.sz]) <;> omega⟩)
end Go.Proofs.YtgllafgpmenjjaaGreatDoor
