/- A part of the proof. -/
import Derived.Test.YtcbbjfafmmcfiaaGreatDoorProg
import Derived.Test.YtcbbjfafmmcfiaaGreatDoorHAqTy
set_option linter.unusedVariables false
set_option linter.unusedSimpArgs false
set_option maxRecDepth 20000
set_option maxHeartbeats 1000000
namespace Go.Proofs.YtcbbjfafmmcfiaaGreatDoor
open Go.RowKit Lay Mk
theorem sz_File (x:File) (w:World) (cs:List Value) (S:Blks) (left:Int) (hx:rd false w cs x S) (h0:0≤left) (h1:left≤1048576) :
  Calls Tryz.prog 230 #[.agg cs.toArray,.int .i64 left] w fun e w' => (∃ n,e = .returned (.int .i64 n)∧SzR n left x.sz)∧Below w.heap.size w w':=by
 obtain ⟨rfl,f0,f1,f2⟩:=File.open hx
 clear hx
 unfold maxLen at f0 f1
 simp only [File.cs]
 go_enter Tryz.func230,Tryz.ntmps230
 go_wp2_with (fail)
 all_goals (go_ret; refine ⟨⟨_,rfl,?_⟩,zz4⟩; first | exact .inl ⟨rfl,by (try simp only [File.sz]) <;> omega⟩ | exact .inr ⟨by (try simp only [File.sz]) <;> omega,by (try simp only [File.sz]) <;> omega⟩)
theorem sz_FileS (xs:List File) (w:World) (A:Option Addr) (cap:Nat) (S:Blks) (left:Int) (hx:Row false w A cap xs S) (hl:xs.length≤maxLen) (h0:0≤left) (h1:left≤1048576) :
  Calls Tryz.prog 155 #[.slice A xs.length cap,.int .i64 left] w fun e w' => (∃ n,e = .returned (.int .i64 n)∧SzR n left (szL xs))∧Below w.heap.size w w':=by
 unfold maxLen at hl
 have hall:=szT_all xs
 go_enter Tryz.func155,Tryz.ntmps155
 go_wp2_with (fail)
 ·go_ret; refine ⟨⟨_,rfl,?_⟩,Below.refl _ _⟩; have:=szT_le xs 0; exact .inl ⟨rfl,zz13⟩
 have HA:=zd hall; clear hall
 go_loopw [1,5] (fun l i wr => ∃ k:Nat,k≤xs.length∧i = .int .i64 k∧l = .int .i64 (left - xs.length - (szT xs k:Int))∧0≤left - xs.length - (szT xs k:Int)∧Below w.heap.size w wr) (fun _ i _ => xs.length - (intOf i).toNat)
 case atStart => exact ⟨0,Nat.zero_le _,rfl,by rw [szT_zero]; simp,by rw [szT_zero]; omega,Below.refl _ _⟩
 case round =>
  obtain ⟨k,hk,rfl,rfl,hpos,hb⟩:=hrel
  have hz:=hb.size
  by_cases hlt:k<xs.length
  ·have hne:xs≠[]:=by rintro rfl; simp at hlt
   obtain ⟨b1,o1,rfl,hS,T1,hT1,_,he1⟩:=hx hne
   obtain ⟨c1,ha1,hr1⟩:=he1 k hlt
   have hl1:=ha1.lt zz28
   replace ha1:=ha1.keep (hb.block _ hl1)
   replace hr1:=Lay.later hr1 hb
   have hsu:=szT_succ xs k hlt
   have hle:=szT_le xs (k+1)
   have hr2:=zd hr1
   obtain ⟨rfl,f0,f1,f2⟩:=File.open hr1
   have q0:=ha1 0 _ rfl
   have q1:=ha1 1 _ rfl
   have q2:=ha1 2 _ rfl
   simp only [show Lay.n File=3 from rfl,Nat.add_zero] at q0 q1 q2
   have hse:Mk.sz xs[k]=xs[k].sz:=rfl
   rw [hse] at hsu
   have HS:=zd hsu; clear hsu hse hle ha1 he1
   go_wp2_with (fail)
   refine (sz_File xs[k] _ (File.cs xs[k]) _ _ (Lay.later hr2.out zz4) zz13 zz13).mono ?_
   rintro e1 w1 ⟨⟨n1,rfl,hn1⟩,hb1⟩
   have hB1:Below w.heap.size w w1:=by have zh:=hb; refine Below.trans ?_ (hb1.mono ?_) <;> exact zz14
   rcases hn1 with ⟨rfl,hn1⟩ | ⟨rfl,hn1⟩
   ·go_wp2
    go_ret; refine ⟨⟨_,rfl,?_⟩,hB1⟩; have:=HS.out; have:=HA.out; have:=szT_le xs (k+1); exact .inl ⟨rfl,zz13⟩
   ·go_wp2
    go_roundw
    case rel => exact ⟨k+1,zz13,by go_num,by rw [HS.out]; congr 1; omega,by rw [HS.out]; omega,hB1⟩
    case measure => simp [intOf]; omega
  ·have hke:k=xs.length:=by omega
   go_wp2
   go_ret; refine ⟨⟨_,rfl,?_⟩,hb⟩; have:=HA.out; subst hke; exact .inr ⟨zz13,zz13⟩
theorem sz_Disk (x:Disk) (w:World) (cs:List Value) (S:Blks) (left:Int) (hx:rd false w cs x S) (h0:0≤left) (h1:left≤1048576) :
  Calls Tryz.prog 58 #[.agg cs.toArray,.int .i64 left] w fun e w' => (∃ n,e = .returned (.int .i64 n)∧SzR n left x.sz)∧Below w.heap.size w w':=by
 obtain ⟨A0,k0,S0,rfl,a0,b0,r0,s0⟩:=Disk.open hx
 clear hx
 simp only [Disk.cs]
 go_enter Tryz.func58,Tryz.ntmps58
 go_wp2_with (fail)
 try any_goals (go_ret; refine ⟨⟨_,rfl,?_⟩,zz4⟩; first | exact .inl ⟨rfl,by (try simp only [Disk.sz]) <;> omega⟩ | exact .inr ⟨by (try simp only [Disk.sz]) <;> omega,by (try simp only [Disk.sz]) <;> omega⟩)
 refine (sz_FileS x.files _ _ _ _ _ (r0.later zz4) (Nat.le_trans a0 b0) zz13 zz13).mono ?_
 rintro e1 w1 ⟨⟨n1,rfl,hn1⟩,hb1⟩
 have hB1:Below w.heap.size w w1:=by refine Below.trans (b:=_) ?_ (hb1.mono ?_) <;> exact zz8
 have hz1:w.heap.size+1≤w1.heap.size:=zz23
 have hc1:=fun o => hb1.cell (p:=⟨w.heap.size,o,none⟩) zz0
 rcases hn1 with ⟨rfl,hn1⟩ | ⟨rfl,hn1⟩
 ·go_wp2_with (fail)
  (go_ret; refine ⟨⟨_,rfl,?_⟩,by have zh:=hB1; exact zz1⟩; first | exact .inl ⟨rfl,by (try simp only [Disk.sz]) <;> omega⟩ | exact .inr ⟨by (try simp only [Disk.sz]) <;> omega,by (try simp only [Disk.sz]) <;> omega⟩)
 go_wp2_with (fail)
 all_goals (go_ret; refine ⟨⟨_,rfl,?_⟩,by have zh:=hB1; exact zz1⟩; first | exact .inl ⟨rfl,by (try simp only [Disk.sz]) <;> omega⟩ | exact .inr ⟨by (try simp only [Disk.sz]) <;> omega,by (try simp only [Disk.sz]) <;> omega⟩)
theorem sz_Leaf (x:Leaf) (w:World) (cs:List Value) (S:Blks) (left:Int) (hx:rd false w cs x S) (h0:0≤left) (h1:left≤1048576) :
  Calls Tryz.prog 231 #[.agg cs.toArray,.int .i64 left] w fun e w' => (∃ n,e = .returned (.int .i64 n)∧SzR n left x.sz)∧Below w.heap.size w w':=by
 obtain ⟨rfl,f0,f1⟩:=Leaf.open hx
 clear hx
 unfold maxLen at f0 f1
 simp only [Leaf.cs]
 go_enter Tryz.func231,Tryz.ntmps231
 go_wp2_with (fail)
 all_goals (go_ret; refine ⟨⟨_,rfl,?_⟩,zz4⟩; first | exact .inl ⟨rfl,by (try simp only [Leaf.sz]) <;> omega⟩ | exact .inr ⟨by (try simp only [Leaf.sz]) <;> omega,by (try simp only [Leaf.sz]) <;> omega⟩)
theorem sz_LeafS (xs:List Leaf) (w:World) (A:Option Addr) (cap:Nat) (S:Blks) (left:Int) (hx:Row false w A cap xs S) (hl:xs.length≤maxLen) (h0:0≤left) (h1:left≤1048576) :
  Calls Tryz.prog 156 #[.slice A xs.length cap,.int .i64 left] w fun e w' => (∃ n,e = .returned (.int .i64 n)∧SzR n left (szL xs))∧Below w.heap.size w w':=by
 unfold maxLen at hl
 have hall:=szT_all xs
 go_enter Tryz.func156,Tryz.ntmps156
 go_wp2_with (fail)
 ·go_ret; refine ⟨⟨_,rfl,?_⟩,Below.refl _ _⟩; have:=szT_le xs 0; exact .inl ⟨rfl,zz13⟩
 have HA:=zd hall; clear hall
 go_loopw [1,5] (fun l i wr => ∃ k:Nat,k≤xs.length∧i = .int .i64 k∧l = .int .i64 (left - xs.length - (szT xs k:Int))∧0≤left - xs.length - (szT xs k:Int)∧Below w.heap.size w wr) (fun _ i _ => xs.length - (intOf i).toNat)
 case atStart => exact ⟨0,Nat.zero_le _,rfl,by rw [szT_zero]; simp,by rw [szT_zero]; omega,Below.refl _ _⟩
 case round =>
  obtain ⟨k,hk,rfl,rfl,hpos,hb⟩:=hrel
  have hz:=hb.size
  by_cases hlt:k<xs.length
  ·have hne:xs≠[]:=by rintro rfl; simp at hlt
   obtain ⟨b1,o1,rfl,hS,T1,hT1,_,he1⟩:=hx hne
   obtain ⟨c1,ha1,hr1⟩:=he1 k hlt
   have hl1:=ha1.lt zz28
   replace ha1:=ha1.keep (hb.block _ hl1)
   replace hr1:=Lay.later hr1 hb
   have hsu:=szT_succ xs k hlt
   have hle:=szT_le xs (k+1)
   have hr2:=zd hr1
   obtain ⟨rfl,f0,f1⟩:=Leaf.open hr1
   have q0:=ha1 0 _ rfl
   have q1:=ha1 1 _ rfl
   simp only [show Lay.n Leaf=2 from rfl,Nat.add_zero] at q0 q1
   have hse:Mk.sz xs[k]=xs[k].sz:=rfl
   rw [hse] at hsu
   have HS:=zd hsu; clear hsu hse hle ha1 he1
   go_wp2_with (fail)
   refine (sz_Leaf xs[k] _ (Leaf.cs xs[k]) _ _ (Lay.later hr2.out zz4) zz13 zz13).mono ?_
   rintro e1 w1 ⟨⟨n1,rfl,hn1⟩,hb1⟩
   have hB1:Below w.heap.size w w1:=by have zh:=hb; refine Below.trans ?_ (hb1.mono ?_) <;> exact zz14
   rcases hn1 with ⟨rfl,hn1⟩ | ⟨rfl,hn1⟩
   ·go_wp2
    go_ret; refine ⟨⟨_,rfl,?_⟩,hB1⟩; have:=HS.out; have:=HA.out; have:=szT_le xs (k+1); exact .inl ⟨rfl,zz13⟩
   ·go_wp2
    go_roundw
    case rel => exact ⟨k+1,zz13,by go_num,by rw [HS.out]; congr 1; omega,by rw [HS.out]; omega,hB1⟩
    case measure => simp [intOf]; omega
  ·have hke:k=xs.length:=by omega
   go_wp2
   go_ret; refine ⟨⟨_,rfl,?_⟩,hb⟩; have:=HA.out; subst hke; exact .inr ⟨zz13,zz13⟩
theorem sz_LeafSS (xs:List (List Leaf)) (w:World) (A:Option Addr) (cap:Nat) (S:Blks) (left:Int) (hx:Row false w A cap xs S) (hl:xs.length≤maxLen) (h0:0≤left) (h1:left≤1048576) :
  Calls Tryz.prog 59 #[.slice A xs.length cap,.int .i64 left] w fun e w' => (∃ n,e = .returned (.int .i64 n)∧SzR n left (szL xs))∧Below w.heap.size w w':=by
 unfold maxLen at hl
 have hall:=szT_all xs
 go_enter Tryz.func59,Tryz.ntmps59
 go_wp2_with (fail)
 ·go_ret; refine ⟨⟨_,rfl,?_⟩,Below.refl _ _⟩; have:=szT_le xs 0; exact .inl ⟨rfl,zz13⟩
 have HA:=zd hall; clear hall
 go_loopw [1,5] (fun l i wr => ∃ k:Nat,k≤xs.length∧i = .int .i64 k∧l = .int .i64 (left - xs.length - (szT xs k:Int))∧0≤left - xs.length - (szT xs k:Int)∧Below w.heap.size w wr) (fun _ i _ => xs.length - (intOf i).toNat)
 case atStart => exact ⟨0,Nat.zero_le _,rfl,by rw [szT_zero]; simp,by rw [szT_zero]; omega,Below.refl _ _⟩
 case round =>
  obtain ⟨k,hk,rfl,rfl,hpos,hb⟩:=hrel
  have hz:=hb.size
  by_cases hlt:k<xs.length
  ·have hne:xs≠[]:=by rintro rfl; simp at hlt
   obtain ⟨b1,o1,rfl,hS,T1,hT1,_,he1⟩:=hx hne
   obtain ⟨c1,ha1,hr1⟩:=he1 k hlt
   have hl1:=ha1.lt zz28
   replace ha1:=ha1.keep (hb.block _ hl1)
   replace hr1:=Lay.later hr1 hb
   have hsu:=szT_succ xs k hlt
   have hle:=szT_le xs (k+1)
   obtain ⟨A2,k2,rfl,g1,g2,hrow⟩:=open_list hr1
   have f0:=ha1 0 _ rfl
   simp only [show Lay.n (List Leaf)=1 from rfl,Nat.add_zero,Nat.mul_one] at f0
   have hse:Mk.sz xs[k]=szL xs[k]:=rfl
   rw [hse] at hsu
   have HS:=zd hsu; clear hsu hse hle ha1 he1
   go_wp2_with (fail)
   refine (sz_LeafS xs[k] _ _ _ _ _ (hrow.later zz4) (Nat.le_trans g1 g2) zz13 zz13).mono ?_
   rintro e1 w1 ⟨⟨n1,rfl,hn1⟩,hb1⟩
   have hB1:Below w.heap.size w w1:=by have zh:=hb; refine Below.trans ?_ (hb1.mono ?_) <;> exact zz14
   rcases hn1 with ⟨rfl,hn1⟩ | ⟨rfl,hn1⟩
   ·go_wp2
    go_ret; refine ⟨⟨_,rfl,?_⟩,hB1⟩; have:=HS.out; have:=HA.out; have:=szT_le xs (k+1); exact .inl ⟨rfl,zz13⟩
   ·go_wp2
    go_roundw
    case rel => exact ⟨k+1,zz13,by go_num,by rw [HS.out]; congr 1; omega,by rw [HS.out]; omega,hB1⟩
    case measure => simp [intOf]; omega
  ·have hke:k=xs.length:=by omega
   go_wp2
   go_ret; refine ⟨⟨_,rfl,?_⟩,hb⟩; have:=HA.out; subst hke; exact .inr ⟨zz13,zz13⟩
theorem sz_IntS (xs:List Int) (w:World) (A:Option Addr) (cap:Nat) (S:Blks) (left:Int) (hx:Row false w A cap xs S) (hl:xs.length≤maxLen) (h0:0≤left) (h1:left≤1048576) :
  Calls Tryz.prog 60 #[.slice A xs.length cap,.int .i64 left] w fun e w' => (∃ n,e = .returned (.int .i64 n)∧SzR n left (szL xs))∧Below w.heap.size w w':=by
 unfold maxLen at hl
 have hs:szL xs=xs.length:=by unfold szL; rw [show xs.map Mk.sz=List.replicate xs.length 0 from by rw [List.eq_replicate_iff]; exact ⟨zz30,by simp [Mk.sz]⟩]; simp
 rw [hs]
 go_enter Tryz.func60,Tryz.ntmps60
 go_wp2
 all_goals (go_ret; refine ⟨⟨_,rfl,?_⟩,Below.refl _ _⟩; unfold SzR; omega)
theorem sz_Change (x:Change) (w:World) (cs:List Value) (S:Blks) (left:Int) (hx:rd false w cs x S) (h0:0≤left) (h1:left≤1048576) :
  Calls Tryz.prog 157 #[.agg cs.toArray,.int .i64 left] w fun e w' => (∃ n,e = .returned (.int .i64 n)∧SzR n left x.sz)∧Below w.heap.size w w':=by
 obtain ⟨rfl,f0,f1,f2⟩:=Change.open hx
 clear hx
 unfold maxLen at f1 f2
 simp only [Change.cs]
 go_enter Tryz.func157,Tryz.ntmps157
 go_wp2_with (fail)
 all_goals (go_ret; refine ⟨⟨_,rfl,?_⟩,zz4⟩; first | exact .inl ⟨rfl,by (try simp only [Change.sz]) <;> omega⟩ | exact .inr ⟨by (try simp only [Change.sz]) <;> omega,by (try simp only [Change.sz]) <;> omega⟩)
theorem sz_ChangeS (xs:List Change) (w:World) (A:Option Addr) (cap:Nat) (S:Blks) (left:Int) (hx:Row false w A cap xs S) (hl:xs.length≤maxLen) (h0:0≤left) (h1:left≤1048576) :
  Calls Tryz.prog 61 #[.slice A xs.length cap,.int .i64 left] w fun e w' => (∃ n,e = .returned (.int .i64 n)∧SzR n left (szL xs))∧Below w.heap.size w w':=by
 unfold maxLen at hl
 have hall:=szT_all xs
 go_enter Tryz.func61,Tryz.ntmps61
 go_wp2_with (fail)
 ·go_ret; refine ⟨⟨_,rfl,?_⟩,Below.refl _ _⟩; have:=szT_le xs 0; exact .inl ⟨rfl,zz13⟩
 have HA:=zd hall; clear hall
 go_loopw [1,5] (fun l i wr => ∃ k:Nat,k≤xs.length∧i = .int .i64 k∧l = .int .i64 (left - xs.length - (szT xs k:Int))∧0≤left - xs.length - (szT xs k:Int)∧Below w.heap.size w wr) (fun _ i _ => xs.length - (intOf i).toNat)
 case atStart => exact ⟨0,Nat.zero_le _,rfl,by rw [szT_zero]; simp,by rw [szT_zero]; omega,Below.refl _ _⟩
 case round =>
  obtain ⟨k,hk,rfl,rfl,hpos,hb⟩:=hrel
  have hz:=hb.size
  by_cases hlt:k<xs.length
  ·have hne:xs≠[]:=by rintro rfl; simp at hlt
   obtain ⟨b1,o1,rfl,hS,T1,hT1,_,he1⟩:=hx hne
   obtain ⟨c1,ha1,hr1⟩:=he1 k hlt
   have hl1:=ha1.lt zz28
   replace ha1:=ha1.keep (hb.block _ hl1)
   replace hr1:=Lay.later hr1 hb
   have hsu:=szT_succ xs k hlt
   have hle:=szT_le xs (k+1)
   have hr2:=zd hr1
   obtain ⟨rfl,f0,f1,f2⟩:=Change.open hr1
   have q0:=ha1 0 _ rfl
   have q1:=ha1 1 _ rfl
   have q2:=ha1 2 _ rfl
   simp only [show Lay.n Change=3 from rfl,Nat.add_zero] at q0 q1 q2
   have hse:Mk.sz xs[k]=xs[k].sz:=rfl
   rw [hse] at hsu
   have HS:=zd hsu; clear hsu hse hle ha1 he1
   go_wp2_with (fail)
   refine (sz_Change xs[k] _ (Change.cs xs[k]) _ _ (Lay.later hr2.out zz4) zz13 zz13).mono ?_
   rintro e1 w1 ⟨⟨n1,rfl,hn1⟩,hb1⟩
   have hB1:Below w.heap.size w w1:=by have zh:=hb; refine Below.trans ?_ (hb1.mono ?_) <;> exact zz14
   rcases hn1 with ⟨rfl,hn1⟩ | ⟨rfl,hn1⟩
   ·go_wp2
    go_ret; refine ⟨⟨_,rfl,?_⟩,hB1⟩; have:=HS.out; have:=HA.out; have:=szT_le xs (k+1); exact .inl ⟨rfl,zz13⟩
   ·go_wp2
    go_roundw
    case rel => exact ⟨k+1,zz13,by go_num,by rw [HS.out]; congr 1; omega,by rw [HS.out]; omega,hB1⟩
    case measure => simp [intOf]; omega
  ·have hke:k=xs.length:=by omega
   go_wp2
   go_ret; refine ⟨⟨_,rfl,?_⟩,hb⟩; have:=HA.out; subst hke; exact .inr ⟨zz13,zz13⟩
theorem sz_Server (x:Server) (w:World) (cs:List Value) (S:Blks) (left:Int) (hx:rd false w cs x S) (h0:0≤left) (h1:left≤1048576) :
  Calls Tryz.prog 9 #[.agg cs.toArray,.int .i64 left] w fun e w' => (∃ n,e = .returned (.int .i64 n)∧SzR n left x.sz)∧Below w.heap.size w w':=by
 obtain ⟨A0,k0,S0,A1,k1,S1,A2,k2,S2,A3,k3,S3,rfl,f0,f1,f4,f8,f9,f10,a0,b0,r0,s0,a1,b1,r1,s1,a2,b2,r2,s2,a3,b3,r3,s3,pw⟩:=Server.open hx
 clear hx
 simp only [Server.cs]
 go_enter Tryz.func9,Tryz.ntmps9
 go_wp2_with (fail)
 try any_goals (go_ret; refine ⟨⟨_,rfl,?_⟩,zz4⟩; first | exact .inl ⟨rfl,by (try simp only [Server.sz]) <;> omega⟩ | exact .inr ⟨by (try simp only [Server.sz]) <;> omega,by (try simp only [Server.sz]) <;> omega⟩)
 refine (sz_Disk x.disk _ _ _ _ (Disk.mk' (m:=false) (S:=S) a0 b0 (r0.later zz4) s0) zz13 zz13).mono ?_
 rintro e1 w1 ⟨⟨n1,rfl,hn1⟩,hb1⟩
 have hB1:Below w.heap.size w w1:=by refine Below.trans (b:=_) ?_ (hb1.mono ?_) <;> exact zz8
 have hz1:w.heap.size+1≤w1.heap.size:=zz23
 have hc1:=fun o => hb1.cell (p:=⟨w.heap.size,o,none⟩) zz0
 rcases hn1 with ⟨rfl,hn1⟩ | ⟨rfl,hn1⟩
 ·go_wp2_with (fail)
  (go_ret; refine ⟨⟨_,rfl,?_⟩,by have zh:=hB1; exact zz1⟩; first | exact .inl ⟨rfl,by (try simp only [Server.sz]) <;> omega⟩ | exact .inr ⟨by (try simp only [Server.sz]) <;> omega,by (try simp only [Server.sz]) <;> omega⟩)
 go_wp2_with (fail)
 try any_goals (go_ret; refine ⟨⟨_,rfl,?_⟩,by have zh:=hB1; exact zz1⟩; first | exact .inl ⟨rfl,by (try simp only [Server.sz]) <;> omega⟩ | exact .inr ⟨by (try simp only [Server.sz]) <;> omega,by (try simp only [Server.sz]) <;> omega⟩)
 refine (sz_LeafSS x.views _ _ _ _ _ (r1.later (by have zh:=hB1; exact zz1)) (Nat.le_trans a1 b1) zz13 zz13).mono ?_
 rintro e2 w2 ⟨⟨n2,rfl,hn2⟩,hb2⟩
 have hB2:Below w.heap.size w w2:=by have zh:=hB1; refine Below.trans (b:=_) ?_ (hb2.mono ?_) <;> exact zz6
 have hz2:w.heap.size+1≤w2.heap.size:=zz45
 have hc2:=fun o => hb2.cell (p:=⟨w.heap.size,o,none⟩) zz0
 rcases hn2 with ⟨rfl,hn2⟩ | ⟨rfl,hn2⟩
 ·go_wp2_with (fail)
  (go_ret; refine ⟨⟨_,rfl,?_⟩,by have zh:=hB2; exact zz1⟩; first | exact .inl ⟨rfl,by (try simp only [Server.sz]) <;> omega⟩ | exact .inr ⟨by (try simp only [Server.sz]) <;> omega,by (try simp only [Server.sz]) <;> omega⟩)
 go_wp2_with (fail)
 try any_goals (go_ret; refine ⟨⟨_,rfl,?_⟩,by have zh:=hB2; exact zz1⟩; first | exact .inl ⟨rfl,by (try simp only [Server.sz]) <;> omega⟩ | exact .inr ⟨by (try simp only [Server.sz]) <;> omega,by (try simp only [Server.sz]) <;> omega⟩)
 refine (sz_IntS x.taken _ _ _ _ _ (r2.later (by have zh:=hB2; exact zz1)) (Nat.le_trans a2 b2) zz13 zz13).mono ?_
 rintro e3 w3 ⟨⟨n3,rfl,hn3⟩,hb3⟩
 have hB3:Below w.heap.size w w3:=by have zh:=hB2; refine Below.trans (b:=_) ?_ (hb3.mono ?_) <;> exact zz6
 have hz3:w.heap.size+1≤w3.heap.size:=zz55
 have hc3:=fun o => hb3.cell (p:=⟨w.heap.size,o,none⟩) zz0
 rcases hn3 with ⟨rfl,hn3⟩ | ⟨rfl,hn3⟩
 ·go_wp2_with (fail)
  (go_ret; refine ⟨⟨_,rfl,?_⟩,by have zh:=hB3; exact zz1⟩; first | exact .inl ⟨rfl,by (try simp only [Server.sz]) <;> omega⟩ | exact .inr ⟨by (try simp only [Server.sz]) <;> omega,by (try simp only [Server.sz]) <;> omega⟩)
 go_wp2_with (fail)
 try any_goals (go_ret; refine ⟨⟨_,rfl,?_⟩,by have zh:=hB3; exact zz1⟩; first | exact .inl ⟨rfl,by (try simp only [Server.sz]) <;> omega⟩ | exact .inr ⟨by (try simp only [Server.sz]) <;> omega,by (try simp only [Server.sz]) <;> omega⟩)
 refine (sz_ChangeS x.all _ _ _ _ _ (r3.later (by have zh:=hB3; exact zz1)) (Nat.le_trans a3 b3) zz13 zz13).mono ?_
 rintro e4 w4 ⟨⟨n4,rfl,hn4⟩,hb4⟩
 have hB4:Below w.heap.size w w4:=by have zh:=hB3; refine Below.trans (b:=_) ?_ (hb4.mono ?_) <;> exact zz6
 have hz4:w.heap.size+1≤w4.heap.size:=zz57
 have hc4:=fun o => hb4.cell (p:=⟨w.heap.size,o,none⟩) zz0
 rcases hn4 with ⟨rfl,hn4⟩ | ⟨rfl,hn4⟩
 ·go_wp2_with (fail)
  (go_ret; refine ⟨⟨_,rfl,?_⟩,by have zh:=hB4; exact zz1⟩; first | exact .inl ⟨rfl,by (try simp only [Server.sz]) <;> omega⟩ | exact .inr ⟨by (try simp only [Server.sz]) <;> omega,by (try simp only [Server.sz]) <;> omega⟩)
 go_wp2_with (fail)
 all_goals (go_ret; refine ⟨⟨_,rfl,?_⟩,by have zh:=hB4; exact zz1⟩; first | exact .inl ⟨rfl,by (try simp only [Server.sz]) <;> omega⟩ | exact .inr ⟨by (try simp only [Server.sz]) <;> omega,by (try simp only [Server.sz]) <;> omega⟩)
theorem sz_StringS (xs:List ByteArray) (w:World) (A:Option Addr) (cap:Nat) (S:Blks) (left:Int) (hx:Row false w A cap xs S) (hl:xs.length≤maxLen) (h0:0≤left) (h1:left≤1048576) :
  Calls Tryz.prog 87 #[.slice A xs.length cap,.int .i64 left] w fun e w' => (∃ n,e = .returned (.int .i64 n)∧SzR n left (szL xs))∧Below w.heap.size w w':=by
 unfold maxLen at hl
 have hall:=szT_all xs
 go_enter Tryz.func87,Tryz.ntmps87
 go_wp2_with (fail)
 ·go_ret; refine ⟨⟨_,rfl,?_⟩,Below.refl _ _⟩; have:=szT_le xs 0; exact .inl ⟨rfl,zz13⟩
 have HA:=zd hall; clear hall
 go_loopw [1,5] (fun l i wr => ∃ k:Nat,k≤xs.length∧i = .int .i64 k∧l = .int .i64 (left - xs.length - (szT xs k:Int))∧0≤left - xs.length - (szT xs k:Int)∧Below w.heap.size w wr) (fun _ i _ => xs.length - (intOf i).toNat)
 case atStart => exact ⟨0,Nat.zero_le _,rfl,by rw [szT_zero]; simp,by rw [szT_zero]; omega,Below.refl _ _⟩
 case round =>
  obtain ⟨k,hk,rfl,rfl,hpos,hb⟩:=hrel
  have hz:=hb.size
  by_cases hlt:k<xs.length
  ·have hne:xs≠[]:=by rintro rfl; simp at hlt
   obtain ⟨b1,o1,rfl,hS,T1,hT1,_,he1⟩:=hx hne
   obtain ⟨c1,ha1,hr1⟩:=he1 k hlt
   have hl1:=ha1.lt zz28
   replace ha1:=ha1.keep (hb.block _ hl1)
   replace hr1:=Lay.later hr1 hb
   have hsu:=szT_succ xs k hlt
   have hle:=szT_le xs (k+1)
   obtain ⟨rfl,g1⟩:=open_str hr1
   have f0:=ha1 0 _ rfl
   simp only [show Lay.n ByteArray=1 from rfl,Nat.add_zero,Nat.mul_one] at f0
   unfold maxLen at g1
   have hse:Mk.sz xs[k]=xs[k].size:=rfl
   rw [hse] at hsu
   have HS:=zd hsu; clear hsu hse hle ha1 he1 hr1
   go_wp2
   ·go_ret; refine ⟨⟨_,rfl,?_⟩,hb⟩; have:=HS.out; have:=HA.out; have:=szT_le xs (k+1); exact .inl ⟨rfl,zz13⟩
   go_roundw
   case rel => exact ⟨k+1,zz13,by go_num,by rw [HS.out]; congr 1; omega,by rw [HS.out]; omega,hb⟩
   case measure => simp [intOf]; omega
  ·have hke:k=xs.length:=by omega
   go_wp2
   go_ret; refine ⟨⟨_,rfl,?_⟩,hb⟩; have:=HA.out; subst hke; exact .inr ⟨zz13,zz13⟩
theorem sz_Trust (x:Trust) (w:World) (cs:List Value) (S:Blks) (left:Int) (hx:rd false w cs x S) (h0:0≤left) (h1:left≤1048576) :
  Calls Tryz.prog 18 #[.agg cs.toArray,.int .i64 left] w fun e w' => (∃ n,e = .returned (.int .i64 n)∧SzR n left x.sz)∧Below w.heap.size w w':=by
 obtain ⟨A0,k0,S0,rfl,f1,f2,a0,b0,r0,s0⟩:=Trust.open hx
 clear hx
 simp only [Trust.cs]
 go_enter Tryz.func18,Tryz.ntmps18
 go_wp2_with (fail)
 try any_goals (go_ret; refine ⟨⟨_,rfl,?_⟩,zz4⟩; first | exact .inl ⟨rfl,by (try simp only [Trust.sz]) <;> omega⟩ | exact .inr ⟨by (try simp only [Trust.sz]) <;> omega,by (try simp only [Trust.sz]) <;> omega⟩)
 refine (sz_StringS x.roots _ _ _ _ _ (r0.later zz4) (Nat.le_trans a0 b0) zz13 zz13).mono ?_
 rintro e1 w1 ⟨⟨n1,rfl,hn1⟩,hb1⟩
 have hB1:Below w.heap.size w w1:=by refine Below.trans (b:=_) ?_ (hb1.mono ?_) <;> exact zz8
 have hz1:w.heap.size+1≤w1.heap.size:=zz23
 have hc1:=fun o => hb1.cell (p:=⟨w.heap.size,o,none⟩) zz0
 rcases hn1 with ⟨rfl,hn1⟩ | ⟨rfl,hn1⟩
 ·go_wp2_with (fail)
  (go_ret; refine ⟨⟨_,rfl,?_⟩,by have zh:=hB1; exact zz1⟩; first | exact .inl ⟨rfl,by (try simp only [Trust.sz]) <;> omega⟩ | exact .inr ⟨by (try simp only [Trust.sz]) <;> omega,by (try simp only [Trust.sz]) <;> omega⟩)
 go_wp2_with (fail)
 all_goals (go_ret; refine ⟨⟨_,rfl,?_⟩,by have zh:=hB1; exact zz1⟩; first | exact .inl ⟨rfl,by (try simp only [Trust.sz]) <;> omega⟩ | exact .inr ⟨by (try simp only [Trust.sz]) <;> omega,by (try simp only [Trust.sz]) <;> omega⟩)
theorem sz_Head (x:Head) (w:World) (cs:List Value) (S:Blks) (left:Int) (hx:rd false w cs x S) (h0:0≤left) (h1:left≤1048576) :
  Calls Tryz.prog 191 #[.agg cs.toArray,.int .i64 left] w fun e w' => (∃ n,e = .returned (.int .i64 n)∧SzR n left x.sz)∧Below w.heap.size w w':=by
 obtain ⟨rfl,f0,f1,f2,f3⟩:=Head.open hx
 clear hx
 unfold maxLen at f2 f3
 simp only [Head.cs]
 go_enter Tryz.func191,Tryz.ntmps191
 go_wp2_with (fail)
 all_goals (go_ret; refine ⟨⟨_,rfl,?_⟩,zz4⟩; first | exact .inl ⟨rfl,by (try simp only [Head.sz]) <;> omega⟩ | exact .inr ⟨by (try simp only [Head.sz]) <;> omega,by (try simp only [Head.sz]) <;> omega⟩)
theorem sz_Sig (x:Sig) (w:World) (cs:List Value) (S:Blks) (left:Int) (hx:rd false w cs x S) (h0:0≤left) (h1:left≤1048576) :
  Calls Tryz.prog 192 #[.agg cs.toArray,.int .i64 left] w fun e w' => (∃ n,e = .returned (.int .i64 n)∧SzR n left x.sz)∧Below w.heap.size w w':=by
 obtain ⟨A0,k0,S0,A1,k1,S1,A2,k2,S2,rfl,f0,a0,b0,r0,s0,a1,b1,r1,s1,a2,b2,r2,s2,pw⟩:=Sig.open hx
 clear hx
 simp only [Sig.cs]
 go_enter Tryz.func192,Tryz.ntmps192
 go_wp2_with (fail)
 try any_goals (go_ret; refine ⟨⟨_,rfl,?_⟩,zz4⟩; first | exact .inl ⟨rfl,by (try simp only [Sig.sz]) <;> omega⟩ | exact .inr ⟨by (try simp only [Sig.sz]) <;> omega,by (try simp only [Sig.sz]) <;> omega⟩)
 refine (sz_StringS x.open_ _ _ _ _ _ (r0.later zz4) (Nat.le_trans a0 b0) zz13 zz13).mono ?_
 rintro e1 w1 ⟨⟨n1,rfl,hn1⟩,hb1⟩
 have hB1:Below w.heap.size w w1:=by refine Below.trans (b:=_) ?_ (hb1.mono ?_) <;> exact zz8
 have hz1:w.heap.size+1≤w1.heap.size:=zz23
 have hc1:=fun o => hb1.cell (p:=⟨w.heap.size,o,none⟩) zz0
 rcases hn1 with ⟨rfl,hn1⟩ | ⟨rfl,hn1⟩
 ·go_wp2_with (fail)
  (go_ret; refine ⟨⟨_,rfl,?_⟩,by have zh:=hB1; exact zz1⟩; first | exact .inl ⟨rfl,by (try simp only [Sig.sz]) <;> omega⟩ | exact .inr ⟨by (try simp only [Sig.sz]) <;> omega,by (try simp only [Sig.sz]) <;> omega⟩)
 go_wp2_with (fail)
 try any_goals (go_ret; refine ⟨⟨_,rfl,?_⟩,by have zh:=hB1; exact zz1⟩; first | exact .inl ⟨rfl,by (try simp only [Sig.sz]) <;> omega⟩ | exact .inr ⟨by (try simp only [Sig.sz]) <;> omega,by (try simp only [Sig.sz]) <;> omega⟩)
 refine (sz_StringS x.shut _ _ _ _ _ (r1.later (by have zh:=hB1; exact zz1)) (Nat.le_trans a1 b1) zz13 zz13).mono ?_
 rintro e2 w2 ⟨⟨n2,rfl,hn2⟩,hb2⟩
 have hB2:Below w.heap.size w w2:=by have zh:=hB1; refine Below.trans (b:=_) ?_ (hb2.mono ?_) <;> exact zz6
 have hz2:w.heap.size+1≤w2.heap.size:=zz45
 have hc2:=fun o => hb2.cell (p:=⟨w.heap.size,o,none⟩) zz0
 rcases hn2 with ⟨rfl,hn2⟩ | ⟨rfl,hn2⟩
 ·go_wp2_with (fail)
  (go_ret; refine ⟨⟨_,rfl,?_⟩,by have zh:=hB2; exact zz1⟩; first | exact .inl ⟨rfl,by (try simp only [Sig.sz]) <;> omega⟩ | exact .inr ⟨by (try simp only [Sig.sz]) <;> omega,by (try simp only [Sig.sz]) <;> omega⟩)
 go_wp2_with (fail)
 try any_goals (go_ret; refine ⟨⟨_,rfl,?_⟩,by have zh:=hB2; exact zz1⟩; first | exact .inl ⟨rfl,by (try simp only [Sig.sz]) <;> omega⟩ | exact .inr ⟨by (try simp only [Sig.sz]) <;> omega,by (try simp only [Sig.sz]) <;> omega⟩)
 refine (sz_StringS x.sides _ _ _ _ _ (r2.later (by have zh:=hB2; exact zz1)) (Nat.le_trans a2 b2) zz13 zz13).mono ?_
 rintro e3 w3 ⟨⟨n3,rfl,hn3⟩,hb3⟩
 have hB3:Below w.heap.size w w3:=by have zh:=hB2; refine Below.trans (b:=_) ?_ (hb3.mono ?_) <;> exact zz6
 have hz3:w.heap.size+1≤w3.heap.size:=zz55
 have hc3:=fun o => hb3.cell (p:=⟨w.heap.size,o,none⟩) zz0
 rcases hn3 with ⟨rfl,hn3⟩ | ⟨rfl,hn3⟩
 ·go_wp2_with (fail)
  (go_ret; refine ⟨⟨_,rfl,?_⟩,by have zh:=hB3; exact zz1⟩; first | exact .inl ⟨rfl,by (try simp only [Sig.sz]) <;> omega⟩ | exact .inr ⟨by (try simp only [Sig.sz]) <;> omega,by (try simp only [Sig.sz]) <;> omega⟩)
 go_wp2_with (fail)
 all_goals (go_ret; refine ⟨⟨_,rfl,?_⟩,by have zh:=hB3; exact zz1⟩; first | exact .inl ⟨rfl,by (try simp only [Sig.sz]) <;> omega⟩ | exact .inr ⟨by (try simp only [Sig.sz]) <;> omega,by (try simp only [Sig.sz]) <;> omega⟩)
theorem sz_Seal (x:Seal) (w:World) (cs:List Value) (S:Blks) (left:Int) (hx:rd false w cs x S) (h0:0≤left) (h1:left≤1048576) :
  Calls Tryz.prog 99 #[.agg cs.toArray,.int .i64 left] w fun e w' => (∃ n,e = .returned (.int .i64 n)∧SzR n left x.sz)∧Below w.heap.size w w':=by
 obtain ⟨A0,k0,S0,A1,k1,S1,A2,k2,S2,rfl,f0,f1,f2,f3,f4,a0,b0,r0,s0,a1,b1,r1,s1,a2,b2,r2,s2,pw⟩:=Seal.open hx
 clear hx
 unfold maxLen at f2 f3
 simp only [Seal.cs]
 go_enter Tryz.func99,Tryz.ntmps99
 go_wp2_with (fail)
 try any_goals (go_ret; refine ⟨⟨_,rfl,?_⟩,zz4⟩; first | exact .inl ⟨rfl,by (try simp only [Seal.sz]) <;> omega⟩ | exact .inr ⟨by (try simp only [Seal.sz]) <;> omega,by (try simp only [Seal.sz]) <;> omega⟩)
 refine (sz_Head x.head _ _ _ _ (Head.mk' (m:=false) (S:=S) f0 f1 f2 f3) zz13 zz13).mono ?_
 rintro e1 w1 ⟨⟨n1,rfl,hn1⟩,hb1⟩
 have hB1:Below w.heap.size w w1:=by refine Below.trans (b:=_) ?_ (hb1.mono ?_) <;> exact zz8
 have hz1:w.heap.size+1≤w1.heap.size:=zz23
 have hc1:=fun o => hb1.cell (p:=⟨w.heap.size,o,none⟩) zz0
 rcases hn1 with ⟨rfl,hn1⟩ | ⟨rfl,hn1⟩
 ·go_wp2_with (fail)
  (go_ret; refine ⟨⟨_,rfl,?_⟩,by have zh:=hB1; exact zz1⟩; first | exact .inl ⟨rfl,by (try simp only [Seal.sz]) <;> omega⟩ | exact .inr ⟨by (try simp only [Seal.sz]) <;> omega,by (try simp only [Seal.sz]) <;> omega⟩)
 go_wp2_with (fail)
 try any_goals (go_ret; refine ⟨⟨_,rfl,?_⟩,by have zh:=hB1; exact zz1⟩; first | exact .inl ⟨rfl,by (try simp only [Seal.sz]) <;> omega⟩ | exact .inr ⟨by (try simp only [Seal.sz]) <;> omega,by (try simp only [Seal.sz]) <;> omega⟩)
 refine (sz_Sig x.sig _ _ _ _ (Sig.mk' (m:=false) (S:=S) f4 a0 b0 (r0.later (by have zh:=hB1; exact zz1)) s0 a1 b1 (r1.later (by have zh:=hB1; exact zz1)) s1 a2 b2 (r2.later (by have zh:=hB1; exact zz1)) s2 zz30) zz13 zz13).mono ?_
 rintro e2 w2 ⟨⟨n2,rfl,hn2⟩,hb2⟩
 have hB2:Below w.heap.size w w2:=by have zh:=hB1; refine Below.trans (b:=_) ?_ (hb2.mono ?_) <;> exact zz6
 have hz2:w.heap.size+1≤w2.heap.size:=zz45
 have hc2:=fun o => hb2.cell (p:=⟨w.heap.size,o,none⟩) zz0
 rcases hn2 with ⟨rfl,hn2⟩ | ⟨rfl,hn2⟩
 ·go_wp2_with (fail)
  (go_ret; refine ⟨⟨_,rfl,?_⟩,by have zh:=hB2; exact zz1⟩; first | exact .inl ⟨rfl,by (try simp only [Seal.sz]) <;> omega⟩ | exact .inr ⟨by (try simp only [Seal.sz]) <;> omega,by (try simp only [Seal.sz]) <;> omega⟩)
 go_wp2_with (fail)
 all_goals (go_ret; refine ⟨⟨_,rfl,?_⟩,by have zh:=hB2; exact zz1⟩; first | exact .inl ⟨rfl,by (try simp only [Seal.sz]) <;> omega⟩ | exact .inr ⟨by (try simp only [Seal.sz]) <;> omega,by (try simp only [Seal.sz]) <;> omega⟩)
theorem sz_Stamp (x:Stamp) (w:World) (cs:List Value) (S:Blks) (left:Int) (hx:rd false w cs x S) (h0:0≤left) (h1:left≤1048576) :
  Calls Tryz.prog 193 #[.agg cs.toArray,.int .i64 left] w fun e w' => (∃ n,e = .returned (.int .i64 n)∧SzR n left x.sz)∧Below w.heap.size w w':=by
 obtain ⟨A0,k0,S0,A1,k1,S1,A2,k2,S2,rfl,f0,f1,a0,b0,r0,s0,a1,b1,r1,s1,a2,b2,r2,s2,pw⟩:=Stamp.open hx
 clear hx
 simp only [Stamp.cs]
 go_enter Tryz.func193,Tryz.ntmps193
 go_wp2_with (fail)
 try any_goals (go_ret; refine ⟨⟨_,rfl,?_⟩,zz4⟩; first | exact .inl ⟨rfl,by (try simp only [Stamp.sz]) <;> omega⟩ | exact .inr ⟨by (try simp only [Stamp.sz]) <;> omega,by (try simp only [Stamp.sz]) <;> omega⟩)
 refine (sz_Sig x.sig _ _ _ _ (Sig.mk' (m:=false) (S:=S) f1 a0 b0 (r0.later zz4) s0 a1 b1 (r1.later zz4) s1 a2 b2 (r2.later zz4) s2 zz30) zz13 zz13).mono ?_
 rintro e1 w1 ⟨⟨n1,rfl,hn1⟩,hb1⟩
 have hB1:Below w.heap.size w w1:=by refine Below.trans (b:=_) ?_ (hb1.mono ?_) <;> exact zz8
 have hz1:w.heap.size+1≤w1.heap.size:=zz23
 have hc1:=fun o => hb1.cell (p:=⟨w.heap.size,o,none⟩) zz0
 rcases hn1 with ⟨rfl,hn1⟩ | ⟨rfl,hn1⟩
 ·go_wp2_with (fail)
  (go_ret; refine ⟨⟨_,rfl,?_⟩,by have zh:=hB1; exact zz1⟩; first | exact .inl ⟨rfl,by (try simp only [Stamp.sz]) <;> omega⟩ | exact .inr ⟨by (try simp only [Stamp.sz]) <;> omega,by (try simp only [Stamp.sz]) <;> omega⟩)
 go_wp2_with (fail)
 all_goals (go_ret; refine ⟨⟨_,rfl,?_⟩,by have zh:=hB1; exact zz1⟩; first | exact .inl ⟨rfl,by (try simp only [Stamp.sz]) <;> omega⟩ | exact .inr ⟨by (try simp only [Stamp.sz]) <;> omega,by (try simp only [Stamp.sz]) <;> omega⟩)
theorem sz_SealS (xs:List Seal) (w:World) (A:Option Addr) (cap:Nat) (S:Blks) (left:Int) (hx:Row false w A cap xs S) (hl:xs.length≤maxLen) (h0:0≤left) (h1:left≤1048576) :
  Calls Tryz.prog 32 #[.slice A xs.length cap,.int .i64 left] w fun e w' => (∃ n,e = .returned (.int .i64 n)∧SzR n left (szL xs))∧Below w.heap.size w w':=by
 unfold maxLen at hl
 have hall:=szT_all xs
 go_enter Tryz.func32,Tryz.ntmps32
 go_wp2_with (fail)
 ·go_ret; refine ⟨⟨_,rfl,?_⟩,Below.refl _ _⟩; have:=szT_le xs 0; exact .inl ⟨rfl,zz13⟩
 have HA:=zd hall; clear hall
 go_loopw [1,5] (fun l i wr => ∃ k:Nat,k≤xs.length∧i = .int .i64 k∧l = .int .i64 (left - xs.length - (szT xs k:Int))∧0≤left - xs.length - (szT xs k:Int)∧Below w.heap.size w wr) (fun _ i _ => xs.length - (intOf i).toNat)
 case atStart => exact ⟨0,Nat.zero_le _,rfl,by rw [szT_zero]; simp,by rw [szT_zero]; omega,Below.refl _ _⟩
 case round =>
  obtain ⟨k,hk,rfl,rfl,hpos,hb⟩:=hrel
  have hz:=hb.size
  by_cases hlt:k<xs.length
  ·have hne:xs≠[]:=by rintro rfl; simp at hlt
   obtain ⟨b1,o1,rfl,hS,T1,hT1,_,he1⟩:=hx hne
   obtain ⟨c1,ha1,hr1⟩:=he1 k hlt
   have hl1:=ha1.lt zz28
   replace ha1:=ha1.keep (hb.block _ hl1)
   replace hr1:=Lay.later hr1 hb
   have hsu:=szT_succ xs k hlt
   have hle:=szT_le xs (k+1)
   have hr2:=zd hr1
   obtain ⟨A0,k0,S0,A1,k1,S1,A2,k2,S2,rfl,f0,f1,f2,f3,f4,a0,b0,r0,s0,a1,b1,r1,s1,a2,b2,r2,s2,pw⟩:=Seal.open hr1
   have q0:=ha1 0 _ rfl
   have q1:=ha1 1 _ rfl
   have q2:=ha1 2 _ rfl
   have q3:=ha1 3 _ rfl
   have q4:=ha1 4 _ rfl
   have q5:=ha1 5 _ rfl
   have q6:=ha1 6 _ rfl
   have q7:=ha1 7 _ rfl
   simp only [show Lay.n Seal=8 from rfl,Nat.add_zero] at q0 q1 q2 q3 q4 q5 q6 q7
   have hse:Mk.sz xs[k]=xs[k].sz:=rfl
   rw [hse] at hsu
   have HS:=zd hsu; clear hsu hse hle ha1 he1
   go_wp2_with (fail)
   refine (sz_Seal xs[k] _ (Seal.cs xs[k] A0 k0 A1 k1 A2 k2) _ _ (Lay.later hr2.out zz4) zz13 zz13).mono ?_
   rintro e1 w1 ⟨⟨n1,rfl,hn1⟩,hb1⟩
   have hB1:Below w.heap.size w w1:=by have zh:=hb; refine Below.trans ?_ (hb1.mono ?_) <;> exact zz14
   rcases hn1 with ⟨rfl,hn1⟩ | ⟨rfl,hn1⟩
   ·go_wp2
    go_ret; refine ⟨⟨_,rfl,?_⟩,hB1⟩; have:=HS.out; have:=HA.out; have:=szT_le xs (k+1); exact .inl ⟨rfl,zz13⟩
   ·go_wp2
    go_roundw
    case rel => exact ⟨k+1,zz13,by go_num,by rw [HS.out]; congr 1; omega,by rw [HS.out]; omega,hB1⟩
    case measure => simp [intOf]; omega
  ·have hke:k=xs.length:=by omega
   go_wp2
   go_ret; refine ⟨⟨_,rfl,?_⟩,hb⟩; have:=HA.out; subst hke; exact .inr ⟨zz13,zz13⟩
theorem sz_BoolS (xs:List Bool) (w:World) (A:Option Addr) (cap:Nat) (S:Blks) (left:Int) (hx:Row false w A cap xs S) (hl:xs.length≤maxLen) (h0:0≤left) (h1:left≤1048576) :
  Calls Tryz.prog 123 #[.slice A xs.length cap,.int .i64 left] w fun e w' => (∃ n,e = .returned (.int .i64 n)∧SzR n left (szL xs))∧Below w.heap.size w w':=by
 unfold maxLen at hl
 have hs:szL xs=xs.length:=by unfold szL; rw [show xs.map Mk.sz=List.replicate xs.length 0 from by rw [List.eq_replicate_iff]; exact ⟨zz30,by simp [Mk.sz]⟩]; simp
 rw [hs]
 go_enter Tryz.func123,Tryz.ntmps123
 go_wp2
 all_goals (go_ret; refine ⟨⟨_,rfl,?_⟩,Below.refl _ _⟩; unfold SzR; omega)
theorem sz_Coord (x:Coord) (w:World) (cs:List Value) (S:Blks) (left:Int) (hx:rd false w cs x S) (h0:0≤left) (h1:left≤1048576) :
  Calls Tryz.prog 268 #[.agg cs.toArray,.int .i64 left] w fun e w' => (∃ n,e = .returned (.int .i64 n)∧SzR n left x.sz)∧Below w.heap.size w w':=by
 obtain ⟨A0,k0,S0,A1,k1,S1,A2,k2,S2,A3,k3,S3,A4,k4,S4,A5,k5,S5,rfl,f0,f1,f7,a0,b0,r0,s0,a1,b1,r1,s1,a2,b2,r2,s2,a3,b3,r3,s3,a4,b4,r4,s4,a5,b5,r5,s5,pw⟩:=Coord.open hx
 clear hx
 simp only [Coord.cs]
 go_enter Tryz.func268,Tryz.ntmps268
 go_wp2_with (fail)
 try any_goals (go_ret; refine ⟨⟨_,rfl,?_⟩,zz4⟩; first | exact .inl ⟨rfl,by (try simp only [Coord.sz]) <;> omega⟩ | exact .inr ⟨by (try simp only [Coord.sz]) <;> omega,by (try simp only [Coord.sz]) <;> omega⟩)
 refine (sz_Disk x.disk _ _ _ _ (Disk.mk' (m:=false) (S:=S) a0 b0 (r0.later zz4) s0) zz13 zz13).mono ?_
 rintro e1 w1 ⟨⟨n1,rfl,hn1⟩,hb1⟩
 have hB1:Below w.heap.size w w1:=by refine Below.trans (b:=_) ?_ (hb1.mono ?_) <;> exact zz8
 have hz1:w.heap.size+1≤w1.heap.size:=zz23
 have hc1:=fun o => hb1.cell (p:=⟨w.heap.size,o,none⟩) zz0
 rcases hn1 with ⟨rfl,hn1⟩ | ⟨rfl,hn1⟩
 ·go_wp2_with (fail)
  (go_ret; refine ⟨⟨_,rfl,?_⟩,by have zh:=hB1; exact zz1⟩; first | exact .inl ⟨rfl,by (try simp only [Coord.sz]) <;> omega⟩ | exact .inr ⟨by (try simp only [Coord.sz]) <;> omega,by (try simp only [Coord.sz]) <;> omega⟩)
 go_wp2_with (fail)
 try any_goals (go_ret; refine ⟨⟨_,rfl,?_⟩,by have zh:=hB1; exact zz1⟩; first | exact .inl ⟨rfl,by (try simp only [Coord.sz]) <;> omega⟩ | exact .inr ⟨by (try simp only [Coord.sz]) <;> omega,by (try simp only [Coord.sz]) <;> omega⟩)
 refine (sz_StringS x.pool _ _ _ _ _ (r1.later (by have zh:=hB1; exact zz1)) (Nat.le_trans a1 b1) zz13 zz13).mono ?_
 rintro e2 w2 ⟨⟨n2,rfl,hn2⟩,hb2⟩
 have hB2:Below w.heap.size w w2:=by have zh:=hB1; refine Below.trans (b:=_) ?_ (hb2.mono ?_) <;> exact zz6
 have hz2:w.heap.size+1≤w2.heap.size:=zz45
 have hc2:=fun o => hb2.cell (p:=⟨w.heap.size,o,none⟩) zz0
 rcases hn2 with ⟨rfl,hn2⟩ | ⟨rfl,hn2⟩
 ·go_wp2_with (fail)
  (go_ret; refine ⟨⟨_,rfl,?_⟩,by have zh:=hB2; exact zz1⟩; first | exact .inl ⟨rfl,by (try simp only [Coord.sz]) <;> omega⟩ | exact .inr ⟨by (try simp only [Coord.sz]) <;> omega,by (try simp only [Coord.sz]) <;> omega⟩)
 go_wp2_with (fail)
 try any_goals (go_ret; refine ⟨⟨_,rfl,?_⟩,by have zh:=hB2; exact zz1⟩; first | exact .inl ⟨rfl,by (try simp only [Coord.sz]) <;> omega⟩ | exact .inr ⟨by (try simp only [Coord.sz]) <;> omega,by (try simp only [Coord.sz]) <;> omega⟩)
 refine (sz_SealS x.seals _ _ _ _ _ (r2.later (by have zh:=hB2; exact zz1)) (Nat.le_trans a2 b2) zz13 zz13).mono ?_
 rintro e3 w3 ⟨⟨n3,rfl,hn3⟩,hb3⟩
 have hB3:Below w.heap.size w w3:=by have zh:=hB2; refine Below.trans (b:=_) ?_ (hb3.mono ?_) <;> exact zz6
 have hz3:w.heap.size+1≤w3.heap.size:=zz55
 have hc3:=fun o => hb3.cell (p:=⟨w.heap.size,o,none⟩) zz0
 rcases hn3 with ⟨rfl,hn3⟩ | ⟨rfl,hn3⟩
 ·go_wp2_with (fail)
  (go_ret; refine ⟨⟨_,rfl,?_⟩,by have zh:=hB3; exact zz1⟩; first | exact .inl ⟨rfl,by (try simp only [Coord.sz]) <;> omega⟩ | exact .inr ⟨by (try simp only [Coord.sz]) <;> omega,by (try simp only [Coord.sz]) <;> omega⟩)
 go_wp2_with (fail)
 try any_goals (go_ret; refine ⟨⟨_,rfl,?_⟩,by have zh:=hB3; exact zz1⟩; first | exact .inl ⟨rfl,by (try simp only [Coord.sz]) <;> omega⟩ | exact .inr ⟨by (try simp only [Coord.sz]) <;> omega,by (try simp only [Coord.sz]) <;> omega⟩)
 refine (sz_IntS x.tries _ _ _ _ _ (r3.later (by have zh:=hB3; exact zz1)) (Nat.le_trans a3 b3) zz13 zz13).mono ?_
 rintro e4 w4 ⟨⟨n4,rfl,hn4⟩,hb4⟩
 have hB4:Below w.heap.size w w4:=by have zh:=hB3; refine Below.trans (b:=_) ?_ (hb4.mono ?_) <;> exact zz6
 have hz4:w.heap.size+1≤w4.heap.size:=zz57
 have hc4:=fun o => hb4.cell (p:=⟨w.heap.size,o,none⟩) zz0
 rcases hn4 with ⟨rfl,hn4⟩ | ⟨rfl,hn4⟩
 ·go_wp2_with (fail)
  (go_ret; refine ⟨⟨_,rfl,?_⟩,by have zh:=hB4; exact zz1⟩; first | exact .inl ⟨rfl,by (try simp only [Coord.sz]) <;> omega⟩ | exact .inr ⟨by (try simp only [Coord.sz]) <;> omega,by (try simp only [Coord.sz]) <;> omega⟩)
 go_wp2_with (fail)
 try any_goals (go_ret; refine ⟨⟨_,rfl,?_⟩,by have zh:=hB4; exact zz1⟩; first | exact .inl ⟨rfl,by (try simp only [Coord.sz]) <;> omega⟩ | exact .inr ⟨by (try simp only [Coord.sz]) <;> omega,by (try simp only [Coord.sz]) <;> omega⟩)
 refine (sz_StringS x.votes _ _ _ _ _ (r4.later (by have zh:=hB4; exact zz1)) (Nat.le_trans a4 b4) zz13 zz13).mono ?_
 rintro e5 w5 ⟨⟨n5,rfl,hn5⟩,hb5⟩
 have hB5:Below w.heap.size w w5:=by have zh:=hB4; refine Below.trans (b:=_) ?_ (hb5.mono ?_) <;> exact zz6
 have hz5:w.heap.size+1≤w5.heap.size:=zz78
 have hc5:=fun o => hb5.cell (p:=⟨w.heap.size,o,none⟩) zz0
 rcases hn5 with ⟨rfl,hn5⟩ | ⟨rfl,hn5⟩
 ·go_wp2_with (fail)
  (go_ret; refine ⟨⟨_,rfl,?_⟩,by have zh:=hB5; exact zz1⟩; first | exact .inl ⟨rfl,by (try simp only [Coord.sz]) <;> omega⟩ | exact .inr ⟨by (try simp only [Coord.sz]) <;> omega,by (try simp only [Coord.sz]) <;> omega⟩)
 go_wp2_with (fail)
 try any_goals (go_ret; refine ⟨⟨_,rfl,?_⟩,by have zh:=hB5; exact zz1⟩; first | exact .inl ⟨rfl,by (try simp only [Coord.sz]) <;> omega⟩ | exact .inr ⟨by (try simp only [Coord.sz]) <;> omega,by (try simp only [Coord.sz]) <;> omega⟩)
 refine (sz_BoolS x.dones _ _ _ _ _ (r5.later (by have zh:=hB5; exact zz1)) (Nat.le_trans a5 b5) zz13 zz13).mono ?_
 rintro e6 w6 ⟨⟨n6,rfl,hn6⟩,hb6⟩
 have hB6:Below w.heap.size w w6:=by have zh:=hB5; refine Below.trans (b:=_) ?_ (hb6.mono ?_) <;> exact zz6
 have hz6:w.heap.size+1≤w6.heap.size:=by have:=hb6.size; (try simp at this); omega
 have hc6:=fun o => hb6.cell (p:=⟨w.heap.size,o,none⟩) zz0
 rcases hn6 with ⟨rfl,hn6⟩ | ⟨rfl,hn6⟩
 ·go_wp2_with (fail)
  (go_ret; refine ⟨⟨_,rfl,?_⟩,by have zh:=hB6; exact zz1⟩; first | exact .inl ⟨rfl,by (try simp only [Coord.sz]) <;> omega⟩ | exact .inr ⟨by (try simp only [Coord.sz]) <;> omega,by (try simp only [Coord.sz]) <;> omega⟩)
 go_wp2_with (fail)
 all_goals (go_ret; refine ⟨⟨_,rfl,?_⟩,by have zh:=hB6; exact zz1⟩; first | exact .inl ⟨rfl,by (try simp only [Coord.sz]) <;> omega⟩ | exact .inr ⟨by (try simp only [Coord.sz]) <;> omega,by (try simp only [Coord.sz]) <;> omega⟩)
theorem sz_ServerS (xs:List Server) (w:World) (A:Option Addr) (cap:Nat) (S:Blks) (left:Int) (hx:Row false w A cap xs S) (hl:xs.length≤maxLen) (h0:0≤left) (h1:left≤1048576) :
  Calls Tryz.prog 269 #[.slice A xs.length cap,.int .i64 left] w fun e w' => (∃ n,e = .returned (.int .i64 n)∧SzR n left (szL xs))∧Below w.heap.size w w':=by
 unfold maxLen at hl
 have hall:=szT_all xs
 go_enter Tryz.func269,Tryz.ntmps269
 go_wp2_with (fail)
 ·go_ret; refine ⟨⟨_,rfl,?_⟩,Below.refl _ _⟩; have:=szT_le xs 0; exact .inl ⟨rfl,zz13⟩
 have HA:=zd hall; clear hall
 go_loopw [1,5] (fun l i wr => ∃ k:Nat,k≤xs.length∧i = .int .i64 k∧l = .int .i64 (left - xs.length - (szT xs k:Int))∧0≤left - xs.length - (szT xs k:Int)∧Below w.heap.size w wr) (fun _ i _ => xs.length - (intOf i).toNat)
 case atStart => exact ⟨0,Nat.zero_le _,rfl,by rw [szT_zero]; simp,by rw [szT_zero]; omega,Below.refl _ _⟩
 case round =>
  obtain ⟨k,hk,rfl,rfl,hpos,hb⟩:=hrel
  have hz:=hb.size
  by_cases hlt:k<xs.length
  ·have hne:xs≠[]:=by rintro rfl; simp at hlt
   obtain ⟨b1,o1,rfl,hS,T1,hT1,_,he1⟩:=hx hne
   obtain ⟨c1,ha1,hr1⟩:=he1 k hlt
   have hl1:=ha1.lt zz28
   replace ha1:=ha1.keep (hb.block _ hl1)
   replace hr1:=Lay.later hr1 hb
   have hsu:=szT_succ xs k hlt
   have hle:=szT_le xs (k+1)
   have hr2:=zd hr1
   obtain ⟨A0,k0,S0,A1,k1,S1,A2,k2,S2,A3,k3,S3,rfl,f0,f1,f4,f8,f9,f10,a0,b0,r0,s0,a1,b1,r1,s1,a2,b2,r2,s2,a3,b3,r3,s3,pw⟩:=Server.open hr1
   have q0:=ha1 0 _ rfl
   have q1:=ha1 1 _ rfl
   have q2:=ha1 2 _ rfl
   have q3:=ha1 3 _ rfl
   have q4:=ha1 4 _ rfl
   have q5:=ha1 5 _ rfl
   have q6:=ha1 6 _ rfl
   have q7:=ha1 7 _ rfl
   have q8:=ha1 8 _ rfl
   have q9:=ha1 9 _ rfl
   have q10:=ha1 10 _ rfl
   simp only [show Lay.n Server=11 from rfl,Nat.add_zero] at q0 q1 q2 q3 q4 q5 q6 q7 q8 q9 q10
   have hse:Mk.sz xs[k]=xs[k].sz:=rfl
   rw [hse] at hsu
   have HS:=zd hsu; clear hsu hse hle ha1 he1
   go_wp2_with (fail)
   refine (sz_Server xs[k] _ (Server.cs xs[k] A0 k0 A1 k1 A2 k2 A3 k3) _ _ (Lay.later hr2.out zz4) zz13 zz13).mono ?_
   rintro e1 w1 ⟨⟨n1,rfl,hn1⟩,hb1⟩
   have hB1:Below w.heap.size w w1:=by have zh:=hb; refine Below.trans ?_ (hb1.mono ?_) <;> exact zz14
   rcases hn1 with ⟨rfl,hn1⟩ | ⟨rfl,hn1⟩
   ·go_wp2
    go_ret; refine ⟨⟨_,rfl,?_⟩,hB1⟩; have:=HS.out; have:=HA.out; have:=szT_le xs (k+1); exact .inl ⟨rfl,zz13⟩
   ·go_wp2
    go_roundw
    case rel => exact ⟨k+1,zz13,by go_num,by rw [HS.out]; congr 1; omega,by rw [HS.out]; omega,hB1⟩
    case measure => simp [intOf]; omega
  ·have hke:k=xs.length:=by omega
   go_wp2
   go_ret; refine ⟨⟨_,rfl,?_⟩,hb⟩; have:=HA.out; subst hke; exact .inr ⟨zz13,zz13⟩
theorem sz_House (x:House) (w:World) (cs:List Value) (S:Blks) (left:Int) (hx:rd false w cs x S) (h0:0≤left) (h1:left≤1048576) :
  Calls Tryz.prog 206 #[.agg cs.toArray,.int .i64 left] w fun e w' => (∃ n,e = .returned (.int .i64 n)∧SzR n left x.sz)∧Below w.heap.size w w':=by
 obtain ⟨A0,k0,S0,A1,k1,S1,A2,k2,S2,A3,k3,S3,A4,k4,S4,A5,k5,S5,A6,k6,S6,A7,k7,S7,A8,k8,S8,rfl,f0,f1,f7,a0,b0,r0,s0,a1,b1,r1,s1,a2,b2,r2,s2,a3,b3,r3,s3,a4,b4,r4,s4,a5,b5,r5,s5,a6,b6,r6,s6,a7,b7,r7,s7,a8,b8,r8,s8,pw⟩:=House.open hx
 clear hx
 simp only [House.cs]
 go_enter Tryz.func206,Tryz.ntmps206
 go_wp2_with (fail)
 try any_goals (go_ret; refine ⟨⟨_,rfl,?_⟩,zz4⟩; first | exact .inl ⟨rfl,by (try simp only [House.sz]) <;> omega⟩ | exact .inr ⟨by (try simp only [House.sz]) <;> omega,by (try simp only [House.sz]) <;> omega⟩)
 refine (sz_Coord x.coord _ _ _ _ (Coord.mk' (m:=false) (S:=S) f0 f1 a0 b0 (r0.later zz4) s0 a1 b1 (r1.later zz4) s1 a2 b2 (r2.later zz4) s2 a3 b3 (r3.later zz4) s3 f7 a4 b4 (r4.later zz4) s4 a5 b5 (r5.later zz4) s5 zz30) zz13 zz13).mono ?_
 rintro e1 w1 ⟨⟨n1,rfl,hn1⟩,hb1⟩
 have hB1:Below w.heap.size w w1:=by refine Below.trans (b:=_) ?_ (hb1.mono ?_) <;> exact zz8
 have hz1:w.heap.size+1≤w1.heap.size:=zz23
 have hc1:=fun o => hb1.cell (p:=⟨w.heap.size,o,none⟩) zz0
 rcases hn1 with ⟨rfl,hn1⟩ | ⟨rfl,hn1⟩
 ·go_wp2_with (fail)
  (go_ret; refine ⟨⟨_,rfl,?_⟩,by have zh:=hB1; exact zz1⟩; first | exact .inl ⟨rfl,by (try simp only [House.sz]) <;> omega⟩ | exact .inr ⟨by (try simp only [House.sz]) <;> omega,by (try simp only [House.sz]) <;> omega⟩)
 go_wp2_with (fail)
 try any_goals (go_ret; refine ⟨⟨_,rfl,?_⟩,by have zh:=hB1; exact zz1⟩; first | exact .inl ⟨rfl,by (try simp only [House.sz]) <;> omega⟩ | exact .inr ⟨by (try simp only [House.sz]) <;> omega,by (try simp only [House.sz]) <;> omega⟩)
 refine (sz_ServerS x.servers _ _ _ _ _ (r6.later (by have zh:=hB1; exact zz1)) (Nat.le_trans a6 b6) zz13 zz13).mono ?_
 rintro e2 w2 ⟨⟨n2,rfl,hn2⟩,hb2⟩
 have hB2:Below w.heap.size w w2:=by have zh:=hB1; refine Below.trans (b:=_) ?_ (hb2.mono ?_) <;> exact zz6
 have hz2:w.heap.size+1≤w2.heap.size:=zz45
 have hc2:=fun o => hb2.cell (p:=⟨w.heap.size,o,none⟩) zz0
 rcases hn2 with ⟨rfl,hn2⟩ | ⟨rfl,hn2⟩
 ·go_wp2_with (fail)
  (go_ret; refine ⟨⟨_,rfl,?_⟩,by have zh:=hB2; exact zz1⟩; first | exact .inl ⟨rfl,by (try simp only [House.sz]) <;> omega⟩ | exact .inr ⟨by (try simp only [House.sz]) <;> omega,by (try simp only [House.sz]) <;> omega⟩)
 go_wp2_with (fail)
 try any_goals (go_ret; refine ⟨⟨_,rfl,?_⟩,by have zh:=hB2; exact zz1⟩; first | exact .inl ⟨rfl,by (try simp only [House.sz]) <;> omega⟩ | exact .inr ⟨by (try simp only [House.sz]) <;> omega,by (try simp only [House.sz]) <;> omega⟩)
 refine (sz_StringS x.net _ _ _ _ _ (r7.later (by have zh:=hB2; exact zz1)) (Nat.le_trans a7 b7) zz13 zz13).mono ?_
 rintro e3 w3 ⟨⟨n3,rfl,hn3⟩,hb3⟩
 have hB3:Below w.heap.size w w3:=by have zh:=hB2; refine Below.trans (b:=_) ?_ (hb3.mono ?_) <;> exact zz6
 have hz3:w.heap.size+1≤w3.heap.size:=zz55
 have hc3:=fun o => hb3.cell (p:=⟨w.heap.size,o,none⟩) zz0
 rcases hn3 with ⟨rfl,hn3⟩ | ⟨rfl,hn3⟩
 ·go_wp2_with (fail)
  (go_ret; refine ⟨⟨_,rfl,?_⟩,by have zh:=hB3; exact zz1⟩; first | exact .inl ⟨rfl,by (try simp only [House.sz]) <;> omega⟩ | exact .inr ⟨by (try simp only [House.sz]) <;> omega,by (try simp only [House.sz]) <;> omega⟩)
 go_wp2_with (fail)
 try any_goals (go_ret; refine ⟨⟨_,rfl,?_⟩,by have zh:=hB3; exact zz1⟩; first | exact .inl ⟨rfl,by (try simp only [House.sz]) <;> omega⟩ | exact .inr ⟨by (try simp only [House.sz]) <;> omega,by (try simp only [House.sz]) <;> omega⟩)
 refine (sz_IntS x.codes _ _ _ _ _ (r8.later (by have zh:=hB3; exact zz1)) (Nat.le_trans a8 b8) zz13 zz13).mono ?_
 rintro e4 w4 ⟨⟨n4,rfl,hn4⟩,hb4⟩
 have hB4:Below w.heap.size w w4:=by have zh:=hB3; refine Below.trans (b:=_) ?_ (hb4.mono ?_) <;> exact zz6
 have hz4:w.heap.size+1≤w4.heap.size:=zz57
 have hc4:=fun o => hb4.cell (p:=⟨w.heap.size,o,none⟩) zz0
 rcases hn4 with ⟨rfl,hn4⟩ | ⟨rfl,hn4⟩
 ·go_wp2_with (fail)
  (go_ret; refine ⟨⟨_,rfl,?_⟩,by have zh:=hB4; exact zz1⟩; first | exact .inl ⟨rfl,by (try simp only [House.sz]) <;> omega⟩ | exact .inr ⟨by (try simp only [House.sz]) <;> omega,by (try simp only [House.sz]) <;> omega⟩)
 go_wp2_with (fail)
 all_goals (go_ret; refine ⟨⟨_,rfl,?_⟩,by have zh:=hB4; exact zz1⟩; first | exact .inl ⟨rfl,by (try simp only [House.sz]) <;> omega⟩ | exact .inr ⟨by (try simp only [House.sz]) <;> omega,by (try simp only [House.sz]) <;> omega⟩)
theorem sz_HouseS (xs:List House) (w:World) (A:Option Addr) (cap:Nat) (S:Blks) (left:Int) (hx:Row false w A cap xs S) (hl:xs.length≤maxLen) (h0:0≤left) (h1:left≤1048576) :
  Calls Tryz.prog 119 #[.slice A xs.length cap,.int .i64 left] w fun e w' => (∃ n,e = .returned (.int .i64 n)∧SzR n left (szL xs))∧Below w.heap.size w w':=by
 unfold maxLen at hl
 have hall:=szT_all xs
 go_enter Tryz.func119,Tryz.ntmps119
 go_wp2_with (fail)
 ·go_ret; refine ⟨⟨_,rfl,?_⟩,Below.refl _ _⟩; have:=szT_le xs 0; exact .inl ⟨rfl,zz13⟩
 have HA:=zd hall; clear hall
 go_loopw [1,5] (fun l i wr => ∃ k:Nat,k≤xs.length∧i = .int .i64 k∧l = .int .i64 (left - xs.length - (szT xs k:Int))∧0≤left - xs.length - (szT xs k:Int)∧Below w.heap.size w wr) (fun _ i _ => xs.length - (intOf i).toNat)
 case atStart => exact ⟨0,Nat.zero_le _,rfl,by rw [szT_zero]; simp,by rw [szT_zero]; omega,Below.refl _ _⟩
 case round =>
  obtain ⟨k,hk,rfl,rfl,hpos,hb⟩:=hrel
  have hz:=hb.size
  by_cases hlt:k<xs.length
  ·have hne:xs≠[]:=by rintro rfl; simp at hlt
   obtain ⟨b1,o1,rfl,hS,T1,hT1,_,he1⟩:=hx hne
   obtain ⟨c1,ha1,hr1⟩:=he1 k hlt
   have hl1:=ha1.lt zz28
   replace ha1:=ha1.keep (hb.block _ hl1)
   replace hr1:=Lay.later hr1 hb
   have hsu:=szT_succ xs k hlt
   have hle:=szT_le xs (k+1)
   have hr2:=zd hr1
   obtain ⟨A0,k0,S0,A1,k1,S1,A2,k2,S2,A3,k3,S3,A4,k4,S4,A5,k5,S5,A6,k6,S6,A7,k7,S7,A8,k8,S8,rfl,f0,f1,f7,a0,b0,r0,s0,a1,b1,r1,s1,a2,b2,r2,s2,a3,b3,r3,s3,a4,b4,r4,s4,a5,b5,r5,s5,a6,b6,r6,s6,a7,b7,r7,s7,a8,b8,r8,s8,pw⟩:=House.open hr1
   have q0:=ha1 0 _ rfl
   have q1:=ha1 1 _ rfl
   have q2:=ha1 2 _ rfl
   have q3:=ha1 3 _ rfl
   have q4:=ha1 4 _ rfl
   have q5:=ha1 5 _ rfl
   have q6:=ha1 6 _ rfl
   have q7:=ha1 7 _ rfl
   have q8:=ha1 8 _ rfl
   have q9:=ha1 9 _ rfl
   have q10:=ha1 10 _ rfl
   have q11:=ha1 11 _ rfl
   have q12:=ha1 12 _ rfl
   have q13:=ha1 13 _ rfl
   simp only [show Lay.n House=14 from rfl,Nat.add_zero] at q0 q1 q2 q3 q4 q5 q6 q7 q8 q9 q10 q11 q12 q13
   have hse:Mk.sz xs[k]=xs[k].sz:=rfl
   rw [hse] at hsu
   have HS:=zd hsu; clear hsu hse hle ha1 he1
   go_wp2_with (fail)
   refine (sz_House xs[k] _ (House.cs xs[k] A0 k0 A1 k1 A2 k2 A3 k3 A4 k4 A5 k5 A6 k6 A7 k7 A8 k8) _ _ (Lay.later hr2.out zz4) zz13 zz13).mono ?_
   rintro e1 w1 ⟨⟨n1,rfl,hn1⟩,hb1⟩
   have hB1:Below w.heap.size w w1:=by have zh:=hb; refine Below.trans ?_ (hb1.mono ?_) <;> exact zz14
   rcases hn1 with ⟨rfl,hn1⟩ | ⟨rfl,hn1⟩
   ·go_wp2
    go_ret; refine ⟨⟨_,rfl,?_⟩,hB1⟩; have:=HS.out; have:=HA.out; have:=szT_le xs (k+1); exact .inl ⟨rfl,zz13⟩
   ·go_wp2
    go_roundw
    case rel => exact ⟨k+1,zz13,by go_num,by rw [HS.out]; congr 1; omega,by rw [HS.out]; omega,hB1⟩
    case measure => simp [intOf]; omega
  ·have hke:k=xs.length:=by omega
   go_wp2
   go_ret; refine ⟨⟨_,rfl,?_⟩,hb⟩; have:=HA.out; subst hke; exact .inr ⟨zz13,zz13⟩
theorem sz_Pair (x:Pair) (w:World) (cs:List Value) (S:Blks) (left:Int) (hx:rd false w cs x S) (h0:0≤left) (h1:left≤1048576) :
  Calls Tryz.prog 298 #[.agg cs.toArray,.int .i64 left] w fun e w' => (∃ n,e = .returned (.int .i64 n)∧SzR n left x.sz)∧Below w.heap.size w w':=by
 obtain ⟨A0,k0,S0,A1,k1,S1,A2,k2,S2,A3,k3,S3,A4,k4,S4,A5,k5,S5,rfl,f0,f1,f2,f3,f4,f8,f9,f10,f11,f12,a0,b0,r0,s0,a1,b1,r1,s1,a2,b2,r2,s2,a3,b3,r3,s3,a4,b4,r4,s4,a5,b5,r5,s5,pw⟩:=Pair.open hx
 clear hx
 unfold maxLen at f2 f3 f10 f11
 simp only [Pair.cs]
 go_enter Tryz.func298,Tryz.ntmps298
 go_wp2_with (fail)
 try any_goals (go_ret; refine ⟨⟨_,rfl,?_⟩,zz4⟩; first | exact .inl ⟨rfl,by (try simp only [Pair.sz]) <;> omega⟩ | exact .inr ⟨by (try simp only [Pair.sz]) <;> omega,by (try simp only [Pair.sz]) <;> omega⟩)
 refine (sz_Seal x.a _ _ _ _ (Seal.mk' (m:=false) (S:=S) f0 f1 f2 f3 f4 a0 b0 (r0.later zz4) s0 a1 b1 (r1.later zz4) s1 a2 b2 (r2.later zz4) s2 zz30) zz13 zz13).mono ?_
 rintro e1 w1 ⟨⟨n1,rfl,hn1⟩,hb1⟩
 have hB1:Below w.heap.size w w1:=by refine Below.trans (b:=_) ?_ (hb1.mono ?_) <;> exact zz8
 have hz1:w.heap.size+1≤w1.heap.size:=zz23
 have hc1:=fun o => hb1.cell (p:=⟨w.heap.size,o,none⟩) zz0
 rcases hn1 with ⟨rfl,hn1⟩ | ⟨rfl,hn1⟩
 ·go_wp2_with (fail)
  (go_ret; refine ⟨⟨_,rfl,?_⟩,by have zh:=hB1; exact zz1⟩; first | exact .inl ⟨rfl,by (try simp only [Pair.sz]) <;> omega⟩ | exact .inr ⟨by (try simp only [Pair.sz]) <;> omega,by (try simp only [Pair.sz]) <;> omega⟩)
 go_wp2_with (fail)
 try any_goals (go_ret; refine ⟨⟨_,rfl,?_⟩,by have zh:=hB1; exact zz1⟩; first | exact .inl ⟨rfl,by (try simp only [Pair.sz]) <;> omega⟩ | exact .inr ⟨by (try simp only [Pair.sz]) <;> omega,by (try simp only [Pair.sz]) <;> omega⟩)
 refine (sz_Seal x.b _ _ _ _ (Seal.mk' (m:=false) (S:=S) f8 f9 f10 f11 f12 a3 b3 (r3.later (by have zh:=hB1; exact zz1)) s3 a4 b4 (r4.later (by have zh:=hB1; exact zz1)) s4 a5 b5 (r5.later (by have zh:=hB1; exact zz1)) s5 zz30) zz13 zz13).mono ?_
 rintro e2 w2 ⟨⟨n2,rfl,hn2⟩,hb2⟩
 have hB2:Below w.heap.size w w2:=by have zh:=hB1; refine Below.trans (b:=_) ?_ (hb2.mono ?_) <;> exact zz6
 have hz2:w.heap.size+1≤w2.heap.size:=zz45
 have hc2:=fun o => hb2.cell (p:=⟨w.heap.size,o,none⟩) zz0
 rcases hn2 with ⟨rfl,hn2⟩ | ⟨rfl,hn2⟩
 ·go_wp2_with (fail)
  (go_ret; refine ⟨⟨_,rfl,?_⟩,by have zh:=hB2; exact zz1⟩; first | exact .inl ⟨rfl,by (try simp only [Pair.sz]) <;> omega⟩ | exact .inr ⟨by (try simp only [Pair.sz]) <;> omega,by (try simp only [Pair.sz]) <;> omega⟩)
 go_wp2_with (fail)
 all_goals (go_ret; refine ⟨⟨_,rfl,?_⟩,by have zh:=hB2; exact zz1⟩; first | exact .inl ⟨rfl,by (try simp only [Pair.sz]) <;> omega⟩ | exact .inr ⟨by (try simp only [Pair.sz]) <;> omega,by (try simp only [Pair.sz]) <;> omega⟩)
theorem sz_PairS (xs:List Pair) (w:World) (A:Option Addr) (cap:Nat) (S:Blks) (left:Int) (hx:Row false w A cap xs S) (hl:xs.length≤maxLen) (h0:0≤left) (h1:left≤1048576) :
  Calls Tryz.prog 270 #[.slice A xs.length cap,.int .i64 left] w fun e w' => (∃ n,e = .returned (.int .i64 n)∧SzR n left (szL xs))∧Below w.heap.size w w':=by
 unfold maxLen at hl
 have hall:=szT_all xs
 go_enter Tryz.func270,Tryz.ntmps270
 go_wp2_with (fail)
 ·go_ret; refine ⟨⟨_,rfl,?_⟩,Below.refl _ _⟩; have:=szT_le xs 0; exact .inl ⟨rfl,zz13⟩
 have HA:=zd hall; clear hall
 go_loopw [1,5] (fun l i wr => ∃ k:Nat,k≤xs.length∧i = .int .i64 k∧l = .int .i64 (left - xs.length - (szT xs k:Int))∧0≤left - xs.length - (szT xs k:Int)∧Below w.heap.size w wr) (fun _ i _ => xs.length - (intOf i).toNat)
 case atStart => exact ⟨0,Nat.zero_le _,rfl,by rw [szT_zero]; simp,by rw [szT_zero]; omega,Below.refl _ _⟩
 case round =>
  obtain ⟨k,hk,rfl,rfl,hpos,hb⟩:=hrel
  have hz:=hb.size
  by_cases hlt:k<xs.length
  ·have hne:xs≠[]:=by rintro rfl; simp at hlt
   obtain ⟨b1,o1,rfl,hS,T1,hT1,_,he1⟩:=hx hne
   obtain ⟨c1,ha1,hr1⟩:=he1 k hlt
   have hl1:=ha1.lt zz28
   replace ha1:=ha1.keep (hb.block _ hl1)
   replace hr1:=Lay.later hr1 hb
   have hsu:=szT_succ xs k hlt
   have hle:=szT_le xs (k+1)
   have hr2:=zd hr1
   obtain ⟨A0,k0,S0,A1,k1,S1,A2,k2,S2,A3,k3,S3,A4,k4,S4,A5,k5,S5,rfl,f0,f1,f2,f3,f4,f8,f9,f10,f11,f12,a0,b0,r0,s0,a1,b1,r1,s1,a2,b2,r2,s2,a3,b3,r3,s3,a4,b4,r4,s4,a5,b5,r5,s5,pw⟩:=Pair.open hr1
   have q0:=ha1 0 _ rfl
   have q1:=ha1 1 _ rfl
   have q2:=ha1 2 _ rfl
   have q3:=ha1 3 _ rfl
   have q4:=ha1 4 _ rfl
   have q5:=ha1 5 _ rfl
   have q6:=ha1 6 _ rfl
   have q7:=ha1 7 _ rfl
   have q8:=ha1 8 _ rfl
   have q9:=ha1 9 _ rfl
   have q10:=ha1 10 _ rfl
   have q11:=ha1 11 _ rfl
   have q12:=ha1 12 _ rfl
   have q13:=ha1 13 _ rfl
   have q14:=ha1 14 _ rfl
   have q15:=ha1 15 _ rfl
   simp only [show Lay.n Pair=16 from rfl,Nat.add_zero] at q0 q1 q2 q3 q4 q5 q6 q7 q8 q9 q10 q11 q12 q13 q14 q15
   have hse:Mk.sz xs[k]=xs[k].sz:=rfl
   rw [hse] at hsu
   have HS:=zd hsu; clear hsu hse hle ha1 he1
   go_wp2_with (fail)
   refine (sz_Pair xs[k] _ (Pair.cs xs[k] A0 k0 A1 k1 A2 k2 A3 k3 A4 k4 A5 k5) _ _ (Lay.later hr2.out zz4) zz13 zz13).mono ?_
   rintro e1 w1 ⟨⟨n1,rfl,hn1⟩,hb1⟩
   have hB1:Below w.heap.size w w1:=by have zh:=hb; refine Below.trans ?_ (hb1.mono ?_) <;> exact zz14
   rcases hn1 with ⟨rfl,hn1⟩ | ⟨rfl,hn1⟩
   ·go_wp2
    go_ret; refine ⟨⟨_,rfl,?_⟩,hB1⟩; have:=HS.out; have:=HA.out; have:=szT_le xs (k+1); exact .inl ⟨rfl,zz13⟩
   ·go_wp2
    go_roundw
    case rel => exact ⟨k+1,zz13,by go_num,by rw [HS.out]; congr 1; omega,by rw [HS.out]; omega,hB1⟩
    case measure => simp [intOf]; omega
  ·have hke:k=xs.length:=by omega
   go_wp2
   go_ret; refine ⟨⟨_,rfl,?_⟩,hb⟩; have:=HA.out; subst hke; exact .inr ⟨zz13,zz13⟩
theorem sz_Auditor (x:Auditor) (w:World) (cs:List Value) (S:Blks) (left:Int) (hx:rd false w cs x S) (h0:0≤left) (h1:left≤1048576) :
  Calls Tryz.prog 207 #[.agg cs.toArray,.int .i64 left] w fun e w' => (∃ n,e = .returned (.int .i64 n)∧SzR n left x.sz)∧Below w.heap.size w w':=by
 obtain ⟨A0,k0,S0,A1,k1,S1,A2,k2,S2,A3,k3,S3,rfl,f0,a0,b0,r0,s0,a1,b1,r1,s1,a2,b2,r2,s2,a3,b3,r3,s3,pw⟩:=Auditor.open hx
 clear hx
 simp only [Auditor.cs]
 go_enter Tryz.func207,Tryz.ntmps207
 go_wp2_with (fail)
 try any_goals (go_ret; refine ⟨⟨_,rfl,?_⟩,zz4⟩; first | exact .inl ⟨rfl,by (try simp only [Auditor.sz]) <;> omega⟩ | exact .inr ⟨by (try simp only [Auditor.sz]) <;> omega,by (try simp only [Auditor.sz]) <;> omega⟩)
 refine (sz_Disk x.disk _ _ _ _ (Disk.mk' (m:=false) (S:=S) a0 b0 (r0.later zz4) s0) zz13 zz13).mono ?_
 rintro e1 w1 ⟨⟨n1,rfl,hn1⟩,hb1⟩
 have hB1:Below w.heap.size w w1:=by refine Below.trans (b:=_) ?_ (hb1.mono ?_) <;> exact zz8
 have hz1:w.heap.size+1≤w1.heap.size:=zz23
 have hc1:=fun o => hb1.cell (p:=⟨w.heap.size,o,none⟩) zz0
 rcases hn1 with ⟨rfl,hn1⟩ | ⟨rfl,hn1⟩
 ·go_wp2_with (fail)
  (go_ret; refine ⟨⟨_,rfl,?_⟩,by have zh:=hB1; exact zz1⟩; first | exact .inl ⟨rfl,by (try simp only [Auditor.sz]) <;> omega⟩ | exact .inr ⟨by (try simp only [Auditor.sz]) <;> omega,by (try simp only [Auditor.sz]) <;> omega⟩)
 go_wp2_with (fail)
 try any_goals (go_ret; refine ⟨⟨_,rfl,?_⟩,by have zh:=hB1; exact zz1⟩; first | exact .inl ⟨rfl,by (try simp only [Auditor.sz]) <;> omega⟩ | exact .inr ⟨by (try simp only [Auditor.sz]) <;> omega,by (try simp only [Auditor.sz]) <;> omega⟩)
 refine (sz_StringS x.pool _ _ _ _ _ (r1.later (by have zh:=hB1; exact zz1)) (Nat.le_trans a1 b1) zz13 zz13).mono ?_
 rintro e2 w2 ⟨⟨n2,rfl,hn2⟩,hb2⟩
 have hB2:Below w.heap.size w w2:=by have zh:=hB1; refine Below.trans (b:=_) ?_ (hb2.mono ?_) <;> exact zz6
 have hz2:w.heap.size+1≤w2.heap.size:=zz45
 have hc2:=fun o => hb2.cell (p:=⟨w.heap.size,o,none⟩) zz0
 rcases hn2 with ⟨rfl,hn2⟩ | ⟨rfl,hn2⟩
 ·go_wp2_with (fail)
  (go_ret; refine ⟨⟨_,rfl,?_⟩,by have zh:=hB2; exact zz1⟩; first | exact .inl ⟨rfl,by (try simp only [Auditor.sz]) <;> omega⟩ | exact .inr ⟨by (try simp only [Auditor.sz]) <;> omega,by (try simp only [Auditor.sz]) <;> omega⟩)
 go_wp2_with (fail)
 try any_goals (go_ret; refine ⟨⟨_,rfl,?_⟩,by have zh:=hB2; exact zz1⟩; first | exact .inl ⟨rfl,by (try simp only [Auditor.sz]) <;> omega⟩ | exact .inr ⟨by (try simp only [Auditor.sz]) <;> omega,by (try simp only [Auditor.sz]) <;> omega⟩)
 refine (sz_SealS x.pins _ _ _ _ _ (r2.later (by have zh:=hB2; exact zz1)) (Nat.le_trans a2 b2) zz13 zz13).mono ?_
 rintro e3 w3 ⟨⟨n3,rfl,hn3⟩,hb3⟩
 have hB3:Below w.heap.size w w3:=by have zh:=hB2; refine Below.trans (b:=_) ?_ (hb3.mono ?_) <;> exact zz6
 have hz3:w.heap.size+1≤w3.heap.size:=zz55
 have hc3:=fun o => hb3.cell (p:=⟨w.heap.size,o,none⟩) zz0
 rcases hn3 with ⟨rfl,hn3⟩ | ⟨rfl,hn3⟩
 ·go_wp2_with (fail)
  (go_ret; refine ⟨⟨_,rfl,?_⟩,by have zh:=hB3; exact zz1⟩; first | exact .inl ⟨rfl,by (try simp only [Auditor.sz]) <;> omega⟩ | exact .inr ⟨by (try simp only [Auditor.sz]) <;> omega,by (try simp only [Auditor.sz]) <;> omega⟩)
 go_wp2_with (fail)
 try any_goals (go_ret; refine ⟨⟨_,rfl,?_⟩,by have zh:=hB3; exact zz1⟩; first | exact .inl ⟨rfl,by (try simp only [Auditor.sz]) <;> omega⟩ | exact .inr ⟨by (try simp only [Auditor.sz]) <;> omega,by (try simp only [Auditor.sz]) <;> omega⟩)
 refine (sz_PairS x.pairs _ _ _ _ _ (r3.later (by have zh:=hB3; exact zz1)) (Nat.le_trans a3 b3) zz13 zz13).mono ?_
 rintro e4 w4 ⟨⟨n4,rfl,hn4⟩,hb4⟩
 have hB4:Below w.heap.size w w4:=by have zh:=hB3; refine Below.trans (b:=_) ?_ (hb4.mono ?_) <;> exact zz6
 have hz4:w.heap.size+1≤w4.heap.size:=zz57
 have hc4:=fun o => hb4.cell (p:=⟨w.heap.size,o,none⟩) zz0
 rcases hn4 with ⟨rfl,hn4⟩ | ⟨rfl,hn4⟩
 ·go_wp2_with (fail)
  (go_ret; refine ⟨⟨_,rfl,?_⟩,by have zh:=hB4; exact zz1⟩; first | exact .inl ⟨rfl,by (try simp only [Auditor.sz]) <;> omega⟩ | exact .inr ⟨by (try simp only [Auditor.sz]) <;> omega,by (try simp only [Auditor.sz]) <;> omega⟩)
 go_wp2_with (fail)
 all_goals (go_ret; refine ⟨⟨_,rfl,?_⟩,by have zh:=hB4; exact zz1⟩; first | exact .inl ⟨rfl,by (try simp only [Auditor.sz]) <;> omega⟩ | exact .inr ⟨by (try simp only [Auditor.sz]) <;> omega,by (try simp only [Auditor.sz]) <;> omega⟩)
theorem sz_AuditorS (xs:List Auditor) (w:World) (A:Option Addr) (cap:Nat) (S:Blks) (left:Int) (hx:Row false w A cap xs S) (hl:xs.length≤maxLen) (h0:0≤left) (h1:left≤1048576) :
  Calls Tryz.prog 120 #[.slice A xs.length cap,.int .i64 left] w fun e w' => (∃ n,e = .returned (.int .i64 n)∧SzR n left (szL xs))∧Below w.heap.size w w':=by
 unfold maxLen at hl
 have hall:=szT_all xs
 go_enter Tryz.func120,Tryz.ntmps120
 go_wp2_with (fail)
 ·go_ret; refine ⟨⟨_,rfl,?_⟩,Below.refl _ _⟩; have:=szT_le xs 0; exact .inl ⟨rfl,zz13⟩
 have HA:=zd hall; clear hall
 go_loopw [1,5] (fun l i wr => ∃ k:Nat,k≤xs.length∧i = .int .i64 k∧l = .int .i64 (left - xs.length - (szT xs k:Int))∧0≤left - xs.length - (szT xs k:Int)∧Below w.heap.size w wr) (fun _ i _ => xs.length - (intOf i).toNat)
 case atStart => exact ⟨0,Nat.zero_le _,rfl,by rw [szT_zero]; simp,by rw [szT_zero]; omega,Below.refl _ _⟩
 case round =>
  obtain ⟨k,hk,rfl,rfl,hpos,hb⟩:=hrel
  have hz:=hb.size
  by_cases hlt:k<xs.length
  ·have hne:xs≠[]:=by rintro rfl; simp at hlt
   obtain ⟨b1,o1,rfl,hS,T1,hT1,_,he1⟩:=hx hne
   obtain ⟨c1,ha1,hr1⟩:=he1 k hlt
   have hl1:=ha1.lt zz28
   replace ha1:=ha1.keep (hb.block _ hl1)
   replace hr1:=Lay.later hr1 hb
   have hsu:=szT_succ xs k hlt
   have hle:=szT_le xs (k+1)
   have hr2:=zd hr1
   obtain ⟨A0,k0,S0,A1,k1,S1,A2,k2,S2,A3,k3,S3,rfl,f0,a0,b0,r0,s0,a1,b1,r1,s1,a2,b2,r2,s2,a3,b3,r3,s3,pw⟩:=Auditor.open hr1
   have q0:=ha1 0 _ rfl
   have q1:=ha1 1 _ rfl
   have q2:=ha1 2 _ rfl
   have q3:=ha1 3 _ rfl
   have q4:=ha1 4 _ rfl
   have q5:=ha1 5 _ rfl
   simp only [show Lay.n Auditor=6 from rfl,Nat.add_zero] at q0 q1 q2 q3 q4 q5
   have hse:Mk.sz xs[k]=xs[k].sz:=rfl
   rw [hse] at hsu
   have HS:=zd hsu; clear hsu hse hle ha1 he1
   go_wp2_with (fail)
   refine (sz_Auditor xs[k] _ (Auditor.cs xs[k] A0 k0 A1 k1 A2 k2 A3 k3) _ _ (Lay.later hr2.out zz4) zz13 zz13).mono ?_
   rintro e1 w1 ⟨⟨n1,rfl,hn1⟩,hb1⟩
   have hB1:Below w.heap.size w w1:=by have zh:=hb; refine Below.trans ?_ (hb1.mono ?_) <;> exact zz14
   rcases hn1 with ⟨rfl,hn1⟩ | ⟨rfl,hn1⟩
   ·go_wp2
    go_ret; refine ⟨⟨_,rfl,?_⟩,hB1⟩; have:=HS.out; have:=HA.out; have:=szT_le xs (k+1); exact .inl ⟨rfl,zz13⟩
   ·go_wp2
    go_roundw
    case rel => exact ⟨k+1,zz13,by go_num,by rw [HS.out]; congr 1; omega,by rw [HS.out]; omega,hB1⟩
    case measure => simp [intOf]; omega
  ·have hke:k=xs.length:=by omega
   go_wp2
   go_ret; refine ⟨⟨_,rfl,?_⟩,hb⟩; have:=HA.out; subst hke; exact .inr ⟨zz13,zz13⟩
theorem sz_Note (x:Note) (w:World) (cs:List Value) (S:Blks) (left:Int) (hx:rd false w cs x S) (h0:0≤left) (h1:left≤1048576) :
  Calls Tryz.prog 208 #[.agg cs.toArray,.int .i64 left] w fun e w' => (∃ n,e = .returned (.int .i64 n)∧SzR n left x.sz)∧Below w.heap.size w w':=by
 obtain ⟨rfl,f0,f1⟩:=Note.open hx
 clear hx
 unfold maxLen at f1
 simp only [Note.cs]
 go_enter Tryz.func208,Tryz.ntmps208
 go_wp2_with (fail)
 all_goals (go_ret; refine ⟨⟨_,rfl,?_⟩,zz4⟩; first | exact .inl ⟨rfl,by (try simp only [Note.sz]) <;> omega⟩ | exact .inr ⟨by (try simp only [Note.sz]) <;> omega,by (try simp only [Note.sz]) <;> omega⟩)
theorem sz_NoteS (xs:List Note) (w:World) (A:Option Addr) (cap:Nat) (S:Blks) (left:Int) (hx:Row false w A cap xs S) (hl:xs.length≤maxLen) (h0:0≤left) (h1:left≤1048576) :
  Calls Tryz.prog 121 #[.slice A xs.length cap,.int .i64 left] w fun e w' => (∃ n,e = .returned (.int .i64 n)∧SzR n left (szL xs))∧Below w.heap.size w w':=by
 unfold maxLen at hl
 have hall:=szT_all xs
 go_enter Tryz.func121,Tryz.ntmps121
 go_wp2_with (fail)
 ·go_ret; refine ⟨⟨_,rfl,?_⟩,Below.refl _ _⟩; have:=szT_le xs 0; exact .inl ⟨rfl,zz13⟩
 have HA:=zd hall; clear hall
 go_loopw [1,5] (fun l i wr => ∃ k:Nat,k≤xs.length∧i = .int .i64 k∧l = .int .i64 (left - xs.length - (szT xs k:Int))∧0≤left - xs.length - (szT xs k:Int)∧Below w.heap.size w wr) (fun _ i _ => xs.length - (intOf i).toNat)
 case atStart => exact ⟨0,Nat.zero_le _,rfl,by rw [szT_zero]; simp,by rw [szT_zero]; omega,Below.refl _ _⟩
 case round =>
  obtain ⟨k,hk,rfl,rfl,hpos,hb⟩:=hrel
  have hz:=hb.size
  by_cases hlt:k<xs.length
  ·have hne:xs≠[]:=by rintro rfl; simp at hlt
   obtain ⟨b1,o1,rfl,hS,T1,hT1,_,he1⟩:=hx hne
   obtain ⟨c1,ha1,hr1⟩:=he1 k hlt
   have hl1:=ha1.lt zz28
   replace ha1:=ha1.keep (hb.block _ hl1)
   replace hr1:=Lay.later hr1 hb
   have hsu:=szT_succ xs k hlt
   have hle:=szT_le xs (k+1)
   have hr2:=zd hr1
   obtain ⟨rfl,f0,f1⟩:=Note.open hr1
   have q0:=ha1 0 _ rfl
   have q1:=ha1 1 _ rfl
   simp only [show Lay.n Note=2 from rfl,Nat.add_zero] at q0 q1
   have hse:Mk.sz xs[k]=xs[k].sz:=rfl
   rw [hse] at hsu
   have HS:=zd hsu; clear hsu hse hle ha1 he1
   go_wp2_with (fail)
   refine (sz_Note xs[k] _ (Note.cs xs[k]) _ _ (Lay.later hr2.out zz4) zz13 zz13).mono ?_
   rintro e1 w1 ⟨⟨n1,rfl,hn1⟩,hb1⟩
   have hB1:Below w.heap.size w w1:=by have zh:=hb; refine Below.trans ?_ (hb1.mono ?_) <;> exact zz14
   rcases hn1 with ⟨rfl,hn1⟩ | ⟨rfl,hn1⟩
   ·go_wp2
    go_ret; refine ⟨⟨_,rfl,?_⟩,hB1⟩; have:=HS.out; have:=HA.out; have:=szT_le xs (k+1); exact .inl ⟨rfl,zz13⟩
   ·go_wp2
    go_roundw
    case rel => exact ⟨k+1,zz13,by go_num,by rw [HS.out]; congr 1; omega,by rw [HS.out]; omega,hB1⟩
    case measure => simp [intOf]; omega
  ·have hke:k=xs.length:=by omega
   go_wp2
   go_ret; refine ⟨⟨_,rfl,?_⟩,hb⟩; have:=HA.out; subst hke; exact .inr ⟨zz13,zz13⟩
theorem sz_Given (x:Given) (w:World) (cs:List Value) (S:Blks) (left:Int) (hx:rd false w cs x S) (h0:0≤left) (h1:left≤1048576) :
  Calls Tryz.prog 209 #[.agg cs.toArray,.int .i64 left] w fun e w' => (∃ n,e = .returned (.int .i64 n)∧SzR n left x.sz)∧Below w.heap.size w w':=by
 obtain ⟨A0,k0,S0,A1,k1,S1,A2,k2,S2,rfl,f0,f1,f2,f3,a0,b0,r0,s0,a1,b1,r1,s1,a2,b2,r2,s2,pw⟩:=Given.open hx
 clear hx
 simp only [Given.cs]
 go_enter Tryz.func209,Tryz.ntmps209
 go_wp2_with (fail)
 try any_goals (go_ret; refine ⟨⟨_,rfl,?_⟩,zz4⟩; first | exact .inl ⟨rfl,by (try simp only [Given.sz]) <;> omega⟩ | exact .inr ⟨by (try simp only [Given.sz]) <;> omega,by (try simp only [Given.sz]) <;> omega⟩)
 refine (sz_Stamp x.stamp _ _ _ _ (Stamp.mk' (m:=false) (S:=S) f2 f3 a0 b0 (r0.later zz4) s0 a1 b1 (r1.later zz4) s1 a2 b2 (r2.later zz4) s2 zz30) zz13 zz13).mono ?_
 rintro e1 w1 ⟨⟨n1,rfl,hn1⟩,hb1⟩
 have hB1:Below w.heap.size w w1:=by refine Below.trans (b:=_) ?_ (hb1.mono ?_) <;> exact zz8
 have hz1:w.heap.size+1≤w1.heap.size:=zz23
 have hc1:=fun o => hb1.cell (p:=⟨w.heap.size,o,none⟩) zz0
 rcases hn1 with ⟨rfl,hn1⟩ | ⟨rfl,hn1⟩
 ·go_wp2_with (fail)
  (go_ret; refine ⟨⟨_,rfl,?_⟩,by have zh:=hB1; exact zz1⟩; first | exact .inl ⟨rfl,by (try simp only [Given.sz]) <;> omega⟩ | exact .inr ⟨by (try simp only [Given.sz]) <;> omega,by (try simp only [Given.sz]) <;> omega⟩)
 go_wp2_with (fail)
 all_goals (go_ret; refine ⟨⟨_,rfl,?_⟩,by have zh:=hB1; exact zz1⟩; first | exact .inl ⟨rfl,by (try simp only [Given.sz]) <;> omega⟩ | exact .inr ⟨by (try simp only [Given.sz]) <;> omega,by (try simp only [Given.sz]) <;> omega⟩)
theorem sz_GivenS (xs:List Given) (w:World) (A:Option Addr) (cap:Nat) (S:Blks) (left:Int) (hx:Row false w A cap xs S) (hl:xs.length≤maxLen) (h0:0≤left) (h1:left≤1048576) :
  Calls Tryz.prog 122 #[.slice A xs.length cap,.int .i64 left] w fun e w' => (∃ n,e = .returned (.int .i64 n)∧SzR n left (szL xs))∧Below w.heap.size w w':=by
 unfold maxLen at hl
 have hall:=szT_all xs
 go_enter Tryz.func122,Tryz.ntmps122
 go_wp2_with (fail)
 ·go_ret; refine ⟨⟨_,rfl,?_⟩,Below.refl _ _⟩; have:=szT_le xs 0; exact .inl ⟨rfl,zz13⟩
 have HA:=zd hall; clear hall
 go_loopw [1,5] (fun l i wr => ∃ k:Nat,k≤xs.length∧i = .int .i64 k∧l = .int .i64 (left - xs.length - (szT xs k:Int))∧0≤left - xs.length - (szT xs k:Int)∧Below w.heap.size w wr) (fun _ i _ => xs.length - (intOf i).toNat)
 case atStart => exact ⟨0,Nat.zero_le _,rfl,by rw [szT_zero]; simp,by rw [szT_zero]; omega,Below.refl _ _⟩
 case round =>
  obtain ⟨k,hk,rfl,rfl,hpos,hb⟩:=hrel
  have hz:=hb.size
  by_cases hlt:k<xs.length
  ·have hne:xs≠[]:=by rintro rfl; simp at hlt
   obtain ⟨b1,o1,rfl,hS,T1,hT1,_,he1⟩:=hx hne
   obtain ⟨c1,ha1,hr1⟩:=he1 k hlt
   have hl1:=ha1.lt zz28
   replace ha1:=ha1.keep (hb.block _ hl1)
   replace hr1:=Lay.later hr1 hb
   have hsu:=szT_succ xs k hlt
   have hle:=szT_le xs (k+1)
   have hr2:=zd hr1
   obtain ⟨A0,k0,S0,A1,k1,S1,A2,k2,S2,rfl,f0,f1,f2,f3,a0,b0,r0,s0,a1,b1,r1,s1,a2,b2,r2,s2,pw⟩:=Given.open hr1
   have q0:=ha1 0 _ rfl
   have q1:=ha1 1 _ rfl
   have q2:=ha1 2 _ rfl
   have q3:=ha1 3 _ rfl
   have q4:=ha1 4 _ rfl
   have q5:=ha1 5 _ rfl
   have q6:=ha1 6 _ rfl
   simp only [show Lay.n Given=7 from rfl,Nat.add_zero] at q0 q1 q2 q3 q4 q5 q6
   have hse:Mk.sz xs[k]=xs[k].sz:=rfl
   rw [hse] at hsu
   have HS:=zd hsu; clear hsu hse hle ha1 he1
   go_wp2_with (fail)
   refine (sz_Given xs[k] _ (Given.cs xs[k] A0 k0 A1 k1 A2 k2) _ _ (Lay.later hr2.out zz4) zz13 zz13).mono ?_
   rintro e1 w1 ⟨⟨n1,rfl,hn1⟩,hb1⟩
   have hB1:Below w.heap.size w w1:=by have zh:=hb; refine Below.trans ?_ (hb1.mono ?_) <;> exact zz14
   rcases hn1 with ⟨rfl,hn1⟩ | ⟨rfl,hn1⟩
   ·go_wp2
    go_ret; refine ⟨⟨_,rfl,?_⟩,hB1⟩; have:=HS.out; have:=HA.out; have:=szT_le xs (k+1); exact .inl ⟨rfl,zz13⟩
   ·go_wp2
    go_roundw
    case rel => exact ⟨k+1,zz13,by go_num,by rw [HS.out]; congr 1; omega,by rw [HS.out]; omega,hB1⟩
    case measure => simp [intOf]; omega
  ·have hke:k=xs.length:=by omega
   go_wp2
   go_ret; refine ⟨⟨_,rfl,?_⟩,hb⟩; have:=HA.out; subst hke; exact .inr ⟨zz13,zz13⟩
theorem sz_Wrld (x:Wrld) (w:World) (cs:List Value) (S:Blks) (left:Int) (hx:rd false w cs x S) (h0:0≤left) (h1:left≤1048576) :
  Calls Tryz.prog 46 #[.agg cs.toArray,.int .i64 left] w fun e w' => (∃ n,e = .returned (.int .i64 n)∧SzR n left x.sz)∧Below w.heap.size w w':=by
 obtain ⟨A0,k0,S0,A1,k1,S1,A2,k2,S2,A3,k3,S3,A4,k4,S4,A5,k5,S5,rfl,a0,b0,r0,s0,a1,b1,r1,s1,a2,b2,r2,s2,a3,b3,r3,s3,a4,b4,r4,s4,a5,b5,r5,s5,pw⟩:=Wrld.open hx
 clear hx
 simp only [Wrld.cs]
 go_enter Tryz.func46,Tryz.ntmps46
 go_wp2_with (fail)
 try any_goals (go_ret; refine ⟨⟨_,rfl,?_⟩,zz4⟩; first | exact .inl ⟨rfl,by (try simp only [Wrld.sz]) <;> omega⟩ | exact .inr ⟨by (try simp only [Wrld.sz]) <;> omega,by (try simp only [Wrld.sz]) <;> omega⟩)
 refine (sz_HouseS x.houses _ _ _ _ _ (r0.later zz4) (Nat.le_trans a0 b0) zz13 zz13).mono ?_
 rintro e1 w1 ⟨⟨n1,rfl,hn1⟩,hb1⟩
 have hB1:Below w.heap.size w w1:=by refine Below.trans (b:=_) ?_ (hb1.mono ?_) <;> exact zz8
 have hz1:w.heap.size+1≤w1.heap.size:=zz23
 have hc1:=fun o => hb1.cell (p:=⟨w.heap.size,o,none⟩) zz0
 rcases hn1 with ⟨rfl,hn1⟩ | ⟨rfl,hn1⟩
 ·go_wp2_with (fail)
  (go_ret; refine ⟨⟨_,rfl,?_⟩,by have zh:=hB1; exact zz1⟩; first | exact .inl ⟨rfl,by (try simp only [Wrld.sz]) <;> omega⟩ | exact .inr ⟨by (try simp only [Wrld.sz]) <;> omega,by (try simp only [Wrld.sz]) <;> omega⟩)
 go_wp2_with (fail)
 try any_goals (go_ret; refine ⟨⟨_,rfl,?_⟩,by have zh:=hB1; exact zz1⟩; first | exact .inl ⟨rfl,by (try simp only [Wrld.sz]) <;> omega⟩ | exact .inr ⟨by (try simp only [Wrld.sz]) <;> omega,by (try simp only [Wrld.sz]) <;> omega⟩)
 refine (sz_AuditorS x.auditors _ _ _ _ _ (r1.later (by have zh:=hB1; exact zz1)) (Nat.le_trans a1 b1) zz13 zz13).mono ?_
 rintro e2 w2 ⟨⟨n2,rfl,hn2⟩,hb2⟩
 have hB2:Below w.heap.size w w2:=by have zh:=hB1; refine Below.trans (b:=_) ?_ (hb2.mono ?_) <;> exact zz6
 have hz2:w.heap.size+1≤w2.heap.size:=zz45
 have hc2:=fun o => hb2.cell (p:=⟨w.heap.size,o,none⟩) zz0
 rcases hn2 with ⟨rfl,hn2⟩ | ⟨rfl,hn2⟩
 ·go_wp2_with (fail)
  (go_ret; refine ⟨⟨_,rfl,?_⟩,by have zh:=hB2; exact zz1⟩; first | exact .inl ⟨rfl,by (try simp only [Wrld.sz]) <;> omega⟩ | exact .inr ⟨by (try simp only [Wrld.sz]) <;> omega,by (try simp only [Wrld.sz]) <;> omega⟩)
 go_wp2_with (fail)
 try any_goals (go_ret; refine ⟨⟨_,rfl,?_⟩,by have zh:=hB2; exact zz1⟩; first | exact .inl ⟨rfl,by (try simp only [Wrld.sz]) <;> omega⟩ | exact .inr ⟨by (try simp only [Wrld.sz]) <;> omega,by (try simp only [Wrld.sz]) <;> omega⟩)
 refine (sz_NoteS x.notes _ _ _ _ _ (r2.later (by have zh:=hB2; exact zz1)) (Nat.le_trans a2 b2) zz13 zz13).mono ?_
 rintro e3 w3 ⟨⟨n3,rfl,hn3⟩,hb3⟩
 have hB3:Below w.heap.size w w3:=by have zh:=hB2; refine Below.trans (b:=_) ?_ (hb3.mono ?_) <;> exact zz6
 have hz3:w.heap.size+1≤w3.heap.size:=zz55
 have hc3:=fun o => hb3.cell (p:=⟨w.heap.size,o,none⟩) zz0
 rcases hn3 with ⟨rfl,hn3⟩ | ⟨rfl,hn3⟩
 ·go_wp2_with (fail)
  (go_ret; refine ⟨⟨_,rfl,?_⟩,by have zh:=hB3; exact zz1⟩; first | exact .inl ⟨rfl,by (try simp only [Wrld.sz]) <;> omega⟩ | exact .inr ⟨by (try simp only [Wrld.sz]) <;> omega,by (try simp only [Wrld.sz]) <;> omega⟩)
 go_wp2_with (fail)
 try any_goals (go_ret; refine ⟨⟨_,rfl,?_⟩,by have zh:=hB3; exact zz1⟩; first | exact .inl ⟨rfl,by (try simp only [Wrld.sz]) <;> omega⟩ | exact .inr ⟨by (try simp only [Wrld.sz]) <;> omega,by (try simp only [Wrld.sz]) <;> omega⟩)
 refine (sz_GivenS x.given _ _ _ _ _ (r3.later (by have zh:=hB3; exact zz1)) (Nat.le_trans a3 b3) zz13 zz13).mono ?_
 rintro e4 w4 ⟨⟨n4,rfl,hn4⟩,hb4⟩
 have hB4:Below w.heap.size w w4:=by have zh:=hB3; refine Below.trans (b:=_) ?_ (hb4.mono ?_) <;> exact zz6
 have hz4:w.heap.size+1≤w4.heap.size:=zz57
 have hc4:=fun o => hb4.cell (p:=⟨w.heap.size,o,none⟩) zz0
 rcases hn4 with ⟨rfl,hn4⟩ | ⟨rfl,hn4⟩
 ·go_wp2_with (fail)
  (go_ret; refine ⟨⟨_,rfl,?_⟩,by have zh:=hB4; exact zz1⟩; first | exact .inl ⟨rfl,by (try simp only [Wrld.sz]) <;> omega⟩ | exact .inr ⟨by (try simp only [Wrld.sz]) <;> omega,by (try simp only [Wrld.sz]) <;> omega⟩)
 go_wp2_with (fail)
 try any_goals (go_ret; refine ⟨⟨_,rfl,?_⟩,by have zh:=hB4; exact zz1⟩; first | exact .inl ⟨rfl,by (try simp only [Wrld.sz]) <;> omega⟩ | exact .inr ⟨by (try simp only [Wrld.sz]) <;> omega,by (try simp only [Wrld.sz]) <;> omega⟩)
 refine (sz_BoolS x.evil _ _ _ _ _ (r4.later (by have zh:=hB4; exact zz1)) (Nat.le_trans a4 b4) zz13 zz13).mono ?_
 rintro e5 w5 ⟨⟨n5,rfl,hn5⟩,hb5⟩
 have hB5:Below w.heap.size w w5:=by have zh:=hB4; refine Below.trans (b:=_) ?_ (hb5.mono ?_) <;> exact zz6
 have hz5:w.heap.size+1≤w5.heap.size:=zz78
 have hc5:=fun o => hb5.cell (p:=⟨w.heap.size,o,none⟩) zz0
 rcases hn5 with ⟨rfl,hn5⟩ | ⟨rfl,hn5⟩
 ·go_wp2_with (fail)
  (go_ret; refine ⟨⟨_,rfl,?_⟩,by have zh:=hB5; exact zz1⟩; first | exact .inl ⟨rfl,by (try simp only [Wrld.sz]) <;> omega⟩ | exact .inr ⟨by (try simp only [Wrld.sz]) <;> omega,by (try simp only [Wrld.sz]) <;> omega⟩)
 go_wp2_with (fail)
 try any_goals (go_ret; refine ⟨⟨_,rfl,?_⟩,by have zh:=hB5; exact zz1⟩; first | exact .inl ⟨rfl,by (try simp only [Wrld.sz]) <;> omega⟩ | exact .inr ⟨by (try simp only [Wrld.sz]) <;> omega,by (try simp only [Wrld.sz]) <;> omega⟩)
 refine (sz_IntS x.codes _ _ _ _ _ (r5.later (by have zh:=hB5; exact zz1)) (Nat.le_trans a5 b5) zz13 zz13).mono ?_
 rintro e6 w6 ⟨⟨n6,rfl,hn6⟩,hb6⟩
 have hB6:Below w.heap.size w w6:=by have zh:=hB5; refine Below.trans (b:=_) ?_ (hb6.mono ?_) <;> exact zz6
 have hz6:w.heap.size+1≤w6.heap.size:=by have:=hb6.size; (try simp at this); omega
 have hc6:=fun o => hb6.cell (p:=⟨w.heap.size,o,none⟩) zz0
 rcases hn6 with ⟨rfl,hn6⟩ | ⟨rfl,hn6⟩
 ·go_wp2_with (fail)
  (go_ret; refine ⟨⟨_,rfl,?_⟩,by have zh:=hB6; exact zz1⟩; first | exact .inl ⟨rfl,by (try simp only [Wrld.sz]) <;> omega⟩ | exact .inr ⟨by (try simp only [Wrld.sz]) <;> omega,by (try simp only [Wrld.sz]) <;> omega⟩)
 go_wp2_with (fail)
 all_goals (go_ret; refine ⟨⟨_,rfl,?_⟩,by have zh:=hB6; exact zz1⟩; first | exact .inl ⟨rfl,by (try simp only [Wrld.sz]) <;> omega⟩ | exact .inr ⟨by (try simp only [Wrld.sz]) <;> omega,by (try simp only [Wrld.sz]) <;> omega⟩)
end Go.Proofs.YtcbbjfafmmcfiaaGreatDoor
