/- A part of the proof. -/
import Derived.Test.YtcbbjfafmmcfiaaGreatDoorHAqNz
set_option linter.unusedVariables false
set_option linter.unusedSimpArgs false
set_option maxRecDepth 20000
set_option maxHeartbeats 8000000
namespace Go.Proofs.YtcbbjfafmmcfiaaGreatDoor
open Go.RowKit Lay Mk
theorem nodeHash_no {xs:List Leaf} {lv pl n:Int} (h:leavesOk xs=false):nodeHash xs lv pl n=⟨#[]⟩:=by unfold nodeHash; rw [h]; rfl
theorem nodeHash_out {xs:List Leaf} {lv pl n:Int} (h:inB pl 0 (2 ^ lv.toNat - 1)=false):nodeHash xs lv pl n=⟨#[]⟩:=by unfold nodeHash; rw [h]; simp
theorem nodeHash_le (xs:List Leaf) (lv pl n:Int):(nodeHash xs lv pl n).size≤32:=by
 unfold nodeHash
 split
 ·exact node_le _ _ _ _
 ·exact Nat.zero_le _
theorem shardRoot_le (xs:List Leaf) (k s n:Int):(shardRoot xs k s n).size≤32:=by
 unfold shardRoot
 split
 ·exact nodeHash_le _ _ _ _
 ·exact Nat.zero_le _
theorem impl_NodeHash0 (w:World) (xs:List Leaf) (A:Option Addr) (cap:Nat) (S:Blks) (hx:Row false w A cap xs S) (hl:xs.length≤1048576) (hz:szL xs≤1048576) (pl:Int) (hT:Tabs w):Calls Tryz.prog 219 #[.slice A xs.length cap,.int .i64 0,.int .i64 pl,.int .i64 16] w fun e w' => e = .returned (.string (nodeHash xs 0 pl 16))∧Below w.heap.size w w':=by
 have HT:=zd hT
 clear hT
 have HLV:=zd (impl_LeavesOk w xs A cap S hx zz13)
 have HI0:=zd (fun W => impl_in 0 0 8 W)
 rw [show inB (0:Int) 0 8=true from rfl] at HI0
 have HI1:=zd (fun W => impl_in pl 0 0 W)
 have HIW:=zd (fun W => impl_isWide 16 W)
 rw [show inB (16:Int) 1 32=true from rfl] at HIW
 cases h1:leavesOk xs <;> rw [h1] at HLV
 ·have HE:=zd (nodeHash_no (lv:=0) (pl:=pl) (n:=16) h1)
  clear h1
  go_enter Tryz.func219,Tryz.ntmps219
  go_wp2_with (fail)
  refine HLV.out.mono ?_
  rintro e1 w1 ⟨rfl,hb1⟩
  have HB1:=zd hb1
  clear hb1
  go_wp2_with (first | (go_at_call 70; with_reducible refine (HI0.out _).mono ?_; rintro e2 w2 ⟨rfl,rfl⟩) | (go_at_call 70; with_reducible refine (HI1.out _).mono ?_; rintro e3 w3 ⟨rfl,rfl⟩) | (go_at_call 168; with_reducible refine (HIW.out _).mono ?_; rintro e4 w4 ⟨rfl,rfl⟩))
  go_ret
  exact ⟨ret_str zz58,HB1.out⟩
 cases h3:inB pl 0 0 <;> rw [h3] at HI1
 ·have HE:=zd (nodeHash_out (xs:=xs) (lv:=0) (n:=16) (pl:=pl) h3)
  clear h1 h3
  go_enter Tryz.func219,Tryz.ntmps219
  go_wp2_with (fail)
  refine HLV.out.mono ?_
  rintro e1 w1 ⟨rfl,hb1⟩
  have HB1:=zd hb1
  clear hb1
  go_wp2_with (first | (go_at_call 70; with_reducible refine (HI0.out _).mono ?_; rintro e2 w2 ⟨rfl,rfl⟩) | (go_at_call 70; with_reducible refine (HI1.out _).mono ?_; rintro e3 w3 ⟨rfl,rfl⟩) | (go_at_call 168; with_reducible refine (HIW.out _).mono ?_; rintro e4 w4 ⟨rfl,rfl⟩))
  go_ret
  exact ⟨ret_str zz58,HB1.out⟩
 have hp2:0≤pl∧pl≤0:=by simpa [inB] using h3
 obtain ⟨p,hp⟩:∃ p:Nat,pl=(p:Int):=⟨pl.toNat,zz13⟩
 have HE:Hid (nodeHash xs 0 pl 16=nodeD 16 8 p xs):=zd (by
  unfold nodeHash
  rw [show inB pl 0 (2 ^ (0:Int).toNat - 1)=true from h3,h1,hp]; rfl)
 subst hp
 have HOK:=zd h1
 have hpl:p<2 ^ (8 - 8):=by show p<1; omega
 have HGR:=zd (fun W (h:Below w.heap.size w W) => impl_newGrove W xs A cap S (Row.later hx h) hl hz 16 (HT.out.later h))
 have HND:=zd (fun W (h:Below w.heap.size w W) (A2:Option Addr) (c2:Nat) (S2:Blks) (hi:Row false W A2 c2 (ixs xs) S2) => (show Calls Tryz.prog 241 #[.agg #[.slice A xs.length cap,.slice A2 xs.length c2,.int .i64 16],.int .i64 0,.int .i64 (p:Int)] W fun e w' => e = .returned (.string (nodeD 16 8 p xs))∧Below W.heap.size W w' from impl_node 16 zz41 8 zz13 W p hpl xs A cap S (Row.later hx h) A2 c2 S2 hi hl (HT.out.later h)))
 clear h1 h3 hp2
 go_enter Tryz.func219,Tryz.ntmps219
 go_wp2_with (fail)
 refine HLV.out.mono ?_
 rintro e1 w1 ⟨rfl,hb1⟩
 have HB1:=zd hb1
 clear hb1
 go_wp2_with (first | (go_at_call 70; with_reducible refine (HI0.out _).mono ?_; rintro e2 w2 ⟨rfl,rfl⟩) | (go_at_call 70; with_reducible refine (HI1.out _).mono ?_; rintro e3 w3 ⟨rfl,rfl⟩) | (go_at_call 168; with_reducible refine (HIW.out _).mono ?_; rintro e4 w4 ⟨rfl,rfl⟩))
 refine (HGR.out _ HB1.out).mono ?_
 rintro e6 w6 ⟨A6,c6,rfl,o6⟩
 have HB6:=zd (HB1.out.trans (o6.bl.mono HB1.out.size))
 have O6:=zd o6
 clear o6
 go_wp2_with (fail)
 refine (HND.out _ HB6.out A6 c6 _ O6.out.weak).mono ?_
 rintro e7 w7 ⟨rfl,hb7⟩
 have HB7:=zd (HB6.out.trans (hb7.mono HB6.out.size))
 clear hb7
 go_wp2
 go_ret
 exact ⟨ret_str zz58,HB7.out⟩
theorem impl_NodeHash1 (w:World) (xs:List Leaf) (A:Option Addr) (cap:Nat) (S:Blks) (hx:Row false w A cap xs S) (hl:xs.length≤1048576) (hz:szL xs≤1048576) (pl:Int) (hT:Tabs w):Calls Tryz.prog 219 #[.slice A xs.length cap,.int .i64 1,.int .i64 pl,.int .i64 16] w fun e w' => e = .returned (.string (nodeHash xs 1 pl 16))∧Below w.heap.size w w':=by
 have HT:=zd hT
 clear hT
 have HLV:=zd (impl_LeavesOk w xs A cap S hx zz13)
 have HI0:=zd (fun W => impl_in 1 0 8 W)
 rw [show inB (1:Int) 0 8=true from rfl] at HI0
 have HI1:=zd (fun W => impl_in pl 0 1 W)
 have HIW:=zd (fun W => impl_isWide 16 W)
 rw [show inB (16:Int) 1 32=true from rfl] at HIW
 cases h1:leavesOk xs <;> rw [h1] at HLV
 ·have HE:=zd (nodeHash_no (lv:=1) (pl:=pl) (n:=16) h1)
  clear h1
  go_enter Tryz.func219,Tryz.ntmps219
  go_wp2_with (fail)
  refine HLV.out.mono ?_
  rintro e1 w1 ⟨rfl,hb1⟩
  have HB1:=zd hb1
  clear hb1
  go_wp2_with (first | (go_at_call 70; with_reducible refine (HI0.out _).mono ?_; rintro e2 w2 ⟨rfl,rfl⟩) | (go_at_call 70; with_reducible refine (HI1.out _).mono ?_; rintro e3 w3 ⟨rfl,rfl⟩) | (go_at_call 168; with_reducible refine (HIW.out _).mono ?_; rintro e4 w4 ⟨rfl,rfl⟩))
  go_ret
  exact ⟨ret_str zz58,HB1.out⟩
 cases h3:inB pl 0 1 <;> rw [h3] at HI1
 ·have HE:=zd (nodeHash_out (xs:=xs) (lv:=1) (n:=16) (pl:=pl) h3)
  clear h1 h3
  go_enter Tryz.func219,Tryz.ntmps219
  go_wp2_with (fail)
  refine HLV.out.mono ?_
  rintro e1 w1 ⟨rfl,hb1⟩
  have HB1:=zd hb1
  clear hb1
  go_wp2_with (first | (go_at_call 70; with_reducible refine (HI0.out _).mono ?_; rintro e2 w2 ⟨rfl,rfl⟩) | (go_at_call 70; with_reducible refine (HI1.out _).mono ?_; rintro e3 w3 ⟨rfl,rfl⟩) | (go_at_call 168; with_reducible refine (HIW.out _).mono ?_; rintro e4 w4 ⟨rfl,rfl⟩))
  go_ret
  exact ⟨ret_str zz58,HB1.out⟩
 have hp2:0≤pl∧pl≤1:=by simpa [inB] using h3
 obtain ⟨p,hp⟩:∃ p:Nat,pl=(p:Int):=⟨pl.toNat,zz13⟩
 have HE:Hid (nodeHash xs 1 pl 16=nodeD 16 7 p xs):=zd (by
  unfold nodeHash
  rw [show inB pl 0 (2 ^ (1:Int).toNat - 1)=true from h3,h1,hp]; rfl)
 subst hp
 have HOK:=zd h1
 have hpl:p<2 ^ (8 - 7):=by show p<2; omega
 have HGR:=zd (fun W (h:Below w.heap.size w W) => impl_newGrove W xs A cap S (Row.later hx h) hl hz 16 (HT.out.later h))
 have HND:=zd (fun W (h:Below w.heap.size w W) (A2:Option Addr) (c2:Nat) (S2:Blks) (hi:Row false W A2 c2 (ixs xs) S2) => (show Calls Tryz.prog 241 #[.agg #[.slice A xs.length cap,.slice A2 xs.length c2,.int .i64 16],.int .i64 1,.int .i64 (p:Int)] W fun e w' => e = .returned (.string (nodeD 16 7 p xs))∧Below W.heap.size W w' from impl_node 16 zz41 7 zz13 W p hpl xs A cap S (Row.later hx h) A2 c2 S2 hi hl (HT.out.later h)))
 clear h1 h3 hp2
 go_enter Tryz.func219,Tryz.ntmps219
 go_wp2_with (fail)
 refine HLV.out.mono ?_
 rintro e1 w1 ⟨rfl,hb1⟩
 have HB1:=zd hb1
 clear hb1
 go_wp2_with (first | (go_at_call 70; with_reducible refine (HI0.out _).mono ?_; rintro e2 w2 ⟨rfl,rfl⟩) | (go_at_call 70; with_reducible refine (HI1.out _).mono ?_; rintro e3 w3 ⟨rfl,rfl⟩) | (go_at_call 168; with_reducible refine (HIW.out _).mono ?_; rintro e4 w4 ⟨rfl,rfl⟩))
 refine (HGR.out _ HB1.out).mono ?_
 rintro e6 w6 ⟨A6,c6,rfl,o6⟩
 have HB6:=zd (HB1.out.trans (o6.bl.mono HB1.out.size))
 have O6:=zd o6
 clear o6
 go_wp2_with (fail)
 refine (HND.out _ HB6.out A6 c6 _ O6.out.weak).mono ?_
 rintro e7 w7 ⟨rfl,hb7⟩
 have HB7:=zd (HB6.out.trans (hb7.mono HB6.out.size))
 clear hb7
 go_wp2
 go_ret
 exact ⟨ret_str zz58,HB7.out⟩
theorem impl_NodeHash2 (w:World) (xs:List Leaf) (A:Option Addr) (cap:Nat) (S:Blks) (hx:Row false w A cap xs S) (hl:xs.length≤1048576) (hz:szL xs≤1048576) (pl:Int) (hT:Tabs w):Calls Tryz.prog 219 #[.slice A xs.length cap,.int .i64 2,.int .i64 pl,.int .i64 16] w fun e w' => e = .returned (.string (nodeHash xs 2 pl 16))∧Below w.heap.size w w':=by
 have HT:=zd hT
 clear hT
 have HLV:=zd (impl_LeavesOk w xs A cap S hx zz13)
 have HI0:=zd (fun W => impl_in 2 0 8 W)
 rw [show inB (2:Int) 0 8=true from rfl] at HI0
 have HI1:=zd (fun W => impl_in pl 0 3 W)
 have HIW:=zd (fun W => impl_isWide 16 W)
 rw [show inB (16:Int) 1 32=true from rfl] at HIW
 cases h1:leavesOk xs <;> rw [h1] at HLV
 ·have HE:=zd (nodeHash_no (lv:=2) (pl:=pl) (n:=16) h1)
  clear h1
  go_enter Tryz.func219,Tryz.ntmps219
  go_wp2_with (fail)
  refine HLV.out.mono ?_
  rintro e1 w1 ⟨rfl,hb1⟩
  have HB1:=zd hb1
  clear hb1
  go_wp2_with (first | (go_at_call 70; with_reducible refine (HI0.out _).mono ?_; rintro e2 w2 ⟨rfl,rfl⟩) | (go_at_call 70; with_reducible refine (HI1.out _).mono ?_; rintro e3 w3 ⟨rfl,rfl⟩) | (go_at_call 168; with_reducible refine (HIW.out _).mono ?_; rintro e4 w4 ⟨rfl,rfl⟩))
  go_ret
  exact ⟨ret_str zz58,HB1.out⟩
 cases h3:inB pl 0 3 <;> rw [h3] at HI1
 ·have HE:=zd (nodeHash_out (xs:=xs) (lv:=2) (n:=16) (pl:=pl) h3)
  clear h1 h3
  go_enter Tryz.func219,Tryz.ntmps219
  go_wp2_with (fail)
  refine HLV.out.mono ?_
  rintro e1 w1 ⟨rfl,hb1⟩
  have HB1:=zd hb1
  clear hb1
  go_wp2_with (first | (go_at_call 70; with_reducible refine (HI0.out _).mono ?_; rintro e2 w2 ⟨rfl,rfl⟩) | (go_at_call 70; with_reducible refine (HI1.out _).mono ?_; rintro e3 w3 ⟨rfl,rfl⟩) | (go_at_call 168; with_reducible refine (HIW.out _).mono ?_; rintro e4 w4 ⟨rfl,rfl⟩))
  go_ret
  exact ⟨ret_str zz58,HB1.out⟩
 have hp2:0≤pl∧pl≤3:=by simpa [inB] using h3
 obtain ⟨p,hp⟩:∃ p:Nat,pl=(p:Int):=⟨pl.toNat,zz13⟩
 have HE:Hid (nodeHash xs 2 pl 16=nodeD 16 6 p xs):=zd (by
  unfold nodeHash
  rw [show inB pl 0 (2 ^ (2:Int).toNat - 1)=true from h3,h1,hp]; rfl)
 subst hp
 have HOK:=zd h1
 have hpl:p<2 ^ (8 - 6):=by show p<4; omega
 have HGR:=zd (fun W (h:Below w.heap.size w W) => impl_newGrove W xs A cap S (Row.later hx h) hl hz 16 (HT.out.later h))
 have HND:=zd (fun W (h:Below w.heap.size w W) (A2:Option Addr) (c2:Nat) (S2:Blks) (hi:Row false W A2 c2 (ixs xs) S2) => (show Calls Tryz.prog 241 #[.agg #[.slice A xs.length cap,.slice A2 xs.length c2,.int .i64 16],.int .i64 2,.int .i64 (p:Int)] W fun e w' => e = .returned (.string (nodeD 16 6 p xs))∧Below W.heap.size W w' from impl_node 16 zz41 6 zz13 W p hpl xs A cap S (Row.later hx h) A2 c2 S2 hi hl (HT.out.later h)))
 clear h1 h3 hp2
 go_enter Tryz.func219,Tryz.ntmps219
 go_wp2_with (fail)
 refine HLV.out.mono ?_
 rintro e1 w1 ⟨rfl,hb1⟩
 have HB1:=zd hb1
 clear hb1
 go_wp2_with (first | (go_at_call 70; with_reducible refine (HI0.out _).mono ?_; rintro e2 w2 ⟨rfl,rfl⟩) | (go_at_call 70; with_reducible refine (HI1.out _).mono ?_; rintro e3 w3 ⟨rfl,rfl⟩) | (go_at_call 168; with_reducible refine (HIW.out _).mono ?_; rintro e4 w4 ⟨rfl,rfl⟩))
 refine (HGR.out _ HB1.out).mono ?_
 rintro e6 w6 ⟨A6,c6,rfl,o6⟩
 have HB6:=zd (HB1.out.trans (o6.bl.mono HB1.out.size))
 have O6:=zd o6
 clear o6
 go_wp2_with (fail)
 refine (HND.out _ HB6.out A6 c6 _ O6.out.weak).mono ?_
 rintro e7 w7 ⟨rfl,hb7⟩
 have HB7:=zd (HB6.out.trans (hb7.mono HB6.out.size))
 clear hb7
 go_wp2
 go_ret
 exact ⟨ret_str zz58,HB7.out⟩
theorem impl_ShardRoot (w:World) (xs:List Leaf) (A:Option Addr) (cap:Nat) (S:Blks) (hx:Row false w A cap xs S) (hl:xs.length≤1048576) (hz:szL xs≤1048576) (k pl:Int) (hT:Tabs w):Calls Tryz.prog 137 #[.slice A xs.length cap,.int .i64 k,.int .i64 pl,.int .i64 16] w fun e w' => e = .returned (.string (shardRoot xs k pl 16))∧Below w.heap.size w w':=by
 have HT:=zd hT
 clear hT
 have HSP:=zd (fun W => impl_isSplit k W)
 cases hk:inB k 0 2 <;> rw [hk] at HSP
 ·have HE:Hid (shardRoot xs k pl 16=⟨#[]⟩):=zd (by unfold shardRoot; rw [hk]; rfl)
  clear hk
  go_enter Tryz.func137,Tryz.ntmps137
  go_wp2_with (fail)
  refine (HSP.out _).mono ?_
  rintro e1 w1 ⟨rfl,rfl⟩
  go_wp2
  go_ret
  exact ⟨ret_str zz58,Below.refl _ _⟩
 ·have hk2:0≤k∧k≤2:=by simpa [inB] using hk
  have HE:Hid (shardRoot xs k pl 16=nodeHash xs k pl 16):=zd (by unfold shardRoot; rw [hk]; rfl)
  clear hk
  rcases (show k=0∨k=1∨k=2 by omega) with rfl | rfl | rfl
  ·clear hk2
   go_enter Tryz.func137,Tryz.ntmps137
   go_wp2_with (fail)
   refine (HSP.out _).mono ?_
   rintro e1 w1 ⟨rfl,rfl⟩
   go_wp2_with (fail)
   refine (impl_NodeHash0 _ xs A cap S hx hl hz pl HT.out).mono ?_
   rintro e2 w2 ⟨rfl,hb2⟩
   go_wp2
   go_ret
   exact ⟨ret_str zz58,hb2⟩
  ·clear hk2
   go_enter Tryz.func137,Tryz.ntmps137
   go_wp2_with (fail)
   refine (HSP.out _).mono ?_
   rintro e1 w1 ⟨rfl,rfl⟩
   go_wp2_with (fail)
   refine (impl_NodeHash1 _ xs A cap S hx hl hz pl HT.out).mono ?_
   rintro e2 w2 ⟨rfl,hb2⟩
   go_wp2
   go_ret
   exact ⟨ret_str zz58,hb2⟩
  ·clear hk2
   go_enter Tryz.func137,Tryz.ntmps137
   go_wp2_with (fail)
   refine (HSP.out _).mono ?_
   rintro e1 w1 ⟨rfl,rfl⟩
   go_wp2_with (fail)
   refine (impl_NodeHash2 _ xs A cap S hx hl hz pl HT.out).mono ?_
   rintro e2 w2 ⟨rfl,hb2⟩
   go_wp2
   go_ret
   exact ⟨ret_str zz58,hb2⟩
theorem spec_NodeHash0 (w:World) (xs:List Leaf) (A:Option Addr) (cap:Nat) (S:Blks) (hx:Row false w A cap xs S) (hl:xs.length≤1048576) (hz:szL xs≤1048576) (pl:Int):Calls Tryz.prog 211 #[.slice A xs.length cap,.int .i64 0,.int .i64 pl,.int .i64 16] w fun e w' => e = .returned (.string (nodeHash xs 0 pl 16))∧Below w.heap.size w w':=by
 have HLV:=zd (spec_LeavesOk w xs A cap S hx zz13)
 have HI0:=zd (fun W => spec_in 0 0 8 W)
 rw [show inB (0:Int) 0 8=true from rfl] at HI0
 have HIW:=zd (fun W => spec_in 16 1 32 W)
 rw [show inB (16:Int) 1 32=true from rfl] at HIW
 cases h1:leavesOk xs <;> rw [h1] at HLV
 ·have HE:=zd (nodeHash_no (lv:=0) (pl:=pl) (n:=16) h1)
  clear h1
  go_enter Tryz.func211,Tryz.ntmps211
  go_wp2_with (fail)
  refine HLV.out.mono ?_
  rintro e1 w1 ⟨rfl,hb1⟩
  have HB1:=zd hb1
  clear hb1
  go_wp2_with (first | (go_at_call 62; with_reducible refine (HI0.out _).mono ?_; rintro e2 w2 ⟨rfl,rfl⟩) | (go_at_call 62; with_reducible refine (HIW.out _).mono ?_; rintro e4 w4 ⟨rfl,rfl⟩))
  go_ret
  exact ⟨ret_str zz58,HB1.out⟩
 by_cases hneg:pl<0
 ·have HE:=zd (nodeHash_out (xs:=xs) (lv:=0) (n:=16) (pl:=pl) (inB_no (fun h => zz13)))
  have hd1:decide (pl<0)=true:=decide_eq_true hneg
  clear h1 hneg
  go_enter Tryz.func211,Tryz.ntmps211
  go_wp2_with (fail)
  refine HLV.out.mono ?_
  rintro e1 w1 ⟨rfl,hb1⟩
  have HB1:=zd hb1
  clear hb1
  go_wp2_with (first | (go_at_call 62; with_reducible refine (HI0.out _).mono ?_; rintro e2 w2 ⟨rfl,rfl⟩) | (go_at_call 62; with_reducible refine (HIW.out _).mono ?_; rintro e4 w4 ⟨rfl,rfl⟩))
  go_ret
  exact ⟨ret_str zz58,HB1.out⟩
 have hd1:decide (pl<0)=false:=decide_eq_false hneg
 by_cases hbig:1≤pl
 ·have HE:=zd (nodeHash_out (xs:=xs) (lv:=0) (n:=16) (pl:=pl) (inB_no (fun h => by have h2:pl≤0:=h.2; omega)))
  have hd2:decide (pl ≥ 1)=true:=decide_eq_true hbig
  have hd3:decide (1≤pl)=true:=decide_eq_true hbig
  clear h1 hneg hbig
  go_enter Tryz.func211,Tryz.ntmps211
  go_wp2_with (fail)
  refine HLV.out.mono ?_
  rintro e1 w1 ⟨rfl,hb1⟩
  have HB1:=zd hb1
  clear hb1
  go_wp2_with (first | (go_at_call 62; with_reducible refine (HI0.out _).mono ?_; rintro e2 w2 ⟨rfl,rfl⟩) | (go_at_call 62; with_reducible refine (HIW.out _).mono ?_; rintro e4 w4 ⟨rfl,rfl⟩))
  go_ret
  exact ⟨ret_str zz58,HB1.out⟩
 have hd2:decide (pl ≥ 1)=false:=decide_eq_false hbig
 have hd3:decide (1≤pl)=false:=decide_eq_false hbig
 have h3:inB pl 0 0=true:=inB_yes zz13 zz13
 have hp2:0≤pl∧pl≤0:=by simpa [inB] using h3
 obtain ⟨p,hp⟩:∃ p:Nat,pl=(p:Int):=⟨pl.toNat,zz13⟩
 have HE:Hid (nodeHash xs 0 pl 16=nodeD 16 8 p xs):=zd (by
  unfold nodeHash
  rw [show inB pl 0 (2 ^ (0:Int).toNat - 1)=true from h3,h1,hp]; rfl)
 subst hp
 have HOK:=zd h1
 have hpl:p<2 ^ (8 - 8):=by show p<1; omega
 have HSP:=zd (fun W (h:Below w.heap.size w W) => spec_l10Spots W xs A cap S (Row.later hx h) zz13 hz)
 clear h1 h3 hp2 hneg hbig
 go_enter Tryz.func211,Tryz.ntmps211
 go_wp2_with (fail)
 refine HLV.out.mono ?_
 rintro e1 w1 ⟨rfl,hb1⟩
 have HB1:=zd hb1
 clear hb1
 go_wp2_with (first | (go_at_call 62; with_reducible refine (HI0.out _).mono ?_; rintro e2 w2 ⟨rfl,rfl⟩) | (go_at_call 62; with_reducible refine (HIW.out _).mono ?_; rintro e4 w4 ⟨rfl,rfl⟩))
 refine (HSP.out _ HB1.out).mono ?_
 rintro e2 w2 ⟨A2,c2,rfl,o2⟩
 simp only [spotsOf_len]
 have O2:=zd o2
 have HB2:=zd (HB1.out.trans (o2.bl.mono HB1.out.size))
 clear o2
 go_wp2_with (fail)
 refine (spec_l10Empties _ 16 zz41).mono ?_
 rintro e3 w3 ⟨bE,rfl,hbL,hbE,hE,hb3⟩
 have HND:=zd (show Calls Tryz.prog 236 #[.slice A2 xs.length c2,.int .i64 0,.int .i64 (p:Int),.int .i64 16,.slice (some ⟨bE,0,none⟩) 9 9] w3 fun e w' => e = .returned (.string (nodeD 16 8 p xs))∧Below w3.heap.size w3 w' from spec_l10Node 16 zz41 8 zz13 w3 p hpl xs HOK.out A2 c2 _ (Row.later O2.out.weak hb3) bE hbE hE)
 have HB3:=zd (HB2.out.trans (hb3.mono HB2.out.size))
 clear hb3 hE
 go_wp2_with (fail)
 refine HND.out.mono ?_
 rintro e7 w7 ⟨rfl,hb7⟩
 have HB7:=zd (HB3.out.trans (hb7.mono HB3.out.size))
 clear hb7
 go_wp2
 go_ret
 exact ⟨ret_str zz58,HB7.out⟩
theorem spec_NodeHash1 (w:World) (xs:List Leaf) (A:Option Addr) (cap:Nat) (S:Blks) (hx:Row false w A cap xs S) (hl:xs.length≤1048576) (hz:szL xs≤1048576) (pl:Int):Calls Tryz.prog 211 #[.slice A xs.length cap,.int .i64 1,.int .i64 pl,.int .i64 16] w fun e w' => e = .returned (.string (nodeHash xs 1 pl 16))∧Below w.heap.size w w':=by
 have HLV:=zd (spec_LeavesOk w xs A cap S hx zz13)
 have HI0:=zd (fun W => spec_in 1 0 8 W)
 rw [show inB (1:Int) 0 8=true from rfl] at HI0
 have HIW:=zd (fun W => spec_in 16 1 32 W)
 rw [show inB (16:Int) 1 32=true from rfl] at HIW
 cases h1:leavesOk xs <;> rw [h1] at HLV
 ·have HE:=zd (nodeHash_no (lv:=1) (pl:=pl) (n:=16) h1)
  clear h1
  go_enter Tryz.func211,Tryz.ntmps211
  go_wp2_with (fail)
  refine HLV.out.mono ?_
  rintro e1 w1 ⟨rfl,hb1⟩
  have HB1:=zd hb1
  clear hb1
  go_wp2_with (first | (go_at_call 62; with_reducible refine (HI0.out _).mono ?_; rintro e2 w2 ⟨rfl,rfl⟩) | (go_at_call 62; with_reducible refine (HIW.out _).mono ?_; rintro e4 w4 ⟨rfl,rfl⟩))
  go_ret
  exact ⟨ret_str zz58,HB1.out⟩
 by_cases hneg:pl<0
 ·have HE:=zd (nodeHash_out (xs:=xs) (lv:=1) (n:=16) (pl:=pl) (inB_no (fun h => zz13)))
  have hd1:decide (pl<0)=true:=decide_eq_true hneg
  clear h1 hneg
  go_enter Tryz.func211,Tryz.ntmps211
  go_wp2_with (fail)
  refine HLV.out.mono ?_
  rintro e1 w1 ⟨rfl,hb1⟩
  have HB1:=zd hb1
  clear hb1
  go_wp2_with (first | (go_at_call 62; with_reducible refine (HI0.out _).mono ?_; rintro e2 w2 ⟨rfl,rfl⟩) | (go_at_call 62; with_reducible refine (HIW.out _).mono ?_; rintro e4 w4 ⟨rfl,rfl⟩))
  go_ret
  exact ⟨ret_str zz58,HB1.out⟩
 have hd1:decide (pl<0)=false:=decide_eq_false hneg
 by_cases hbig:2≤pl
 ·have HE:=zd (nodeHash_out (xs:=xs) (lv:=1) (n:=16) (pl:=pl) (inB_no (fun h => by have h2:pl≤1:=h.2; omega)))
  have hd2:decide (pl ≥ 2)=true:=decide_eq_true hbig
  have hd3:decide (2≤pl)=true:=decide_eq_true hbig
  clear h1 hneg hbig
  go_enter Tryz.func211,Tryz.ntmps211
  go_wp2_with (fail)
  refine HLV.out.mono ?_
  rintro e1 w1 ⟨rfl,hb1⟩
  have HB1:=zd hb1
  clear hb1
  go_wp2_with (first | (go_at_call 62; with_reducible refine (HI0.out _).mono ?_; rintro e2 w2 ⟨rfl,rfl⟩) | (go_at_call 62; with_reducible refine (HIW.out _).mono ?_; rintro e4 w4 ⟨rfl,rfl⟩))
  go_ret
  exact ⟨ret_str zz58,HB1.out⟩
 have hd2:decide (pl ≥ 2)=false:=decide_eq_false hbig
 have hd3:decide (2≤pl)=false:=decide_eq_false hbig
 have h3:inB pl 0 1=true:=inB_yes zz13 zz13
 have hp2:0≤pl∧pl≤1:=by simpa [inB] using h3
 obtain ⟨p,hp⟩:∃ p:Nat,pl=(p:Int):=⟨pl.toNat,zz13⟩
 have HE:Hid (nodeHash xs 1 pl 16=nodeD 16 7 p xs):=zd (by
  unfold nodeHash
  rw [show inB pl 0 (2 ^ (1:Int).toNat - 1)=true from h3,h1,hp]; rfl)
 subst hp
 have HOK:=zd h1
 have hpl:p<2 ^ (8 - 7):=by show p<2; omega
 have HSP:=zd (fun W (h:Below w.heap.size w W) => spec_l10Spots W xs A cap S (Row.later hx h) zz13 hz)
 clear h1 h3 hp2 hneg hbig
 go_enter Tryz.func211,Tryz.ntmps211
 go_wp2_with (fail)
 refine HLV.out.mono ?_
 rintro e1 w1 ⟨rfl,hb1⟩
 have HB1:=zd hb1
 clear hb1
 go_wp2_with (first | (go_at_call 62; with_reducible refine (HI0.out _).mono ?_; rintro e2 w2 ⟨rfl,rfl⟩) | (go_at_call 62; with_reducible refine (HIW.out _).mono ?_; rintro e4 w4 ⟨rfl,rfl⟩))
 refine (HSP.out _ HB1.out).mono ?_
 rintro e2 w2 ⟨A2,c2,rfl,o2⟩
 simp only [spotsOf_len]
 have O2:=zd o2
 have HB2:=zd (HB1.out.trans (o2.bl.mono HB1.out.size))
 clear o2
 go_wp2_with (fail)
 refine (spec_l10Empties _ 16 zz41).mono ?_
 rintro e3 w3 ⟨bE,rfl,hbL,hbE,hE,hb3⟩
 have HND:=zd (show Calls Tryz.prog 236 #[.slice A2 xs.length c2,.int .i64 1,.int .i64 (p:Int),.int .i64 16,.slice (some ⟨bE,0,none⟩) 9 9] w3 fun e w' => e = .returned (.string (nodeD 16 7 p xs))∧Below w3.heap.size w3 w' from spec_l10Node 16 zz41 7 zz13 w3 p hpl xs HOK.out A2 c2 _ (Row.later O2.out.weak hb3) bE hbE hE)
 have HB3:=zd (HB2.out.trans (hb3.mono HB2.out.size))
 clear hb3 hE
 go_wp2_with (fail)
 refine HND.out.mono ?_
 rintro e7 w7 ⟨rfl,hb7⟩
 have HB7:=zd (HB3.out.trans (hb7.mono HB3.out.size))
 clear hb7
 go_wp2
 go_ret
 exact ⟨ret_str zz58,HB7.out⟩
theorem spec_NodeHash2 (w:World) (xs:List Leaf) (A:Option Addr) (cap:Nat) (S:Blks) (hx:Row false w A cap xs S) (hl:xs.length≤1048576) (hz:szL xs≤1048576) (pl:Int):Calls Tryz.prog 211 #[.slice A xs.length cap,.int .i64 2,.int .i64 pl,.int .i64 16] w fun e w' => e = .returned (.string (nodeHash xs 2 pl 16))∧Below w.heap.size w w':=by
 have HLV:=zd (spec_LeavesOk w xs A cap S hx zz13)
 have HI0:=zd (fun W => spec_in 2 0 8 W)
 rw [show inB (2:Int) 0 8=true from rfl] at HI0
 have HIW:=zd (fun W => spec_in 16 1 32 W)
 rw [show inB (16:Int) 1 32=true from rfl] at HIW
 cases h1:leavesOk xs <;> rw [h1] at HLV
 ·have HE:=zd (nodeHash_no (lv:=2) (pl:=pl) (n:=16) h1)
  clear h1
  go_enter Tryz.func211,Tryz.ntmps211
  go_wp2_with (fail)
  refine HLV.out.mono ?_
  rintro e1 w1 ⟨rfl,hb1⟩
  have HB1:=zd hb1
  clear hb1
  go_wp2_with (first | (go_at_call 62; with_reducible refine (HI0.out _).mono ?_; rintro e2 w2 ⟨rfl,rfl⟩) | (go_at_call 62; with_reducible refine (HIW.out _).mono ?_; rintro e4 w4 ⟨rfl,rfl⟩))
  go_ret
  exact ⟨ret_str zz58,HB1.out⟩
 by_cases hneg:pl<0
 ·have HE:=zd (nodeHash_out (xs:=xs) (lv:=2) (n:=16) (pl:=pl) (inB_no (fun h => zz13)))
  have hd1:decide (pl<0)=true:=decide_eq_true hneg
  clear h1 hneg
  go_enter Tryz.func211,Tryz.ntmps211
  go_wp2_with (fail)
  refine HLV.out.mono ?_
  rintro e1 w1 ⟨rfl,hb1⟩
  have HB1:=zd hb1
  clear hb1
  go_wp2_with (first | (go_at_call 62; with_reducible refine (HI0.out _).mono ?_; rintro e2 w2 ⟨rfl,rfl⟩) | (go_at_call 62; with_reducible refine (HIW.out _).mono ?_; rintro e4 w4 ⟨rfl,rfl⟩))
  go_ret
  exact ⟨ret_str zz58,HB1.out⟩
 have hd1:decide (pl<0)=false:=decide_eq_false hneg
 by_cases hbig:4≤pl
 ·have HE:=zd (nodeHash_out (xs:=xs) (lv:=2) (n:=16) (pl:=pl) (inB_no (fun h => by have h2:pl≤3:=h.2; omega)))
  have hd2:decide (pl ≥ 4)=true:=decide_eq_true hbig
  have hd3:decide (4≤pl)=true:=decide_eq_true hbig
  clear h1 hneg hbig
  go_enter Tryz.func211,Tryz.ntmps211
  go_wp2_with (fail)
  refine HLV.out.mono ?_
  rintro e1 w1 ⟨rfl,hb1⟩
  have HB1:=zd hb1
  clear hb1
  go_wp2_with (first | (go_at_call 62; with_reducible refine (HI0.out _).mono ?_; rintro e2 w2 ⟨rfl,rfl⟩) | (go_at_call 62; with_reducible refine (HIW.out _).mono ?_; rintro e4 w4 ⟨rfl,rfl⟩))
  go_ret
  exact ⟨ret_str zz58,HB1.out⟩
 have hd2:decide (pl ≥ 4)=false:=decide_eq_false hbig
 have hd3:decide (4≤pl)=false:=decide_eq_false hbig
 have h3:inB pl 0 3=true:=inB_yes zz13 zz13
 have hp2:0≤pl∧pl≤3:=by simpa [inB] using h3
 obtain ⟨p,hp⟩:∃ p:Nat,pl=(p:Int):=⟨pl.toNat,zz13⟩
 have HE:Hid (nodeHash xs 2 pl 16=nodeD 16 6 p xs):=zd (by
  unfold nodeHash
  rw [show inB pl 0 (2 ^ (2:Int).toNat - 1)=true from h3,h1,hp]; rfl)
 subst hp
 have HOK:=zd h1
 have hpl:p<2 ^ (8 - 6):=by show p<4; omega
 have HSP:=zd (fun W (h:Below w.heap.size w W) => spec_l10Spots W xs A cap S (Row.later hx h) zz13 hz)
 clear h1 h3 hp2 hneg hbig
 go_enter Tryz.func211,Tryz.ntmps211
 go_wp2_with (fail)
 refine HLV.out.mono ?_
 rintro e1 w1 ⟨rfl,hb1⟩
 have HB1:=zd hb1
 clear hb1
 go_wp2_with (first | (go_at_call 62; with_reducible refine (HI0.out _).mono ?_; rintro e2 w2 ⟨rfl,rfl⟩) | (go_at_call 62; with_reducible refine (HIW.out _).mono ?_; rintro e4 w4 ⟨rfl,rfl⟩))
 refine (HSP.out _ HB1.out).mono ?_
 rintro e2 w2 ⟨A2,c2,rfl,o2⟩
 simp only [spotsOf_len]
 have O2:=zd o2
 have HB2:=zd (HB1.out.trans (o2.bl.mono HB1.out.size))
 clear o2
 go_wp2_with (fail)
 refine (spec_l10Empties _ 16 zz41).mono ?_
 rintro e3 w3 ⟨bE,rfl,hbL,hbE,hE,hb3⟩
 have HND:=zd (show Calls Tryz.prog 236 #[.slice A2 xs.length c2,.int .i64 2,.int .i64 (p:Int),.int .i64 16,.slice (some ⟨bE,0,none⟩) 9 9] w3 fun e w' => e = .returned (.string (nodeD 16 6 p xs))∧Below w3.heap.size w3 w' from spec_l10Node 16 zz41 6 zz13 w3 p hpl xs HOK.out A2 c2 _ (Row.later O2.out.weak hb3) bE hbE hE)
 have HB3:=zd (HB2.out.trans (hb3.mono HB2.out.size))
 clear hb3 hE
 go_wp2_with (fail)
 refine HND.out.mono ?_
 rintro e7 w7 ⟨rfl,hb7⟩
 have HB7:=zd (HB3.out.trans (hb7.mono HB3.out.size))
 clear hb7
 go_wp2
 go_ret
 exact ⟨ret_str zz58,HB7.out⟩
theorem spec_ShardRoot (w:World) (xs:List Leaf) (A:Option Addr) (cap:Nat) (S:Blks) (hx:Row false w A cap xs S) (hl:xs.length≤1048576) (hz:szL xs≤1048576) (k pl:Int):Calls Tryz.prog 126 #[.slice A xs.length cap,.int .i64 k,.int .i64 pl,.int .i64 16] w fun e w' => e = .returned (.string (shardRoot xs k pl 16))∧Below w.heap.size w w':=by
 have HSP:=zd (fun W => spec_in k 0 2 W)
 cases hk:inB k 0 2 <;> rw [hk] at HSP
 ·have HE:Hid (shardRoot xs k pl 16=⟨#[]⟩):=zd (by unfold shardRoot; rw [hk]; rfl)
  clear hk
  go_enter Tryz.func126,Tryz.ntmps126
  go_wp2_with (fail)
  refine (HSP.out _).mono ?_
  rintro e1 w1 ⟨rfl,rfl⟩
  go_wp2
  go_ret
  exact ⟨ret_str zz58,Below.refl _ _⟩
 ·have hk2:0≤k∧k≤2:=by simpa [inB] using hk
  have HE:Hid (shardRoot xs k pl 16=nodeHash xs k pl 16):=zd (by unfold shardRoot; rw [hk]; rfl)
  clear hk
  rcases (show k=0∨k=1∨k=2 by omega) with rfl | rfl | rfl
  ·clear hk2
   go_enter Tryz.func126,Tryz.ntmps126
   go_wp2_with (fail)
   refine (HSP.out _).mono ?_
   rintro e1 w1 ⟨rfl,rfl⟩
   go_wp2_with (fail)
   refine (spec_NodeHash0 _ xs A cap S hx hl hz pl).mono ?_
   rintro e2 w2 ⟨rfl,hb2⟩
   go_wp2
   go_ret
   exact ⟨ret_str zz58,hb2⟩
  ·clear hk2
   go_enter Tryz.func126,Tryz.ntmps126
   go_wp2_with (fail)
   refine (HSP.out _).mono ?_
   rintro e1 w1 ⟨rfl,rfl⟩
   go_wp2_with (fail)
   refine (spec_NodeHash1 _ xs A cap S hx hl hz pl).mono ?_
   rintro e2 w2 ⟨rfl,hb2⟩
   go_wp2
   go_ret
   exact ⟨ret_str zz58,hb2⟩
  ·clear hk2
   go_enter Tryz.func126,Tryz.ntmps126
   go_wp2_with (fail)
   refine (HSP.out _).mono ?_
   rintro e1 w1 ⟨rfl,rfl⟩
   go_wp2_with (fail)
   refine (spec_NodeHash2 _ xs A cap S hx hl hz pl).mono ?_
   rintro e2 w2 ⟨rfl,hb2⟩
   go_wp2
   go_ret
   exact ⟨ret_str zz58,hb2⟩
end Go.Proofs.YtcbbjfafmmcfiaaGreatDoor
