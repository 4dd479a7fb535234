/- A part of the proof. -/
import Derived.Test.YtcbbjfafmmcfiaaGreatDoorHPqRy
set_option linter.unusedVariables false
set_option linter.unusedSimpArgs false
set_option maxRecDepth 20000
set_option maxHeartbeats 8000000
namespace Go.Proofs.YtcbbjfafmmcfiaaGreatDoor
open Go.RowKit Lay Mk
def pastGo (x:Wrld) (house:Int) (name:ByteArray):Nat→Nat→List Whole→Past × Int
 | 0,_,acc => (⟨acc⟩,0)
 | m+1,e,acc => if ¬ (resolve x house name (e:Int)).2=0 then (⟨[]⟩,(resolve x house name (e:Int)).2) else pastGo x house name m (e+1) (acc ++ [(resolve x house name (e:Int)).1])
def pastOf (x:Wrld) (house:Int) (name:ByteArray) (upto:Int):Past × Int:=if inB upto 1 4=true then pastGo x house name upto.toNat 1 [] else (⟨[]⟩,3)
theorem past_no {x:Wrld} {house:Int} {name:ByteArray} {upto:Int} (h:inB upto 1 4=false):pastOf x house name upto=(⟨[]⟩,3):=by unfold pastOf; rw [if_neg (by simp [h])]
theorem past_yes {x:Wrld} {house:Int} {name:ByteArray} {u:Nat} (h:inB (u:Int) 1 4=true):pastOf x house name (u:Int)=pastGo x house name u 1 []:=by unfold pastOf; rw [if_pos h,Int.toNat_natCast]
theorem go_bad {x:Wrld} {house:Int} {name:ByteArray} {m e:Nat} {acc:List Whole} (h : ¬ (resolve x house name (e:Int)).2=0):pastGo x house name (m+1) e acc=(⟨[]⟩,(resolve x house name (e:Int)).2):=by rw [pastGo,if_pos h]
theorem go_good {x:Wrld} {house:Int} {name:ByteArray} {m e:Nat} {acc:List Whole} (h:(resolve x house name (e:Int)).2=0):pastGo x house name (m+1) e acc=pastGo x house name m (e+1) (acc ++ [(resolve x house name (e:Int)).1]):=by rw [pastGo,if_neg (by simp [h])]
theorem ct_resS (x:Wrld) (house:Int) (name:ByteArray) (ep:Int) (h:House) (s:Server) (sl:Seal) (hz:x.sz≤1048576) (hs:sl.sz≤1048576):(resolveS x house name ep h s sl).1.ct≤100000000:=by
 unfold resolveS; split
 ·have h1:=ctb_Proof (lookServer s ep name).1
  have h2:=look_small s ep name
  have h3:=comb_small (h.servers.map (shRoot ep)) (shardOf name h.coord.k) 16
  have h4:=ctb_Seal sl
  have h6:=cnL_txts (combineSides (h.servers.map (shRoot ep)) (shardOf name h.coord.k) 16).1
  have h8:cnL (stampsOf x house ep)≤18000000:=by
   have hzg:szL x.given≤1048576:=by simp only [Wrld.sz] at hz; omega
   have g0:=stamp_cn x.given house ep hzg 0
   have g1:=stamp_cn x.given house ep hzg 1
   have g2:=stamp_cn x.given house ep hzg 2
   unfold stampsOf stampTo stampTo stampTo stampTo
   simp only [cnL,List.map_append,List.sum_append,List.nil_append] at *
   omega
  simp only [Proof.ct,Seal.ct] at h1 h4
  simp only [Whole.ct]
  omega
 ·exact Nat.zero_le _
theorem ct_resH (x:Wrld) (house:Int) (name:ByteArray) (ep:Int) (h:House) (hz:x.sz≤1048576) (hh:h.sz≤1048576):(resolveH x house name ep h).1.ct≤100000000:=by
 unfold resolveH
 split
 ·exact Nat.zero_le _
 ·split
  ·exact Nat.zero_le _
  ·split
   ·split
    ·rename_i sl hsl
     have hm:=List.mem_of_getElem? hsl
     obtain ⟨j,hj,rfl⟩:=List.getElem_of_mem hm
     exact ct_resS _ _ _ _ _ _ _ hz (sz_get hj (show szL h.coord.seals≤1048576 by simp only [House.sz,Coord.sz] at hh; omega))
    ·exact Nat.zero_le _
   ·exact Nat.zero_le _
theorem ct_resolve (x:Wrld) (house:Int) (name:ByteArray) (ep:Int) (hz:x.sz≤1048576):(resolve x house name ep).1.ct≤100000000:=by
 unfold resolve
 split
 ·exact Nat.zero_le _
 ·split
  ·rename_i h hh
   have hm:=List.mem_of_getElem? hh
   obtain ⟨j,hj,rfl⟩:=List.getElem_of_mem hm
   exact ct_resH _ _ _ _ _ hz (sz_get hj (show szL x.houses≤1048576 by simp only [Wrld.sz] at hz; omega))
  ·exact Nat.zero_le _
theorem cn_whole (x:Whole):cn x=x.ct+5:=by show x.cn=_; simp only [Whole.cn,Whole.ct]; omega
theorem cnL_go (x:Wrld) (house:Int) (name:ByteArray) (hz:x.sz≤1048576):∀ (m e:Nat) (acc:List Whole),cnL (pastGo x house name m e acc).1.wholes≤cnL acc+m*100000005
 | 0,e,acc => by show cnL acc≤_; omega
 | m+1,e,acc => by
  by_cases h:(resolve x house name (e:Int)).2=0
  ·rw [go_good h]
   have h1:=cnL_go x house name hz m (e+1) (acc ++ [(resolve x house name (e:Int)).1])
   have h2:cnL (acc ++ [(resolve x house name (e:Int)).1])=cnL acc+cn (resolve x house name (e:Int)).1:=by simp [cnL]
   have h3:=ct_resolve x house name (e:Int) hz
   have h4:=cn_whole (resolve x house name (e:Int)).1
   rw [Nat.succ_mul]; omega
  ·rw [go_bad h]; exact Nat.zero_le _
theorem cnb_pastOf (x:Wrld) (house:Int) (name:ByteArray) (upto:Int) (hz:x.sz≤1048576) (_hn:name.size≤1048576):(pastOf x house name upto).1.ct≤1000000000000:=by
 cases h:inB upto 1 4
 ·rw [past_no h]; exact Nat.zero_le _
 ·have h2:1≤upto∧upto≤4:=by simpa [inB] using h
  obtain ⟨u,rfl⟩:∃ u:Nat,upto=u:=⟨upto.toNat,zz18⟩
  rw [past_yes h]
  have h3:=cnL_go x house name hz u 1 []
  have h4:cnL ([]:List Whole)=0:=rfl
  show cnL _≤_
  have h5:u*100000005≤4*100000005:=Nat.mul_le_mul_right _ zz18
  omega
def PsRes (R:Past × Int) (w:World) (e:Ending) (w':World):Prop:=∃ c,e = .returned (.tuple #[.agg c.toArray,.int .i64 R.2])∧rd true w' c R.1 (rng w.heap.size w'.heap.size)∧Below w.heap.size w w'
theorem PsRes.mk {R:Past × Int} {L:List Whole} {k:Int} {w wr:World} {A:Option Addr} {c n r:Nat} (hR:R=(⟨L⟩,k)) (hn:n=L.length) (hle:L.length≤c) (hcm:c≤maxLen) (hrow:Row true wr A c L (nw (r+1))) (hr:w.heap.size≤r) (hb:Below w.heap.size w wr) :
  PsRes R w (.returned (.tuple #[.agg #[.slice A n c],.int .i64 k])) (wr.setCell ⟨r,0,none⟩ (.slice A n c)):=by
 subst hR; subst hn
 have hq : ¬ nw (r+1) (⟨r,0,none⟩:Addr).block:=fun h => by have h1:r+1≤r:=h; omega
 refine ⟨[.slice A L.length c],rfl,Past.mk' (x:=⟨L⟩) hle hcm ((hrow.setC hq _).tight.mono (fun b h => ?_)) (fun _ h => h),Below.setCell hb hr _⟩
 exact ⟨by have h1:r+1≤b:=h.1; omega,h.2⟩
theorem PsRes.alloc {R:Past × Int} {k:Int} {w wr:World} {r:Nat} {o:Obj} (hR:R=(⟨[]⟩,k)) (hr:w.heap.size≤r) (hb:Below w.heap.size w wr) :
  PsRes R w (.returned (.tuple #[.agg #[.slice none 0 0],.int .i64 k])) ((wr.setCell ⟨r,0,none⟩ (.slice none 0 0)).alloc o):=by
 subst hR
 have h1:Below w.heap.size w (wr.setCell ⟨r,0,none⟩ (.slice none 0 0)):=Below.setCell hb hr _
 exact ⟨[.slice none 0 0],rfl,Past.mk' (x:=⟨[]⟩) (Nat.le_refl _) zz91 (row_nil _ (rng w.heap.size _)) (fun _ h => h),h1.alloc h1.size _⟩
theorem wpList_pushN {α:Type} [Lay α] [SlTy α] [Inf α] {ops:Array Oper} {rest:List Oper} {o:Oper} {a:Act} {Q:Exit→Act→World→Prop} {w1 w:World} {B:Nat} (hgd:o.guard=none) (s x:Operand)
  (ho:o.op = .call { callee:=.builtin .append,args:=#[s,x],argTypes:=#[SlTy.st α,SlTy.st α] })
  {A:Option Addr} {c c2 k b:Nat} {L:List α} {y:α} {T:Blks} {cs:Array Value} {t:TypeId} (hs:a.eval s = .slice A k c) (hk:k=L.length) (hrow:Row true w1 A c L (nw B)) (hle:L.length≤c) (hcm:c≤maxLen) (hBw:B≤w1.heap.size) (hb:Below w1.heap.size w1 w)
  (hy:rd true w cs.toList y T) (hT:∀ b,T b→w1.heap.size≤b) (hx:a.eval x = .slice (some ⟨b,0,none⟩) 1 c2) (hbb:b=w.heap.size) (hlim:k≤2000000000)
  (h:∀ A' c' w',Row true w' A' c' (L ++ [y]) (nw B)→(L ++ [y]).length≤c'→c'≤maxLen→Below B w w'→w.heap.size<w'.heap.size→wpList Tryz.prog ops Q rest (a.put o.dst (.slice A' (k+1) c')) w') :
  wpList Tryz.prog ops Q (o :: rest) a (w.alloc (.cells cs t)):=by
 subst hk
 have hbw:Below w1.heap.size w1 (w.alloc (.cells cs t)):=hb.alloc hb.size _
 have h7:=hb.size
 refine wpList_app (α:=α) hgd s x ho hs rfl (Row.later (to_rng hrow) hbw) hle hcm hx rfl (srcR w y cs t b hbb hy) (fun q h1 h2 => ?_) zz57 ?_
 ·have h3:=hT q h2.1
  have h4:q<w1.heap.size:=h1.2
  omega
 intro A' c' w' h1 h2 h3 h4
 have h5:=h4.size
 rw [World.size_alloc] at h5
 refine h A' c' w' (h3.mono (fun q hq => ?_)) (by rw [List.length_append]; exact h1) h2 ?_ zz18
 ·show B≤q
  rcases hq with hq | hq | hq
  ·exact hq.1
  ·have:=hT q hq.1; omega
  ·have:=hq.1; rw [World.size_alloc] at this; omega
 ·exact ((Below.refl _ _).alloc zz18 _).trans (h4.to_below (by rw [World.size_alloc]; omega) (fun q hq => hq.1))
theorem impl_PastOf (w:World) (x:Wrld) (cs:List Value) (S:Blks) (hx:rd false w cs x S) (hz:x.sz≤1048576) (house:Int) (hh:I64 house) (name:ByteArray) (hn:name.size≤1048576) (upto:Int) (hu:I64 upto) (hT:Tabs w):Calls Tryz.prog 56 #[.agg cs.toArray,.int .i64 house,.string name,.int .i64 upto] w (PsRes (pastOf x house name upto) w):=by
 have HX1:=zd hx
 obtain ⟨A0,k0,S0,A1,k1,S1,A2,k2,S2,A3,k3,S3,A4,k4,S4,A5,k5,S5,rfl, -⟩:=Wrld.open hx
 simp only [Wrld.cs] at HX1 ⊢
 clear hx
 have HT:=zd hT
 clear hT
 have HRS:=zd (fun W (h:Below w.heap.size w W) (ep:Int) (he:I64 ep) => impl_Resolve W x _ S (Lay.later HX1.out h) hz house hh name hn ep he (HT.out.later h))
 have HEP:=zd (fun W => impl_isEpoch upto W)
 have hWd:∀ W,W=(w.alloc (.cells #[.slice A0 x.houses.length k0,.slice A1 x.auditors.length k1,.slice A2 x.notes.length k2,.slice A3 x.given.length k3,.slice A4 x.evil.length k4,.slice A5 x.codes.length k5] 132)).alloc (.cells #[.slice none 0 0] 66)→Below w.heap.size w W∧W.heap.size=w.heap.size+1+1∧(∀ o,W.frozen? ⟨w.heap.size+1,o,none⟩=false)∧W.cell? ⟨w.heap.size,0,none⟩=some (.slice A0 x.houses.length k0)∧W.cell? ⟨w.heap.size,1,none⟩=some (.slice A1 x.auditors.length k1)∧W.cell? ⟨w.heap.size,2,none⟩=some (.slice A2 x.notes.length k2)∧W.cell? ⟨w.heap.size,3,none⟩=some (.slice A3 x.given.length k3)∧W.cell? ⟨w.heap.size,4,none⟩=some (.slice A4 x.evil.length k4)∧W.cell? ⟨w.heap.size,5,none⟩=some (.slice A5 x.codes.length k5)∧W.cell? ⟨w.heap.size+1,0,none⟩=some (.slice none 0 0):=by
  rintro W rfl
  have e1:w.heap.size+1=(w.alloc (.cells #[.slice A0 x.houses.length k0,.slice A1 x.auditors.length k1,.slice A2 x.notes.length k2,.slice A3 x.given.length k3,.slice A4 x.evil.length k4,.slice A5 x.codes.length k5] 132)).heap.size:=zz49
  refine ⟨((Below.refl _ _).alloc (Nat.le_refl _) _).alloc zz49 _,zz49,fun o => by rw [e1]; exact frozen_newR _ _ _ _,?_⟩
  refine ⟨cell_alloc (yaa _ _ _ _ _ rfl),cell_alloc (yaa _ _ _ _ _ rfl),cell_alloc (yaa _ _ _ _ _ rfl),cell_alloc (yaa _ _ _ _ _ rfl),cell_alloc (yaa _ _ _ _ _ rfl),cell_alloc (yaa _ _ _ _ _ rfl),zz64⟩
 cases hin:inB upto 1 4 <;> rw [hin] at HEP
 ·have HE:=zd (past_no (x:=x) (house:=house) (name:=name) hin)
  obtain ⟨R,hR⟩:∃ R,pastOf x house name upto=R:=⟨_,rfl⟩
  rw [hR] at HE ⊢
  clear hR hin
  go_enter Tryz.func56,Tryz.ntmps56
  go_wp2_with (fail)
  obtain ⟨W,hW⟩:∃ W,(w.alloc (.cells #[.slice A0 x.houses.length k0,.slice A1 x.auditors.length k1,.slice A2 x.notes.length k2,.slice A3 x.given.length k3,.slice A4 x.evil.length k4,.slice A5 x.codes.length k5] 132)).alloc (.cells #[.slice none 0 0] 66)=W:=⟨_,rfl⟩
  rw [hW]
  obtain ⟨hBW,hWs,zf,x0,x1,x2,x3,x4,x5,z0⟩:=hWd W hW.symm
  clear hW hWd
  refine (HEP.out W).mono ?_
  rintro e1 w1 ⟨rfl,rfl⟩
  go_wp2
  refine bodyPost_ret (v:=.tuple #[.agg #[.slice none 0 0],.int .i64 3]) (by simp [results,Tryz.results56,go_sem, *]) rfl ?_
  exact PsRes.mk (r:=w.heap.size+1) HE.out rfl (Nat.le_refl _) zz91 (row_nil _ _) (Nat.le_add_right _ 1) hBW
 have h2:1≤upto∧upto≤4:=by simpa [inB] using hin
 obtain ⟨u,rfl⟩:∃ u:Nat,upto=u:=⟨upto.toNat,zz18⟩
 have HE:=zd (past_yes (x:=x) (house:=house) (name:=name) hin)
 obtain ⟨R,hR⟩:∃ R,pastOf x house name (u:Int)=R:=⟨_,rfl⟩
 rw [hR] at HE ⊢
 have hu1:1≤u:=zz18
 have hu4:u≤4:=zz18
 clear hR hin h2 hu
 go_enter Tryz.func56,Tryz.ntmps56
 go_wp2_with (fail)
 obtain ⟨W,hW⟩:∃ W,(w.alloc (.cells #[.slice A0 x.houses.length k0,.slice A1 x.auditors.length k1,.slice A2 x.notes.length k2,.slice A3 x.given.length k3,.slice A4 x.evil.length k4,.slice A5 x.codes.length k5] 132)).alloc (.cells #[.slice none 0 0] 66)=W:=⟨_,rfl⟩
 rw [hW]
 obtain ⟨hBW,hWs,zf,x0,x1,x2,x3,x4,x5,z0⟩:=hWd W hW.symm
 clear hW hWd
 refine (HEP.out W).mono ?_
 rintro e1 w1 ⟨rfl,rfl⟩
 have HBW:=zd hBW
 have hlW:w.heap.size+1<W.heap.size:=zz18
 have HALL:=zd (fun (w':World) (h:Below W.heap.size W w') => (⟨(h.cell (p:=⟨w.heap.size,0,none⟩) zz63).trans x0,(h.cell (p:=⟨w.heap.size,1,none⟩) zz63).trans x1,(h.cell (p:=⟨w.heap.size,2,none⟩) zz63).trans x2,(h.cell (p:=⟨w.heap.size,3,none⟩) zz63).trans x3,(h.cell (p:=⟨w.heap.size,4,none⟩) zz63).trans x4,(h.cell (p:=⟨w.heap.size,5,none⟩) zz63).trans x5,(h.cell (p:=⟨w.heap.size+1,0,none⟩) zz31).trans z0,fun o => (h.frozen (p:=⟨w.heap.size+1,o,none⟩) hlW).trans (zf o)⟩:w'.cell? ⟨w.heap.size,0,none⟩=some (.slice A0 x.houses.length k0)∧w'.cell? ⟨w.heap.size,1,none⟩=some (.slice A1 x.auditors.length k1)∧w'.cell? ⟨w.heap.size,2,none⟩=some (.slice A2 x.notes.length k2)∧w'.cell? ⟨w.heap.size,3,none⟩=some (.slice A3 x.given.length k3)∧w'.cell? ⟨w.heap.size,4,none⟩=some (.slice A4 x.evil.length k4)∧w'.cell? ⟨w.heap.size,5,none⟩=some (.slice A5 x.codes.length k5)∧w'.cell? ⟨w.heap.size+1,0,none⟩=some (.slice none 0 0)∧∀ o,w'.frozen? ⟨w.heap.size+1,o,none⟩=false))
 clear hBW hWs x0 x1 x2 x3 x4 x5 z0 zf
 go_wp2_with (fail)
 obtain ⟨V0,hV0⟩:∃ V,W.alloc (.cells #[.slice none 0 0] 66)=V:=⟨_,rfl⟩
 have hV0f:Below W.heap.size W V0∧V0.heap.size=W.heap.size+1∧V0.cell? ⟨W.heap.size,0,none⟩=some (.slice none 0 0)∧∀ o,V0.frozen? ⟨W.heap.size,o,none⟩=false:=by
  rw [← hV0]; exact ⟨(Below.refl _ _).alloc (Nat.le_refl _) _,zz49,yaa _ _ _ _ _ rfl,fun o => frozen_newR _ _ _ _⟩
 obtain ⟨hbV0,hsV0,p0,pf⟩:=hV0f
 have HBV0:=zd hbV0
 have hlV0:W.heap.size<V0.heap.size:=zz18
 have HP0:=zd (And.intro p0 pf)
 clear hbV0 hsV0 p0 pf
 rw [hV0]
 clear hV0
 go_loopw [11] (fun i wr => ∃ (e:Nat) (L:List Whole) (A:Option Addr) (c k:Nat),e≤u∧i = .int .i64 ((e:Int)+1)∧Hid (pastGo x house name (u - e) (e+1) L=R)∧Hid (k=L.length∧L.length=e)∧Hid (Row true wr A c L (nw (W.heap.size+1))∧L.length≤c∧c≤maxLen)∧Hid (Below W.heap.size W wr)∧W.heap.size<wr.heap.size∧wr.cell? ⟨W.heap.size,0,none⟩=some (.slice A k c)∧(∀ o,wr.frozen? ⟨W.heap.size,o,none⟩=false)) (fun i _ => u+1 - (intOf i).toNat)
 case atStart => exact ⟨0, [],none,0,0,Nat.zero_le _,rfl,zd HE.out.symm,zd ⟨rfl,rfl⟩,zd ⟨row_nil _ _,Nat.le_refl _,zz91⟩,HBV0,hlV0,HP0.out.1,HP0.out.2⟩
 case round =>
  obtain ⟨e,L,A,c,k,he,rfl,HG,HK,HRW,HBr,hzr,p0,pf⟩:=hrel
  have HBw:=zd (HBW.out.trans (HBr.out.mono HBW.out.size))
  obtain ⟨x0,x1,x2,x3,x4,x5,z0,zf⟩:=HALL.out wr HBr.out
  have hlw0:w.heap.size<wr.heap.size:=zz18
  have hlw1:w.heap.size+1<wr.heap.size:=zz18
  by_cases hlt:e<u
  ·have hle:((e:Int)+1)≤(u:Int):=by omega
   have hled:decide (((e:Int)+1)≤(u:Int))=true:=decide_eq_true hle
   have HRC:=zd (HRS.out wr HBw.out ((e:Int)+1) zz83)
   obtain ⟨m,hm⟩:∃ m,u - e=m+1:=⟨u - e - 1,zz18⟩
   have HG2:=zd (fun h => (go_bad (x:=x) (house:=house) (name:=name) (m:=m) (e:=e+1) (acc:=L) h).symm.trans ((congrArg (fun q => pastGo x house name q (e+1) L) hm.symm).trans HG.out))
   have HG3:=zd (fun h => (go_good (x:=x) (house:=house) (name:=name) (m:=m) (e:=e+1) (acc:=L) h).symm.trans ((congrArg (fun q => pastGo x house name q (e+1) L) hm.symm).trans HG.out))
   rw [show (((e+1:Nat):Int))=(e:Int)+1 from rfl] at HG2 HG3
   have hc:=res_code x house name ((e:Int)+1)
   obtain ⟨Q,hQ⟩:∃ Q,resolve x house name ((e:Int)+1)=Q:=⟨_,rfl⟩
   rw [hQ] at HRC HG2 HG3 hc
   obtain ⟨y,code⟩:=Q
   simp only at HG2 HG3 hc
   have HM:=zd hm
   clear hQ hm
   go_wp2_with (fail)
   refine HRC.out.mono ?_
   rintro e2 w2 ⟨cy,rfl,hy,hb2⟩
   have HB2:=zd hb2
   have hs2:=hb2.size
   have HY:=zd hy
   obtain ⟨P0,n0,T0,P1,n1,T1,P2,n2,T2,P3,n3,T3,P4,n4,T4,P5,n5,T5,P6,n6,T6,rfl, -⟩:=Whole.open hy
   simp only [Whole.cs] at HY ⊢
   have HB2W:=zd (HBr.out.trans (hb2.mono HBr.out.size))
   have hlw2:w.heap.size<w2.heap.size:=zz18
   have hlw3:w.heap.size+1<w2.heap.size:=zz18
   have hlw4:W.heap.size<w2.heap.size:=zz18
   clear x0 x1 x2 x3 x4 x5 z0 zf hy HRC
   obtain ⟨x0,x1,x2,x3,x4,x5,z0,zf⟩:=HALL.out w2 HB2W.out
   replace p0:=(hb2.cell (p:=⟨W.heap.size,0,none⟩) hzr).trans p0
   replace pf:=fun o => (hb2.frozen (p:=⟨W.heap.size,o,none⟩) hzr).trans (pf o)
   clear hb2
   by_cases h0:code=0
   rotate_left
   ·have HEE:Hid (R=(⟨[]⟩,code)):=zd (HG2.out h0).symm
    have hq:(code != 0)=true:=by rw [bne_iff_ne]; exact h0
    have hq2:(code == 0)=false:=beq_eq_false_iff_ne.2 h0
    clear HG2 HG3 h0 hc
    go_wp2
    refine bodyPost_ret (v:=.tuple #[.agg #[.slice none 0 0],.int .i64 code]) (by simp [results,Tryz.results56,go_sem, *]) rfl ?_
    have hbb:=HBw.out.trans (HB2.out.mono HBw.out.size)
    exact PsRes.alloc (r:=w.heap.size+1) HEE.out (Nat.le_add_right _ 1) hbb
   subst h0
   have HEG:=zd (HG3.out rfl)
   clear HG2 HG3 hc
   have hlen4:k≤2000000000:=by have h8:=HK.out; omega
   have HK1:=zd HK.out.1
   go_wp2_with (at_builtin; refine wpList_pushN (α:=Whole) (w1:=wr) (B:=W.heap.size+1) (y:=y) (T:=rng wr.heap.size w2.heap.size) rfl _ _ rfl rfl HK1.out HRW.out.1 HRW.out.2.1 HRW.out.2.2 hzr ?hb ?hy ?hT rfl ?hbb hlen4 ?_; (case hb => exact HB2.out.alloc HB2.out.size _); (case hy => exact Lay.later HY.out ((Below.refl _ _).alloc (Nat.le_refl _) _)); (case hT => exact fun b h => h.1); (case hbb => first | rfl | simp); intro A6 c6 w6 r6 l6 m6 hb6 hs6; have hb62:=((HB2W.out.mono (Nat.le_refl _)).alloc HB2W.out.size _).trans (hb6.mono (Nat.le_succ _)); have p6:=(hb6.cell (p:=⟨W.heap.size,0,none⟩) (Nat.lt_succ_self _)).trans (cell_alloc p0); have pf6:=(fun o => (hb6.frozen (p:=⟨W.heap.size,o,none⟩) (Nat.lt_succ_self _)).trans ((((Below.refl w2.heap.size w2).alloc (Nat.le_refl _) _).frozen (p:=⟨W.heap.size,o,none⟩) hlw4).trans (pf o))); have R6:=zd r6; have LM6:=zd (And.intro l6 m6); have HB62:=zd hb62; have hW6:=hb62.size; have hs6b:w2.heap.size<w6.heap.size:=(by have h9:=hs6; rw [World.size_alloc] at h9; omega); have P6:=zd (World.cell?_setCell_same w6 ⟨W.heap.size,0,none⟩ (.slice A6 (k+1) c6) p6); have PF6:=zd pf6; clear r6 l6 m6 hb6 hb62)
   go_roundw
   case rel => exact ⟨e+1,L ++ [y],A6,c6,k+1,hlt,by go_num,zd (by rw [show u - (e+1)=m by have:=HM.out; omega]; exact HEG.out),zd ⟨by rw [List.length_append, ← HK.out.1]; rfl,by rw [List.length_append,HK.out.2]; rfl⟩,zd ⟨R6.out.setC (fun h => by have h1:W.heap.size+1≤W.heap.size:=h; omega) _,LM6.out.1,LM6.out.2⟩,zd (Below.setCell HB62.out (Nat.le_refl _) _),zz57,P6.out,fun o => by simpa using PF6.out o⟩
   case measure => simp [intOf]; omega
  ·have hee:e=u:=by omega
   subst hee
   have HEE:Hid (R=(⟨L⟩,0)):=zd (by have h9:=HG.out; rw [Nat.sub_self] at h9; exact h9.symm)
   have hled:decide (((e:Int)+1)≤(e:Int))=false:=decide_eq_false zz18
   go_wp2
   refine bodyPost_ret (v:=.tuple #[.agg #[.slice A k c],.int .i64 0]) (by simp [results,Tryz.results56,go_sem, *]) rfl ?_
   exact PsRes.mk (r:=w.heap.size+1) HEE.out HK.out.1 HRW.out.2.1 HRW.out.2.2 (HRW.out.1.mono (fun b h => by have h1:W.heap.size+1≤b:=h; show w.heap.size+1+1≤b; omega)) (Nat.le_add_right _ 1) HBw.out
theorem spec_PastOf (w:World) (x:Wrld) (cs:List Value) (S:Blks) (hx:rd false w cs x S) (hz:x.sz≤1048576) (house:Int) (hh:I64 house) (name:ByteArray) (hn:name.size≤1048576) (upto:Int) (hu:I64 upto):Calls Tryz.prog 55 #[.agg cs.toArray,.int .i64 house,.string name,.int .i64 upto] w (PsRes (pastOf x house name upto) w):=by
 have HX1:=zd hx
 obtain ⟨A0,k0,S0,A1,k1,S1,A2,k2,S2,A3,k3,S3,A4,k4,S4,A5,k5,S5,rfl, -⟩:=Wrld.open hx
 simp only [Wrld.cs] at HX1 ⊢
 clear hx
 have HRS:=zd (fun W (h:Below w.heap.size w W) (ep:Int) (he:I64 ep) => spec_Resolve W x _ S (Lay.later HX1.out h) hz house hh name hn ep he)
 have HEP:=zd (fun W => spec_in upto 1 4 W)
 have hWd:∀ W,W=(w.alloc (.cells #[.slice A0 x.houses.length k0,.slice A1 x.auditors.length k1,.slice A2 x.notes.length k2,.slice A3 x.given.length k3,.slice A4 x.evil.length k4,.slice A5 x.codes.length k5] 132)).alloc (.cells #[.slice none 0 0] 66)→Below w.heap.size w W∧W.heap.size=w.heap.size+1+1∧(∀ o,W.frozen? ⟨w.heap.size+1,o,none⟩=false)∧W.cell? ⟨w.heap.size,0,none⟩=some (.slice A0 x.houses.length k0)∧W.cell? ⟨w.heap.size,1,none⟩=some (.slice A1 x.auditors.length k1)∧W.cell? ⟨w.heap.size,2,none⟩=some (.slice A2 x.notes.length k2)∧W.cell? ⟨w.heap.size,3,none⟩=some (.slice A3 x.given.length k3)∧W.cell? ⟨w.heap.size,4,none⟩=some (.slice A4 x.evil.length k4)∧W.cell? ⟨w.heap.size,5,none⟩=some (.slice A5 x.codes.length k5)∧W.cell? ⟨w.heap.size+1,0,none⟩=some (.slice none 0 0):=by
  rintro W rfl
  have e1:w.heap.size+1=(w.alloc (.cells #[.slice A0 x.houses.length k0,.slice A1 x.auditors.length k1,.slice A2 x.notes.length k2,.slice A3 x.given.length k3,.slice A4 x.evil.length k4,.slice A5 x.codes.length k5] 132)).heap.size:=zz49
  refine ⟨((Below.refl _ _).alloc (Nat.le_refl _) _).alloc zz49 _,zz49,fun o => by rw [e1]; exact frozen_newR _ _ _ _,?_⟩
  refine ⟨cell_alloc (yaa _ _ _ _ _ rfl),cell_alloc (yaa _ _ _ _ _ rfl),cell_alloc (yaa _ _ _ _ _ rfl),cell_alloc (yaa _ _ _ _ _ rfl),cell_alloc (yaa _ _ _ _ _ rfl),cell_alloc (yaa _ _ _ _ _ rfl),zz64⟩
 cases hin:inB upto 1 4 <;> rw [hin] at HEP
 ·have HE:=zd (past_no (x:=x) (house:=house) (name:=name) hin)
  obtain ⟨R,hR⟩:∃ R,pastOf x house name upto=R:=⟨_,rfl⟩
  rw [hR] at HE ⊢
  clear hR hin
  go_enter Tryz.func55,Tryz.ntmps55
  go_wp2_with (fail)
  obtain ⟨W,hW⟩:∃ W,(w.alloc (.cells #[.slice A0 x.houses.length k0,.slice A1 x.auditors.length k1,.slice A2 x.notes.length k2,.slice A3 x.given.length k3,.slice A4 x.evil.length k4,.slice A5 x.codes.length k5] 132)).alloc (.cells #[.slice none 0 0] 66)=W:=⟨_,rfl⟩
  rw [hW]
  obtain ⟨hBW,hWs,zf,x0,x1,x2,x3,x4,x5,z0⟩:=hWd W hW.symm
  clear hW hWd
  refine (HEP.out W).mono ?_
  rintro e1 w1 ⟨rfl,rfl⟩
  go_wp2
  refine bodyPost_ret (v:=.tuple #[.agg #[.slice none 0 0],.int .i64 3]) (by simp [results,Tryz.results55,go_sem, *]) rfl ?_
  exact PsRes.mk (r:=w.heap.size+1) HE.out rfl (Nat.le_refl _) zz91 (row_nil _ _) (Nat.le_add_right _ 1) hBW
 have h2:1≤upto∧upto≤4:=by simpa [inB] using hin
 obtain ⟨u,rfl⟩:∃ u:Nat,upto=u:=⟨upto.toNat,zz18⟩
 have HE:=zd (past_yes (x:=x) (house:=house) (name:=name) hin)
 obtain ⟨R,hR⟩:∃ R,pastOf x house name (u:Int)=R:=⟨_,rfl⟩
 rw [hR] at HE ⊢
 have hu1:1≤u:=zz18
 have hu4:u≤4:=zz18
 clear hR hin h2 hu
 go_enter Tryz.func55,Tryz.ntmps55
 go_wp2_with (fail)
 obtain ⟨W,hW⟩:∃ W,(w.alloc (.cells #[.slice A0 x.houses.length k0,.slice A1 x.auditors.length k1,.slice A2 x.notes.length k2,.slice A3 x.given.length k3,.slice A4 x.evil.length k4,.slice A5 x.codes.length k5] 132)).alloc (.cells #[.slice none 0 0] 66)=W:=⟨_,rfl⟩
 rw [hW]
 obtain ⟨hBW,hWs,zf,x0,x1,x2,x3,x4,x5,z0⟩:=hWd W hW.symm
 clear hW hWd
 refine (HEP.out W).mono ?_
 rintro e1 w1 ⟨rfl,rfl⟩
 have HBW:=zd hBW
 have hlW:w.heap.size+1<W.heap.size:=zz18
 have HALL:=zd (fun (w':World) (h:Below W.heap.size W w') => (⟨(h.cell (p:=⟨w.heap.size,0,none⟩) zz63).trans x0,(h.cell (p:=⟨w.heap.size,1,none⟩) zz63).trans x1,(h.cell (p:=⟨w.heap.size,2,none⟩) zz63).trans x2,(h.cell (p:=⟨w.heap.size,3,none⟩) zz63).trans x3,(h.cell (p:=⟨w.heap.size,4,none⟩) zz63).trans x4,(h.cell (p:=⟨w.heap.size,5,none⟩) zz63).trans x5,(h.cell (p:=⟨w.heap.size+1,0,none⟩) zz31).trans z0,fun o => (h.frozen (p:=⟨w.heap.size+1,o,none⟩) hlW).trans (zf o)⟩:w'.cell? ⟨w.heap.size,0,none⟩=some (.slice A0 x.houses.length k0)∧w'.cell? ⟨w.heap.size,1,none⟩=some (.slice A1 x.auditors.length k1)∧w'.cell? ⟨w.heap.size,2,none⟩=some (.slice A2 x.notes.length k2)∧w'.cell? ⟨w.heap.size,3,none⟩=some (.slice A3 x.given.length k3)∧w'.cell? ⟨w.heap.size,4,none⟩=some (.slice A4 x.evil.length k4)∧w'.cell? ⟨w.heap.size,5,none⟩=some (.slice A5 x.codes.length k5)∧w'.cell? ⟨w.heap.size+1,0,none⟩=some (.slice none 0 0)∧∀ o,w'.frozen? ⟨w.heap.size+1,o,none⟩=false))
 clear hBW hWs x0 x1 x2 x3 x4 x5 z0 zf
 go_wp2_with (fail)
 obtain ⟨V0,hV0⟩:∃ V,W.alloc (.cells #[.slice none 0 0] 66)=V:=⟨_,rfl⟩
 have hV0f:Below W.heap.size W V0∧V0.heap.size=W.heap.size+1∧V0.cell? ⟨W.heap.size,0,none⟩=some (.slice none 0 0)∧∀ o,V0.frozen? ⟨W.heap.size,o,none⟩=false:=by
  rw [← hV0]; exact ⟨(Below.refl _ _).alloc (Nat.le_refl _) _,zz49,yaa _ _ _ _ _ rfl,fun o => frozen_newR _ _ _ _⟩
 obtain ⟨hbV0,hsV0,p0,pf⟩:=hV0f
 have HBV0:=zd hbV0
 have hlV0:W.heap.size<V0.heap.size:=zz18
 have HP0:=zd (And.intro p0 pf)
 clear hbV0 hsV0 p0 pf
 rw [hV0]
 clear hV0
 go_loopw [11] (fun i wr => ∃ (e:Nat) (L:List Whole) (A:Option Addr) (c k:Nat),e≤u∧i = .int .i64 ((e:Int)+1)∧Hid (pastGo x house name (u - e) (e+1) L=R)∧Hid (k=L.length∧L.length=e)∧Hid (Row true wr A c L (nw (W.heap.size+1))∧L.length≤c∧c≤maxLen)∧Hid (Below W.heap.size W wr)∧W.heap.size<wr.heap.size∧wr.cell? ⟨W.heap.size,0,none⟩=some (.slice A k c)∧(∀ o,wr.frozen? ⟨W.heap.size,o,none⟩=false)) (fun i _ => u+1 - (intOf i).toNat)
 case atStart => exact ⟨0, [],none,0,0,Nat.zero_le _,rfl,zd HE.out.symm,zd ⟨rfl,rfl⟩,zd ⟨row_nil _ _,Nat.le_refl _,zz91⟩,HBV0,hlV0,HP0.out.1,HP0.out.2⟩
 case round =>
  obtain ⟨e,L,A,c,k,he,rfl,HG,HK,HRW,HBr,hzr,p0,pf⟩:=hrel
  have HBw:=zd (HBW.out.trans (HBr.out.mono HBW.out.size))
  obtain ⟨x0,x1,x2,x3,x4,x5,z0,zf⟩:=HALL.out wr HBr.out
  have hlw0:w.heap.size<wr.heap.size:=zz18
  have hlw1:w.heap.size+1<wr.heap.size:=zz18
  by_cases hlt:e<u
  ·have hle:((e:Int)+1)≤(u:Int):=by omega
   have hled:decide (((e:Int)+1)≤(u:Int))=true:=decide_eq_true hle
   have HRC:=zd (HRS.out wr HBw.out ((e:Int)+1) zz83)
   obtain ⟨m,hm⟩:∃ m,u - e=m+1:=⟨u - e - 1,zz18⟩
   have HG2:=zd (fun h => (go_bad (x:=x) (house:=house) (name:=name) (m:=m) (e:=e+1) (acc:=L) h).symm.trans ((congrArg (fun q => pastGo x house name q (e+1) L) hm.symm).trans HG.out))
   have HG3:=zd (fun h => (go_good (x:=x) (house:=house) (name:=name) (m:=m) (e:=e+1) (acc:=L) h).symm.trans ((congrArg (fun q => pastGo x house name q (e+1) L) hm.symm).trans HG.out))
   rw [show (((e+1:Nat):Int))=(e:Int)+1 from rfl] at HG2 HG3
   have hc:=res_code x house name ((e:Int)+1)
   obtain ⟨Q,hQ⟩:∃ Q,resolve x house name ((e:Int)+1)=Q:=⟨_,rfl⟩
   rw [hQ] at HRC HG2 HG3 hc
   obtain ⟨y,code⟩:=Q
   simp only at HG2 HG3 hc
   have HM:=zd hm
   clear hQ hm
   go_wp2_with (fail)
   refine HRC.out.mono ?_
   rintro e2 w2 ⟨cy,rfl,hy,hb2⟩
   have HB2:=zd hb2
   have hs2:=hb2.size
   have HY:=zd hy
   obtain ⟨P0,n0,T0,P1,n1,T1,P2,n2,T2,P3,n3,T3,P4,n4,T4,P5,n5,T5,P6,n6,T6,rfl, -⟩:=Whole.open hy
   simp only [Whole.cs] at HY ⊢
   have HB2W:=zd (HBr.out.trans (hb2.mono HBr.out.size))
   have hlw2:w.heap.size<w2.heap.size:=zz18
   have hlw3:w.heap.size+1<w2.heap.size:=zz18
   have hlw4:W.heap.size<w2.heap.size:=zz18
   clear x0 x1 x2 x3 x4 x5 z0 zf hy HRC
   obtain ⟨x0,x1,x2,x3,x4,x5,z0,zf⟩:=HALL.out w2 HB2W.out
   replace p0:=(hb2.cell (p:=⟨W.heap.size,0,none⟩) hzr).trans p0
   replace pf:=fun o => (hb2.frozen (p:=⟨W.heap.size,o,none⟩) hzr).trans (pf o)
   clear hb2
   by_cases h0:code=0
   rotate_left
   ·have HEE:Hid (R=(⟨[]⟩,code)):=zd (HG2.out h0).symm
    have hq:(code != 0)=true:=by rw [bne_iff_ne]; exact h0
    have hq2:(code == 0)=false:=beq_eq_false_iff_ne.2 h0
    clear HG2 HG3 h0 hc
    go_wp2
    refine bodyPost_ret (v:=.tuple #[.agg #[.slice none 0 0],.int .i64 code]) (by simp [results,Tryz.results55,go_sem, *]) rfl ?_
    have hbb:=HBw.out.trans (HB2.out.mono HBw.out.size)
    exact PsRes.alloc (r:=w.heap.size+1) HEE.out (Nat.le_add_right _ 1) hbb
   subst h0
   have HEG:=zd (HG3.out rfl)
   clear HG2 HG3 hc
   have hlen4:k≤2000000000:=by have h8:=HK.out; omega
   have HK1:=zd HK.out.1
   go_wp2_with (at_builtin; refine wpList_pushN (α:=Whole) (w1:=wr) (B:=W.heap.size+1) (y:=y) (T:=rng wr.heap.size w2.heap.size) rfl _ _ rfl rfl HK1.out HRW.out.1 HRW.out.2.1 HRW.out.2.2 hzr ?hb ?hy ?hT rfl ?hbb hlen4 ?_; (case hb => exact HB2.out.alloc HB2.out.size _); (case hy => exact Lay.later HY.out ((Below.refl _ _).alloc (Nat.le_refl _) _)); (case hT => exact fun b h => h.1); (case hbb => first | rfl | simp); intro A6 c6 w6 r6 l6 m6 hb6 hs6; have hb62:=((HB2W.out.mono (Nat.le_refl _)).alloc HB2W.out.size _).trans (hb6.mono (Nat.le_succ _)); have p6:=(hb6.cell (p:=⟨W.heap.size,0,none⟩) (Nat.lt_succ_self _)).trans (cell_alloc p0); have pf6:=(fun o => (hb6.frozen (p:=⟨W.heap.size,o,none⟩) (Nat.lt_succ_self _)).trans ((((Below.refl w2.heap.size w2).alloc (Nat.le_refl _) _).frozen (p:=⟨W.heap.size,o,none⟩) hlw4).trans (pf o))); have R6:=zd r6; have LM6:=zd (And.intro l6 m6); have HB62:=zd hb62; have hW6:=hb62.size; have hs6b:w2.heap.size<w6.heap.size:=(by have h9:=hs6; rw [World.size_alloc] at h9; omega); have P6:=zd (World.cell?_setCell_same w6 ⟨W.heap.size,0,none⟩ (.slice A6 (k+1) c6) p6); have PF6:=zd pf6; clear r6 l6 m6 hb6 hb62)
   go_roundw
   case rel => exact ⟨e+1,L ++ [y],A6,c6,k+1,hlt,by go_num,zd (by rw [show u - (e+1)=m by have:=HM.out; omega]; exact HEG.out),zd ⟨by rw [List.length_append, ← HK.out.1]; rfl,by rw [List.length_append,HK.out.2]; rfl⟩,zd ⟨R6.out.setC (fun h => by have h1:W.heap.size+1≤W.heap.size:=h; omega) _,LM6.out.1,LM6.out.2⟩,zd (Below.setCell HB62.out (Nat.le_refl _) _),zz57,P6.out,fun o => by simpa using PF6.out o⟩
   case measure => simp [intOf]; omega
  ·have hee:e=u:=by omega
   subst hee
   have HEE:Hid (R=(⟨L⟩,0)):=zd (by have h9:=HG.out; rw [Nat.sub_self] at h9; exact h9.symm)
   have hled:decide (((e:Int)+1)≤(e:Int))=false:=decide_eq_false zz18
   go_wp2
   refine bodyPost_ret (v:=.tuple #[.agg #[.slice A k c],.int .i64 0]) (by simp [results,Tryz.results55,go_sem, *]) rfl ?_
   exact PsRes.mk (r:=w.heap.size+1) HEE.out HK.out.1 HRW.out.2.1 HRW.out.2.2 (HRW.out.1.mono (fun b h => by have h1:W.heap.size+1≤b:=h; show w.heap.size+1+1≤b; omega)) (Nat.le_add_right _ 1) HBw.out
end Go.Proofs.YtcbbjfafmmcfiaaGreatDoor
