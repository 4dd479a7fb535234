/- A part of the proof. -/
import Derived.Test.YtcbbjfafmmcfiaaGreatDoorHAqCm
import Derived.Test.YtcbbjfafmmcfiaaGreatDoorHAqLk
set_option linter.unusedVariables false
set_option linter.unusedSimpArgs false
namespace Go.Proofs.YtcbbjfafmmcfiaaGreatDoor
open Go.RowKit Lay Mk
def viewBad (ep:Int) (s:Server):Bool:=!s.up || decide ((s.views.length:Int)≤ep)
def shRoot (ep:Int) (s:Server):ByteArray:=shardRoot (s.views.getD ep.toNat []) s.k s.at_ 16
def wzero:Whole:=⟨⟨[], []⟩, [],⟨⟨0,0,⟨#[]⟩,⟨#[]⟩⟩,⟨0, [], [], []⟩⟩, []⟩
def resolveS (x:Wrld) (house:Int) (name:ByteArray) (ep:Int) (h:House) (s:Server) (sl:Seal):Whole × Int :=
 if ((lookServer s ep name).2 && (combineSides (h.servers.map (shRoot ep)) (shardOf name h.coord.k) 16).2)=true then (⟨(lookServer s ep name).1,(combineSides (h.servers.map (shRoot ep)) (shardOf name h.coord.k) 16).1,sl,stampsOf x house ep⟩,0) else (wzero,4)
def resolveH (x:Wrld) (house:Int) (name:ByteArray) (ep:Int) (h:House):Whole × Int :=
 if canMv h=false then (wzero,4)
 else if h.servers.any (viewBad ep)=true then (wzero,4)
 else match h.servers[(shardOf name h.coord.k).toNat]? with
  | some s => (match h.coord.seals[(ep - 1).toNat]? with
   | some sl => resolveS x house name ep h s sl
   | none => (wzero,4))
  | none => (wzero,4)
def resolve (x:Wrld) (house:Int) (name:ByteArray) (ep:Int):Whole × Int :=
 if ¬ askedC x house name ep=0 then (wzero,askedC x house name ep)
 else match x.houses[house.toNat]? with
  | some h => resolveH x house name ep h
  | none => (wzero,4)
theorem asked_0 {x:Wrld} {house:Int} {name:ByteArray} {ep:Int} (h:askedC x house name ep=0):∃ (k:Nat) (hk:k<x.houses.length),house=k∧nameOk name=true∧1≤ep∧ep≤(x.houses[k]).coord.seals.length:=by
 cases h1:inB house 0 ((x.houses.length:Int) - 1)
 ·rw [asked_1 h1] at h; cases h
 ·obtain ⟨k,hk,hkl⟩:=in_idx h1
  subst hk
  rw [asked_at h1 hkl] at h
  cases h2:nameOk name
  ·rw [if_pos h2] at h; cases h
  ·rw [if_neg (by simp [h2])] at h
   cases h3:inB ep 1 ((x.houses[k]).coord.seals.length:Int)
   ·rw [if_pos h3] at h; cases h
   ·have h4:1≤ep∧ep≤((x.houses[k]).coord.seals.length:Int):=by simpa [inB] using h3
    exact ⟨k,hkl,rfl,rfl,h4.1,h4.2⟩
theorem res_bad {x:Wrld} {house:Int} {name:ByteArray} {ep:Int} (h : ¬ askedC x house name ep=0):resolve x house name ep=(wzero,askedC x house name ep):=by unfold resolve; rw [if_pos h]
theorem res_at {x:Wrld} {name:ByteArray} {ep:Int} {k:Nat} (h:askedC x k name ep=0) (hk:k<x.houses.length):resolve x k name ep=resolveH x k name ep x.houses[k]:=by
 unfold resolve; rw [if_neg (by simp [h]),Int.toNat_natCast,List.getElem?_eq_getElem hk]
theorem resH_no {x:Wrld} {house:Int} {name:ByteArray} {ep:Int} {h:House} (hc:canMv h=false):resolveH x house name ep h=(wzero,4):=by unfold resolveH; rw [if_pos hc]
theorem resH_bad {x:Wrld} {house:Int} {name:ByteArray} {ep:Int} {h:House} (hc:canMv h=true) {j:Nat} (hj:j<h.servers.length) (hb:viewBad ep h.servers[j]=true):resolveH x house name ep h=(wzero,4):=by
 unfold resolveH
 rw [if_neg (by simp [hc]),if_pos]
 rw [List.any_eq_true]; exact ⟨_,List.getElem_mem hj,hb⟩
theorem resH_at {x:Wrld} {house:Int} {name:ByteArray} {ep:Int} {h:House} (hc:canMv h=true) (ha:∀ j (hj:j<h.servers.length),viewBad ep h.servers[j]=false) {q m:Nat} (hq:shardOf name h.coord.k=q) (hql:q<h.servers.length) (hm:ep=(m:Int)+1) (hml:m<h.coord.seals.length):resolveH x house name ep h=resolveS x house name ep h h.servers[q] h.coord.seals[m]:=by
 unfold resolveH
 rw [if_neg (by simp [hc]),if_neg,hq,Int.toNat_natCast,List.getElem?_eq_getElem hql,show (ep - 1).toNat=m by omega,List.getElem?_eq_getElem hml]
 rw [Bool.not_eq_true,List.any_eq_false]
 intro s hs
 obtain ⟨j,hj,rfl⟩:=List.getElem_of_mem hs
 simp [ha j hj]
theorem canMv_shard {h:House} (hc:canMv h=true) (name:ByteArray):∃ q:Nat,shardOf name h.coord.k=q∧q<h.servers.length:=by
 unfold canMv at hc
 rw [Bool.and_eq_true] at hc
 have h2:h.servers.length=manyK h.coord.k:=by simpa using hc.2
 have h3:0≤h.coord.k∧h.coord.k≤2:=by simpa [inB] using hc.1
 have hi:=indexOf_lt name
 rw [h2,shard_at hc.1]
 refine ⟨_,rfl,?_⟩
 unfold manyK
 rw [if_pos hc.1]
 rcases (show h.coord.k=0∨h.coord.k=1∨h.coord.k=2 by omega) with e | e | e <;> rw [e]
 ·show yaf name / 256<1; omega
 ·show yaf name / 128<2; omega
 ·show yaf name / 64<4; omega
theorem shRoot_at {s:Server} {e:Nat} (h:e<s.views.length):shRoot e s=shardRoot s.views[e] s.k s.at_ 16:=by
 unfold shRoot; rw [Int.toNat_natCast,getD_views h]
theorem shRoot_le (ep:Int) (s:Server):(shRoot ep s).size≤32:=shardRoot_le _ _ _ _
theorem roots_snoc {xs:List Server} {ep:Int} {k:Nat} (h:k<xs.length):(xs.take (k+1)).map (shRoot ep)=(xs.take k).map (shRoot ep) ++ [shRoot ep xs[k]]:=by
 rw [List.take_succ_eq_append_getElem h,List.map_append]; rfl
end Go.Proofs.YtcbbjfafmmcfiaaGreatDoor
