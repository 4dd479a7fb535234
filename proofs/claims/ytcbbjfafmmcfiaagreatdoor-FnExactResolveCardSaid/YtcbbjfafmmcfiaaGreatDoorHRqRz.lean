/- A part of the proof. -/
import Derived.Test.YtcbbjfafmmcfiaaGreatDoorHRqRy
set_option linter.unusedVariables false
set_option linter.unusedSimpArgs false
namespace Go.Proofs.YtcbbjfafmmcfiaaGreatDoor
open Go.RowKit Lay Mk
theorem cnb_resS (x : Wrld) (house : Int) (name : ByteArray) (ep : Int) (h : House) (s : Server) (sl : Seal) (hz : x.sz ≤ 1048576) (hs : sl.sz ≤ 1048576) : (resolveS x house name ep h s sl).1.ct ≤ 1000000000000:=by
 unfold resolveS; split
 ·have h1:=ctb_Proof (lookServer s ep name).1
  have h2:=look_small s ep name
  have h3:=comb_small (h.servers.map (shRoot ep)) (shardOf name h.coord.k) 16
  have h4:=ctb_Seal sl
  have h5:=cnb_stampsOf x house ep hz
  have h6:=cnL_txts (combineSides (h.servers.map (shRoot ep)) (shardOf name h.coord.k) 16).1
  have h8 : cnL (stampsOf x house ep) ≤ 900000000000:=by
   have hzg : szL x.given ≤ 1048576:=by simp only [Wrld.sz] at hz; omega
   have g0:=stamp_cn x.given house ep hzg 0
   have g1:=stamp_cn x.given house ep hzg 1
   have g2:=stamp_cn x.given house ep hzg 2
   unfold stampsOf stampTo stampTo stampTo stampTo
   simp only [cnL,List.map_append,List.sum_append,List.nil_append] at *
   omega
  simp only [Proof.ct,Seal.ct] at h1 h4
  simp only [Whole.ct]
  omega
 ·exact Nat.zero_le _
theorem cnb_resH (x : Wrld) (house : Int) (name : ByteArray) (ep : Int) (h : House) (hz : x.sz ≤ 1048576) (hh : h.sz ≤ 1048576) : (resolveH x house name ep h).1.ct ≤ 1000000000000:=by
 unfold resolveH
 split
 ·exact Nat.zero_le _
 ·split
  ·exact Nat.zero_le _
  ·split
   ·split
    ·rename_i sl hsl
     have hm:=List.mem_of_getElem? hsl
     obtain ⟨j,hj,rfl⟩:=List.getElem_of_mem hm
     exact cnb_resS _ _ _ _ _ _ _ hz (sz_get hj (show szL h.coord.seals ≤ 1048576 by simp only [House.sz,Coord.sz] at hh; omega))
    ·exact Nat.zero_le _
   ·exact Nat.zero_le _
theorem cnb_resolve (x : Wrld) (house : Int) (name : ByteArray) (ep : Int) (hz : x.sz ≤ 1048576) (_hn : name.size ≤ 1048576) : (resolve x house name ep).1.ct ≤ 1000000000000:=by
 unfold resolve
 split
 ·exact Nat.zero_le _
 ·split
  ·rename_i h hh
   have hm:=List.mem_of_getElem? hh
   obtain ⟨j,hj,rfl⟩:=List.getElem_of_mem hm
   exact cnb_resH _ _ _ _ _ hz (sz_get hj (show szL x.houses ≤ 1048576 by simp only [Wrld.sz] at hz; omega))
  ·exact Nat.zero_le _
end Go.Proofs.YtcbbjfafmmcfiaaGreatDoor
