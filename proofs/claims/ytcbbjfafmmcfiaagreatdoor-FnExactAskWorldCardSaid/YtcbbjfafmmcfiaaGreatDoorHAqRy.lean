/- A part of the proof. -/
import Derived.Test.YtcbbjfafmmcfiaaGreatDoorHAqRw
set_option linter.unusedVariables false
set_option linter.unusedSimpArgs false
namespace Go.Proofs.YtcbbjfafmmcfiaaGreatDoor
open Go.RowKit Lay Mk
theorem asked_code (x:Wrld) (house:Int) (name:ByteArray) (ep:Int):0≤askedC x house name ep∧askedC x house name ep≤3:=by
 unfold askedC; repeat' split
 all_goals decide
theorem resS_code (x:Wrld) (house:Int) (name:ByteArray) (ep:Int) (h:House) (s:Server) (sl:Seal):0≤(resolveS x house name ep h s sl).2∧(resolveS x house name ep h s sl).2≤4:=by
 unfold resolveS; split <;> simp
theorem resH_code (x:Wrld) (house:Int) (name:ByteArray) (ep:Int) (h:House):0≤(resolveH x house name ep h).2∧(resolveH x house name ep h).2≤4:=by
 unfold resolveH
 split
 ·simp
 ·split
  ·simp
  ·split
   ·split
    ·exact resS_code _ _ _ _ _ _ _
    ·simp
   ·simp
theorem res_code (x:Wrld) (house:Int) (name:ByteArray) (ep:Int):0≤(resolve x house name ep).2∧(resolve x house name ep).2≤4:=by
 unfold resolve
 split
 ·have:=asked_code x house name ep; simp only; omega
 ·split
  ·exact resH_code _ _ _ _ _
  ·simp
theorem szL_txt_le (m:Nat):∀ (l:List ByteArray),(∀ s ∈ l,s.size≤m)→szL l≤l.length*(m+1)
 | [],_ => by simp [szL]
 | s :: r,h => by
  have h1:=szL_txt_le m r (fun y hy => h y (List.mem_cons_of_mem _ hy))
  have h2:=h s (List.mem_cons_self ..)
  have h3:Mk.sz s=s.size:=rfl
  simp only [szL,List.map_cons,List.sum_cons,List.length_cons] at h1 ⊢
  rw [Nat.succ_mul]; omega
theorem sidesD_all (n:Int) (ix:Nat) (l:List Leaf):∀ j,∀ s ∈ sidesD n ix l j,s.size≤32
 | 0,s,h => by simp [sidesD] at h
 | j+1,s,h => by
  have e:sidesD n ix l (j+1)=sidesD n ix l j ++ [sideAt n ix l j]:=rfl
  rw [e,List.mem_append] at h
  rcases h with h | h
  ·exact sidesD_all n ix l j s h
  ·have:s=sideAt n ix l j:=by simpa using h
   subst this; exact node_le _ _ _ _
theorem prove_small (xs:List Leaf) (name:ByteArray) (lv n:Int):(proveLeaf xs name lv n).1.sz≤1048576:=by
 unfold proveLeaf
 split
 ·rename_i h
  simp only [Bool.and_eq_true] at h
  have h1:=leavesOk_filter h.1 (fun l:Leaf => decide ((yaf l.name:Int)=yaf name))
  have h2:=leavesOk_len h1
  have h3:=szL_ok (leavesOk_all h1)
  have h4:=szL_txt_le 32 _ (sidesD_all n (yaf name) xs (8 - lv.toNat))
  rw [sidesD_len] at h4
  show szL (bucketOf xs (yaf name))+szL (sidesD n (yaf name) xs (8 - lv.toNat))≤_
  have h5:(8 - lv.toNat)*33≤8*33:=Nat.mul_le_mul_right _ zz13
  have h6:szL (bucketOf xs (yaf name))≤25*24:=Nat.le_trans h3 (Nat.mul_le_mul_left _ h2)
  omega
 ·exact Nat.zero_le _
theorem look_small (s:Server) (e:Int) (name:ByteArray):(lookServer s e name).1.sz≤1048576:=by
 unfold lookServer; split
 ·exact prove_small _ _ _ _
 ·exact Nat.zero_le _
theorem combD_len (n:Int):∀ (d:Nat) (l:List ByteArray) (s:Nat),(combD n d l s).length=d
 | 0,_,_ => rfl
 | d+1,l,s => by show (combD n d _ _).length+1=_; rw [combD_len n d]
theorem comb_small (l:List ByteArray) (s n:Int):(combineSides l s n).1.length≤2:=by
 unfold combineSides
 split
 ·show (combD n (depthOf l.length) l s.toNat).length≤2
  rw [combD_len]; unfold depthOf; repeat' split
  all_goals omega
 ·exact Nat.zero_le _
end Go.Proofs.YtcbbjfafmmcfiaaGreatDoor
