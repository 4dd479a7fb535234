/- A part of the proof. -/
import Derived.Test.YtgllafgpmenjjaaGreatDoorHChL23xWf
set_option linter.unusedVariables false
set_option linter.unusedSimpArgs false
set_option maxRecDepth 20000
set_option maxHeartbeats 8000000
namespace Go.Proofs.YtgllafgpmenjjaaGreatDoor
open Go.RowKit Lay Mk
def foldPair (ix m : Nat) (h s : ByteArray) : List ByteArray:=if bitOf ix m = 1 then [s,h] else [h,s]
def foldL (n : Int) (ix : Nat) : Nat → ByteArray → List ByteArray → List ByteArray
 | _,_, [] => []
 | m,h,s :: r => tagText 3 (foldPair ix (m - 1) h s) :: foldL n ix (m - 1) (yaf 3 (foldPair ix (m - 1) h s) n) r
def foldH (n : Int) (ix : Nat) : Nat → ByteArray → List ByteArray → ByteArray
 | _,h, [] => h
 | m,h,s :: r => foldH n ix (m - 1) (yaf 3 (foldPair ix (m - 1) h s) n) r
def foldUp (n : Int) (h : ByteArray) (ix : Nat) (lv : Int) (sides : List ByteArray) : ByteArray:=if (inB lv 0 8 && decide ((sides.length : Int) ≤ lv)) = true then foldH n ix lv.toNat h sides else ⟨#[]⟩
theorem foldL_len (n : Int) (ix : Nat) : ∀ (l : List ByteArray) (m : Nat) (h : ByteArray),(foldL n ix m h l).length = l.length
 | [],_,_ => rfl
 | s :: r,m,h => by unfold foldL; rw [List.length_cons,foldL_len n ix r]; rfl
theorem bitOf_two (n k : Nat) : bitOf n k = 0 ∨ bitOf n k = 1:=by unfold bitOf; omega
theorem pair_one2 {ix m : Nat} {h s : ByteArray} (e : bitOf ix m = 1) : foldPair ix m h s = [s,h]:=by unfold foldPair; rw [if_pos e]
theorem pair_zero2 {ix m : Nat} {h s : ByteArray} (e : bitOf ix m = 0) : foldPair ix m h s = [h,s]:=by unfold foldPair; rw [if_neg zz8]
theorem drop_at {l : List ByteArray} {k : Nat} (h : k < l.length) : l.drop k = l[k] :: l.drop (k + 1):=List.drop_eq_getElem_cons h
theorem hash_max2 (k : Int) (l : List ByteArray) (n : Int) : (yaf k l n).size ≤ maxLen:=ml (tagHash_le k l n) zz8
theorem tagText_max {kind : Int} {xs : List ByteArray} : (tagText kind xs).size ≤ 100000:=by
 unfold tagText
 split
 ·rename_i h
  unfold tagOk at h
  simp only [Bool.and_eq_true,decide_eq_true_eq] at h
  obtain ⟨⟨_,h2⟩,h3⟩:=h
  rw [bs_size]
  unfold tagBody
  rw [List.length_cons]
  have key : ∀ ys : List ByteArray,partsOk ys = true → (ys.flatMap partB).length ≤ 205 * ys.length:=by
   intro ys
   induction ys with
   | nil => intro _; simp
   | cons y r ih =>
    intro hp
    unfold partsOk at hp ih
    rw [List.all_cons,Bool.and_eq_true] at hp
    have h4:=ih hp.2
    have h5:=partB_le (p:=y) (by simpa using hp.1)
    rw [List.flatMap_cons,List.length_append,List.length_cons]
    omega
  have:=key xs h3
  omega
 ·exact Nat.zero_le _
theorem row_pairC (w : World) (s t : ByteArray) (hs : s.size ≤ maxLen) (ht : t.size ≤ maxLen) (ty : TypeId) (b : Nat) (hb : b = w.heap.size) : Row false (w.alloc (.cells #[.string s, .string t] ty)) (some ⟨b,0,none⟩) 2 [s,t] (fun q => q = b):=by
 subst hb; exact row_pair w s t hs ht ty
theorem impl_foldTexts (w : World) (hash : ByteArray) (hh : hash.size ≤ maxLen) (ix : Nat) (hix : ix < 256) (lv : Nat) (hlv : lv ≤ 8) (sides : List ByteArray) (A0 : Option Addr) (cap0 : Nat) (S : Blks) (hx : Row false w A0 cap0 sides S) (hsl : sides.length ≤ lv) (n : Int) (hn : I64 n) (hT : Tabs w) : Calls Tryz.prog 145 #[.string hash, .int .i64 ix, .int .i64 lv, .slice A0 sides.length cap0, .int .i64 n] w fun e w' => ∃ A c,e = .returned (.tuple #[.slice A (foldL n ix lv hash sides).length c, .string (foldH n ix lv hash sides)]) ∧ Own w w' A c (foldL n ix lv hash sides):=by
 have HT:=zd hT
 clear hT
 obtain ⟨RL,hRL⟩ : ∃ R,foldL n ix lv hash sides = R:=⟨_,rfl⟩
 obtain ⟨RH,hRH⟩ : ∃ R,foldH n ix lv hash sides = R:=⟨_,rfl⟩
 have HRL:=zd hRL
 have HRH:=zd hRH
 rw [hRL,hRH]
 clear hRL hRH
 go_enter Tryz.func145,Tryz.ntmps145
 go_wp2
 have HO:=zd (Own.start (α:=ByteArray) (Below.refl w.heap.size w))
 go_loopw [0,2,12,20] (fun x v u i wr => ∃ (k m : Nat) (h : ByteArray) (L : List ByteArray) (nL : Nat) (A : Option Addr) (c : Nat),k ≤ sides.length ∧ i = .int .i64 k ∧ v = .int .i64 m ∧ Hid (m + k = lv) ∧ x = .string h ∧ h.size ≤ maxLen ∧ u = .slice A nL c ∧ Hid (nL = L.length) ∧ nL ≤ k ∧ Hid (RL = L ++ foldL n ix m h (sides.drop k)) ∧ Hid (RH = foldH n ix m h (sides.drop k)) ∧ Own w wr A c L) (fun _ _ _ i _ => sides.length - (intOf i).toNat)
 case atStart => exact ⟨0,lv,hash, [],0,none,0,Nat.zero_le _,rfl,rfl,zd rfl,rfl,hh,rfl,zd rfl,Nat.le_refl _,zd (by rw [← HRL.out]; simp),zd (by rw [← HRH.out]; simp),HO.out⟩
 case round =>
  clear HO HRL HRH
  obtain ⟨k,m,h,L,nL,A,c,hk,rfl,rfl,HM,rfl,hhm,rfl,HnL,hnk,HL,HH,hown⟩:=hrel
  have hb:=hown.bl
  have HOW:=zd hown
  by_cases hlt : k < sides.length
  ·obtain ⟨b1,o1,rfl,hl1,f0,s0⟩:=Row.str hx hlt
   replace f0:=(hb.cell (p:=⟨b1,o1 + k,none⟩) hl1).trans f0
   have hl2 : b1 < wr.heap.size:=Nat.lt_of_lt_of_le hl1 hb.size
   have HD:=zd (drop_at hlt)
   obtain ⟨s,hs⟩ : ∃ s,sides[k] = s:=⟨_,rfl⟩
   rw [hs] at f0 s0 HD
   obtain ⟨m',hm'⟩ : ∃ m',m = m' + 1:=⟨m - 1,by have:=HM.out; omega⟩
   subst hm'
   have HM2 : Hid (m' + (k + 1) = lv):=zd (by have:=HM.out; omega)
   have hm8 : m' < 8:=by have:=HM.out; omega
   have HNL : Hid (RL = L ++ tagText 3 (foldPair ix m' h s) :: foldL n ix m' (yaf 3 (foldPair ix m' h s) n) (sides.drop (k + 1))):=zd (by rw [HL.out,HD.out]; rfl)
   have HNH : Hid (RH = foldH n ix m' (yaf 3 (foldPair ix m' h s) n) (sides.drop (k + 1))):=zd (by rw [HH.out,HD.out]; rfl)
   have hsub : IntKind.i64.wrap (((m' + 1 : Nat) : Int) - 1) = (m' : Int):=by rw [IntWalk.i64_in _ zz8]; omega
   have hsub2 : ((m' + 1 : Nat) : Int) - 1 = (m' : Int):=zz8
   have hsub3 : (m' : Int) + 1 - 1 = (m' : Int):=zz8
   have HBT:=zd (fun W => impl_BitOf W ix hix m' hm8)
   have HOWb:=zd hb
   clear hs HD HL HH HM hown hb
   rcases bitOf_two ix m' with hbit | hbit
   ·have hq : ((bitOf ix m' : Int) == 1) = false:=by rw [hbit]; rfl
    have HPE:=zd (pair_zero2 (h:=h) (s:=s) hbit)
    have HNL2 : Hid (RL = L ++ tagText 3 [h,s] :: foldL n ix m' (yaf 3 [h,s] n) (sides.drop (k + 1))):=zd (by rw [HNL.out,HPE.out])
    have HNH2 : Hid (RH = foldH n ix m' (yaf 3 [h,s] n) (sides.drop (k + 1))):=zd (by rw [HNH.out,HPE.out])
    obtain ⟨bt,hbt⟩ : ∃ bt,bitOf ix m' = bt:=⟨_,rfl⟩
    rw [hbt] at hq HBT
    clear hbit HPE hbt HNL HNH
    go_wp2_with (first | (go_at_call 183; refine (HBT.out _).mono ?_; rintro e9 w9 ⟨rfl,rfl⟩) | (go_at_call 184; fail))
    refine (impl_TagText _ 3 zz39 [h,s] _ _ _ (row_pairC _ h s hhm s0 _ _ zz66) zz32).mono ?_
    rintro e5 w5 ⟨rfl,hb5⟩
    have HO5:=zd ((HOW.out.alloc _).later hb5)
    have htm:=tagText_max (kind:=3) (xs:=[h,s])
    have HTH : Hid (yaf 3 [h,s] n = if tagOk 3 [h,s] = true then cutDigest (tagText 3 [h,s]) n else ⟨#[]⟩):=zd rfl
    have hhx:=hash_max2 3 [h,s] n
    obtain ⟨h',hh'⟩ : ∃ h',yaf 3 [h,s] n = h':=⟨_,rfl⟩
    rw [hh'] at HTH HNL2 HNH2 hhx
    obtain ⟨t,ht⟩ : ∃ t,tagText 3 [h,s] = t:=⟨_,rfl⟩
    rw [ht] at HTH HNL2 htm
    simp only [ht]
    have htx : t.size ≤ maxLen:=ml htm zz8
    have hts : t.size ≤ 100000000:=zz8
    have HLL : Hid (RL = (L ++ [t]) ++ foldL n ix m' h' (sides.drop (k + 1))):=zd (by rw [HNL2.out]; simp)
    clear ht hh' hb5 hsub hsub2 hsub3 HNL2 htm
    cases hok : tagOk 3 [h,s]
    ·have HE : Hid (h' = ⟨#[]⟩):=zd (by rw [HTH.out,hok]; rfl)
     clear hok HTH
     go_wp2_with (at_builtin; refine wpList_push (α:=ByteArray) rfl _ _ rfl rfl HnL.out (HO5.out.alloc _) rfl rfl (src1 htx rfl rfl) zz8 ?_; intro A6 c6 w6 o6 z6)
     go_roundw
     case rel => first | exact ⟨k + 1,m',⟨#[]⟩,L ++ [t],nL + 1,A6,c6,hlt,by go_num,rfl,HM2,rfl,(by exact Nat.zero_le _),rfl,zd (by rw [HnL.out]; simp),zz8,zd (by rw [HLL.out,HE.out]),zd (by rw [HNH2.out,HE.out]),o6⟩ | ((repeat apply Exists.intro); exact ⟨⟨k + 1,m',⟨#[]⟩,L ++ [t],nL + 1,A6,c6,hlt,by go_num,rfl,HM2,rfl,(by exact Nat.zero_le _),rfl,zd (by rw [HnL.out]; simp),zz8,zd (by rw [HLL.out,HE.out]),zd (by rw [HNH2.out,HE.out]),o6⟩,rfl⟩)
     case measure => simp [intOf]; omega
    ·have HE : Hid (h' = cutDigest t n):=zd (by rw [HTH.out,hok]; rfl)
     clear hok HTH
     go_wp2_with (first | (at_builtin; refine wpList_push (α:=ByteArray) rfl _ _ rfl rfl HnL.out (HO5.out.alloc _) rfl rfl (src1 htx rfl rfl) zz8 ?_; intro A6 c6 w6 o6 z6) | (go_at_call 147; fail))
     refine (impl_CutDigest _ t hts n hn (HT.out.later o6.bl)).mono ?_
     rintro e7 w7 ⟨rfl,hb7⟩
     rw [← HE.out]
     have HO7:=zd (o6.later hb7)
     clear hb7 o6
     go_wp2
     go_roundw
     case rel => first | exact ⟨k + 1,m',h',L ++ [t],nL + 1,A6,c6,hlt,by go_num,rfl,HM2,rfl,hhx,rfl,zd (by rw [HnL.out]; simp),zz8,HLL,HNH2,HO7.out⟩ | ((repeat apply Exists.intro); exact ⟨⟨k + 1,m',h',L ++ [t],nL + 1,A6,c6,hlt,by go_num,rfl,HM2,rfl,hhx,rfl,zd (by rw [HnL.out]; simp),zz8,HLL,HNH2,HO7.out⟩,rfl⟩)
     case measure => simp [intOf]; omega
   ·have hq : ((bitOf ix m' : Int) == 1) = true:=by rw [hbit]; rfl
    have HPE:=zd (pair_one2 (h:=h) (s:=s) hbit)
    have HNL2 : Hid (RL = L ++ tagText 3 [s,h] :: foldL n ix m' (yaf 3 [s,h] n) (sides.drop (k + 1))):=zd (by rw [HNL.out,HPE.out])
    have HNH2 : Hid (RH = foldH n ix m' (yaf 3 [s,h] n) (sides.drop (k + 1))):=zd (by rw [HNH.out,HPE.out])
    obtain ⟨bt,hbt⟩ : ∃ bt,bitOf ix m' = bt:=⟨_,rfl⟩
    rw [hbt] at hq HBT
    clear hbit HPE hbt HNL HNH
    go_wp2_with (first | (go_at_call 183; refine (HBT.out _).mono ?_; rintro e9 w9 ⟨rfl,rfl⟩) | (go_at_call 184; fail))
    refine (impl_TagText _ 3 zz39 [s,h] _ _ _ (row_pairC _ s h s0 hhm _ _ zz66) zz32).mono ?_
    rintro e5 w5 ⟨rfl,hb5⟩
    have HO5:=zd (((HOW.out.alloc _).alloc _).later hb5)
    have htm:=tagText_max (kind:=3) (xs:=[s,h])
    have HTH : Hid (yaf 3 [s,h] n = if tagOk 3 [s,h] = true then cutDigest (tagText 3 [s,h]) n else ⟨#[]⟩):=zd rfl
    have hhx:=hash_max2 3 [s,h] n
    obtain ⟨h',hh'⟩ : ∃ h',yaf 3 [s,h] n = h':=⟨_,rfl⟩
    rw [hh'] at HTH HNL2 HNH2 hhx
    obtain ⟨t,ht⟩ : ∃ t,tagText 3 [s,h] = t:=⟨_,rfl⟩
    rw [ht] at HTH HNL2 htm
    simp only [ht]
    have htx : t.size ≤ maxLen:=ml htm zz8
    have hts : t.size ≤ 100000000:=zz8
    have HLL : Hid (RL = (L ++ [t]) ++ foldL n ix m' h' (sides.drop (k + 1))):=zd (by rw [HNL2.out]; simp)
    clear ht hh' hb5 hsub hsub2 hsub3 HNL2 htm
    cases hok : tagOk 3 [s,h]
    ·have HE : Hid (h' = ⟨#[]⟩):=zd (by rw [HTH.out,hok]; rfl)
     clear hok HTH
     go_wp2_with (at_builtin; refine wpList_push (α:=ByteArray) rfl _ _ rfl rfl HnL.out (HO5.out.alloc _) rfl rfl (src1 htx rfl rfl) zz8 ?_; intro A6 c6 w6 o6 z6)
     go_roundw
     case rel => first | exact ⟨k + 1,m',⟨#[]⟩,L ++ [t],nL + 1,A6,c6,hlt,by go_num,rfl,HM2,rfl,(by exact Nat.zero_le _),rfl,zd (by rw [HnL.out]; simp),zz8,zd (by rw [HLL.out,HE.out]),zd (by rw [HNH2.out,HE.out]),o6⟩ | ((repeat apply Exists.intro); exact ⟨⟨k + 1,m',⟨#[]⟩,L ++ [t],nL + 1,A6,c6,hlt,by go_num,rfl,HM2,rfl,(by exact Nat.zero_le _),rfl,zd (by rw [HnL.out]; simp),zz8,zd (by rw [HLL.out,HE.out]),zd (by rw [HNH2.out,HE.out]),o6⟩,rfl⟩)
     case measure => simp [intOf]; omega
    ·have HE : Hid (h' = cutDigest t n):=zd (by rw [HTH.out,hok]; rfl)
     clear hok HTH
     go_wp2_with (first | (at_builtin; refine wpList_push (α:=ByteArray) rfl _ _ rfl rfl HnL.out (HO5.out.alloc _) rfl rfl (src1 htx rfl rfl) zz8 ?_; intro A6 c6 w6 o6 z6) | (go_at_call 147; fail))
     refine (impl_CutDigest _ t hts n hn (HT.out.later o6.bl)).mono ?_
     rintro e7 w7 ⟨rfl,hb7⟩
     rw [← HE.out]
     have HO7:=zd (o6.later hb7)
     clear hb7 o6
     go_wp2
     go_roundw
     case rel => first | exact ⟨k + 1,m',h',L ++ [t],nL + 1,A6,c6,hlt,by go_num,rfl,HM2,rfl,hhx,rfl,zd (by rw [HnL.out]; simp),zz8,HLL,HNH2,HO7.out⟩ | ((repeat apply Exists.intro); exact ⟨⟨k + 1,m',h',L ++ [t],nL + 1,A6,c6,hlt,by go_num,rfl,HM2,rfl,hhx,rfl,zd (by rw [HnL.out]; simp),zz8,HLL,HNH2,HO7.out⟩,rfl⟩)
     case measure => simp [intOf]; omega
  ·have hke : k = sides.length:=by omega
   have HE1 : Hid (RL = L):=zd (by rw [HL.out,List.drop_of_length_le zz8]; simp [foldL])
   have HE2 : Hid (RH = h):=zd (by rw [HH.out,List.drop_of_length_le zz8]; simp [foldH])
   clear hown hb
   go_wp2
   go_ret2
   exact ⟨A,c,by rw [HE1.out,HE2.out, ← HnL.out]; rfl,by rw [HE1.out]; exact HOW.out⟩
theorem impl_FoldUp (w : World) (hash : ByteArray) (hh : hash.size ≤ maxLen) (ix : Nat) (hix : ix < 256) (lv : Int) (hlv : I64 lv) (sides : List ByteArray) (A0 : Option Addr) (cap0 : Nat) (S : Blks) (hx : Row false w A0 cap0 sides S) (hsl : sides.length ≤ 4000000000) (n : Int) (hn : I64 n) (hT : Tabs w) : Calls Tryz.prog 95 #[.string hash, .int .i64 ix, .int .i64 lv, .slice A0 sides.length cap0, .int .i64 n] w fun e w' => e = .returned (.string (foldUp n hash ix lv sides)) ∧ Below w.heap.size w w':=by
 unfold I64 at hlv
 cases hin : inB lv 0 8
 ·have HC : Hid (foldUp n hash ix lv sides = ⟨#[]⟩):=zd (by unfold foldUp; rw [hin]; rfl)
  go_enter Tryz.func95,Tryz.ntmps95
  go_wp2_with (go_at_call 98; refine (impl_in _ _ _ _).mono ?_; rintro e2 w2 ⟨rfl,rfl⟩)
  go_ret
  exact ⟨ret_str (by rw [HC.out]),Below.refl _ _⟩
 have h08 : 0 ≤ lv ∧ lv ≤ 8:=by simpa [inB] using hin
 by_cases hlt : lv < (sides.length : Int)
 ·have HC : Hid (foldUp n hash ix lv sides = ⟨#[]⟩):=zd (by unfold foldUp; rw [hin,decide_eq_false zz8]; rfl)
  go_enter Tryz.func95,Tryz.ntmps95
  go_wp2_with (go_at_call 98; refine (impl_in _ _ _ _).mono ?_; rintro e2 w2 ⟨rfl,rfl⟩)
  go_ret
  exact ⟨ret_str (by rw [HC.out]),Below.refl _ _⟩
 have HC : Hid (foldUp n hash ix lv sides = foldH n ix lv.toNat hash sides):=zd (by unfold foldUp; rw [hin,decide_eq_true zz8]; rfl)
 obtain ⟨l,rfl⟩ : ∃ l : Nat,lv = l:=⟨lv.toNat,zz8⟩
 rw [Int.toNat_natCast] at HC
 have HFT:=zd (impl_foldTexts w hash hh ix hix l zz8 sides A0 cap0 S hx zz8 n hn hT)
 clear hT
 go_enter Tryz.func95,Tryz.ntmps95
 go_wp2_with (first | (go_at_call 98; refine (impl_in _ _ _ _).mono ?_; rintro e2 w2 ⟨rfl,rfl⟩) | (go_at_call 145; fail))
 refine HFT.out.mono ?_
 rintro e5 w5 ⟨A,c,rfl,own⟩
 have HB:=zd own.bl
 clear own
 go_wp2
 go_ret
 exact ⟨ret_str (by rw [HC.out]),HB.out⟩
theorem spec_FoldUp (w : World) (hash : ByteArray) (hh : hash.size ≤ maxLen) (ix : Nat) (hix : ix < 256) (lv : Int) (hlv : I64 lv) (sides : List ByteArray) (A0 : Option Addr) (cap0 : Nat) (S : Blks) (hx : Row false w A0 cap0 sides S) (hsl : sides.length ≤ 4000000000) (n : Int) (hn : I64 n) : Calls Tryz.prog 84 #[.string hash, .int .i64 ix, .int .i64 lv, .slice A0 sides.length cap0, .int .i64 n] w fun e w' => e = .returned (.string (foldUp n hash ix lv sides)) ∧ Below w.heap.size w w':=by
 unfold I64 at hlv
 cases hin : inB lv 0 8
 ·have HC : Hid (foldUp n hash ix lv sides = ⟨#[]⟩):=zd (by unfold foldUp; rw [hin]; rfl)
  go_enter Tryz.func84,Tryz.ntmps84
  go_wp2_with (go_at_call 87; refine (spec_in _ _ _ _).mono ?_; rintro e2 w2 ⟨rfl,rfl⟩)
  go_ret
  exact ⟨ret_str (by rw [HC.out]),Below.refl _ _⟩
 have h08 : 0 ≤ lv ∧ lv ≤ 8:=by simpa [inB] using hin
 by_cases hlt : lv < (sides.length : Int)
 ·have HC : Hid (foldUp n hash ix lv sides = ⟨#[]⟩):=zd (by unfold foldUp; rw [hin,decide_eq_false zz8]; rfl)
  go_enter Tryz.func84,Tryz.ntmps84
  go_wp2_with (go_at_call 87; refine (spec_in _ _ _ _).mono ?_; rintro e2 w2 ⟨rfl,rfl⟩)
  go_ret
  exact ⟨ret_str (by rw [HC.out]),Below.refl _ _⟩
 have HC : Hid (foldUp n hash ix lv sides = foldH n ix lv.toNat hash sides):=zd (by unfold foldUp; rw [hin,decide_eq_true zz8]; rfl)
 obtain ⟨l,rfl⟩ : ∃ l : Nat,lv = l:=⟨lv.toNat,zz8⟩
 rw [Int.toNat_natCast] at HC
 have hl8 : l ≤ 8:=zz8
 have hsll : sides.length ≤ l:=zz8
 obtain ⟨RH,hRH⟩ : ∃ R,foldUp n hash ix (l : Int) sides = R:=⟨_,rfl⟩
 rw [hRH] at HC ⊢
 clear hRH
 have HTS:=zd hin
 have hdl : decide ((l : Int) < (sides.length : Int)) = false:=decide_eq_false hlt
 have hdl2 : decide (l < sides.length) = false:=decide_eq_false zz8
 go_enter Tryz.func84,Tryz.ntmps84
 go_wp2_with (go_at_call 87; refine (spec_in _ _ _ _).mono ?_; rintro e2 w2 ⟨rfl,rfl⟩)
 clear hin h08
 go_loopw [11,12] (fun x i wr => ∃ (k m : Nat) (h : ByteArray),k ≤ sides.length ∧ i = .int .i64 k ∧ Hid (m + k = l) ∧ x = .string h ∧ h.size ≤ maxLen ∧ Hid (RH = foldH n ix m h (sides.drop k)) ∧ Below w.heap.size w wr) (fun _ i _ => sides.length - (intOf i).toNat)
 case atStart => exact ⟨0,l,hash,Nat.zero_le _,rfl,zd rfl,rfl,hh,zd (by rw [HC.out]; simp),Below.refl _ _⟩
 case round =>
  clear HC
  obtain ⟨k,m,h,hk,rfl,HM,rfl,hhm,HH,hb⟩:=hrel
  have HB:=zd hb
  by_cases hlt2 : k < sides.length
  ·obtain ⟨b1,o1,rfl,hl1,f0,s0⟩:=Row.str hx hlt2
   replace f0:=(hb.cell (p:=⟨b1,o1 + k,none⟩) hl1).trans f0
   have hl2 : b1 < wr.heap.size:=Nat.lt_of_lt_of_le hl1 hb.size
   have HD:=zd (drop_at hlt2)
   obtain ⟨s,hs⟩ : ∃ s,sides[k] = s:=⟨_,rfl⟩
   rw [hs] at f0 s0 HD
   obtain ⟨m',hm'⟩ : ∃ m',m = m' + 1:=⟨m - 1,by have:=HM.out; omega⟩
   subst hm'
   have HM2 : Hid (m' + (k + 1) = l):=zd (by have:=HM.out; omega)
   have hm8 : m' < 8:=by have:=HM.out; omega
   have HNH : Hid (RH = foldH n ix m' (yaf 3 (foldPair ix m' h s) n) (sides.drop (k + 1))):=zd (by rw [HH.out,HD.out]; rfl)
   have hlm : (l : Int) - 1 - (k : Int) = (m' : Int):=by have:=HM.out; omega
   have HBT:=zd (fun W => spec_BitOf W ix hix m' hm8)
   rw [← hlm] at HBT
   have hs1 : IntKind.i64.wrap ((l : Int) - 1) = (l : Int) - 1:=IntWalk.i64_in _ zz8
   have hs2 : IntKind.i64.wrap ((l : Int) - 1 - (k : Int)) = (l : Int) - 1 - (k : Int):=IntWalk.i64_in _ zz8
   clear hs HD HH HM hb hlm
   rcases bitOf_two ix m' with hbit | hbit
   ·have hq : ((bitOf ix m' : Int) == 0) = true:=by rw [hbit]; rfl
    have HPE:=zd (pair_zero2 (h:=h) (s:=s) hbit)
    have HNH2 : Hid (RH = foldH n ix m' (yaf 3 [h,s] n) (sides.drop (k + 1))):=zd (by rw [HNH.out,HPE.out])
    obtain ⟨bt,hbt⟩ : ∃ bt,bitOf ix m' = bt:=⟨_,rfl⟩
    rw [hbt] at hq HBT
    clear hbit HPE hbt HNH
    go_wp2_with (first | (go_at_call 135; refine (HBT.out _).mono ?_; rintro e9 w9 ⟨rfl,rfl⟩) | (go_at_call 127; fail))
    refine (spec_TagHash _ 3 zz39 [h,s] _ _ _ (row_pairC _ h s hhm s0 _ _ zz66) zz32 n hn).mono ?_
    rintro e5 w5 ⟨rfl,hb5⟩
    have HB5:=zd ((HB.out.alloc HB.out.size _).trans (hb5.mono (by have:=HB.out.size; simp; omega)))
    have hhx:=hash_max2 3 [h,s] n
    obtain ⟨h',hh'⟩ : ∃ h',yaf 3 [h,s] n = h':=⟨_,rfl⟩
    rw [hh'] at HNH2 hhx
    simp only [hh']
    clear hh' hb5 hs1 hs2
    go_wp2
    go_roundw
    case rel => first | exact ⟨k + 1,m',h',hlt2,by go_num,HM2,rfl,hhx,HNH2,HB5.out⟩ | ((repeat apply Exists.intro); exact ⟨⟨k + 1,m',h',hlt2,by go_num,HM2,rfl,hhx,HNH2,HB5.out⟩,rfl⟩)
    case measure => simp [intOf]; omega
   ·have hq : ((bitOf ix m' : Int) == 0) = false:=by rw [hbit]; rfl
    have HPE:=zd (pair_one2 (h:=h) (s:=s) hbit)
    have HNH2 : Hid (RH = foldH n ix m' (yaf 3 [s,h] n) (sides.drop (k + 1))):=zd (by rw [HNH.out,HPE.out])
    obtain ⟨bt,hbt⟩ : ∃ bt,bitOf ix m' = bt:=⟨_,rfl⟩
    rw [hbt] at hq HBT
    clear hbit HPE hbt HNH
    go_wp2_with (first | (go_at_call 135; refine (HBT.out _).mono ?_; rintro e9 w9 ⟨rfl,rfl⟩) | (go_at_call 127; fail))
    refine (spec_TagHash _ 3 zz39 [s,h] _ _ _ (row_pairC _ s h s0 hhm _ _ zz66) zz32 n hn).mono ?_
    rintro e5 w5 ⟨rfl,hb5⟩
    have HB5:=zd ((HB.out.alloc HB.out.size _).trans (hb5.mono (by have:=HB.out.size; simp; omega)))
    have hhx:=hash_max2 3 [s,h] n
    obtain ⟨h',hh'⟩ : ∃ h',yaf 3 [s,h] n = h':=⟨_,rfl⟩
    rw [hh'] at HNH2 hhx
    simp only [hh']
    clear hh' hb5 hs1 hs2
    go_wp2
    go_roundw
    case rel => first | exact ⟨k + 1,m',h',hlt2,by go_num,HM2,rfl,hhx,HNH2,HB5.out⟩ | ((repeat apply Exists.intro); exact ⟨⟨k + 1,m',h',hlt2,by go_num,HM2,rfl,hhx,HNH2,HB5.out⟩,rfl⟩)
    case measure => simp [intOf]; omega
  ·have hke : k = sides.length:=by omega
   have HE2 : Hid (RH = h):=zd (by rw [HH.out,List.drop_of_length_le zz8]; simp [foldH])
   clear hb
   go_wp2
   go_ret
   exact ⟨ret_str (by rw [HE2.out]),HB.out⟩
end Go.Proofs.YtgllafgpmenjjaaGreatDoor
namespace Go.Proofs.YtgllafgpmenjjaaGreatDoor
open Go.RowKit Lay Mk
def sealAt (e : Int) : Int:=if inB e 1 4 = true then e - 1 else -1
def sealOk (root : ByteArray) (s : Seal) : Bool:=headOk s.head && decide (s.sig.at_ = sealAt s.head.epoch) && sigOk root (headHash s.head) s.sig
def sameHd (a b : Head) : Bool:=decide (a.house = b.house) && decide (a.epoch = b.epoch) && decide (a.root = b.root) && decide (a.prev = b.prev)
theorem inB_14 {e : Int} (h : inB e 1 4 = true) : 1 ≤ e ∧ e ≤ 4:=by simpa [inB] using h
theorem impl_SealAt (e : Int) (w : World) : Calls Tryz.prog 102 #[.int .i64 e] w fun r w' => r = .returned (.int .i64 (sealAt e)) ∧ w = w':=by
 cases hi : inB e 1 4
 ·have HC : Hid (sealAt e = -1):=zd (by unfold sealAt; rw [hi]; rfl)
  go_enter Tryz.func102,Tryz.ntmps102
  go_wp2_with (go_at_call 152; refine (epoch_in _ _).mono ?_; rintro e0 w2 ⟨rfl,rfl⟩)
  go_ret
  exact ⟨by rw [HC.out]; rfl,rfl⟩
 ·have HC : Hid (sealAt e = e - 1):=zd (by unfold sealAt; rw [hi]; rfl)
  obtain ⟨h1,h2⟩:=inB_14 hi
  go_enter Tryz.func102,Tryz.ntmps102
  go_wp2_with (go_at_call 152; refine (epoch_in _ _).mono ?_; rintro e0 w2 ⟨rfl,rfl⟩)
  go_ret
  exact ⟨by rw [HC.out]; rfl,rfl⟩
theorem spec_SealAt (e : Int) (w : World) : Calls Tryz.prog 133 #[.int .i64 e] w fun r w' => r = .returned (.int .i64 (sealAt e)) ∧ w = w':=by
 cases hi : inB e 1 4
 ·have HC : Hid (sealAt e = -1):=zd (by unfold sealAt; rw [hi]; rfl)
  go_enter Tryz.func133,Tryz.ntmps133
  go_wp2_with (go_at_call 87; refine (spec_in _ _ _ _).mono ?_; rintro e0 w2 ⟨rfl,rfl⟩)
  go_ret
  exact ⟨by rw [HC.out]; rfl,rfl⟩
 ·have HC : Hid (sealAt e = e - 1):=zd (by unfold sealAt; rw [hi]; rfl)
  obtain ⟨h1,h2⟩:=inB_14 hi
  go_enter Tryz.func133,Tryz.ntmps133
  go_wp2_with (go_at_call 87; refine (spec_in _ _ _ _).mono ?_; rintro e0 w2 ⟨rfl,rfl⟩)
  go_ret
  exact ⟨by rw [HC.out]; rfl,rfl⟩
theorem impl_SealOk (w : World) (root : ByteArray) (x : Seal) (cs : List Value) (S : Blks) (hx : rd false w cs x S) (hT : Tabs w) : Calls Tryz.prog 54 #[.string root, .agg cs.toArray] w fun e w' => e = .returned (.bool (sealOk root x)) ∧ Below w.heap.size w w':=by
 obtain ⟨A0,k0,S0,A1,k1,S1,A2,k2,S2,rfl,f0,f1,f2,f3,f4,a0,b0,r0,s0,a1,b1,r1,s1,a2,b2,r2,s2,pw⟩:=Seal.open hx
 clear hx
 obtain ⟨⟨hh,he,hr,hp⟩,⟨a,so,ss,sd⟩⟩:=x
 simp only at f0 f1 f2 f3 f4 a0 b0 r0 a1 b1 r1 a2 b2 r2
 have HSig:=zd (fun W (h : Below w.heap.size w W) => impl_SigOk W root (headHash ⟨hh,he,hr,hp⟩) ⟨a,so,ss,sd⟩ _ S (Lay.later (Sig.mk' (x:=⟨a,so,ss,sd⟩) f4 a0 b0 r0 s0 a1 b1 r1 s1 a2 b2 r2 s2 (fun h => by simp at h)) h) (hT.later h))
 have HOK : Hid (sealOk root ⟨⟨hh,he,hr,hp⟩,⟨a,so,ss,sd⟩⟩ = (headOk ⟨hh,he,hr,hp⟩ && decide (a = sealAt he) && sigOk root (headHash ⟨hh,he,hr,hp⟩) ⟨a,so,ss,sd⟩)):=zd rfl
 have HT:=zd hT
 clear hT
 clear pw r0 r1 r2
 simp only [Seal.cs]
 simp only [Sig.cs] at HSig
 have HSA:=zd (fun W => impl_SealAt he W)
 have HHO:=zd (fun W => impl_HeadOk ⟨hh,he,hr,hp⟩ W)
 obtain ⟨v,hv⟩ : ∃ v,sealAt he = v:=⟨_,rfl⟩
 rw [hv] at HOK HSA
 clear hv
 cases hok : headOk ⟨hh,he,hr,hp⟩ <;> rw [hok] at HHO
 ·have HF : Hid (sealOk root ⟨⟨hh,he,hr,hp⟩,⟨a,so,ss,sd⟩⟩ = false):=zd (by rw [HOK.out,hok]; rfl)
  go_enter Tryz.func54,Tryz.ntmps54
  go_wp2
  generalize hW : w.alloc (.cells #[.int .i64 hh, .int .i64 he, .string hr, .string hp, .int .i64 a, .slice A0 so.length k0, .slice A1 ss.length k1, .slice A2 sd.length k2] 61) = W
  have HBW : Hid (Below w.heap.size w W):=zz59
  obtain ⟨B,hBe⟩ : ∃ B,w.heap.size = B:=⟨_,rfl⟩
  have hBlt : B < W.heap.size:=by rw [← hW, ← hBe]; simp
  have c0:=Grown.cell (show W.cell? ⟨B,0,none⟩ = some (.int .i64 hh) by rw [← hW, ← hBe]; exact ya1 _ _ _ _ _ rfl)
  have c1:=Grown.cell (show W.cell? ⟨B,1,none⟩ = some (.int .i64 he) by rw [← hW, ← hBe]; exact ya1 _ _ _ _ _ rfl)
  have c2:=Grown.cell (show W.cell? ⟨B,2,none⟩ = some (.string hr) by rw [← hW, ← hBe]; exact ya1 _ _ _ _ _ rfl)
  have c3:=Grown.cell (show W.cell? ⟨B,3,none⟩ = some (.string hp) by rw [← hW, ← hBe]; exact ya1 _ _ _ _ _ rfl)
  have c4:=Grown.cell (show W.cell? ⟨B,4,none⟩ = some (.int .i64 a) by rw [← hW, ← hBe]; exact ya1 _ _ _ _ _ rfl)
  have c5:=Grown.cell (show W.cell? ⟨B,5,none⟩ = some (.slice A0 so.length k0) by rw [← hW, ← hBe]; exact ya1 _ _ _ _ _ rfl)
  have c6:=Grown.cell (show W.cell? ⟨B,6,none⟩ = some (.slice A1 ss.length k1) by rw [← hW, ← hBe]; exact ya1 _ _ _ _ _ rfl)
  have c7:=Grown.cell (show W.cell? ⟨B,7,none⟩ = some (.slice A2 sd.length k2) by rw [← hW, ← hBe]; exact ya1 _ _ _ _ _ rfl)
  have HBE:=zd hBe
  rw [hBe]
  clear hW hBe
  refine ya2 (by kernel_rfl) (by kernel_rfl) ?_
  repeat (go_big_quiet_step (first | (go_at_call 101; exact ya6 (HHO.out _)) | (go_at_call 102; exact grown_same (HSA.out _)) | (go_at_call 75; exact ya6 (impl_HeadHash ⟨hh,he,hr,hp⟩ _ (HT.out.later (HBW.out.trans ((Grown.ok _).mono HBW.out.size))))) | (go_at_call 103; exact ya6 (HSig.out _ (HBW.out.trans ((Grown.ok _).mono HBW.out.size))))))
  refine wpQuiet_nil ?_
  intro w2 hw2
  have hR:=zd (ya7 hw2)
  clear hw2
  go_wp2
  go_ret
  exact ⟨yab (by rw [HF.out]),(HBW.out).trans (hR.out.mono HBW.out.size)⟩
 ·by_cases hav : a = v
  ·have HF : Hid (sealOk root ⟨⟨hh,he,hr,hp⟩,⟨a,so,ss,sd⟩⟩ = sigOk root (headHash ⟨hh,he,hr,hp⟩) ⟨a,so,ss,sd⟩):=zd (by rw [HOK.out,hok,decide_eq_true hav]; rfl)
   subst hav
   obtain ⟨z,hz⟩ : ∃ z,sigOk root (headHash ⟨hh,he,hr,hp⟩) ⟨a,so,ss,sd⟩ = z:=⟨_,rfl⟩
   rw [hz] at HSig HF
   clear hz
   go_enter Tryz.func54,Tryz.ntmps54
   go_wp2
   generalize hW : w.alloc (.cells #[.int .i64 hh, .int .i64 he, .string hr, .string hp, .int .i64 a, .slice A0 so.length k0, .slice A1 ss.length k1, .slice A2 sd.length k2] 61) = W
   have HBW : Hid (Below w.heap.size w W):=zz59
   obtain ⟨B,hBe⟩ : ∃ B,w.heap.size = B:=⟨_,rfl⟩
   have hBlt : B < W.heap.size:=by rw [← hW, ← hBe]; simp
   have c0:=Grown.cell (show W.cell? ⟨B,0,none⟩ = some (.int .i64 hh) by rw [← hW, ← hBe]; exact ya1 _ _ _ _ _ rfl)
   have c1:=Grown.cell (show W.cell? ⟨B,1,none⟩ = some (.int .i64 he) by rw [← hW, ← hBe]; exact ya1 _ _ _ _ _ rfl)
   have c2:=Grown.cell (show W.cell? ⟨B,2,none⟩ = some (.string hr) by rw [← hW, ← hBe]; exact ya1 _ _ _ _ _ rfl)
   have c3:=Grown.cell (show W.cell? ⟨B,3,none⟩ = some (.string hp) by rw [← hW, ← hBe]; exact ya1 _ _ _ _ _ rfl)
   have c4:=Grown.cell (show W.cell? ⟨B,4,none⟩ = some (.int .i64 a) by rw [← hW, ← hBe]; exact ya1 _ _ _ _ _ rfl)
   have c5:=Grown.cell (show W.cell? ⟨B,5,none⟩ = some (.slice A0 so.length k0) by rw [← hW, ← hBe]; exact ya1 _ _ _ _ _ rfl)
   have c6:=Grown.cell (show W.cell? ⟨B,6,none⟩ = some (.slice A1 ss.length k1) by rw [← hW, ← hBe]; exact ya1 _ _ _ _ _ rfl)
   have c7:=Grown.cell (show W.cell? ⟨B,7,none⟩ = some (.slice A2 sd.length k2) by rw [← hW, ← hBe]; exact ya1 _ _ _ _ _ rfl)
   have HBE:=zd hBe
   rw [hBe]
   clear hW hBe
   refine ya2 (by kernel_rfl) (by kernel_rfl) ?_
   repeat (go_big_quiet_step (first | (go_at_call 101; exact ya6 (HHO.out _)) | (go_at_call 102; exact grown_same (HSA.out _)) | (go_at_call 75; exact ya6 (impl_HeadHash ⟨hh,he,hr,hp⟩ _ (HT.out.later (HBW.out.trans ((Grown.ok _).mono HBW.out.size))))) | (go_at_call 103; exact ya6 (HSig.out _ (HBW.out.trans ((Grown.ok _).mono HBW.out.size))))))
   refine wpQuiet_nil ?_
   intro w2 hw2
   have hR:=zd (ya7 hw2)
   clear hw2
   go_wp2
   go_ret
   exact ⟨yab (by rw [HF.out]),(HBW.out).trans (hR.out.mono HBW.out.size)⟩
  ·have HF : Hid (sealOk root ⟨⟨hh,he,hr,hp⟩,⟨a,so,ss,sd⟩⟩ = false):=zd (by rw [HOK.out,hok,decide_eq_false hav]; rfl)
   have hq1 : (a == v) = false:=beq_eq_false_iff_ne.2 hav
   have hq2 : decide (a = v) = false:=decide_eq_false hav
   go_enter Tryz.func54,Tryz.ntmps54
   go_wp2
   generalize hW : w.alloc (.cells #[.int .i64 hh, .int .i64 he, .string hr, .string hp, .int .i64 a, .slice A0 so.length k0, .slice A1 ss.length k1, .slice A2 sd.length k2] 61) = W
   have HBW : Hid (Below w.heap.size w W):=zz59
   obtain ⟨B,hBe⟩ : ∃ B,w.heap.size = B:=⟨_,rfl⟩
   have hBlt : B < W.heap.size:=by rw [← hW, ← hBe]; simp
   have c0:=Grown.cell (show W.cell? ⟨B,0,none⟩ = some (.int .i64 hh) by rw [← hW, ← hBe]; exact ya1 _ _ _ _ _ rfl)
   have c1:=Grown.cell (show W.cell? ⟨B,1,none⟩ = some (.int .i64 he) by rw [← hW, ← hBe]; exact ya1 _ _ _ _ _ rfl)
   have c2:=Grown.cell (show W.cell? ⟨B,2,none⟩ = some (.string hr) by rw [← hW, ← hBe]; exact ya1 _ _ _ _ _ rfl)
   have c3:=Grown.cell (show W.cell? ⟨B,3,none⟩ = some (.string hp) by rw [← hW, ← hBe]; exact ya1 _ _ _ _ _ rfl)
   have c4:=Grown.cell (show W.cell? ⟨B,4,none⟩ = some (.int .i64 a) by rw [← hW, ← hBe]; exact ya1 _ _ _ _ _ rfl)
   have c5:=Grown.cell (show W.cell? ⟨B,5,none⟩ = some (.slice A0 so.length k0) by rw [← hW, ← hBe]; exact ya1 _ _ _ _ _ rfl)
   have c6:=Grown.cell (show W.cell? ⟨B,6,none⟩ = some (.slice A1 ss.length k1) by rw [← hW, ← hBe]; exact ya1 _ _ _ _ _ rfl)
   have c7:=Grown.cell (show W.cell? ⟨B,7,none⟩ = some (.slice A2 sd.length k2) by rw [← hW, ← hBe]; exact ya1 _ _ _ _ _ rfl)
   have HBE:=zd hBe
   rw [hBe]
   clear hW hBe
   refine ya2 (by kernel_rfl) (by kernel_rfl) ?_
   repeat (go_big_quiet_step (first | (go_at_call 101; exact ya6 (HHO.out _)) | (go_at_call 102; exact grown_same (HSA.out _)) | (go_at_call 75; exact ya6 (impl_HeadHash ⟨hh,he,hr,hp⟩ _ (HT.out.later (HBW.out.trans ((Grown.ok _).mono HBW.out.size))))) | (go_at_call 103; exact ya6 (HSig.out _ (HBW.out.trans ((Grown.ok _).mono HBW.out.size))))))
   refine wpQuiet_nil ?_
   intro w2 hw2
   have hR:=zd (ya7 hw2)
   clear hw2
   go_wp2
   go_ret
   exact ⟨yab (by rw [HF.out]),(HBW.out).trans (hR.out.mono HBW.out.size)⟩
theorem spec_SealOk (w : World) (root : ByteArray) (x : Seal) (cs : List Value) (S : Blks) (hx : rd false w cs x S) : Calls Tryz.prog 83 #[.string root, .agg cs.toArray] w fun e w' => e = .returned (.bool (sealOk root x)) ∧ Below w.heap.size w w':=by
 obtain ⟨A0,k0,S0,A1,k1,S1,A2,k2,S2,rfl,f0,f1,f2,f3,f4,a0,b0,r0,s0,a1,b1,r1,s1,a2,b2,r2,s2,pw⟩:=Seal.open hx
 clear hx
 obtain ⟨⟨hh,he,hr,hp⟩,⟨a,so,ss,sd⟩⟩:=x
 simp only at f0 f1 f2 f3 f4 a0 b0 r0 a1 b1 r1 a2 b2 r2
 have HSig:=zd (fun W (h : Below w.heap.size w W) => spec_SigOk W root (headHash ⟨hh,he,hr,hp⟩) ⟨a,so,ss,sd⟩ _ S (Lay.later (Sig.mk' (x:=⟨a,so,ss,sd⟩) f4 a0 b0 r0 s0 a1 b1 r1 s1 a2 b2 r2 s2 (fun h => by simp at h)) h))
 have HOK : Hid (sealOk root ⟨⟨hh,he,hr,hp⟩,⟨a,so,ss,sd⟩⟩ = (headOk ⟨hh,he,hr,hp⟩ && decide (a = sealAt he) && sigOk root (headHash ⟨hh,he,hr,hp⟩) ⟨a,so,ss,sd⟩)):=zd rfl
 clear pw r0 r1 r2
 simp only [Seal.cs]
 simp only [Sig.cs] at HSig
 have HSA:=zd (fun W => spec_SealAt he W)
 have HHO:=zd (fun W => spec_HeadOk ⟨hh,he,hr,hp⟩ W)
 obtain ⟨v,hv⟩ : ∃ v,sealAt he = v:=⟨_,rfl⟩
 rw [hv] at HOK HSA
 clear hv
 cases hok : headOk ⟨hh,he,hr,hp⟩ <;> rw [hok] at HHO
 ·have HF : Hid (sealOk root ⟨⟨hh,he,hr,hp⟩,⟨a,so,ss,sd⟩⟩ = false):=zd (by rw [HOK.out,hok]; rfl)
  go_enter Tryz.func83,Tryz.ntmps83
  go_wp2
  generalize hW : w.alloc (.cells #[.int .i64 hh, .int .i64 he, .string hr, .string hp, .int .i64 a, .slice A0 so.length k0, .slice A1 ss.length k1, .slice A2 sd.length k2] 61) = W
  have HBW : Hid (Below w.heap.size w W):=zz59
  obtain ⟨B,hBe⟩ : ∃ B,w.heap.size = B:=⟨_,rfl⟩
  have hBlt : B < W.heap.size:=by rw [← hW, ← hBe]; simp
  have c0:=Grown.cell (show W.cell? ⟨B,0,none⟩ = some (.int .i64 hh) by rw [← hW, ← hBe]; exact ya1 _ _ _ _ _ rfl)
  have c1:=Grown.cell (show W.cell? ⟨B,1,none⟩ = some (.int .i64 he) by rw [← hW, ← hBe]; exact ya1 _ _ _ _ _ rfl)
  have c2:=Grown.cell (show W.cell? ⟨B,2,none⟩ = some (.string hr) by rw [← hW, ← hBe]; exact ya1 _ _ _ _ _ rfl)
  have c3:=Grown.cell (show W.cell? ⟨B,3,none⟩ = some (.string hp) by rw [← hW, ← hBe]; exact ya1 _ _ _ _ _ rfl)
  have c4:=Grown.cell (show W.cell? ⟨B,4,none⟩ = some (.int .i64 a) by rw [← hW, ← hBe]; exact ya1 _ _ _ _ _ rfl)
  have c5:=Grown.cell (show W.cell? ⟨B,5,none⟩ = some (.slice A0 so.length k0) by rw [← hW, ← hBe]; exact ya1 _ _ _ _ _ rfl)
  have c6:=Grown.cell (show W.cell? ⟨B,6,none⟩ = some (.slice A1 ss.length k1) by rw [← hW, ← hBe]; exact ya1 _ _ _ _ _ rfl)
  have c7:=Grown.cell (show W.cell? ⟨B,7,none⟩ = some (.slice A2 sd.length k2) by rw [← hW, ← hBe]; exact ya1 _ _ _ _ _ rfl)
  have HBE:=zd hBe
  rw [hBe]
  clear hW hBe
  refine ya2 (by kernel_rfl) (by kernel_rfl) ?_
  repeat (go_big_quiet_step (first | (go_at_call 132; exact ya6 (HHO.out _)) | (go_at_call 133; exact grown_same (HSA.out _)) | (go_at_call 77; exact ya6 (spec_HeadHash ⟨hh,he,hr,hp⟩ _)) | (go_at_call 134; exact ya6 (HSig.out _ (HBW.out.trans ((Grown.ok _).mono HBW.out.size))))))
  refine wpQuiet_nil ?_
  intro w2 hw2
  have hR:=zd (ya7 hw2)
  clear hw2
  go_wp2
  go_ret
  exact ⟨yab (by rw [HF.out]),(HBW.out).trans (hR.out.mono HBW.out.size)⟩
 ·by_cases hav : a = v
  ·have HF : Hid (sealOk root ⟨⟨hh,he,hr,hp⟩,⟨a,so,ss,sd⟩⟩ = sigOk root (headHash ⟨hh,he,hr,hp⟩) ⟨a,so,ss,sd⟩):=zd (by rw [HOK.out,hok,decide_eq_true hav]; rfl)
   subst hav
   obtain ⟨z,hz⟩ : ∃ z,sigOk root (headHash ⟨hh,he,hr,hp⟩) ⟨a,so,ss,sd⟩ = z:=⟨_,rfl⟩
   rw [hz] at HSig HF
   clear hz
   go_enter Tryz.func83,Tryz.ntmps83
   go_wp2
   generalize hW : w.alloc (.cells #[.int .i64 hh, .int .i64 he, .string hr, .string hp, .int .i64 a, .slice A0 so.length k0, .slice A1 ss.length k1, .slice A2 sd.length k2] 61) = W
   have HBW : Hid (Below w.heap.size w W):=zz59
   obtain ⟨B,hBe⟩ : ∃ B,w.heap.size = B:=⟨_,rfl⟩
   have hBlt : B < W.heap.size:=by rw [← hW, ← hBe]; simp
   have c0:=Grown.cell (show W.cell? ⟨B,0,none⟩ = some (.int .i64 hh) by rw [← hW, ← hBe]; exact ya1 _ _ _ _ _ rfl)
   have c1:=Grown.cell (show W.cell? ⟨B,1,none⟩ = some (.int .i64 he) by rw [← hW, ← hBe]; exact ya1 _ _ _ _ _ rfl)
   have c2:=Grown.cell (show W.cell? ⟨B,2,none⟩ = some (.string hr) by rw [← hW, ← hBe]; exact ya1 _ _ _ _ _ rfl)
   have c3:=Grown.cell (show W.cell? ⟨B,3,none⟩ = some (.string hp) by rw [← hW, ← hBe]; exact ya1 _ _ _ _ _ rfl)
   have c4:=Grown.cell (show W.cell? ⟨B,4,none⟩ = some (.int .i64 a) by rw [← hW, ← hBe]; exact ya1 _ _ _ _ _ rfl)
   have c5:=Grown.cell (show W.cell? ⟨B,5,none⟩ = some (.slice A0 so.length k0) by rw [← hW, ← hBe]; exact ya1 _ _ _ _ _ rfl)
   have c6:=Grown.cell (show W.cell? ⟨B,6,none⟩ = some (.slice A1 ss.length k1) by rw [← hW, ← hBe]; exact ya1 _ _ _ _ _ rfl)
   have c7:=Grown.cell (show W.cell? ⟨B,7,none⟩ = some (.slice A2 sd.length k2) by rw [← hW, ← hBe]; exact ya1 _ _ _ _ _ rfl)
   have HBE:=zd hBe
   rw [hBe]
   clear hW hBe
   refine ya2 (by kernel_rfl) (by kernel_rfl) ?_
   repeat (go_big_quiet_step (first | (go_at_call 132; exact ya6 (HHO.out _)) | (go_at_call 133; exact grown_same (HSA.out _)) | (go_at_call 77; exact ya6 (spec_HeadHash ⟨hh,he,hr,hp⟩ _)) | (go_at_call 134; exact ya6 (HSig.out _ (HBW.out.trans ((Grown.ok _).mono HBW.out.size))))))
   refine wpQuiet_nil ?_
   intro w2 hw2
   have hR:=zd (ya7 hw2)
   clear hw2
   go_wp2
   go_ret
   exact ⟨yab (by rw [HF.out]),(HBW.out).trans (hR.out.mono HBW.out.size)⟩
  ·have HF : Hid (sealOk root ⟨⟨hh,he,hr,hp⟩,⟨a,so,ss,sd⟩⟩ = false):=zd (by rw [HOK.out,hok,decide_eq_false hav]; rfl)
   have hq1 : (a == v) = false:=beq_eq_false_iff_ne.2 hav
   have hq2 : decide (a = v) = false:=decide_eq_false hav
   go_enter Tryz.func83,Tryz.ntmps83
   go_wp2
   generalize hW : w.alloc (.cells #[.int .i64 hh, .int .i64 he, .string hr, .string hp, .int .i64 a, .slice A0 so.length k0, .slice A1 ss.length k1, .slice A2 sd.length k2] 61) = W
   have HBW : Hid (Below w.heap.size w W):=zz59
   obtain ⟨B,hBe⟩ : ∃ B,w.heap.size = B:=⟨_,rfl⟩
   have hBlt : B < W.heap.size:=by rw [← hW, ← hBe]; simp
   have c0:=Grown.cell (show W.cell? ⟨B,0,none⟩ = some (.int .i64 hh) by rw [← hW, ← hBe]; exact ya1 _ _ _ _ _ rfl)
   have c1:=Grown.cell (show W.cell? ⟨B,1,none⟩ = some (.int .i64 he) by rw [← hW, ← hBe]; exact ya1 _ _ _ _ _ rfl)
   have c2:=Grown.cell (show W.cell? ⟨B,2,none⟩ = some (.string hr) by rw [← hW, ← hBe]; exact ya1 _ _ _ _ _ rfl)
   have c3:=Grown.cell (show W.cell? ⟨B,3,none⟩ = some (.string hp) by rw [← hW, ← hBe]; exact ya1 _ _ _ _ _ rfl)
   have c4:=Grown.cell (show W.cell? ⟨B,4,none⟩ = some (.int .i64 a) by rw [← hW, ← hBe]; exact ya1 _ _ _ _ _ rfl)
   have c5:=Grown.cell (show W.cell? ⟨B,5,none⟩ = some (.slice A0 so.length k0) by rw [← hW, ← hBe]; exact ya1 _ _ _ _ _ rfl)
   have c6:=Grown.cell (show W.cell? ⟨B,6,none⟩ = some (.slice A1 ss.length k1) by rw [← hW, ← hBe]; exact ya1 _ _ _ _ _ rfl)
   have c7:=Grown.cell (show W.cell? ⟨B,7,none⟩ = some (.slice A2 sd.length k2) by rw [← hW, ← hBe]; exact ya1 _ _ _ _ _ rfl)
   have HBE:=zd hBe
   rw [hBe]
   clear hW hBe
   refine ya2 (by kernel_rfl) (by kernel_rfl) ?_
   repeat (go_big_quiet_step (first | (go_at_call 132; exact ya6 (HHO.out _)) | (go_at_call 133; exact grown_same (HSA.out _)) | (go_at_call 77; exact ya6 (spec_HeadHash ⟨hh,he,hr,hp⟩ _)) | (go_at_call 134; exact ya6 (HSig.out _ (HBW.out.trans ((Grown.ok _).mono HBW.out.size))))))
   refine wpQuiet_nil ?_
   intro w2 hw2
   have hR:=zd (ya7 hw2)
   clear hw2
   go_wp2
   go_ret
   exact ⟨yab (by rw [HF.out]),(HBW.out).trans (hR.out.mono HBW.out.size)⟩
end Go.Proofs.YtgllafgpmenjjaaGreatDoor
