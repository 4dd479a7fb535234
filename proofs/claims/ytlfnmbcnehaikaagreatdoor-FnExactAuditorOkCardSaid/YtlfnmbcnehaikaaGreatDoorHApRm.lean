/- A part of the proof. -/
import Derived.Test.YtlfnmbcnehaikaaGreatDoorHApL23xRo
set_option linter.unusedVariables false
set_option linter.unusedSimpArgs false
set_option maxRecDepth 20000
set_option maxHeartbeats 8000000
namespace Go.Proofs.YtlfnmbcnehaikaaGreatDoor
open Go.RowKit Lay Mk
theorem fileGet_hit {xs : List File} {n : ByteArray} {k : Nat} (h : k < xs.length) (e : xs[k].name = n) : fileGet (xs.drop k) n = some xs[k].text:=by
 rw [List.drop_eq_getElem_cons h,fileGet,if_pos e]
theorem fileGet_miss {xs : List File} {n : ByteArray} {k : Nat} (h : k < xs.length) (e : ¬ xs[k].name = n) : fileGet (xs.drop k) n = fileGet (xs.drop (k + 1)) n:=by
 rw [List.drop_eq_getElem_cons h,fileGet,if_neg e]
theorem fileGet_none {xs : List File} {n : ByteArray} {k : Nat} (h : xs.length ≤ k) : fileGet (xs.drop k) n = none:=by
 rw [List.drop_eq_nil_of_le h]; rfl
def faV (o : Option ByteArray) : Value:=match o with | some T => .tuple #[.string T, .bool true] | none => .tuple #[.string ⟨#[]⟩, .bool false]
def FaRes (xs : List File) (n : ByteArray) (e : Ending) : Prop:=(∃ k, ∃ h : k < xs.length,e = .returned (.int .i64 (k : Int)) ∧ fileGet xs n = some xs[k].text) ∨ (e = .returned (.int .i64 (-1)) ∧ fileGet xs n = none)
theorem file_sz {xs : List File} {n T : ByteArray} (h : fileGet xs n = some T) : ∃ k, ∃ h : k < xs.length,xs[k].text = T:=by
 induction xs with
 | nil => cases h
 | cons a l ih =>
  rw [fileGet] at h
  split at h
  ·injection h with h
   exact ⟨0,zz17,h⟩
  ·obtain ⟨k,hk,e⟩:=ih h
   exact ⟨k + 1,zz23,by simpa using e⟩
theorem logTexts_none {xs : List File} {n : ByteArray} (h : fileGet xs n = none) : logTexts xs n = []:=by unfold logTexts; rw [h]
theorem logTexts_bad {xs : List File} {n : ByteArray} (h : diskOk xs = false) : logTexts xs n = []:=by unfold logTexts; rw [h]; split <;> rfl
theorem logTexts_yes {xs : List File} {n T : ByteArray} (h : fileGet xs n = some T) (h2 : diskOk xs = true) : logTexts xs n = unframe T:=by unfold logTexts; simp only [h,h2,if_true]
theorem unframe_nil : unframe ⟨#[]⟩ = []:=by
 unfold unframe
 rw [if_pos zz44]
 exact unfr_end (rdFrame_no (Nat.le_refl _))
theorem impl_fat (w : World) (xs : List File) (A : Option Addr) (cap : Nat) (S : Blks) (hx : Row false w A cap xs S) (hl : xs.length ≤ 4000000000) (n : ByteArray) : Calls Tryz.prog 176 #[.agg #[.slice A xs.length cap], .string n] w fun e w' => FaRes xs n e ∧ Below w.heap.size w w':=by
 have H0 : Hid (fileGet xs n = fileGet (xs.drop 0) n):=zd rfl
 go_enter Tryz.func176,Tryz.ntmps176
 go_wp2_with (fail)
 obtain ⟨W,hW⟩ : ∃ W,w.alloc (.cells #[.slice A xs.length cap] 28) = W:=⟨_,rfl⟩
 have hWf : Below w.heap.size w W ∧ W.heap.size = w.heap.size + 1 ∧ W.cell? ⟨w.heap.size,0,none⟩ = some (.slice A xs.length cap):=by
  rw [← hW]
  exact ⟨(Below.refl _ _).alloc (Nat.le_refl _) _,zz17,ya2 _ _ _ _ _ rfl⟩
 rw [hW]
 clear hW
 obtain ⟨bW,sW,cW⟩:=hWf
 have hxW:=Row.later hx bW
 clear hx
 go_loopw [10] (fun i wr => ∃ k : Nat,k ≤ xs.length ∧ i = .int .i64 k ∧ Hid (fileGet xs n = fileGet (xs.drop k) n) ∧ Below W.heap.size W wr) (fun i _ => xs.length - (intOf i).toNat)
 case atStart => exact ⟨0,Nat.zero_le _,rfl,H0,Below.refl _ _⟩
 case round =>
  obtain ⟨k,hk,rfl,HK,hb⟩:=hrel
  clear H0
  have hz:=hb.size
  have c0:=(hb.cell (p:=⟨w.heap.size,0,none⟩) (by show w.heap.size < _; omega)).trans cW
  by_cases hlt : k < xs.length
  ·obtain ⟨b1,o1,rfl,hl1,f0,f1,f2,s0,s1,i2⟩:=Row.atFile hxW hlt
   replace f0:=(hb.cell (p:=⟨b1,o1 + k * 3,none⟩) hl1).trans f0
   replace f1:=(hb.cell (p:=⟨b1,o1 + k * 3 + 1,none⟩) hl1).trans f1
   replace f2:=(hb.cell (p:=⟨b1,o1 + k * 3 + 2,none⟩) hl1).trans f2
   have HH:=zd (fun e => HK.out.trans (fileGet_hit (n:=n) hlt e))
   have HM:=zd (fun e => HK.out.trans (fileGet_miss (n:=n) hlt e))
   clear HK
   have hlw : w.heap.size < wr.heap.size:=zz4
   have hl2 : b1 < wr.heap.size:=zz4
   by_cases hq : xs[k].name = n
   ·have HE:=zd (HH.out hq)
    have hcmp : (xs[k].name.toList == n.toList) = true:=by rw [str_dec]; exact decide_eq_true hq
    clear HH HM hq
    go_wp2
    go_ret
    exact ⟨.inl ⟨k,hlt,rfl,HE.out⟩,bW.trans ((hb.alloc hz _).mono bW.size)⟩
   ·have HE:=zd (HM.out hq)
    have hcmp : (xs[k].name.toList == n.toList) = false:=by rw [str_dec]; exact decide_eq_false hq
    clear HH HM hq
    go_wp2
    go_roundw
    case rel => exact ⟨k + 1,zz4,by go_num,HE,(hb.alloc hz _)⟩
    case measure => simp [intOf]; omega
  ·have hke : k = xs.length:=by omega
   subst hke
   have HE:=zd (HK.out.trans (fileGet_none (Nat.le_refl _)))
   go_wp2
   go_ret
   exact ⟨.inr ⟨rfl,HE.out⟩,bW.trans (hb.mono bW.size)⟩
theorem impl_FileAt (w : World) (xs : List File) (A : Option Addr) (cap : Nat) (S : Blks) (hx : Row false w A cap xs S) (hl : xs.length ≤ 4000000000) (n : ByteArray) : Calls Tryz.prog 129 #[.agg #[.slice A xs.length cap], .string n] w fun e w' => e = .returned (faV (fileGet xs n)) ∧ Below w.heap.size w w':=by
 go_enter Tryz.func129,Tryz.ntmps129
 go_wp2_with (fail)
 obtain ⟨W,hW⟩ : ∃ W,w.alloc (.cells #[.slice A xs.length cap] 28) = W:=⟨_,rfl⟩
 have hWf : Below w.heap.size w W ∧ W.heap.size = w.heap.size + 1 ∧ W.cell? ⟨w.heap.size,0,none⟩ = some (.slice A xs.length cap):=by
  rw [← hW]
  exact ⟨(Below.refl _ _).alloc (Nat.le_refl _) _,zz17,ya2 _ _ _ _ _ rfl⟩
 rw [hW]
 clear hW
 obtain ⟨bW,sW,cW⟩:=hWf
 have hxW:=Row.later hx bW
 clear hx
 refine (impl_fat W xs A cap S hxW hl n).mono ?_
 rintro e w2 ⟨hr,hb⟩
 have c0:=(hb.cell (p:=⟨w.heap.size,0,none⟩) (by show w.heap.size < _; omega)).trans cW
 rcases hr with ⟨k,hlt,rfl,hg⟩ | ⟨rfl,hg⟩
 ·have HG:=zd hg; clear hg
  obtain ⟨b1,o1,rfl,hl1,f0,f1,f2,s0,s1,i2⟩:=Row.atFile hxW hlt
  replace f1:=(hb.cell (p:=⟨b1,o1 + k * 3 + 1,none⟩) hl1).trans f1
  have hk0 : ¬ (k : Int) < 0:=zz4
  go_wp2
  refine bodyPost_ret (v:=.tuple #[.string xs[k].text, .bool true]) (by simp [results,Tryz.results129,go_sem, *]) rfl ?_
  exact ⟨by rw [HG.out]; rfl,bW.trans (hb.mono bW.size)⟩
 ·have HG:=zd hg; clear hg
  go_wp2
  refine bodyPost_ret (v:=.tuple #[.string ⟨#[]⟩, .bool false]) (by simp [results,Tryz.results129,go_sem, *]) rfl ?_
  exact ⟨by rw [HG.out]; rfl,bW.trans (hb.mono bW.size)⟩
theorem spec_fat (w : World) (xs : List File) (A : Option Addr) (cap : Nat) (S : Blks) (hx : Row false w A cap xs S) (hl : xs.length ≤ 4000000000) (n : ByteArray) : Calls Tryz.prog 171 #[.agg #[.slice A xs.length cap], .string n] w fun e w' => FaRes xs n e ∧ Below w.heap.size w w':=by
 have H0 : Hid (fileGet xs n = fileGet (xs.drop 0) n):=zd rfl
 go_enter Tryz.func171,Tryz.ntmps171
 go_wp2_with (fail)
 obtain ⟨W,hW⟩ : ∃ W,w.alloc (.cells #[.slice A xs.length cap] 28) = W:=⟨_,rfl⟩
 have hWf : Below w.heap.size w W ∧ W.heap.size = w.heap.size + 1 ∧ W.cell? ⟨w.heap.size,0,none⟩ = some (.slice A xs.length cap):=by
  rw [← hW]
  exact ⟨(Below.refl _ _).alloc (Nat.le_refl _) _,zz17,ya2 _ _ _ _ _ rfl⟩
 rw [hW]
 clear hW
 obtain ⟨bW,sW,cW⟩:=hWf
 have hxW:=Row.later hx bW
 clear hx
 go_loopw [5] (fun i wr => ∃ k : Nat,k ≤ xs.length ∧ i = .int .i64 k ∧ Hid (fileGet xs n = fileGet (xs.drop k) n) ∧ Below W.heap.size W wr) (fun i _ => xs.length - (intOf i).toNat)
 case atStart => exact ⟨0,Nat.zero_le _,rfl,H0,Below.refl _ _⟩
 case round =>
  obtain ⟨k,hk,rfl,HK,hb⟩:=hrel
  clear H0
  have hz:=hb.size
  have c0:=(hb.cell (p:=⟨w.heap.size,0,none⟩) (by show w.heap.size < _; omega)).trans cW
  by_cases hlt : k < xs.length
  ·obtain ⟨b1,o1,rfl,hl1,f0,f1,f2,s0,s1,i2⟩:=Row.atFile hxW hlt
   replace f0:=(hb.cell (p:=⟨b1,o1 + k * 3,none⟩) hl1).trans f0
   replace f1:=(hb.cell (p:=⟨b1,o1 + k * 3 + 1,none⟩) hl1).trans f1
   replace f2:=(hb.cell (p:=⟨b1,o1 + k * 3 + 2,none⟩) hl1).trans f2
   have HH:=zd (fun e => HK.out.trans (fileGet_hit (n:=n) hlt e))
   have HM:=zd (fun e => HK.out.trans (fileGet_miss (n:=n) hlt e))
   clear HK
   have hlw : w.heap.size < wr.heap.size:=zz4
   have hl2 : b1 < wr.heap.size:=zz4
   by_cases hq : xs[k].name = n
   ·have HE:=zd (HH.out hq)
    have hcmp : (xs[k].name.toList == n.toList) = true:=by rw [str_dec]; exact decide_eq_true hq
    clear HH HM hq
    go_wp2
    go_ret
    exact ⟨.inl ⟨k,hlt,rfl,HE.out⟩,bW.trans (hb.mono bW.size)⟩
   ·have HE:=zd (HM.out hq)
    have hcmp : (xs[k].name.toList == n.toList) = false:=by rw [str_dec]; exact decide_eq_false hq
    clear HH HM hq
    go_wp2
    go_roundw
    case rel => exact ⟨k + 1,zz4,by go_num,HE,hb⟩
    case measure => simp [intOf]; omega
  ·have hke : k = xs.length:=by omega
   subst hke
   have HE:=zd (HK.out.trans (fileGet_none (Nat.le_refl _)))
   go_wp2
   go_ret
   exact ⟨.inr ⟨rfl,HE.out⟩,bW.trans (hb.mono bW.size)⟩
theorem spec_FileAt (w : World) (xs : List File) (A : Option Addr) (cap : Nat) (S : Blks) (hx : Row false w A cap xs S) (hl : xs.length ≤ 4000000000) (n : ByteArray) : Calls Tryz.prog 122 #[.agg #[.slice A xs.length cap], .string n] w fun e w' => e = .returned (faV (fileGet xs n)) ∧ Below w.heap.size w w':=by
 go_enter Tryz.func122,Tryz.ntmps122
 go_wp2_with (fail)
 obtain ⟨W,hW⟩ : ∃ W,w.alloc (.cells #[.slice A xs.length cap] 28) = W:=⟨_,rfl⟩
 have hWf : Below w.heap.size w W ∧ W.heap.size = w.heap.size + 1 ∧ W.cell? ⟨w.heap.size,0,none⟩ = some (.slice A xs.length cap):=by
  rw [← hW]
  exact ⟨(Below.refl _ _).alloc (Nat.le_refl _) _,zz17,ya2 _ _ _ _ _ rfl⟩
 rw [hW]
 clear hW
 obtain ⟨bW,sW,cW⟩:=hWf
 have hxW:=Row.later hx bW
 clear hx
 refine (spec_fat W xs A cap S hxW hl n).mono ?_
 rintro e w2 ⟨hr,hb⟩
 have c0:=(hb.cell (p:=⟨w.heap.size,0,none⟩) (by show w.heap.size < _; omega)).trans cW
 rcases hr with ⟨k,hlt,rfl,hg⟩ | ⟨rfl,hg⟩
 ·have HG:=zd hg; clear hg
  obtain ⟨b1,o1,rfl,hl1,f0,f1,f2,s0,s1,i2⟩:=Row.atFile hxW hlt
  replace f1:=(hb.cell (p:=⟨b1,o1 + k * 3 + 1,none⟩) hl1).trans f1
  have hk0 : ¬ (k : Int) < 0:=zz4
  go_wp2
  refine bodyPost_ret (v:=.tuple #[.string xs[k].text, .bool true]) (by simp [results,Tryz.results122,go_sem, *]) rfl ?_
  exact ⟨by rw [HG.out]; rfl,bW.trans (hb.mono bW.size)⟩
 ·have HG:=zd hg; clear hg
  go_wp2
  refine bodyPost_ret (v:=.tuple #[.string ⟨#[]⟩, .bool false]) (by simp [results,Tryz.results122,go_sem, *]) rfl ?_
  exact ⟨by rw [HG.out]; rfl,bW.trans (hb.mono bW.size)⟩
theorem impl_LogTexts (w : World) (xs : List File) (A : Option Addr) (cap : Nat) (S : Blks) (hx : Row false w A cap xs S) (hl : xs.length ≤ 4000000000) (n : ByteArray) (hz : ∀ k (h : k < xs.length),xs[k].text.size ≤ 1048576) : Calls Tryz.prog 82 #[.agg #[.slice A xs.length cap], .string n] w (OwnRes (logTexts xs n) w):=by
 go_enter Tryz.func82,Tryz.ntmps82
 go_wp2_with (fail)
 obtain ⟨W,hW⟩ : ∃ W,w.alloc (.cells #[.slice A xs.length cap] 28) = W:=⟨_,rfl⟩
 have hWf : Below w.heap.size w W ∧ W.heap.size = w.heap.size + 1 ∧ W.cell? ⟨w.heap.size,0,none⟩ = some (.slice A xs.length cap):=by
  rw [← hW]
  exact ⟨(Below.refl _ _).alloc (Nat.le_refl _) _,zz17,ya2 _ _ _ _ _ rfl⟩
 rw [hW]
 clear hW
 obtain ⟨bW,sW,cW⟩:=hWf
 have hxW:=Row.later hx bW
 clear hx
 have HX:=zd hxW; clear hxW
 have h0:=impl_FileAt W xs A cap S HX.out hl n
 cases hg : fileGet xs n with
 | none =>
  have HE:=zd (logTexts_none hg)
  rw [hg] at h0
  simp only [faV] at h0
  refine h0.mono ?_
  rintro e w2 ⟨rfl,hb⟩
  clear hg h0
  go_wp2
  go_ret
  exact OwnRes.mk (Own.start (bW.trans (hb.mono bW.size))) HE.out rfl
 | some T =>
  obtain ⟨k,hk,rfl⟩:=file_sz hg
  have hT:=hz k hk
  obtain ⟨T,hTT⟩ : ∃ T,xs[k].text = T:=⟨_,rfl⟩
  rw [hTT] at hg hT
  rw [hg] at h0
  simp only [faV] at h0
  refine h0.mono ?_
  rintro e w2 ⟨rfl,hb⟩
  have c0:=(hb.cell (p:=⟨w.heap.size,0,none⟩) (by show w.heap.size < _; omega)).trans cW
  have HDK:=zd (impl_DiskOk w2 xs A cap S (Row.later HX.out hb) hl)
  cases hd : diskOk xs
  ·have HE:=zd (logTexts_bad (n:=n) hd)
   rw [hd] at HDK
   clear hg h0 hTT hd
   go_wp2_with (go_at_call 130; refine HDK.out.mono ?_; rintro e3 w3 ⟨rfl,hb3⟩)
   go_ret
   exact OwnRes.mk (Own.start (bW.trans ((hb.trans (hb3.mono hb.size)).mono bW.size))) HE.out rfl
  ·have HE:=zd (logTexts_yes hg hd)
   rw [hd] at HDK
   clear hg h0 hTT hd
   go_wp2_with (first | (go_at_call 130; refine HDK.out.mono ?_; rintro e3 w3 ⟨rfl,hb3⟩) | (go_at_call 131; refine (impl_Unframe _ T hT).mono ?_; rintro e4 w4 ⟨A4,c4,y4,rfl,o4⟩))
   go_ret
   exact OwnRes.mk (o4.from (bW.trans ((hb.trans (hb3.mono hb.size)).mono bW.size))) HE.out rfl
theorem spec_LogTexts (w : World) (xs : List File) (A : Option Addr) (cap : Nat) (S : Blks) (hx : Row false w A cap xs S) (hl : xs.length ≤ 4000000000) (n : ByteArray) (hz : ∀ k (h : k < xs.length),xs[k].text.size ≤ 1048576) : Calls Tryz.prog 75 #[.agg #[.slice A xs.length cap], .string n] w (OwnRes (logTexts xs n) w):=by
 go_enter Tryz.func75,Tryz.ntmps75
 go_wp2_with (fail)
 obtain ⟨W,hW⟩ : ∃ W,w.alloc (.cells #[.slice A xs.length cap] 28) = W:=⟨_,rfl⟩
 have hWf : Below w.heap.size w W ∧ W.heap.size = w.heap.size + 1 ∧ W.cell? ⟨w.heap.size,0,none⟩ = some (.slice A xs.length cap):=by
  rw [← hW]
  exact ⟨(Below.refl _ _).alloc (Nat.le_refl _) _,zz17,ya2 _ _ _ _ _ rfl⟩
 rw [hW]
 clear hW
 obtain ⟨bW,sW,cW⟩:=hWf
 have hxW:=Row.later hx bW
 clear hx
 have HX:=zd hxW; clear hxW
 have h9:=spec_DiskOk W xs A cap S HX.out hl
 cases hd : diskOk xs
 ·have HE:=zd (logTexts_bad (n:=n) hd)
  rw [hd] at h9
  refine h9.mono ?_
  rintro e w2 ⟨rfl,hb⟩
  clear h9 hd
  go_wp2
  go_ret
  exact OwnRes.mk (Own.lit (bW.trans (hb.mono bW.size)) 9 rfl) HE.out rfl
 rw [hd] at h9
 refine h9.mono ?_
 rintro e w2 ⟨rfl,hb⟩
 clear h9
 have c0:=(hb.cell (p:=⟨w.heap.size,0,none⟩) (by show w.heap.size < _; omega)).trans cW
 have hbw:=bW.trans (hb.mono bW.size)
 obtain ⟨T,hT,HG⟩ : ∃ T : ByteArray,T.size ≤ 1048576 ∧ Hid (logTexts xs n = unframe T ∧ (fileGet xs n = some T ∨ (fileGet xs n = none ∧ T = ⟨#[]⟩))):=by
  cases hg : fileGet xs n with
  | none => exact ⟨⟨#[]⟩,zz44,zd ⟨by rw [logTexts_none hg,unframe_nil], .inr ⟨rfl,rfl⟩⟩⟩
  | some T =>
   obtain ⟨k,hk,rfl⟩:=file_sz hg
   exact ⟨_,hz k hk,zd ⟨logTexts_yes hg hd, .inl rfl⟩⟩
 have HF : Hid (Calls Tryz.prog 122 #[.agg #[.slice A xs.length cap], .string n] w2 fun e w' => (∃ b : Bool,e = .returned (.tuple #[.string T, .bool b])) ∧ Below w2.heap.size w2 w'):=zd ((spec_FileAt w2 xs A cap S (Row.later HX.out hb) hl n).mono (by
  rintro e w' ⟨rfl,h⟩
  rcases HG.out.2 with h2 | ⟨h2,rfl⟩ <;> rw [h2]
  ·exact ⟨⟨true,rfl⟩,h⟩
  ·exact ⟨⟨false,rfl⟩,h⟩))
 clear hd
 have hun:=(unframe_sz T).2
 go_wp2_with (first | (go_at_call 122; refine HF.out.mono ?_; rintro e3 w3 ⟨⟨b3,rfl⟩,hb3⟩) | (go_at_call 123; refine (spec_Unframe _ T hT).mono ?_; rintro e4 w4 ⟨A4,c4,y4,rfl,o4⟩) | (at_builtin; go_loud (refine wpList_push (α:=ByteArray) (w0:=w4) (L:=[]) rfl _ _ rfl rfl rfl (Own.litAt (Below.refl _ _) 9 rfl (by first | rfl | simp)) rfl rfl (Src.flat (Row.later o4.row ((Below.refl _ _).alloc (Nat.le_refl _) _))) zz4 ?_; intro A6 c6 w6 o6 z6)))
 go_ret
 exact OwnRes.mk (o6.from (hbw.trans ((hb3.trans (o4.bl.mono hb3.size)).mono hbw.size))) (by rw [HG.out.1]; rfl) zz17
end Go.Proofs.YtlfnmbcnehaikaaGreatDoor
