/- A part of the proof. -/
import Derived.Test.YtgllafgpmenjjaaGreatDoorHChL24xFo
set_option linter.unusedVariables false
set_option linter.unusedSimpArgs false
set_option maxRecDepth 20000
set_option maxHeartbeats 8000000
namespace Go.Proofs.YtgllafgpmenjjaaGreatDoor
open Go.RowKit Lay Mk
def proofTexts (name : ByteArray) (p : Proof) (n : Int) : List ByteArray:=if proofOk name p n = true then bucketTx p.bucket :: foldL n (indexOf name) 8 (cutDigest (bucketTx p.bucket) n) p.sides else []
def proofHash (name : ByteArray) (p : Proof) (n : Int) : ByteArray:=match (proofTexts name p n).getLast? with
 | none => ⟨#[]⟩
 | some t => cutDigest t n
theorem proofOk_parts {name : ByteArray} {p : Proof} {n : Int} (h : proofOk name p n = true) : leavesOk p.bucket = true ∧ p.sides.length ≤ 8 ∧ (∀ s ∈ p.sides,s.size ≤ 32):=by
 unfold proofOk at h
 simp only [Bool.and_eq_true,decide_eq_true_eq] at h
 obtain ⟨_,h2,h3,⟨h4,h5⟩,_⟩:=h
 have h6 : 1 ≤ n ∧ n ≤ 32:=by simpa [inB] using h4
 refine ⟨h2,h3,fun s hs => ?_⟩
 unfold wideG at h5
 rw [List.all_eq_true] at h5
 have:=h5 s hs
 simp only [decide_eq_true_eq] at this
 omega
theorem foldL_le (n : Int) (ix : Nat) : ∀ (l : List ByteArray) (m : Nat) (h : ByteArray), ∀ t ∈ foldL n ix m h l,t.size ≤ 20000
 | [],_,_,t,ht => by cases ht
 | s :: r,m,h,t,ht => by
  unfold foldL at ht
  rcases List.mem_cons.1 ht with e | e
  ·subst e; exact tagText_le _ _
  ·exact foldL_le n ix r _ _ t e
theorem texts_le (name : ByteArray) (p : Proof) (n : Int) : ∀ t ∈ proofTexts name p n,t.size ≤ 20000:=by
 unfold proofTexts
 split
 ·intro t ht
  rcases List.mem_cons.1 ht with e | e
  ·subst e; exact tagText_le _ _
  ·exact foldL_le _ _ _ _ _ t e
 ·intro t ht; cases ht
theorem hash_le (name : ByteArray) (p : Proof) (n : Int) : (proofHash name p n).size ≤ 32:=by
 unfold proofHash; split
 ·exact Nat.zero_le _
 ·exact cutDigest_le _ _
theorem pair_ok {ix m : Nat} {h s : ByteArray} (h1 : h.size ≤ 32) (h2 : s.size ≤ 32) : tagOk 3 (foldPair ix m h s) = true:=by
 unfold foldPair; split
 ·exact tag_two zz69 zz8 zz8
 ·exact tag_two zz69 zz8 zz8
theorem Own.one {α : Type} [Lay α] [Flat α] {w0 w : World} (h : Below w0.heap.size w0 w) {y : α} (ok : Flat.ok y) {cs : Array Value} {t : TypeId} (ht : t = ty α) {b : Nat} (hb : b = w.heap.size) (hc : cs.toList = Flat.cs y) : Own w0 (w.alloc (.cells cs t)) (some ⟨b,0,none⟩) 1 [y]:=by
 subst hb; subst ht
 have hl : (Flat.cs y).length = n α:=Lay.len (m:=true) (w:=w) (S:=none_) (Flat.iff.2 ⟨rfl,ok⟩)
 refine ⟨.inr ⟨w.heap.size,cs,rfl,h.size,heap_alloc_new w _,by rw [← Array.length_toList,hc,hl]; omega,fun _ => none_,fun _ _ x => x.elim,fun _ _ _ _ _ x => x.elim,fun i hi => ?_⟩,zz32,zz69,h.alloc h.size _⟩
 have hi : i = 0:=by simpa using hi
 subst hi
 refine ⟨Flat.cs y,fun j u hu => ?_,Flat.iff.2 ⟨rfl,ok⟩⟩
 rw [World.cell?_alloc_mark]
 rw [← hc] at hu
 simpa using hu
theorem impl_ProofTexts (w : World) (name : ByteArray) (hn : name.size ≤ 1048576) (p : Proof) (cs : List Value) (S : Blks) (hx : rd false w cs p S) (hz : p.sz ≤ 1048576) (n : Int) (hnn : I64 n) (hT : Tabs w) : Calls Tryz.prog 146 #[.string name, .agg cs.toArray, .int .i64 n] w (OwnRes (proofTexts name p n) w):=by
 have HT:=zd hT
 clear hT
 have HPO:=zd (fun W (h : Below w.heap.size w W) => impl_ProofOk W name hn p cs S (Lay.later hx h) hz n hnn (HT.out.later h))
 have HTX:=texts_le name p n
 obtain ⟨hzb,hlb,hls⟩:=proof_sz hz
 obtain ⟨A0,k0,S0,A1,k1,S1,rfl,lb,mb,r0, -,ls,ms,r1, -⟩:=Proof.open hx
 clear hx hz HTX
 have HF0 : Hid (proofOk name p n = false → proofTexts name p n = []):=zd (fun h => by unfold proofTexts; rw [h]; rfl)
 have HF1 : Hid (proofOk name p n = true → proofTexts name p n = bucketTx p.bucket :: foldL n (indexOf name) 8 (cutDigest (bucketTx p.bucket) n) p.sides):=zd (fun h => by unfold proofTexts; rw [if_pos h])
 have HPP:=zd (fun h => proofOk_parts (name:=name) (p:=p) (n:=n) h)
 obtain ⟨xs,ss⟩:=p
 simp only at hzb hlb hls r0 r1 lb ls mb ms HF1 HPP
 obtain ⟨R,hR⟩ : ∃ R,proofTexts name ⟨xs,ss⟩ n = R:=⟨_,rfl⟩
 rw [hR] at HF0 HF1 ⊢
 clear hR
 simp only [Proof.cs] at HPO ⊢
 have hWd : ∀ W,W = w.alloc (.cells #[.slice A0 xs.length k0, .slice A1 ss.length k1] 57) → Below w.heap.size w W ∧ W.cell? ⟨w.heap.size,0,none⟩ = some (.slice A0 xs.length k0) ∧ W.cell? ⟨w.heap.size,1,none⟩ = some (.slice A1 ss.length k1) ∧ w.heap.size < W.heap.size:=by
  rintro W rfl
  exact ⟨(Below.refl _ _).alloc (Nat.le_refl _) _,ya1 _ _ _ _ _ rfl,ya1 _ _ _ _ _ rfl,zz32⟩
 cases hok : proofOk name ⟨xs,ss⟩ n <;> rw [hok] at HPO
 ·have HE:=zd (HF0.out hok)
  clear hok HF0 HF1 HPP
  go_enter Tryz.func146,Tryz.ntmps146
  go_wp2_with (fail)
  obtain ⟨W,hW⟩ : ∃ W,w.alloc (.cells #[.slice A0 xs.length k0, .slice A1 ss.length k1] 57) = W:=⟨_,rfl⟩
  rw [hW]
  obtain ⟨hBW,c0,c1,hlW⟩:=hWd W hW.symm
  clear hW hWd
  have HBW:=zd hBW
  refine (HPO.out _ hBW).mono ?_
  rintro e1 w1 ⟨rfl,hb1⟩
  have HB1:=zd (HBW.out.trans (hb1.mono HBW.out.size))
  replace c0:=(hb1.cell (p:=⟨w.heap.size,0,none⟩) hlW).trans c0
  replace c1:=(hb1.cell (p:=⟨w.heap.size,1,none⟩) hlW).trans c1
  have hl1 : w.heap.size < w1.heap.size:=Nat.lt_of_lt_of_le hlW hb1.size
  clear hb1 hBW HPO
  go_wp2
  go_ret
  exact OwnRes.mk (Own.start HB1.out) HE.out rfl
 have HE:=zd (HF1.out hok)
 obtain ⟨hlv,hs8,hs32⟩:=HPP.out hok
 clear hok HF0 HF1 HPP
 have hix:=indexOf_lt name
 obtain ⟨t0,ht0⟩ : ∃ t,bucketTx xs = t:=⟨_,rfl⟩
 have htm : t0.size ≤ 20000:=by rw [← ht0]; exact tagText_le _ _
 have htx : t0.size ≤ maxLen:=ml htm zz8
 have HBT:=zd (fun W (h : Below w.heap.size w W) => impl_bucketText W xs A0 k0 S0 (Row.later r0 h) hlb)
 have HCD:=zd (fun W (h : Below w.heap.size w W) => impl_CutDigest W t0 zz8 n hnn (HT.out.later h))
 have HIX:=zd (fun W (h : Below w.heap.size w W) => impl_IndexOf W name zz8 (HT.out.later h))
 rw [ht0] at HBT HE
 obtain ⟨ix,hixe⟩ : ∃ ix,indexOf name = ix:=⟨_,rfl⟩
 rw [hixe] at HIX HE hix
 obtain ⟨h0,hh0⟩ : ∃ h,cutDigest t0 n = h:=⟨_,rfl⟩
 have hhm : h0.size ≤ maxLen:=by rw [← hh0]; exact ml (cutDigest_le _ _) zz8
 rw [hh0] at HCD HE
 have HFT:=zd (fun W (h : Below w.heap.size w W) => impl_foldTexts W h0 hhm ix hix 8 zz8 ss A1 k1 S1 (Row.later r1 h) hs8 n hnn (HT.out.later h))
 have hfl:=foldL_len n ix ss 8 h0
 obtain ⟨FL,hFL⟩ : ∃ l,foldL n ix 8 h0 ss = l:=⟨_,rfl⟩
 rw [hFL] at HFT HE hfl
 have hfl8 : FL.length ≤ 8:=zz8
 clear ht0 hixe hh0 hFL r0 r1 hlv hs32 hfl
 go_enter Tryz.func146,Tryz.ntmps146
 go_wp2_with (fail)
 obtain ⟨W,hW⟩ : ∃ W,w.alloc (.cells #[.slice A0 xs.length k0, .slice A1 ss.length k1] 57) = W:=⟨_,rfl⟩
 rw [hW]
 obtain ⟨hBW,c0,c1,hlW⟩:=hWd W hW.symm
 clear hW hWd
 have HBW:=zd hBW
 refine (HPO.out _ hBW).mono ?_
 rintro e1 w1 ⟨rfl,hb1⟩
 have HB1:=zd (HBW.out.trans (hb1.mono HBW.out.size))
 replace c0:=(hb1.cell (p:=⟨w.heap.size,0,none⟩) hlW).trans c0
 replace c1:=(hb1.cell (p:=⟨w.heap.size,1,none⟩) hlW).trans c1
 have hl1 : w.heap.size < w1.heap.size:=Nat.lt_of_lt_of_le hlW hb1.size
 clear hb1 hBW HPO
 go_wp2_with (fail)
 refine (HBT.out _ HB1.out).mono ?_
 rintro e2 w2 ⟨rfl,hb2⟩
 have HB2:=zd (HB1.out.trans (hb2.mono HB1.out.size))
 replace c1:=(hb2.cell (p:=⟨w.heap.size,1,none⟩) hl1).trans c1
 have hl2 : w.heap.size < w2.heap.size:=Nat.lt_of_lt_of_le hl1 hb2.size
 clear hb2 c0 HBT
 have hB:=Below.refl w2.heap.size w2
 have HM:=zd (fun (w' : World) (h' : Below w2.heap.size w2 w') => (⟨(h'.cell (p:=⟨w.heap.size,1,none⟩) hl2).trans c1,h'⟩ : w'.cell? ⟨w.heap.size,1,none⟩ = some (.slice A1 ss.length k1) ∧ Below w2.heap.size w2 w'))
 go_wp2_with (fail)
 go_region_held3 (fun w' => w'.cell? ⟨w.heap.size,1,none⟩ = some (.slice A1 ss.length k1) ∧ Below w2.heap.size w2 w')
  (first | exact HM.out _ (by have zh:=hB; exact zz15))
  (first | (go_at_call 147; refine (HCD.out _ (HB2.out.trans (Below.mono (w:=w2) (by have zh:=hB; exact zz15) HB2.out.size))).mono ?_; rintro e5 w5 ⟨rfl,hb5⟩; have hs5:=hb5.size; (try simp at hs5); have hB:=Below.step (a:=w2) (by have zh:=hB; exact zz15) hb5) | (go_at_call 97; refine (HIX.out _ (HB2.out.trans (Below.mono (w:=w2) (by have zh:=hB; exact zz15) HB2.out.size))).mono ?_; rintro e6 w6 ⟨rfl,hb6⟩; have hs6:=hb6.size; (try simp at hs6); have hB:=Below.step (a:=w2) (by have zh:=hB; exact zz15) hb6) | (go_at_call 145; refine (HFT.out _ (HB2.out.trans (Below.mono (w:=w2) (by have zh:=hB; exact zz15) HB2.out.size))).mono ?_; rintro e7 w7 ⟨A7,c7,rfl,own7⟩; have hs7:=own7.bl.size; (try simp at hs7); have HO7:=zd own7; have hB:=Below.step (a:=w2) (by have zh:=hB; exact zz15) own7.bl; clear own7))
 have HB7:=zd (HB2.out.trans (Below.mono (w:=w2) hB HB2.out.size))
 have HO8:=zd (Own.one (α:=ByteArray) HB7.out (y:=t0) htx (cs:=#[.string t0]) (t:=9) rfl (b:=w7.heap.size) rfl rfl)
 have HSR:=zd (Src.flat (Row.later HO7.out.row ((Below.refl w7.heap.size w7).alloc (Nat.le_refl _) (.cells #[.string t0] 9))))
 go_wp2_with (at_builtin; refine wpList_push (α:=ByteArray) rfl _ _ rfl rfl rfl HO8.out rfl rfl HSR.out (by first | omega | (simp; omega)) ?_; intro A6 c6 w8 o6 z6)
 go_ret
 exact OwnRes.mk o6 zz70 zz35
theorem spec_ProofTexts (w : World) (name : ByteArray) (hn : name.size ≤ 1048576) (p : Proof) (cs : List Value) (S : Blks) (hx : rd false w cs p S) (hz : p.sz ≤ 1048576) (n : Int) (hnn : I64 n) : Calls Tryz.prog 136 #[.string name, .agg cs.toArray, .int .i64 n] w (OwnRes (proofTexts name p n) w):=by
 have HPO:=zd (fun W (h : Below w.heap.size w W) => spec_ProofOk W name hn p cs S (Lay.later hx h) hz n hnn)
 have HTX:=texts_le name p n
 obtain ⟨hzb,hlb,hls⟩:=proof_sz hz
 obtain ⟨A0,k0,S0,A1,k1,S1,rfl,lb,mb,r0, -,ls,ms,r1, -⟩:=Proof.open hx
 clear hx hz HTX
 have HF0 : Hid (proofOk name p n = false → proofTexts name p n = []):=zd (fun h => by unfold proofTexts; rw [h]; rfl)
 have HF1 : Hid (proofOk name p n = true → proofTexts name p n = bucketTx p.bucket :: foldL n (indexOf name) 8 (cutDigest (bucketTx p.bucket) n) p.sides):=zd (fun h => by unfold proofTexts; rw [if_pos h])
 have HPP:=zd (fun h => proofOk_parts (name:=name) (p:=p) (n:=n) h)
 obtain ⟨xs,ss⟩:=p
 simp only at hzb hlb hls r0 r1 lb ls mb ms HF1 HPP
 obtain ⟨R,hR⟩ : ∃ R,proofTexts name ⟨xs,ss⟩ n = R:=⟨_,rfl⟩
 rw [hR] at HF0 HF1 ⊢
 clear hR
 simp only [Proof.cs] at HPO ⊢
 have hWd : ∀ W,W = w.alloc (.cells #[.slice A0 xs.length k0, .slice A1 ss.length k1] 57) → Below w.heap.size w W ∧ W.cell? ⟨w.heap.size,0,none⟩ = some (.slice A0 xs.length k0) ∧ W.cell? ⟨w.heap.size,1,none⟩ = some (.slice A1 ss.length k1) ∧ w.heap.size < W.heap.size:=by
  rintro W rfl
  exact ⟨(Below.refl _ _).alloc (Nat.le_refl _) _,ya1 _ _ _ _ _ rfl,ya1 _ _ _ _ _ rfl,zz32⟩
 cases hok : proofOk name ⟨xs,ss⟩ n <;> rw [hok] at HPO
 ·have HE:=zd (HF0.out hok)
  clear hok HF0 HF1 HPP
  go_enter Tryz.func136,Tryz.ntmps136
  go_wp2_with (fail)
  obtain ⟨W,hW⟩ : ∃ W,w.alloc (.cells #[.slice A0 xs.length k0, .slice A1 ss.length k1] 57) = W:=⟨_,rfl⟩
  rw [hW]
  obtain ⟨hBW,c0,c1,hlW⟩:=hWd W hW.symm
  clear hW hWd
  have HBW:=zd hBW
  refine (HPO.out _ hBW).mono ?_
  rintro e1 w1 ⟨rfl,hb1⟩
  have HB1:=zd (HBW.out.trans (hb1.mono HBW.out.size))
  replace c0:=(hb1.cell (p:=⟨w.heap.size,0,none⟩) hlW).trans c0
  replace c1:=(hb1.cell (p:=⟨w.heap.size,1,none⟩) hlW).trans c1
  have hl1 : w.heap.size < w1.heap.size:=Nat.lt_of_lt_of_le hlW hb1.size
  clear hb1 hBW HPO
  go_wp2
  go_ret
  exact OwnRes.mk (Own.litAt (α:=ByteArray) HB1.out 9 rfl (b:=w1.heap.size) rfl) HE.out rfl
 have HE:=zd (HF1.out hok)
 obtain ⟨hlv,hs8,hs32⟩:=HPP.out hok
 clear hok HF0 HF1 HPP
 have hix:=indexOf_lt name
 obtain ⟨t0,ht0⟩ : ∃ t,bucketTx xs = t:=⟨_,rfl⟩
 have htm : t0.size ≤ 20000:=by rw [← ht0]; exact tagText_le _ _
 have htx : t0.size ≤ maxLen:=ml htm zz8
 have HBT:=zd (fun W (h : Below w.heap.size w W) => spec_BucketText W xs A0 k0 S0 (Row.later r0 h) hlb hzb hlv)
 have HIX:=zd (fun W => spec_IndexOf W name zz8)
 rw [ht0] at HBT HE
 obtain ⟨ix,hixe⟩ : ∃ ix,indexOf name = ix:=⟨_,rfl⟩
 rw [hixe] at HIX HE hix
 clear ht0 hixe r0 hlv
 go_enter Tryz.func136,Tryz.ntmps136
 go_wp2_with (fail)
 obtain ⟨W,hW⟩ : ∃ W,w.alloc (.cells #[.slice A0 xs.length k0, .slice A1 ss.length k1] 57) = W:=⟨_,rfl⟩
 rw [hW]
 obtain ⟨hBW,c0,c1,hlW⟩:=hWd W hW.symm
 clear hW hWd
 have HBW:=zd hBW
 refine (HPO.out _ hBW).mono ?_
 rintro e1 w1 ⟨rfl,hb1⟩
 have HB1:=zd (HBW.out.trans (hb1.mono HBW.out.size))
 replace c0:=(hb1.cell (p:=⟨w.heap.size,0,none⟩) hlW).trans c0
 replace c1:=(hb1.cell (p:=⟨w.heap.size,1,none⟩) hlW).trans c1
 have hl1 : w.heap.size < w1.heap.size:=Nat.lt_of_lt_of_le hlW hb1.size
 clear hb1 hBW HPO
 go_wp2_with (fail)
 refine (HIX.out _).mono ?_
 rintro e2 w2 ⟨rfl,hb2⟩
 have HB2:=zd (HB1.out.trans (hb2.mono HB1.out.size))
 replace c0:=(hb2.cell (p:=⟨w.heap.size,0,none⟩) hl1).trans c0
 replace c1:=(hb2.cell (p:=⟨w.heap.size,1,none⟩) hl1).trans c1
 have hl2 : w.heap.size < w2.heap.size:=Nat.lt_of_lt_of_le hl1 hb2.size
 clear hb2
 go_wp2_with (fail)
 refine (HBT.out _ HB2.out).mono ?_
 rintro e3 w3 ⟨rfl,hb3⟩
 have HB3:=zd (HB2.out.trans (hb3.mono HB2.out.size))
 replace c1:=(hb3.cell (p:=⟨w.heap.size,1,none⟩) hl2).trans c1
 have hl3 : w.heap.size < w3.heap.size:=Nat.lt_of_lt_of_le hl2 hb3.size
 have C1:=zd c1
 have rV:=zd (Row.later r1 HB3.out)
 clear hb3 c0 HBT r1
 have HO:=zd (Own.one (α:=ByteArray) (Below.refl w3.heap.size w3) (y:=t0) htx (cs:=#[.string t0]) (t:=9) rfl (b:=w3.heap.size) rfl rfl)
 generalize tagOk (bucketKind xs) (bucketParts xs) = tk
 go_wp2_with (fail)
 go_loopw [10,11] (fun u i wr => ∃ (k m nL : Nat) (pre : List ByteArray) (tl : ByteArray) (A : Option Addr) (c : Nat),k ≤ ss.length ∧ i = .int .i64 k ∧ u = .slice A nL c ∧ Hid (nL = (pre ++ [tl]).length) ∧ nL = k + 1 ∧ Hid (pre.length = k) ∧ Hid (m + k = 8) ∧ tl.size ≤ 20000 ∧ Hid (R = (pre ++ [tl]) ++ foldL n ix m (cutDigest tl n) (ss.drop k)) ∧ Own w3 wr A c (pre ++ [tl])) (fun _ i _ => ss.length - (intOf i).toNat)
 case atStart => exact ⟨0,8,1, [],t0,_,1,Nat.zero_le _,rfl,rfl,zd rfl,rfl,zd rfl,zd rfl,htm,zd zz70,HO.out⟩
 case round =>
  clear HO c1 HE htm htx
  obtain ⟨k,m,nL,pre,tl,A,c,hk,rfl,rfl,HnL,hnk,HP,HM,htl,HL,hown⟩:=hrel
  have hb:=hown.bl
  have HOW:=zd hown
  have c1:=(hb.cell (p:=⟨w.heap.size,1,none⟩) hl3).trans C1.out
  have hlr : w.heap.size < wr.heap.size:=Nat.lt_of_lt_of_le hl3 hb.size
  subst hnk
  by_cases hlt : k < ss.length
  ·obtain ⟨b1,o1,rfl,hl5,f0,s0⟩:=Row.str rV.out hlt
   replace f0:=(hb.cell (p:=⟨b1,o1 + k,none⟩) hl5).trans f0
   have hl6 : b1 < wr.heap.size:=Nat.lt_of_lt_of_le hl5 hb.size
   have HD:=zd (drop_at hlt)
   have hss:=hs32 _ (List.getElem_mem hlt)
   obtain ⟨s,hs⟩ : ∃ s,ss[k] = s:=⟨_,rfl⟩
   rw [hs] at f0 s0 HD hss
   obtain ⟨b2,o2,e2,hl7,f1,s1⟩:=Row.str hown.row (i:=k) (by have:=HP.out; simp; omega)
   have hgl : (pre ++ [tl])[k]'(by have:=HP.out; simp; omega) = tl:=by
    rw [List.getElem_append_right (by have:=HP.out; omega)]; simp
   rw [hgl] at f1
   subst e2
   obtain ⟨m',hm'⟩ : ∃ m',m = m' + 1:=⟨m - 1,by have:=HM.out; omega⟩
   subst hm'
   have HM2 : Hid (m' + (k + 1) = 8):=zd (by have:=HM.out; omega)
   have hm8 : m' < 8:=by have:=HM.out; omega
   have hlm : (7 : Int) - (k : Int) = (m' : Int):=by have:=HM.out; omega
   have HBT:=zd (fun W => spec_BitOf W ix hix m' hm8)
   rw [← hlm] at HBT
   have hs2 : IntKind.i64.wrap ((7 : Int) - (k : Int)) = (7 : Int) - (k : Int):=IntWalk.i64_in _ zz8
   have hkl : (k : Int) < ((k + 1 : Nat) : Int):=zz8
   have hkl2 : (k : Int) < (k : Int) + 1:=zz8
   have hss2 : (k : Int) < (ss.length : Int):=zz8
   have hcl:=cutDigest_le tl n
   obtain ⟨h,hh⟩ : ∃ h,cutDigest tl n = h:=⟨_,rfl⟩
   have HCD:=zd (fun W => spec_CutDigest W tl zz8 n hnn)
   rw [hh] at hcl HL HCD
   have hhm : h.size ≤ maxLen:=ml hcl zz8
   have HOKP : Hid (tagOk 3 (foldPair ix m' h s) = true):=zd (pair_ok hcl hss)
   have HNL : Hid (R = (pre ++ [tl]) ++ tagText 3 (foldPair ix m' h s) :: foldL n ix m' (yaf 3 (foldPair ix m' h s) n) (ss.drop (k + 1))):=zd (by rw [HL.out,HD.out]; rfl)
   have HBl:=zd hb
   clear hs HD HL HM hb hlm hh hown hgl s1 hcl hss
   go_wp2_with (fail)
   refine (HCD.out _).mono ?_
   rintro e5 w5 ⟨rfl,hb5⟩
   replace c1:=(hb5.cell (p:=⟨w.heap.size,1,none⟩) hlr).trans c1
   replace f0:=(hb5.cell (p:=⟨b1,o1 + k,none⟩) hl6).trans f0
   have HO5:=zd (HOW.out.later hb5)
   have hlr5 : w.heap.size < w5.heap.size:=Nat.lt_of_lt_of_le hlr hb5.size
   have hl65 : b1 < w5.heap.size:=Nat.lt_of_lt_of_le hl6 hb5.size
   clear hb5 f1
   rcases bitOf_two ix m' with hbit | hbit
   ·have hq : ((bitOf ix m' : Int) == 1) = false:=by rw [hbit]; rfl
    have HPE:=zd (pair_zero2 (h:=h) (s:=s) hbit)
    have HOK2 : Hid (tagOk 3 [h,s] = true):=zd (by rw [← HPE.out]; exact HOKP.out)
    have HNL2 : Hid (R = (pre ++ [tl]) ++ tagText 3 [h,s] :: foldL n ix m' (yaf 3 [h,s] n) (ss.drop (k + 1))):=zd (by rw [HNL.out,HPE.out])
    obtain ⟨bt,hbt⟩ : ∃ bt,bitOf ix m' = bt:=⟨_,rfl⟩
    rw [hbt] at hq HBT
    clear hbit HPE hbt HNL HOKP
    go_wp2_with (first | (go_at_call 135; refine (HBT.out _).mono ?_; rintro e9 w9 ⟨rfl,rfl⟩) | (go_at_call 169; fail))
    refine (spec_TagText _ 3 zz39 [h,s] _ _ _ (row_pairC _ h s hhm s0 _ _ zz66) zz32).mono ?_
    rintro e6 w6 ⟨rfl,hb6⟩
    have HO6:=zd ((HO5.out.alloc _).later hb6)
    have htm:=tagText_le 3 [h,s]
    have HTH : Hid (yaf 3 [h,s] n = cutDigest (tagText 3 [h,s]) n):=zd (by unfold yaf; rw [if_pos HOK2.out])
    obtain ⟨t,ht⟩ : ∃ t,tagText 3 [h,s] = t:=⟨_,rfl⟩
    rw [ht] at HTH HNL2 htm
    simp only [ht]
    have htx : t.size ≤ maxLen:=ml htm zz8
    have HLL : Hid (R = ((pre ++ [tl]) ++ [t]) ++ foldL n ix m' (cutDigest t n) (ss.drop (k + 1))):=zd (by rw [HNL2.out,HTH.out]; simp)
    generalize tagOk 3 [h,s] = tk2
    clear ht hb6 hs2 HNL2 HTH HOK2
    go_wp2_with (at_builtin; refine wpList_push (α:=ByteArray) rfl _ _ rfl rfl HnL.out (HO6.out.alloc _) rfl rfl (src1 htx rfl rfl) zz8 ?_; intro A7 c7 w7 o7 z7)
    go_roundw
    case rel => first | exact ⟨k + 1,m',k + 1 + 1,pre ++ [tl],t,A7,c7,hlt,by go_num,rfl,zd (by rw [List.length_append, ← HnL.out]; rfl),rfl,zd (by rw [List.length_append,HP.out]; rfl),HM2,htm,HLL,o7⟩ | ((repeat apply Exists.intro); exact ⟨⟨k + 1,m',k + 1 + 1,pre ++ [tl],t,A7,c7,hlt,by go_num,rfl,zd (by rw [List.length_append, ← HnL.out]; rfl),rfl,zd (by rw [List.length_append,HP.out]; rfl),HM2,htm,HLL,o7⟩,rfl⟩)
    case measure => simp [intOf]; omega
   ·have hq : ((bitOf ix m' : Int) == 1) = true:=by rw [hbit]; rfl
    have HPE:=zd (pair_one2 (h:=h) (s:=s) hbit)
    have HOK2 : Hid (tagOk 3 [s,h] = true):=zd (by rw [← HPE.out]; exact HOKP.out)
    have HNL2 : Hid (R = (pre ++ [tl]) ++ tagText 3 [s,h] :: foldL n ix m' (yaf 3 [s,h] n) (ss.drop (k + 1))):=zd (by rw [HNL.out,HPE.out])
    obtain ⟨bt,hbt⟩ : ∃ bt,bitOf ix m' = bt:=⟨_,rfl⟩
    rw [hbt] at hq HBT
    clear hbit HPE hbt HNL HOKP
    go_wp2_with (first | (go_at_call 135; refine (HBT.out _).mono ?_; rintro e9 w9 ⟨rfl,rfl⟩) | (go_at_call 169; fail))
    refine (spec_TagText _ 3 zz39 [s,h] _ _ _ (row_pairC _ s h s0 hhm _ _ zz66) zz32).mono ?_
    rintro e6 w6 ⟨rfl,hb6⟩
    have HO6:=zd (((HO5.out.alloc _).alloc _).later hb6)
    have htm:=tagText_le 3 [s,h]
    have HTH : Hid (yaf 3 [s,h] n = cutDigest (tagText 3 [s,h]) n):=zd (by unfold yaf; rw [if_pos HOK2.out])
    obtain ⟨t,ht⟩ : ∃ t,tagText 3 [s,h] = t:=⟨_,rfl⟩
    rw [ht] at HTH HNL2 htm
    simp only [ht]
    have htx : t.size ≤ maxLen:=ml htm zz8
    have HLL : Hid (R = ((pre ++ [tl]) ++ [t]) ++ foldL n ix m' (cutDigest t n) (ss.drop (k + 1))):=zd (by rw [HNL2.out,HTH.out]; simp)
    generalize tagOk 3 [s,h] = tk2
    clear ht hb6 hs2 HNL2 HTH HOK2
    go_wp2_with (at_builtin; refine wpList_push (α:=ByteArray) rfl _ _ rfl rfl HnL.out (HO6.out.alloc _) rfl rfl (src1 htx rfl rfl) zz8 ?_; intro A7 c7 w7 o7 z7)
    go_roundw
    case rel => first | exact ⟨k + 1,m',k + 1 + 1,pre ++ [tl],t,A7,c7,hlt,by go_num,rfl,zd (by rw [List.length_append, ← HnL.out]; rfl),rfl,zd (by rw [List.length_append,HP.out]; rfl),HM2,htm,HLL,o7⟩ | ((repeat apply Exists.intro); exact ⟨⟨k + 1,m',k + 1 + 1,pre ++ [tl],t,A7,c7,hlt,by go_num,rfl,zd (by rw [List.length_append, ← HnL.out]; rfl),rfl,zd (by rw [List.length_append,HP.out]; rfl),HM2,htm,HLL,o7⟩,rfl⟩)
    case measure => simp [intOf]; omega
  ·have hke : k = ss.length:=by omega
   have HE2 : Hid (R = pre ++ [tl]):=zd (by rw [HL.out,List.drop_of_length_le zz8]; simp [foldL])
   have HOF:=zd (HOW.out.from HB3.out)
   clear hown hb
   go_wp2
   go_ret
   exact OwnRes.mk HOF.out HE2.out HnL.out
theorem impl_ProofHash (w : World) (name : ByteArray) (hn : name.size ≤ 1048576) (p : Proof) (cs : List Value) (S : Blks) (hx : rd false w cs p S) (hz : p.sz ≤ 1048576) (n : Int) (hnn : I64 n) (hT : Tabs w) : Calls Tryz.prog 96 #[.string name, .agg cs.toArray, .int .i64 n] w fun e w' => e = .returned (.string (proofHash name p n)) ∧ Below w.heap.size w w':=by
 have HT:=zd hT
 clear hT
 have HPT:=zd (fun W (h : Below w.heap.size w W) => impl_ProofTexts W name hn p cs S (Lay.later hx h) hz n hnn (HT.out.later h))
 have HTX:=zd (texts_le name p n)
 have HF : Hid (proofHash name p n = match (proofTexts name p n).getLast? with
  | none => ⟨#[]⟩
  | some t => cutDigest t n):=zd rfl
 obtain ⟨R,hR⟩ : ∃ R,proofHash name p n = R:=⟨_,rfl⟩
 rw [hR] at HF ⊢
 obtain ⟨L,hL⟩ : ∃ L,proofTexts name p n = L:=⟨_,rfl⟩
 rw [hL] at HF HPT HTX
 clear hR hL
 obtain ⟨A0,k0,S0,A1,k1,S1,rfl, -⟩:=Proof.open hx
 clear hx hz
 simp only [Proof.cs] at HPT ⊢
 go_enter Tryz.func96,Tryz.ntmps96
 go_wp2_with (fail)
 refine (HPT.out _ ((Below.refl _ _).alloc (Nat.le_refl _) _)).mono ?_
 rintro e1 w1 ⟨A,c,rfl,own⟩
 have HB1:=zd (Below.via own.bl)
 rcases List.eq_nil_or_concat L with hnil | ⟨pre,tl,hpt⟩
 ·subst hnil
  have HE : Hid (R = ⟨#[]⟩):=zd HF.out
  clear own HF
  go_wp2
  go_ret
  exact ⟨ret_str (by rw [HE.out]),HB1.out⟩
 ·have hpt2 : L = pre ++ [tl]:=by rw [hpt,List.concat_eq_append]
  subst hpt2
  have HE : Hid (R = cutDigest tl n):=zd (by rw [HF.out]; simp)
  have htl:=HTX.out tl zz32
  obtain ⟨b1,o1,rfl,hl1,f0,s0⟩:=Row.str own.row (i:=pre.length) zz32
  rw [List.getElem_concat_length (rfl)] at f0
  have hln : (pre ++ [tl]).length = pre.length + 1:=zz32
  obtain ⟨m,hm⟩ : ∃ m,pre.length = m:=⟨_,rfl⟩
  have hcm:=Nat.le_trans own.le own.cm
  rw [hln,hm] at hcm
  rw [hm] at hln f0
  rw [hln]
  unfold maxLen at hcm
  have hw1 : IntKind.i64.wrap (((m + 1 : Nat) : Int) - 1) = (m : Int):=by rw [IntWalk.i64_in _ zz8]; omega
  have hp : (0 : Int) < ((m + 1 : Nat) : Int):=zz8
  have hq : ((m + 1 : Nat) : Int) - 1 = (m : Int):=zz8
  have hpp : (0 : Int) < (m : Int) + 1:=zz8
  have hlt2 : (m : Int) < ((m + 1 : Nat) : Int):=zz8
  have hlt3 : (m : Int) < (m : Int) + 1:=zz8
  have hqq : (m : Int) + 1 - 1 = (m : Int):=zz8
  have hw2 : IntKind.i64.wrap (m : Int) = (m : Int):=IntWalk.i64_in _ zz8
  have hq0 : ((((m + 1 : Nat) : Int)) == 0) = false:=zz45
  have hq1 : (((m : Int) + 1) == 0) = false:=zz45
  clear own hln hm s0 hpt HF HTX
  go_wp2_with (fail)
  refine (impl_CutDigest _ tl zz8 n hnn (HT.out.later HB1.out)).mono ?_
  rintro e2 w2 ⟨rfl,hb2⟩
  have HB2:=zd (HB1.out.trans (hb2.mono HB1.out.size))
  clear hb2
  go_wp2
  go_ret
  exact ⟨ret_str (by rw [HE.out]),HB2.out⟩
theorem spec_ProofHash (w : World) (name : ByteArray) (hn : name.size ≤ 1048576) (p : Proof) (cs : List Value) (S : Blks) (hx : rd false w cs p S) (hz : p.sz ≤ 1048576) (n : Int) (hnn : I64 n) : Calls Tryz.prog 85 #[.string name, .agg cs.toArray, .int .i64 n] w fun e w' => e = .returned (.string (proofHash name p n)) ∧ Below w.heap.size w w':=by
 have HPT:=zd (fun W (h : Below w.heap.size w W) => spec_ProofTexts W name hn p cs S (Lay.later hx h) hz n hnn)
 have HTX:=zd (texts_le name p n)
 have HF : Hid (proofHash name p n = match (proofTexts name p n).getLast? with
  | none => ⟨#[]⟩
  | some t => cutDigest t n):=zd rfl
 obtain ⟨R,hR⟩ : ∃ R,proofHash name p n = R:=⟨_,rfl⟩
 rw [hR] at HF ⊢
 obtain ⟨L,hL⟩ : ∃ L,proofTexts name p n = L:=⟨_,rfl⟩
 rw [hL] at HF HPT HTX
 clear hR hL
 obtain ⟨A0,k0,S0,A1,k1,S1,rfl, -⟩:=Proof.open hx
 clear hx hz
 simp only [Proof.cs] at HPT ⊢
 go_enter Tryz.func85,Tryz.ntmps85
 go_wp2_with (fail)
 refine (HPT.out _ ((Below.refl _ _).alloc (Nat.le_refl _) _)).mono ?_
 rintro e1 w1 ⟨A,c,rfl,own⟩
 have HB1:=zd (Below.via own.bl)
 rcases List.eq_nil_or_concat L with hnil | ⟨pre,tl,hpt⟩
 ·subst hnil
  have HE : Hid (R = ⟨#[]⟩):=zd HF.out
  clear own HF
  go_wp2
  go_ret
  exact ⟨ret_str (by rw [HE.out]),HB1.out⟩
 ·have hpt2 : L = pre ++ [tl]:=by rw [hpt,List.concat_eq_append]
  subst hpt2
  have HE : Hid (R = cutDigest tl n):=zd (by rw [HF.out]; simp)
  have htl:=HTX.out tl zz32
  obtain ⟨b1,o1,rfl,hl1,f0,s0⟩:=Row.str own.row (i:=pre.length) zz32
  rw [List.getElem_concat_length (rfl)] at f0
  have hln : (pre ++ [tl]).length = pre.length + 1:=zz32
  obtain ⟨m,hm⟩ : ∃ m,pre.length = m:=⟨_,rfl⟩
  have hcm:=Nat.le_trans own.le own.cm
  rw [hln,hm] at hcm
  rw [hm] at hln f0
  rw [hln]
  unfold maxLen at hcm
  have hw1 : IntKind.i64.wrap (((m + 1 : Nat) : Int) - 1) = (m : Int):=by rw [IntWalk.i64_in _ zz8]; omega
  have hp : (0 : Int) < ((m + 1 : Nat) : Int):=zz8
  have hq : ((m + 1 : Nat) : Int) - 1 = (m : Int):=zz8
  have hpp : (0 : Int) < (m : Int) + 1:=zz8
  have hlt2 : (m : Int) < ((m + 1 : Nat) : Int):=zz8
  have hlt3 : (m : Int) < (m : Int) + 1:=zz8
  have hqq : (m : Int) + 1 - 1 = (m : Int):=zz8
  have hw2 : IntKind.i64.wrap (m : Int) = (m : Int):=IntWalk.i64_in _ zz8
  have hq0 : ((((m + 1 : Nat) : Int)) == 0) = false:=zz45
  have hq1 : (((m : Int) + 1) == 0) = false:=zz45
  clear own hln hm s0 hpt HF HTX
  go_wp2_with (fail)
  refine (spec_CutDigest _ tl zz8 n hnn).mono ?_
  rintro e2 w2 ⟨rfl,hb2⟩
  have HB2:=zd (HB1.out.trans (hb2.mono HB1.out.size))
  clear hb2
  go_wp2
  go_ret
  exact ⟨ret_str (by rw [HE.out]),HB2.out⟩
theorem impl_ProofSays (w : World) (name : ByteArray) (hn : name.size ≤ maxLen) (p : Proof) (cs : List Value) (S : Blks) (hx : rd false w cs p S) (hz : p.sz ≤ 1048576) : Calls Tryz.prog 100 #[.string name, .agg cs.toArray] w fun e w' => e = .returned (.tuple #[.string (leafGet p.bucket name).1, .bool (leafGet p.bucket name).2]) ∧ Below w.heap.size w w':=by
 obtain ⟨hzb,hlb,hls⟩:=proof_sz hz
 obtain ⟨A0,k0,S0,A1,k1,S1,rfl,lb,mb,r0, -⟩:=Proof.open hx
 clear hx hz
 have HG:=zd (fun W (h : Below w.heap.size w W) => impl_LeafGet W p.bucket A0 k0 S0 (Row.later r0 h) zz8 name hn)
 clear r0
 simp only [Proof.cs]
 go_enter Tryz.func100,Tryz.ntmps100
 go_wp2_with (fail)
 refine (HG.out _ ((Below.refl _ _).alloc (Nat.le_refl _) _)).mono ?_
 rintro e1 w1 ⟨rfl,hb1⟩
 go_wp2
 go_ret2
 exact ⟨rfl,Below.via hb1⟩
theorem spec_ProofSays (w : World) (name : ByteArray) (hn : name.size ≤ maxLen) (p : Proof) (cs : List Value) (S : Blks) (hx : rd false w cs p S) (hz : p.sz ≤ 1048576) : Calls Tryz.prog 28 #[.string name, .agg cs.toArray] w fun e w' => e = .returned (.tuple #[.string (leafGet p.bucket name).1, .bool (leafGet p.bucket name).2]) ∧ Below w.heap.size w w':=by
 obtain ⟨hzb,hlb,hls⟩:=proof_sz hz
 obtain ⟨A0,k0,S0,A1,k1,S1,rfl,lb,mb,r0, -⟩:=Proof.open hx
 clear hx hz
 have HG:=zd (fun W (h : Below w.heap.size w W) => spec_LeafGet W p.bucket A0 k0 S0 (Row.later r0 h) zz8 name hn)
 clear r0
 simp only [Proof.cs]
 go_enter Tryz.func28,Tryz.ntmps28
 go_wp2_with (fail)
 refine (HG.out _ ((Below.refl _ _).alloc (Nat.le_refl _) _)).mono ?_
 rintro e1 w1 ⟨rfl,hb1⟩
 go_wp2
 go_ret2
 exact ⟨rfl,Below.via hb1⟩
end Go.Proofs.YtgllafgpmenjjaaGreatDoor
