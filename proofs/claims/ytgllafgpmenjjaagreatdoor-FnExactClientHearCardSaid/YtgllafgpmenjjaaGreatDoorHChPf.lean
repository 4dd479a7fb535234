/- A part of the proof. -/
import Derived.Test.YtgllafgpmenjjaaGreatDoorHChL21xBk
set_option linter.unusedVariables false
set_option linter.unusedSimpArgs false
set_option maxRecDepth 20000
set_option maxHeartbeats 8000000
namespace Go.Proofs.YtgllafgpmenjjaaGreatDoor
open Go.RowKit Lay Mk
def sameIx (name : ByteArray) (xs : List Leaf) : Bool:=xs.all (fun l => decide (indexOf l.name = indexOf name))
def proofOk (name : ByteArray) (p : Proof) (v : Int) : Bool:=nameOk name && (leavesOk p.bucket && (decide (p.sides.length ≤ 8) && ((inB v 1 32 && wideG p.sides v) && sameIx name p.bucket)))
theorem filter_len {α : Type} (p : α → Bool) (l : List α) : ((l.filter p).length = l.length) ↔ l.all p = true:=by
 rw [List.length_filter_eq_length_iff,List.all_eq_true]
theorem same_bucket (name : ByteArray) (xs : List Leaf) : decide ((bucketOf xs (indexOf name)).length = xs.length) = sameIx name xs:=by
 rw [Bool.eq_iff_iff,decide_eq_true_iff]
 unfold bucketOf sameIx
 rw [filter_len,List.all_eq_true,List.all_eq_true]
 constructor
 ·intro h x hx; have:=h x hx; simp only [decide_eq_true_eq] at this ⊢; omega
 ·intro h x hx; have:=h x hx; simp only [decide_eq_true_eq] at this ⊢; omega
theorem proof_sz {p : Proof} (h : p.sz ≤ 1048576) : szL p.bucket ≤ 1048576 ∧ p.bucket.length ≤ 1048576 ∧ p.sides.length ≤ 1048576:=by
 simp only [Proof.sz] at h
 have:=szT_le p.bucket 0
 have:=szT_le p.sides 0
 omega
theorem sameIx_bad {name : ByteArray} {xs : List Leaf} {k : Nat} (hk : k < xs.length) (h : ¬ indexOf xs[k].name = indexOf name) : sameIx name xs = false:=by
 unfold sameIx; rw [List.all_eq_false]; exact ⟨_,List.getElem_mem hk,by simpa using h⟩
theorem sameIx_good {name : ByteArray} {xs : List Leaf} (h : ∀ k (hk : k < xs.length),indexOf xs[k].name = indexOf name) : sameIx name xs = true:=by
 unfold sameIx; rw [List.all_eq_true]; intro s hs
 obtain ⟨k,hk,rfl⟩:=List.getElem_of_mem hs
 simpa using h k hk
theorem impl_ProofOk (w : World) (name : ByteArray) (hn : name.size ≤ 1048576) (p : Proof) (cs : List Value) (S : Blks) (hx : rd false w cs p S) (hz : p.sz ≤ 1048576) (v : Int) (hv : I64 v) (hT : Tabs w) : Calls Tryz.prog 143 #[.string name, .agg cs.toArray, .int .i64 v] w fun e w' => e = .returned (.bool (proofOk name p v)) ∧ Below w.heap.size w w':=by
 have HT:=zd hT
 clear hT
 obtain ⟨hzb,hlb,hls⟩:=proof_sz hz
 obtain ⟨A0,k0,S0,A1,k1,S1,rfl,lb,mb,r0, -,ls,ms,r1, -⟩:=Proof.open hx
 clear hx hz
 have hnm : name.size ≤ maxLen:=zz64
 have HF : Hid (proofOk name p v = (nameOk name && (leavesOk p.bucket && (decide (p.sides.length ≤ 8) && ((inB v 1 32 && wideG p.sides v) && sameIx name p.bucket))))):=zd rfl
 obtain ⟨xs,ss⟩:=p
 simp only at hzb hlb hls r0 r1 lb ls mb ms HF
 obtain ⟨R,hR⟩ : ∃ R,proofOk name ⟨xs,ss⟩ v = R:=⟨_,rfl⟩
 rw [hR] at HF ⊢
 clear hR
 simp only [Proof.cs]
 have HLV:=zd (fun W (h : Below w.heap.size w W) => impl_LeavesOk W xs A0 k0 S0 (Row.later r0 h) zz8)
 have HNM:=zd (fun W => impl_NameOk name W hnm)
 have HW:=zd (fun W (h : Below w.heap.size w W) => impl_haveWidth W ss A1 k1 S1 (Row.later r1 h) zz64 (ss.length : Int) zz39 v)
 have HIW:=zd (fun W => impl_isWide v W)
 have hWd : ∀ W,W = w.alloc (.cells #[.slice A0 xs.length k0, .slice A1 ss.length k1] 57) → Below w.heap.size w W ∧ W.cell? ⟨w.heap.size,0,none⟩ = some (.slice A0 xs.length k0) ∧ W.cell? ⟨w.heap.size,1,none⟩ = some (.slice A1 ss.length k1) ∧ w.heap.size < W.heap.size:=by
  rintro W rfl
  exact ⟨(Below.refl _ _).alloc (Nat.le_refl _) _,ya1 _ _ _ _ _ rfl,ya1 _ _ _ _ _ rfl,zz32⟩
 cases h1 : nameOk name <;> rw [h1] at HNM
 ·have H1:=zd h1
  clear h1
  go_enter Tryz.func143,Tryz.ntmps143
  go_wp2_with (fail)
  obtain ⟨W,hW⟩ : ∃ W,w.alloc (.cells #[.slice A0 xs.length k0, .slice A1 ss.length k1] 57) = W:=⟨_,rfl⟩
  rw [hW]
  obtain ⟨hBW,c0,c1,hlW⟩:=hWd W hW.symm
  clear hW hWd
  obtain ⟨B,hB⟩ : ∃ B,w.heap.size = B:=⟨_,rfl⟩
  have HBW:=zd hBW
  simp only [hB] at c0 c1 hlW ⊢
  have HBE:=zd hB
  clear hB hBW
  refine (HNM.out _).mono ?_
  rintro e0 v0 ⟨rfl,rfl⟩
  go_wp2
  go_ret
  exact ⟨yab (by rw [HF.out,H1.out]; rfl),by first | exact HBW.out | (rw [← HBE.out]; exact HBW.out)⟩
 cases h2 : leavesOk xs <;> rw [h2] at HLV
 ·have H2:=zd (show (nameOk name && leavesOk xs) = false by rw [h2]; simp)
  have H1:=zd h1
  have H2b:=zd h2
  clear h1 h2
  go_enter Tryz.func143,Tryz.ntmps143
  go_wp2_with (fail)
  obtain ⟨W,hW⟩ : ∃ W,w.alloc (.cells #[.slice A0 xs.length k0, .slice A1 ss.length k1] 57) = W:=⟨_,rfl⟩
  rw [hW]
  obtain ⟨hBW,c0,c1,hlW⟩:=hWd W hW.symm
  clear hW hWd
  obtain ⟨B,hB⟩ : ∃ B,w.heap.size = B:=⟨_,rfl⟩
  have HBW:=zd hBW
  simp only [hB] at c0 c1 hlW ⊢
  have HBE:=zd hB
  clear hB hBW
  refine (HNM.out _).mono ?_
  rintro e0 v0 ⟨rfl,rfl⟩
  go_wp2_with (fail)
  refine (HLV.out _ HBW.out).mono ?_
  rintro e1 w1 ⟨rfl,hb1⟩
  have HB1:=zd (HBW.out.trans (hb1.mono HBW.out.size))
  replace c0:=(hb1.cell (p:=⟨B,0,none⟩) hlW).trans c0
  replace c1:=(hb1.cell (p:=⟨B,1,none⟩) hlW).trans c1
  replace hlW:=Nat.lt_of_lt_of_le hlW hb1.size
  clear hb1
  go_wp2
  go_ret
  exact ⟨yab (by rw [HF.out,H1.out,H2b.out]; rfl),by first | exact HB1.out | (rw [← HBE.out]; exact HB1.out)⟩
 by_cases h3 : 8 < ss.length
 ·have H1:=zd h1
  have H2b:=zd h2
  have H3 : Hid (decide (ss.length ≤ 8) = false):=zd (decide_eq_false zz8)
  have h3i : (8 : Int) < (ss.length : Int):=zz8
  clear h1 h2 h3
  go_enter Tryz.func143,Tryz.ntmps143
  go_wp2_with (fail)
  obtain ⟨W,hW⟩ : ∃ W,w.alloc (.cells #[.slice A0 xs.length k0, .slice A1 ss.length k1] 57) = W:=⟨_,rfl⟩
  rw [hW]
  obtain ⟨hBW,c0,c1,hlW⟩:=hWd W hW.symm
  clear hW hWd
  obtain ⟨B,hB⟩ : ∃ B,w.heap.size = B:=⟨_,rfl⟩
  have HBW:=zd hBW
  simp only [hB] at c0 c1 hlW ⊢
  have HBE:=zd hB
  clear hB hBW
  refine (HNM.out _).mono ?_
  rintro e0 v0 ⟨rfl,rfl⟩
  go_wp2_with (fail)
  refine (HLV.out _ HBW.out).mono ?_
  rintro e1 w1 ⟨rfl,hb1⟩
  have HB1:=zd (HBW.out.trans (hb1.mono HBW.out.size))
  replace c0:=(hb1.cell (p:=⟨B,0,none⟩) hlW).trans c0
  replace c1:=(hb1.cell (p:=⟨B,1,none⟩) hlW).trans c1
  replace hlW:=Nat.lt_of_lt_of_le hlW hb1.size
  clear hb1
  go_wp2
  go_ret
  exact ⟨yab (by rw [HF.out,H1.out,H2b.out,H3.out]; rfl),by first | exact HB1.out | (rw [← HBE.out]; exact HB1.out)⟩
 have H1:=zd h1
 have H2b:=zd h2
 have H3 : Hid (decide (ss.length ≤ 8) = true):=zd (decide_eq_true zz8)
 have h3i : ¬ (8 : Int) < (ss.length : Int):=zz8
 clear h1 h2 h3
 cases h4 : inB v 1 32 <;> rw [h4] at HIW
 ·have H4:=zd h4
  clear h4
  go_enter Tryz.func143,Tryz.ntmps143
  go_wp2_with (fail)
  obtain ⟨W,hW⟩ : ∃ W,w.alloc (.cells #[.slice A0 xs.length k0, .slice A1 ss.length k1] 57) = W:=⟨_,rfl⟩
  rw [hW]
  obtain ⟨hBW,c0,c1,hlW⟩:=hWd W hW.symm
  clear hW hWd
  obtain ⟨B,hB⟩ : ∃ B,w.heap.size = B:=⟨_,rfl⟩
  have HBW:=zd hBW
  simp only [hB] at c0 c1 hlW ⊢
  have HBE:=zd hB
  clear hB hBW
  refine (HNM.out _).mono ?_
  rintro e0 v0 ⟨rfl,rfl⟩
  go_wp2_with (fail)
  refine (HLV.out _ HBW.out).mono ?_
  rintro e1 w1 ⟨rfl,hb1⟩
  have HB1:=zd (HBW.out.trans (hb1.mono HBW.out.size))
  replace c0:=(hb1.cell (p:=⟨B,0,none⟩) hlW).trans c0
  replace c1:=(hb1.cell (p:=⟨B,1,none⟩) hlW).trans c1
  replace hlW:=Nat.lt_of_lt_of_le hlW hb1.size
  clear hb1
  go_wp2_with (fail)
  refine (HIW.out _).mono ?_
  rintro e2 v2 ⟨rfl,rfl⟩
  go_wp2
  go_ret
  exact ⟨yab (by rw [HF.out,H1.out,H2b.out,H3.out,H4.out]; rfl),by first | exact HB1.out | (rw [← HBE.out]; exact HB1.out)⟩
 have H4:=zd h4
 clear h4
 cases h5 : wideG ss v <;> rw [h5] at HW
 ·have H5:=zd h5
  clear h5
  go_enter Tryz.func143,Tryz.ntmps143
  go_wp2_with (fail)
  obtain ⟨W,hW⟩ : ∃ W,w.alloc (.cells #[.slice A0 xs.length k0, .slice A1 ss.length k1] 57) = W:=⟨_,rfl⟩
  rw [hW]
  obtain ⟨hBW,c0,c1,hlW⟩:=hWd W hW.symm
  clear hW hWd
  obtain ⟨B,hB⟩ : ∃ B,w.heap.size = B:=⟨_,rfl⟩
  have HBW:=zd hBW
  simp only [hB] at c0 c1 hlW ⊢
  have HBE:=zd hB
  clear hB hBW
  refine (HNM.out _).mono ?_
  rintro e0 v0 ⟨rfl,rfl⟩
  go_wp2_with (fail)
  refine (HLV.out _ HBW.out).mono ?_
  rintro e1 w1 ⟨rfl,hb1⟩
  have HB1:=zd (HBW.out.trans (hb1.mono HBW.out.size))
  replace c0:=(hb1.cell (p:=⟨B,0,none⟩) hlW).trans c0
  replace c1:=(hb1.cell (p:=⟨B,1,none⟩) hlW).trans c1
  replace hlW:=Nat.lt_of_lt_of_le hlW hb1.size
  clear hb1
  go_wp2_with (fail)
  refine (HIW.out _).mono ?_
  rintro e2 v2 ⟨rfl,rfl⟩
  go_wp2_with (fail)
  refine (HW.out _ HB1.out).mono ?_
  rintro e3 v3 ⟨rfl,rfl⟩
  go_wp2
  go_ret
  exact ⟨yab (by rw [HF.out,H1.out,H2b.out,H3.out,H4.out,H5.out]; rfl),by first | exact HB1.out | (rw [← HBE.out]; exact HB1.out)⟩
 have H5:=zd h5
 clear h5
 have hdd : (true && decide ((ss.length : Int) = (ss.length : Int))) = true:=zz32
 rw [hdd] at HW
 clear hdd
 have HIX:=zd (fun W (h : Below w.heap.size w W) => impl_IndexOf W name zz8 (HT.out.later h))
 have HBK:=zd (fun W (h : Below w.heap.size w W) => impl_BucketOf W xs A0 k0 S0 (Row.later r0 h) hlb hzb (indexOf name : Int) (HT.out.later h))
 have HSB:=zd (same_bucket name xs)
 have HFF : Hid (R = sameIx name xs):=zd (by rw [HF.out,H1.out,H2b.out,H3.out,H4.out,H5.out]; rfl)
 obtain ⟨ix,hix⟩ : ∃ ix,indexOf name = ix:=⟨_,rfl⟩
 rw [hix] at HIX HBK HSB
 obtain ⟨ys,hys⟩ : ∃ ys,bucketOf xs (ix : Int) = ys:=⟨_,rfl⟩
 rw [hys] at HBK HSB
 clear hix hys HF r0 r1
 go_enter Tryz.func143,Tryz.ntmps143
 go_wp2_with (fail)
 obtain ⟨W,hW⟩ : ∃ W,w.alloc (.cells #[.slice A0 xs.length k0, .slice A1 ss.length k1] 57) = W:=⟨_,rfl⟩
 rw [hW]
 obtain ⟨hBW,c0,c1,hlW⟩:=hWd W hW.symm
 clear hW hWd
 obtain ⟨B,hB⟩ : ∃ B,w.heap.size = B:=⟨_,rfl⟩
 have HBW:=zd hBW
 simp only [hB] at c0 c1 hlW ⊢
 have HBE:=zd hB
 clear hB hBW
 refine (HNM.out _).mono ?_
 rintro e0 v0 ⟨rfl,rfl⟩
 go_wp2_with (fail)
 refine (HLV.out _ HBW.out).mono ?_
 rintro e1 w1 ⟨rfl,hb1⟩
 have HB1:=zd (HBW.out.trans (hb1.mono HBW.out.size))
 replace c0:=(hb1.cell (p:=⟨B,0,none⟩) hlW).trans c0
 replace c1:=(hb1.cell (p:=⟨B,1,none⟩) hlW).trans c1
 replace hlW:=Nat.lt_of_lt_of_le hlW hb1.size
 clear hb1
 go_wp2_with (fail)
 refine (HIW.out _).mono ?_
 rintro e2 v2 ⟨rfl,rfl⟩
 go_wp2_with (fail)
 refine (HW.out _ HB1.out).mono ?_
 rintro e3 v3 ⟨rfl,rfl⟩
 have hB:=Below.refl w1.heap.size w1
 have HM:=zd (fun (w' : World) (h' : Below w1.heap.size w1 w') => (⟨(h'.cell (p:=⟨B,0,none⟩) hlW).trans c0,h'⟩ : w'.cell? ⟨B,0,none⟩ = some (.slice A0 xs.length k0) ∧ Below w1.heap.size w1 w'))
 go_wp2_with (fail)
 go_region_held3 (fun w' => w'.cell? ⟨B,0,none⟩ = some (.slice A0 xs.length k0) ∧ Below w1.heap.size w1 w')
  (first | exact HM.out _ (by have zh:=hB; exact zz15))
  (first | (go_at_call 97; refine (HIX.out _ (HB1.out.trans (Below.mono (w:=w1) (by have zh:=hB; exact zz15) HB1.out.size))).mono ?_; rintro e5 w5 ⟨rfl,hb5⟩; have hs5:=hb5.size; (try simp at hs5); have hB:=Below.step (a:=w1) (by have zh:=hB; exact zz15) hb5) | (go_at_call 182; refine (HBK.out _ (HB1.out.trans (Below.mono (w:=w1) (by have zh:=hB; exact zz15) HB1.out.size))).mono ?_; rintro e6 w6 ⟨A6,c6,rfl,own6⟩; have hs6:=own6.bl.size; (try simp at hs6); have hB:=Below.step (a:=w1) (by have zh:=hB; exact zz15) own6.bl))
 go_wp2
 go_ret
 exact ⟨yab (by
  rw [HFF.out, ← HSB.out,Bool.eq_iff_iff,beq_iff_eq,decide_eq_true_iff]; omega),by first | exact HB1.out.trans (Below.mono (w:=w1) (by have zh:=hB; exact zz15) HB1.out.size) | (rw [← HBE.out]; exact HB1.out.trans (Below.mono (w:=w1) (by have zh:=hB; exact zz15) HB1.out.size))⟩
theorem spec_ProofOk (w : World) (name : ByteArray) (hn : name.size ≤ 1048576) (p : Proof) (cs : List Value) (S : Blks) (hx : rd false w cs p S) (hz : p.sz ≤ 1048576) (v : Int) (hv : I64 v) : Calls Tryz.prog 130 #[.string name, .agg cs.toArray, .int .i64 v] w fun e w' => e = .returned (.bool (proofOk name p v)) ∧ Below w.heap.size w w':=by
 obtain ⟨hzb,hlb,hls⟩:=proof_sz hz
 obtain ⟨A0,k0,S0,A1,k1,S1,rfl,lb,mb,r0, -,ls,ms,r1, -⟩:=Proof.open hx
 clear hx hz
 have hnm : name.size ≤ maxLen:=zz64
 have HF : Hid (proofOk name p v = (nameOk name && (leavesOk p.bucket && (decide (p.sides.length ≤ 8) && ((inB v 1 32 && wideG p.sides v) && sameIx name p.bucket))))):=zd rfl
 obtain ⟨xs,ss⟩:=p
 simp only at hzb hlb hls r0 r1 lb ls mb ms HF
 obtain ⟨R,hR⟩ : ∃ R,proofOk name ⟨xs,ss⟩ v = R:=⟨_,rfl⟩
 rw [hR] at HF ⊢
 clear hR
 simp only [Proof.cs]
 have HLV:=zd (fun W (h : Below w.heap.size w W) => spec_LeavesOk W xs A0 k0 S0 (Row.later r0 h) zz8)
 have HNM:=zd (fun W => spec_NameOk name W hnm)
 have HW:=zd (fun W (h : Below w.heap.size w W) => spec_l11Wide W ss A1 k1 S1 (Row.later r1 h) zz64 v)
 have hWd : ∀ W,W = w.alloc (.cells #[.slice A0 xs.length k0, .slice A1 ss.length k1] 57) → Below w.heap.size w W ∧ W.cell? ⟨w.heap.size,0,none⟩ = some (.slice A0 xs.length k0) ∧ W.cell? ⟨w.heap.size,1,none⟩ = some (.slice A1 ss.length k1) ∧ w.heap.size < W.heap.size:=by
  rintro W rfl
  exact ⟨(Below.refl _ _).alloc (Nat.le_refl _) _,ya1 _ _ _ _ _ rfl,ya1 _ _ _ _ _ rfl,zz32⟩
 cases h1 : nameOk name <;> rw [h1] at HNM
 ·have H1:=zd h1
  clear h1
  go_enter Tryz.func130,Tryz.ntmps130
  go_wp2_with (fail)
  obtain ⟨W,hW⟩ : ∃ W,w.alloc (.cells #[.slice A0 xs.length k0, .slice A1 ss.length k1] 57) = W:=⟨_,rfl⟩
  rw [hW]
  obtain ⟨hBW,c0,c1,hlW⟩:=hWd W hW.symm
  clear hW hWd
  obtain ⟨B,hB⟩ : ∃ B,w.heap.size = B:=⟨_,rfl⟩
  have HBW:=zd hBW
  simp only [hB] at c0 c1 hlW ⊢
  have HBE:=zd hB
  clear hB hBW
  refine (HNM.out _).mono ?_
  rintro e0 v0 ⟨rfl,rfl⟩
  go_wp2
  go_ret
  exact ⟨yab (by rw [HF.out,H1.out]; rfl),by first | exact HBW.out | (rw [← HBE.out]; exact HBW.out)⟩
 cases h2 : leavesOk xs <;> rw [h2] at HLV
 ·have H2:=zd (show (nameOk name && leavesOk xs) = false by rw [h2]; simp)
  have H1:=zd h1
  have H2b:=zd h2
  clear h1 h2
  go_enter Tryz.func130,Tryz.ntmps130
  go_wp2_with (fail)
  obtain ⟨W,hW⟩ : ∃ W,w.alloc (.cells #[.slice A0 xs.length k0, .slice A1 ss.length k1] 57) = W:=⟨_,rfl⟩
  rw [hW]
  obtain ⟨hBW,c0,c1,hlW⟩:=hWd W hW.symm
  clear hW hWd
  obtain ⟨B,hB⟩ : ∃ B,w.heap.size = B:=⟨_,rfl⟩
  have HBW:=zd hBW
  simp only [hB] at c0 c1 hlW ⊢
  have HBE:=zd hB
  clear hB hBW
  refine (HNM.out _).mono ?_
  rintro e0 v0 ⟨rfl,rfl⟩
  go_wp2_with (fail)
  refine (HLV.out _ HBW.out).mono ?_
  rintro e1 w1 ⟨rfl,hb1⟩
  have HB1:=zd (HBW.out.trans (hb1.mono HBW.out.size))
  replace c0:=(hb1.cell (p:=⟨B,0,none⟩) hlW).trans c0
  replace c1:=(hb1.cell (p:=⟨B,1,none⟩) hlW).trans c1
  replace hlW:=Nat.lt_of_lt_of_le hlW hb1.size
  clear hb1
  go_wp2
  go_ret
  exact ⟨yab (by rw [HF.out,H1.out,H2b.out]; rfl),by first | exact HB1.out | (rw [← HBE.out]; exact HB1.out)⟩
 by_cases h3 : 8 < ss.length
 ·have H1:=zd h1
  have H2b:=zd h2
  have H3 : Hid (decide (ss.length ≤ 8) = false):=zd (decide_eq_false zz8)
  have h3i : (8 : Int) < (ss.length : Int):=zz8
  clear h1 h2 h3
  go_enter Tryz.func130,Tryz.ntmps130
  go_wp2_with (fail)
  obtain ⟨W,hW⟩ : ∃ W,w.alloc (.cells #[.slice A0 xs.length k0, .slice A1 ss.length k1] 57) = W:=⟨_,rfl⟩
  rw [hW]
  obtain ⟨hBW,c0,c1,hlW⟩:=hWd W hW.symm
  clear hW hWd
  obtain ⟨B,hB⟩ : ∃ B,w.heap.size = B:=⟨_,rfl⟩
  have HBW:=zd hBW
  simp only [hB] at c0 c1 hlW ⊢
  have HBE:=zd hB
  clear hB hBW
  refine (HNM.out _).mono ?_
  rintro e0 v0 ⟨rfl,rfl⟩
  go_wp2_with (fail)
  refine (HLV.out _ HBW.out).mono ?_
  rintro e1 w1 ⟨rfl,hb1⟩
  have HB1:=zd (HBW.out.trans (hb1.mono HBW.out.size))
  replace c0:=(hb1.cell (p:=⟨B,0,none⟩) hlW).trans c0
  replace c1:=(hb1.cell (p:=⟨B,1,none⟩) hlW).trans c1
  replace hlW:=Nat.lt_of_lt_of_le hlW hb1.size
  clear hb1
  go_wp2
  go_ret
  exact ⟨yab (by rw [HF.out,H1.out,H2b.out,H3.out]; rfl),by first | exact HB1.out | (rw [← HBE.out]; exact HB1.out)⟩
 have H1:=zd h1
 have H2b:=zd h2
 have H3 : Hid (decide (ss.length ≤ 8) = true):=zd (decide_eq_true zz8)
 have h3i : ¬ (8 : Int) < (ss.length : Int):=zz8
 clear h1 h2 h3
 obtain ⟨z4,hz4⟩ : ∃ z,(wideG ss v && inB v 1 32) = z:=⟨_,rfl⟩
 rw [hz4] at HW
 have H4 : Hid ((inB v 1 32 && wideG ss v) = z4):=zd (by rw [← hz4,Bool.and_comm])
 clear hz4
 cases z4
 ·go_enter Tryz.func130,Tryz.ntmps130
  go_wp2_with (fail)
  obtain ⟨W,hW⟩ : ∃ W,w.alloc (.cells #[.slice A0 xs.length k0, .slice A1 ss.length k1] 57) = W:=⟨_,rfl⟩
  rw [hW]
  obtain ⟨hBW,c0,c1,hlW⟩:=hWd W hW.symm
  clear hW hWd
  obtain ⟨B,hB⟩ : ∃ B,w.heap.size = B:=⟨_,rfl⟩
  have HBW:=zd hBW
  simp only [hB] at c0 c1 hlW ⊢
  have HBE:=zd hB
  clear hB hBW
  refine (HNM.out _).mono ?_
  rintro e0 v0 ⟨rfl,rfl⟩
  go_wp2_with (fail)
  refine (HLV.out _ HBW.out).mono ?_
  rintro e1 w1 ⟨rfl,hb1⟩
  have HB1:=zd (HBW.out.trans (hb1.mono HBW.out.size))
  replace c0:=(hb1.cell (p:=⟨B,0,none⟩) hlW).trans c0
  replace c1:=(hb1.cell (p:=⟨B,1,none⟩) hlW).trans c1
  replace hlW:=Nat.lt_of_lt_of_le hlW hb1.size
  clear hb1
  go_wp2_with (fail)
  refine (HW.out _ HB1.out).mono ?_
  rintro e3 v3 ⟨rfl,rfl⟩
  go_wp2
  go_ret
  exact ⟨yab (by rw [HF.out,H1.out,H2b.out,H3.out,H4.out]; rfl),by first | exact HB1.out | (rw [← HBE.out]; exact HB1.out)⟩
 have HIX:=zd (fun W => spec_IndexOf W name zz8)
 have HFF : Hid (R = sameIx name xs):=zd (by rw [HF.out,H1.out,H2b.out,H3.out,H4.out]; rfl)
 have HBAD:=zd (fun (k : Nat) hk h => sameIx_bad (name:=name) (xs:=xs) (k:=k) hk h)
 have HGOOD:=zd (fun h => sameIx_good (name:=name) (xs:=xs) h)
 obtain ⟨ix,hix⟩ : ∃ ix,indexOf name = ix:=⟨_,rfl⟩
 rw [hix] at HIX
 simp only [hix] at HBAD HGOOD
 clear hix HF r1
 go_enter Tryz.func130,Tryz.ntmps130
 go_wp2_with (fail)
 obtain ⟨W,hW⟩ : ∃ W,w.alloc (.cells #[.slice A0 xs.length k0, .slice A1 ss.length k1] 57) = W:=⟨_,rfl⟩
 rw [hW]
 obtain ⟨hBW,c0,c1,hlW⟩:=hWd W hW.symm
 clear hW hWd
 obtain ⟨B,hB⟩ : ∃ B,w.heap.size = B:=⟨_,rfl⟩
 have HBW:=zd hBW
 simp only [hB] at c0 c1 hlW ⊢
 have HBE:=zd hB
 clear hB hBW
 refine (HNM.out _).mono ?_
 rintro e0 v0 ⟨rfl,rfl⟩
 go_wp2_with (fail)
 refine (HLV.out _ HBW.out).mono ?_
 rintro e1 w1 ⟨rfl,hb1⟩
 have HB1:=zd (HBW.out.trans (hb1.mono HBW.out.size))
 replace c0:=(hb1.cell (p:=⟨B,0,none⟩) hlW).trans c0
 replace c1:=(hb1.cell (p:=⟨B,1,none⟩) hlW).trans c1
 replace hlW:=Nat.lt_of_lt_of_le hlW hb1.size
 clear hb1
 go_wp2_with (fail)
 refine (HW.out _ HB1.out).mono ?_
 rintro e3 v3 ⟨rfl,rfl⟩
 go_wp2_with (fail)
 refine (HIX.out _).mono ?_
 rintro e5 w5 ⟨rfl,hb5⟩
 have HB5:=zd (HB1.out.trans (hb5.mono HB1.out.size))
 replace c0:=(hb5.cell (p:=⟨B,0,none⟩) hlW).trans c0
 replace hlW:=Nat.lt_of_lt_of_le hlW hb5.size
 have C0:=zd c0
 have rV:=zd (Row.later r0 HB5.out)
 clear hb5 c1 r0
 go_wp2_with (fail)
 go_loopw [8] (fun i wr => ∃ k : Nat,k ≤ xs.length ∧ i = .int .i64 k ∧ Hid (∀ j (h : j < xs.length),j < k → indexOf xs[j].name = ix) ∧ Below w5.heap.size w5 wr) (fun i _ => xs.length - (intOf i).toNat)
 case atStart => exact ⟨0,Nat.zero_le _,rfl,zd (fun j _ h => absurd h zz8),Below.refl _ _⟩
 case round =>
  clear c0
  obtain ⟨k,hk,rfl,HS,hb⟩:=hrel
  have c0:=(hb.cell (p:=⟨B,0,none⟩) hlW).trans C0.out
  have HBr:=zd (HB5.out.trans (hb.mono HB5.out.size))
  by_cases hlt : k < xs.length
  ·obtain ⟨b1,o1,cc,T1,rfl,hl1,ha,hr,_,_⟩:=Row.at_ rV.out hlt
   replace ha:=ha.keep (hb.block b1 hl1)
   have hsz:=leaf_size hlt hzb
   have HBk:=zd (HBAD.out k hlt)
   have HN : Hid (indexOf xs[k].name = ix → ∀ j (h : j < xs.length),j < k + 1 → indexOf xs[j].name = ix):=zd (fun h0 j h hj => zz38)
   obtain ⟨l,hl_⟩ : ∃ l,xs[k] = l:=⟨_,rfl⟩
   rw [hl_] at hr hsz
   simp only [hl_] at HBk HN
   clear hl_
   obtain ⟨rfl,f0,f1⟩:=Leaf.open hr
   clear hr
   rw [show Lay.n Leaf = 2 from rfl] at ha
   have e0:=ha 0 _ rfl
   simp only [Nat.add_zero] at e0
   have hl3 : b1 < wr.heap.size:=Nat.lt_of_lt_of_le hl1 hb.size
   have HIL:=zd (fun W => spec_IndexOf W l.name zz8)
   obtain ⟨z,hzz⟩ : ∃ z,indexOf l.name = z:=⟨_,rfl⟩
   rw [hzz] at HIL
   simp only [hzz] at HBk HN
   have HBl:=zd hb
   clear hzz ha hb
   by_cases hc : z = ix
   ·have HNx:=zd (HN.out hc)
    have hq : ((z : Int) != (ix : Int)) = false:=by rw [bne_eq_false_iff_eq]; omega
    clear hc HBk HN
    go_wp2_with (fail)
    refine (HIL.out _).mono ?_
    rintro e7 w7 ⟨rfl,hb7⟩
    have HB7:=zd (HBl.out.trans (hb7.mono HBl.out.size))
    clear hb7
    go_wp2
    go_roundw
    case rel => exact ⟨k + 1,hlt,by go_num,HNx,HB7.out⟩
    case measure => simp [intOf]; omega
   ·have HE:=zd (HBk.out hc)
    have hq : ((z : Int) != (ix : Int)) = true:=by rw [bne_iff_ne]; omega
    clear hc HBk HN
    go_wp2_with (fail)
    refine (HIL.out _).mono ?_
    rintro e7 w7 ⟨rfl,hb7⟩
    have HB7:=zd (HBr.out.trans (hb7.mono HBr.out.size))
    clear hb7
    go_wp2
    go_ret
    exact ⟨yab (by rw [HFF.out,HE.out]),by first | exact HB7.out | (rw [← HBE.out]; exact HB7.out)⟩
  ·have HE:=zd (HGOOD.out (fun j hj => HS.out j hj zz8))
   clear hb
   go_wp2
   go_ret
   exact ⟨yab (by rw [HFF.out,HE.out]),by first | exact HBr.out | (rw [← HBE.out]; exact HBr.out)⟩
end Go.Proofs.YtgllafgpmenjjaaGreatDoor
