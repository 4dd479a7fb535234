/- A part of the proof. -/
import Derived.Test.YtgllafgpmenjjaaGreatDoorHChPf
import Derived.Test.YtgllafgpmenjjaaGreatDoorHChSn
set_option linter.unusedVariables false
set_option linter.unusedSimpArgs false
set_option maxRecDepth 20000
set_option maxHeartbeats 8000000
namespace Go.Proofs.YtgllafgpmenjjaaGreatDoor
open Go.RowKit Lay Mk
def risAt (xs : List Stamp) (i : Nat) : Bool:=match xs[i - 1]?,xs[i]? with
 | some a,some b => decide (i = 0) || decide (a.by_ < b.by_)
 | _,_ => true
def rising (xs : List Stamp) : Bool:=(List.range xs.length).all (risAt xs)
theorem risAt_eq {xs : List Stamp} {i : Nat} (h : i + 1 < xs.length) : risAt xs (i + 1) = decide (xs[i].by_ < xs[i + 1].by_):=by
 unfold risAt
 rw [Nat.add_sub_cancel,List.getElem?_eq_getElem zz8,List.getElem?_eq_getElem h]
 simp
theorem rising_bad {xs : List Stamp} {i : Nat} (h : i + 1 < xs.length) (hb : ¬ xs[i].by_ < xs[i + 1].by_) : rising xs = false:=by
 unfold rising; rw [List.all_eq_false]
 exact ⟨i + 1,List.mem_range.2 h,by rw [risAt_eq h]; simpa using hb⟩
theorem rising_good {xs : List Stamp} (h : ∀ i (hi : i + 1 < xs.length),xs[i].by_ < xs[i + 1].by_) : rising xs = true:=by
 unfold rising; rw [List.all_eq_true]
 intro i hi
 have hi:=List.mem_range.1 hi
 cases i with
 | zero => unfold risAt; split <;> simp
 | succ j => rw [risAt_eq hi]; simpa using h j hi
def wholeForm (t : Trust) (house : Int) (name : ByteArray) (x : Whole) : Bool:=trustOk t && (inB house 0 ((t.roots.length : Int) - 1) && (proofOk name x.proof 16 && (decide ((x.proof.sides.length : Int) = 8 - t.k) && ((decide ((x.tops.length : Int) = t.k) && wideG x.tops 16) && rising x.stamps))))
def WSmall (x : Whole) : Prop:=x.proof.sz ≤ 1048576 ∧ x.tops.length ≤ 1048576 ∧ x.stamps.length ≤ 1048576 ∧ x.stamps.length ≤ 1048576
theorem whole_sz {x : Whole} (h : x.sz ≤ 1048576) : WSmall x:=by
 unfold WSmall
 simp only [Whole.sz] at h
 have:=szT_le x.tops 0
 have:=szT_le x.stamps 0
 omega
theorem stamp_by_at {m : Bool} {w : World} {A : Option Addr} {cap : Nat} {xs : List Stamp} {S : Blks} (h : Row m w A cap xs S) {i : Nat} (hi : i < xs.length) :
  ∃ b off,A = some ⟨b,off,none⟩ ∧ b < w.heap.size ∧ w.cell? ⟨b,off + i * 5,none⟩ = some (.int .i64 (xs[i]).by_) ∧ I64 (xs[i]).by_:=by
 obtain ⟨b,off,cs,T,e,hb,ha,hr,_,_⟩:=Row.at_ h hi
 obtain ⟨_,_,_,_,_,_,_,_,_,rfl,f0, -⟩:=Stamp.open hr
 rw [show Lay.n Stamp = 5 from rfl] at ha
 exact ⟨b,off,e,hb,ha 0 _ rfl,f0⟩
theorem impl_wholeForm (w : World) (t : Trust) (cs : List Value) (S : Blks) (hx : rd false w cs t S) (hz : t.sz ≤ 1048576) (house : Int) (hh : I64 house) (name : ByteArray) (hn : name.size ≤ 1048576) (x : Whole) (ct : List Value) (S2 : Blks) (hy : rd false w ct x S2) (hzx : WSmall x) (hT : Tabs w) : Calls Tryz.prog 94 #[.agg cs.toArray, .int .i64 house, .string name, .agg ct.toArray] w fun e w' => e = .returned (.bool (wholeForm t house name x)) ∧ Below w.heap.size w w':=by
 have HT:=zd hT
 clear hT
 have hl:=trust_sz hz
 obtain ⟨hzp,hlt,hzs,hls⟩:=id hzx
 have HTK:=zd (fun W (h : Below w.heap.size w W) => impl_TrustOk W t cs S (Lay.later hx h) hz)
 obtain ⟨A0,k0,S0,rfl,fk, -, -, -,r0, -⟩:=Trust.open hx
 obtain ⟨B0,j0,U0,B1,j1,U1,B2,j2,U2,B3,j3,U3,B4,j4,U4,B5,j5,U5,B6,j6,U6,rfl, -, -, -, -, -,y0,y1,q0,y2,y3,y4,q1,y5, -, -,q2, -, -, -, -, -, -, -, -, -, -, -, -, -, -, -,q6, -⟩:=Whole.open hy
 have HPO:=zd (fun W (h : Below w.heap.size w W) => impl_ProofOk W name hn x.proof _ S2 (Lay.later (Proof.mk' (x:=x.proof) y0 y1 q0 y2 y3 y4 q1 y5 (fun h => by simp at h)) h) hzp 16 zz39 (HT.out.later h))
 have HW:=zd (fun W (h : Below w.heap.size w W) => impl_haveWidth W x.tops B2 j2 U2 (Row.later q2 h) zz64 t.k fk 16)
 clear hx hy hz hzx y0 y1 y2 y3 y4 y5 q0 q1 q2
 have HF : Hid (wholeForm t house name x = (trustOk t && (inB house 0 ((t.roots.length : Int) - 1) && (proofOk name x.proof 16 && (decide ((x.proof.sides.length : Int) = 8 - t.k) && ((decide ((x.tops.length : Int) = t.k) && wideG x.tops 16) && rising x.stamps)))))):=zd rfl
 have HTB : Hid (trustOk t = true → 0 ≤ t.k ∧ t.k ≤ 2):=zd (fun h => by
  unfold trustOk at h
  simp only [Bool.and_eq_true] at h
  simpa [inB] using h.2.2.1)
 obtain ⟨R,hR⟩ : ∃ R,wholeForm t house name x = R:=⟨_,rfl⟩
 rw [hR] at HF ⊢
 clear hR
 simp only [Trust.cs,Whole.cs,Proof.cs] at HTK HPO ⊢
 have hw1 : IntKind.i64.wrap ((t.roots.length : Int) - 1) = (t.roots.length : Int) - 1:=IntWalk.i64_in _ zz8
 have HIN:=zd (fun W => impl_in house 0 ((t.roots.length : Int) - 1) W)
 obtain ⟨z1,hz1⟩ : ∃ z,trustOk t = z:=⟨_,rfl⟩
 rw [hz1] at HTK HF
 simp only [hz1] at HTB
 obtain ⟨z2,hz2⟩ : ∃ z,inB house 0 ((t.roots.length : Int) - 1) = z:=⟨_,rfl⟩
 rw [hz2] at HIN HF
 obtain ⟨z3,hz3⟩ : ∃ z,proofOk name x.proof 16 = z:=⟨_,rfl⟩
 rw [hz3] at HPO HF
 obtain ⟨z4,hz4⟩ : ∃ z,wideG x.tops 16 = z:=⟨_,rfl⟩
 rw [hz4] at HW HF
 clear hz1 hz2 hz3 hz4
 have hWd : ∀ W,W = (w.alloc (.cells #[.slice A0 t.roots.length k0, .int .i64 t.k, .int .i64 t.need] 51)).alloc (.cells #[.slice B0 x.proof.bucket.length j0, .slice B1 x.proof.sides.length j1, .slice B2 x.tops.length j2, .int .i64 x.seal_.head.house, .int .i64 x.seal_.head.epoch, .string x.seal_.head.root, .string x.seal_.head.prev, .int .i64 x.seal_.sig.at_, .slice B3 x.seal_.sig.open_.length j3, .slice B4 x.seal_.sig.shut.length j4, .slice B5 x.seal_.sig.sides.length j5, .slice B6 x.stamps.length j6] 64) → Below w.heap.size w W ∧ W.cell? ⟨w.heap.size,0,none⟩ = some (.slice A0 t.roots.length k0) ∧ W.cell? ⟨w.heap.size,1,none⟩ = some (.int .i64 t.k) ∧ W.cell? ⟨w.heap.size + 1,0,none⟩ = some (.slice B0 x.proof.bucket.length j0) ∧ W.cell? ⟨w.heap.size + 1,1,none⟩ = some (.slice B1 x.proof.sides.length j1) ∧ W.cell? ⟨w.heap.size + 1,2,none⟩ = some (.slice B2 x.tops.length j2) ∧ W.cell? ⟨w.heap.size + 1,11,none⟩ = some (.slice B6 x.stamps.length j6) ∧ w.heap.size + 1 < W.heap.size:=by
  rintro W rfl
  refine ⟨((Below.refl _ _).alloc (Nat.le_refl _) _).alloc zz32 _,ya4 (ya1 _ _ _ _ _ rfl),ya4 (ya1 _ _ _ _ _ rfl),?_,?_,?_,?_,zz32⟩
  all_goals (rw [show w.heap.size + 1 = (w.alloc (.cells #[.slice A0 t.roots.length k0, .int .i64 t.k, .int .i64 t.need] 51)).heap.size from by simp]; exact ya1 _ _ _ _ _ rfl)
 go_enter Tryz.func94,Tryz.ntmps94
 go_wp2_with (fail)
 obtain ⟨W,hW⟩ : ∃ W,(w.alloc (.cells #[.slice A0 t.roots.length k0, .int .i64 t.k, .int .i64 t.need] 51)).alloc (.cells #[.slice B0 x.proof.bucket.length j0, .slice B1 x.proof.sides.length j1, .slice B2 x.tops.length j2, .int .i64 x.seal_.head.house, .int .i64 x.seal_.head.epoch, .string x.seal_.head.root, .string x.seal_.head.prev, .int .i64 x.seal_.sig.at_, .slice B3 x.seal_.sig.open_.length j3, .slice B4 x.seal_.sig.shut.length j4, .slice B5 x.seal_.sig.sides.length j5, .slice B6 x.stamps.length j6] 64) = W:=⟨_,rfl⟩
 rw [hW]
 obtain ⟨hBW,c0,c1,d0,d1,d2,d6,hsz⟩:=hWd W hW.symm
 have HBW:=zd hBW
 clear hW hWd
 refine (HTK.out _ hBW).mono ?_
 rintro e1 w1 ⟨rfl,hb1⟩
 have HB1:=zd (hBW.trans (hb1.mono hBW.size))
 replace c0:=(hb1.cell (p:=⟨w.heap.size,0,none⟩) (by show w.heap.size < W.heap.size; omega)).trans c0
 replace c1:=(hb1.cell (p:=⟨w.heap.size,1,none⟩) (by show w.heap.size < W.heap.size; omega)).trans c1
 replace d0:=(hb1.cell (p:=⟨w.heap.size + 1,0,none⟩) hsz).trans d0
 replace d1:=(hb1.cell (p:=⟨w.heap.size + 1,1,none⟩) hsz).trans d1
 replace d2:=(hb1.cell (p:=⟨w.heap.size + 1,2,none⟩) hsz).trans d2
 replace d6:=(hb1.cell (p:=⟨w.heap.size + 1,11,none⟩) hsz).trans d6
 replace hsz:=Nat.lt_of_lt_of_le hsz hb1.size
 clear hb1 hBW HTK
 cases z1
 ·go_wp2
  go_ret
  exact ⟨yab zz60,HB1.out⟩
 obtain ⟨hk0,hk2⟩:=HTB.out rfl
 go_wp2_with (fail)
 refine (HIN.out _).mono ?_
 rintro e2 w2 ⟨rfl,rfl⟩
 cases z2
 ·go_wp2
  go_ret
  exact ⟨yab zz60,HB1.out⟩
 go_wp2_with (fail)
 refine (HPO.out _ HB1.out).mono ?_
 rintro e3 w3 ⟨rfl,hb3⟩
 have HB3:=zd (HB1.out.trans (hb3.mono HB1.out.size))
 replace c1:=(hb3.cell (p:=⟨w.heap.size,1,none⟩) (by show w.heap.size < w1.heap.size; omega)).trans c1
 replace d1:=(hb3.cell (p:=⟨w.heap.size + 1,1,none⟩) hsz).trans d1
 replace d2:=(hb3.cell (p:=⟨w.heap.size + 1,2,none⟩) hsz).trans d2
 replace d6:=(hb3.cell (p:=⟨w.heap.size + 1,11,none⟩) hsz).trans d6
 replace hsz:=Nat.lt_of_lt_of_le hsz hb3.size
 clear hb3 HPO c0 d0 hw1
 cases z3
 ·go_wp2
  go_ret
  exact ⟨yab zz60,HB3.out⟩
 obtain ⟨kk,hkk⟩ : ∃ kk,t.k = kk:=⟨_,rfl⟩
 rw [hkk] at HF c1 hk0 hk2 HW
 clear HTB
 by_cases hsd : (x.proof.sides.length : Int) = 8 - kk
 rotate_left
 ·have HSD : Hid (decide ((x.proof.sides.length : Int) = 8 - kk) = false):=zd (decide_eq_false hsd)
  have hq : ((x.proof.sides.length : Int) != 8 - kk) = true:=by rw [bne_iff_ne]; exact hsd
  clear hsd
  go_wp2
  go_ret
  exact ⟨yab (by rw [HF.out,HSD.out]; rfl),HB3.out⟩
 have HSD : Hid (decide ((x.proof.sides.length : Int) = 8 - kk) = true):=zd (decide_eq_true hsd)
 have hq : ((x.proof.sides.length : Int) != 8 - kk) = false:=by rw [bne_eq_false_iff_eq]; exact hsd
 clear hsd
 obtain ⟨z5,hz5⟩ : ∃ z,(z4 && decide ((x.tops.length : Int) = kk)) = z:=⟨_,rfl⟩
 rw [hz5] at HW
 have HT5 : Hid ((decide ((x.tops.length : Int) = kk) && z4) = z5):=zd (by rw [← hz5,Bool.and_comm])
 clear hz5
 go_wp2_with (fail)
 refine (HW.out _ HB3.out).mono ?_
 rintro e4 w4 ⟨rfl,rfl⟩
 cases z5
 ·go_wp2
  go_ret
  exact ⟨yab (by rw [HF.out,HSD.out,HT5.out]; rfl),HB3.out⟩
 have HFF : Hid (R = rising x.stamps):=zd (by rw [HF.out,HSD.out,HT5.out]; rfl)
 obtain ⟨xs,hxs⟩ : ∃ xs,x.stamps = xs:=⟨_,rfl⟩
 rw [hxs] at HFF d6 hls q6
 have HBAD:=zd (fun i (h : i + 1 < xs.length) hb => rising_bad h hb)
 have HGOOD:=zd (fun h => rising_good (xs:=xs) h)
 have D6:=zd d6
 have rV:=zd (Row.later q6 HB3.out)
 clear HF HSD HT5 HW hxs hzs q6 c1 d1 d2
 go_wp2_with (fail)
 go_loopw [9] (fun i wr => ∃ k : Nat,k + 1 ≤ xs.length + 1 ∧ i = .int .i64 ((k + 1 : Nat) : Int) ∧ Hid (∀ j (h : j + 1 < xs.length),j < k → xs[j].by_ < xs[j + 1].by_) ∧ Below w3.heap.size w3 wr) (fun i _ => xs.length + 1 - (intOf i).toNat)
 case atStart => exact ⟨0,zz8,rfl,zd (fun j _ h => absurd h zz8),Below.refl _ _⟩
 case round =>
  clear d6
  obtain ⟨k,hk,rfl,HS,hb⟩:=hrel
  have d6:=(hb.cell (p:=⟨w.heap.size + 1,11,none⟩) hsz).trans D6.out
  have HBr:=zd (HB3.out.trans (hb.mono HB3.out.size))
  have HBl:=zd hb
  by_cases hlt : k + 1 < xs.length
  ·obtain ⟨b1,o1,rfl,hl1,e0, -⟩:=stamp_by_at rV.out (i:=k) zz8
   obtain ⟨b2,o2,e2,hl2,e1, -⟩:=stamp_by_at rV.out (i:=k + 1) hlt
   cases e2
   replace e0:=(hb.cell (p:=⟨b1,o1 + k * 5,none⟩) hl1).trans e0
   replace e1:=(hb.cell (p:=⟨b1,o1 + (k + 1) * 5,none⟩) hl1).trans e1
   have HBk:=zd (HBAD.out k hlt)
   have HN : Hid (xs[k].by_ < xs[k + 1].by_ → ∀ j (h : j + 1 < xs.length),j < k + 1 → xs[j].by_ < xs[j + 1].by_):=zd (fun h0 j h hj => zz38)
   obtain ⟨p,hp⟩ : ∃ p,xs[k].by_ = p:=⟨_,rfl⟩
   obtain ⟨q,hq_⟩ : ∃ q,xs[k + 1].by_ = q:=⟨_,rfl⟩
   simp only [hp,hq_] at e0 e1 HBk HN
   have i1 : IntKind.i64.wrap (((k + 1 : Nat) : Int) - 1) = (k : Int):=by rw [IntWalk.i64_in _ zz8]; omega
   have i1b : IntKind.i64.wrap ((k : Int) + 1 - 1) = (k : Int):=by rw [IntWalk.i64_in _ zz8]; omega
   have i2 : (k : Int) < (xs.length : Int):=zz8
   have i3 : ((k + 1 : Nat) : Int) < (xs.length : Int):=zz8
   have i3b : (k : Int) + 1 < (xs.length : Int):=zz8
   have i4 : (0 : Int) ≤ (k : Int):=zz8
   have i5 : (0 : Int) ≤ (k : Int) + 1:=zz8
   have i6 : ((k : Int) + 1).toNat = k + 1:=zz8
   clear hp hq_ hb
   go_wp2_with (fail)
   have g0:=Grown.cell e0
   have g1:=Grown.cell e1
   have g2:=Grown.cell d6
   clear e0 e1
   by_cases hc : p < q
   ·have HNx:=zd (HN.out hc)
    have hq3 : decide (q ≤ p) = false:=decide_eq_false zz8
    have hq4 : ¬ q ≤ p:=zz8
    clear hc HBk HN
    refine ya2 (by kernel_rfl) (by kernel_rfl) ?_
    repeat (go_big_quiet_step (fail))
    refine wpQuiet_nil ?_
    intro w5 hw5
    have hB5:=zd (ya7 hw5)
    clear hw5 i1 i1b i3 i5 i6 g0 g1 g2
    go_wp2
    go_roundw
    case rel => exact ⟨k + 1,zz8,by go_num,HNx,HBl.out.trans (hB5.out.mono HBl.out.size)⟩
    case measure => simp [intOf]; omega
   ·have HE:=zd (HBk.out zz8)
    have hq3 : decide (q ≤ p) = true:=decide_eq_true zz8
    have hq4 : q ≤ p:=zz8
    clear hc HBk HN
    refine ya2 (by kernel_rfl) (by kernel_rfl) ?_
    repeat (go_big_quiet_step (fail))
    refine wpQuiet_nil ?_
    intro w5 hw5
    have hB5:=zd (ya7 hw5)
    clear hw5 i1 i1b i3 i5 i6 g0 g1 g2
    go_wp2
    go_ret
    exact ⟨yab (by rw [HFF.out,HE.out]),HBr.out.trans (hB5.out.mono HBr.out.size)⟩
  ·have HE:=zd (HGOOD.out (fun j hj => HS.out j hj zz8))
   have hnl : ¬ ((k + 1 : Nat) : Int) < (xs.length : Int):=zz8
   clear hb
   go_wp2
   go_ret
   exact ⟨yab (by rw [HFF.out,HE.out]),HBr.out⟩
theorem spec_l15Form (w : World) (t : Trust) (cs : List Value) (S : Blks) (hx : rd false w cs t S) (hz : t.sz ≤ 1048576) (house : Int) (hh : I64 house) (name : ByteArray) (hn : name.size ≤ 1048576) (x : Whole) (ct : List Value) (S2 : Blks) (hy : rd false w ct x S2) (hzx : WSmall x) : Calls Tryz.prog 82 #[.agg cs.toArray, .int .i64 house, .string name, .agg ct.toArray] w fun e w' => e = .returned (.bool (wholeForm t house name x)) ∧ Below w.heap.size w w':=by
 have hl:=trust_sz hz
 obtain ⟨hzp,hlt,hzs,hls⟩:=id hzx
 have HTK:=zd (fun W (h : Below w.heap.size w W) => spec_TrustOk W t cs S (Lay.later hx h) hz)
 obtain ⟨A0,k0,S0,rfl,fk, -, -, -,r0, -⟩:=Trust.open hx
 obtain ⟨B0,j0,U0,B1,j1,U1,B2,j2,U2,B3,j3,U3,B4,j4,U4,B5,j5,U5,B6,j6,U6,rfl, -, -, -, -, -,y0,y1,q0,y2,y3,y4,q1,y5, -, -,q2, -, -, -, -, -, -, -, -, -, -, -, -, -, -, -,q6, -⟩:=Whole.open hy
 have HPO:=zd (fun W (h : Below w.heap.size w W) => spec_ProofOk W name hn x.proof _ S2 (Lay.later (Proof.mk' (x:=x.proof) y0 y1 q0 y2 y3 y4 q1 y5 (fun h => by simp at h)) h) hzp 16 zz39)
 have HW:=zd (fun W (h : Below w.heap.size w W) => spec_l11Wide W x.tops B2 j2 U2 (Row.later q2 h) zz64 16)
 clear hx hy hz hzx y0 y1 y2 y3 y4 y5 q0 q1 q2
 have HF : Hid (wholeForm t house name x = (trustOk t && (inB house 0 ((t.roots.length : Int) - 1) && (proofOk name x.proof 16 && (decide ((x.proof.sides.length : Int) = 8 - t.k) && ((decide ((x.tops.length : Int) = t.k) && wideG x.tops 16) && rising x.stamps)))))):=zd rfl
 have HTB : Hid (trustOk t = true → 0 ≤ t.k ∧ t.k ≤ 2):=zd (fun h => by
  unfold trustOk at h
  simp only [Bool.and_eq_true] at h
  simpa [inB] using h.2.2.1)
 obtain ⟨R,hR⟩ : ∃ R,wholeForm t house name x = R:=⟨_,rfl⟩
 rw [hR] at HF ⊢
 clear hR
 simp only [Trust.cs,Whole.cs,Proof.cs] at HTK HPO ⊢
 have hw1 : IntKind.i64.wrap ((t.roots.length : Int) - 1) = (t.roots.length : Int) - 1:=IntWalk.i64_in _ zz8
 have HIN:=zd (fun W => spec_in house 0 ((t.roots.length : Int) - 1) W)
 obtain ⟨z1,hz1⟩ : ∃ z,trustOk t = z:=⟨_,rfl⟩
 rw [hz1] at HTK HF
 simp only [hz1] at HTB
 obtain ⟨z2,hz2⟩ : ∃ z,inB house 0 ((t.roots.length : Int) - 1) = z:=⟨_,rfl⟩
 rw [hz2] at HIN HF
 obtain ⟨z3,hz3⟩ : ∃ z,proofOk name x.proof 16 = z:=⟨_,rfl⟩
 rw [hz3] at HPO HF
 obtain ⟨z4,hz4⟩ : ∃ z,wideG x.tops 16 = z:=⟨_,rfl⟩
 rw [hz4] at HW HF
 clear hz1 hz2 hz3 hz4
 have hWd : ∀ W,W = (w.alloc (.cells #[.slice A0 t.roots.length k0, .int .i64 t.k, .int .i64 t.need] 51)).alloc (.cells #[.slice B0 x.proof.bucket.length j0, .slice B1 x.proof.sides.length j1, .slice B2 x.tops.length j2, .int .i64 x.seal_.head.house, .int .i64 x.seal_.head.epoch, .string x.seal_.head.root, .string x.seal_.head.prev, .int .i64 x.seal_.sig.at_, .slice B3 x.seal_.sig.open_.length j3, .slice B4 x.seal_.sig.shut.length j4, .slice B5 x.seal_.sig.sides.length j5, .slice B6 x.stamps.length j6] 64) → Below w.heap.size w W ∧ W.cell? ⟨w.heap.size,0,none⟩ = some (.slice A0 t.roots.length k0) ∧ W.cell? ⟨w.heap.size,1,none⟩ = some (.int .i64 t.k) ∧ W.cell? ⟨w.heap.size + 1,0,none⟩ = some (.slice B0 x.proof.bucket.length j0) ∧ W.cell? ⟨w.heap.size + 1,1,none⟩ = some (.slice B1 x.proof.sides.length j1) ∧ W.cell? ⟨w.heap.size + 1,2,none⟩ = some (.slice B2 x.tops.length j2) ∧ W.cell? ⟨w.heap.size + 1,11,none⟩ = some (.slice B6 x.stamps.length j6) ∧ w.heap.size + 1 < W.heap.size:=by
  rintro W rfl
  refine ⟨((Below.refl _ _).alloc (Nat.le_refl _) _).alloc zz32 _,ya4 (ya1 _ _ _ _ _ rfl),ya4 (ya1 _ _ _ _ _ rfl),?_,?_,?_,?_,zz32⟩
  all_goals (rw [show w.heap.size + 1 = (w.alloc (.cells #[.slice A0 t.roots.length k0, .int .i64 t.k, .int .i64 t.need] 51)).heap.size from by simp]; exact ya1 _ _ _ _ _ rfl)
 go_enter Tryz.func82,Tryz.ntmps82
 go_wp2_with (fail)
 obtain ⟨W,hW⟩ : ∃ W,(w.alloc (.cells #[.slice A0 t.roots.length k0, .int .i64 t.k, .int .i64 t.need] 51)).alloc (.cells #[.slice B0 x.proof.bucket.length j0, .slice B1 x.proof.sides.length j1, .slice B2 x.tops.length j2, .int .i64 x.seal_.head.house, .int .i64 x.seal_.head.epoch, .string x.seal_.head.root, .string x.seal_.head.prev, .int .i64 x.seal_.sig.at_, .slice B3 x.seal_.sig.open_.length j3, .slice B4 x.seal_.sig.shut.length j4, .slice B5 x.seal_.sig.sides.length j5, .slice B6 x.stamps.length j6] 64) = W:=⟨_,rfl⟩
 rw [hW]
 obtain ⟨hBW,c0,c1,d0,d1,d2,d6,hsz⟩:=hWd W hW.symm
 have HBW:=zd hBW
 clear hW hWd
 refine (HTK.out _ hBW).mono ?_
 rintro e1 w1 ⟨rfl,hb1⟩
 have HB1:=zd (hBW.trans (hb1.mono hBW.size))
 replace c0:=(hb1.cell (p:=⟨w.heap.size,0,none⟩) (by show w.heap.size < W.heap.size; omega)).trans c0
 replace c1:=(hb1.cell (p:=⟨w.heap.size,1,none⟩) (by show w.heap.size < W.heap.size; omega)).trans c1
 replace d0:=(hb1.cell (p:=⟨w.heap.size + 1,0,none⟩) hsz).trans d0
 replace d1:=(hb1.cell (p:=⟨w.heap.size + 1,1,none⟩) hsz).trans d1
 replace d2:=(hb1.cell (p:=⟨w.heap.size + 1,2,none⟩) hsz).trans d2
 replace d6:=(hb1.cell (p:=⟨w.heap.size + 1,11,none⟩) hsz).trans d6
 replace hsz:=Nat.lt_of_lt_of_le hsz hb1.size
 clear hb1 hBW HTK
 cases z1
 ·go_wp2
  go_ret
  exact ⟨yab zz60,HB1.out⟩
 obtain ⟨hk0,hk2⟩:=HTB.out rfl
 go_wp2_with (fail)
 refine (HIN.out _).mono ?_
 rintro e2 w2 ⟨rfl,rfl⟩
 cases z2
 ·go_wp2
  go_ret
  exact ⟨yab zz60,HB1.out⟩
 go_wp2_with (fail)
 refine (HPO.out _ HB1.out).mono ?_
 rintro e3 w3 ⟨rfl,hb3⟩
 have HB3:=zd (HB1.out.trans (hb3.mono HB1.out.size))
 replace c1:=(hb3.cell (p:=⟨w.heap.size,1,none⟩) (by show w.heap.size < w1.heap.size; omega)).trans c1
 replace d1:=(hb3.cell (p:=⟨w.heap.size + 1,1,none⟩) hsz).trans d1
 replace d2:=(hb3.cell (p:=⟨w.heap.size + 1,2,none⟩) hsz).trans d2
 replace d6:=(hb3.cell (p:=⟨w.heap.size + 1,11,none⟩) hsz).trans d6
 replace hsz:=Nat.lt_of_lt_of_le hsz hb3.size
 clear hb3 HPO c0 d0 hw1
 cases z3
 ·go_wp2
  go_ret
  exact ⟨yab zz60,HB3.out⟩
 obtain ⟨kk,hkk⟩ : ∃ kk,t.k = kk:=⟨_,rfl⟩
 rw [hkk] at HF c1 hk0 hk2
 clear HTB
 by_cases hsd : (x.proof.sides.length : Int) = 8 - kk
 rotate_left
 ·have HSD : Hid (decide ((x.proof.sides.length : Int) = 8 - kk) = false):=zd (decide_eq_false hsd)
  have hq : ((x.proof.sides.length : Int) != 8 - kk) = true:=by rw [bne_iff_ne]; exact hsd
  clear hsd
  go_wp2
  go_ret
  exact ⟨yab (by rw [HF.out,HSD.out]; rfl),HB3.out⟩
 have HSD : Hid (decide ((x.proof.sides.length : Int) = 8 - kk) = true):=zd (decide_eq_true hsd)
 have hq : ((x.proof.sides.length : Int) != 8 - kk) = false:=by rw [bne_eq_false_iff_eq]; exact hsd
 clear hsd
 by_cases htl : (x.tops.length : Int) = kk
 rotate_left
 ·have HSE : Hid (decide ((x.tops.length : Int) = kk) = false):=zd (decide_eq_false htl)
  have hq2 : ((x.tops.length : Int) != kk) = true:=by rw [bne_iff_ne]; exact htl
  clear htl
  go_wp2
  go_ret
  exact ⟨yab (by rw [HF.out,HSD.out,HSE.out]; rfl),HB3.out⟩
 have HT4 : Hid (decide ((x.tops.length : Int) = kk) = true):=zd (decide_eq_true htl)
 have hq2 : ((x.tops.length : Int) != kk) = false:=by rw [bne_eq_false_iff_eq]; exact htl
 clear htl
 have hzz : (z4 && inB 16 1 32) = z4:=by simp [inB]
 rw [hzz] at HW
 clear hzz
 go_wp2_with (fail)
 refine (HW.out _ HB3.out).mono ?_
 rintro e4 w4 ⟨rfl,rfl⟩
 cases z4
 ·go_wp2
  go_ret
  exact ⟨yab (by rw [HF.out,HSD.out,HT4.out]; rfl),HB3.out⟩
 have HT5 : Hid ((decide ((x.tops.length : Int) = kk) && true) = true):=zd (by rw [HT4.out]; rfl)
 have HFF : Hid (R = rising x.stamps):=zd (by rw [HF.out,HSD.out,HT5.out]; rfl)
 obtain ⟨xs,hxs⟩ : ∃ xs,x.stamps = xs:=⟨_,rfl⟩
 rw [hxs] at HFF d6 hls q6
 have HBAD:=zd (fun i (h : i + 1 < xs.length) hb => rising_bad h hb)
 have HGOOD:=zd (fun h => rising_good (xs:=xs) h)
 have D6:=zd d6
 have rV:=zd (Row.later q6 HB3.out)
 clear HF HSD HT5 HW hxs hzs q6 c1 d1 d2
 go_wp2_with (fail)
 go_loopw [9] (fun i wr => ∃ k : Nat,k + 1 ≤ xs.length + 1 ∧ i = .int .i64 ((k + 1 : Nat) : Int) ∧ Hid (∀ j (h : j + 1 < xs.length),j < k → xs[j].by_ < xs[j + 1].by_) ∧ Below w3.heap.size w3 wr) (fun i _ => xs.length + 1 - (intOf i).toNat)
 case atStart => exact ⟨0,zz8,rfl,zd (fun j _ h => absurd h zz8),Below.refl _ _⟩
 case round =>
  clear d6
  obtain ⟨k,hk,rfl,HS,hb⟩:=hrel
  have d6:=(hb.cell (p:=⟨w.heap.size + 1,11,none⟩) hsz).trans D6.out
  have HBr:=zd (HB3.out.trans (hb.mono HB3.out.size))
  have HBl:=zd hb
  by_cases hlt : k + 1 < xs.length
  ·obtain ⟨b1,o1,rfl,hl1,e0, -⟩:=stamp_by_at rV.out (i:=k) zz8
   obtain ⟨b2,o2,e2,hl2,e1, -⟩:=stamp_by_at rV.out (i:=k + 1) hlt
   cases e2
   replace e0:=(hb.cell (p:=⟨b1,o1 + k * 5,none⟩) hl1).trans e0
   replace e1:=(hb.cell (p:=⟨b1,o1 + (k + 1) * 5,none⟩) hl1).trans e1
   have HBk:=zd (HBAD.out k hlt)
   have HN : Hid (xs[k].by_ < xs[k + 1].by_ → ∀ j (h : j + 1 < xs.length),j < k + 1 → xs[j].by_ < xs[j + 1].by_):=zd (fun h0 j h hj => zz38)
   obtain ⟨p,hp⟩ : ∃ p,xs[k].by_ = p:=⟨_,rfl⟩
   obtain ⟨q,hq_⟩ : ∃ q,xs[k + 1].by_ = q:=⟨_,rfl⟩
   simp only [hp,hq_] at e0 e1 HBk HN
   have i1 : IntKind.i64.wrap (((k + 1 : Nat) : Int) - 1) = (k : Int):=by rw [IntWalk.i64_in _ zz8]; omega
   have i1b : IntKind.i64.wrap ((k : Int) + 1 - 1) = (k : Int):=by rw [IntWalk.i64_in _ zz8]; omega
   have i2 : (k : Int) < (xs.length : Int):=zz8
   have i3 : ((k + 1 : Nat) : Int) < (xs.length : Int):=zz8
   have i3b : (k : Int) + 1 < (xs.length : Int):=zz8
   have i4 : (0 : Int) ≤ (k : Int):=zz8
   have i5 : (0 : Int) ≤ (k : Int) + 1:=zz8
   have i6 : ((k : Int) + 1).toNat = k + 1:=zz8
   clear hp hq_ hb
   go_wp2_with (fail)
   have g0:=Grown.cell e0
   have g1:=Grown.cell e1
   have g2:=Grown.cell d6
   clear e0 e1
   by_cases hc : p < q
   ·have HNx:=zd (HN.out hc)
    have hq3 : decide (q ≤ p) = false:=decide_eq_false zz8
    have hq4 : ¬ q ≤ p:=zz8
    clear hc HBk HN
    refine ya2 (by kernel_rfl) (by kernel_rfl) ?_
    repeat (go_big_quiet_step (fail))
    refine wpQuiet_nil ?_
    intro w5 hw5
    have hB5:=zd (ya7 hw5)
    clear hw5 i1 i1b i3 i5 i6 g0 g1 g2
    go_wp2
    go_roundw
    case rel => exact ⟨k + 1,zz8,by go_num,HNx,HBl.out.trans (hB5.out.mono HBl.out.size)⟩
    case measure => simp [intOf]; omega
   ·have HE:=zd (HBk.out zz8)
    have hq3 : decide (q ≤ p) = true:=decide_eq_true zz8
    have hq4 : q ≤ p:=zz8
    clear hc HBk HN
    refine ya2 (by kernel_rfl) (by kernel_rfl) ?_
    repeat (go_big_quiet_step (fail))
    refine wpQuiet_nil ?_
    intro w5 hw5
    have hB5:=zd (ya7 hw5)
    clear hw5 i1 i1b i3 i5 i6 g0 g1 g2
    go_wp2
    go_ret
    exact ⟨yab (by rw [HFF.out,HE.out]),HBr.out.trans (hB5.out.mono HBr.out.size)⟩
  ·have HE:=zd (HGOOD.out (fun j hj => HS.out j hj zz8))
   have hnl : ¬ ((k + 1 : Nat) : Int) < (xs.length : Int):=zz8
   clear hb
   go_wp2
   go_ret
   exact ⟨yab (by rw [HFF.out,HE.out]),HBr.out⟩
end Go.Proofs.YtgllafgpmenjjaaGreatDoor
namespace Go.Proofs.YtgllafgpmenjjaaGreatDoor
open Go.RowKit Lay Mk
theorem impl_SigOk (w : World) (root t : ByteArray) (x : Sig) (cs : List Value) (S : Blks) (hx : rd false w cs x S) (hT : Tabs w) : Calls Tryz.prog 103 #[.string root, .string t, .agg cs.toArray] w fun e w' => e = .returned (.bool (sigOk root t x)) ∧ Below w.heap.size w w':=by
 have HTx:=zd (fun W h h2 => impl_SigTexts W t x cs S (Lay.later hx h) h2)
 have HT:=zd hT; clear hT
 have HOK : Hid (sigOk root t x = ((sigForm x && decide (t.size ≤ 200)) && decide (sigRoot t x = root))):=zd rfl
 obtain ⟨A0,k0,S0,A1,k1,S1,A2,k2,S2,rfl, -⟩:=Sig.open hx
 clear hx
 simp only [Sig.cs] at HTx ⊢
 go_enter Tryz.func103,Tryz.ntmps103
 go_wp2_with (fail)
 refine (HTx.out _ ((Below.refl _ _).alloc (Nat.le_refl _) _) (HT.out.later ((Below.refl _ _).alloc (Nat.le_refl _) _))).mono ?_
 rintro e1 w1 ⟨A,c,l,S',rfl,hlen,hr,hN,hY,hb⟩
 have HB : Hid (Below w.heap.size w w1):=zd (Below.via hb)
 cases hok : (sigForm x && decide (t.size ≤ 200))
 ·have hl:=hN hok
  subst hl
  rw [hok] at HOK
  clear hN hY hr hb
  go_wp2
  go_ret
  exact ⟨yab (by rw [HOK.out]; rfl),HB.out⟩
 ·obtain ⟨pre,tl,rfl,htl,hcut⟩:=hY hok
  rw [hok] at HOK
  clear hN hY
  obtain ⟨b1,o1,rfl,hl1,f0,s0⟩:=Row.str hr (i:=pre.length) zz32
  rw [List.getElem_concat_length (rfl)] at f0
  have hln : (pre ++ [tl]).length = pre.length + 1:=zz32
  obtain ⟨n,hn⟩ : ∃ n,pre.length = n:=⟨_,rfl⟩
  rw [hn] at hln f0
  rw [hln] at hlen ⊢
  have hw1 : IntKind.i64.wrap (((n + 1 : Nat) : Int) - 1) = (n : Int):=by rw [IntWalk.i64_in _ zz8]; omega
  have hp : (0 : Int) < ((n + 1 : Nat) : Int):=zz8
  have hq : ((n + 1 : Nat) : Int) - 1 = (n : Int):=zz8
  have hpp : (0 : Int) < (n : Int) + 1:=zz8
  have hlt2 : (n : Int) < ((n + 1 : Nat) : Int):=zz8
  have hlt3 : (n : Int) < (n : Int) + 1:=zz8
  have hqq : (n : Int) + 1 - 1 = (n : Int):=zz8
  have hw2 : IntKind.i64.wrap (n : Int) = (n : Int):=IntWalk.i64_in _ zz8
  have HC:=zd hcut
  clear hb hr hln hcut hn s0
  go_wp2_with (fail)
  refine (impl_CutDigest _ tl zz8 16 zz39 (HT.out.later HB.out)).mono ?_
  rintro e2 w2 ⟨rfl,hb2⟩
  rw [HC.out]
  have HB2:=zd (HB.out.trans (hb2.mono HB.out.size))
  clear hb2
  by_cases hroot : sigRoot t x = root
  ·have hse:=str_eq hroot
   rw [decide_eq_true hroot] at HOK
   clear hroot
   go_wp2
   go_ret
   exact ⟨yab (by rw [HOK.out]; rfl),HB2.out⟩
  ·have hse:=str_ne hroot
   rw [decide_eq_false hroot] at HOK
   clear hroot
   go_wp2
   go_ret
   exact ⟨yab (by rw [HOK.out]; rfl),HB2.out⟩
end Go.Proofs.YtgllafgpmenjjaaGreatDoor
namespace Go.Proofs.YtgllafgpmenjjaaGreatDoor
open Go.RowKit Lay Mk
theorem spec_LockOf (w : World) (s : ByteArray) (hs : s.size ≤ 200) : Calls Tryz.prog 172 #[.string s] w fun e w' => e = .returned (.string (lockOf s)) ∧ Below w.heap.size w w':=by
 go_enter Tryz.func172,Tryz.ntmps172
 go_wp2_with (fail)
 refine (spec_TagHash _ 6 zz39 [s] _ _ _ (row_one w s (ml hs zz8) _) zz32 16 zz39).mono ?_
 rintro e5 w5 ⟨rfl,hb5⟩
 go_wp2
 go_ret
 exact ⟨rfl,Below.via hb5⟩
theorem spec_SigOk (w : World) (root t : ByteArray) (x : Sig) (cs : List Value) (S : Blks) (hx : rd false w cs x S) : Calls Tryz.prog 134 #[.string root, .string t, .agg cs.toArray] w fun e w' => e = .returned (.bool (sigOk root t x)) ∧ Below w.heap.size w w':=by
 have HForm:=zd (fun W h => spec_form W x cs S (Lay.later hx h))
 have HOK : Hid (sigOk root t x = ((sigForm x && decide (t.size ≤ 200)) && decide (sigRoot t x = root))):=zd rfl
 obtain ⟨A0,k0,S0,A1,k1,S1,A2,k2,S2,rfl,ha,l0,m0,r0,_,l1,m1,r1,_,l2,m2,r2,_⟩:=Sig.open hx
 clear hx
 cases hok : (sigForm x && decide (t.size ≤ 200))
 ·rw [hok] at HOK
  cases hf : sigForm x
  ·rw [hf] at HForm
   simp only [Sig.cs]
   simp only [Sig.cs] at HForm
   go_enter Tryz.func134,Tryz.ntmps134
   go_wp2_with (fail)
   refine (HForm.out _ ((Below.refl _ _).alloc (Nat.le_refl _) _)).mono ?_
   rintro e1 w1 ⟨rfl,hb1⟩
   go_wp2
   go_ret
   exact ⟨yab (by rw [HOK.out]; rfl),Below.via hb1⟩
  ·rw [hf] at HForm hok
   have h200 : 200 < t.size:=by simpa using hok
   simp only [Sig.cs]
   simp only [Sig.cs] at HForm
   go_enter Tryz.func134,Tryz.ntmps134
   go_wp2_with (fail)
   refine (HForm.out _ ((Below.refl _ _).alloc (Nat.le_refl _) _)).mono ?_
   rintro e1 w1 ⟨rfl,hb1⟩
   go_wp2
   go_ret
   exact ⟨yab (by rw [HOK.out]; rfl),Below.via hb1⟩
 rw [hok] at HOK
 have hf : sigForm x = true:=by rw [Bool.and_eq_true] at hok; exact hok.1
 have h200 : t.size ≤ 200:=by rw [Bool.and_eq_true] at hok; simpa using hok.2
 rw [hf] at HForm
 obtain ⟨⟨ha0,ha1⟩,hw0,hw1,hw2⟩:=form_parts hf
 obtain ⟨n0,z0⟩:=wide_at hw0
 obtain ⟨n1,z1⟩:=wide_at hw1
 obtain ⟨n2,z2⟩:=wide_at hw2
 have HRoot : Hid (sigRoot t x = climb (yaf 6 (locksTo (signBits t) x 8) 16) x.at_.toNat x.sides):=zd rfl
 have hbl:=signBits_lt t
 obtain ⟨at_,op,sh,si⟩:=x
 obtain ⟨a,rfl⟩ : ∃ a : Nat,at_ = a:=⟨at_.toNat,by simp only at ha0; omega⟩
 simp only at ha l0 m0 r0 l1 m1 r1 l2 m2 r2 ha0 ha1 hw0 hw1 hw2 n0 z0 n1 z1 n2 z2
 simp only [Sig.cs]
 simp only [Sig.cs] at HForm
 rw [n0,n1,n2] at HForm
 rw [n0,n1,n2]
 go_enter Tryz.func134,Tryz.ntmps134
 have hV : ∀ v,v = w.alloc (.cells #[.int .i64 (a : Int), .slice A0 8 k0, .slice A1 8 k1, .slice A2 4 k2] 59) → Below w.heap.size w v ∧ v.cell? ⟨w.heap.size,0,none⟩ = some (.int .i64 (a : Int)) ∧ v.cell? ⟨w.heap.size,1,none⟩ = some (.slice A0 8 k0) ∧ v.cell? ⟨w.heap.size,2,none⟩ = some (.slice A1 8 k1) ∧ v.cell? ⟨w.heap.size,3,none⟩ = some (.slice A2 4 k2) ∧ w.heap.size < v.heap.size:=by
  rintro v rfl
  exact ⟨(Below.refl _ _).alloc (Nat.le_refl _) _,ya1 _ _ _ _ _ rfl,ya1 _ _ _ _ _ rfl,ya1 _ _ _ _ _ rfl,ya1 _ _ _ _ _ rfl,zz32⟩
 go_wp2_with (fail)
 refine (HForm.out _ ((Below.refl _ _).alloc (Nat.le_refl _) _)).mono ?_
 rintro e1 w1 ⟨rfl,hb1⟩
 obtain ⟨hBv,c0,c1,c2,c3,hsz⟩:=hV _ rfl
 obtain ⟨v,hv⟩ : ∃ v,w.alloc (.cells #[.int .i64 (a : Int), .slice A0 8 k0, .slice A1 8 k1, .slice A2 4 k2] 59) = v:=⟨_,rfl⟩
 rw [hv] at hBv c0 c1 c2 c3 hsz hb1
 clear hv hV HForm
 replace c0:=(hb1.cell (p:=⟨w.heap.size,0,none⟩) hsz).trans c0
 replace c1:=(hb1.cell (p:=⟨w.heap.size,1,none⟩) hsz).trans c1
 replace c2:=(hb1.cell (p:=⟨w.heap.size,2,none⟩) hsz).trans c2
 replace c3:=(hb1.cell (p:=⟨w.heap.size,3,none⟩) hsz).trans c3
 have hB1 : Below w.heap.size w w1:=hBv.trans (hb1.mono (Nat.le_of_lt hsz))
 have hs1 : w.heap.size < w1.heap.size:=Nat.lt_of_lt_of_le hsz hb1.size
 clear hBv hb1 hsz
 have q0 : Row false w1 A0 k0 op S0:=Row.later r0 hB1
 have q1 : Row false w1 A1 k1 sh S1:=Row.later r1 hB1
 have q2 : Row false w1 A2 k2 si S2:=Row.later r2 hB1
 clear r0 r1 r2 l0 l1 l2 m0 m1 m2 hw0 hw1 hw2
 go_wp2_with (fail)
 refine (spec_SignBitsOf _ t h200).mono ?_
 rintro e2 w2 ⟨rfl,hb2⟩
 obtain ⟨bits,hbits⟩ : ∃ b,signBits t = b:=⟨_,rfl⟩
 rw [hbits] at hbl HRoot ⊢
 clear hbits
 have hz2:=hb2.size
 obtain ⟨g,hg⟩ : ∃ g,w1.heap.size = g:=⟨_,rfl⟩
 simp only [hg] at hb2 hz2 hs1 ⊢
 have H2:=zd (hb2.alloc hz2 (.cells #[] 9)); have H1:=zd hB1; have HG:=zd hg
 have hr0:=zd (row_lit0 (α:=ByteArray) w2 9 (fun b => g ≤ b) rfl hz2)
 have hgw : w.heap.size ≤ g:=Nat.le_of_lt hs1
 clear hb2 hB1 hg
 go_wp2
 go_loopw [8,9] (fun u i wr => ∃ (k : Nat) (L : List ByteArray) (A : Option Addr) (c : Nat),k ≤ 8 ∧ i = .int .i64 k ∧ u = .slice A L.length c ∧ Hid (L = locksTo bits ⟨(a : Int),op,sh,si⟩ k) ∧ L.length ≤ 2 * k ∧ L.length ≤ c ∧ c ≤ maxLen ∧ Hid (Row true wr A c L (fun b => g ≤ b)) ∧ Hid (Below g w1 wr) ∧ g ≤ wr.heap.size) (fun _ i _ => 8 - (intOf i).toNat)
 case atStart => exact ⟨0, [],some ⟨w2.heap.size,0,none⟩,0,zz8,rfl,rfl,zd rfl,zz32,zz32,zz69,hr0,H2,zz35⟩
 case round =>
  clear hr0 H2 hz2
  obtain ⟨k,L,A,c,hk,rfl,rfl,HL,hLk,hLc,hcm,HRa,HB,hgz⟩:=hrel
  by_cases hlt : k < 8
  ·obtain ⟨b1,o1,rfl,hl1,f0,s0⟩:=Row.str q0 (i:=k) (by rw [n0]; exact hlt)
   obtain ⟨b2,o2,rfl,hl2,f1,s1⟩:=Row.str q1 (i:=k) (by rw [n1]; exact hlt)
   have g0:=HB.out.cell (p:=⟨b1,o1 + k,none⟩) (by rw [← HG.out]; exact hl1)
   have g1:=HB.out.cell (p:=⟨w.heap.size,1,none⟩) hs1
   rw [f0] at g0
   rw [c1] at g1
   have hosz:=z0 _ (List.getElem_mem (show k < op.length by rw [n0]; exact hlt))
   have hssz:=z1 _ (List.getElem_mem (show k < sh.length by rw [n1]; exact hlt))
   have HP0 : Hid (bitOf bits k = 0 → locksTo bits ⟨(a : Int),op,sh,si⟩ (k + 1) = L ++ [lockOf (op[k]'(show k < op.length by rw [n0]; exact hlt)),sh[k]'(show k < sh.length by rw [n1]; exact hlt)]):=zd (fun e => by rw [locksTo, ← HL.out,pair_zero e,getD_at (show k < op.length by rw [n0]; exact hlt),getD_at (show k < sh.length by rw [n1]; exact hlt)])
   have HP1 : Hid (bitOf bits k ≠ 0 → locksTo bits ⟨(a : Int),op,sh,si⟩ (k + 1) = L ++ [sh[k]'(show k < sh.length by rw [n1]; exact hlt),lockOf (op[k]'(show k < op.length by rw [n0]; exact hlt))]):=zd (fun e => by rw [locksTo, ← HL.out,pair_one e,getD_at (show k < op.length by rw [n0]; exact hlt),getD_at (show k < sh.length by rw [n1]; exact hlt)])
   obtain ⟨y,hy⟩ : ∃ y,op[k]'(show k < op.length by rw [n0]; exact hlt) = y:=⟨_,rfl⟩
   obtain ⟨z,hz⟩ : ∃ z,sh[k]'(show k < sh.length by rw [n1]; exact hlt) = z:=⟨_,rfl⟩
   rw [hy] at hosz HP0 HP1
   simp only [hy] at g0
   rw [hz] at hssz HP0 HP1
   simp only [hz] at f1
   have HF1:=zd f1
   clear hy hz f0 f1 s0 s1 hl1
   have hym : y.size ≤ maxLen:=ml (Nat.le_of_eq hosz) zz8
   have hzm : z.size ≤ maxLen:=ml (Nat.le_of_eq hssz) zz8
   have hlk : (lockOf y).size = 16:=lockOf_size zz8
   go_wp2_with (fail)
   refine (spec_LockOf _ y zz8).mono ?_
   rintro e5 w5 ⟨rfl,hb5⟩
   obtain ⟨lk,hlkk⟩ : ∃ l,lockOf y = l:=⟨_,rfl⟩
   rw [hlkk] at HP0 HP1 hlk ⊢
   have hlm : lk.size ≤ maxLen:=ml (Nat.le_of_eq hlk) zz8
   clear hlkk g0 g1
   have hz5:=hb5.size
   have HR5:=zd (Row.later HRa.out hb5)
   have HB5:=zd (HB.out.trans (hb5.mono zz57))
   have d1:=HB5.out.cell (p:=⟨w.heap.size,2,none⟩) hs1
   rw [c2] at d1
   have d2:=(HB5.out.cell (p:=⟨b2,o2 + k,none⟩) (by rw [← HG.out]; exact hl2)).trans HF1.out
   clear hb5 HF1
   by_cases hbit : bitOf bits k = 0
   ·have hbz : ((bitOf bits k : Int) == 0) = true:=by rw [beq_iff_eq]; omega
    have HN:=zd (HP0.out hbit)
    go_wp2_with (first | (go_at_call 135; refine (spec_BitOf _ bits hbl k hlt).mono ?_; rintro e9 w9 ⟨rfl,rfl⟩) | (at_builtin; refine wpList_app (α:=ByteArray) (xs:=L) rfl _ _ rfl rfl rfl (Row.allocC HR5.out _) hLc hcm rfl rfl (Src.flat (row_pair w5 lk z hlm hzm _)) (disj_none_ _) zz8 ?_; intro A6 c6 w6 p1 p2 p3 p4))
    have hz6:=p4.size
    rw [World.size_alloc] at hz6
    go_roundw
    case rel =>
     exact ⟨k + 1,L ++ [lk,z],A6,c6,zz8,by go_num,by rw [List.length_append]; rfl,zd HN.out.symm,zz51,by rw [List.length_append]; exact p1,p2,zd (p3.mono (fun b hb => by
      rw [World.size_alloc] at hb
      rcases hb with hb | hb | hb
      ·exact hb
      ·exact hb.elim
      ·show g ≤ b; omega)),zd ((HB5.out.alloc (by rw [← HG.out]; exact HB5.out.size) _).trans (p4.to_below zz68 (fun b hb => hb))),zz8⟩
    case measure => simp [intOf]; omega
   ·have hbz : ((bitOf bits k : Int) == 0) = false:=by rw [beq_eq_false_iff_ne]; omega
    have HN:=zd (HP1.out hbit)
    go_wp2_with (first | (go_at_call 135; refine (spec_BitOf _ bits hbl k hlt).mono ?_; rintro e9 w9 ⟨rfl,rfl⟩) | (at_builtin; refine wpList_app (α:=ByteArray) (xs:=L) rfl _ _ rfl rfl rfl (Row.allocC HR5.out _) hLc hcm rfl rfl (Src.flat (row_pair w5 z lk hzm hlm _)) (disj_none_ _) zz8 ?_; intro A6 c6 w6 p1 p2 p3 p4))
    have hz6:=p4.size
    rw [World.size_alloc] at hz6
    go_roundw
    case rel =>
     exact ⟨k + 1,L ++ [z,lk],A6,c6,zz8,by go_num,by rw [List.length_append]; rfl,zd HN.out.symm,zz51,by rw [List.length_append]; exact p1,p2,zd (p3.mono (fun b hb => by
      rw [World.size_alloc] at hb
      rcases hb with hb | hb | hb
      ·exact hb
      ·exact hb.elim
      ·show g ≤ b; omega)),zd ((HB5.out.alloc (by rw [← HG.out]; exact HB5.out.size) _).trans (p4.to_below zz68 (fun b hb => hb))),zz8⟩
    case measure => simp [intOf]; omega
  ·have hke : k = 8:=by omega
   subst hke
   have HR2 : Hid (sigRoot t ⟨(a : Int),op,sh,si⟩ = climb (yaf 6 L 16) a si):=zd (by rw [HRoot.out,HL.out]; rfl)
   have HTk : Hid (tagOk 6 L = true):=zd (by rw [HL.out]; exact locks_ok hf)
   have hh:=tagHash_size HTk.out
   go_wp2_with (fail)
   refine (spec_TagHash _ 6 zz39 L A c _ (HRa.out.weak) zz8 16 zz39).mono ?_
   rintro e5 w5 ⟨rfl,hb5⟩
   obtain ⟨h,hhe⟩ : ∃ h,yaf 6 L 16 = h:=⟨_,rfl⟩
   rw [hhe] at HR2 hh ⊢
   have HB5:=zd (HB.out.trans (hb5.mono zz57))
   have g1:=HB5.out.cell (p:=⟨w.heap.size,0,none⟩) hs1
   rw [c0] at g1
   clear hhe hb5 HTk
   go_wp2
   go_loopw [11,12,13] (fun u v i wr => ∃ (k a' : Nat) (h : ByteArray),k ≤ 4 ∧ i = .int .i64 k ∧ u = .string h ∧ v = .int .i64 a' ∧ a' ≤ 15 ∧ h.size = 16 ∧ Hid (sigRoot t ⟨(a : Int),op,sh,si⟩ = climb h a' (si.drop k)) ∧ Hid (Below g w1 wr)) (fun _ _ i _ => 4 - (intOf i).toNat)
   case atStart => exact ⟨0,a,h,zz8,rfl,rfl,rfl,zz8,hh,zd (by rw [HR2.out]; simp),HB5⟩
   case round =>
    clear HR2 HB5 g1 HRa HB hh
    obtain ⟨k,a',h,hk,rfl,rfl,rfl,ha',hh,HR2,HB⟩:=hrel
    have d3:=HB.out.cell (p:=⟨w.heap.size,3,none⟩) hs1
    rw [c3] at d3
    by_cases hlt : k < 4
    ·obtain ⟨b1,o1,rfl,hl1,f0,s0⟩:=Row.str q2 (i:=k) (by rw [n2]; exact hlt)
     have g0:=HB.out.cell (p:=⟨b1,o1 + k,none⟩) (by rw [← HG.out]; exact hl1)
     rw [f0] at g0
     have hsz:=z2 _ (List.getElem_mem (show k < si.length by rw [n2]; exact hlt))
     have HD : Hid (si.drop k = si[k]'(show k < si.length by rw [n2]; exact hlt) :: si.drop (k + 1)):=zd (List.drop_eq_getElem_cons (show k < si.length by rw [n2]; exact hlt))
     obtain ⟨y,hy⟩ : ∃ y,si[k]'(show k < si.length by rw [n2]; exact hlt) = y:=⟨_,rfl⟩
     rw [hy] at hsz HD
     simp only [hy] at g0
     clear hy f0 s0
     have hym : y.size ≤ maxLen:=ml (Nat.le_of_eq hsz) zz8
     have hhm : h.size ≤ maxLen:=ml (Nat.le_of_eq hh) zz8
     by_cases hpar : a' % 2 = 0
     ·have HTok:=zd (tag_two (kind:=3) (s:=h) (t:=y) zz69 zz8 zz8)
      have hh2s:=tagHash_size HTok.out
      have HR3 : Hid (sigRoot t ⟨(a : Int),op,sh,si⟩ = climb (yaf 3 [h,y] 16) (a' / 2) (si.drop (k + 1))):=zd (by rw [HR2.out,HD.out,climb_even hpar])
      have hp1 : ((a' : Int) % 2 == 0) = true:=by rw [beq_iff_eq]; omega
      have hp2 : ((a' : Int).tmod 2 == 0) = true:=by rw [Int.tmod_eq_emod_of_nonneg zz8]; exact hp1
      have hdv : (a' : Int).tdiv 2 = (a' : Int) / 2:=Int.tdiv_eq_ediv_of_nonneg zz8
      clear HR2 HD hpar
      go_wp2_with (fail)
      refine (spec_TagHash _ 3 zz39 [h,y] _ _ _ (row_pair wr h y hhm hym _) zz32 16 zz39).mono ?_
      rintro e5 w5 ⟨rfl,hb5⟩
      obtain ⟨h2,hh2⟩ : ∃ h2,yaf 3 [h,y] 16 = h2:=⟨_,rfl⟩
      rw [hh2] at hh2s HR3 ⊢
      have HB5:=zd (HB.out.trans ((Below.via hb5).mono zz57))
      clear hh2 hb5
      go_wp2
      go_roundw
      case rel => exact ⟨k + 1,a' / 2,h2,zz8,by go_num,rfl,by first | (congr 1; omega) | (simp; done),zz8,hh2s,HR3,HB5⟩
      case measure => simp [intOf]; omega
     ·have HTok:=zd (tag_two (kind:=3) (s:=y) (t:=h) zz69 zz8 zz8)
      have hh2s:=tagHash_size HTok.out
      have HR3 : Hid (sigRoot t ⟨(a : Int),op,sh,si⟩ = climb (yaf 3 [y,h] 16) (a' / 2) (si.drop (k + 1))):=zd (by rw [HR2.out,HD.out,climb_odd hpar])
      have hp1 : ((a' : Int) % 2 == 0) = false:=zz45
      have hp2 : ((a' : Int).tmod 2 == 0) = false:=by rw [Int.tmod_eq_emod_of_nonneg zz8]; exact hp1
      have hdv : (a' : Int).tdiv 2 = (a' : Int) / 2:=Int.tdiv_eq_ediv_of_nonneg zz8
      clear HR2 HD hpar
      go_wp2_with (fail)
      refine (spec_TagHash _ 3 zz39 [y,h] _ _ _ (row_pair wr y h hym hhm _) zz32 16 zz39).mono ?_
      rintro e5 w5 ⟨rfl,hb5⟩
      obtain ⟨h2,hh2⟩ : ∃ h2,yaf 3 [y,h] 16 = h2:=⟨_,rfl⟩
      rw [hh2] at hh2s HR3 ⊢
      have HB5:=zd (HB.out.trans ((Below.via hb5).mono zz57))
      clear hh2 hb5
      go_wp2
      go_roundw
      case rel => exact ⟨k + 1,a' / 2,h2,zz8,by go_num,rfl,by first | (congr 1; omega) | (simp; done),zz8,hh2s,HR3,HB5⟩
      case measure => simp [intOf]; omega
    ·have hke : k = 4:=by omega
     subst hke
     have HE : Hid (sigRoot t ⟨(a : Int),op,sh,si⟩ = h):=zd (by rw [HR2.out,List.drop_of_length_le zz8]; rfl)
     have HW0:=zd ((H1.out.trans (HB.out.mono hgw)))
     by_cases hroot : h = root
     ·have hse:=str_eq hroot
      rw [HE.out,decide_eq_true hroot] at HOK
      clear hroot
      go_wp2
      go_ret
      exact ⟨yab (by rw [HOK.out]; rfl),HW0.out⟩
     ·have hse:=str_ne hroot
      rw [HE.out,decide_eq_false hroot] at HOK
      clear hroot
      go_wp2
      go_ret
      exact ⟨yab (by rw [HOK.out]; rfl),HW0.out⟩
end Go.Proofs.YtgllafgpmenjjaaGreatDoor
