/- A part of the proof. -/
import Derived.RegionTactic
import Derived.BigRegion
import Derived.Test.YtlfnmbcnehaikaaGreatDoorHApL24xRq
set_option linter.unusedVariables false
set_option linter.unusedSimpArgs false
set_option maxRecDepth 20000
set_option maxHeartbeats 8000000
namespace Go.Proofs.YtlfnmbcnehaikaaGreatDoor
open Go.RowKit Lay Mk
theorem spec_EvidenceOk (w : World) (root : ByteArray) (_hr : root.size ≤ 1048576) (x : Pair) (cs : List Value) (S : Blks) (hx : rd false w cs x S) (_hz : x.sz ≤ 1048576) : Calls Tryz.prog 52 #[.string root, .agg cs.toArray] w fun e w' => e = .returned (.bool (evidenceOk root x)) ∧ Below w.heap.size w w':=by
 obtain ⟨a,b⟩:=x
 obtain ⟨c1,c2,S1,S2,rfl, -, -, -,h1,h2⟩:=hx
 have HSA:=zd (fun W (h : Below w.heap.size w W) => spec_SealOk W root a c1 S1 (Lay.later h1 h))
 have HSB:=zd (fun W (h : Below w.heap.size w W) => spec_SealOk W root b c2 S2 (Lay.later h2 h))
 obtain ⟨A0,k0,T0,A1,k1,T1,A2,k2,T2,rfl, -⟩:=Seal.open h1
 obtain ⟨D0,m0,U0,D1,m1,U1,D2,m2,U2,rfl, -⟩:=Seal.open h2
 clear h1 h2
 have HOK : Hid (evidenceOk root ⟨a,b⟩ = (sealOk root a && sealOk root b && decide (a.head.house = b.head.house) && decide (a.head.epoch = b.head.epoch) && !sameHd a.head b.head)):=zd rfl
 obtain ⟨za,hza⟩ : ∃ z,sealOk root a = z:=⟨_,rfl⟩
 obtain ⟨zb,hzb⟩ : ∃ z,sealOk root b = z:=⟨_,rfl⟩
 rw [hza] at HSA HOK
 rw [hzb] at HSB HOK
 clear hza hzb
 obtain ⟨⟨ah,ae,ar,ap⟩,⟨ax,ao,as_,ad⟩⟩:=a
 obtain ⟨⟨bh,be,br,bp⟩,⟨bx,bo,bs_,bd⟩⟩:=b
 obtain ⟨R,hR⟩ : ∃ R,evidenceOk root ⟨⟨⟨ah,ae,ar,ap⟩,⟨ax,ao,as_,ad⟩⟩,⟨⟨bh,be,br,bp⟩,⟨bx,bo,bs_,bd⟩⟩⟩ = R:=⟨_,rfl⟩
 rw [hR] at HOK ⊢
 clear hR
 simp only [Seal.cs,List.cons_append,List.nil_append] at HSA HSB HOK ⊢
 go_enter Tryz.func52,Tryz.ntmps52
 go_wp2_with (fail)
 have HW:=zd ((Below.refl w.heap.size w).alloc (Nat.le_refl _) (.cells #[.int .i64 ah, .int .i64 ae, .string ar, .string ap, .int .i64 ax, .slice A0 ao.length k0, .slice A1 as_.length k1, .slice A2 ad.length k2, .int .i64 bh, .int .i64 be, .string br, .string bp, .int .i64 bx, .slice D0 bo.length m0, .slice D1 bs_.length m1, .slice D2 bd.length m2] 79))
 refine (HSA.out _ HW.out).mono ?_
 rintro e1 w1 ⟨rfl,hb1⟩
 have HB1:=zd (HW.out.trans (hb1.mono HW.out.size))
 have hz1 : w.heap.size < w1.heap.size:=by have:=hb1.size; simp at this; omega
 have c0:=(hb1.cell (p:=⟨w.heap.size,0,none⟩) zz17).trans (ya2 w #[.int .i64 ah, .int .i64 ae, .string ar, .string ap, .int .i64 ax, .slice A0 ao.length k0, .slice A1 as_.length k1, .slice A2 ad.length k2, .int .i64 bh, .int .i64 be, .string br, .string bp, .int .i64 bx, .slice D0 bo.length m0, .slice D1 bs_.length m1, .slice D2 bd.length m2] _ 0 _ rfl)
 have c1:=(hb1.cell (p:=⟨w.heap.size,1,none⟩) zz17).trans (ya2 w #[.int .i64 ah, .int .i64 ae, .string ar, .string ap, .int .i64 ax, .slice A0 ao.length k0, .slice A1 as_.length k1, .slice A2 ad.length k2, .int .i64 bh, .int .i64 be, .string br, .string bp, .int .i64 bx, .slice D0 bo.length m0, .slice D1 bs_.length m1, .slice D2 bd.length m2] _ 1 _ rfl)
 have c2:=(hb1.cell (p:=⟨w.heap.size,2,none⟩) zz17).trans (ya2 w #[.int .i64 ah, .int .i64 ae, .string ar, .string ap, .int .i64 ax, .slice A0 ao.length k0, .slice A1 as_.length k1, .slice A2 ad.length k2, .int .i64 bh, .int .i64 be, .string br, .string bp, .int .i64 bx, .slice D0 bo.length m0, .slice D1 bs_.length m1, .slice D2 bd.length m2] _ 2 _ rfl)
 have c3:=(hb1.cell (p:=⟨w.heap.size,3,none⟩) zz17).trans (ya2 w #[.int .i64 ah, .int .i64 ae, .string ar, .string ap, .int .i64 ax, .slice A0 ao.length k0, .slice A1 as_.length k1, .slice A2 ad.length k2, .int .i64 bh, .int .i64 be, .string br, .string bp, .int .i64 bx, .slice D0 bo.length m0, .slice D1 bs_.length m1, .slice D2 bd.length m2] _ 3 _ rfl)
 have c4:=(hb1.cell (p:=⟨w.heap.size,4,none⟩) zz17).trans (ya2 w #[.int .i64 ah, .int .i64 ae, .string ar, .string ap, .int .i64 ax, .slice A0 ao.length k0, .slice A1 as_.length k1, .slice A2 ad.length k2, .int .i64 bh, .int .i64 be, .string br, .string bp, .int .i64 bx, .slice D0 bo.length m0, .slice D1 bs_.length m1, .slice D2 bd.length m2] _ 4 _ rfl)
 have c5:=(hb1.cell (p:=⟨w.heap.size,5,none⟩) zz17).trans (ya2 w #[.int .i64 ah, .int .i64 ae, .string ar, .string ap, .int .i64 ax, .slice A0 ao.length k0, .slice A1 as_.length k1, .slice A2 ad.length k2, .int .i64 bh, .int .i64 be, .string br, .string bp, .int .i64 bx, .slice D0 bo.length m0, .slice D1 bs_.length m1, .slice D2 bd.length m2] _ 5 _ rfl)
 have c6:=(hb1.cell (p:=⟨w.heap.size,6,none⟩) zz17).trans (ya2 w #[.int .i64 ah, .int .i64 ae, .string ar, .string ap, .int .i64 ax, .slice A0 ao.length k0, .slice A1 as_.length k1, .slice A2 ad.length k2, .int .i64 bh, .int .i64 be, .string br, .string bp, .int .i64 bx, .slice D0 bo.length m0, .slice D1 bs_.length m1, .slice D2 bd.length m2] _ 6 _ rfl)
 have c7:=(hb1.cell (p:=⟨w.heap.size,7,none⟩) zz17).trans (ya2 w #[.int .i64 ah, .int .i64 ae, .string ar, .string ap, .int .i64 ax, .slice A0 ao.length k0, .slice A1 as_.length k1, .slice A2 ad.length k2, .int .i64 bh, .int .i64 be, .string br, .string bp, .int .i64 bx, .slice D0 bo.length m0, .slice D1 bs_.length m1, .slice D2 bd.length m2] _ 7 _ rfl)
 have c8:=(hb1.cell (p:=⟨w.heap.size,8,none⟩) zz17).trans (ya2 w #[.int .i64 ah, .int .i64 ae, .string ar, .string ap, .int .i64 ax, .slice A0 ao.length k0, .slice A1 as_.length k1, .slice A2 ad.length k2, .int .i64 bh, .int .i64 be, .string br, .string bp, .int .i64 bx, .slice D0 bo.length m0, .slice D1 bs_.length m1, .slice D2 bd.length m2] _ 8 _ rfl)
 have c9:=(hb1.cell (p:=⟨w.heap.size,9,none⟩) zz17).trans (ya2 w #[.int .i64 ah, .int .i64 ae, .string ar, .string ap, .int .i64 ax, .slice A0 ao.length k0, .slice A1 as_.length k1, .slice A2 ad.length k2, .int .i64 bh, .int .i64 be, .string br, .string bp, .int .i64 bx, .slice D0 bo.length m0, .slice D1 bs_.length m1, .slice D2 bd.length m2] _ 9 _ rfl)
 have c10:=(hb1.cell (p:=⟨w.heap.size,10,none⟩) zz17).trans (ya2 w #[.int .i64 ah, .int .i64 ae, .string ar, .string ap, .int .i64 ax, .slice A0 ao.length k0, .slice A1 as_.length k1, .slice A2 ad.length k2, .int .i64 bh, .int .i64 be, .string br, .string bp, .int .i64 bx, .slice D0 bo.length m0, .slice D1 bs_.length m1, .slice D2 bd.length m2] _ 10 _ rfl)
 have c11:=(hb1.cell (p:=⟨w.heap.size,11,none⟩) zz17).trans (ya2 w #[.int .i64 ah, .int .i64 ae, .string ar, .string ap, .int .i64 ax, .slice A0 ao.length k0, .slice A1 as_.length k1, .slice A2 ad.length k2, .int .i64 bh, .int .i64 be, .string br, .string bp, .int .i64 bx, .slice D0 bo.length m0, .slice D1 bs_.length m1, .slice D2 bd.length m2] _ 11 _ rfl)
 have c12:=(hb1.cell (p:=⟨w.heap.size,12,none⟩) zz17).trans (ya2 w #[.int .i64 ah, .int .i64 ae, .string ar, .string ap, .int .i64 ax, .slice A0 ao.length k0, .slice A1 as_.length k1, .slice A2 ad.length k2, .int .i64 bh, .int .i64 be, .string br, .string bp, .int .i64 bx, .slice D0 bo.length m0, .slice D1 bs_.length m1, .slice D2 bd.length m2] _ 12 _ rfl)
 have c13:=(hb1.cell (p:=⟨w.heap.size,13,none⟩) zz17).trans (ya2 w #[.int .i64 ah, .int .i64 ae, .string ar, .string ap, .int .i64 ax, .slice A0 ao.length k0, .slice A1 as_.length k1, .slice A2 ad.length k2, .int .i64 bh, .int .i64 be, .string br, .string bp, .int .i64 bx, .slice D0 bo.length m0, .slice D1 bs_.length m1, .slice D2 bd.length m2] _ 13 _ rfl)
 have c14:=(hb1.cell (p:=⟨w.heap.size,14,none⟩) zz17).trans (ya2 w #[.int .i64 ah, .int .i64 ae, .string ar, .string ap, .int .i64 ax, .slice A0 ao.length k0, .slice A1 as_.length k1, .slice A2 ad.length k2, .int .i64 bh, .int .i64 be, .string br, .string bp, .int .i64 bx, .slice D0 bo.length m0, .slice D1 bs_.length m1, .slice D2 bd.length m2] _ 14 _ rfl)
 have c15:=(hb1.cell (p:=⟨w.heap.size,15,none⟩) zz17).trans (ya2 w #[.int .i64 ah, .int .i64 ae, .string ar, .string ap, .int .i64 ax, .slice A0 ao.length k0, .slice A1 as_.length k1, .slice A2 ad.length k2, .int .i64 bh, .int .i64 be, .string br, .string bp, .int .i64 bx, .slice D0 bo.length m0, .slice D1 bs_.length m1, .slice D2 bd.length m2] _ 15 _ rfl)
 clear hb1 HW HSA
 cases za
 ·go_wp2
  go_ret
  exact ⟨ya1 (by rw [HOK.out]; rfl),HB1.out⟩
 go_wp2_with (fail)
 refine (HSB.out _ HB1.out).mono ?_
 rintro e2 w2 ⟨rfl,hb2⟩
 have HB2:=zd (HB1.out.trans (hb2.mono HB1.out.size))
 replace c0:=(hb2.cell (p:=⟨w.heap.size,0,none⟩) hz1).trans c0
 replace c1:=(hb2.cell (p:=⟨w.heap.size,1,none⟩) hz1).trans c1
 replace c2:=(hb2.cell (p:=⟨w.heap.size,2,none⟩) hz1).trans c2
 replace c3:=(hb2.cell (p:=⟨w.heap.size,3,none⟩) hz1).trans c3
 replace c4:=(hb2.cell (p:=⟨w.heap.size,4,none⟩) hz1).trans c4
 replace c5:=(hb2.cell (p:=⟨w.heap.size,5,none⟩) hz1).trans c5
 replace c6:=(hb2.cell (p:=⟨w.heap.size,6,none⟩) hz1).trans c6
 replace c7:=(hb2.cell (p:=⟨w.heap.size,7,none⟩) hz1).trans c7
 replace c8:=(hb2.cell (p:=⟨w.heap.size,8,none⟩) hz1).trans c8
 replace c9:=(hb2.cell (p:=⟨w.heap.size,9,none⟩) hz1).trans c9
 replace c10:=(hb2.cell (p:=⟨w.heap.size,10,none⟩) hz1).trans c10
 replace c11:=(hb2.cell (p:=⟨w.heap.size,11,none⟩) hz1).trans c11
 replace c12:=(hb2.cell (p:=⟨w.heap.size,12,none⟩) hz1).trans c12
 replace c13:=(hb2.cell (p:=⟨w.heap.size,13,none⟩) hz1).trans c13
 replace c14:=(hb2.cell (p:=⟨w.heap.size,14,none⟩) hz1).trans c14
 replace c15:=(hb2.cell (p:=⟨w.heap.size,15,none⟩) hz1).trans c15
 clear hb2 HSB HB1 hz1
 cases zb
 ·go_wp2
  go_ret
  exact ⟨ya1 (by rw [HOK.out]; simp [sameHd]),HB2.out⟩
 by_cases q0 : ah = bh
 rotate_left
 ·have HQ:=zd q0
  have hq : (ah == bh) = false:=beq_eq_false_iff_ne.2 q0
  clear q0
  go_wp2
  go_ret
  exact ⟨ya1 zz50,HB2.out⟩
 subst q0
 by_cases q1 : ae = be
 rotate_left
 ·have HQ:=zd q1
  have hq : (ae == be) = false:=beq_eq_false_iff_ne.2 q1
  clear q1
  go_wp2
  go_ret
  exact ⟨ya1 zz50,HB2.out⟩
 subst q1
 by_cases q2 : ar = br
 rotate_left
 ·have HQ:=zd q2
  have hq : (ar.toList == br.toList) = false:=str_ne q2
  have hq2 : ¬ ar.toList = br.toList:=fun e => HQ.out (toList_inj e)
  clear q2
  go_wp2
  go_ret
  exact ⟨ya1 zz50,HB2.out⟩
 subst q2
 by_cases q3 : ap = bp
 rotate_left
 ·have HQ:=zd q3
  have hq : (ap.toList == bp.toList) = false:=str_ne q3
  have hq2 : ¬ ap.toList = bp.toList:=fun e => HQ.out (toList_inj e)
  clear q3
  go_wp2
  go_ret
  exact ⟨ya1 zz50,HB2.out⟩
 subst q3
 go_wp2
 go_ret
 exact ⟨ya1 (by rw [HOK.out]; simp [sameHd]),HB2.out⟩
theorem impl_EvidenceOk (w : World) (root : ByteArray) (_hr : root.size ≤ 1048576) (x : Pair) (cs : List Value) (S : Blks) (hx : rd false w cs x S) (_hz : x.sz ≤ 1048576) (hT : Tabs w) : Calls Tryz.prog 64 #[.string root, .agg cs.toArray] w fun e w' => e = .returned (.bool (evidenceOk root x)) ∧ Below w.heap.size w w':=by
 obtain ⟨a,b⟩:=x
 obtain ⟨c1,c2,S1,S2,rfl, -, -, -,h1,h2⟩:=hx
 have HSA:=zd (fun W (h : Below w.heap.size w W) => impl_SealOk W root a c1 S1 (Lay.later h1 h) (hT.later h))
 have HSB:=zd (fun W (h : Below w.heap.size w W) => impl_SealOk W root b c2 S2 (Lay.later h2 h) (hT.later h))
 obtain ⟨A0,k0,T0,A1,k1,T1,A2,k2,T2,rfl, -⟩:=Seal.open h1
 obtain ⟨D0,m0,U0,D1,m1,U1,D2,m2,U2,rfl, -⟩:=Seal.open h2
 clear h1 h2 hT
 have HOK : Hid (evidenceOk root ⟨a,b⟩ = (sealOk root a && sealOk root b && decide (a.head.house = b.head.house) && decide (a.head.epoch = b.head.epoch) && !sameHd a.head b.head)):=zd rfl
 obtain ⟨za,hza⟩ : ∃ z,sealOk root a = z:=⟨_,rfl⟩
 obtain ⟨zb,hzb⟩ : ∃ z,sealOk root b = z:=⟨_,rfl⟩
 rw [hza] at HSA HOK
 rw [hzb] at HSB HOK
 clear hza hzb
 obtain ⟨⟨ah,ae,ar,ap⟩,⟨ax,ao,as_,ad⟩⟩:=a
 obtain ⟨⟨bh,be,br,bp⟩,⟨bx,bo,bs_,bd⟩⟩:=b
 obtain ⟨R,hR⟩ : ∃ R,evidenceOk root ⟨⟨⟨ah,ae,ar,ap⟩,⟨ax,ao,as_,ad⟩⟩,⟨⟨bh,be,br,bp⟩,⟨bx,bo,bs_,bd⟩⟩⟩ = R:=⟨_,rfl⟩
 rw [hR] at HOK ⊢
 clear hR
 simp only [Seal.cs,List.cons_append,List.nil_append] at HSA HSB HOK ⊢
 go_enter Tryz.func64,Tryz.ntmps64
 go_wp2_with (fail)
 obtain ⟨W,hW⟩ : ∃ W,w.alloc (.cells #[.int .i64 ah, .int .i64 ae, .string ar, .string ap, .int .i64 ax, .slice A0 ao.length k0, .slice A1 as_.length k1, .slice A2 ad.length k2, .int .i64 bh, .int .i64 be, .string br, .string bp, .int .i64 bx, .slice D0 bo.length m0, .slice D1 bs_.length m1, .slice D2 bd.length m2] 79) = W:=⟨_,rfl⟩
 have hWs : w.heap.size < W.heap.size:=by rw [← hW]; simp
 have HW : Hid (Below w.heap.size w W):=zd (by rw [← hW]; exact (Below.refl _ _).alloc (Nat.le_refl _) _)
 have c0 : W.cell? ⟨w.heap.size,0,none⟩ = some (.int .i64 ah):=zz31
 have c1 : W.cell? ⟨w.heap.size,1,none⟩ = some (.int .i64 ae):=zz31
 have c2 : W.cell? ⟨w.heap.size,2,none⟩ = some (.string ar):=zz31
 have c3 : W.cell? ⟨w.heap.size,3,none⟩ = some (.string ap):=zz31
 have c4 : W.cell? ⟨w.heap.size,4,none⟩ = some (.int .i64 ax):=zz31
 have c5 : W.cell? ⟨w.heap.size,5,none⟩ = some (.slice A0 ao.length k0):=zz31
 have c6 : W.cell? ⟨w.heap.size,6,none⟩ = some (.slice A1 as_.length k1):=zz31
 have c7 : W.cell? ⟨w.heap.size,7,none⟩ = some (.slice A2 ad.length k2):=zz31
 have c8 : W.cell? ⟨w.heap.size,8,none⟩ = some (.int .i64 bh):=zz31
 have c9 : W.cell? ⟨w.heap.size,9,none⟩ = some (.int .i64 be):=zz31
 have c10 : W.cell? ⟨w.heap.size,10,none⟩ = some (.string br):=zz31
 have c11 : W.cell? ⟨w.heap.size,11,none⟩ = some (.string bp):=zz31
 have c12 : W.cell? ⟨w.heap.size,12,none⟩ = some (.int .i64 bx):=zz31
 have c13 : W.cell? ⟨w.heap.size,13,none⟩ = some (.slice D0 bo.length m0):=zz31
 have c14 : W.cell? ⟨w.heap.size,14,none⟩ = some (.slice D1 bs_.length m1):=zz31
 have c15 : W.cell? ⟨w.heap.size,15,none⟩ = some (.slice D2 bd.length m2):=zz31
 rw [hW]
 clear hW
 go_region
 ·generalize hW2 : World.drew (World.alloc (World.alloc W _) _) = W2
  have hBW : Below W.heap.size W W2:=by rw [← hW2]; exact (((Below.refl _ _).alloc (Nat.le_refl _) _).alloc zz17 _).drew
  have a0 : W2.cell? ⟨W.heap.size,0,none⟩ = some (.int .i64 ah):=by rw [← hW2]; exact cell_alloc (ya2 W #[.int .i64 ah, .int .i64 ae, .string ar, .string ap] 72 0 _ rfl)
  have a1 : W2.cell? ⟨W.heap.size,1,none⟩ = some (.int .i64 ae):=by rw [← hW2]; exact cell_alloc (ya2 W #[.int .i64 ah, .int .i64 ae, .string ar, .string ap] 72 1 _ rfl)
  have a2 : W2.cell? ⟨W.heap.size,2,none⟩ = some (.string ar):=by rw [← hW2]; exact cell_alloc (ya2 W #[.int .i64 ah, .int .i64 ae, .string ar, .string ap] 72 2 _ rfl)
  have a3 : W2.cell? ⟨W.heap.size,3,none⟩ = some (.string ap):=by rw [← hW2]; exact cell_alloc (ya2 W #[.int .i64 ah, .int .i64 ae, .string ar, .string ap] 72 3 _ rfl)
  have b0 : W2.cell? ⟨W.heap.size + 1,0,none⟩ = some (.int .i64 bh):=by rw [← hW2,show W.heap.size + 1 = (W.alloc (.cells #[.int .i64 ah, .int .i64 ae, .string ar, .string ap] 72)).heap.size from by simp]; exact ya2 (W.alloc (.cells #[.int .i64 ah, .int .i64 ae, .string ar, .string ap] 72)) #[.int .i64 bh, .int .i64 be, .string br, .string bp] 72 0 _ rfl
  have b1 : W2.cell? ⟨W.heap.size + 1,1,none⟩ = some (.int .i64 be):=by rw [← hW2,show W.heap.size + 1 = (W.alloc (.cells #[.int .i64 ah, .int .i64 ae, .string ar, .string ap] 72)).heap.size from by simp]; exact ya2 (W.alloc (.cells #[.int .i64 ah, .int .i64 ae, .string ar, .string ap] 72)) #[.int .i64 bh, .int .i64 be, .string br, .string bp] 72 1 _ rfl
  have b2 : W2.cell? ⟨W.heap.size + 1,2,none⟩ = some (.string br):=by rw [← hW2,show W.heap.size + 1 = (W.alloc (.cells #[.int .i64 ah, .int .i64 ae, .string ar, .string ap] 72)).heap.size from by simp]; exact ya2 (W.alloc (.cells #[.int .i64 ah, .int .i64 ae, .string ar, .string ap] 72)) #[.int .i64 bh, .int .i64 be, .string br, .string bp] 72 2 _ rfl
  have b3 : W2.cell? ⟨W.heap.size + 1,3,none⟩ = some (.string bp):=by rw [← hW2,show W.heap.size + 1 = (W.alloc (.cells #[.int .i64 ah, .int .i64 ae, .string ar, .string ap] 72)).heap.size from by simp]; exact ya2 (W.alloc (.cells #[.int .i64 ah, .int .i64 ae, .string ar, .string ap] 72)) #[.int .i64 bh, .int .i64 be, .string br, .string bp] 72 3 _ rfl
  have hz2 : W.heap.size + 1 < W2.heap.size:=by rw [← hW2]; simp
  clear hW2
  have HB0:=zd (HW.out.trans (hBW.mono HW.out.size))
  replace c0:=(hBW.cell (p:=⟨w.heap.size,0,none⟩) hWs).trans c0
  replace c1:=(hBW.cell (p:=⟨w.heap.size,1,none⟩) hWs).trans c1
  replace c2:=(hBW.cell (p:=⟨w.heap.size,2,none⟩) hWs).trans c2
  replace c3:=(hBW.cell (p:=⟨w.heap.size,3,none⟩) hWs).trans c3
  replace c4:=(hBW.cell (p:=⟨w.heap.size,4,none⟩) hWs).trans c4
  replace c5:=(hBW.cell (p:=⟨w.heap.size,5,none⟩) hWs).trans c5
  replace c6:=(hBW.cell (p:=⟨w.heap.size,6,none⟩) hWs).trans c6
  replace c7:=(hBW.cell (p:=⟨w.heap.size,7,none⟩) hWs).trans c7
  replace c8:=(hBW.cell (p:=⟨w.heap.size,8,none⟩) hWs).trans c8
  replace c9:=(hBW.cell (p:=⟨w.heap.size,9,none⟩) hWs).trans c9
  replace c10:=(hBW.cell (p:=⟨w.heap.size,10,none⟩) hWs).trans c10
  replace c11:=(hBW.cell (p:=⟨w.heap.size,11,none⟩) hWs).trans c11
  replace c12:=(hBW.cell (p:=⟨w.heap.size,12,none⟩) hWs).trans c12
  replace c13:=(hBW.cell (p:=⟨w.heap.size,13,none⟩) hWs).trans c13
  replace c14:=(hBW.cell (p:=⟨w.heap.size,14,none⟩) hWs).trans c14
  replace c15:=(hBW.cell (p:=⟨w.heap.size,15,none⟩) hWs).trans c15
  have hz3 : w.heap.size < W2.heap.size:=zz4
  have hz4 : W.heap.size < W2.heap.size:=zz4
  clear HW hBW
  obtain ⟨g,hg⟩ : ∃ g,W.heap.size = g:=⟨_,rfl⟩
  simp only [hg] at *
  clear hg hWs
  go_wp2_with (fail)
  refine (HSA.out _ HB0.out).mono ?_
  rintro e1 w1 ⟨rfl,hb1⟩
  have HB1:=zd (HB0.out.trans (hb1.mono HB0.out.size))
  replace c0:=(hb1.cell (p:=⟨w.heap.size,0,none⟩) hz3).trans c0
  replace c1:=(hb1.cell (p:=⟨w.heap.size,1,none⟩) hz3).trans c1
  replace c2:=(hb1.cell (p:=⟨w.heap.size,2,none⟩) hz3).trans c2
  replace c3:=(hb1.cell (p:=⟨w.heap.size,3,none⟩) hz3).trans c3
  replace c4:=(hb1.cell (p:=⟨w.heap.size,4,none⟩) hz3).trans c4
  replace c5:=(hb1.cell (p:=⟨w.heap.size,5,none⟩) hz3).trans c5
  replace c6:=(hb1.cell (p:=⟨w.heap.size,6,none⟩) hz3).trans c6
  replace c7:=(hb1.cell (p:=⟨w.heap.size,7,none⟩) hz3).trans c7
  replace c8:=(hb1.cell (p:=⟨w.heap.size,8,none⟩) hz3).trans c8
  replace c9:=(hb1.cell (p:=⟨w.heap.size,9,none⟩) hz3).trans c9
  replace c10:=(hb1.cell (p:=⟨w.heap.size,10,none⟩) hz3).trans c10
  replace c11:=(hb1.cell (p:=⟨w.heap.size,11,none⟩) hz3).trans c11
  replace c12:=(hb1.cell (p:=⟨w.heap.size,12,none⟩) hz3).trans c12
  replace c13:=(hb1.cell (p:=⟨w.heap.size,13,none⟩) hz3).trans c13
  replace c14:=(hb1.cell (p:=⟨w.heap.size,14,none⟩) hz3).trans c14
  replace c15:=(hb1.cell (p:=⟨w.heap.size,15,none⟩) hz3).trans c15
  replace a0:=(hb1.cell (p:=⟨g,0,none⟩) hz4).trans a0
  replace b0:=(hb1.cell (p:=⟨g + 1,0,none⟩) hz2).trans b0
  replace a1:=(hb1.cell (p:=⟨g,1,none⟩) hz4).trans a1
  replace b1:=(hb1.cell (p:=⟨g + 1,1,none⟩) hz2).trans b1
  replace a2:=(hb1.cell (p:=⟨g,2,none⟩) hz4).trans a2
  replace b2:=(hb1.cell (p:=⟨g + 1,2,none⟩) hz2).trans b2
  replace a3:=(hb1.cell (p:=⟨g,3,none⟩) hz4).trans a3
  replace b3:=(hb1.cell (p:=⟨g + 1,3,none⟩) hz2).trans b3
  replace hz2:=Nat.lt_of_lt_of_le hz2 hb1.size
  replace hz3:=Nat.lt_of_lt_of_le hz3 hb1.size
  replace hz4:=Nat.lt_of_lt_of_le hz4 hb1.size
  clear hb1 HSA HB0
  cases za
  ·go_wp2
   go_ret
   exact ⟨ya1 (by rw [HOK.out]; rfl),HB1.out⟩
  go_wp2_with (fail)
  refine (HSB.out _ HB1.out).mono ?_
  rintro e2 w2 ⟨rfl,hb2⟩
  have HB2:=zd (HB1.out.trans (hb2.mono HB1.out.size))
  replace a0:=(hb2.cell (p:=⟨g,0,none⟩) hz4).trans a0
  replace b0:=(hb2.cell (p:=⟨g + 1,0,none⟩) hz2).trans b0
  replace a1:=(hb2.cell (p:=⟨g,1,none⟩) hz4).trans a1
  replace b1:=(hb2.cell (p:=⟨g + 1,1,none⟩) hz2).trans b1
  replace a2:=(hb2.cell (p:=⟨g,2,none⟩) hz4).trans a2
  replace b2:=(hb2.cell (p:=⟨g + 1,2,none⟩) hz2).trans b2
  replace a3:=(hb2.cell (p:=⟨g,3,none⟩) hz4).trans a3
  replace b3:=(hb2.cell (p:=⟨g + 1,3,none⟩) hz2).trans b3
  clear hb2 HSB HB1 hz2 hz3 hz4 c0 c1 c2 c3 c4 c5 c6 c7 c8 c9 c10 c11 c12 c13 c14 c15
  cases zb
  ·go_wp2
   go_ret
   exact ⟨ya1 (by rw [HOK.out]; simp [sameHd]),HB2.out⟩
  by_cases q0 : ah = bh
  rotate_left
  ·have HQ:=zd q0
   have hq : (ah == bh) = false:=beq_eq_false_iff_ne.2 q0
   clear q0
   go_wp2
   go_ret
   exact ⟨ya1 zz50,HB2.out⟩
  subst q0
  by_cases q1 : ae = be
  rotate_left
  ·have HQ:=zd q1
   have hq : (ae == be) = false:=beq_eq_false_iff_ne.2 q1
   clear q1
   go_wp2
   go_ret
   exact ⟨ya1 zz50,HB2.out⟩
  subst q1
  by_cases q2 : ar = br
  rotate_left
  ·have HQ:=zd q2
   have hq : (ar.toList == br.toList) = false:=str_ne q2
   have hq2 : ¬ ar.toList = br.toList:=fun e => HQ.out (toList_inj e)
   clear q2
   go_wp2
   go_ret
   exact ⟨ya1 zz50,HB2.out⟩
  subst q2
  by_cases q3 : ap = bp
  rotate_left
  ·have HQ:=zd q3
   have hq : (ap.toList == bp.toList) = false:=str_ne q3
   have hq2 : ¬ ap.toList = bp.toList:=fun e => HQ.out (toList_inj e)
   clear q3
   go_wp2
   go_ret
   exact ⟨ya1 zz50,HB2.out⟩
  subst q3
  go_wp2
  go_ret
  exact ⟨ya1 (by rw [HOK.out]; simp [sameHd]),HB2.out⟩
 ·generalize hW2 : World.drew (World.alloc (World.alloc W _) _) = W2
  have hBW : Below W.heap.size W W2:=by rw [← hW2]; exact (((Below.refl _ _).alloc (Nat.le_refl _) _).alloc zz17 _).drew
  have b0 : W2.cell? ⟨W.heap.size,0,none⟩ = some (.int .i64 bh):=by rw [← hW2]; exact cell_alloc (ya2 W #[.int .i64 bh, .int .i64 be, .string br, .string bp] 72 0 _ rfl)
  have b1 : W2.cell? ⟨W.heap.size,1,none⟩ = some (.int .i64 be):=by rw [← hW2]; exact cell_alloc (ya2 W #[.int .i64 bh, .int .i64 be, .string br, .string bp] 72 1 _ rfl)
  have b2 : W2.cell? ⟨W.heap.size,2,none⟩ = some (.string br):=by rw [← hW2]; exact cell_alloc (ya2 W #[.int .i64 bh, .int .i64 be, .string br, .string bp] 72 2 _ rfl)
  have b3 : W2.cell? ⟨W.heap.size,3,none⟩ = some (.string bp):=by rw [← hW2]; exact cell_alloc (ya2 W #[.int .i64 bh, .int .i64 be, .string br, .string bp] 72 3 _ rfl)
  have a0 : W2.cell? ⟨W.heap.size + 1,0,none⟩ = some (.int .i64 ah):=by rw [← hW2,show W.heap.size + 1 = (W.alloc (.cells #[.int .i64 bh, .int .i64 be, .string br, .string bp] 72)).heap.size from by simp]; exact ya2 (W.alloc (.cells #[.int .i64 bh, .int .i64 be, .string br, .string bp] 72)) #[.int .i64 ah, .int .i64 ae, .string ar, .string ap] 72 0 _ rfl
  have a1 : W2.cell? ⟨W.heap.size + 1,1,none⟩ = some (.int .i64 ae):=by rw [← hW2,show W.heap.size + 1 = (W.alloc (.cells #[.int .i64 bh, .int .i64 be, .string br, .string bp] 72)).heap.size from by simp]; exact ya2 (W.alloc (.cells #[.int .i64 bh, .int .i64 be, .string br, .string bp] 72)) #[.int .i64 ah, .int .i64 ae, .string ar, .string ap] 72 1 _ rfl
  have a2 : W2.cell? ⟨W.heap.size + 1,2,none⟩ = some (.string ar):=by rw [← hW2,show W.heap.size + 1 = (W.alloc (.cells #[.int .i64 bh, .int .i64 be, .string br, .string bp] 72)).heap.size from by simp]; exact ya2 (W.alloc (.cells #[.int .i64 bh, .int .i64 be, .string br, .string bp] 72)) #[.int .i64 ah, .int .i64 ae, .string ar, .string ap] 72 2 _ rfl
  have a3 : W2.cell? ⟨W.heap.size + 1,3,none⟩ = some (.string ap):=by rw [← hW2,show W.heap.size + 1 = (W.alloc (.cells #[.int .i64 bh, .int .i64 be, .string br, .string bp] 72)).heap.size from by simp]; exact ya2 (W.alloc (.cells #[.int .i64 bh, .int .i64 be, .string br, .string bp] 72)) #[.int .i64 ah, .int .i64 ae, .string ar, .string ap] 72 3 _ rfl
  have hz2 : W.heap.size + 1 < W2.heap.size:=by rw [← hW2]; simp
  clear hW2
  have HB0:=zd (HW.out.trans (hBW.mono HW.out.size))
  replace c0:=(hBW.cell (p:=⟨w.heap.size,0,none⟩) hWs).trans c0
  replace c1:=(hBW.cell (p:=⟨w.heap.size,1,none⟩) hWs).trans c1
  replace c2:=(hBW.cell (p:=⟨w.heap.size,2,none⟩) hWs).trans c2
  replace c3:=(hBW.cell (p:=⟨w.heap.size,3,none⟩) hWs).trans c3
  replace c4:=(hBW.cell (p:=⟨w.heap.size,4,none⟩) hWs).trans c4
  replace c5:=(hBW.cell (p:=⟨w.heap.size,5,none⟩) hWs).trans c5
  replace c6:=(hBW.cell (p:=⟨w.heap.size,6,none⟩) hWs).trans c6
  replace c7:=(hBW.cell (p:=⟨w.heap.size,7,none⟩) hWs).trans c7
  replace c8:=(hBW.cell (p:=⟨w.heap.size,8,none⟩) hWs).trans c8
  replace c9:=(hBW.cell (p:=⟨w.heap.size,9,none⟩) hWs).trans c9
  replace c10:=(hBW.cell (p:=⟨w.heap.size,10,none⟩) hWs).trans c10
  replace c11:=(hBW.cell (p:=⟨w.heap.size,11,none⟩) hWs).trans c11
  replace c12:=(hBW.cell (p:=⟨w.heap.size,12,none⟩) hWs).trans c12
  replace c13:=(hBW.cell (p:=⟨w.heap.size,13,none⟩) hWs).trans c13
  replace c14:=(hBW.cell (p:=⟨w.heap.size,14,none⟩) hWs).trans c14
  replace c15:=(hBW.cell (p:=⟨w.heap.size,15,none⟩) hWs).trans c15
  have hz3 : w.heap.size < W2.heap.size:=zz4
  have hz4 : W.heap.size < W2.heap.size:=zz4
  clear HW hBW
  obtain ⟨g,hg⟩ : ∃ g,W.heap.size = g:=⟨_,rfl⟩
  simp only [hg] at *
  clear hg hWs
  go_wp2_with (fail)
  refine (HSA.out _ HB0.out).mono ?_
  rintro e1 w1 ⟨rfl,hb1⟩
  have HB1:=zd (HB0.out.trans (hb1.mono HB0.out.size))
  replace c0:=(hb1.cell (p:=⟨w.heap.size,0,none⟩) hz3).trans c0
  replace c1:=(hb1.cell (p:=⟨w.heap.size,1,none⟩) hz3).trans c1
  replace c2:=(hb1.cell (p:=⟨w.heap.size,2,none⟩) hz3).trans c2
  replace c3:=(hb1.cell (p:=⟨w.heap.size,3,none⟩) hz3).trans c3
  replace c4:=(hb1.cell (p:=⟨w.heap.size,4,none⟩) hz3).trans c4
  replace c5:=(hb1.cell (p:=⟨w.heap.size,5,none⟩) hz3).trans c5
  replace c6:=(hb1.cell (p:=⟨w.heap.size,6,none⟩) hz3).trans c6
  replace c7:=(hb1.cell (p:=⟨w.heap.size,7,none⟩) hz3).trans c7
  replace c8:=(hb1.cell (p:=⟨w.heap.size,8,none⟩) hz3).trans c8
  replace c9:=(hb1.cell (p:=⟨w.heap.size,9,none⟩) hz3).trans c9
  replace c10:=(hb1.cell (p:=⟨w.heap.size,10,none⟩) hz3).trans c10
  replace c11:=(hb1.cell (p:=⟨w.heap.size,11,none⟩) hz3).trans c11
  replace c12:=(hb1.cell (p:=⟨w.heap.size,12,none⟩) hz3).trans c12
  replace c13:=(hb1.cell (p:=⟨w.heap.size,13,none⟩) hz3).trans c13
  replace c14:=(hb1.cell (p:=⟨w.heap.size,14,none⟩) hz3).trans c14
  replace c15:=(hb1.cell (p:=⟨w.heap.size,15,none⟩) hz3).trans c15
  replace a0:=(hb1.cell (p:=⟨g + 1,0,none⟩) hz2).trans a0
  replace b0:=(hb1.cell (p:=⟨g,0,none⟩) hz4).trans b0
  replace a1:=(hb1.cell (p:=⟨g + 1,1,none⟩) hz2).trans a1
  replace b1:=(hb1.cell (p:=⟨g,1,none⟩) hz4).trans b1
  replace a2:=(hb1.cell (p:=⟨g + 1,2,none⟩) hz2).trans a2
  replace b2:=(hb1.cell (p:=⟨g,2,none⟩) hz4).trans b2
  replace a3:=(hb1.cell (p:=⟨g + 1,3,none⟩) hz2).trans a3
  replace b3:=(hb1.cell (p:=⟨g,3,none⟩) hz4).trans b3
  replace hz2:=Nat.lt_of_lt_of_le hz2 hb1.size
  replace hz3:=Nat.lt_of_lt_of_le hz3 hb1.size
  replace hz4:=Nat.lt_of_lt_of_le hz4 hb1.size
  clear hb1 HSA HB0
  cases za
  ·go_wp2
   go_ret
   exact ⟨ya1 (by rw [HOK.out]; rfl),HB1.out⟩
  go_wp2_with (fail)
  refine (HSB.out _ HB1.out).mono ?_
  rintro e2 w2 ⟨rfl,hb2⟩
  have HB2:=zd (HB1.out.trans (hb2.mono HB1.out.size))
  replace a0:=(hb2.cell (p:=⟨g + 1,0,none⟩) hz2).trans a0
  replace b0:=(hb2.cell (p:=⟨g,0,none⟩) hz4).trans b0
  replace a1:=(hb2.cell (p:=⟨g + 1,1,none⟩) hz2).trans a1
  replace b1:=(hb2.cell (p:=⟨g,1,none⟩) hz4).trans b1
  replace a2:=(hb2.cell (p:=⟨g + 1,2,none⟩) hz2).trans a2
  replace b2:=(hb2.cell (p:=⟨g,2,none⟩) hz4).trans b2
  replace a3:=(hb2.cell (p:=⟨g + 1,3,none⟩) hz2).trans a3
  replace b3:=(hb2.cell (p:=⟨g,3,none⟩) hz4).trans b3
  clear hb2 HSB HB1 hz2 hz3 hz4 c0 c1 c2 c3 c4 c5 c6 c7 c8 c9 c10 c11 c12 c13 c14 c15
  cases zb
  ·go_wp2
   go_ret
   exact ⟨ya1 (by rw [HOK.out]; simp [sameHd]),HB2.out⟩
  by_cases q0 : ah = bh
  rotate_left
  ·have HQ:=zd q0
   have hq : (ah == bh) = false:=beq_eq_false_iff_ne.2 q0
   clear q0
   go_wp2
   go_ret
   exact ⟨ya1 zz50,HB2.out⟩
  subst q0
  by_cases q1 : ae = be
  rotate_left
  ·have HQ:=zd q1
   have hq : (ae == be) = false:=beq_eq_false_iff_ne.2 q1
   clear q1
   go_wp2
   go_ret
   exact ⟨ya1 zz50,HB2.out⟩
  subst q1
  by_cases q2 : ar = br
  rotate_left
  ·have HQ:=zd q2
   have hq : (ar.toList == br.toList) = false:=str_ne q2
   have hq2 : ¬ ar.toList = br.toList:=fun e => HQ.out (toList_inj e)
   clear q2
   go_wp2
   go_ret
   exact ⟨ya1 zz50,HB2.out⟩
  subst q2
  by_cases q3 : ap = bp
  rotate_left
  ·have HQ:=zd q3
   have hq : (ap.toList == bp.toList) = false:=str_ne q3
   have hq2 : ¬ ap.toList = bp.toList:=fun e => HQ.out (toList_inj e)
   clear q3
   go_wp2
   go_ret
   exact ⟨ya1 zz50,HB2.out⟩
  subst q3
  go_wp2
  go_ret
  exact ⟨ya1 (by rw [HOK.out]; simp [sameHd]),HB2.out⟩
end Go.Proofs.YtlfnmbcnehaikaaGreatDoor
