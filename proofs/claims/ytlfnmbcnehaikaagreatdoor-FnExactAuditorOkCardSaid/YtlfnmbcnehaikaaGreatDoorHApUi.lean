/- A part of the proof. -/
import Derived.Test.YtlfnmbcnehaikaaGreatDoorHApL25xUc
set_option linter.unusedVariables false
set_option linter.unusedSimpArgs false
set_option maxRecDepth 20000
set_option maxHeartbeats 8000000
namespace Go.Proofs.YtlfnmbcnehaikaaGreatDoor
open Go.RowKit Lay Mk
instance headDec : DecidableEq Head:=fun a b => decidable_of_iff (a.house = b.house ∧ a.epoch = b.epoch ∧ a.root = b.root ∧ a.prev = b.prev) (by cases a; cases b; simp)
instance sigDec : DecidableEq Sig:=fun a b => decidable_of_iff (a.at_ = b.at_ ∧ a.open_ = b.open_ ∧ a.shut = b.shut ∧ a.sides = b.sides) (by cases a; cases b; simp)
instance sealDec : DecidableEq Seal:=fun a b => decidable_of_iff (a.head = b.head ∧ a.sig = b.sig) (by cases a; cases b; simp)
instance pairDec : DecidableEq Pair:=fun a b => decidable_of_iff (a.a = b.a ∧ a.b = b.b) (by cases a; cases b; simp)
theorem sameL_len {α : Type} [DecidableEq α] {xs ys : List α} (h : xs.length ≠ ys.length) : decide (xs = ys) = false:=by
 rw [decide_eq_false_iff_not]; rintro rfl; exact h rfl
theorem sameL_bad {α : Type} [DecidableEq α] {xs ys : List α} {k : Nat} (h : k < xs.length) (h2 : k < ys.length) (hp : xs[k] ≠ ys[k]) : decide (xs = ys) = false:=by
 rw [decide_eq_false_iff_not]; rintro rfl; exact hp rfl
theorem sameL_end {α : Type} [DecidableEq α] {xs ys : List α} (hl : xs.length = ys.length) (h : ∀ j (h : j < xs.length) (h2 : j < ys.length),xs[j] = ys[j]) : decide (xs = ys) = true:=by
 rw [decide_eq_true_iff]; exact List.ext_getElem hl h
theorem impl_sameTexts (w : World) (xs : List ByteArray) (A : Option Addr) (cap : Nat) (S : Blks) (hx : Row false w A cap xs S) (ys : List ByteArray) (A2 : Option Addr) (cap2 : Nat) (S2 : Blks) (hy : Row false w A2 cap2 ys S2) (hl : xs.length ≤ 4000000000) : Calls Tryz.prog 58 #[.slice A xs.length cap, .slice A2 ys.length cap2] w fun e w' => e = .returned (.bool (decide (xs = ys))) ∧ Below w.heap.size w w':=by
 by_cases hlen : xs.length = ys.length
 rotate_left
 ·have HF:=zd (sameL_len hlen)
  have hn : ((xs.length : Int) != (ys.length : Int)) = true:=by rw [bne_iff_ne]; omega
  clear hlen
  go_enter Tryz.func58,Tryz.ntmps58
  go_wp2
  go_ret
  exact ⟨ya1 zz24,Below.refl _ _⟩
 have HE:=zd (sameL_end (xs:=xs) (ys:=ys) hlen)
 have HBd:=zd (fun k h h2 => sameL_bad (xs:=xs) (ys:=ys) (k:=k) h h2)
 obtain ⟨L,hL⟩ : ∃ L,ys.length = L:=⟨_,rfl⟩
 rw [hL]
 have HL:=zd (hlen.trans hL); have HL2:=zd hL
 have hxl : xs.length = L:=hlen.trans hL
 rw [hxl] at hl ⊢
 clear hlen hL hxl
 go_enter Tryz.func58,Tryz.ntmps58
 go_wp2
 go_loopw [13] (fun i wr => ∃ k : Nat,k ≤ L ∧ i = .int .i64 k ∧ Hid (∀ j (h : j < xs.length) (h2 : j < ys.length),j < k → xs[j] = ys[j]) ∧ Below w.heap.size w wr) (fun i _ => L - (intOf i).toNat)
 case atStart => exact ⟨0,Nat.zero_le _,rfl,zd (fun j _ _ h => absurd h zz4),Below.refl _ _⟩
 case round =>
  obtain ⟨k,hk,rfl,HS,hB⟩:=hrel
  have hz:=hB.size
  by_cases hlt : k < L
  ·have hkx : k < xs.length:=by rw [HL.out]; exact hlt
   have hky : k < ys.length:=by rw [HL2.out]; exact hlt
   obtain ⟨b1,o1,rfl,hl1,f0, -⟩:=Row.str hx hkx
   obtain ⟨b2,o2,rfl,hl2,g0, -⟩:=Row.str hy hky
   replace f0:=(hB.cell (p:=⟨b1,o1 + k,none⟩) hl1).trans f0
   replace g0:=(hB.cell (p:=⟨b2,o2 + k,none⟩) hl2).trans g0
   have HB:=zd (HBd.out k hkx hky)
   have HN : Hid (xs[k] = ys[k] → ∀ j (h : j < xs.length) (h2 : j < ys.length),j < k + 1 → xs[j] = ys[j]):=zd (fun h0 j h h2 hj => zz45)
   obtain ⟨x,hxx⟩ : ∃ x,xs[k] = x:=⟨_,rfl⟩
   obtain ⟨y,hyy⟩ : ∃ y,ys[k] = y:=⟨_,rfl⟩
   rw [hxx] at f0 HB HN
   rw [hyy] at g0 HB HN
   clear hxx hyy hkx hky
   by_cases h1 : x = y
   ·subst h1
    have HF:=zd (HN.out rfl)
    go_wp2
    go_quiet (fail)
    go_wp2
    go_roundw
    case rel => exact ⟨k + 1,zz4,by go_num,HF,Below.drewN hB _⟩
    case measure => simp [intOf]; omega
   ·have HF:=zd (HB.out h1)
    have hte : (x.toList == y.toList) = false:=by rw [str_dec]; exact decide_eq_false h1
    go_wp2
    go_quiet (fail)
    go_wp2
    go_ret
    exact ⟨ya1 zz24,Below.drewN hB _⟩
  ·have hke : k = L:=by omega
   subst hke
   have HF:=zd (HE.out (fun j h h2 => HS.out j h h2 (by rw [← HL.out]; exact h)))
   go_wp2
   go_ret
   exact ⟨ya1 zz24,hB⟩
theorem spec_sameTexts (w : World) (xs : List ByteArray) (A : Option Addr) (cap : Nat) (S : Blks) (hx : Row false w A cap xs S) (ys : List ByteArray) (A2 : Option Addr) (cap2 : Nat) (S2 : Blks) (hy : Row false w A2 cap2 ys S2) (hl : xs.length ≤ 4000000000) : Calls Tryz.prog 49 #[.slice A xs.length cap, .slice A2 ys.length cap2] w fun e w' => e = .returned (.bool (decide (xs = ys))) ∧ Below w.heap.size w w':=by
 by_cases hlen : xs.length = ys.length
 rotate_left
 ·have HF:=zd (sameL_len hlen)
  have hn : ((xs.length : Int) != (ys.length : Int)) = true:=by rw [bne_iff_ne]; omega
  clear hlen
  go_enter Tryz.func49,Tryz.ntmps49
  go_wp2
  go_ret
  exact ⟨ya1 zz24,Below.refl _ _⟩
 have HE:=zd (sameL_end (xs:=xs) (ys:=ys) hlen)
 have HBd:=zd (fun k h h2 => sameL_bad (xs:=xs) (ys:=ys) (k:=k) h h2)
 obtain ⟨L,hL⟩ : ∃ L,ys.length = L:=⟨_,rfl⟩
 rw [hL]
 have HL:=zd (hlen.trans hL); have HL2:=zd hL
 have hxl : xs.length = L:=hlen.trans hL
 rw [hxl] at hl ⊢
 clear hlen hL hxl
 go_enter Tryz.func49,Tryz.ntmps49
 go_wp2
 go_loopw [5] (fun i wr => ∃ k : Nat,k ≤ L ∧ i = .int .i64 k ∧ Hid (∀ j (h : j < xs.length) (h2 : j < ys.length),j < k → xs[j] = ys[j]) ∧ Below w.heap.size w wr) (fun i _ => L - (intOf i).toNat)
 case atStart => exact ⟨0,Nat.zero_le _,rfl,zd (fun j _ _ h => absurd h zz4),Below.refl _ _⟩
 case round =>
  obtain ⟨k,hk,rfl,HS,hB⟩:=hrel
  have hz:=hB.size
  by_cases hlt : k < L
  ·have hkx : k < xs.length:=by rw [HL.out]; exact hlt
   have hky : k < ys.length:=by rw [HL2.out]; exact hlt
   obtain ⟨b1,o1,rfl,hl1,f0, -⟩:=Row.str hx hkx
   obtain ⟨b2,o2,rfl,hl2,g0, -⟩:=Row.str hy hky
   replace f0:=(hB.cell (p:=⟨b1,o1 + k,none⟩) hl1).trans f0
   replace g0:=(hB.cell (p:=⟨b2,o2 + k,none⟩) hl2).trans g0
   have HB:=zd (HBd.out k hkx hky)
   have HN : Hid (xs[k] = ys[k] → ∀ j (h : j < xs.length) (h2 : j < ys.length),j < k + 1 → xs[j] = ys[j]):=zd (fun h0 j h h2 hj => zz45)
   obtain ⟨x,hxx⟩ : ∃ x,xs[k] = x:=⟨_,rfl⟩
   obtain ⟨y,hyy⟩ : ∃ y,ys[k] = y:=⟨_,rfl⟩
   rw [hxx] at f0 HB HN
   rw [hyy] at g0 HB HN
   clear hxx hyy hkx hky
   by_cases h1 : x = y
   ·subst h1
    have HF:=zd (HN.out rfl)
    go_wp2
    go_quiet (fail)
    go_wp2
    go_roundw
    case rel => exact ⟨k + 1,zz4,by go_num,HF,Below.drewN hB _⟩
    case measure => simp [intOf]; omega
   ·have HF:=zd (HB.out h1)
    have hte : (x.toList == y.toList) = false:=by rw [str_dec]; exact decide_eq_false h1
    go_wp2
    go_quiet (fail)
    go_wp2
    go_ret
    exact ⟨ya1 zz24,Below.drewN hB _⟩
  ·have hke : k = L:=by omega
   subst hke
   have HF:=zd (HE.out (fun j h h2 => HS.out j h h2 (by rw [← HL.out]; exact h)))
   go_wp2
   go_ret
   exact ⟨ya1 zz24,hB⟩
theorem texts_yes {w : World} {xs ys : List ByteArray} {A A2 : Option Addr} {cap cap2 : Nat} {S S2 : Blks} (hx : Row false w A cap xs S) (hy : Row false w A2 cap2 ys S2) (hl : xs.length ≤ 4000000000) (h : xs = ys) : Calls Tryz.prog 58 #[.slice A xs.length cap, .slice A2 ys.length cap2] w fun e w' => e = .returned (.bool true) ∧ Below w.heap.size w w':=by
 have:=impl_sameTexts w xs A cap S hx ys A2 cap2 S2 hy hl
 rwa [decide_eq_true h] at this
theorem texts_no {w : World} {xs ys : List ByteArray} {A A2 : Option Addr} {cap cap2 : Nat} {S S2 : Blks} (hx : Row false w A cap xs S) (hy : Row false w A2 cap2 ys S2) (hl : xs.length ≤ 4000000000) (h : ¬ xs = ys) : Calls Tryz.prog 58 #[.slice A xs.length cap, .slice A2 ys.length cap2] w fun e w' => e = .returned (.bool false) ∧ Below w.heap.size w w':=by
 have:=impl_sameTexts w xs A cap S hx ys A2 cap2 S2 hy hl
 rwa [decide_eq_false h] at this
theorem impl_sameSig (w : World) (s t : Sig) (cs ct : List Value) (S T : Blks) (hs : rd false w cs s S) (ht : rd false w ct t T) (l0 : s.open_.length ≤ 1048576) (l1 : s.shut.length ≤ 1048576) (l2 : s.sides.length ≤ 1048576) : Calls Tryz.prog 146 #[.agg cs.toArray, .agg ct.toArray] w fun e w' => e = .returned (.bool (decide (s = t))) ∧ Below w.heap.size w w':=by
 obtain ⟨A0,u0,S0,A1,u1,S1,A2,u2,S2,rfl, -, -, -,r0, -, -, -,r1, -, -, -,r2, -⟩:=Sig.open hs
 obtain ⟨B0,v0,T0,B1,v1,T1,B2,v2,T2,rfl, -, -, -,q0, -, -, -,q1, -, -, -,q2, -⟩:=Sig.open ht
 clear hs ht
 simp only [Sig.cs]
 have HY : Hid (s.at_ = t.at_ → s.open_ = t.open_ → s.shut = t.shut → s.sides = t.sides → decide (s = t) = true):=zd (fun a b c d => by cases s; cases t; simp_all)
 have HNo : Hid ((¬ s.at_ = t.at_ ∨ ¬ s.open_ = t.open_ ∨ ¬ s.shut = t.shut ∨ ¬ s.sides = t.sides) → decide (s = t) = false):=zd (fun h => by rw [decide_eq_false_iff_not]; rintro rfl; simp at h)
 go_enter Tryz.func146,Tryz.ntmps146
 go_upto_region 1 with (fail)
 obtain ⟨W,hW⟩ : ∃ W,(w.alloc (.cells #[.int .i64 s.at_, .slice A0 s.open_.length u0, .slice A1 s.shut.length u1, .slice A2 s.sides.length u2] 74)).alloc (.cells #[.int .i64 t.at_, .slice B0 t.open_.length v0, .slice B1 t.shut.length v1, .slice B2 t.sides.length v2] 74) = W:=⟨_,rfl⟩
 have hWf : Below w.heap.size w W ∧ W.heap.size = w.heap.size + 1 + 1 ∧ Bx W w.heap.size #[.int .i64 s.at_, .slice A0 s.open_.length u0, .slice A1 s.shut.length u1, .slice A2 s.sides.length u2] 74 ∧ Bx W (w.heap.size + 1) #[.int .i64 t.at_, .slice B0 t.open_.length v0, .slice B1 t.shut.length v1, .slice B2 t.sides.length v2] 74:=by
  rw [← hW]
  have e1 : w.heap.size + 1 = (w.alloc (.cells #[.int .i64 s.at_, .slice A0 s.open_.length u0, .slice A1 s.shut.length u1, .slice A2 s.sides.length u2] 74)).heap.size:=zz17
  exact ⟨((Below.refl _ _).alloc (Nat.le_refl _) _).alloc zz17 _,zz17,(Bx.new _ _ _).keep (Below.heap_alloc _ _ _ zz17),by rw [e1]; exact Bx.new _ _ _⟩
 rw [hW]
 clear hW
 obtain ⟨bW,sW,bX,xW⟩:=hWf
 have HBW:=zd bW; have BX:=zd bX; have XW:=zd xW
 have hw1 : w.heap.size < W.heap.size:=zz4
 have hw2 : w.heap.size + 1 < W.heap.size:=zz4
 have R0:=zd (Row.later r0 bW); have R1:=zd (Row.later r1 bW); have R2:=zd (Row.later r2 bW)
 have Q0:=zd (Row.later q0 bW); have Q1:=zd (Row.later q1 bW); have Q2:=zd (Row.later q2 bW)
 have e0:=bX.at_ (i:=0) rfl
 have d0:=xW.at_ (i:=0) rfl
 have e1:=bX.at_ (i:=1) rfl
 have d1:=xW.at_ (i:=1) rfl
 have e2:=bX.at_ (i:=2) rfl
 have d2:=xW.at_ (i:=2) rfl
 have e3:=bX.at_ (i:=3) rfl
 have d3:=xW.at_ (i:=3) rfl
 clear bW sW bX xW r0 r1 r2 q0 q1 q2
 by_cases ha : s.at_ = t.at_
 rotate_left
 ·have HF:=zd (HNo.out (.inl ha))
  have hb : (s.at_ == t.at_) = false:=beq_eq_false_iff_ne.2 ha
  clear HY HNo
  go_wp2_with (fail)
  go_ret
  exact ⟨ya1 zz24,HBW.out⟩
 have hb : (s.at_ == t.at_) = true:=beq_iff_eq.2 ha
 have HA:=zd ha
 clear ha
 by_cases h0 : s.open_ = t.open_
 rotate_left
 ·have HF:=zd (HNo.out (.inr (.inl h0)))
  have HQ0:=zd h0
  clear HY HNo h0
  have HB0:=zd (Below.refl W.heap.size W)
  go_wp2_with (go_at_call 58; refine (texts_no R0.out Q0.out zz4 HQ0.out).mono ?_; rintro e0_ w1 ⟨rfl,hb0⟩)
  go_ret
  exact ⟨ya1 zz24,HBW.out.trans ((HB0.out.trans (hb0.mono HB0.out.size)).mono HBW.out.size)⟩
 have HQ0:=zd h0
 clear h0
 have HB0:=zd (Below.refl W.heap.size W)
 go_wp2_with (fail)
 refine (texts_yes R0.out Q0.out zz4 HQ0.out).mono ?_
 rintro e_ w1 ⟨rfl,hb⟩
 have HB1:=zd (HB0.out.trans (hb.mono HB0.out.size))
 clear e0 d0 e1 d1 e2 d2 e3 d3 hb
 have e0:=(BX.out.keep (HB1.out.block _ hw1)).at_ (i:=0) rfl
 have d0:=(XW.out.keep (HB1.out.block _ hw2)).at_ (i:=0) rfl
 have e1:=(BX.out.keep (HB1.out.block _ hw1)).at_ (i:=1) rfl
 have d1:=(XW.out.keep (HB1.out.block _ hw2)).at_ (i:=1) rfl
 have e2:=(BX.out.keep (HB1.out.block _ hw1)).at_ (i:=2) rfl
 have d2:=(XW.out.keep (HB1.out.block _ hw2)).at_ (i:=2) rfl
 have e3:=(BX.out.keep (HB1.out.block _ hw1)).at_ (i:=3) rfl
 have d3:=(XW.out.keep (HB1.out.block _ hw2)).at_ (i:=3) rfl
 go_wp2_with (fail)
 by_cases h1 : s.shut = t.shut
 rotate_left
 ·have HF:=zd (HNo.out (.inr (.inr (.inl h1))))
  have HQ1:=zd h1
  clear HY HNo h1
  go_wp2_with (go_at_call 58; refine (texts_no (Row.later R1.out HB1.out) (Row.later Q1.out HB1.out) zz4 HQ1.out).mono ?_; rintro e1_ w2 ⟨rfl,hb1⟩)
  go_ret
  exact ⟨ya1 zz24,HBW.out.trans ((HB1.out.trans (hb1.mono HB1.out.size)).mono HBW.out.size)⟩
 have HQ1:=zd h1
 clear h1
 refine (texts_yes (Row.later R1.out HB1.out) (Row.later Q1.out HB1.out) zz4 HQ1.out).mono ?_
 rintro e_ w2 ⟨rfl,hb⟩
 have HB2:=zd (HB1.out.trans (hb.mono HB1.out.size))
 clear e0 d0 e1 d1 e2 d2 e3 d3 hb
 have e0:=(BX.out.keep (HB2.out.block _ hw1)).at_ (i:=0) rfl
 have d0:=(XW.out.keep (HB2.out.block _ hw2)).at_ (i:=0) rfl
 have e1:=(BX.out.keep (HB2.out.block _ hw1)).at_ (i:=1) rfl
 have d1:=(XW.out.keep (HB2.out.block _ hw2)).at_ (i:=1) rfl
 have e2:=(BX.out.keep (HB2.out.block _ hw1)).at_ (i:=2) rfl
 have d2:=(XW.out.keep (HB2.out.block _ hw2)).at_ (i:=2) rfl
 have e3:=(BX.out.keep (HB2.out.block _ hw1)).at_ (i:=3) rfl
 have d3:=(XW.out.keep (HB2.out.block _ hw2)).at_ (i:=3) rfl
 go_wp2_with (fail)
 by_cases h2 : s.sides = t.sides
 rotate_left
 ·have HF:=zd (HNo.out (.inr (.inr (.inr h2))))
  have HQ2:=zd h2
  clear HY HNo h2
  go_wp2_with (go_at_call 58; refine (texts_no (Row.later R2.out HB2.out) (Row.later Q2.out HB2.out) zz4 HQ2.out).mono ?_; rintro e2_ w3 ⟨rfl,hb2⟩)
  go_ret
  exact ⟨ya1 zz24,HBW.out.trans ((HB2.out.trans (hb2.mono HB2.out.size)).mono HBW.out.size)⟩
 have HQ2:=zd h2
 clear h2
 refine (texts_yes (Row.later R2.out HB2.out) (Row.later Q2.out HB2.out) zz4 HQ2.out).mono ?_
 rintro e_ w3 ⟨rfl,hb⟩
 have HB3:=zd (HB2.out.trans (hb.mono HB2.out.size))
 clear e0 d0 e1 d1 e2 d2 e3 d3 hb
 have e0:=(BX.out.keep (HB3.out.block _ hw1)).at_ (i:=0) rfl
 have d0:=(XW.out.keep (HB3.out.block _ hw2)).at_ (i:=0) rfl
 have e1:=(BX.out.keep (HB3.out.block _ hw1)).at_ (i:=1) rfl
 have d1:=(XW.out.keep (HB3.out.block _ hw2)).at_ (i:=1) rfl
 have e2:=(BX.out.keep (HB3.out.block _ hw1)).at_ (i:=2) rfl
 have d2:=(XW.out.keep (HB3.out.block _ hw2)).at_ (i:=2) rfl
 have e3:=(BX.out.keep (HB3.out.block _ hw1)).at_ (i:=3) rfl
 have d3:=(XW.out.keep (HB3.out.block _ hw2)).at_ (i:=3) rfl
 have HF:=zd (HY.out HA.out HQ0.out HQ1.out HQ2.out)
 go_wp2_with (fail)
 go_ret
 exact ⟨ya1 zz24,HBW.out.trans (HB3.out.mono HBW.out.size)⟩
theorem impl_sameSeal (w : World) (s t : Seal) (cs ct : List Value) (S T : Blks) (hs : rd false w cs s S) (ht : rd false w ct t T) (l0 : s.sig.open_.length ≤ 1048576) (l1 : s.sig.shut.length ≤ 1048576) (l2 : s.sig.sides.length ≤ 1048576) : Calls Tryz.prog 98 #[.agg cs.toArray, .agg ct.toArray] w fun e w' => e = .returned (.bool (decide (s = t))) ∧ Below w.heap.size w w':=by
 obtain ⟨A0,u0,S0,A1,u1,S1,A2,u2,S2,rfl, -, -, -, -,i0,j0,m0,r0, -,j1,m1,r1, -,j2,m2,r2, -⟩:=Seal.open hs
 obtain ⟨B0,v0,T0,B1,v1,T1,B2,v2,T2,rfl, -, -, -, -,i1,p0,n0,q0, -,p1,n1,q1, -,p2,n2,q2, -⟩:=Seal.open ht
 clear hs ht
 simp only [Seal.cs]
 have HS:=zd (Sig.mk' (m:=false) (x:=s.sig) (S:=All) i0 j0 m0 r0 (fun _ _ => trivial) j1 m1 r1 (fun _ _ => trivial) j2 m2 r2 (fun _ _ => trivial) (fun h => (by cases h)))
 have HT:=zd (Sig.mk' (m:=false) (x:=t.sig) (S:=All) i1 p0 n0 q0 (fun _ _ => trivial) p1 n1 q1 (fun _ _ => trivial) p2 n2 q2 (fun _ _ => trivial) (fun h => (by cases h)))
 clear i0 j0 m0 r0 j1 m1 r1 j2 m2 r2 i1 p0 n0 q0 p1 n1 q1 p2 n2 q2
 have HD : Hid (s.head = t.head → decide (s = t) = decide (s.sig = t.sig)):=zd (fun h => by cases s; cases t; simp_all)
 have HNo : Hid (¬ s.head = t.head → decide (s = t) = false):=zd (fun h => by rw [decide_eq_false_iff_not]; rintro rfl; exact h rfl)
 go_enter Tryz.func98,Tryz.ntmps98
 go_upto_region 1 with (fail)
 obtain ⟨W,hW⟩ : ∃ W,(w.alloc (.cells #[.int .i64 s.head.house, .int .i64 s.head.epoch, .string s.head.root, .string s.head.prev, .int .i64 s.sig.at_, .slice A0 s.sig.open_.length u0, .slice A1 s.sig.shut.length u1, .slice A2 s.sig.sides.length u2] 76)).alloc (.cells #[.int .i64 t.head.house, .int .i64 t.head.epoch, .string t.head.root, .string t.head.prev, .int .i64 t.sig.at_, .slice B0 t.sig.open_.length v0, .slice B1 t.sig.shut.length v1, .slice B2 t.sig.sides.length v2] 76) = W:=⟨_,rfl⟩
 have hWf : Below w.heap.size w W ∧ W.heap.size = w.heap.size + 1 + 1 ∧ Bx W w.heap.size #[.int .i64 s.head.house, .int .i64 s.head.epoch, .string s.head.root, .string s.head.prev, .int .i64 s.sig.at_, .slice A0 s.sig.open_.length u0, .slice A1 s.sig.shut.length u1, .slice A2 s.sig.sides.length u2] 76 ∧ Bx W (w.heap.size + 1) #[.int .i64 t.head.house, .int .i64 t.head.epoch, .string t.head.root, .string t.head.prev, .int .i64 t.sig.at_, .slice B0 t.sig.open_.length v0, .slice B1 t.sig.shut.length v1, .slice B2 t.sig.sides.length v2] 76:=by
  rw [← hW]
  have e1 : w.heap.size + 1 = (w.alloc (.cells #[.int .i64 s.head.house, .int .i64 s.head.epoch, .string s.head.root, .string s.head.prev, .int .i64 s.sig.at_, .slice A0 s.sig.open_.length u0, .slice A1 s.sig.shut.length u1, .slice A2 s.sig.sides.length u2] 76)).heap.size:=zz17
  exact ⟨((Below.refl _ _).alloc (Nat.le_refl _) _).alloc zz17 _,zz17,(Bx.new _ _ _).keep (Below.heap_alloc _ _ _ zz17),by rw [e1]; exact Bx.new _ _ _⟩
 rw [hW]
 clear hW
 obtain ⟨bW,sW,bX,xW⟩:=hWf
 have HBW:=zd bW
 have HSW:=zd (Lay.later HS.out bW); have HTW:=zd (Lay.later HT.out bW)
 have e0:=bX.at_ (i:=0) rfl
 have d0:=xW.at_ (i:=0) rfl
 have e1:=bX.at_ (i:=1) rfl
 have d1:=xW.at_ (i:=1) rfl
 have e2:=bX.at_ (i:=2) rfl
 have d2:=xW.at_ (i:=2) rfl
 have e3:=bX.at_ (i:=3) rfl
 have d3:=xW.at_ (i:=3) rfl
 have e4:=bX.at_ (i:=4) rfl
 have d4:=xW.at_ (i:=4) rfl
 have e5:=bX.at_ (i:=5) rfl
 have d5:=xW.at_ (i:=5) rfl
 have e6:=bX.at_ (i:=6) rfl
 have d6:=xW.at_ (i:=6) rfl
 have e7:=bX.at_ (i:=7) rfl
 have d7:=xW.at_ (i:=7) rfl
 clear bW sW bX xW HS HT
 by_cases k0 : s.head.house = t.head.house
 rotate_left
 ·have HF:=zd (HNo.out (fun h => k0 (by rw [h])))
  have g0 : (s.head.house == t.head.house) = false:=beq_eq_false_iff_ne.2 k0
  clear k0 HD HNo
  go_wp2_with (fail)
  go_ret
  exact ⟨ya1 zz24,HBW.out⟩
 have g0 : (s.head.house == t.head.house) = true:=beq_iff_eq.2 k0
 have K0:=zd k0
 clear k0
 by_cases k1 : s.head.epoch = t.head.epoch
 rotate_left
 ·have HF:=zd (HNo.out (fun h => k1 (by rw [h])))
  have g1 : (s.head.epoch == t.head.epoch) = false:=beq_eq_false_iff_ne.2 k1
  clear k1 HD HNo
  go_wp2_with (fail)
  go_ret
  exact ⟨ya1 zz24,HBW.out⟩
 have g1 : (s.head.epoch == t.head.epoch) = true:=beq_iff_eq.2 k1
 have K1:=zd k1
 clear k1
 by_cases k2 : s.head.root = t.head.root
 rotate_left
 ·have HF:=zd (HNo.out (fun h => k2 (by rw [h])))
  have g2 : (s.head.root.toList == t.head.root.toList) = false:=by rw [str_dec]; exact decide_eq_false k2
  clear k2 HD HNo
  go_wp2_with (fail)
  go_ret
  exact ⟨ya1 zz24,HBW.out⟩
 have g2 : (s.head.root.toList == t.head.root.toList) = true:=by rw [str_dec]; exact decide_eq_true k2
 have K2:=zd k2
 clear k2
 by_cases k3 : s.head.prev = t.head.prev
 rotate_left
 ·have HF:=zd (HNo.out (fun h => k3 (by rw [h])))
  have g3 : (s.head.prev.toList == t.head.prev.toList) = false:=by rw [str_dec]; exact decide_eq_false k3
  clear k3 HD HNo
  go_wp2_with (fail)
  go_ret
  exact ⟨ya1 zz24,HBW.out⟩
 have g3 : (s.head.prev.toList == t.head.prev.toList) = true:=by rw [str_dec]; exact decide_eq_true k3
 have K3:=zd k3
 clear k3
 have HF:=zd (HD.out (by have a:=K0.out; have b:=K1.out; have c:=K2.out; have d:=K3.out; obtain ⟨⟨x0,x1,x2,x3⟩,sx⟩:=s; obtain ⟨⟨y0,y1,y2,y3⟩,sy⟩:=t; simp only at a b c d; subst a b c d; rfl))
 clear HD HNo K0 K1 K2 K3
 have HV:=zd (impl_sameSig W s.sig t.sig _ _ _ _ HSW.out HTW.out l0 l1 l2)
 cases hq : decide (s.sig = t.sig)
 all_goals (rw [hq] at HF HV; clear hq)
 all_goals (go_wp2_with (go_at_call 146; refine HV.out.mono ?_; rintro e_ w2 ⟨rfl,hb2⟩))
 all_goals go_ret
 all_goals exact ⟨ya1 zz24,HBW.out.trans (hb2.mono HBW.out.size)⟩
theorem seals_yes {w : World} {s t : Seal} {cs ct : List Value} {S T : Blks} (hs : rd false w cs s S) (ht : rd false w ct t T) (l : s.sig.open_.length ≤ 1048576 ∧ s.sig.shut.length ≤ 1048576 ∧ s.sig.sides.length ≤ 1048576) (h : s = t) : Calls Tryz.prog 98 #[.agg cs.toArray, .agg ct.toArray] w fun e w' => e = .returned (.bool true) ∧ Below w.heap.size w w':=by
 have:=impl_sameSeal w s t cs ct S T hs ht l.1 l.2.1 l.2.2
 rwa [decide_eq_true h] at this
theorem seals_no {w : World} {s t : Seal} {cs ct : List Value} {S T : Blks} (hs : rd false w cs s S) (ht : rd false w ct t T) (l : s.sig.open_.length ≤ 1048576 ∧ s.sig.shut.length ≤ 1048576 ∧ s.sig.sides.length ≤ 1048576) (h : ¬ s = t) : Calls Tryz.prog 98 #[.agg cs.toArray, .agg ct.toArray] w fun e w' => e = .returned (.bool false) ∧ Below w.heap.size w w':=by
 have:=impl_sameSeal w s t cs ct S T hs ht l.1 l.2.1 l.2.2
 rwa [decide_eq_false h] at this
theorem impl_sameSeals (w : World) (xs : List Seal) (A : Option Addr) (cap : Nat) (S : Blks) (hx : Row false w A cap xs S) (ys : List Seal) (A2 : Option Addr) (cap2 : Nat) (S2 : Blks) (hy : Row false w A2 cap2 ys S2) (hzx : szL xs ≤ 1048576) : Calls Tryz.prog 59 #[.slice A xs.length cap, .slice A2 ys.length cap2] w fun e w' => e = .returned (.bool (decide (xs = ys))) ∧ Below w.heap.size w w':=by
 have HZ:=zd hzx
 have hl : xs.length ≤ 4000000000:=by have:=szT_le xs 0; omega
 clear hzx
 by_cases hlen : xs.length = ys.length
 rotate_left
 ·have HF:=zd (sameL_len hlen)
  have hn : ((xs.length : Int) != (ys.length : Int)) = true:=by rw [bne_iff_ne]; omega
  clear hlen
  go_enter Tryz.func59,Tryz.ntmps59
  go_wp2
  go_ret
  exact ⟨ya1 zz24,Below.refl _ _⟩
 have HE:=zd (sameL_end (xs:=xs) (ys:=ys) hlen)
 have HBd:=zd (fun k h h2 => sameL_bad (xs:=xs) (ys:=ys) (k:=k) h h2)
 obtain ⟨L,hL⟩ : ∃ L,ys.length = L:=⟨_,rfl⟩
 rw [hL]
 have HL:=zd (hlen.trans hL); have HL2:=zd hL
 have hxl : xs.length = L:=hlen.trans hL
 rw [hxl] at hl ⊢
 clear hlen hL hxl
 go_enter Tryz.func59,Tryz.ntmps59
 go_wp2
 go_loopw [13] (fun i wr => ∃ k : Nat,k ≤ L ∧ i = .int .i64 k ∧ Hid (∀ j (h : j < xs.length) (h2 : j < ys.length),j < k → xs[j] = ys[j]) ∧ Below w.heap.size w wr) (fun i _ => L - (intOf i).toNat)
 case atStart => exact ⟨0,Nat.zero_le _,rfl,zd (fun j _ _ h => absurd h zz4),Below.refl _ _⟩
 case round =>
  obtain ⟨k,hk,rfl,HS,hB⟩:=hrel
  have hz:=hB.size
  by_cases hlt : k < L
  ·have hkx : k < xs.length:=by rw [HL.out]; exact hlt
   have hky : k < ys.length:=by rw [HL2.out]; exact hlt
   obtain ⟨b1,o1,c1,T1,rfl,hl1,hf,hr1,_,_⟩:=Row.at_ hx hkx
   obtain ⟨b2,o2,c2,T2,rfl,hl2,hg,hr2,_,_⟩:=Row.at_ hy hky
   have hbd:=zd (seal_len3' (sz_get' hkx HZ.out))
   have HB:=zd (HBd.out k hkx hky)
   have HN : Hid (xs[k] = ys[k] → ∀ j (h : j < xs.length) (h2 : j < ys.length),j < k + 1 → xs[j] = ys[j]):=zd (fun h0 j h h2 hj => zz45)
   obtain ⟨x,hxx⟩ : ∃ x,xs[k] = x:=⟨_,rfl⟩
   obtain ⟨y,hyy⟩ : ∃ y,ys[k] = y:=⟨_,rfl⟩
   rw [hxx] at hr1 HB HN hbd
   rw [hyy] at hr2 HB HN
   clear hxx hyy hkx hky
   have HR1:=zd (Lay.later hr1 hB); have HR2:=zd (Lay.later hr2 hB)
   obtain ⟨A0,u0,_,A1,u1,_,A2,u2,_,rfl, -⟩:=Seal.open hr1
   obtain ⟨B0,v0,_,B1,v1,_,B2,v2,_,rfl, -⟩:=Seal.open hr2
   replace hf:=hf.keep (hB.block b1 hl1)
   replace hg:=hg.keep (hB.block b2 hl2)
   rw [show Lay.n Seal = 8 from rfl] at hf hg
   have f0:=hf 0 _ rfl
   have g0:=hg 0 _ rfl
   have f1:=hf 1 _ rfl
   have g1:=hg 1 _ rfl
   have f2:=hf 2 _ rfl
   have g2:=hg 2 _ rfl
   have f3:=hf 3 _ rfl
   have g3:=hg 3 _ rfl
   have f4:=hf 4 _ rfl
   have g4:=hg 4 _ rfl
   have f5:=hf 5 _ rfl
   have g5:=hg 5 _ rfl
   have f6:=hf 6 _ rfl
   have g6:=hg 6 _ rfl
   have f7:=hf 7 _ rfl
   have g7:=hg 7 _ rfl
   simp only [Nat.add_zero] at f0 g0
   clear hr1 hr2 hf hg
   by_cases h1 : x = y
   ·have HF:=zd (HN.out h1)
    have HC : Hid (∀ W,Below wr.heap.size wr W → Calls Tryz.prog 98 #[.agg #[.int .i64 x.head.house, .int .i64 x.head.epoch, .string x.head.root, .string x.head.prev, .int .i64 x.sig.at_, .slice A0 x.sig.open_.length u0, .slice A1 x.sig.shut.length u1, .slice A2 x.sig.sides.length u2], .agg #[.int .i64 y.head.house, .int .i64 y.head.epoch, .string y.head.root, .string y.head.prev, .int .i64 y.sig.at_, .slice B0 y.sig.open_.length v0, .slice B1 y.sig.shut.length v1, .slice B2 y.sig.sides.length v2]] W fun e w' => e = .returned (.bool true) ∧ Below W.heap.size W w'):=zd (fun W h => seals_yes (Lay.later HR1.out h) (Lay.later HR2.out h) hbd.out h1)
    clear h1 HB HN
    go_wp2_with (fail)
    have Gf0:=Grown.cell f0
    have Gg0:=Grown.cell g0
    have Gf1:=Grown.cell f1
    have Gg1:=Grown.cell g1
    have Gf2:=Grown.cell f2
    have Gg2:=Grown.cell g2
    have Gf3:=Grown.cell f3
    have Gg3:=Grown.cell g3
    have Gf4:=Grown.cell f4
    have Gg4:=Grown.cell g4
    have Gf5:=Grown.cell f5
    have Gg5:=Grown.cell g5
    have Gf6:=Grown.cell f6
    have Gg6:=Grown.cell g6
    have Gf7:=Grown.cell f7
    have Gg7:=Grown.cell g7
    clear f0 g0 f1 g1 f2 g2 f3 g3 f4 g4 f5 g5 f6 g6 f7 g7
    refine ya0 (by kernel_rfl) (by kernel_rfl) ?_
    repeat (go_big_quiet_step (first | (go_at_call 98; with_reducible exact ya4 (HC.out _ (Grown.ok _)))))
    refine wpQuiet_nil ?_
    intro w7 hw_
    have HB7:=zd (hB.trans ((ya5 hw_).mono hz))
    clear hw_ Gf0 Gg0 Gf1 Gg1 Gf2 Gg2 Gf3 Gg3 Gf4 Gg4 Gf5 Gg5 Gf6 Gg6 Gf7 Gg7
    go_wp2_with (fail)
    go_roundw
    case rel => exact ⟨k + 1,zz4,by go_num,HF,HB7.out⟩
    case measure => simp [intOf]; omega
   ·have HF:=zd (HB.out h1)
    have HC : Hid (∀ W,Below wr.heap.size wr W → Calls Tryz.prog 98 #[.agg #[.int .i64 x.head.house, .int .i64 x.head.epoch, .string x.head.root, .string x.head.prev, .int .i64 x.sig.at_, .slice A0 x.sig.open_.length u0, .slice A1 x.sig.shut.length u1, .slice A2 x.sig.sides.length u2], .agg #[.int .i64 y.head.house, .int .i64 y.head.epoch, .string y.head.root, .string y.head.prev, .int .i64 y.sig.at_, .slice B0 y.sig.open_.length v0, .slice B1 y.sig.shut.length v1, .slice B2 y.sig.sides.length v2]] W fun e w' => e = .returned (.bool false) ∧ Below W.heap.size W w'):=zd (fun W h => seals_no (Lay.later HR1.out h) (Lay.later HR2.out h) hbd.out h1)
    clear h1 HB HN
    go_wp2_with (fail)
    have Gf0:=Grown.cell f0
    have Gg0:=Grown.cell g0
    have Gf1:=Grown.cell f1
    have Gg1:=Grown.cell g1
    have Gf2:=Grown.cell f2
    have Gg2:=Grown.cell g2
    have Gf3:=Grown.cell f3
    have Gg3:=Grown.cell g3
    have Gf4:=Grown.cell f4
    have Gg4:=Grown.cell g4
    have Gf5:=Grown.cell f5
    have Gg5:=Grown.cell g5
    have Gf6:=Grown.cell f6
    have Gg6:=Grown.cell g6
    have Gf7:=Grown.cell f7
    have Gg7:=Grown.cell g7
    clear f0 g0 f1 g1 f2 g2 f3 g3 f4 g4 f5 g5 f6 g6 f7 g7
    refine ya0 (by kernel_rfl) (by kernel_rfl) ?_
    repeat (go_big_quiet_step (first | (go_at_call 98; with_reducible exact ya4 (HC.out _ (Grown.ok _)))))
    refine wpQuiet_nil ?_
    intro w7 hw_
    have HB7:=zd (hB.trans ((ya5 hw_).mono hz))
    clear hw_ Gf0 Gg0 Gf1 Gg1 Gf2 Gg2 Gf3 Gg3 Gf4 Gg4 Gf5 Gg5 Gf6 Gg6 Gf7 Gg7
    go_wp2_with (fail)
    go_ret
    exact ⟨ya1 zz24,HB7.out⟩
  ·have hke : k = L:=by omega
   subst hke
   have HF:=zd (HE.out (fun j h h2 => HS.out j h h2 (by rw [← HL.out]; exact h)))
   go_wp2
   go_ret
   exact ⟨ya1 zz24,hB⟩
theorem impl_samePairs (w : World) (xs : List Pair) (A : Option Addr) (cap : Nat) (S : Blks) (hx : Row false w A cap xs S) (ys : List Pair) (A2 : Option Addr) (cap2 : Nat) (S2 : Blks) (hy : Row false w A2 cap2 ys S2) (hzx : szL xs ≤ 1048576) : Calls Tryz.prog 60 #[.slice A xs.length cap, .slice A2 ys.length cap2] w fun e w' => e = .returned (.bool (decide (xs = ys))) ∧ Below w.heap.size w w':=by
 have HZ:=zd hzx
 have hl : xs.length ≤ 4000000000:=by have:=szT_le xs 0; omega
 clear hzx
 by_cases hlen : xs.length = ys.length
 rotate_left
 ·have HF:=zd (sameL_len hlen)
  have hn : ((xs.length : Int) != (ys.length : Int)) = true:=by rw [bne_iff_ne]; omega
  clear hlen
  go_enter Tryz.func60,Tryz.ntmps60
  go_wp2
  go_ret
  exact ⟨ya1 zz24,Below.refl _ _⟩
 have HE:=zd (sameL_end (xs:=xs) (ys:=ys) hlen)
 have HBd:=zd (fun k h h2 => sameL_bad (xs:=xs) (ys:=ys) (k:=k) h h2)
 obtain ⟨L,hL⟩ : ∃ L,ys.length = L:=⟨_,rfl⟩
 rw [hL]
 have HL:=zd (hlen.trans hL); have HL2:=zd hL
 have hxl : xs.length = L:=hlen.trans hL
 rw [hxl] at hl ⊢
 clear hlen hL hxl
 go_enter Tryz.func60,Tryz.ntmps60
 go_wp2
 go_loopw [13] (fun i wr => ∃ k : Nat,k ≤ L ∧ i = .int .i64 k ∧ Hid (∀ j (h : j < xs.length) (h2 : j < ys.length),j < k → xs[j] = ys[j]) ∧ Below w.heap.size w wr) (fun i _ => L - (intOf i).toNat)
 case atStart => exact ⟨0,Nat.zero_le _,rfl,zd (fun j _ _ h => absurd h zz4),Below.refl _ _⟩
 case round =>
  obtain ⟨k,hk,rfl,HS,hB⟩:=hrel
  have hz:=hB.size
  by_cases hlt : k < L
  ·have hkx : k < xs.length:=by rw [HL.out]; exact hlt
   have hky : k < ys.length:=by rw [HL2.out]; exact hlt
   obtain ⟨b1,o1,c1,T1,rfl,hl1,hf,hr1,_,_⟩:=Row.at_ hx hkx
   obtain ⟨b2,o2,c2,T2,rfl,hl2,hg,hr2,_,_⟩:=Row.at_ hy hky
   have hbd:=zd (pair_len3' (sz_get' hkx HZ.out))
   have HB:=zd (HBd.out k hkx hky)
   have HN : Hid (xs[k] = ys[k] → ∀ j (h : j < xs.length) (h2 : j < ys.length),j < k + 1 → xs[j] = ys[j]):=zd (fun h0 j h h2 hj => zz45)
   obtain ⟨x,hxx⟩ : ∃ x,xs[k] = x:=⟨_,rfl⟩
   obtain ⟨y,hyy⟩ : ∃ y,ys[k] = y:=⟨_,rfl⟩
   rw [hxx] at hr1 HB HN hbd
   rw [hyy] at hr2 HB HN
   clear hxx hyy hkx hky
   obtain ⟨s,s2⟩:=x
   obtain ⟨t,t2⟩:=y
   obtain ⟨p1,p2,X1,X2,rfl, -, -, -,hs1,hs2⟩:=hr1
   obtain ⟨p3,p4,X3,X4,rfl, -, -, -,ht1,ht2⟩:=hr2
   have HR1:=zd (Lay.later hs1 hB); have HR2:=zd (Lay.later ht1 hB)
   have HQ1:=zd (Lay.later hs2 hB); have HQ2:=zd (Lay.later ht2 hB)
   obtain ⟨A0,u0,_,A1,u1,_,A2,u2,_,rfl, -⟩:=Seal.open hs1
   obtain ⟨B0,v0,_,B1,v1,_,B2,v2,_,rfl, -⟩:=Seal.open ht1
   obtain ⟨C0,x0,_,C1,x1,_,C2,x2,_,rfl, -⟩:=Seal.open hs2
   obtain ⟨D0,y0,_,D1,y1,_,D2,y2,_,rfl, -⟩:=Seal.open ht2
   replace hf:=hf.keep (hB.block b1 hl1)
   replace hg:=hg.keep (hB.block b2 hl2)
   rw [show Lay.n Pair = 16 from rfl] at hf hg
   have f0:=hf 0 _ rfl
   have g0:=hg 0 _ rfl
   have f1:=hf 1 _ rfl
   have g1:=hg 1 _ rfl
   have f2:=hf 2 _ rfl
   have g2:=hg 2 _ rfl
   have f3:=hf 3 _ rfl
   have g3:=hg 3 _ rfl
   have f4:=hf 4 _ rfl
   have g4:=hg 4 _ rfl
   have f5:=hf 5 _ rfl
   have g5:=hg 5 _ rfl
   have f6:=hf 6 _ rfl
   have g6:=hg 6 _ rfl
   have f7:=hf 7 _ rfl
   have g7:=hg 7 _ rfl
   have f8:=hf 8 _ rfl
   have g8:=hg 8 _ rfl
   have f9:=hf 9 _ rfl
   have g9:=hg 9 _ rfl
   have f10:=hf 10 _ rfl
   have g10:=hg 10 _ rfl
   have f11:=hf 11 _ rfl
   have g11:=hg 11 _ rfl
   have f12:=hf 12 _ rfl
   have g12:=hg 12 _ rfl
   have f13:=hf 13 _ rfl
   have g13:=hg 13 _ rfl
   have f14:=hf 14 _ rfl
   have g14:=hg 14 _ rfl
   have f15:=hf 15 _ rfl
   have g15:=hg 15 _ rfl
   simp only [Nat.add_zero] at f0 g0
   clear hs1 hs2 ht1 ht2 hf hg
   by_cases h1 : s = t
   ·have HC : Hid (∀ W,Below wr.heap.size wr W → Calls Tryz.prog 98 #[.agg #[.int .i64 s.head.house, .int .i64 s.head.epoch, .string s.head.root, .string s.head.prev, .int .i64 s.sig.at_, .slice A0 s.sig.open_.length u0, .slice A1 s.sig.shut.length u1, .slice A2 s.sig.sides.length u2], .agg #[.int .i64 t.head.house, .int .i64 t.head.epoch, .string t.head.root, .string t.head.prev, .int .i64 t.sig.at_, .slice B0 t.sig.open_.length v0, .slice B1 t.sig.shut.length v1, .slice B2 t.sig.sides.length v2]] W fun e w' => e = .returned (.bool true) ∧ Below W.heap.size W w'):=zd (fun W h => seals_yes (Lay.later HR1.out h) (Lay.later HR2.out h) hbd.out.1 h1)
    by_cases h2 : s2 = t2
    ·have HF:=zd (HN.out (by rw [h1,h2]))
     have HC2 : Hid (∀ W,Below wr.heap.size wr W → Calls Tryz.prog 98 #[.agg #[.int .i64 s2.head.house, .int .i64 s2.head.epoch, .string s2.head.root, .string s2.head.prev, .int .i64 s2.sig.at_, .slice C0 s2.sig.open_.length x0, .slice C1 s2.sig.shut.length x1, .slice C2 s2.sig.sides.length x2], .agg #[.int .i64 t2.head.house, .int .i64 t2.head.epoch, .string t2.head.root, .string t2.head.prev, .int .i64 t2.sig.at_, .slice D0 t2.sig.open_.length y0, .slice D1 t2.sig.shut.length y1, .slice D2 t2.sig.sides.length y2]] W fun e w' => e = .returned (.bool true) ∧ Below W.heap.size W w'):=zd (fun W h => seals_yes (Lay.later HQ1.out h) (Lay.later HQ2.out h) hbd.out.2 h2)
     clear h1 h2 HB HN
     go_wp2_with (fail)
     have Gf0:=Grown.cell f0
     have Gg0:=Grown.cell g0
     have Gf1:=Grown.cell f1
     have Gg1:=Grown.cell g1
     have Gf2:=Grown.cell f2
     have Gg2:=Grown.cell g2
     have Gf3:=Grown.cell f3
     have Gg3:=Grown.cell g3
     have Gf4:=Grown.cell f4
     have Gg4:=Grown.cell g4
     have Gf5:=Grown.cell f5
     have Gg5:=Grown.cell g5
     have Gf6:=Grown.cell f6
     have Gg6:=Grown.cell g6
     have Gf7:=Grown.cell f7
     have Gg7:=Grown.cell g7
     have Gf8:=Grown.cell f8
     have Gg8:=Grown.cell g8
     have Gf9:=Grown.cell f9
     have Gg9:=Grown.cell g9
     have Gf10:=Grown.cell f10
     have Gg10:=Grown.cell g10
     have Gf11:=Grown.cell f11
     have Gg11:=Grown.cell g11
     have Gf12:=Grown.cell f12
     have Gg12:=Grown.cell g12
     have Gf13:=Grown.cell f13
     have Gg13:=Grown.cell g13
     have Gf14:=Grown.cell f14
     have Gg14:=Grown.cell g14
     have Gf15:=Grown.cell f15
     have Gg15:=Grown.cell g15
     clear f0 g0 f1 g1 f2 g2 f3 g3 f4 g4 f5 g5 f6 g6 f7 g7 f8 g8 f9 g9 f10 g10 f11 g11 f12 g12 f13 g13 f14 g14 f15 g15
     refine ya0 (by kernel_rfl) (by kernel_rfl) ?_
     repeat (go_big_quiet_step (first | (go_at_call 98; with_reducible exact ya4 (HC.out _ (Grown.ok _))) | (go_at_call 98; with_reducible exact ya4 (HC2.out _ (Grown.ok _)))))
     refine wpQuiet_nil ?_
     intro w7 hw_
     have HB7:=zd (hB.trans ((ya5 hw_).mono hz))
     clear hw_ Gf0 Gg0 Gf1 Gg1 Gf2 Gg2 Gf3 Gg3 Gf4 Gg4 Gf5 Gg5 Gf6 Gg6 Gf7 Gg7 Gf8 Gg8 Gf9 Gg9 Gf10 Gg10 Gf11 Gg11 Gf12 Gg12 Gf13 Gg13 Gf14 Gg14 Gf15 Gg15
     go_wp2_with (fail)
     go_roundw
     case rel => exact ⟨k + 1,zz4,by go_num,HF,HB7.out⟩
     case measure => simp [intOf]; omega
    ·have HF:=zd (HB.out (by intro e; injection e with e1 e2; exact h2 e2))
     have HC2 : Hid (∀ W,Below wr.heap.size wr W → Calls Tryz.prog 98 #[.agg #[.int .i64 s2.head.house, .int .i64 s2.head.epoch, .string s2.head.root, .string s2.head.prev, .int .i64 s2.sig.at_, .slice C0 s2.sig.open_.length x0, .slice C1 s2.sig.shut.length x1, .slice C2 s2.sig.sides.length x2], .agg #[.int .i64 t2.head.house, .int .i64 t2.head.epoch, .string t2.head.root, .string t2.head.prev, .int .i64 t2.sig.at_, .slice D0 t2.sig.open_.length y0, .slice D1 t2.sig.shut.length y1, .slice D2 t2.sig.sides.length y2]] W fun e w' => e = .returned (.bool false) ∧ Below W.heap.size W w'):=zd (fun W h => seals_no (Lay.later HQ1.out h) (Lay.later HQ2.out h) hbd.out.2 h2)
     clear h1 h2 HB HN
     go_wp2_with (fail)
     have Gf0:=Grown.cell f0
     have Gg0:=Grown.cell g0
     have Gf1:=Grown.cell f1
     have Gg1:=Grown.cell g1
     have Gf2:=Grown.cell f2
     have Gg2:=Grown.cell g2
     have Gf3:=Grown.cell f3
     have Gg3:=Grown.cell g3
     have Gf4:=Grown.cell f4
     have Gg4:=Grown.cell g4
     have Gf5:=Grown.cell f5
     have Gg5:=Grown.cell g5
     have Gf6:=Grown.cell f6
     have Gg6:=Grown.cell g6
     have Gf7:=Grown.cell f7
     have Gg7:=Grown.cell g7
     have Gf8:=Grown.cell f8
     have Gg8:=Grown.cell g8
     have Gf9:=Grown.cell f9
     have Gg9:=Grown.cell g9
     have Gf10:=Grown.cell f10
     have Gg10:=Grown.cell g10
     have Gf11:=Grown.cell f11
     have Gg11:=Grown.cell g11
     have Gf12:=Grown.cell f12
     have Gg12:=Grown.cell g12
     have Gf13:=Grown.cell f13
     have Gg13:=Grown.cell g13
     have Gf14:=Grown.cell f14
     have Gg14:=Grown.cell g14
     have Gf15:=Grown.cell f15
     have Gg15:=Grown.cell g15
     clear f0 g0 f1 g1 f2 g2 f3 g3 f4 g4 f5 g5 f6 g6 f7 g7 f8 g8 f9 g9 f10 g10 f11 g11 f12 g12 f13 g13 f14 g14 f15 g15
     refine ya0 (by kernel_rfl) (by kernel_rfl) ?_
     repeat (go_big_quiet_step (first | (go_at_call 98; with_reducible exact ya4 (HC.out _ (Grown.ok _))) | (go_at_call 98; with_reducible exact ya4 (HC2.out _ (Grown.ok _)))))
     refine wpQuiet_nil ?_
     intro w7 hw_
     have HB7:=zd (hB.trans ((ya5 hw_).mono hz))
     clear hw_ Gf0 Gg0 Gf1 Gg1 Gf2 Gg2 Gf3 Gg3 Gf4 Gg4 Gf5 Gg5 Gf6 Gg6 Gf7 Gg7 Gf8 Gg8 Gf9 Gg9 Gf10 Gg10 Gf11 Gg11 Gf12 Gg12 Gf13 Gg13 Gf14 Gg14 Gf15 Gg15
     go_wp2_with (fail)
     go_ret
     exact ⟨ya1 zz24,HB7.out⟩
   ·have HF:=zd (HB.out (by intro e; injection e with e1 e2; exact h1 e1))
    have HC : Hid (∀ W,Below wr.heap.size wr W → Calls Tryz.prog 98 #[.agg #[.int .i64 s.head.house, .int .i64 s.head.epoch, .string s.head.root, .string s.head.prev, .int .i64 s.sig.at_, .slice A0 s.sig.open_.length u0, .slice A1 s.sig.shut.length u1, .slice A2 s.sig.sides.length u2], .agg #[.int .i64 t.head.house, .int .i64 t.head.epoch, .string t.head.root, .string t.head.prev, .int .i64 t.sig.at_, .slice B0 t.sig.open_.length v0, .slice B1 t.sig.shut.length v1, .slice B2 t.sig.sides.length v2]] W fun e w' => e = .returned (.bool false) ∧ Below W.heap.size W w'):=zd (fun W h => seals_no (Lay.later HR1.out h) (Lay.later HR2.out h) hbd.out.1 h1)
    clear h1 HB HN
    go_wp2_with (fail)
    have Gf0:=Grown.cell f0
    have Gg0:=Grown.cell g0
    have Gf1:=Grown.cell f1
    have Gg1:=Grown.cell g1
    have Gf2:=Grown.cell f2
    have Gg2:=Grown.cell g2
    have Gf3:=Grown.cell f3
    have Gg3:=Grown.cell g3
    have Gf4:=Grown.cell f4
    have Gg4:=Grown.cell g4
    have Gf5:=Grown.cell f5
    have Gg5:=Grown.cell g5
    have Gf6:=Grown.cell f6
    have Gg6:=Grown.cell g6
    have Gf7:=Grown.cell f7
    have Gg7:=Grown.cell g7
    have Gf8:=Grown.cell f8
    have Gg8:=Grown.cell g8
    have Gf9:=Grown.cell f9
    have Gg9:=Grown.cell g9
    have Gf10:=Grown.cell f10
    have Gg10:=Grown.cell g10
    have Gf11:=Grown.cell f11
    have Gg11:=Grown.cell g11
    have Gf12:=Grown.cell f12
    have Gg12:=Grown.cell g12
    have Gf13:=Grown.cell f13
    have Gg13:=Grown.cell g13
    have Gf14:=Grown.cell f14
    have Gg14:=Grown.cell g14
    have Gf15:=Grown.cell f15
    have Gg15:=Grown.cell g15
    clear f0 g0 f1 g1 f2 g2 f3 g3 f4 g4 f5 g5 f6 g6 f7 g7 f8 g8 f9 g9 f10 g10 f11 g11 f12 g12 f13 g13 f14 g14 f15 g15
    refine ya0 (by kernel_rfl) (by kernel_rfl) ?_
    repeat (go_big_quiet_step (first | (go_at_call 98; with_reducible exact ya4 (HC.out _ (Grown.ok _)))))
    refine wpQuiet_nil ?_
    intro w7 hw_
    have HB7:=zd (hB.trans ((ya5 hw_).mono hz))
    clear hw_ Gf0 Gg0 Gf1 Gg1 Gf2 Gg2 Gf3 Gg3 Gf4 Gg4 Gf5 Gg5 Gf6 Gg6 Gf7 Gg7 Gf8 Gg8 Gf9 Gg9 Gf10 Gg10 Gf11 Gg11 Gf12 Gg12 Gf13 Gg13 Gf14 Gg14 Gf15 Gg15
    go_wp2_with (fail)
    go_ret
    exact ⟨ya1 zz24,HB7.out⟩
  ·have hke : k = L:=by omega
   subst hke
   have HF:=zd (HE.out (fun j h h2 => HS.out j h h2 (by rw [← HL.out]; exact h)))
   go_wp2
   go_ret
   exact ⟨ya1 zz24,hB⟩
end Go.Proofs.YtlfnmbcnehaikaaGreatDoor
