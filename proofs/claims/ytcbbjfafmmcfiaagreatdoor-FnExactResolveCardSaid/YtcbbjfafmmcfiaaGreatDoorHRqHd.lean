/- A part of the proof. -/
import Derived.Deep.RegionHeld3
import Derived.Test.YtcbbjfafmmcfiaaGreatDoorHRqL4xBr
import Derived.Test.YtcbbjfafmmcfiaaGreatDoorHRqTy
set_option linter.unusedVariables false
set_option linter.unusedSimpArgs false
set_option maxRecDepth 40000
set_option maxHeartbeats 4000000
namespace Go.Proofs.YtcbbjfafmmcfiaaGreatDoor
open Go.RowKit Lay Mk
theorem held_LeafS (xs : List Leaf) (w : World) (A : Option Addr) (cap : Nat) (S : Blks) (a : Int) (k0 : Nat) (ha : a = (k0 : Int)) (hk : k0 + cnL xs ≤ 4611686018427387904) (hx : Row false w A cap (meL xs k0) S) (hl : xs.length ≤ maxLen) :
  Calls Tryz.prog 86 #[.slice A xs.length cap, .int .i64 a] w fun e w' => e = .returned (.int .i64 ((k0 + cnL xs : Nat) : Int)) ∧ Below w.heap.size w w':=by
 subst ha
 unfold maxLen at hl
 go_enter Tryz.func86,Tryz.ntmps86
 go_wp2
 go_loopw [1,5] (fun l i wr => ∃ k : Nat,k ≤ xs.length ∧ i = .int .i64 k ∧ l = .int .i64 ((k0 + cnL (xs.take k) : Nat) : Int) ∧ Below w.heap.size w wr) (fun _ i _ => xs.length - (intOf i).toNat)
 case atStart => exact ⟨0,Nat.zero_le _,rfl,by simp [cnL],Below.refl _ _⟩
 case round =>
  obtain ⟨k,hkk,rfl,rfl,hb⟩:=hrel
  have hz:=hb.size
  by_cases hlt : k < xs.length
  ·have hlt2 : k < (meL xs k0).length:=by simpa using hlt
   have hne : meL xs k0 ≠ []:=by intro h; rw [h] at hlt2; simp at hlt2
   obtain ⟨b1,o1,rfl,_,T1,_,_,he1⟩:=hx hne
   obtain ⟨c1,ha1,hr1⟩:=he1 k hlt2
   have hl1:=ha1.lt zz37
   rw [meL_get xs k0 k hlt] at hr1
   have hcs:=cnL_take_succ xs k hlt
   have hcl:=cnL_take_le xs (k + 1)
   generalize hK : k0 + cnL (xs.take k) = K at hr1
   generalize xs[k] = x at hr1 hcs
   rw [show Mk.cn x = Leaf.cn x from rfl] at hcs
   have hs2 : Hid (k0 + cnL (xs.take (k + 1)) = K + Leaf.cn x):=zd zz19
   have hKb : K + Leaf.cn x ≤ 4611686018427387904:=zz19
   unfold Leaf.cn at hKb
   clear hcs hK hcl he1 hx
   have hc0:=fun o => hb.cell (p:=⟨b1,o,none⟩) hl1
   have hr1 : rd false w c1 (Leaf.me x K) (T1 k):=hr1
   obtain ⟨rfl,ef0,ef1⟩:=Leaf.open hr1
   have q0 : w.cell? ⟨b1,o1 + k * 2,none⟩ = some (.string (mtext (K))):=by have:=ha1 0 _ rfl; simpa [show Lay.n Leaf = 2 from rfl,Leaf.me] using this
   have q1 : w.cell? ⟨b1,o1 + k * 2 + 1,none⟩ = some (.string (mtext (K + 1))):=by have:=ha1 1 _ rfl; simpa [show Lay.n Leaf = 2 from rfl,Leaf.me] using this
   clear ha1
   go_wp2_with (fail)
   go_region_held3 (fun w' => w'.cell? ⟨b1,o1 + k * 2,none⟩ = some (.string (mtext (K))) ∧ Below w.heap.size w w')
    (first | (refine And.intro ?_ ?_ <;> first | exact hb.drew | exact (hb.drew.cell (p:=⟨b1,o1 + k * 2,none⟩) hl1).trans q0 | exact (hb1.cell (p:=⟨b1,o1 + k * 2,none⟩) zz59).trans ((hb.drew.cell (p:=⟨b1,o1 + k * 2,none⟩) hl1).trans q0) | exact hb.drew.trans (hb1.mono zz59) | (go_keep; done)))
    ((go_at_call 97; refine (mark_Text _ (K) zz39 zz19 _).mono ?_; rintro e1 w1 ⟨rfl,hb1⟩))
   have hB1 : Below w.heap.size w w1:=hb.drew.trans (hb1.mono zz59)
   have hz1:=hB1.size
   have hc1:=fun o => hB1.cell (p:=⟨b1,o,none⟩) hl1
   go_wp2_with (fail)
   go_region_held3 (fun w' => w'.cell? ⟨b1,o1 + k * 2 + 1,none⟩ = some (.string (mtext (K + 1))) ∧ Below w.heap.size w w')
    (first | (refine And.intro ?_ ?_ <;> first | exact hB1.drew | exact (hB1.drew.cell (p:=⟨b1,o1 + k * 2 + 1,none⟩) hl1).trans q1 | exact (hb2.cell (p:=⟨b1,o1 + k * 2 + 1,none⟩) zz59).trans ((hB1.drew.cell (p:=⟨b1,o1 + k * 2 + 1,none⟩) hl1).trans q1) | exact hB1.drew.trans (hb2.mono zz59) | (go_keep; done)))
    ((go_at_call 97; refine (mark_Text _ (K + 1) zz39 zz19 _).mono ?_; rintro e2 w2 ⟨rfl,hb2⟩))
   have hB2 : Below w.heap.size w w2:=hB1.drew.trans (hb2.mono zz59)
   have hz2:=hB2.size
   have hc2:=fun o => hB2.cell (p:=⟨b1,o,none⟩) hl1
   go_wp2
   go_roundw
   case rel => exact ⟨k + 1,zz19,by go_num,by rw [hs2.out]; first | go_num | (congr 1; unfold Leaf.cn; omega),by have zh:=hB2; exact zz1⟩
   case measure => simp [intOf]; omega
  ·have hke : k = xs.length:=by omega
   go_wp2
   go_ret; refine ⟨?_,hb⟩; subst hke; rw [List.take_of_length_le (Nat.le_refl _)]; rfl
theorem held_StringS (xs : List ByteArray) (w : World) (A : Option Addr) (cap : Nat) (S : Blks) (a : Int) (k0 : Nat) (ha : a = (k0 : Int)) (hk : k0 + cnL xs ≤ 4611686018427387904) (hx : Row false w A cap (meL xs k0) S) (hl : xs.length ≤ maxLen) :
  Calls Tryz.prog 30 #[.slice A xs.length cap, .int .i64 a] w fun e w' => e = .returned (.int .i64 ((k0 + cnL xs : Nat) : Int)) ∧ Below w.heap.size w w':=by
 subst ha
 unfold maxLen at hl
 go_enter Tryz.func30,Tryz.ntmps30
 go_wp2
 go_loopw [1,5] (fun l i wr => ∃ k : Nat,k ≤ xs.length ∧ i = .int .i64 k ∧ l = .int .i64 ((k0 + cnL (xs.take k) : Nat) : Int) ∧ Below w.heap.size w wr) (fun _ i _ => xs.length - (intOf i).toNat)
 case atStart => exact ⟨0,Nat.zero_le _,rfl,by simp [cnL],Below.refl _ _⟩
 case round =>
  obtain ⟨k,hkk,rfl,rfl,hb⟩:=hrel
  have hz:=hb.size
  by_cases hlt : k < xs.length
  ·have hlt2 : k < (meL xs k0).length:=by simpa using hlt
   have hne : meL xs k0 ≠ []:=by intro h; rw [h] at hlt2; simp at hlt2
   obtain ⟨b1,o1,rfl,_,T1,_,_,he1⟩:=hx hne
   obtain ⟨c1,ha1,hr1⟩:=he1 k hlt2
   have hl1:=ha1.lt zz37
   rw [meL_get xs k0 k hlt] at hr1
   have hcs:=cnL_take_succ xs k hlt
   have hcl:=cnL_take_le xs (k + 1)
   generalize hK : k0 + cnL (xs.take k) = K at hr1
   generalize xs[k] = x at hr1 hcs
   rw [show Mk.cn x = 1 from rfl] at hcs
   have hs2 : Hid (k0 + cnL (xs.take (k + 1)) = K + 1):=zd zz19
   have hKb : K + 1 ≤ 4611686018427387904:=zz19
   clear hcs hK hcl he1 hx
   have hc0:=fun o => hb.cell (p:=⟨b1,o,none⟩) hl1
   have hr1 : rd false w c1 (mtext K) (T1 k):=hr1
   obtain ⟨rfl,_⟩:=open_str hr1
   clear hr1
   have q0 : w.cell? ⟨b1,o1 + k,none⟩ = some (.string (mtext (K))):=by have:=ha1 0 _ rfl; simpa [show Lay.n ByteArray = 1 from rfl] using this
   clear ha1
   go_wp2_with (fail)
   go_region_held3 (fun w' => w'.cell? ⟨b1,o1 + k,none⟩ = some (.string (mtext (K))) ∧ Below w.heap.size w w')
    (first | (refine And.intro ?_ ?_ <;> first | exact hb.drew | exact (hb.drew.cell (p:=⟨b1,o1 + k,none⟩) hl1).trans q0 | exact (hb1.cell (p:=⟨b1,o1 + k,none⟩) zz59).trans ((hb.drew.cell (p:=⟨b1,o1 + k,none⟩) hl1).trans q0) | exact hb.drew.trans (hb1.mono zz59) | (go_keep; done)))
    ((go_at_call 97; refine (mark_Text _ (K) zz39 zz19 _).mono ?_; rintro e1 w1 ⟨rfl,hb1⟩))
   have hB1 : Below w.heap.size w w1:=hb.drew.trans (hb1.mono zz59)
   have hz1:=hB1.size
   have hc1:=fun o => hB1.cell (p:=⟨b1,o,none⟩) hl1
   go_wp2
   go_roundw
   case rel => exact ⟨k + 1,zz19,by go_num,by rw [hs2.out]; first | go_num | (congr 1; omega),by have zh:=hB1; exact zz1⟩
   case measure => simp [intOf]; omega
  ·have hke : k = xs.length:=by omega
   go_wp2
   go_ret; refine ⟨?_,hb⟩; subst hke; rw [List.take_of_length_le (Nat.le_refl _)]; rfl
theorem held_Proof (x : Proof) (w : World) (cs : List Value) (S : Blks) (a : Int) (k : Nat) (ha : a = (k : Int)) (hk : k + x.ct ≤ 4611686018427387904) (hx : rd false w cs (x.mt k) S) :
  Calls Tryz.prog 17 #[.agg cs.toArray, .int .i64 a] w fun e w' => e = .returned (.int .i64 ((k + x.ct : Nat) : Int)) ∧ Below w.heap.size w w':=by
 subst ha
 obtain ⟨A0,k0,S0,A1,k1,S1,rfl,a0,b0,r0,s0,a1,b1,r1,s1,pw⟩:=Proof.open hx
 clear hx
 unfold Proof.ct at hk
 simp only [Proof.cs,Proof.mt,meL_length]
 have R0 : Row false w A0 k0 (meL x.bucket (k)) S0:=r0
 have L0 : x.bucket.length ≤ maxLen:=by have:=Nat.le_trans a0 b0; simpa [Proof.mt] using this
 have R1 : Row false w A1 k1 (meL x.sides (k + cnL x.bucket)) S1:=r1
 have L1 : x.sides.length ≤ maxLen:=by have:=Nat.le_trans a1 b1; simpa [Proof.mt] using this
 clear r0 r1
 generalize hK0 : k + cnL x.bucket = K0 at *
 have HK0:=zd hK0; clear hK0
 generalize hK1 : K0 + cnL x.sides = K1 at *
 have HK1:=zd hK1; clear hK1
 have hfin : Hid (((k + x.ct : Nat) : Int) = (K1 : Int)):=zd (by unfold Proof.ct; have:=HK0.out; have:=HK1.out; omega)
 rw [hfin.out]
 go_enter Tryz.func17,Tryz.ntmps17
 go_wp2_with (fail)
 refine (held_LeafS x.bucket _ _ _ _ _ k zz83 (by have:=HK0.out; have:=HK1.out; omega) (R0.later zz4) L0).mono ?_
 rw [HK0.out]
 rintro e1 w1 ⟨rfl,hb1⟩
 have hB1 : Below w.heap.size w w1:=by refine Below.trans (b:=_) ?_ (hb1.mono ?_) <;> exact zz11
 have hz1 : w.heap.size + 1 ≤ w1.heap.size:=zz32
 have hc1:=fun o => hb1.cell (p:=⟨w.heap.size,o,none⟩) zz0
 go_wp2_with (fail)
 refine (held_StringS x.sides _ _ _ _ _ K0 zz83 (by have:=HK0.out; have:=HK1.out; omega) (R1.later (by have zh:=hB1; exact zz1)) L1).mono ?_
 rw [HK1.out]
 rintro e2 w2 ⟨rfl,hb2⟩
 have hB2 : Below w.heap.size w w2:=by have zh:=hB1; refine Below.trans (b:=_) ?_ (hb2.mono ?_) <;> exact zz7
 have hz2 : w.heap.size + 1 ≤ w2.heap.size:=zz48
 have hc2:=fun o => hb2.cell (p:=⟨w.heap.size,o,none⟩) zz0
 go_wp2
 go_ret; exact ⟨rfl,by have zh:=hB2; exact zz1⟩
theorem held_Sig (x : Sig) (w : World) (cs : List Value) (S : Blks) (a : Int) (k : Nat) (ha : a = (k : Int)) (hk : k + x.ct ≤ 4611686018427387904) (hx : rd false w cs (x.mt k) S) :
  Calls Tryz.prog 229 #[.agg cs.toArray, .int .i64 a] w fun e w' => e = .returned (.int .i64 ((k + x.ct : Nat) : Int)) ∧ Below w.heap.size w w':=by
 subst ha
 obtain ⟨A0,k0,S0,A1,k1,S1,A2,k2,S2,rfl,f0,a0,b0,r0,s0,a1,b1,r1,s1,a2,b2,r2,s2,pw⟩:=Sig.open hx
 clear hx
 unfold Sig.ct at hk
 simp only [Sig.cs,Sig.mt,meL_length]
 have R0 : Row false w A0 k0 (meL x.open_ (k)) S0:=r0
 have L0 : x.open_.length ≤ maxLen:=by have:=Nat.le_trans a0 b0; simpa [Sig.mt] using this
 have R1 : Row false w A1 k1 (meL x.shut (k + cnL x.open_)) S1:=r1
 have L1 : x.shut.length ≤ maxLen:=by have:=Nat.le_trans a1 b1; simpa [Sig.mt] using this
 have R2 : Row false w A2 k2 (meL x.sides (k + cnL x.open_ + cnL x.shut)) S2:=r2
 have L2 : x.sides.length ≤ maxLen:=by have:=Nat.le_trans a2 b2; simpa [Sig.mt] using this
 clear r0 r1 r2
 generalize hK0 : k + cnL x.open_ = K0 at *
 have HK0:=zd hK0; clear hK0
 generalize hK1 : K0 + cnL x.shut = K1 at *
 have HK1:=zd hK1; clear hK1
 generalize hK2 : K1 + cnL x.sides = K2 at *
 have HK2:=zd hK2; clear hK2
 have hfin : Hid (((k + x.ct : Nat) : Int) = (K2 : Int)):=zd (by unfold Sig.ct; have:=HK0.out; have:=HK1.out; have:=HK2.out; omega)
 rw [hfin.out]
 go_enter Tryz.func229,Tryz.ntmps229
 go_wp2_with (fail)
 refine (held_StringS x.open_ _ _ _ _ _ k zz83 (by have:=HK0.out; have:=HK1.out; have:=HK2.out; omega) (R0.later zz4) L0).mono ?_
 rw [HK0.out]
 rintro e1 w1 ⟨rfl,hb1⟩
 have hB1 : Below w.heap.size w w1:=by refine Below.trans (b:=_) ?_ (hb1.mono ?_) <;> exact zz11
 have hz1 : w.heap.size + 1 ≤ w1.heap.size:=zz32
 have hc1:=fun o => hb1.cell (p:=⟨w.heap.size,o,none⟩) zz0
 go_wp2_with (fail)
 refine (held_StringS x.shut _ _ _ _ _ K0 zz83 (by have:=HK0.out; have:=HK1.out; have:=HK2.out; omega) (R1.later (by have zh:=hB1; exact zz1)) L1).mono ?_
 rw [HK1.out]
 rintro e2 w2 ⟨rfl,hb2⟩
 have hB2 : Below w.heap.size w w2:=by have zh:=hB1; refine Below.trans (b:=_) ?_ (hb2.mono ?_) <;> exact zz7
 have hz2 : w.heap.size + 1 ≤ w2.heap.size:=zz48
 have hc2:=fun o => hb2.cell (p:=⟨w.heap.size,o,none⟩) zz0
 go_wp2_with (fail)
 refine (held_StringS x.sides _ _ _ _ _ K1 zz83 (by have:=HK0.out; have:=HK1.out; have:=HK2.out; omega) (R2.later (by have zh:=hB2; exact zz1)) L2).mono ?_
 rw [HK2.out]
 rintro e3 w3 ⟨rfl,hb3⟩
 have hB3 : Below w.heap.size w w3:=by have zh:=hB2; refine Below.trans (b:=_) ?_ (hb3.mono ?_) <;> exact zz7
 have hz3 : w.heap.size + 1 ≤ w3.heap.size:=zz60
 have hc3:=fun o => hb3.cell (p:=⟨w.heap.size,o,none⟩) zz0
 go_wp2
 go_ret; exact ⟨rfl,by have zh:=hB3; exact zz1⟩
theorem held_Seal (x : Seal) (w : World) (cs : List Value) (S : Blks) (a : Int) (k : Nat) (ha : a = (k : Int)) (hk : k + x.ct ≤ 4611686018427387904) (hx : rd false w cs (x.mt k) S) :
  Calls Tryz.prog 151 #[.agg cs.toArray, .int .i64 a] w fun e w' => e = .returned (.int .i64 ((k + x.ct : Nat) : Int)) ∧ Below w.heap.size w w':=by
 subst ha
 obtain ⟨A0,k0,S0,A1,k1,S1,A2,k2,S2,rfl,f0,f1,f2,f3,f4,a0,b0,r0,s0,a1,b1,r1,s1,a2,b2,r2,s2,pw⟩:=Seal.open hx
 clear hx
 unfold Seal.ct at hk
 simp only [Seal.cs,Seal.mt,meL_length]
 have R0 : Row false w A0 k0 (meL x.sig.open_ (k)) S0:=r0
 have L0 : x.sig.open_.length ≤ maxLen:=by have:=Nat.le_trans a0 b0; simpa [Seal.mt] using this
 have R1 : Row false w A1 k1 (meL x.sig.shut (k + cnL x.sig.open_)) S1:=r1
 have L1 : x.sig.shut.length ≤ maxLen:=by have:=Nat.le_trans a1 b1; simpa [Seal.mt] using this
 have R2 : Row false w A2 k2 (meL x.sig.sides (k + cnL x.sig.open_ + cnL x.sig.shut)) S2:=r2
 have L2 : x.sig.sides.length ≤ maxLen:=by have:=Nat.le_trans a2 b2; simpa [Seal.mt] using this
 clear r0 r1 r2
 generalize hK0 : k + cnL x.sig.open_ = K0 at *
 have HK0:=zd hK0; clear hK0
 generalize hK1 : K0 + cnL x.sig.shut = K1 at *
 have HK1:=zd hK1; clear hK1
 generalize hK2 : K1 + cnL x.sig.sides = K2 at *
 have HK2:=zd hK2; clear hK2
 have hfin : Hid (((k + x.ct : Nat) : Int) = (K2 : Int)):=zd (by unfold Seal.ct; have:=HK0.out; have:=HK1.out; have:=HK2.out; omega)
 rw [hfin.out]
 go_enter Tryz.func151,Tryz.ntmps151
 go_wp2_with (fail)
 refine (held_Sig x.sig _ _ _ _ k zz83 (by have:=HK0.out; have:=HK1.out; have:=HK2.out; unfold Sig.ct; omega) (Lay.later (by have h:=Sig.mk' (w:=w) (x:=Sig.mt x.sig k) (m:=false) (S:=S) f4 (by simpa [Sig.mt,Seal.mt] using a0) b0 (by have h:=R0; exact h) s0 (by simpa [Sig.mt,Seal.mt] using a1) b1 (by have h:=R1; rw [← HK0.out] at h; exact h) s1 (by simpa [Sig.mt,Seal.mt] using a2) b2 (by have h:=R2; rw [← HK1.out] at h; rw [← HK0.out] at h; exact h) s2 zz51; simpa [Sig.cs,Sig.mt] using h) zz4)).mono ?_
 rw [show k + (x.sig).ct = K2 from by have:=HK0.out; have:=HK1.out; have:=HK2.out; unfold Sig.ct; omega]
 rintro e1 w1 ⟨rfl,hb1⟩
 have hB1 : Below w.heap.size w w1:=by refine Below.trans (b:=_) ?_ (hb1.mono ?_) <;> exact zz11
 have hz1 : w.heap.size + 1 ≤ w1.heap.size:=zz32
 have hc1:=fun o => hb1.cell (p:=⟨w.heap.size,o,none⟩) zz0
 go_wp2
 go_ret; exact ⟨rfl,by have zh:=hB1; exact zz1⟩
theorem held_StampS (xs : List Stamp) (w : World) (A : Option Addr) (cap : Nat) (S : Blks) (a : Int) (k0 : Nat) (ha : a = (k0 : Int)) (hk : k0 + cnL xs ≤ 4611686018427387904) (hx : Row false w A cap (meL xs k0) S) (hl : xs.length ≤ maxLen) :
  Calls Tryz.prog 152 #[.slice A xs.length cap, .int .i64 a] w fun e w' => e = .returned (.int .i64 ((k0 + cnL xs : Nat) : Int)) ∧ Below w.heap.size w w':=by
 subst ha
 unfold maxLen at hl
 go_enter Tryz.func152,Tryz.ntmps152
 go_wp2
 go_loopw [1,5] (fun l i wr => ∃ k : Nat,k ≤ xs.length ∧ i = .int .i64 k ∧ l = .int .i64 ((k0 + cnL (xs.take k) : Nat) : Int) ∧ Below w.heap.size w wr) (fun _ i _ => xs.length - (intOf i).toNat)
 case atStart => exact ⟨0,Nat.zero_le _,rfl,by simp [cnL],Below.refl _ _⟩
 case round =>
  obtain ⟨k,hkk,rfl,rfl,hb⟩:=hrel
  have hz:=hb.size
  by_cases hlt : k < xs.length
  ·have hlt2 : k < (meL xs k0).length:=by simpa using hlt
   have hne : meL xs k0 ≠ []:=by intro h; rw [h] at hlt2; simp at hlt2
   obtain ⟨b1,o1,rfl,_,T1,_,_,he1⟩:=hx hne
   obtain ⟨c1,ha1,hr1⟩:=he1 k hlt2
   have hl1:=ha1.lt zz37
   rw [meL_get xs k0 k hlt] at hr1
   have hcs:=cnL_take_succ xs k hlt
   have hcl:=cnL_take_le xs (k + 1)
   generalize hK : k0 + cnL (xs.take k) = K at hr1
   generalize xs[k] = x at hr1 hcs
   rw [show Mk.cn x = Stamp.cn x from rfl] at hcs
   have hs2 : Hid (k0 + cnL (xs.take (k + 1)) = K + Stamp.cn x):=zd zz19
   have hKb : K + Stamp.cn x ≤ 4611686018427387904:=zz19
   unfold Stamp.cn at hKb
   clear hcs hK hcl he1 hx
   have hc0:=fun o => hb.cell (p:=⟨b1,o,none⟩) hl1
   have hr1 : rd false w c1 (Stamp.me x K) (T1 k):=hr1
   obtain ⟨eA0,ek0,eS0,eA1,ek1,eS1,eA2,ek2,eS2,rfl,ef0,ef1,ea0,eb0,er0,es0,ea1,eb1,er1,es1,ea2,eb2,er2,es2,epw⟩:=Stamp.open hr1
   have q0 : w.cell? ⟨b1,o1 + k * 5,none⟩ = some (.int .i64 (((K : Nat)) : Int)):=by have:=ha1 0 _ rfl; simpa [show Lay.n Stamp = 5 from rfl,Stamp.me,Int.natCast_add] using this
   have q1 : w.cell? ⟨b1,o1 + k * 5 + 1,none⟩ = some (.int .i64 (((K + 1 : Nat)) : Int)):=by have:=ha1 1 _ rfl; simpa [show Lay.n Stamp = 5 from rfl,Stamp.me,Int.natCast_add] using this
   have q2 : w.cell? ⟨b1,o1 + k * 5 + 2,none⟩ = some (.slice eA0 x.sig.open_.length ek0):=by have:=ha1 2 _ rfl; simpa [show Lay.n Stamp = 5 from rfl,Stamp.me] using this
   have q3 : w.cell? ⟨b1,o1 + k * 5 + 3,none⟩ = some (.slice eA1 x.sig.shut.length ek1):=by have:=ha1 3 _ rfl; simpa [show Lay.n Stamp = 5 from rfl,Stamp.me] using this
   have q4 : w.cell? ⟨b1,o1 + k * 5 + 4,none⟩ = some (.slice eA2 x.sig.sides.length ek2):=by have:=ha1 4 _ rfl; simpa [show Lay.n Stamp = 5 from rfl,Stamp.me] using this
   have er0_ : Row false w eA0 ek0 (meL x.sig.open_ (K + 1 + 1)) eS0:=er0
   have ea0_ : x.sig.open_.length ≤ ek0:=by have:=ea0; simpa [Stamp.me] using this
   have er1_ : Row false w eA1 ek1 (meL x.sig.shut (K + 1 + 1 + cnL x.sig.open_)) eS1:=er1
   have ea1_ : x.sig.shut.length ≤ ek1:=by have:=ea1; simpa [Stamp.me] using this
   have er2_ : Row false w eA2 ek2 (meL x.sig.sides (K + 1 + 1 + cnL x.sig.open_ + cnL x.sig.shut)) eS2:=er2
   have ea2_ : x.sig.sides.length ≤ ek2:=by have:=ea2; simpa [Stamp.me] using this
   generalize hK1 : K + 1 + 1 + cnL x.sig.open_ = K1 at *
   have HK1:=zd hK1; clear hK1
   generalize hK2 : K1 + cnL x.sig.shut = K2 at *
   have HK2:=zd hK2; clear hK2
   generalize hK3 : K2 + cnL x.sig.sides = K3 at *
   have HK3:=zd hK3; clear hK3
   have hKb1 : K1 + 0 ≤ 4611686018427387904:=zz47
   have hKb2 : K2 + 0 ≤ 4611686018427387904:=zz47
   have hKb3 : K3 + 0 ≤ 4611686018427387904:=zz47
   clear ha1 er0 er1 er2
   go_wp2_with (fail)
   refine (held_StringS x.sig.open_ _ _ _ _ _ (K + 1 + 1) zz39 (by have:=HK1.out; omega) (er0_.later (by have zh:=hb; exact zz1)) (Nat.le_trans ea0_ eb0)).mono ?_
   rw [HK1.out]
   rintro e1 w1 ⟨rfl,hb1⟩
   have hB1 : Below w.heap.size w w1:=by have zh:=hb; refine Below.trans ?_ (hb1.mono ?_) <;> exact zz16
   have hz1:=hB1.size
   have hc1:=fun o => hB1.cell (p:=⟨b1,o,none⟩) hl1
   go_wp2_with (fail)
   refine (held_StringS x.sig.shut _ _ _ _ _ (K1) zz39 (by have:=HK2.out; omega) (er1_.later (by have zh:=hB1; exact zz1)) (Nat.le_trans ea1_ eb1)).mono ?_
   rw [HK2.out]
   rintro e2 w2 ⟨rfl,hb2⟩
   have hB2 : Below w.heap.size w w2:=by have zh:=hB1; refine Below.trans ?_ (hb2.mono ?_) <;> exact zz16
   have hz2:=hB2.size
   have hc2:=fun o => hB2.cell (p:=⟨b1,o,none⟩) hl1
   go_wp2_with (fail)
   refine (held_StringS x.sig.sides _ _ _ _ _ (K2) zz39 (by have:=HK3.out; omega) (er2_.later (by have zh:=hB2; exact zz1)) (Nat.le_trans ea2_ eb2)).mono ?_
   rw [HK3.out]
   rintro e3 w3 ⟨rfl,hb3⟩
   have hB3 : Below w.heap.size w w3:=by have zh:=hB2; refine Below.trans ?_ (hb3.mono ?_) <;> exact zz16
   have hz3:=hB3.size
   have hc3:=fun o => hB3.cell (p:=⟨b1,o,none⟩) hl1
   go_wp2
   go_roundw
   case rel => exact ⟨k + 1,zz19,by go_num,by rw [hs2.out]; first | go_num | (congr 1; unfold Stamp.cn; have:=HK1.out; have:=HK2.out; have:=HK3.out; omega),by have zh:=hB3; exact zz1⟩
   case measure => simp [intOf]; omega
  ·have hke : k = xs.length:=by omega
   go_wp2
   go_ret; refine ⟨?_,hb⟩; subst hke; rw [List.take_of_length_le (Nat.le_refl _)]; rfl
theorem held_Whole (x : Whole) (w : World) (cs : List Value) (S : Blks) (a : Int) (k : Nat) (ha : a = (k : Int)) (hk : k + x.ct ≤ 4611686018427387904) (hx : rd false w cs (x.mt k) S) :
  Calls Tryz.prog 52 #[.agg cs.toArray, .int .i64 a] w fun e w' => e = .returned (.int .i64 ((k + x.ct : Nat) : Int)) ∧ Below w.heap.size w w':=by
 subst ha
 obtain ⟨A0,k0,S0,A1,k1,S1,A2,k2,S2,A3,k3,S3,A4,k4,S4,A5,k5,S5,A6,k6,S6,rfl,f3,f4,f5,f6,f7,a0,b0,r0,s0,a1,b1,r1,s1,a2,b2,r2,s2,a3,b3,r3,s3,a4,b4,r4,s4,a5,b5,r5,s5,a6,b6,r6,s6,pw⟩:=Whole.open hx
 clear hx
 unfold Whole.ct at hk
 simp only [Whole.cs,Whole.mt,meL_length]
 have R0 : Row false w A0 k0 (meL x.proof.bucket (k)) S0:=r0
 have L0 : x.proof.bucket.length ≤ maxLen:=by have:=Nat.le_trans a0 b0; simpa [Whole.mt] using this
 have R1 : Row false w A1 k1 (meL x.proof.sides (k + cnL x.proof.bucket)) S1:=r1
 have L1 : x.proof.sides.length ≤ maxLen:=by have:=Nat.le_trans a1 b1; simpa [Whole.mt] using this
 have R2 : Row false w A2 k2 (meL x.tops (k + cnL x.proof.bucket + cnL x.proof.sides)) S2:=r2
 have L2 : x.tops.length ≤ maxLen:=by have:=Nat.le_trans a2 b2; simpa [Whole.mt] using this
 have R3 : Row false w A3 k3 (meL x.seal_.sig.open_ (k + cnL x.proof.bucket + cnL x.proof.sides + cnL x.tops)) S3:=r3
 have L3 : x.seal_.sig.open_.length ≤ maxLen:=by have:=Nat.le_trans a3 b3; simpa [Whole.mt] using this
 have R4 : Row false w A4 k4 (meL x.seal_.sig.shut (k + cnL x.proof.bucket + cnL x.proof.sides + cnL x.tops + cnL x.seal_.sig.open_)) S4:=r4
 have L4 : x.seal_.sig.shut.length ≤ maxLen:=by have:=Nat.le_trans a4 b4; simpa [Whole.mt] using this
 have R5 : Row false w A5 k5 (meL x.seal_.sig.sides (k + cnL x.proof.bucket + cnL x.proof.sides + cnL x.tops + cnL x.seal_.sig.open_ + cnL x.seal_.sig.shut)) S5:=r5
 have L5 : x.seal_.sig.sides.length ≤ maxLen:=by have:=Nat.le_trans a5 b5; simpa [Whole.mt] using this
 have R6 : Row false w A6 k6 (meL x.stamps (k + cnL x.proof.bucket + cnL x.proof.sides + cnL x.tops + cnL x.seal_.sig.open_ + cnL x.seal_.sig.shut + cnL x.seal_.sig.sides)) S6:=r6
 have L6 : x.stamps.length ≤ maxLen:=by have:=Nat.le_trans a6 b6; simpa [Whole.mt] using this
 clear r0 r1 r2 r3 r4 r5 r6
 generalize hK0 : k + cnL x.proof.bucket = K0 at *
 have HK0:=zd hK0; clear hK0
 generalize hK1 : K0 + cnL x.proof.sides = K1 at *
 have HK1:=zd hK1; clear hK1
 generalize hK2 : K1 + cnL x.tops = K2 at *
 have HK2:=zd hK2; clear hK2
 generalize hK3 : K2 + cnL x.seal_.sig.open_ = K3 at *
 have HK3:=zd hK3; clear hK3
 generalize hK4 : K3 + cnL x.seal_.sig.shut = K4 at *
 have HK4:=zd hK4; clear hK4
 generalize hK5 : K4 + cnL x.seal_.sig.sides = K5 at *
 have HK5:=zd hK5; clear hK5
 generalize hK6 : K5 + cnL x.stamps = K6 at *
 have HK6:=zd hK6; clear hK6
 have hfin : Hid (((k + x.ct : Nat) : Int) = (K6 : Int)):=zd (by unfold Whole.ct; have:=HK0.out; have:=HK1.out; have:=HK2.out; have:=HK3.out; have:=HK4.out; have:=HK5.out; have:=HK6.out; omega)
 rw [hfin.out]
 go_enter Tryz.func52,Tryz.ntmps52
 go_wp2_with (fail)
 refine (held_Proof x.proof _ _ _ _ k zz83 (by have:=HK0.out; have:=HK1.out; have:=HK2.out; have:=HK3.out; have:=HK4.out; have:=HK5.out; have:=HK6.out; unfold Proof.ct; omega) (Lay.later (by have h:=Proof.mk' (w:=w) (x:=Proof.mt x.proof k) (m:=false) (S:=S) (by simpa [Proof.mt,Whole.mt] using a0) b0 (by have h:=R0; exact h) s0 (by simpa [Proof.mt,Whole.mt] using a1) b1 (by have h:=R1; rw [← HK0.out] at h; exact h) s1 zz51; simpa [Proof.cs,Proof.mt] using h) zz4)).mono ?_
 rw [show k + (x.proof).ct = K1 from by have:=HK0.out; have:=HK1.out; have:=HK2.out; have:=HK3.out; have:=HK4.out; have:=HK5.out; have:=HK6.out; unfold Proof.ct; omega]
 rintro e1 w1 ⟨rfl,hb1⟩
 have hB1 : Below w.heap.size w w1:=by refine Below.trans (b:=_) ?_ (hb1.mono ?_) <;> exact zz11
 have hz1 : w.heap.size + 1 ≤ w1.heap.size:=zz32
 have hc1:=fun o => hb1.cell (p:=⟨w.heap.size,o,none⟩) zz0
 go_wp2_with (fail)
 refine (held_StringS x.tops _ _ _ _ _ K1 zz83 zz81 (R2.later (by have zh:=hB1; exact zz1)) L2).mono ?_
 rw [HK2.out]
 rintro e2 w2 ⟨rfl,hb2⟩
 have hB2 : Below w.heap.size w w2:=by have zh:=hB1; refine Below.trans (b:=_) ?_ (hb2.mono ?_) <;> exact zz7
 have hz2 : w.heap.size + 1 ≤ w2.heap.size:=zz48
 have hc2:=fun o => hb2.cell (p:=⟨w.heap.size,o,none⟩) zz0
 go_wp2_with (fail)
 refine (held_Seal x.seal_ _ _ _ _ K2 zz83 (by have:=HK0.out; have:=HK1.out; have:=HK2.out; have:=HK3.out; have:=HK4.out; have:=HK5.out; have:=HK6.out; unfold Seal.ct; omega) (Lay.later (by have h:=Seal.mk' (w:=w) (x:=Seal.mt x.seal_ K2) (m:=false) (S:=S) f3 f4 f5 f6 f7 (by simpa [Seal.mt,Whole.mt] using a3) b3 (by have h:=R3; exact h) s3 (by simpa [Seal.mt,Whole.mt] using a4) b4 (by have h:=R4; rw [← HK3.out] at h; exact h) s4 (by simpa [Seal.mt,Whole.mt] using a5) b5 (by have h:=R5; rw [← HK4.out] at h; rw [← HK3.out] at h; exact h) s5 zz51; simpa [Seal.cs,Seal.mt] using h) (by have zh:=hB2; exact zz1))).mono ?_
 rw [show K2 + (x.seal_).ct = K5 from by have:=HK0.out; have:=HK1.out; have:=HK2.out; have:=HK3.out; have:=HK4.out; have:=HK5.out; have:=HK6.out; unfold Seal.ct; omega]
 rintro e3 w3 ⟨rfl,hb3⟩
 have hB3 : Below w.heap.size w w3:=by have zh:=hB2; refine Below.trans (b:=_) ?_ (hb3.mono ?_) <;> exact zz7
 have hz3 : w.heap.size + 1 ≤ w3.heap.size:=zz60
 have hc3:=fun o => hb3.cell (p:=⟨w.heap.size,o,none⟩) zz0
 go_wp2_with (fail)
 refine (held_StampS x.stamps _ _ _ _ _ K5 zz83 zz81 (R6.later (by have zh:=hB3; exact zz1)) L6).mono ?_
 rw [HK6.out]
 rintro e4 w4 ⟨rfl,hb4⟩
 have hB4 : Below w.heap.size w w4:=by have zh:=hB3; refine Below.trans (b:=_) ?_ (hb4.mono ?_) <;> exact zz7
 have hz4 : w.heap.size + 1 ≤ w4.heap.size:=zz66
 have hc4:=fun o => hb4.cell (p:=⟨w.heap.size,o,none⟩) zz0
 go_wp2
 go_ret; exact ⟨rfl,by have zh:=hB4; exact zz1⟩
end Go.Proofs.YtcbbjfafmmcfiaaGreatDoor
