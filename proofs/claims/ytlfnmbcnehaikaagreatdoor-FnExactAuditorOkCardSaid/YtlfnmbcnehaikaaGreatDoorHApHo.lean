/- A part of the proof. -/
import Derived.Test.YtlfnmbcnehaikaaGreatDoorHApTg
set_option linter.unusedVariables false
set_option linter.unusedSimpArgs false
set_option maxRecDepth 20000
set_option maxHeartbeats 4000000
namespace Go.Proofs.YtlfnmbcnehaikaaGreatDoor
open Go.RowKit Lay Mk
theorem house_in (n : Int) (w : World) : Calls Tryz.prog 57 #[.int .i64 n] w fun e w' => e = .returned (.bool (inB n 0 2)) ∧ w = w':=by
 go_enter Tryz.func57,Tryz.ntmps57
 go_wp2_with (go_at_call 62; refine (impl_in _ _ _ _).mono ?_; rintro e w' ⟨rfl,rfl⟩)
 go_ret
 exact ⟨rfl,rfl⟩
theorem epoch_in (n : Int) (w : World) : Calls Tryz.prog 147 #[.int .i64 n] w fun e w' => e = .returned (.bool (inB n 1 4)) ∧ w = w':=by
 go_enter Tryz.func147,Tryz.ntmps147
 go_wp2_with (go_at_call 62; refine (impl_in _ _ _ _).mono ?_; rintro e w' ⟨rfl,rfl⟩)
 go_ret
 exact ⟨rfl,rfl⟩
theorem row_box {w : World} {b : Nat} (cap : Nat) (l : List ByteArray) (hc : ∀ j (h : j < l.length),w.cell? ⟨b,j,none⟩ = some (.string l[j]) ∧ l[j].size ≤ maxLen) : Row false w (some ⟨b,0,none⟩) cap l (fun q => q = b):=by
 intro _
 refine ⟨b,0,rfl,rfl,fun _ => none_,fun _ _ x => x.elim,fun h => by simp at h,fun i hi => ⟨[.string l[i]],fun j u hu => ?_,⟨rfl,(hc i hi).2⟩⟩⟩
 have hj:=(List.getElem?_eq_some_iff.1 hu).1
 have hj : j = 0:=by simpa using hj
 subst hj
 rw [← hu,show 0 + i * n ByteArray + 0 = i by rw [show n ByteArray = 1 from rfl]; omega]
 exact (hc i hi).1
def headOk (x : Head) : Bool:=inB x.house 0 2 && inB x.epoch 1 4 && decide (x.root.size = 16) && (if x.epoch = 1 then decide (x.prev = ⟨#[]⟩) else decide (x.prev.size = 16))
def headTx (x : Head) : ByteArray:=bs [UInt8.ofNat x.house.toNat,UInt8.ofNat x.epoch.toNat] ++ x.root ++ x.prev
def headText (x : Head) : ByteArray:=if headOk x then headTx x else ⟨#[]⟩
def headHash (x : Head) : ByteArray:=if headOk x then tagHash 4 [headTx x] 16 else ⟨#[]⟩
theorem headOk_b {x : Head} (h : headOk x = true) : (0 ≤ x.house ∧ x.house ≤ 2) ∧ (1 ≤ x.epoch ∧ x.epoch ≤ 4) ∧ x.root.size = 16 ∧ x.prev.size ≤ 16:=by
 simp only [headOk,inB,Bool.and_eq_true,decide_eq_true_eq] at h
 obtain ⟨⟨⟨h1,h2⟩,h3⟩,h4⟩:=h
 refine ⟨h1,h2,h3,?_⟩
 split at h4
 ·have h4 : x.prev = ⟨#[]⟩:=by simpa using h4
  rw [h4]; decide
 ·have h4 : x.prev.size = 16:=by simpa using h4
  omega
theorem headTx_le {x : Head} (h : headOk x = true) : (headTx x).size ≤ 34:=by
 obtain ⟨_,_,h3,h4⟩:=headOk_b h
 unfold headTx
 rw [ByteArray.size_append,ByteArray.size_append,bs_size]
 simp; omega
theorem empty_eq (p : ByteArray) : (p.toList == ([] : List UInt8)) = decide (p = ⟨#[]⟩):=by
 have h : (⟨#[]⟩ : ByteArray).toList = []:=by rw [ByteArray.toList_eq]
 have h2:=str_dec p ⟨#[]⟩
 rw [h] at h2; exact h2
theorem cast16 (n : Nat) : ((n : Int) = 16) = (n = 16):=by apply propext; omega
theorem cast16b (n : Nat) : ((n : Int) == 16) = decide (n = 16):=by
 rw [Bool.eq_iff_iff,beq_iff_eq,decide_eq_true_iff]; omega
theorem impl_HeadOk (x : Head) (w : World) : Calls Tryz.prog 99 #[.agg (Head.cs x).toArray] w fun e w' => e = .returned (.bool (headOk x)) ∧ Below w.heap.size w w':=by
 obtain ⟨hs,ep,r,p⟩:=x
 simp only [Head.cs]
 have HE:=zd (empty_eq p)
 go_enter Tryz.func99,Tryz.ntmps99
 go_wp2_with (first | (go_at_call 57; refine (house_in _ _).mono ?_; rintro e w2 ⟨rfl,rfl⟩) | (go_at_call 147; refine (epoch_in _ _).mono ?_; rintro e w2 ⟨rfl,rfl⟩))
 all_goals (go_ret; refine ⟨ya1 ?_,(Below.refl _ _).alloc (Nat.le_refl _) _⟩; have HE1:=HE.out; simp_all [headOk,cast16,cast16b])
theorem spec_HeadOk (x : Head) (w : World) : Calls Tryz.prog 92 #[.agg (Head.cs x).toArray] w fun e w' => e = .returned (.bool (headOk x)) ∧ Below w.heap.size w w':=by
 obtain ⟨hs,ep,r,p⟩:=x
 simp only [Head.cs]
 have HE:=zd (empty_eq p)
 go_enter Tryz.func92,Tryz.ntmps92
 go_wp2_with (go_at_call 48; refine (spec_in _ _ _ _).mono ?_; rintro e w2 ⟨rfl,rfl⟩)
 all_goals (go_ret; refine ⟨ya1 ?_,(Below.refl _ _).alloc (Nat.le_refl _) _⟩; have HE1:=HE.out; simp_all [headOk,cast16,cast16b])
theorem impl_HeadText (x : Head) (w : World) : Calls Tryz.prog 115 #[.agg (Head.cs x).toArray] w fun e w' => e = .returned (.tuple #[.string (headText x), .bool (headOk x)]) ∧ Below w.heap.size w w':=by
 have hOk : ∀ W,Calls Tryz.prog 99 #[.agg (Head.cs x).toArray] W _:=fun W => impl_HeadOk x W
 cases hok : headOk x
 ·have HT : Hid (headText x = ⟨#[]⟩):=zd (by unfold headText; rw [hok]; rfl)
  rw [hok] at hOk
  obtain ⟨hs,ep,r,p⟩:=x
  simp only [Head.cs] at *
  go_enter Tryz.func115,Tryz.ntmps115
  go_wp2_with (fail)
  refine (hOk _).mono ?_
  rintro e0 w1 ⟨rfl,hb⟩
  go_wp2
  go_ret2
  exact ⟨by rw [HT.out]; rfl,((Below.refl _ _).alloc (Nat.le_refl _) _).trans (hb.mono zz17)⟩
 ·have HT : Hid (headText x = headTx x):=zd (by unfold headText; rw [hok]; rfl)
  obtain ⟨⟨a1,a2⟩,⟨b1,b2⟩,c1,d1⟩:=headOk_b hok
  rw [hok] at hOk
  obtain ⟨hs,ep,r,p⟩:=x
  simp only [Head.cs,headTx] at *
  obtain ⟨hs,rfl⟩ : ∃ n : Nat,hs = n:=⟨hs.toNat,zz4⟩
  obtain ⟨ep,rfl⟩ : ∃ n : Nat,ep = n:=⟨ep.toNat,zz4⟩
  simp only [Int.toNat_natCast] at HT
  have wh : IntKind.u8.wrap (hs : Int) = hs:=by rw [IntKind.wrap_u8']; omega
  have we : IntKind.u8.wrap (ep : Int) = ep:=by rw [IntKind.wrap_u8']; omega
  have v1 : ¬ 9223372036854775807 < (bs [UInt8.ofNat hs,UInt8.ofNat ep]).size + r.size:=by rw [bs_size]; simp; omega
  have v2 : ¬ 9223372036854775807 < (bs [UInt8.ofNat hs,UInt8.ofNat ep]).size + r.size + p.size:=by rw [bs_size]; simp; omega
  have HC : Hid (([.int .u8 (hs : Int), .int .u8 (ep : Int)] : List Value) = [UInt8.ofNat hs,UInt8.ofNat ep].map u8c):=zd (by
   have e1 : hs % 256 = hs:=zz4
   have e2 : ep % 256 = ep:=zz4
   simp [u8c,e1,e2]; try omega)
  have hR : ∀ W : World,BR (W.alloc (.cells #[.int .u8 (hs : Int), .int .u8 (ep : Int)] 5)) (some ⟨W.heap.size,0,none⟩) 2 [UInt8.ofNat hs,UInt8.ofNat ep] (fun b => W.heap.size ≤ b):=fun W => br_lit W _ _ [UInt8.ofNat hs,UInt8.ofNat ep] (by rw [← HC.out])
  go_enter Tryz.func115,Tryz.ntmps115
  go_wp2_with (fail)
  refine (hOk _).mono ?_
  rintro e0 w1 ⟨rfl,hb⟩
  have q0:=(hb.cell (p:=⟨w.heap.size,0,none⟩) zz17).trans (ya2 w #[.int .i64 hs, .int .i64 ep, .string r, .string p] _ 0 _ rfl)
  have q1:=(hb.cell (p:=⟨w.heap.size,1,none⟩) zz17).trans (ya2 w #[.int .i64 hs, .int .i64 ep, .string r, .string p] _ 1 _ rfl)
  have q2:=(hb.cell (p:=⟨w.heap.size,2,none⟩) zz17).trans (ya2 w #[.int .i64 hs, .int .i64 ep, .string r, .string p] _ 2 _ rfl)
  have q3:=(hb.cell (p:=⟨w.heap.size,3,none⟩) zz17).trans (ya2 w #[.int .i64 hs, .int .i64 ep, .string r, .string p] _ 3 _ rfl)
  have hz : w.heap.size < w1.heap.size:=by have:=hb.size; simp at this; omega
  have HB : Hid (Below w.heap.size w w1):=zd (((Below.refl _ _).alloc (Nat.le_refl _) _).trans (hb.mono zz17))
  clear hb hOk hok
  go_wp2_with (refine wpList_strB rfl _ rfl Tryz.underlying5 Tryz.underlying9 rfl rfl (hR _) ?_)
  go_ret2
  exact ⟨by rw [HT.out]; rfl,HB.out.alloc (Nat.le_of_lt hz) _⟩
theorem spec_HeadText (x : Head) (w : World) : Calls Tryz.prog 107 #[.agg (Head.cs x).toArray] w fun e w' => e = .returned (.tuple #[.string (headText x), .bool (headOk x)]) ∧ Below w.heap.size w w':=by
 have hOk : ∀ W,Calls Tryz.prog 92 #[.agg (Head.cs x).toArray] W _:=fun W => spec_HeadOk x W
 cases hok : headOk x
 ·have HT : Hid (headText x = ⟨#[]⟩):=zd (by unfold headText; rw [hok]; rfl)
  rw [hok] at hOk
  obtain ⟨hs,ep,r,p⟩:=x
  simp only [Head.cs] at *
  go_enter Tryz.func107,Tryz.ntmps107
  go_wp2_with (fail)
  refine (hOk _).mono ?_
  rintro e0 w1 ⟨rfl,hb⟩
  go_wp2
  go_ret2
  exact ⟨by rw [HT.out]; rfl,((Below.refl _ _).alloc (Nat.le_refl _) _).trans (hb.mono zz17)⟩
 ·have HT : Hid (headText x = headTx x):=zd (by unfold headText; rw [hok]; rfl)
  obtain ⟨⟨a1,a2⟩,⟨b1,b2⟩,c1,d1⟩:=headOk_b hok
  rw [hok] at hOk
  obtain ⟨hs,ep,r,p⟩:=x
  simp only [Head.cs,headTx] at *
  obtain ⟨hs,rfl⟩ : ∃ n : Nat,hs = n:=⟨hs.toNat,zz4⟩
  obtain ⟨ep,rfl⟩ : ∃ n : Nat,ep = n:=⟨ep.toNat,zz4⟩
  simp only [Int.toNat_natCast] at HT
  have wh : IntKind.u8.wrap (hs : Int) = hs:=by rw [IntKind.wrap_u8']; omega
  have we : IntKind.u8.wrap (ep : Int) = ep:=by rw [IntKind.wrap_u8']; omega
  have v1 : ¬ 9223372036854775807 < (bs [UInt8.ofNat hs,UInt8.ofNat ep]).size + r.size:=by rw [bs_size]; simp; omega
  have v2 : ¬ 9223372036854775807 < (bs [UInt8.ofNat hs,UInt8.ofNat ep]).size + r.size + p.size:=by rw [bs_size]; simp; omega
  have HC : Hid (([.int .u8 (hs : Int), .int .u8 (ep : Int)] : List Value) = [UInt8.ofNat hs,UInt8.ofNat ep].map u8c):=zd (by
   have e1 : hs % 256 = hs:=zz4
   have e2 : ep % 256 = ep:=zz4
   simp [u8c,e1,e2]; try omega)
  have hR : ∀ W : World,BR (W.alloc (.cells #[.int .u8 (hs : Int), .int .u8 (ep : Int)] 5)) (some ⟨W.heap.size,0,none⟩) 2 [UInt8.ofNat hs,UInt8.ofNat ep] (fun b => W.heap.size ≤ b):=fun W => br_lit W _ _ [UInt8.ofNat hs,UInt8.ofNat ep] (by rw [← HC.out])
  go_enter Tryz.func107,Tryz.ntmps107
  go_wp2_with (fail)
  refine (hOk _).mono ?_
  rintro e0 w1 ⟨rfl,hb⟩
  have q0:=(hb.cell (p:=⟨w.heap.size,0,none⟩) zz17).trans (ya2 w #[.int .i64 hs, .int .i64 ep, .string r, .string p] _ 0 _ rfl)
  have q1:=(hb.cell (p:=⟨w.heap.size,1,none⟩) zz17).trans (ya2 w #[.int .i64 hs, .int .i64 ep, .string r, .string p] _ 1 _ rfl)
  have q2:=(hb.cell (p:=⟨w.heap.size,2,none⟩) zz17).trans (ya2 w #[.int .i64 hs, .int .i64 ep, .string r, .string p] _ 2 _ rfl)
  have q3:=(hb.cell (p:=⟨w.heap.size,3,none⟩) zz17).trans (ya2 w #[.int .i64 hs, .int .i64 ep, .string r, .string p] _ 3 _ rfl)
  have hz : w.heap.size < w1.heap.size:=by have:=hb.size; simp at this; omega
  have HB : Hid (Below w.heap.size w w1):=zd (((Below.refl _ _).alloc (Nat.le_refl _) _).trans (hb.mono zz17))
  clear hb hOk hok
  go_wp2_with (refine wpList_strB rfl _ rfl Tryz.underlying5 Tryz.underlying9 rfl rfl (hR _) ?_)
  go_ret2
  exact ⟨by rw [HT.out]; rfl,HB.out.alloc (Nat.le_of_lt hz) _⟩
theorem impl_HeadHash (x : Head) (w : World) (hT : Tabs w) : Calls Tryz.prog 102 #[.agg (Head.cs x).toArray] w fun e w' => e = .returned (.string (headHash x)) ∧ Below w.heap.size w w':=by
 have hTx : ∀ W,Calls Tryz.prog 115 #[.agg (Head.cs x).toArray] W _:=fun W => impl_HeadText x W
 cases hok : headOk x
 ·have HT : Hid (headHash x = ⟨#[]⟩):=zd (by unfold headHash; rw [hok]; rfl)
  rw [hok] at hTx
  obtain ⟨hs,ep,r,p⟩:=x
  simp only [Head.cs] at *
  go_enter Tryz.func102,Tryz.ntmps102
  go_wp2_with (fail)
  refine (hTx _).mono ?_
  rintro e0 w1 ⟨rfl,hb⟩
  go_wp2
  go_ret
  exact ⟨by rw [HT.out]; rfl,((Below.refl _ _).alloc (Nat.le_refl _) _).trans (hb.mono zz17)⟩
 ·have HT : Hid (headHash x = tagHash 4 [headTx x] 16):=zd (by unfold headHash; rw [hok]; rfl)
  have hle:=headTx_le hok
  rw [hok,show headText x = headTx x by unfold headText; rw [hok]; rfl] at hTx
  obtain ⟨t,ht⟩ : ∃ t,headTx x = t:=⟨_,rfl⟩
  rw [ht] at hle hTx HT
  clear ht
  obtain ⟨hs,ep,r,p⟩:=x
  simp only [Head.cs] at *
  go_enter Tryz.func102,Tryz.ntmps102
  go_wp2_with (fail)
  refine (hTx _).mono ?_
  rintro e0 w1 ⟨rfl,hb⟩
  have HB : Hid (Below w.heap.size w w1):=zd (((Below.refl _ _).alloc (Nat.le_refl _) _).trans (hb.mono zz17))
  go_wp2_with (fail)
  have hcell : ∀ j (h : j < [t].length),(w1.alloc (.cells #[.string t] 9)).cell? ⟨w1.heap.size,j,none⟩ = some (.string [t][j]) ∧ [t][j].size ≤ maxLen:=by
   intro j hj
   have hj : j = 0:=by simpa using hj
   subst hj
   exact ⟨ya2 _ _ _ _ _ rfl,by simp only [List.getElem_cons_zero]; unfold maxLen; omega⟩
  refine ((impl_hashOf _ 4 zz30 [t] _ _ _ (row_box 1 _ hcell) zz17 16 zz30 (((hT.later ((Below.refl _ _).alloc (Nat.le_refl _) _)).later hb).later ((Below.refl _ _).alloc (Nat.le_refl _) _)))).mono ?_
  rintro e0 w2 ⟨rfl,hb2⟩
  go_wp2
  go_ret
  exact ⟨by rw [HT.out]; rfl,(HB.out.alloc HB.out.size _).trans (hb2.mono (by have:=HB.out.size; simp; omega))⟩
theorem spec_HeadHash (x : Head) (w : World) : Calls Tryz.prog 95 #[.agg (Head.cs x).toArray] w fun e w' => e = .returned (.string (headHash x)) ∧ Below w.heap.size w w':=by
 have hTx : ∀ W,Calls Tryz.prog 107 #[.agg (Head.cs x).toArray] W _:=fun W => spec_HeadText x W
 cases hok : headOk x
 ·have HT : Hid (headHash x = ⟨#[]⟩):=zd (by unfold headHash; rw [hok]; rfl)
  rw [hok] at hTx
  obtain ⟨hs,ep,r,p⟩:=x
  simp only [Head.cs] at *
  go_enter Tryz.func95,Tryz.ntmps95
  go_wp2_with (fail)
  refine (hTx _).mono ?_
  rintro e0 w1 ⟨rfl,hb⟩
  go_wp2
  go_ret
  exact ⟨by rw [HT.out]; rfl,((Below.refl _ _).alloc (Nat.le_refl _) _).trans (hb.mono zz17)⟩
 ·have HT : Hid (headHash x = tagHash 4 [headTx x] 16):=zd (by unfold headHash; rw [hok]; rfl)
  have hle:=headTx_le hok
  rw [hok,show headText x = headTx x by unfold headText; rw [hok]; rfl] at hTx
  obtain ⟨t,ht⟩ : ∃ t,headTx x = t:=⟨_,rfl⟩
  rw [ht] at hle hTx HT
  clear ht
  obtain ⟨hs,ep,r,p⟩:=x
  simp only [Head.cs] at *
  go_enter Tryz.func95,Tryz.ntmps95
  go_wp2_with (fail)
  refine (hTx _).mono ?_
  rintro e0 w1 ⟨rfl,hb⟩
  have HB : Hid (Below w.heap.size w w1):=zd (((Below.refl _ _).alloc (Nat.le_refl _) _).trans (hb.mono zz17))
  go_wp2_with (fail)
  have hcell : ∀ j (h : j < [t].length),(w1.alloc (.cells #[.string t] 9)).cell? ⟨w1.heap.size,j,none⟩ = some (.string [t][j]) ∧ [t][j].size ≤ maxLen:=by
   intro j hj
   have hj : j = 0:=by simpa using hj
   subst hj
   exact ⟨ya2 _ _ _ _ _ rfl,by simp only [List.getElem_cons_zero]; unfold maxLen; omega⟩
  refine ((spec_TagHash _ 4 zz30 [t] _ _ _ (row_box 1 _ hcell) zz17 16 zz30)).mono ?_
  rintro e0 w2 ⟨rfl,hb2⟩
  go_wp2
  go_ret
  exact ⟨by rw [HT.out]; rfl,(HB.out.alloc HB.out.size _).trans (hb2.mono (by have:=HB.out.size; simp; omega))⟩
end Go.Proofs.YtlfnmbcnehaikaaGreatDoor
