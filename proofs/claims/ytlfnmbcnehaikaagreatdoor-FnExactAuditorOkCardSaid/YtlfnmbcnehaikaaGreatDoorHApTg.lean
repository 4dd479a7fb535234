/- A part of the proof. -/
import Derived.Test.YtlfnmbcnehaikaaGreatDoorHApDx
set_option linter.unusedVariables false
set_option linter.unusedSimpArgs false
set_option maxRecDepth 20000
set_option maxHeartbeats 4000000
namespace Go.Proofs.YtlfnmbcnehaikaaGreatDoor
open Go.RowKit Lay Mk
def partB (p : ByteArray) : List UInt8:=varB p.size ++ p.data.toList
def tagBody (kind : Int) (xs : List ByteArray) : List UInt8:=UInt8.ofNat kind.toNat :: xs.flatMap partB
def partsOk (xs : List ByteArray) : Bool:=xs.all (fun p => decide (p.size ≤ 200))
def tagOk (kind : Int) (xs : List ByteArray) : Bool:=inB kind 1 8 && decide (xs.length ≤ 60) && partsOk xs
def tagText (kind : Int) (xs : List ByteArray) : ByteArray:=if tagOk kind xs then bs (tagBody kind xs) else ⟨#[]⟩
def tagHash (kind : Int) (xs : List ByteArray) (n : Int) : ByteArray:=if tagOk kind xs then cutDigest (tagText kind xs) n else ⟨#[]⟩
theorem varB_le5 {n : Nat} (h : n ≤ 200) : (varB n).length ≤ 5:=by
 have h1:=varT_le (n:=n) zz4
 unfold varT at h1; rw [bs_size] at h1; exact h1
theorem partB_le {p : ByteArray} (h : p.size ≤ 200) : (partB p).length ≤ 205:=by
 have h1:=varB_le5 h
 have h2 : p.data.toList.length = p.size:=rfl
 unfold partB; rw [List.length_append,h2]; omega
theorem body_take (kind : Int) (xs : List ByteArray) (k : Nat) (h : k < xs.length) : tagBody kind (xs.take (k + 1)) = tagBody kind (xs.take k) ++ partB xs[k]:=by
 unfold tagBody; rw [List.take_succ_eq_append_getElem h,List.flatMap_append]; simp
theorem body_le (kind : Int) : ∀ (xs : List ByteArray),(∀ j (h : j < xs.length),xs[j].size ≤ 200) → (tagBody kind xs).length ≤ 1 + 205 * xs.length
 | [],_ => by simp [tagBody]
 | x :: xs,h => by
  have h1:=body_le kind xs (fun j hj => h (j + 1) zz23)
  have h2:=partB_le (h 0 zz17)
  simp only [List.getElem_cons_zero] at h2
  simp only [tagBody,List.flatMap_cons,List.length_cons,List.length_append] at *
  omega
theorem parts_bad {xs : List ByteArray} {k : Nat} (h : k < xs.length) (hp : 200 < xs[k].size) : partsOk xs = false:=by
 unfold partsOk; rw [List.all_eq_false]; exact ⟨xs[k],List.getElem_mem h,by simpa using hp⟩
theorem parts_good {xs : List ByteArray} (h : ∀ j (h : j < xs.length),xs[j].size ≤ 200) : partsOk xs = true:=by
 unfold partsOk; rw [List.all_eq_true]; intro x hx
 obtain ⟨j,hj,rfl⟩:=List.getElem_of_mem hx
 simpa using h j hj
theorem parts_at {xs : List ByteArray} (h : partsOk xs = true) (j : Nat) (hj : j < xs.length) : xs[j].size ≤ 200:=by
 unfold partsOk at h; rw [List.all_eq_true] at h; simpa using h _ (List.getElem_mem hj)
theorem tagText_le (kind : Int) (xs : List ByteArray) : (tagText kind xs).size ≤ 20000:=by
 unfold tagText
 split
 ·rename_i h
  simp only [tagOk,Bool.and_eq_true,decide_eq_true_eq] at h
  obtain ⟨⟨h1,h2⟩,h3⟩:=h
  rw [bs_size]
  have:=body_le kind xs (fun j hj => parts_at h3 j hj)
  omega
 ·exact Nat.zero_le _
theorem tagHash_le (kind : Int) (xs : List ByteArray) (n : Int) : (tagHash kind xs n).size ≤ 32:=by
 unfold tagHash; split
 ·exact cutDigest_le _ _
 ·exact Nat.zero_le _
theorem br_lit (w : World) (cs : Array Value) (t : TypeId) (l : List UInt8) (h : cs.toList = l.map u8c) : BR (w.alloc (.cells cs t)) (some ⟨w.heap.size,0,none⟩) l.length l (fun b => w.heap.size ≤ b):=by
 refine .inr ⟨w.heap.size,rfl,Nat.le_refl _,zz17,fun j hj => ⟨?_,frozen_of_row _ _ j _ _ (heap_alloc_new w _)⟩,at_lit _ _ _ _ _ h⟩
 rw [World.cell?_alloc_mark]
 have hz : j < cs.size:=by have:=congrArg List.length h; simp at this; omega
 simp [hz]
theorem wrap_kind {kind : Int} (h : inB kind 1 8 = true) : IntKind.u8.wrap kind = ((UInt8.ofNat kind.toNat).toNat : Int):=by
 simp [inB] at h
 rw [IntKind.wrap_u8']
 simp
 omega
theorem bs_cat (a : List UInt8) (p : ByteArray) : bs a ++ varT p.size ++ p = bs (a ++ partB p):=by
 unfold varT partB
 rw [bs_app, ← List.append_assoc, ← bs_app (a ++ varB p.size),bs_data]
theorem sh_data (p : ByteArray) : (varT p.size ++ p).data.toList = partB p:=by
 have : varT p.size ++ p = bs (partB p):=by
  have h:=bs_cat [] p
  rw [List.nil_append] at h
  rw [← h]
  apply ByteArray.ext
  simp [bs]
 rw [this]; simp [bs]
theorem impl_shortText (w : World) (s : ByteArray) (hs : s.size ≤ 200) : Calls Tryz.prog 117 #[.string s] w fun e w' => e = .returned (.string (varT s.size ++ s)) ∧ Below w.heap.size w w':=by
 have hv:=varT_le (n:=s.size) zz4
 have hc : ¬ 9223372036854775807 < (varT s.size).size + s.size:=zz4
 go_enter Tryz.func117,Tryz.ntmps117
 go_wp2_with (fail)
 refine (impl_varText s.size _ zz4).mono ?_
 rintro e0 w1 ⟨rfl,hb⟩
 go_wp2
 go_ret
 exact ⟨rfl,hb⟩
theorem impl_TagText (w : World) (kind : Int) (hkind : I64 kind) (xs : List ByteArray) (A : Option Addr) (cap : Nat) (S : Blks) (hx : Row false w A cap xs S) (hl : xs.length ≤ 4000000000) : Calls Tryz.prog 182 #[.int .i64 kind, .slice A xs.length cap] w fun e w' => e = .returned (.tuple #[.string (tagText kind xs), .bool (tagOk kind xs)]) ∧ Below w.heap.size w w':=by
 cases hin : inB kind 1 8
 ·have HT : Hid (tagText kind xs = ⟨#[]⟩):=zd (by unfold tagText tagOk; rw [hin]; rfl)
  have HO : Hid (tagOk kind xs = false):=zd (by unfold tagOk; rw [hin]; rfl)
  go_enter Tryz.func182,Tryz.ntmps182
  go_wp2_with (go_at_call 62; refine (impl_in _ _ _ _).mono ?_; rintro e0 w0 ⟨rfl,rfl⟩)
  go_ret2
  exact ⟨by rw [HT.out,HO.out]; rfl,Below.refl _ _⟩
 have hw8:=wrap_kind hin
 by_cases h60 : 60 < xs.length
 ·have HT : Hid (tagText kind xs = ⟨#[]⟩):=zd (by unfold tagText tagOk; rw [decide_eq_false zz4]; simp)
  have HO : Hid (tagOk kind xs = false):=zd (by unfold tagOk; rw [decide_eq_false zz4]; simp)
  go_enter Tryz.func182,Tryz.ntmps182
  go_wp2_with (go_at_call 62; refine (impl_in _ _ _ _).mono ?_; rintro e0 w0 ⟨rfl,rfl⟩)
  go_ret2
  exact ⟨by rw [HT.out,HO.out]; rfl,Below.refl _ _⟩
 have HB : Hid (partsOk xs = false → tagText kind xs = ⟨#[]⟩ ∧ tagOk kind xs = false):=zd (fun h => by unfold tagText tagOk; rw [h]; simp)
 have HG : Hid (partsOk xs = true → tagText kind xs = bs (tagBody kind xs) ∧ tagOk kind xs = true):=zd (fun h => by
  have : tagOk kind xs = true:=by unfold tagOk; rw [h,hin,decide_eq_true zz4]; rfl
  exact ⟨by unfold tagText; rw [if_pos this],this⟩)
 have HP:=zd (fun (k : Nat) h => parts_bad (xs:=xs) (k:=k) h)
 obtain ⟨kb,hkb⟩ : ∃ b,UInt8.ofNat kind.toNat = b:=⟨_,rfl⟩
 rw [hkb] at hw8
 have HK:=zd hkb; clear hkb
 go_enter Tryz.func182,Tryz.ntmps182
 go_wp2_with (go_at_call 62; refine (impl_in _ _ _ _).mono ?_; rintro e0 w0 ⟨rfl,rfl⟩)
 have r0:=br_lit w #[.int .u8 (IntKind.u8.wrap kind)] 5 [kb] (by rw [hw8]; rfl)
 rw [hw8] at r0
 clear hin
 have HI : Hid (IntKind.u8.wrap kind = (kb.toNat : Int)):=zd hw8
 clear hw8
 go_loopw [6,22] (fun u i wr => ∃ (k : Nat) (m : Nat) (A2 : Option Addr) (cap2 : Nat),k ≤ xs.length ∧ i = .int .i64 k ∧ u = .slice A2 m cap2 ∧ Hid (m = (tagBody kind (xs.take k)).length) ∧ m ≤ 1 + 205 * k ∧ m ≤ cap2 ∧ cap2 ≤ maxLen ∧ Hid (∀ j (h : j < xs.length),j < k → xs[j].size ≤ 200) ∧ BR wr A2 cap2 (tagBody kind (xs.take k)) (fun b => w.heap.size ≤ b) ∧ Below w.heap.size w wr) (fun _ i _ => xs.length - (intOf i).toNat)
 case atStart => exact ⟨0,1,_,1,Nat.zero_le _,rfl,rfl,zd rfl,zz4,zz4,zz44,zd (fun j _ h => absurd h zz4),by rw [List.take_zero]; simp only [tagBody,List.flatMap_nil,HK.out]; first | exact r0 | (rw [← HI.out] at r0; exact r0),(Below.refl _ _).alloc (Nat.le_refl _) _⟩
 case round =>
  clear r0
  obtain ⟨k,m,A2,cap2,hk,rfl,rfl,Hm,hm,c1,c2,HS,r1,hB⟩:=hrel
  have hz:=hB.size
  by_cases hlt : k < xs.length
  ·obtain ⟨b1,o1,rfl,hl1,f0,s0⟩:=Row.str hx hlt
   replace f0:=(hB.cell (p:=⟨b1,o1 + k,none⟩) hl1).trans f0
   have hl2 : b1 < wr.heap.size:=zz4
   have HBd:=zd (HP.out k hlt)
   have HN:=zd (body_take kind xs k hlt)
   have HN2 : Hid (xs[k].size ≤ 200 → ∀ j (h : j < xs.length),j < k + 1 → xs[j].size ≤ 200):=zd (fun h0 j h hj => by rcases Nat.lt_succ_iff_lt_or_eq.1 hj with h1 | h1; exact HS.out j h h1; subst h1; exact h0)
   obtain ⟨x,hxx⟩ : ∃ x,xs[k] = x:=⟨_,rfl⟩
   rw [hxx] at f0 s0 HBd HN HN2
   clear hxx
   by_cases h200 : 200 < x.size
   ·have HE:=zd (HB.out (HBd.out h200))
    go_wp2
    go_ret2
    exact ⟨by rw [HE.out.1,HE.out.2]; rfl,hB⟩
   have hp:=partB_le (p:=x) zz4
   have hpe : (varT x.size ++ x).size = (partB x).length:=by rw [← sh_data x]; rfl
   have HPE:=zd hpe; clear hpe
   have HSD:=zd (sh_data x)
   go_wp2_with (fail)
   refine (impl_shortText _ x zz4).mono ?_
   rintro e0 w1 ⟨rfl,hb1⟩
   have hB1 : Below w.heap.size w w1:=hB.trans (hb1.mono hz)
   have hz1:=hb1.size
   obtain ⟨y,hy⟩ : ∃ y,varT x.size ++ x = y:=⟨_,rfl⟩
   rw [hy] at HPE HSD
   simp only [hy]
   have hys : y.size ≤ 205:=by rw [HPE.out]; exact hp
   clear hy
   go_wp2_with (at_builtin; refine wpList_appS rfl _ _ rfl Tryz.underlying9 rfl Hm.out (r1.later hb1) c1 c2 y rfl zz4 ?_; intro A5 cap5 w5 d1 d2 d3 d4)
   have hB5 : Below w.heap.size w w5:=hB1.trans (d4.to_below zz4 (fun b hb => hb))
   go_roundw
   case rel => exact ⟨k + 1,m + y.size,A5,cap5,hlt,by go_num,rfl,zd (by rw [HN.out,List.length_append, ← Hm.out,HPE.out]),zz4,d1,d2,zd (HN2.out zz4),by rw [HN.out, ← HSD.out]; exact d3.mono (fun b hb => hb.elim id (fun q => Nat.le_trans (Nat.le_trans hz hz1) q)),hB5⟩
   case measure => simp [intOf]; omega
  ·have hke : k = xs.length:=by omega
   subst hke
   have HE:=zd (HG.out (parts_good (fun j h => HS.out j h h)))
   rw [List.take_length] at r1 Hm
   go_wp2_with (refine wpList_strB rfl _ rfl Tryz.underlying5 Tryz.underlying9 rfl Hm.out r1 ?_)
   go_ret2
   exact ⟨by rw [HE.out.1,HE.out.2]; rfl,hB⟩
theorem spec_TagText (w : World) (kind : Int) (hkind : I64 kind) (xs : List ByteArray) (A : Option Addr) (cap : Nat) (S : Blks) (hx : Row false w A cap xs S) (hl : xs.length ≤ 4000000000) : Calls Tryz.prog 174 #[.int .i64 kind, .slice A xs.length cap] w fun e w' => e = .returned (.tuple #[.string (tagText kind xs), .bool (tagOk kind xs)]) ∧ Below w.heap.size w w':=by
 cases hin : inB kind 1 8
 ·have HT : Hid (tagText kind xs = ⟨#[]⟩):=zd (by unfold tagText tagOk; rw [hin]; rfl)
  have HO : Hid (tagOk kind xs = false):=zd (by unfold tagOk; rw [hin]; rfl)
  go_enter Tryz.func174,Tryz.ntmps174
  go_wp2_with (go_at_call 48; refine (spec_in _ _ _ _).mono ?_; rintro e0 w0 ⟨rfl,rfl⟩)
  go_ret2
  exact ⟨by rw [HT.out,HO.out]; rfl,Below.refl _ _⟩
 have hw8:=wrap_kind hin
 by_cases h60 : 60 < xs.length
 ·have HT : Hid (tagText kind xs = ⟨#[]⟩):=zd (by unfold tagText tagOk; rw [decide_eq_false zz4]; simp)
  have HO : Hid (tagOk kind xs = false):=zd (by unfold tagOk; rw [decide_eq_false zz4]; simp)
  go_enter Tryz.func174,Tryz.ntmps174
  go_wp2_with (go_at_call 48; refine (spec_in _ _ _ _).mono ?_; rintro e0 w0 ⟨rfl,rfl⟩)
  go_ret2
  exact ⟨by rw [HT.out,HO.out]; rfl,Below.refl _ _⟩
 have HB : Hid (partsOk xs = false → tagText kind xs = ⟨#[]⟩ ∧ tagOk kind xs = false):=zd (fun h => by unfold tagText tagOk; rw [h]; simp)
 have HG : Hid (partsOk xs = true → tagText kind xs = bs (tagBody kind xs) ∧ tagOk kind xs = true):=zd (fun h => by
  have : tagOk kind xs = true:=by unfold tagOk; rw [h,hin,decide_eq_true zz4]; rfl
  exact ⟨by unfold tagText; rw [if_pos this],this⟩)
 have HP:=zd (fun (k : Nat) h => parts_bad (xs:=xs) (k:=k) h)
 obtain ⟨kb,hkb⟩ : ∃ b,UInt8.ofNat kind.toNat = b:=⟨_,rfl⟩
 rw [hkb] at hw8
 have HK:=zd hkb; clear hkb
 have HI : Hid (IntKind.u8.wrap kind = (kb.toNat : Int)):=zd hw8
 have hs1 : ([kb] : List UInt8).length = 1:=rfl
 have r0:=br_lit w #[.int .u8 (kb.toNat : Int)] 5 [kb] rfl
 rw [hs1] at r0
 have R0:=zd r0
 clear r0 hs1
 go_enter Tryz.func174,Tryz.ntmps174
 go_wp2_with (first | (go_at_call 48; refine (spec_in _ _ _ _).mono ?_; rintro e0 w0 ⟨rfl,rfl⟩) | (refine wpList_strB rfl _ rfl Tryz.underlying5 Tryz.underlying9 rfl rfl R0.out ?_))
 clear hin R0
 clear hw8
 go_loopw [6,7] (fun u i wr => ∃ (k : Nat) (s : ByteArray),k ≤ xs.length ∧ i = .int .i64 k ∧ u = .string s ∧ Hid (s = bs (tagBody kind (xs.take k))) ∧ s.size ≤ 1 + 205 * k ∧ Hid (∀ j (h : j < xs.length),j < k → xs[j].size ≤ 200) ∧ Below w.heap.size w wr) (fun _ i _ => xs.length - (intOf i).toNat)
 case atStart => exact ⟨0,bs [kb],Nat.zero_le _,rfl,rfl,zd (by rw [List.take_zero]; simp only [tagBody,List.flatMap_nil,HK.out]),by simp [bs_size],zd (fun j _ h => absurd h zz4),(Below.refl _ _).alloc (Nat.le_refl _) _⟩
 case round =>
  obtain ⟨k,s,hk,rfl,rfl,Hs,hm,HS,hB⟩:=hrel
  have hz:=hB.size
  by_cases hlt : k < xs.length
  ·obtain ⟨b1,o1,rfl,hl1,f0,s0⟩:=Row.str hx hlt
   replace f0:=(hB.cell (p:=⟨b1,o1 + k,none⟩) hl1).trans f0
   have hl2 : b1 < wr.heap.size:=zz4
   have HBd:=zd (HP.out k hlt)
   have HN:=zd (body_take kind xs k hlt)
   have HN2 : Hid (xs[k].size ≤ 200 → ∀ j (h : j < xs.length),j < k + 1 → xs[j].size ≤ 200):=zd (fun h0 j h hj => by rcases Nat.lt_succ_iff_lt_or_eq.1 hj with h1 | h1; exact HS.out j h h1; subst h1; exact h0)
   obtain ⟨x,hxx⟩ : ∃ x,xs[k] = x:=⟨_,rfl⟩
   rw [hxx] at f0 s0 HBd HN HN2
   clear hxx
   by_cases h200 : 200 < x.size
   ·have HE:=zd (HB.out (HBd.out h200))
    go_wp2
    go_ret2
    exact ⟨by rw [HE.out.1,HE.out.2]; rfl,hB⟩
   have hv:=varT_le (n:=x.size) zz4
   have hc1 : ¬ 9223372036854775807 < s.size + (varT x.size).size:=zz4
   have hc2 : ¬ 9223372036854775807 < s.size + (varT x.size).size + x.size:=zz4
   have HC : Hid (s ++ varT x.size ++ x = bs (tagBody kind (xs.take (k + 1)))):=zd (by rw [Hs.out,bs_cat,HN.out])
   have hsz : (s ++ varT x.size ++ x).size ≤ 1 + 205 * (k + 1):=by rw [ByteArray.size_append,ByteArray.size_append]; omega
   have HM:=zd (fun (w' : World) (h : Below wr.heap.size wr w') => (⟨(h.cell (p:=⟨b1,o1 + k,none⟩) hl2).trans f0,h⟩ : w'.cell? ⟨b1,o1 + k,none⟩ = some (.string x) ∧ Below wr.heap.size wr w'))
   clear HN
   go_wp2
   clear f0
   have hR : Below wr.heap.size wr wr:=Below.refl _ _
   go_region_held (fun w' => w'.cell? ⟨b1,o1 + k,none⟩ = some (.string x) ∧ Below wr.heap.size wr w')
    (first | exact HM.out _ hR | exact HM.out _ hR.drew)
    (first | (go_at_call 109; refine (spec_l01Var _ _ zz4).mono ?_; rintro e0 w1 ⟨rfl,hb⟩; have hcc:=fun (p : Addr) (h : p.block < _) => hb.cell (p:=p) h; have hR:=Below.step (a:=wr) (by first | exact hR | exact hR.drew) hb))
   all_goals
    go_wp2
    go_roundw
    case rel => exact ⟨k + 1,s ++ varT x.size ++ x,hlt,by go_num,rfl,HC,hsz,zd (HN2.out zz4),hB.trans (hR.mono hz)⟩
    case measure => simp [intOf]; omega
  ·have hke : k = xs.length:=by omega
   subst hke
   have HE:=zd (HG.out (parts_good (fun j h => HS.out j h h)))
   rw [List.take_length] at Hs
   go_wp2
   go_ret2
   exact ⟨by rw [HE.out.1,HE.out.2,Hs.out]; rfl,hB⟩
theorem impl_TagHash (w : World) (kind : Int) (hkind : I64 kind) (xs : List ByteArray) (A : Option Addr) (cap : Nat) (S : Blks) (hx : Row false w A cap xs S) (hl : xs.length ≤ 4000000000) (n : Int) (hn : I64 n) (hT : Tabs w) : Calls Tryz.prog 135 #[.int .i64 kind, .slice A xs.length cap, .int .i64 n] w fun e w' => e = .returned (.string (tagHash kind xs n)) ∧ Below w.heap.size w w':=by
 have hz:=tagText_le kind xs
 cases hok : tagOk kind xs
 ·have HT : Hid (tagHash kind xs n = ⟨#[]⟩):=zd (by unfold tagHash; rw [hok]; rfl)
  go_enter Tryz.func135,Tryz.ntmps135
  go_wp2_with (fail)
  refine (impl_TagText _ kind hkind xs A cap S hx hl).mono ?_
  rintro e0 w1 ⟨rfl,hb⟩
  rw [hok]
  go_wp2
  go_ret
  exact ⟨by rw [HT.out]; rfl,hb⟩
 ·have HT : Hid (tagHash kind xs n = cutDigest (tagText kind xs) n):=zd (by unfold tagHash; rw [hok]; rfl)
  go_enter Tryz.func135,Tryz.ntmps135
  go_wp2_with (fail)
  refine (impl_TagText _ kind hkind xs A cap S hx hl).mono ?_
  rintro e0 w1 ⟨rfl,hb⟩
  rw [hok]
  go_wp2_with (fail)
  refine (impl_CutDigest _ (tagText kind xs) zz4 n hn (hT.later hb)).mono ?_
  rintro e0 w2 ⟨rfl,hb2⟩
  go_wp2
  go_ret
  exact ⟨by rw [HT.out]; rfl,hb.trans (hb2.mono hb.size)⟩
theorem spec_TagHash (w : World) (kind : Int) (hkind : I64 kind) (xs : List ByteArray) (A : Option Addr) (cap : Nat) (S : Blks) (hx : Row false w A cap xs S) (hl : xs.length ≤ 4000000000) (n : Int) (hn : I64 n) : Calls Tryz.prog 127 #[.int .i64 kind, .slice A xs.length cap, .int .i64 n] w fun e w' => e = .returned (.string (tagHash kind xs n)) ∧ Below w.heap.size w w':=by
 have hz:=tagText_le kind xs
 cases hok : tagOk kind xs
 ·have HT : Hid (tagHash kind xs n = ⟨#[]⟩):=zd (by unfold tagHash; rw [hok]; rfl)
  go_enter Tryz.func127,Tryz.ntmps127
  go_wp2_with (fail)
  refine (spec_TagText _ kind hkind xs A cap S hx hl).mono ?_
  rintro e0 w1 ⟨rfl,hb⟩
  rw [hok]
  go_wp2
  go_ret
  exact ⟨by rw [HT.out]; rfl,hb⟩
 ·have HT : Hid (tagHash kind xs n = cutDigest (tagText kind xs) n):=zd (by unfold tagHash; rw [hok]; rfl)
  go_enter Tryz.func127,Tryz.ntmps127
  go_wp2_with (fail)
  refine (spec_TagText _ kind hkind xs A cap S hx hl).mono ?_
  rintro e0 w1 ⟨rfl,hb⟩
  rw [hok]
  go_wp2_with (fail)
  refine (spec_CutDigest _ (tagText kind xs) zz4 n hn).mono ?_
  rintro e0 w2 ⟨rfl,hb2⟩
  go_wp2
  go_ret
  exact ⟨by rw [HT.out]; rfl,hb.trans (hb2.mono hb.size)⟩
theorem impl_hashOf (w : World) (kind : Int) (hkind : I64 kind) (xs : List ByteArray) (A : Option Addr) (cap : Nat) (S : Blks) (hx : Row false w A cap xs S) (hl : xs.length ≤ 4000000000) (n : Int) (hn : I64 n) (hT : Tabs w) : Calls Tryz.prog 150 #[.int .i64 kind, .int .i64 n, .slice A xs.length cap] w fun e w' => e = .returned (.string (tagHash kind xs n)) ∧ Below w.heap.size w w':=by
 go_enter Tryz.func150,Tryz.ntmps150
 go_wp2_with (fail)
 refine (impl_TagHash _ kind hkind xs A cap S hx hl n hn hT).mono ?_
 rintro e0 w1 ⟨rfl,hb⟩
 go_wp2
 go_ret
 exact ⟨rfl,hb⟩
end Go.Proofs.YtlfnmbcnehaikaaGreatDoor
