/- A part of the proof. -/
import Derived.Test.YtgllafgpmenjjaaGreatDoorHChL20xSi
set_option linter.unusedVariables false
set_option linter.unusedSimpArgs false
set_option maxRecDepth 20000
set_option maxHeartbeats 4000000
namespace Go.Proofs.YtgllafgpmenjjaaGreatDoor
open Go.RowKit Lay Mk
def bucketParts (xs : List Leaf) : List ByteArray:=xs.flatMap (fun l => [l.name,l.value])
def bucketKind (xs : List Leaf) : Int:=if xs.isEmpty then 1 else 2
def bucketTx (xs : List Leaf) : ByteArray:=tagText (bucketKind xs) (bucketParts xs)
def bucketOf (xs : List Leaf) (i : Int) : List Leaf:=xs.filter (fun l => decide ((indexOf l.name : Int) = i))
theorem parts_snoc {xs : List Leaf} {k : Nat} (h : k < xs.length) : bucketParts (xs.take (k + 1)) = bucketParts (xs.take k) ++ [xs[k].name,xs[k].value]:=by
 unfold bucketParts; rw [List.take_succ_eq_append_getElem h,List.flatMap_append]; simp
theorem row_pairB (w : World) (s t : ByteArray) (hs : s.size ≤ maxLen) (ht : t.size ≤ maxLen) (ty : TypeId) (b : Nat) (hb : b = w.heap.size) : Row false (w.alloc (.cells #[.string s, .string t] ty)) (some ⟨b,0,none⟩) 2 [s,t] (fun q => q = b):=by
 subst hb; exact row_pair w s t hs ht ty
theorem bucket_snoc {xs : List Leaf} {i : Int} {k : Nat} (h : k < xs.length) : bucketOf (xs.take (k + 1)) i = bucketOf (xs.take k) i ++ (if (indexOf xs[k].name : Int) = i then [xs[k]] else []):=by
 unfold bucketOf; rw [List.take_succ_eq_append_getElem h,List.filter_append]
 congr 1
 by_cases hc : (indexOf xs[k].name : Int) = i <;> simp [hc]
theorem impl_bucketText (w : World) (xs : List Leaf) (A : Option Addr) (cap : Nat) (S : Blks) (hx : Row false w A cap xs S) (hl : xs.length ≤ 1048576) : Calls Tryz.prog 185 #[.slice A xs.length cap] w fun e w' => e = .returned (.string (bucketTx xs)) ∧ Below w.heap.size w w':=by
 go_enter Tryz.func185,Tryz.ntmps185
 go_wp2
 have HO:=zd (Own.start (α:=ByteArray) (Below.refl w.heap.size w))
 go_loopw [3,4,11] (fun z u i wr => ∃ (k : Nat) (kd : Int) (L : List ByteArray) (A2 : Option Addr) (c : Nat),k ≤ xs.length ∧ i = .int .i64 k ∧ z = .int .i64 kd ∧ Hid (kd = if k = 0 then 1 else 2) ∧ u = .slice A2 L.length c ∧ Hid (L = bucketParts (xs.take k)) ∧ L.length ≤ 2 * k ∧ Own w wr A2 c L) (fun _ _ i _ => xs.length - (intOf i).toNat)
 case atStart => exact ⟨0,1, [],none,0,zz8,rfl,rfl,zd rfl,rfl,zd rfl,zz32,HO.out⟩
 case round =>
  clear HO
  obtain ⟨k,kd,L,A2,c,hk,rfl,rfl,HK,rfl,HL,hLk,hown⟩:=hrel
  have hb:=hown.bl
  have HOW:=zd hown
  by_cases hlt : k < xs.length
  ·obtain ⟨b1,o1,cc,T1,rfl,hl1,ha,hr,_,_⟩:=Row.at_ hx hlt
   replace ha:=ha.keep (hb.block b1 hl1)
   have HN : Hid (bucketParts (xs.take (k + 1)) = L ++ [xs[k].name,xs[k].value]):=zd (by rw [parts_snoc hlt,HL.out])
   obtain ⟨l,hl_⟩ : ∃ l,xs[k] = l:=⟨_,rfl⟩
   rw [hl_] at hr HN
   clear hl_
   obtain ⟨rfl,f0,f1⟩:=Leaf.open hr
   clear hr
   rw [show Lay.n Leaf = 2 from rfl] at ha
   have e0:=ha 0 _ rfl
   have e1:=ha 1 _ rfl
   simp only [Nat.add_zero] at e0
   have hl3 : b1 < wr.heap.size:=Nat.lt_of_lt_of_le hl1 hb.size
   clear ha hown hb
   go_wp2_with (at_builtin; refine wpList_push (α:=ByteArray) rfl _ _ rfl rfl rfl ((HOW.out.alloc _).alloc _) rfl rfl (Src.flat (row_pairB _ l.name l.value f0 f1 _ _ zz66)) zz35 ?_; intro A6 c6 w6 o6 z6)
   go_roundw
   case rel => exact ⟨k + 1,2,L ++ [l.name,l.value],A6,c6,hlt,by go_num,rfl,zd zz32,zz32,zd HN.out.symm,zz35,o6⟩
   case measure => simp [intOf]; omega
  ·have hke : k = xs.length:=by omega
   have HE : Hid (bucketTx xs = tagText kd L):=zd (by
    unfold bucketTx bucketKind
    rw [HL.out,HK.out,List.take_of_length_le zz8,hke]
    congr 1
    cases xs <;> simp)
   have hki : I64 kd:=by rw [HK.out]; unfold I64; split <;> omega
   clear hown hb HK HL
   go_wp2_with (fail)
   refine (impl_TagText _ kd hki L A2 c _ HOW.out.weak zz8).mono ?_
   rintro e5 w5 ⟨rfl,hb5⟩
   go_wp2
   go_ret
   exact ⟨ret_str (by rw [HE.out]),HOW.out.bl.trans (hb5.mono HOW.out.size)⟩
theorem spec_BucketText (w : World) (xs : List Leaf) (A : Option Addr) (cap : Nat) (S : Blks) (hx : Row false w A cap xs S) (hl : xs.length ≤ 1048576) (hz : szL xs ≤ 1048576) (hok : leavesOk xs = true) : Calls Tryz.prog 173 #[.slice A xs.length cap] w fun e w' => e = .returned (.tuple #[.string (bucketTx xs), .bool (tagOk (bucketKind xs) (bucketParts xs))]) ∧ Below w.heap.size w w':=by
 have HLV:=zd (spec_LeavesOk w xs A cap S hx zz8)
 rw [hok] at HLV
 clear hok
 by_cases h0 : xs.length = 0
 ·have HE : Hid (bucketTx xs = tagText 1 [] ∧ tagOk (bucketKind xs) (bucketParts xs) = tagOk 1 []):=zd (by cases xs with | nil => exact ⟨rfl,rfl⟩ | cons a b => simp at h0)
  rw [h0] at HLV ⊢
  clear h0 hl
  go_enter Tryz.func173,Tryz.ntmps173
  go_wp2_with (fail)
  refine HLV.out.mono ?_
  rintro e0 w0 ⟨rfl,hb0⟩
  have HB0:=zd hb0
  go_wp2_with (fail)
  refine (spec_TagText _ 1 zz39 [] _ _ _ (Row.weak (row_lit0 w0 9 (fun b => w0.heap.size ≤ b) rfl (Nat.le_refl _))) zz32).mono ?_
  rintro e5 w5 ⟨rfl,hb5⟩
  go_wp2
  go_ret2
  exact ⟨by rw [HE.out.1,HE.out.2]; rfl,(HB0.out.alloc HB0.out.size _).trans (hb5.mono (by have:=HB0.out.size; simp; omega))⟩
 have hpos : (0 : Int) < (xs.length : Int):=zz8
 have hq0 : ((xs.length : Int) == 0) = false:=zz45
 have HE : Hid (bucketTx xs = tagText 2 (bucketParts xs) ∧ tagOk (bucketKind xs) (bucketParts xs) = tagOk 2 (bucketParts xs)):=zd (by cases xs with | nil => simp at h0 | cons a b => exact ⟨rfl,rfl⟩)
 clear h0
 go_enter Tryz.func173,Tryz.ntmps173
 go_wp2_with (fail)
 refine HLV.out.mono ?_
 rintro e0 w0 ⟨rfl,hb0⟩
 have HB0:=zd hb0
 have HO:=zd (Own.litAt (α:=ByteArray) (Below.refl w0.heap.size w0) 9 rfl (b:=w0.heap.size) rfl)
 replace hx:=Row.later hx hb0
 clear hb0
 go_wp2_with (fail)
 go_loopw [4,5] (fun u i wr => ∃ (k : Nat) (L : List ByteArray) (A2 : Option Addr) (c : Nat),k ≤ xs.length ∧ i = .int .i64 k ∧ u = .slice A2 L.length c ∧ Hid (L = bucketParts (xs.take k)) ∧ L.length ≤ 2 * k ∧ Own w0 wr A2 c L) (fun _ i _ => xs.length - (intOf i).toNat)
 case atStart => exact ⟨0, [],some ⟨w0.heap.size,0,none⟩,0,zz8,rfl,rfl,zd rfl,zz32,HO.out⟩
 case round =>
  clear HO
  obtain ⟨k,L,A2,c,hk,rfl,rfl,HL,hLk,hown⟩:=hrel
  have hb:=hown.bl
  have HOW:=zd hown
  by_cases hlt : k < xs.length
  ·obtain ⟨b1,o1,cc,T1,rfl,hl1,ha,hr,_,_⟩:=Row.at_ hx hlt
   have HN : Hid (bucketParts (xs.take (k + 1)) = L ++ [xs[k].name,xs[k].value]):=zd (by rw [parts_snoc hlt,HL.out])
   obtain ⟨l,hl_⟩ : ∃ l,xs[k] = l:=⟨_,rfl⟩
   rw [hl_] at hr HN
   clear hl_
   obtain ⟨rfl,f0,f1⟩:=Leaf.open hr
   clear hr
   rw [show Lay.n Leaf = 2 from rfl] at ha
   have e0:=ha 0 _ rfl
   have e1:=ha 1 _ rfl
   simp only [Nat.add_zero] at e0
   have hki : (k : Int) < (xs.length : Int):=zz8
   have hk0 : (0 : Int) ≤ (k : Int):=zz8
   have hB:=Below.refl wr.heap.size wr
   have hBw:=hb
   have hBws:=hb.size
   have HM:=zd (fun (w' : World) (h : Below w0.heap.size w0 w') => (⟨(h.cell (p:=⟨b1,o1 + k * 2,none⟩) hl1).trans e0,(h.cell (p:=⟨b1,o1 + k * 2 + 1,none⟩) hl1).trans e1,h⟩ : w'.cell? ⟨b1,o1 + k * 2,none⟩ = some (.string l.name) ∧ w'.cell? ⟨b1,o1 + k * 2 + 1,none⟩ = some (.string l.value) ∧ Below w0.heap.size w0 w'))
   clear ha hown hb e0 e1
   go_wp2_with (fail)
   go_region_held3 (fun w' => w'.cell? ⟨b1,o1 + k * 2,none⟩ = some (.string l.name) ∧ w'.cell? ⟨b1,o1 + k * 2 + 1,none⟩ = some (.string l.value) ∧ Below w0.heap.size w0 w')
    (first | exact HM.out _ hE | exact HM.out _ (hBw.trans (Below.mono (w:=wr) (by have zh:=hB; exact zz15) hBws)))
    (((refine step_push (α:=ByteArray) (w0:=w0) rfl _ _ rfl rfl rfl (HOW.out.later (by have zh:=hB; exact zz15)) rfl rfl (Src.flat (by first | exact row_pairB _ l.name l.value f0 f1 _ _ zz66 | exact Row.drewC (row_pairB _ l.name l.value f0 f1 _ _ zz66))) zz35 ?_); intro A6 c6 w6 o6 hE))
   go_wp2
   go_roundw
   case rel => exact ⟨k + 1,L ++ [l.name,l.value],A6,c6,hlt,by go_num,zz32,zd HN.out.symm,zz35,o6⟩
   case measure => simp [intOf]; omega
  ·have HE2 : Hid (bucketParts xs = L):=zd (by rw [HL.out,List.take_of_length_le zz8])
   clear hown hb HL
   go_wp2_with (fail)
   refine (spec_TagText _ 2 zz39 L A2 c _ HOW.out.weak zz8).mono ?_
   rintro e5 w5 ⟨rfl,hb5⟩
   go_wp2
   go_ret2
   exact ⟨by rw [HE.out.1,HE.out.2,HE2.out]; rfl,HB0.out.trans ((HOW.out.bl.trans (hb5.mono HOW.out.size)).mono HB0.out.size)⟩
theorem leaf_size {xs : List Leaf} {k : Nat} (hk : k < xs.length) (hz : szL xs ≤ 1048576) : xs[k].name.size ≤ 1048576:=by
 have h1:=sz_le_L xs k hk
 have h2 : Mk.sz xs[k] = xs[k].sz:=rfl
 simp only [Leaf.sz] at h2
 omega
theorem impl_BucketOf (w : World) (xs : List Leaf) (A : Option Addr) (cap : Nat) (S : Blks) (hx : Row false w A cap xs S) (hl : xs.length ≤ 1048576) (hz : szL xs ≤ 1048576) (ix : Int) (hT : Tabs w) : Calls Tryz.prog 182 #[.slice A xs.length cap, .int .i64 ix] w (OwnRes (bucketOf xs ix) w):=by
 have HT:=zd hT
 clear hT
 go_enter Tryz.func182,Tryz.ntmps182
 go_wp2
 have HO:=zd (Own.start (α:=Leaf) (Below.refl w.heap.size w))
 go_loopw [5,10] (fun u i wr => ∃ (k : Nat) (L : List Leaf) (A2 : Option Addr) (c : Nat),k ≤ xs.length ∧ i = .int .i64 k ∧ u = .slice A2 L.length c ∧ Hid (L = bucketOf (xs.take k) ix) ∧ L.length ≤ k ∧ Own w wr A2 c L) (fun _ i _ => xs.length - (intOf i).toNat)
 case atStart => exact ⟨0, [],none,0,zz8,rfl,rfl,zd rfl,zz32,HO.out⟩
 case round =>
  clear HO
  obtain ⟨k,L,A2,c,hk,rfl,rfl,HL,hLk,hown⟩:=hrel
  have hb:=hown.bl
  have HOW:=zd hown
  by_cases hlt : k < xs.length
  ·obtain ⟨b1,o1,cc,T1,rfl,hl1,ha,hr,_,_⟩:=Row.at_ hx hlt
   replace ha:=ha.keep (hb.block b1 hl1)
   have hsz:=leaf_size hlt hz
   have HN:=zd (bucket_snoc (i:=ix) hlt)
   obtain ⟨l,hl_⟩ : ∃ l,xs[k] = l:=⟨_,rfl⟩
   rw [hl_] at hr HN hsz
   clear hl_
   obtain ⟨rfl,f0,f1⟩:=Leaf.open hr
   have hok : Flat.ok l:=(⟨f0,f1⟩ : l.name.size ≤ maxLen ∧ l.value.size ≤ maxLen)
   clear hr
   rw [show Lay.n Leaf = 2 from rfl] at ha
   have e0:=ha 0 _ rfl
   have e1:=ha 1 _ rfl
   simp only [Nat.add_zero] at e0
   have hl3 : b1 < wr.heap.size:=Nat.lt_of_lt_of_le hl1 hb.size
   have HIX:=zd (fun W (h' : Below wr.heap.size wr W) => impl_IndexOf W l.name zz8 (HT.out.later (hb.trans (h'.mono hb.size))))
   obtain ⟨z,hzz⟩ : ∃ z,indexOf l.name = z:=⟨_,rfl⟩
   rw [hzz] at HIX HN
   have HBl:=zd hb
   clear hzz ha hown hb
   by_cases hc : (z : Int) = ix
   ·have HN2 : Hid (bucketOf (xs.take (k + 1)) ix = L ++ [l]):=zd (by rw [HN.out,if_pos hc,HL.out])
    have hq : ((z : Int) == ix) = true:=beq_iff_eq.2 hc
    clear hc HN
    go_wp2_with (fail)
    refine (HIX.out _ ((Below.refl _ _).alloc (Nat.le_refl _) _)).mono ?_
    rintro e5 w5 ⟨rfl,hb5⟩
    have HO5:=zd ((HOW.out.alloc _).later hb5)
    replace e0:=(hb5.cell (p:=⟨wr.heap.size,0,none⟩) zz32).trans (ya1 wr #[.string l.name, .string l.value] _ 0 _ rfl)
    replace e1:=(hb5.cell (p:=⟨wr.heap.size,1,none⟩) zz32).trans (ya1 wr #[.string l.name, .string l.value] _ 1 _ rfl)
    clear hb5
    go_wp2_with (at_builtin; refine wpList_push (α:=Leaf) rfl _ _ rfl rfl rfl (HO5.out.alloc _) rfl rfl (src1 hok zz66 rfl) zz8 ?_; intro A6 c6 w6 o6 z6)
    go_roundw
    case rel => exact ⟨k + 1,L ++ [l],A6,c6,hlt,by go_num,zz32,zd HN2.out.symm,zz35,o6⟩
    case measure => simp [intOf]; omega
   ·have HN2 : Hid (bucketOf (xs.take (k + 1)) ix = L):=zd (by rw [HN.out,if_neg hc,HL.out,List.append_nil])
    have hq : ((z : Int) == ix) = false:=beq_eq_false_iff_ne.2 hc
    clear hc HN
    go_wp2_with (fail)
    refine (HIX.out _ ((Below.refl _ _).alloc (Nat.le_refl _) _)).mono ?_
    rintro e5 w5 ⟨rfl,hb5⟩
    have HO5:=zd ((HOW.out.alloc _).later hb5)
    replace e0:=(hb5.cell (p:=⟨wr.heap.size,0,none⟩) zz32).trans (ya1 wr #[.string l.name, .string l.value] _ 0 _ rfl)
    replace e1:=(hb5.cell (p:=⟨wr.heap.size,1,none⟩) zz32).trans (ya1 wr #[.string l.name, .string l.value] _ 1 _ rfl)
    clear hb5
    go_wp2
    go_roundw
    case rel => exact ⟨k + 1,L,A2,c,hlt,by go_num,rfl,zd HN2.out.symm,zz8,HO5.out⟩
    case measure => simp [intOf]; omega
  ·have HE : Hid (bucketOf xs ix = L):=zd (by rw [HL.out,List.take_of_length_le zz8])
   clear hown hb
   go_wp2
   go_ret
   exact OwnRes.mk HOW.out HE.out rfl
end Go.Proofs.YtgllafgpmenjjaaGreatDoor
namespace Go.Proofs.YtgllafgpmenjjaaGreatDoor
open Go.RowKit Lay Mk
theorem impl_SigAdd (w : World) (kind : Int) (hkind : I64 kind) (xs : List ByteArray) (A : Option Addr) (cap : Nat) (S : Blks) (hx : Row false w A cap xs S) (hl : xs.length ≤ 1000) (g : Nat) (ys : List ByteArray) (Ao : Option Addr) (co : Nat) (So : Blks) (hg : One w g 25 (.slice Ao ys.length co)) (hco : ys.length ≤ co) (hcm : co ≤ maxLen) (ho : Row true w Ao co ys So) (hSo : ∀ b,So b → g < b) (hyl : ys.length ≤ 1000) (w0 : World) (hT : Tabs w0) (h0 : Below w0.heap.size w0 w) (hg0 : w0.heap.size ≤ g) :
  Calls Tryz.prog 190 #[.int .i64 kind, .slice A xs.length cap, .pointer (some ⟨g,0,none⟩)] w fun e w' => ∃ A' c',e = .returned (.string (cutDigest (tagText kind xs) 16)) ∧ One w' g 25 (.slice A' (ys.length + 1) c') ∧ ys.length + 1 ≤ c' ∧ c' ≤ maxLen ∧ Row true w' A' c' (ys ++ [tagText kind xs]) (fun b => So b ∨ rng w.heap.size w'.heap.size b) ∧ Chg (fun b => b = g ∨ So b) w w':=by
 have htl:=tagText_le kind xs
 go_enter Tryz.func190,Tryz.ntmps190
 go_wp2_with (fail)
 refine (impl_TagText _ kind hkind xs A cap S hx zz8).mono ?_
 rintro e1 w1 ⟨rfl,hb1⟩
 have hg1:=hg.later hb1
 have ho1:=Row.later ho hb1
 have hSg : ¬ So g:=fun h => absurd (hSo g h) (Nat.lt_irrefl _)
 have hgl:=hg.lt
 have hz1:=hb1.size
 have hC1 : Chg (fun b => b = g ∨ So b) w w1:=(Chg.refl _ w).below hb1 (Nat.le_refl _)
 clear hx ho
 obtain ⟨t,ht⟩ : ∃ t,tagText kind xs = t:=⟨_,rfl⟩
 rw [ht] at htl
 simp only [ht]
 have HTX:=zd ht
 clear ht
 have c1:=hg1.cell
 have HT:=zd hT; have H0:=zd h0; have HSo:=zd hSo; have HC1:=zd hC1; have HO1:=zd ho1; have HG1:=zd hg1
 clear hT h0 hSo hC1 ho1 hg1 hg
 go_wp2_with (first | (at_builtin; refine wpList_app (α:=ByteArray) (xs:=ys) rfl _ _ rfl rfl rfl (HO1.out.allocC _) hco hcm rfl rfl (src_newb _ t (show t.size ≤ maxLen from ml htl zz8) _ _ _ zz66 rfl) (disj_none_ _) zz8 ?_; intro A' cap' w4 h1 h2 h3 h4; have HG4:=zd ((HG1.out.alloc _).chg h4 hSg); have hq4:=HG4.out.cell; have hf4:=HG4.out.frozen; have H3:=zd h3; have H4:=zd h4; clear h3 h4) | (go_at_call 147; have hC4 : Chg (fun b => b = g ∨ So b) w w4:=(HC1.out.alloc _).trans (H4.out.mono (fun b _ hb => .inr hb)); have hC5:=hC4.setCell (p:=⟨g,0,none⟩) (.inl (.inl rfl)) (.slice A' (ys.length + 1) cap'); have hT5:=HT.out.later (H0.out.trans (hC5.to_below H0.out.size (fun b hb => hb.elim (fun e => e ▸ hg0) (fun e => Nat.le_trans hg0 (Nat.le_of_lt (HSo.out b e)))))); refine (impl_CutDigest _ t zz8 16 zz39 hT5).mono ?_; rintro e5 w5 ⟨rfl,hb5⟩))
 have hg5:=(HG4.out.set (.slice A' (ys.length + 1) cap')).later hb5
 have hr5:=Row.later (H3.out.setC (p:=⟨g,0,none⟩) (fun h => by
  rcases h with x | x | x
  ·exact absurd (HSo.out g x) (Nat.lt_irrefl _)
  ·exact x.elim
  ·have hx1 : _ ≤ g:=x.1; rw [World.size_alloc] at hx1; omega) (.slice A' (ys.length + 1) cap')) hb5
 have hC6:=hC5.below hb5 hC5.size
 go_ret
 rw [HTX.out]
 exact ⟨A',cap',rfl,hg5,h1,h2,hr5.mono (fun b hb => by
  rcases hb with x | x | x
  ·exact .inl x
  ·exact x.elim
  ·refine .inr ⟨?_,?_⟩
   ·have hx1:=x.1; rw [World.size_alloc] at hx1; omega
   ·have hx2:=x.2; have hx3:=hb5.size; simp only [World.size_setCell] at hx3; omega),hC6⟩
end Go.Proofs.YtgllafgpmenjjaaGreatDoor
