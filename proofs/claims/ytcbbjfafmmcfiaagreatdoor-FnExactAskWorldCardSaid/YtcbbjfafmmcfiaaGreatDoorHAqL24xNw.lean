/- A part of the proof. -/
import Derived.Test.YtcbbjfafmmcfiaaGreatDoorHAqL23xNe
import Derived.Deep.RegionLaw
import Derived.Deep.AppendLies
set_option linter.unusedVariables false
set_option linter.unusedSimpArgs false
set_option maxRecDepth 20000
set_option maxHeartbeats 16000000
namespace Go.Proofs.YtcbbjfafmmcfiaaGreatDoor
open Go.RowKit Lay Mk
theorem name_size {s:ByteArray} (h:nameOk s=true):s.size≤12:=by
 unfold nameOk at h
 rw [Bool.and_eq_true] at h
 have h2:1≤(s.size:Int)∧(s.size:Int)≤12:=by simpa [inB] using h.2
 omega
theorem value_size {s:ByteArray} (h:valueOk s=true):s.size≤12:=by
 unfold valueOk at h
 rw [Bool.and_eq_true] at h
 have h2:1≤(s.size:Int)∧(s.size:Int)≤12:=by simpa [inB] using h.2
 omega
theorem bucket_tag {xs:List Leaf} (h:leavesOk xs=true):tagOk (bucketKind xs) (bucketParts xs)=true:=by
 have h1:=leavesOk_len h
 have h2:=parts_len xs
 have h3:partsOk (bucketParts xs)=true:=by
  unfold partsOk bucketParts
  rw [List.all_eq_true]
  intro p hp
  rw [List.mem_flatMap] at hp
  obtain ⟨x,hx,hp⟩:=hp
  have h4:=leavesOk_all h x hx
  simp only [List.mem_cons,List.not_mem_nil,or_false] at hp
  rcases hp with rfl | rfl
  ·have:=name_size h4.1; simp; omega
  ·have:=value_size h4.2; simp; omega
 have h5:inB (bucketKind xs) 1 8=true:=by unfold bucketKind; split <;> rfl
 unfold tagOk
 rw [h5,h3,decide_eq_true zz13]; rfl
theorem szL_ok {xs:List Leaf} (h:∀ x ∈ xs,nameOk x.name=true∧valueOk x.value=true):szL xs≤25*xs.length:=by
 induction xs with
 | nil => exact Nat.le_refl _
 | cons x r ih =>
  have h1:=ih (fun y hy => h y (List.mem_cons_of_mem _ hy))
  have h2:=h x (List.mem_cons_self ..)
  have h3:=name_size h2.1
  have h4:=value_size h2.2
  simp only [szL,List.map_cons,List.sum_cons,List.length_cons] at h1 ⊢
  have h5:Mk.sz x=x.name.size+x.value.size:=rfl
  omega
theorem spec_BucketHash (w:World) (xs:List Leaf) (A:Option Addr) (cap:Nat) (S:Blks) (hx:Row false w A cap xs S) (hok:leavesOk xs=true) (n:Int) (hn:I64 n):Calls Tryz.prog 282 #[.slice A xs.length cap,.int .i64 n] w fun e w' => e = .returned (.string (bucketHash xs n))∧Below w.heap.size w w':=by
 have hl:=leavesOk_len hok
 have hz:szL xs≤1048576:=by have:=szL_ok (leavesOk_all hok); omega
 have HBT:=zd (spec_BucketText w xs A cap S hx zz13 hz hok)
 rw [bucket_tag hok] at HBT
 have htl:(bucketTx xs).size≤20000:=tagText_le _ _
 have HE:Hid (bucketHash xs n=cutDigest (bucketTx xs) n):=zd rfl
 obtain ⟨t,ht⟩:∃ t,bucketTx xs=t:=⟨_,rfl⟩
 rw [ht] at HBT htl HE
 clear ht hz hok
 go_enter Tryz.func282,Tryz.ntmps282
 go_wp2_with (fail)
 refine HBT.out.mono ?_
 rintro e1 w1 ⟨rfl,hb1⟩
 go_wp2_with (fail)
 refine (spec_CutDigest _ t zz13 n hn).mono ?_
 rintro e2 w2 ⟨rfl,hb2⟩
 have HB:=zd (hb1.trans (hb2.mono hb1.size))
 clear hb1 hb2
 go_wp2
 go_ret
 exact ⟨ret_str zz58,HB.out⟩
def spotOf (x:Leaf):Spot:=⟨x,(yaf x.name:Int)⟩
def spotsOf (xs:List Leaf):List Spot:=xs.map spotOf
theorem spotsOf_len (xs:List Leaf):(spotsOf xs).length=xs.length:=by unfold spotsOf; simp
theorem spotsOf_snoc {xs:List Leaf} {k:Nat} (h:k<xs.length):spotsOf (xs.take (k+1))=spotsOf (xs.take k) ++ [spotOf xs[k]]:=by
 unfold spotsOf; rw [List.take_succ_eq_append_getElem h,List.map_append]; rfl
theorem spec_l10Spots (w:World) (xs:List Leaf) (A:Option Addr) (cap:Nat) (S:Blks) (hx:Row false w A cap xs S) (hl:xs.length≤1048576) (hz:szL xs≤1048576):Calls Tryz.prog 234 #[.slice A xs.length cap] w (OwnRes (spotsOf xs) w):=by
 go_enter Tryz.func234,Tryz.ntmps234
 go_wp2
 have HO:=zd (Own.litAt (α:=Spot) (Below.refl w.heap.size w) 357 rfl (b:=w.heap.size) rfl)
 go_loopw [3,4] (fun u i wr => ∃ (k:Nat) (A2:Option Addr) (c:Nat),k≤xs.length∧i = .int .i64 k∧u = .slice A2 k c∧Own w wr A2 c (spotsOf (xs.take k))) (fun _ i _ => xs.length - (intOf i).toNat)
 case atStart => exact ⟨0,some ⟨w.heap.size,0,none⟩,0,Nat.zero_le _,rfl,rfl,HO.out⟩
 case round =>
  clear HO
  obtain ⟨k,A2,c,hk,rfl,rfl,hown⟩:=hrel
  have hb:=hown.bl
  have HOW:=zd hown
  by_cases hlt:k<xs.length
  ·obtain ⟨b1,o1,rfl,hl1,e0,e1,s0,s1⟩:=Row.atLeaf hx hlt
   have HN:=zd (spotsOf_snoc hlt)
   have hsz:=leaf_size hlt hz
   have HNL:Hid ((spotsOf (xs.take k)).length=k):=zd (by rw [spotsOf_len,List.length_take]; omega)
   obtain ⟨x,hx'⟩:∃ x,xs[k]=x:=⟨_,rfl⟩
   rw [hx'] at e0 e1 s0 s1 HN hsz
   clear hx'
   have HM:=zd (fun (w':World) (h:Below w.heap.size w w') => (⟨(h.cell (p:=⟨b1,o1+k*2,none⟩) hl1).trans e0,(h.cell (p:=⟨b1,o1+k*2+1,none⟩) hl1).trans e1,h⟩:w'.cell? ⟨b1,o1+k*2,none⟩=some (.string x.name)∧w'.cell? ⟨b1,o1+k*2+1,none⟩=some (.string x.value)∧Below w.heap.size w w'))
   have HIX:=zd (fun W' => spec_IndexOf W' x.name zz13)
   have hwl:=hb.size
   have hok:Flat.ok (spotOf x):=(show x.name.size≤maxLen∧x.value.size≤maxLen∧I64 ((yaf x.name:Nat):Int) from ⟨s0,s1,by have:=indexOf_lt x.name; unfold I64; omega⟩)
   have HSX:Hid (spotOf x=⟨x,(yaf x.name:Int)⟩):=zd rfl
   rw [HSX.out] at HN hok
   obtain ⟨ix,hix⟩:∃ ix,yaf x.name=ix:=⟨_,rfl⟩
   rw [hix] at HIX HN hok
   have hB:=Below.refl wr.heap.size wr
   have hki:(k:Int)<(xs.length:Int):=zz13
   have hk0:(0:Int)≤(k:Int):=zz13
   clear hix HSX e0 e1 s0 s1 hown
   go_wp2_with (fail)
   go_region_held3 (fun w' => w'.cell? ⟨b1,o1+k*2,none⟩=some (.string x.name)∧w'.cell? ⟨b1,o1+k*2+1,none⟩=some (.string x.value)∧Below w.heap.size w w')
    (first | exact HM.out _ hE | exact HM.out _ (hb.trans (Below.mono (w:=wr) (by have zh:=hB; exact zz10) hwl)))
    (first | (go_at_call 158; refine (HIX.out _).mono ?_; rintro e5 w5 ⟨rfl,hb5⟩; have hB:=Below.step (a:=wr) (by have zh:=hB; exact zz10) hb5; have hs5:=hB.size) | ((refine step_push (α:=Spot) (w0:=w) rfl _ _ rfl rfl HNL.out.symm (HOW.out.later (by have zh:=hB; exact zz10)) rfl rfl (src1 hok zz63 rfl) zz13 ?_); intro A6 c6 w6 o6 hE))
   go_wp2
   go_roundw
   case rel => exact ⟨k+1,A6,c6,hlt,by go_num,rfl,by rw [HN.out]; exact o6⟩
   case measure => simp [intOf]; omega
  ·have HE:Hid (spotsOf xs=spotsOf (xs.take k)):=zd (by rw [List.take_of_length_le zz13])
   have HNL:Hid (k=(spotsOf (xs.take k)).length):=zd (by rw [spotsOf_len,List.length_take]; omega)
   clear hown hb
   go_wp2
   go_ret
   exact OwnRes.mk HOW.out HE.out HNL.out
end Go.Proofs.YtcbbjfafmmcfiaaGreatDoor
namespace Go.Proofs.YtcbbjfafmmcfiaaGreatDoor
open Go.RowKit Lay Mk
def GroveRes (xs:List Leaf) (A:Option Addr) (cap:Nat) (n:Int) (w:World) (e:Ending) (w':World):Prop:=∃ A2 c2,e = .returned (.agg #[.slice A xs.length cap,.slice A2 xs.length c2,.int .i64 n])∧Own w w' A2 c2 (ixs xs)
theorem ixs_snoc {xs:List Leaf} {k:Nat} (h:k<xs.length):ixs (xs.take (k+1))=ixs (xs.take k) ++ [(yaf xs[k].name:Int)]:=by
 unfold ixs; rw [List.take_succ_eq_append_getElem h,List.map_append]; rfl
theorem impl_newGrove (w:World) (xs:List Leaf) (A:Option Addr) (cap:Nat) (S:Blks) (hx:Row false w A cap xs S) (hl:xs.length≤1048576) (hz:szL xs≤1048576) (n:Int) (hT:Tabs w):Calls Tryz.prog 170 #[.slice A xs.length cap,.int .i64 n] w (GroveRes xs A cap n w):=by
 have HT:=zd hT
 clear hT
 have hWd:∀ W,W=(w.alloc (.cells #[.slice none 0 0,.slice none 0 0,.int .i64 0] 241)).alloc (.cells #[.slice A xs.length cap,.slice none 0 0,.int .i64 n] 241)→Below w.heap.size w W∧W.heap.size=w.heap.size+2∧(∀ o,W.frozen? ⟨w.heap.size,o,none⟩=false)∧(∀ o,W.frozen? ⟨w.heap.size+1,o,none⟩=false)∧W.cell? ⟨w.heap.size,0,none⟩=some (.slice none 0 0)∧W.cell? ⟨w.heap.size,1,none⟩=some (.slice none 0 0)∧W.cell? ⟨w.heap.size,2,none⟩=some (.int .i64 0)∧W.cell? ⟨w.heap.size+1,0,none⟩=some (.slice A xs.length cap)∧W.cell? ⟨w.heap.size+1,1,none⟩=some (.slice none 0 0)∧W.cell? ⟨w.heap.size+1,2,none⟩=some (.int .i64 n):=by
  rintro W rfl
  refine ⟨((Below.refl _ _).alloc (Nat.le_refl _) _).alloc zz30 _,zz30,fun o => zz30,fun o => zz30,?_⟩
  refine ⟨zz30,zz30,zz30,zz30,zz30,zz30⟩
 go_enter Tryz.func170,Tryz.ntmps170
 go_wp2_with (fail)
 obtain ⟨W,hW⟩:∃ W,(w.alloc (.cells #[.slice none 0 0,.slice none 0 0,.int .i64 0] 241)).alloc (.cells #[.slice A xs.length cap,.slice none 0 0,.int .i64 n] 241)=W:=⟨_,rfl⟩
 rw [hW]
 obtain ⟨hBW,hWs,zf,gf,z0,z1,z2,g0,g1,g2⟩:=hWd W hW.symm
 clear hW hWd
 have hWl:w.heap.size+2≤W.heap.size:=zz13
 clear hWs
 go_loopw [13] (fun i wr => ∃ (k:Nat) (A2:Option Addr) (c:Nat),k≤xs.length∧i = .int .i64 k∧Hid (Row true wr A2 c (ixs (xs.take k)) (nw (w.heap.size+2)))∧Hid (k≤c∧c≤maxLen)∧Hid (Below w.heap.size w wr)∧w.heap.size+2≤wr.heap.size∧Hid (∀ o,wr.frozen? ⟨w.heap.size,o,none⟩=false)∧(∀ o,wr.frozen? ⟨w.heap.size+1,o,none⟩=false)∧Hid (wr.cell? ⟨w.heap.size,0,none⟩=some (.slice none 0 0)∧wr.cell? ⟨w.heap.size,1,none⟩=some (.slice none 0 0)∧wr.cell? ⟨w.heap.size,2,none⟩=some (.int .i64 0))∧wr.cell? ⟨w.heap.size+1,0,none⟩=some (.slice A xs.length cap)∧wr.cell? ⟨w.heap.size+1,1,none⟩=some (.slice A2 k c)∧wr.cell? ⟨w.heap.size+1,2,none⟩=some (.int .i64 n)) (fun i _ => xs.length - (intOf i).toNat)
 case atStart => exact ⟨0,none,0,Nat.zero_le _,rfl,zd (row_nil _ _),zd ⟨Nat.le_refl _,zz76⟩,zd hBW,hWl,zd zf,gf,zd ⟨z0,z1,z2⟩,g0,g1,g2⟩
 case round =>
  clear zf gf z0 z1 z2 g0 g1 g2 hBW hWl
  obtain ⟨k,A2,c,hk,rfl,HR,HC,HB,hzr,ZF,gf,ZZ,g0,g1,g2⟩:=hrel
  by_cases hlt:k<xs.length
  ·obtain ⟨b1,o1,rfl,hl1,e0,e1,s0,s1⟩:=Row.atLeaf hx hlt
   replace e0:=(HB.out.cell (p:=⟨b1,o1+k*2,none⟩) hl1).trans e0
   replace e1:=(HB.out.cell (p:=⟨b1,o1+k*2+1,none⟩) hl1).trans e1
   have HN:=zd (ixs_snoc hlt)
   have hsz:=leaf_size hlt hz
   obtain ⟨x,hx'⟩:∃ x,xs[k]=x:=⟨_,rfl⟩
   rw [hx'] at e0 e1 HN hsz
   clear hx' s0 s1
   have hlb:b1<wr.heap.size:=Nat.lt_of_lt_of_le hl1 HB.out.size
   have hbw:b1<w.heap.size:=hl1
   have hlw:w.heap.size≤wr.heap.size:=zz13
   have hlen:(ixs (xs.take k)).length=k:=by rw [ixs_len,List.length_take]; omega
   have HLN:=zd hlen
   clear hlen
   go_wp2_with (fail)
   obtain ⟨V,hV⟩:∃ V,wr.alloc (.cells #[.string x.name,.string x.value] 246)=V:=⟨_,rfl⟩
   have hVB:Below wr.heap.size wr V:=by rw [← hV]; exact (Below.refl _ _).alloc (Nat.le_refl _) _
   have hVs:wr.heap.size<V.heap.size:=by rw [← hV]; simp
   have x0:V.cell? ⟨wr.heap.size,0,none⟩=some (.string x.name):=zz42
   rw [hV]
   clear hV
   replace g0:=(hVB.cell (p:=⟨w.heap.size+1,0,none⟩) zz12).trans g0
   replace g1:=(hVB.cell (p:=⟨w.heap.size+1,1,none⟩) zz12).trans g1
   replace g2:=(hVB.cell (p:=⟨w.heap.size+1,2,none⟩) zz12).trans g2
   replace gf:=fun o => (hVB.frozen (p:=⟨w.heap.size+1,o,none⟩) zz12).trans (gf o)
   have HR1:=zd (Row.later HR.out hVB)
   have HB1:=zd (HB.out.trans (hVB.mono hlw))
   have hzV:w.heap.size+2≤V.heap.size:=zz13
   have HIX:=zd (fun W' (h:Below V.heap.size V W') => impl_IndexOf W' x.name zz13 (HT.out.later (HB1.out.trans (h.mono zz13))))
   have ZF1:=zd (fun o => (hVB.frozen (p:=⟨w.heap.size,o,none⟩) zz22).trans (ZF.out o))
   have ZZ1:=zd (And.intro ((hVB.cell (p:=⟨w.heap.size,0,none⟩) zz22).trans ZZ.out.1) (And.intro ((hVB.cell (p:=⟨w.heap.size,1,none⟩) zz22).trans ZZ.out.2.1) ((hVB.cell (p:=⟨w.heap.size,2,none⟩) zz22).trans ZZ.out.2.2)))
   clear hVB e0 e1
   have hok:Flat.ok (yaf x.name:Int):=(show I64 _ from by have:=indexOf_lt x.name; unfold I64; omega)
   obtain ⟨ix,hix⟩:∃ ix,yaf x.name=ix:=⟨_,rfl⟩
   rw [hix] at HIX HN hok
   clear hix
   go_region_law (first | (go_simp; go_at_call 166; refine (HIX.out _ (by first | exact Below.refl _ _ | exact (Below.refl _ _).drew)).mono ?_; rintro e5 w5 ⟨rfl,hb5⟩; have hV5:Below V.heap.size V w5:=(by first | exact hb5 | exact Below.viad hb5); have hs5:=hV5.size; have hlg5:w.heap.size+1<w5.heap.size:=zz13; have HR5:=zd (Row.later HR1.out hV5); have g15:=(hV5.cell (p:=⟨w.heap.size+1,1,none⟩) zz12).trans g1; clear hb5) | (refine step_app (α:=Int) rfl _ _ rfl rfl HLN.out.symm (HR5.out.allocC _) HC.out.1 HC.out.2 rfl rfl (src1 hok zz63 rfl) (disj_none_ _) zz13 ?_; intro A6 c6 w6 h1 h2 h3 h4; have hV6:Below (w.heap.size+2) V w6:=(((hV5.mono hzV).alloc zz13 _).trans (h4.to_below zz46 (fun b hb => hb))); have hs6:=h4.size; rw [World.size_alloc] at hs6; have hlg6:w.heap.size+1<w6.heap.size:=zz13; have g06:=(hV6.cell (p:=⟨w.heap.size+1,0,none⟩) zz12).trans g0; have g16:=(hV6.cell (p:=⟨w.heap.size+1,1,none⟩) zz12).trans g1; have g26:=(hV6.cell (p:=⟨w.heap.size+1,2,none⟩) zz12).trans g2; have gf6:=fun o => (hV6.frozen (p:=⟨w.heap.size+1,o,none⟩) zz12).trans (gf o); have HK6:=zd (And.intro h1 (And.intro h2 h3)); clear h1 h2 h3 h4 HR5))
   all_goals
    have hN2:Row true w6 A6 c6 (ixs (xs.take (k+1))) (nw (w.heap.size+2)):=by
     rw [HN.out]
     exact row_og HK6.out.2.2 (fun b hb => by show w.heap.size+2≤b; rw [World.size_alloc] at hb; omega)
    have HNR:=zd hN2
    have HB6:=zd (HB1.out.trans (hV6.mono zz13))
    have HV6:=zd hV6
    have HW1:=zd (World.cell?_setCell_same w6 ⟨w.heap.size+1,1,none⟩ (.slice A6 (k+1) c6) g16)
    clear hN2 HN hV6 HR1 hV5 HIX x0
    go_wp2
    go_roundw
    case rel => exact ⟨k+1,A6,c6,hlt,by go_num,zd (HNR.out.setC (by show ¬ (w.heap.size+2≤w.heap.size+1); omega) _),zd ⟨HK6.out.1,HK6.out.2.1⟩,zd (Below.setCell HB6.out (by show w.heap.size≤w.heap.size+1; omega) _),zz46,zd (fun o => by simpa using (HV6.out.frozen (p:=⟨w.heap.size,o,none⟩) zz22).trans (ZF1.out o)),fun o => by simpa using gf6 o,zd ⟨(World.cell?_setCell_other _ _ _ _ zz81).trans ((HV6.out.cell (p:=⟨w.heap.size,0,none⟩) zz22).trans ZZ1.out.1),(World.cell?_setCell_other _ _ _ _ zz81).trans ((HV6.out.cell (p:=⟨w.heap.size,1,none⟩) zz22).trans ZZ1.out.2.1),(World.cell?_setCell_other _ _ _ _ zz81).trans ((HV6.out.cell (p:=⟨w.heap.size,2,none⟩) zz22).trans ZZ1.out.2.2)⟩,(World.cell?_setCell_other _ _ _ _ zz81).trans g06,HW1.out,(World.cell?_setCell_other _ _ _ _ zz81).trans g26⟩
    case measure => simp [intOf]; omega
  ·have hke:k=xs.length:=by omega
   subst hke
   have hR2:Row true wr A2 c (ixs xs) (nw (w.heap.size+2)):=by have h9:=HR.out; rwa [List.take_of_length_le (Nat.le_refl _)] at h9
   have HR2:=zd hR2
   have HB2:=zd HB.out
   have hlg:w.heap.size<wr.heap.size:=zz13
   obtain ⟨z0,z1,z2⟩:=ZZ.out
   have zf:=ZF.out
   clear hR2 HR ZF ZZ
   go_wp2
   refine bodyPost_ret (v:=.agg #[.slice A xs.length cap,.slice A2 xs.length c,.int .i64 n]) (by simp [results,Tryz.results170,go_sem, *]) rfl ?_
   have hns:∀ o:Nat, ¬ nw (w.heap.size+2) (⟨w.heap.size,o,none⟩:Addr).block:=fun o => by show ¬ (w.heap.size+2≤w.heap.size); omega
   exact ⟨A2,c,rfl,⟨(((HR2.out.setC (hns 0) _).setC (hns 1) _).setC (hns 2) _).mono (fun b hb => Nat.le_trans (Nat.le_add_right _ 2) hb),by rw [ixs_len]; exact HC.out.1,HC.out.2,Below.setCell (Below.setCell (Below.setCell HB2.out (Nat.le_refl _) _) (Nat.le_refl _) _) (Nat.le_refl _) _⟩⟩
end Go.Proofs.YtcbbjfafmmcfiaaGreatDoor
namespace Go.Proofs.YtcbbjfafmmcfiaaGreatDoor
open Go.RowKit Lay Mk
theorem shard_no {name:ByteArray} {k:Int} (h:inB k 0 2=false):shardOf name k=0:=by unfold shardOf; rw [h]; rfl
theorem shard_at {name:ByteArray} {k:Int} (h:inB k 0 2=true):shardOf name k=((yaf name / 2 ^ (8 - k.toNat):Nat):Int):=by unfold shardOf; rw [h]; rfl
theorem impl_ShardOf (w:World) (name:ByteArray) (hn:name.size≤1048576) (k:Int) (hT:Tabs w):Calls Tryz.prog 73 #[.string name,.int .i64 k] w fun e w' => e = .returned (.int .i64 (shardOf name k))∧Below w.heap.size w w':=by
 have HT:=zd hT
 clear hT
 have HIX:=zd (fun W (h:Below w.heap.size w W) => impl_IndexOf W name zz13 (HT.out.later h))
 have HSP:=zd (fun W => impl_isSplit k W)
 cases hk:inB k 0 2 <;> rw [hk] at HSP
 ·have HE:=zd (shard_no (name:=name) hk)
  clear hk
  go_enter Tryz.func73,Tryz.ntmps73
  go_wp2_with (fail)
  refine (HSP.out _).mono ?_
  rintro e1 w1 ⟨rfl,rfl⟩
  go_wp2
  go_ret
  exact ⟨ret_int zz58,Below.refl _ _⟩
 ·have HE:=zd (shard_at (name:=name) hk)
  have hk2:0≤k∧k≤2:=by simpa [inB] using hk
  have hi:=indexOf_lt name
  obtain ⟨ix,hix⟩:∃ ix,yaf name=ix:=⟨_,rfl⟩
  rw [hix] at HE HIX hi
  clear hix hk
  rcases (show k=0∨k=1∨k=2 by omega) with rfl | rfl | rfl
  ·have HE2:Hid (shardOf name 0=((ix / 256:Nat):Int)):=zd HE.out
   clear HE hk2
   go_enter Tryz.func73,Tryz.ntmps73
   go_wp2_with (fail)
   refine (HSP.out _).mono ?_
   rintro e1 w1 ⟨rfl,rfl⟩
   go_wp2_with (fail)
   refine (HIX.out _ (Below.refl _ _)).mono ?_
   rintro e2 w2 ⟨rfl,hb2⟩
   go_wp2
   go_ret
   exact ⟨ret_int (by rw [HE2.out]; first | rfl | omega | (simp; done)),hb2⟩
  ·have HE2:Hid (shardOf name 1=((ix / 128:Nat):Int)):=zd HE.out
   clear HE hk2
   go_enter Tryz.func73,Tryz.ntmps73
   go_wp2_with (fail)
   refine (HSP.out _).mono ?_
   rintro e1 w1 ⟨rfl,rfl⟩
   go_wp2_with (fail)
   refine (HIX.out _ (Below.refl _ _)).mono ?_
   rintro e2 w2 ⟨rfl,hb2⟩
   go_wp2
   go_ret
   exact ⟨ret_int (by rw [HE2.out]; first | rfl | omega | (simp; done)),hb2⟩
  ·have HE2:Hid (shardOf name 2=((ix / 64:Nat):Int)):=zd HE.out
   clear HE hk2
   go_enter Tryz.func73,Tryz.ntmps73
   go_wp2_with (fail)
   refine (HSP.out _).mono ?_
   rintro e1 w1 ⟨rfl,rfl⟩
   go_wp2_with (fail)
   refine (HIX.out _ (Below.refl _ _)).mono ?_
   rintro e2 w2 ⟨rfl,hb2⟩
   go_wp2
   go_ret
   exact ⟨ret_int (by rw [HE2.out]; first | rfl | omega | (simp; done)),hb2⟩
theorem spec_ShardOf (w:World) (name:ByteArray) (hn:name.size≤1048576) (k:Int):Calls Tryz.prog 63 #[.string name,.int .i64 k] w fun e w' => e = .returned (.int .i64 (shardOf name k))∧Below w.heap.size w w':=by
 have HIX:=zd (fun W => spec_IndexOf W name zz13)
 have HSP:=zd (fun W => spec_in k 0 2 W)
 cases hk:inB k 0 2 <;> rw [hk] at HSP
 ·have HE:=zd (shard_no (name:=name) hk)
  clear hk
  go_enter Tryz.func63,Tryz.ntmps63
  go_wp2_with (fail)
  refine (HSP.out _).mono ?_
  rintro e1 w1 ⟨rfl,rfl⟩
  go_wp2
  go_ret
  exact ⟨ret_int zz58,Below.refl _ _⟩
 ·have HE:=zd (shard_at (name:=name) hk)
  have hk2:0≤k∧k≤2:=by simpa [inB] using hk
  have hi:=indexOf_lt name
  obtain ⟨ix,hix⟩:∃ ix,yaf name=ix:=⟨_,rfl⟩
  rw [hix] at HE HIX hi
  clear hix hk
  rcases (show k=0∨k=1∨k=2 by omega) with rfl | rfl | rfl
  ·have HE2:Hid (shardOf name 0=((ix / 256:Nat):Int)):=zd HE.out
   clear HE hk2
   go_enter Tryz.func63,Tryz.ntmps63
   go_wp2_with (fail)
   refine (HSP.out _).mono ?_
   rintro e1 w1 ⟨rfl,rfl⟩
   go_wp2_with (fail)
   refine (HIX.out _).mono ?_
   rintro e2 w2 ⟨rfl,hb2⟩
   go_wp2
   go_ret
   exact ⟨ret_int (by rw [HE2.out]; first | rfl | omega | (simp; done)),hb2⟩
  ·have HE2:Hid (shardOf name 1=((ix / 128:Nat):Int)):=zd HE.out
   clear HE hk2
   go_enter Tryz.func63,Tryz.ntmps63
   go_wp2_with (fail)
   refine (HSP.out _).mono ?_
   rintro e1 w1 ⟨rfl,rfl⟩
   go_wp2_with (fail)
   refine (HIX.out _).mono ?_
   rintro e2 w2 ⟨rfl,hb2⟩
   go_wp2
   go_ret
   exact ⟨ret_int (by rw [HE2.out]; first | rfl | omega | (simp; done)),hb2⟩
  ·have HE2:Hid (shardOf name 2=((ix / 64:Nat):Int)):=zd HE.out
   clear HE hk2
   go_enter Tryz.func63,Tryz.ntmps63
   go_wp2_with (fail)
   refine (HSP.out _).mono ?_
   rintro e1 w1 ⟨rfl,rfl⟩
   go_wp2_with (fail)
   refine (HIX.out _).mono ?_
   rintro e2 w2 ⟨rfl,hb2⟩
   go_wp2
   go_ret
   exact ⟨ret_int (by rw [HE2.out]; first | rfl | omega | (simp; done)),hb2⟩
end Go.Proofs.YtcbbjfafmmcfiaaGreatDoor
namespace Go.Proofs.YtcbbjfafmmcfiaaGreatDoor
open Go.RowKit Lay Mk
def foldPair (ix m:Nat) (h s:ByteArray):List ByteArray:=if bitOf ix m=1 then [s,h] else [h,s]
def foldL (n:Int) (ix:Nat):Nat→ByteArray→List ByteArray→List ByteArray
 | _,_, [] => []
 | m,h,s :: r => tagText 3 (foldPair ix (m - 1) h s) :: foldL n ix (m - 1) (yae 3 (foldPair ix (m - 1) h s) n) r
def foldH (n:Int) (ix:Nat):Nat→ByteArray→List ByteArray→ByteArray
 | _,h, [] => h
 | m,h,s :: r => foldH n ix (m - 1) (yae 3 (foldPair ix (m - 1) h s) n) r
def foldUp (n:Int) (h:ByteArray) (ix:Nat) (lv:Int) (sides:List ByteArray):ByteArray:=if (inB lv 0 8 && decide ((sides.length:Int)≤lv))=true then foldH n ix lv.toNat h sides else ⟨#[]⟩
theorem foldL_len (n:Int) (ix:Nat):∀ (l:List ByteArray) (m:Nat) (h:ByteArray),(foldL n ix m h l).length=l.length
 | [],_,_ => rfl
 | s :: r,m,h => by unfold foldL; rw [List.length_cons,foldL_len n ix r]; rfl
theorem bitOf_two (n k:Nat):bitOf n k=0∨bitOf n k=1:=by unfold bitOf; omega
theorem pair_one2 {ix m:Nat} {h s:ByteArray} (e:bitOf ix m=1):foldPair ix m h s = [s,h]:=by unfold foldPair; rw [if_pos e]
theorem pair_zero2 {ix m:Nat} {h s:ByteArray} (e:bitOf ix m=0):foldPair ix m h s = [h,s]:=by unfold foldPair; rw [if_neg zz13]
theorem drop_at {l:List ByteArray} {k:Nat} (h:k<l.length):l.drop k=l[k] :: l.drop (k+1):=List.drop_eq_getElem_cons h
theorem hash_max2 (k:Int) (l:List ByteArray) (n:Int):(yae k l n).size≤maxLen:=ml (tagHash_le k l n) zz13
theorem tagText_max {kind:Int} {xs:List ByteArray}:(tagText kind xs).size≤100000:=by
 unfold tagText
 split
 ·rename_i h
  unfold tagOk at h
  simp only [Bool.and_eq_true,decide_eq_true_eq] at h
  obtain ⟨⟨_,h2⟩,h3⟩:=h
  rw [bs_size]
  unfold tagBody
  rw [List.length_cons]
  have key:∀ ys:List ByteArray,partsOk ys=true→(ys.flatMap partB).length≤205*ys.length:=by
   intro ys
   induction ys with
   | nil => intro _; simp
   | cons y r ih =>
    intro hp
    unfold partsOk at hp ih
    rw [List.all_cons,Bool.and_eq_true] at hp
    have h4:=ih hp.2
    have h5:=partB_le (p:=y) (by simpa using hp.1)
    rw [List.flatMap_cons,List.length_append,List.length_cons]
    omega
  have:=key xs h3
  omega
 ·exact Nat.zero_le _
theorem row_pairC (w:World) (s t:ByteArray) (hs:s.size≤maxLen) (ht:t.size≤maxLen) (ty:TypeId) (b:Nat) (hb:b=w.heap.size):Row false (w.alloc (.cells #[.string s,.string t] ty)) (some ⟨b,0,none⟩) 2 [s,t] (fun q => q=b):=by
 subst hb; exact row_pair w s t hs ht ty
theorem impl_foldTexts (w:World) (hash:ByteArray) (hh:hash.size≤maxLen) (ix:Nat) (hix:ix<256) (lv:Nat) (hlv:lv≤8) (sides:List ByteArray) (A0:Option Addr) (cap0:Nat) (S:Blks) (hx:Row false w A0 cap0 sides S) (hsl:sides.length≤lv) (n:Int) (hn:I64 n) (hT:Tabs w):Calls Tryz.prog 259 #[.string hash,.int .i64 ix,.int .i64 lv,.slice A0 sides.length cap0,.int .i64 n] w fun e w' => ∃ A c,e = .returned (.tuple #[.slice A (foldL n ix lv hash sides).length c,.string (foldH n ix lv hash sides)])∧Own w w' A c (foldL n ix lv hash sides):=by
 have HT:=zd hT
 clear hT
 obtain ⟨RL,hRL⟩:∃ R,foldL n ix lv hash sides=R:=⟨_,rfl⟩
 obtain ⟨RH,hRH⟩:∃ R,foldH n ix lv hash sides=R:=⟨_,rfl⟩
 have HRL:=zd hRL
 have HRH:=zd hRH
 rw [hRL,hRH]
 clear hRL hRH
 go_enter Tryz.func259,Tryz.ntmps259
 go_wp2
 have HO:=zd (Own.start (α:=ByteArray) (Below.refl w.heap.size w))
 go_loopw [0,2,12,20] (fun x v u i wr => ∃ (k m:Nat) (h:ByteArray) (L:List ByteArray) (nL:Nat) (A:Option Addr) (c:Nat),k≤sides.length∧i = .int .i64 k∧v = .int .i64 m∧Hid (m+k=lv)∧x = .string h∧h.size≤maxLen∧u = .slice A nL c∧Hid (nL=L.length)∧nL≤k∧Hid (RL=L ++ foldL n ix m h (sides.drop k))∧Hid (RH=foldH n ix m h (sides.drop k))∧Own w wr A c L) (fun _ _ _ i _ => sides.length - (intOf i).toNat)
 case atStart => exact ⟨0,lv,hash, [],0,none,0,Nat.zero_le _,rfl,rfl,zd rfl,rfl,hh,rfl,zd rfl,Nat.le_refl _,zd (by rw [← HRL.out]; simp),zd (by rw [← HRH.out]; simp),HO.out⟩
 case round =>
  clear HO HRL HRH
  obtain ⟨k,m,h,L,nL,A,c,hk,rfl,rfl,HM,rfl,hhm,rfl,HnL,hnk,HL,HH,hown⟩:=hrel
  have hb:=hown.bl
  have HOW:=zd hown
  by_cases hlt:k<sides.length
  ·obtain ⟨b1,o1,rfl,hl1,f0,s0⟩:=Row.str hx hlt
   replace f0:=(hb.cell (p:=⟨b1,o1+k,none⟩) hl1).trans f0
   have hl2:b1<wr.heap.size:=Nat.lt_of_lt_of_le hl1 hb.size
   have HD:=zd (drop_at hlt)
   obtain ⟨s,hs⟩:∃ s,sides[k]=s:=⟨_,rfl⟩
   rw [hs] at f0 s0 HD
   obtain ⟨m',hm'⟩:∃ m',m=m' + 1:=⟨m - 1,by have:=HM.out; omega⟩
   subst hm'
   have HM2:Hid (m' + (k+1)=lv):=zd (by have:=HM.out; omega)
   have hm8:m' < 8:=by have:=HM.out; omega
   have HNL:Hid (RL=L ++ tagText 3 (foldPair ix m' h s) :: foldL n ix m' (yae 3 (foldPair ix m' h s) n) (sides.drop (k+1))):=zd (by rw [HL.out,HD.out]; rfl)
   have HNH:Hid (RH=foldH n ix m' (yae 3 (foldPair ix m' h s) n) (sides.drop (k+1))):=zd (by rw [HH.out,HD.out]; rfl)
   have hsub:IntKind.i64.wrap (((m' + 1:Nat):Int) - 1)=(m':Int):=by rw [IntWalk.i64_in _ zz13]; omega
   have hsub2:((m' + 1:Nat):Int) - 1=(m':Int):=zz13
   have hsub3:(m':Int)+1 - 1=(m':Int):=zz13
   have HBT:=zd (fun W => impl_BitOf W ix hix m' hm8)
   have HOWb:=zd hb
   clear hs HD HL HH HM hown hb
   rcases bitOf_two ix m' with hbit | hbit
   ·have hq:((bitOf ix m':Int) == 1)=false:=by rw [hbit]; rfl
    have HPE:=zd (pair_zero2 (h:=h) (s:=s) hbit)
    have HNL2:Hid (RL=L ++ tagText 3 [h,s] :: foldL n ix m' (yae 3 [h,s] n) (sides.drop (k+1))):=zd (by rw [HNL.out,HPE.out])
    have HNH2:Hid (RH=foldH n ix m' (yae 3 [h,s] n) (sides.drop (k+1))):=zd (by rw [HNH.out,HPE.out])
    obtain ⟨bt,hbt⟩:∃ bt,bitOf ix m' = bt:=⟨_,rfl⟩
    rw [hbt] at hq HBT
    clear hbit HPE hbt HNL HNH
    go_wp2_with (first | (go_at_call 293; refine (HBT.out _).mono ?_; rintro e9 w9 ⟨rfl,rfl⟩) | (go_at_call 294; fail))
    refine (impl_TagText _ 3 zz41 [h,s] _ _ _ (row_pairC _ h s hhm s0 _ _ zz63) zz30).mono ?_
    rintro e5 w5 ⟨rfl,hb5⟩
    have HO5:=zd ((HOW.out.alloc _).later hb5)
    have htm:=tagText_max (kind:=3) (xs:=[h,s])
    have HTH:Hid (yae 3 [h,s] n=if tagOk 3 [h,s]=true then cutDigest (tagText 3 [h,s]) n else ⟨#[]⟩):=zd rfl
    have hhx:=hash_max2 3 [h,s] n
    obtain ⟨h',hh'⟩:∃ h',yae 3 [h,s] n=h':=⟨_,rfl⟩
    rw [hh'] at HTH HNL2 HNH2 hhx
    obtain ⟨t,ht⟩:∃ t,tagText 3 [h,s]=t:=⟨_,rfl⟩
    rw [ht] at HTH HNL2 htm
    simp only [ht]
    have htx:t.size≤maxLen:=ml htm zz13
    have hts:t.size≤100000000:=zz13
    have HLL:Hid (RL=(L ++ [t]) ++ foldL n ix m' h' (sides.drop (k+1))):=zd (by rw [HNL2.out]; simp)
    clear ht hh' hb5 hsub hsub2 hsub3 HNL2 htm
    cases hok:tagOk 3 [h,s]
    ·have HE:Hid (h' = ⟨#[]⟩):=zd (by rw [HTH.out,hok]; rfl)
     clear hok HTH
     go_wp2_with (at_builtin; refine wpList_push (α:=ByteArray) rfl _ _ rfl rfl HnL.out (HO5.out.alloc _) rfl rfl (src1 htx rfl rfl) zz13 ?_; intro A6 c6 w6 o6 z6)
     go_roundw
     case rel => first | exact ⟨k+1,m',⟨#[]⟩,L ++ [t],nL+1,A6,c6,hlt,by go_num,rfl,HM2,rfl,(by exact Nat.zero_le _),rfl,zd (by rw [HnL.out]; simp),zz13,zd (by rw [HLL.out,HE.out]),zd (by rw [HNH2.out,HE.out]),o6⟩ | ((repeat apply Exists.intro); exact ⟨⟨k+1,m',⟨#[]⟩,L ++ [t],nL+1,A6,c6,hlt,by go_num,rfl,HM2,rfl,(by exact Nat.zero_le _),rfl,zd (by rw [HnL.out]; simp),zz13,zd (by rw [HLL.out,HE.out]),zd (by rw [HNH2.out,HE.out]),o6⟩,rfl⟩)
     case measure => simp [intOf]; omega
    ·have HE:Hid (h' = cutDigest t n):=zd (by rw [HTH.out,hok]; rfl)
     clear hok HTH
     go_wp2_with (first | (at_builtin; refine wpList_push (α:=ByteArray) rfl _ _ rfl rfl HnL.out (HO5.out.alloc _) rfl rfl (src1 htx rfl rfl) zz13 ?_; intro A6 c6 w6 o6 z6) | (go_at_call 261; fail))
     refine (impl_CutDigest _ t hts n hn (HT.out.later o6.bl)).mono ?_
     rintro e7 w7 ⟨rfl,hb7⟩
     rw [← HE.out]
     have HO7:=zd (o6.later hb7)
     clear hb7 o6
     go_wp2
     go_roundw
     case rel => first | exact ⟨k+1,m',h',L ++ [t],nL+1,A6,c6,hlt,by go_num,rfl,HM2,rfl,hhx,rfl,zd (by rw [HnL.out]; simp),zz13,HLL,HNH2,HO7.out⟩ | ((repeat apply Exists.intro); exact ⟨⟨k+1,m',h',L ++ [t],nL+1,A6,c6,hlt,by go_num,rfl,HM2,rfl,hhx,rfl,zd (by rw [HnL.out]; simp),zz13,HLL,HNH2,HO7.out⟩,rfl⟩)
     case measure => simp [intOf]; omega
   ·have hq:((bitOf ix m':Int) == 1)=true:=by rw [hbit]; rfl
    have HPE:=zd (pair_one2 (h:=h) (s:=s) hbit)
    have HNL2:Hid (RL=L ++ tagText 3 [s,h] :: foldL n ix m' (yae 3 [s,h] n) (sides.drop (k+1))):=zd (by rw [HNL.out,HPE.out])
    have HNH2:Hid (RH=foldH n ix m' (yae 3 [s,h] n) (sides.drop (k+1))):=zd (by rw [HNH.out,HPE.out])
    obtain ⟨bt,hbt⟩:∃ bt,bitOf ix m' = bt:=⟨_,rfl⟩
    rw [hbt] at hq HBT
    clear hbit HPE hbt HNL HNH
    go_wp2_with (first | (go_at_call 293; refine (HBT.out _).mono ?_; rintro e9 w9 ⟨rfl,rfl⟩) | (go_at_call 294; fail))
    refine (impl_TagText _ 3 zz41 [s,h] _ _ _ (row_pairC _ s h s0 hhm _ _ zz63) zz30).mono ?_
    rintro e5 w5 ⟨rfl,hb5⟩
    have HO5:=zd (((HOW.out.alloc _).alloc _).later hb5)
    have htm:=tagText_max (kind:=3) (xs:=[s,h])
    have HTH:Hid (yae 3 [s,h] n=if tagOk 3 [s,h]=true then cutDigest (tagText 3 [s,h]) n else ⟨#[]⟩):=zd rfl
    have hhx:=hash_max2 3 [s,h] n
    obtain ⟨h',hh'⟩:∃ h',yae 3 [s,h] n=h':=⟨_,rfl⟩
    rw [hh'] at HTH HNL2 HNH2 hhx
    obtain ⟨t,ht⟩:∃ t,tagText 3 [s,h]=t:=⟨_,rfl⟩
    rw [ht] at HTH HNL2 htm
    simp only [ht]
    have htx:t.size≤maxLen:=ml htm zz13
    have hts:t.size≤100000000:=zz13
    have HLL:Hid (RL=(L ++ [t]) ++ foldL n ix m' h' (sides.drop (k+1))):=zd (by rw [HNL2.out]; simp)
    clear ht hh' hb5 hsub hsub2 hsub3 HNL2 htm
    cases hok:tagOk 3 [s,h]
    ·have HE:Hid (h' = ⟨#[]⟩):=zd (by rw [HTH.out,hok]; rfl)
     clear hok HTH
     go_wp2_with (at_builtin; refine wpList_push (α:=ByteArray) rfl _ _ rfl rfl HnL.out (HO5.out.alloc _) rfl rfl (src1 htx rfl rfl) zz13 ?_; intro A6 c6 w6 o6 z6)
     go_roundw
     case rel => first | exact ⟨k+1,m',⟨#[]⟩,L ++ [t],nL+1,A6,c6,hlt,by go_num,rfl,HM2,rfl,(by exact Nat.zero_le _),rfl,zd (by rw [HnL.out]; simp),zz13,zd (by rw [HLL.out,HE.out]),zd (by rw [HNH2.out,HE.out]),o6⟩ | ((repeat apply Exists.intro); exact ⟨⟨k+1,m',⟨#[]⟩,L ++ [t],nL+1,A6,c6,hlt,by go_num,rfl,HM2,rfl,(by exact Nat.zero_le _),rfl,zd (by rw [HnL.out]; simp),zz13,zd (by rw [HLL.out,HE.out]),zd (by rw [HNH2.out,HE.out]),o6⟩,rfl⟩)
     case measure => simp [intOf]; omega
    ·have HE:Hid (h' = cutDigest t n):=zd (by rw [HTH.out,hok]; rfl)
     clear hok HTH
     go_wp2_with (first | (at_builtin; refine wpList_push (α:=ByteArray) rfl _ _ rfl rfl HnL.out (HO5.out.alloc _) rfl rfl (src1 htx rfl rfl) zz13 ?_; intro A6 c6 w6 o6 z6) | (go_at_call 261; fail))
     refine (impl_CutDigest _ t hts n hn (HT.out.later o6.bl)).mono ?_
     rintro e7 w7 ⟨rfl,hb7⟩
     rw [← HE.out]
     have HO7:=zd (o6.later hb7)
     clear hb7 o6
     go_wp2
     go_roundw
     case rel => first | exact ⟨k+1,m',h',L ++ [t],nL+1,A6,c6,hlt,by go_num,rfl,HM2,rfl,hhx,rfl,zd (by rw [HnL.out]; simp),zz13,HLL,HNH2,HO7.out⟩ | ((repeat apply Exists.intro); exact ⟨⟨k+1,m',h',L ++ [t],nL+1,A6,c6,hlt,by go_num,rfl,HM2,rfl,hhx,rfl,zd (by rw [HnL.out]; simp),zz13,HLL,HNH2,HO7.out⟩,rfl⟩)
     case measure => simp [intOf]; omega
  ·have hke:k=sides.length:=by omega
   have HE1:Hid (RL=L):=zd (by rw [HL.out,List.drop_of_length_le zz13]; simp [foldL])
   have HE2:Hid (RH=h):=zd (by rw [HH.out,List.drop_of_length_le zz13]; simp [foldH])
   clear hown hb
   go_wp2
   go_ret2
   exact ⟨A,c,by rw [HE1.out,HE2.out, ← HnL.out]; rfl,by rw [HE1.out]; exact HOW.out⟩
theorem impl_FoldUp (w:World) (hash:ByteArray) (hh:hash.size≤maxLen) (ix:Nat) (hix:ix<256) (lv:Int) (hlv:I64 lv) (sides:List ByteArray) (A0:Option Addr) (cap0:Nat) (S:Blks) (hx:Row false w A0 cap0 sides S) (hsl:sides.length≤4000000000) (n:Int) (hn:I64 n) (hT:Tabs w):Calls Tryz.prog 185 #[.string hash,.int .i64 ix,.int .i64 lv,.slice A0 sides.length cap0,.int .i64 n] w fun e w' => e = .returned (.string (foldUp n hash ix lv sides))∧Below w.heap.size w w':=by
 unfold I64 at hlv
 cases hin:inB lv 0 8
 ·have HC:Hid (foldUp n hash ix lv sides=⟨#[]⟩):=zd (by unfold foldUp; rw [hin]; rfl)
  go_enter Tryz.func185,Tryz.ntmps185
  go_wp2_with (go_at_call 70; refine (impl_in _ _ _ _).mono ?_; rintro e2 w2 ⟨rfl,rfl⟩)
  go_ret
  exact ⟨ret_str (by rw [HC.out]),Below.refl _ _⟩
 have h08:0≤lv∧lv≤8:=by simpa [inB] using hin
 by_cases hlt:lv<(sides.length:Int)
 ·have HC:Hid (foldUp n hash ix lv sides=⟨#[]⟩):=zd (by unfold foldUp; rw [hin,decide_eq_false zz13]; rfl)
  go_enter Tryz.func185,Tryz.ntmps185
  go_wp2_with (go_at_call 70; refine (impl_in _ _ _ _).mono ?_; rintro e2 w2 ⟨rfl,rfl⟩)
  go_ret
  exact ⟨ret_str (by rw [HC.out]),Below.refl _ _⟩
 have HC:Hid (foldUp n hash ix lv sides=foldH n ix lv.toNat hash sides):=zd (by unfold foldUp; rw [hin,decide_eq_true zz13]; rfl)
 obtain ⟨l,rfl⟩:∃ l:Nat,lv=l:=⟨lv.toNat,zz13⟩
 rw [Int.toNat_natCast] at HC
 have HFT:=zd (impl_foldTexts w hash hh ix hix l zz13 sides A0 cap0 S hx zz13 n hn hT)
 clear hT
 go_enter Tryz.func185,Tryz.ntmps185
 go_wp2_with (first | (go_at_call 70; refine (impl_in _ _ _ _).mono ?_; rintro e2 w2 ⟨rfl,rfl⟩) | (go_at_call 259; fail))
 refine HFT.out.mono ?_
 rintro e5 w5 ⟨A,c,rfl,own⟩
 have HB:=zd own.bl
 clear own
 go_wp2
 go_ret
 exact ⟨ret_str (by rw [HC.out]),HB.out⟩
theorem spec_FoldUp (w:World) (hash:ByteArray) (hh:hash.size≤maxLen) (ix:Nat) (hix:ix<256) (lv:Int) (hlv:I64 lv) (sides:List ByteArray) (A0:Option Addr) (cap0:Nat) (S:Blks) (hx:Row false w A0 cap0 sides S) (hsl:sides.length≤4000000000) (n:Int) (hn:I64 n):Calls Tryz.prog 178 #[.string hash,.int .i64 ix,.int .i64 lv,.slice A0 sides.length cap0,.int .i64 n] w fun e w' => e = .returned (.string (foldUp n hash ix lv sides))∧Below w.heap.size w w':=by
 unfold I64 at hlv
 cases hin:inB lv 0 8
 ·have HC:Hid (foldUp n hash ix lv sides=⟨#[]⟩):=zd (by unfold foldUp; rw [hin]; rfl)
  go_enter Tryz.func178,Tryz.ntmps178
  go_wp2_with (go_at_call 62; refine (spec_in _ _ _ _).mono ?_; rintro e2 w2 ⟨rfl,rfl⟩)
  go_ret
  exact ⟨ret_str (by rw [HC.out]),Below.refl _ _⟩
 have h08:0≤lv∧lv≤8:=by simpa [inB] using hin
 by_cases hlt:lv<(sides.length:Int)
 ·have HC:Hid (foldUp n hash ix lv sides=⟨#[]⟩):=zd (by unfold foldUp; rw [hin,decide_eq_false zz13]; rfl)
  go_enter Tryz.func178,Tryz.ntmps178
  go_wp2_with (go_at_call 62; refine (spec_in _ _ _ _).mono ?_; rintro e2 w2 ⟨rfl,rfl⟩)
  go_ret
  exact ⟨ret_str (by rw [HC.out]),Below.refl _ _⟩
 have HC:Hid (foldUp n hash ix lv sides=foldH n ix lv.toNat hash sides):=zd (by unfold foldUp; rw [hin,decide_eq_true zz13]; rfl)
 obtain ⟨l,rfl⟩:∃ l:Nat,lv=l:=⟨lv.toNat,zz13⟩
 rw [Int.toNat_natCast] at HC
 have hl8:l≤8:=zz13
 have hsll:sides.length≤l:=zz13
 obtain ⟨RH,hRH⟩:∃ R,foldUp n hash ix (l:Int) sides=R:=⟨_,rfl⟩
 rw [hRH] at HC ⊢
 clear hRH
 have HTS:=zd hin
 have hdl:decide ((l:Int)<(sides.length:Int))=false:=decide_eq_false hlt
 have hdl2:decide (l<sides.length)=false:=decide_eq_false zz13
 go_enter Tryz.func178,Tryz.ntmps178
 go_wp2_with (go_at_call 62; refine (spec_in _ _ _ _).mono ?_; rintro e2 w2 ⟨rfl,rfl⟩)
 clear hin h08
 go_loopw [11,12] (fun x i wr => ∃ (k m:Nat) (h:ByteArray),k≤sides.length∧i = .int .i64 k∧Hid (m+k=l)∧x = .string h∧h.size≤maxLen∧Hid (RH=foldH n ix m h (sides.drop k))∧Below w.heap.size w wr) (fun _ i _ => sides.length - (intOf i).toNat)
 case atStart => exact ⟨0,l,hash,Nat.zero_le _,rfl,zd rfl,rfl,hh,zd (by rw [HC.out]; simp),Below.refl _ _⟩
 case round =>
  clear HC
  obtain ⟨k,m,h,hk,rfl,HM,rfl,hhm,HH,hb⟩:=hrel
  have HB:=zd hb
  by_cases hlt2:k<sides.length
  ·obtain ⟨b1,o1,rfl,hl1,f0,s0⟩:=Row.str hx hlt2
   replace f0:=(hb.cell (p:=⟨b1,o1+k,none⟩) hl1).trans f0
   have hl2:b1<wr.heap.size:=Nat.lt_of_lt_of_le hl1 hb.size
   have HD:=zd (drop_at hlt2)
   obtain ⟨s,hs⟩:∃ s,sides[k]=s:=⟨_,rfl⟩
   rw [hs] at f0 s0 HD
   obtain ⟨m',hm'⟩:∃ m',m=m' + 1:=⟨m - 1,by have:=HM.out; omega⟩
   subst hm'
   have HM2:Hid (m' + (k+1)=l):=zd (by have:=HM.out; omega)
   have hm8:m' < 8:=by have:=HM.out; omega
   have HNH:Hid (RH=foldH n ix m' (yae 3 (foldPair ix m' h s) n) (sides.drop (k+1))):=zd (by rw [HH.out,HD.out]; rfl)
   have hlm:(l:Int) - 1 - (k:Int)=(m':Int):=by have:=HM.out; omega
   have HBT:=zd (fun W => spec_BitOf W ix hix m' hm8)
   rw [← hlm] at HBT
   have hs1:IntKind.i64.wrap ((l:Int) - 1)=(l:Int) - 1:=IntWalk.i64_in _ zz13
   have hs2:IntKind.i64.wrap ((l:Int) - 1 - (k:Int))=(l:Int) - 1 - (k:Int):=IntWalk.i64_in _ zz13
   clear hs HD HH HM hb hlm
   rcases bitOf_two ix m' with hbit | hbit
   ·have hq:((bitOf ix m':Int) == 0)=true:=by rw [hbit]; rfl
    have HPE:=zd (pair_zero2 (h:=h) (s:=s) hbit)
    have HNH2:Hid (RH=foldH n ix m' (yae 3 [h,s] n) (sides.drop (k+1))):=zd (by rw [HNH.out,HPE.out])
    obtain ⟨bt,hbt⟩:∃ bt,bitOf ix m' = bt:=⟨_,rfl⟩
    rw [hbt] at hq HBT
    clear hbit HPE hbt HNH
    go_wp2_with (first | (go_at_call 249; refine (HBT.out _).mono ?_; rintro e9 w9 ⟨rfl,rfl⟩) | (go_at_call 183; fail))
    refine (spec_TagHash _ 3 zz41 [h,s] _ _ _ (row_pairC _ h s hhm s0 _ _ zz63) zz30 n hn).mono ?_
    rintro e5 w5 ⟨rfl,hb5⟩
    have HB5:=zd ((HB.out.alloc HB.out.size _).trans (hb5.mono (by have:=HB.out.size; simp; omega)))
    have hhx:=hash_max2 3 [h,s] n
    obtain ⟨h',hh'⟩:∃ h',yae 3 [h,s] n=h':=⟨_,rfl⟩
    rw [hh'] at HNH2 hhx
    simp only [hh']
    clear hh' hb5 hs1 hs2
    go_wp2
    go_roundw
    case rel => first | exact ⟨k+1,m',h',hlt2,by go_num,HM2,rfl,hhx,HNH2,HB5.out⟩ | ((repeat apply Exists.intro); exact ⟨⟨k+1,m',h',hlt2,by go_num,HM2,rfl,hhx,HNH2,HB5.out⟩,rfl⟩)
    case measure => simp [intOf]; omega
   ·have hq:((bitOf ix m':Int) == 0)=false:=by rw [hbit]; rfl
    have HPE:=zd (pair_one2 (h:=h) (s:=s) hbit)
    have HNH2:Hid (RH=foldH n ix m' (yae 3 [s,h] n) (sides.drop (k+1))):=zd (by rw [HNH.out,HPE.out])
    obtain ⟨bt,hbt⟩:∃ bt,bitOf ix m' = bt:=⟨_,rfl⟩
    rw [hbt] at hq HBT
    clear hbit HPE hbt HNH
    go_wp2_with (first | (go_at_call 249; refine (HBT.out _).mono ?_; rintro e9 w9 ⟨rfl,rfl⟩) | (go_at_call 183; fail))
    refine (spec_TagHash _ 3 zz41 [s,h] _ _ _ (row_pairC _ s h s0 hhm _ _ zz63) zz30 n hn).mono ?_
    rintro e5 w5 ⟨rfl,hb5⟩
    have HB5:=zd ((HB.out.alloc HB.out.size _).trans (hb5.mono (by have:=HB.out.size; simp; omega)))
    have hhx:=hash_max2 3 [s,h] n
    obtain ⟨h',hh'⟩:∃ h',yae 3 [s,h] n=h':=⟨_,rfl⟩
    rw [hh'] at HNH2 hhx
    simp only [hh']
    clear hh' hb5 hs1 hs2
    go_wp2
    go_roundw
    case rel => first | exact ⟨k+1,m',h',hlt2,by go_num,HM2,rfl,hhx,HNH2,HB5.out⟩ | ((repeat apply Exists.intro); exact ⟨⟨k+1,m',h',hlt2,by go_num,HM2,rfl,hhx,HNH2,HB5.out⟩,rfl⟩)
    case measure => simp [intOf]; omega
  ·have hke:k=sides.length:=by omega
   have HE2:Hid (RH=h):=zd (by rw [HH.out,List.drop_of_length_le zz13]; simp [foldH])
   clear hb
   go_wp2
   go_ret
   exact ⟨ret_str (by rw [HE2.out]),HB.out⟩
end Go.Proofs.YtcbbjfafmmcfiaaGreatDoor
namespace Go.Proofs.YtcbbjfafmmcfiaaGreatDoor
open Go.RowKit Lay Mk
def sealAt (e:Int):Int:=if inB e 1 4=true then e - 1 else -1
def sealOk (root:ByteArray) (s:Seal):Bool:=headOk s.head && decide (s.sig.at_=sealAt s.head.epoch) && sigOk root (headHash s.head) s.sig
theorem inB_14 {e:Int} (h:inB e 1 4=true):1≤e∧e≤4:=by simpa [inB] using h
theorem impl_SealAt (e:Int) (w:World):Calls Tryz.prog 199 #[.int .i64 e] w fun r w' => r = .returned (.int .i64 (sealAt e))∧w=w':=by
 cases hi:inB e 1 4
 ·have HC:Hid (sealAt e = -1):=zd (by unfold sealAt; rw [hi]; rfl)
  go_enter Tryz.func199,Tryz.ntmps199
  go_wp2_with (go_at_call 153; refine (epoch_in _ _).mono ?_; rintro e0 w2 ⟨rfl,rfl⟩)
  go_ret
  exact ⟨by rw [HC.out]; rfl,rfl⟩
 ·have HC:Hid (sealAt e=e - 1):=zd (by unfold sealAt; rw [hi]; rfl)
  obtain ⟨h1,h2⟩:=inB_14 hi
  go_enter Tryz.func199,Tryz.ntmps199
  go_wp2_with (go_at_call 153; refine (epoch_in _ _).mono ?_; rintro e0 w2 ⟨rfl,rfl⟩)
  go_ret
  exact ⟨by rw [HC.out]; rfl,rfl⟩
theorem spec_SealAt (e:Int) (w:World):Calls Tryz.prog 247 #[.int .i64 e] w fun r w' => r = .returned (.int .i64 (sealAt e))∧w=w':=by
 cases hi:inB e 1 4
 ·have HC:Hid (sealAt e = -1):=zd (by unfold sealAt; rw [hi]; rfl)
  go_enter Tryz.func247,Tryz.ntmps247
  go_wp2_with (go_at_call 62; refine (spec_in _ _ _ _).mono ?_; rintro e0 w2 ⟨rfl,rfl⟩)
  go_ret
  exact ⟨by rw [HC.out]; rfl,rfl⟩
 ·have HC:Hid (sealAt e=e - 1):=zd (by unfold sealAt; rw [hi]; rfl)
  obtain ⟨h1,h2⟩:=inB_14 hi
  go_enter Tryz.func247,Tryz.ntmps247
  go_wp2_with (go_at_call 62; refine (spec_in _ _ _ _).mono ?_; rintro e0 w2 ⟨rfl,rfl⟩)
  go_ret
  exact ⟨by rw [HC.out]; rfl,rfl⟩
theorem impl_SealOk (w:World) (root:ByteArray) (x:Seal) (cs:List Value) (S:Blks) (hx:rd false w cs x S) (hT:Tabs w):Calls Tryz.prog 109 #[.string root,.agg cs.toArray] w fun e w' => e = .returned (.bool (sealOk root x))∧Below w.heap.size w w':=by
 obtain ⟨A0,k0,S0,A1,k1,S1,A2,k2,S2,rfl,f0,f1,f2,f3,f4,a0,b0,r0,s0,a1,b1,r1,s1,a2,b2,r2,s2,pw⟩:=Seal.open hx
 clear hx
 obtain ⟨⟨hh,he,hr,hp⟩,⟨a,so,ss,sd⟩⟩:=x
 simp only at f0 f1 f2 f3 f4 a0 b0 r0 a1 b1 r1 a2 b2 r2
 have HSig:=zd (fun W (h:Below w.heap.size w W) => impl_SigOk W root (headHash ⟨hh,he,hr,hp⟩) ⟨a,so,ss,sd⟩ _ S (Lay.later (Sig.mk' (x:=⟨a,so,ss,sd⟩) f4 a0 b0 r0 s0 a1 b1 r1 s1 a2 b2 r2 s2 (fun h => by simp at h)) h) (hT.later h))
 have HOK:Hid (sealOk root ⟨⟨hh,he,hr,hp⟩,⟨a,so,ss,sd⟩⟩=(headOk ⟨hh,he,hr,hp⟩ && decide (a=sealAt he) && sigOk root (headHash ⟨hh,he,hr,hp⟩) ⟨a,so,ss,sd⟩)):=zd rfl
 have HT:=zd hT
 clear hT
 clear pw r0 r1 r2
 simp only [Seal.cs]
 simp only [Sig.cs] at HSig
 have HSA:=zd (fun W => impl_SealAt he W)
 have HHO:=zd (fun W => impl_HeadOk ⟨hh,he,hr,hp⟩ W)
 obtain ⟨v,hv⟩:∃ v,sealAt he=v:=⟨_,rfl⟩
 rw [hv] at HOK HSA
 clear hv
 cases hok:headOk ⟨hh,he,hr,hp⟩ <;> rw [hok] at HHO
 ·have HF:Hid (sealOk root ⟨⟨hh,he,hr,hp⟩,⟨a,so,ss,sd⟩⟩=false):=zd (by rw [HOK.out,hok]; rfl)
  go_enter Tryz.func109,Tryz.ntmps109
  go_wp2
  generalize hW:w.alloc (.cells #[.int .i64 hh,.int .i64 he,.string hr,.string hp,.int .i64 a,.slice A0 so.length k0,.slice A1 ss.length k1,.slice A2 sd.length k2] 105)=W
  have HBW:Hid (Below w.heap.size w W):=zz74
  obtain ⟨B,hBe⟩:∃ B,w.heap.size=B:=⟨_,rfl⟩
  have hBlt:B<W.heap.size:=by rw [← hW, ← hBe]; simp
  have c0:=Grown.cell (show W.cell? ⟨B,0,none⟩=some (.int .i64 hh) by rw [← hW, ← hBe]; exact ya1 _ _ _ _ _ rfl)
  have c1:=Grown.cell (show W.cell? ⟨B,1,none⟩=some (.int .i64 he) by rw [← hW, ← hBe]; exact ya1 _ _ _ _ _ rfl)
  have c2:=Grown.cell (show W.cell? ⟨B,2,none⟩=some (.string hr) by rw [← hW, ← hBe]; exact ya1 _ _ _ _ _ rfl)
  have c3:=Grown.cell (show W.cell? ⟨B,3,none⟩=some (.string hp) by rw [← hW, ← hBe]; exact ya1 _ _ _ _ _ rfl)
  have c4:=Grown.cell (show W.cell? ⟨B,4,none⟩=some (.int .i64 a) by rw [← hW, ← hBe]; exact ya1 _ _ _ _ _ rfl)
  have c5:=Grown.cell (show W.cell? ⟨B,5,none⟩=some (.slice A0 so.length k0) by rw [← hW, ← hBe]; exact ya1 _ _ _ _ _ rfl)
  have c6:=Grown.cell (show W.cell? ⟨B,6,none⟩=some (.slice A1 ss.length k1) by rw [← hW, ← hBe]; exact ya1 _ _ _ _ _ rfl)
  have c7:=Grown.cell (show W.cell? ⟨B,7,none⟩=some (.slice A2 sd.length k2) by rw [← hW, ← hBe]; exact ya1 _ _ _ _ _ rfl)
  have HBE:=zd hBe
  rw [hBe]
  clear hW hBe
  refine ya4 (by kernel_rfl) (by kernel_rfl) ?_
  repeat (go_big_quiet_step (first | (go_at_call 198; exact ya8 (HHO.out _)) | (go_at_call 199; exact yac (HSA.out _)) | (go_at_call 94; exact ya8 (impl_HeadHash ⟨hh,he,hr,hp⟩ _ (HT.out.later (HBW.out.trans ((Grown.ok _).mono HBW.out.size))))) | (go_at_call 200; exact ya8 (HSig.out _ (HBW.out.trans ((Grown.ok _).mono HBW.out.size))))))
  refine wpQuiet_nil ?_
  intro w2 hw2
  have hR:=zd (yaa hw2)
  clear hw2
  go_wp2
  go_ret
  exact ⟨yab (by rw [HF.out]),(HBW.out).trans (hR.out.mono HBW.out.size)⟩
 ·by_cases hav:a=v
  ·have HF:Hid (sealOk root ⟨⟨hh,he,hr,hp⟩,⟨a,so,ss,sd⟩⟩=sigOk root (headHash ⟨hh,he,hr,hp⟩) ⟨a,so,ss,sd⟩):=zd (by rw [HOK.out,hok,decide_eq_true hav]; rfl)
   subst hav
   obtain ⟨z,hz⟩:∃ z,sigOk root (headHash ⟨hh,he,hr,hp⟩) ⟨a,so,ss,sd⟩=z:=⟨_,rfl⟩
   rw [hz] at HSig HF
   clear hz
   go_enter Tryz.func109,Tryz.ntmps109
   go_wp2
   generalize hW:w.alloc (.cells #[.int .i64 hh,.int .i64 he,.string hr,.string hp,.int .i64 a,.slice A0 so.length k0,.slice A1 ss.length k1,.slice A2 sd.length k2] 105)=W
   have HBW:Hid (Below w.heap.size w W):=zz74
   obtain ⟨B,hBe⟩:∃ B,w.heap.size=B:=⟨_,rfl⟩
   have hBlt:B<W.heap.size:=by rw [← hW, ← hBe]; simp
   have c0:=Grown.cell (show W.cell? ⟨B,0,none⟩=some (.int .i64 hh) by rw [← hW, ← hBe]; exact ya1 _ _ _ _ _ rfl)
   have c1:=Grown.cell (show W.cell? ⟨B,1,none⟩=some (.int .i64 he) by rw [← hW, ← hBe]; exact ya1 _ _ _ _ _ rfl)
   have c2:=Grown.cell (show W.cell? ⟨B,2,none⟩=some (.string hr) by rw [← hW, ← hBe]; exact ya1 _ _ _ _ _ rfl)
   have c3:=Grown.cell (show W.cell? ⟨B,3,none⟩=some (.string hp) by rw [← hW, ← hBe]; exact ya1 _ _ _ _ _ rfl)
   have c4:=Grown.cell (show W.cell? ⟨B,4,none⟩=some (.int .i64 a) by rw [← hW, ← hBe]; exact ya1 _ _ _ _ _ rfl)
   have c5:=Grown.cell (show W.cell? ⟨B,5,none⟩=some (.slice A0 so.length k0) by rw [← hW, ← hBe]; exact ya1 _ _ _ _ _ rfl)
   have c6:=Grown.cell (show W.cell? ⟨B,6,none⟩=some (.slice A1 ss.length k1) by rw [← hW, ← hBe]; exact ya1 _ _ _ _ _ rfl)
   have c7:=Grown.cell (show W.cell? ⟨B,7,none⟩=some (.slice A2 sd.length k2) by rw [← hW, ← hBe]; exact ya1 _ _ _ _ _ rfl)
   have HBE:=zd hBe
   rw [hBe]
   clear hW hBe
   refine ya4 (by kernel_rfl) (by kernel_rfl) ?_
   repeat (go_big_quiet_step (first | (go_at_call 198; exact ya8 (HHO.out _)) | (go_at_call 199; exact yac (HSA.out _)) | (go_at_call 94; exact ya8 (impl_HeadHash ⟨hh,he,hr,hp⟩ _ (HT.out.later (HBW.out.trans ((Grown.ok _).mono HBW.out.size))))) | (go_at_call 200; exact ya8 (HSig.out _ (HBW.out.trans ((Grown.ok _).mono HBW.out.size))))))
   refine wpQuiet_nil ?_
   intro w2 hw2
   have hR:=zd (yaa hw2)
   clear hw2
   go_wp2
   go_ret
   exact ⟨yab (by rw [HF.out]),(HBW.out).trans (hR.out.mono HBW.out.size)⟩
  ·have HF:Hid (sealOk root ⟨⟨hh,he,hr,hp⟩,⟨a,so,ss,sd⟩⟩=false):=zd (by rw [HOK.out,hok,decide_eq_false hav]; rfl)
   have hq1:(a == v)=false:=beq_eq_false_iff_ne.2 hav
   have hq2:decide (a=v)=false:=decide_eq_false hav
   go_enter Tryz.func109,Tryz.ntmps109
   go_wp2
   generalize hW:w.alloc (.cells #[.int .i64 hh,.int .i64 he,.string hr,.string hp,.int .i64 a,.slice A0 so.length k0,.slice A1 ss.length k1,.slice A2 sd.length k2] 105)=W
   have HBW:Hid (Below w.heap.size w W):=zz74
   obtain ⟨B,hBe⟩:∃ B,w.heap.size=B:=⟨_,rfl⟩
   have hBlt:B<W.heap.size:=by rw [← hW, ← hBe]; simp
   have c0:=Grown.cell (show W.cell? ⟨B,0,none⟩=some (.int .i64 hh) by rw [← hW, ← hBe]; exact ya1 _ _ _ _ _ rfl)
   have c1:=Grown.cell (show W.cell? ⟨B,1,none⟩=some (.int .i64 he) by rw [← hW, ← hBe]; exact ya1 _ _ _ _ _ rfl)
   have c2:=Grown.cell (show W.cell? ⟨B,2,none⟩=some (.string hr) by rw [← hW, ← hBe]; exact ya1 _ _ _ _ _ rfl)
   have c3:=Grown.cell (show W.cell? ⟨B,3,none⟩=some (.string hp) by rw [← hW, ← hBe]; exact ya1 _ _ _ _ _ rfl)
   have c4:=Grown.cell (show W.cell? ⟨B,4,none⟩=some (.int .i64 a) by rw [← hW, ← hBe]; exact ya1 _ _ _ _ _ rfl)
   have c5:=Grown.cell (show W.cell? ⟨B,5,none⟩=some (.slice A0 so.length k0) by rw [← hW, ← hBe]; exact ya1 _ _ _ _ _ rfl)
   have c6:=Grown.cell (show W.cell? ⟨B,6,none⟩=some (.slice A1 ss.length k1) by rw [← hW, ← hBe]; exact ya1 _ _ _ _ _ rfl)
   have c7:=Grown.cell (show W.cell? ⟨B,7,none⟩=some (.slice A2 sd.length k2) by rw [← hW, ← hBe]; exact ya1 _ _ _ _ _ rfl)
   have HBE:=zd hBe
   rw [hBe]
   clear hW hBe
   refine ya4 (by kernel_rfl) (by kernel_rfl) ?_
   repeat (go_big_quiet_step (first | (go_at_call 198; exact ya8 (HHO.out _)) | (go_at_call 199; exact yac (HSA.out _)) | (go_at_call 94; exact ya8 (impl_HeadHash ⟨hh,he,hr,hp⟩ _ (HT.out.later (HBW.out.trans ((Grown.ok _).mono HBW.out.size))))) | (go_at_call 200; exact ya8 (HSig.out _ (HBW.out.trans ((Grown.ok _).mono HBW.out.size))))))
   refine wpQuiet_nil ?_
   intro w2 hw2
   have hR:=zd (yaa hw2)
   clear hw2
   go_wp2
   go_ret
   exact ⟨yab (by rw [HF.out]),(HBW.out).trans (hR.out.mono HBW.out.size)⟩
theorem spec_SealOk (w:World) (root:ByteArray) (x:Seal) (cs:List Value) (S:Blks) (hx:rd false w cs x S):Calls Tryz.prog 177 #[.string root,.agg cs.toArray] w fun e w' => e = .returned (.bool (sealOk root x))∧Below w.heap.size w w':=by
 obtain ⟨A0,k0,S0,A1,k1,S1,A2,k2,S2,rfl,f0,f1,f2,f3,f4,a0,b0,r0,s0,a1,b1,r1,s1,a2,b2,r2,s2,pw⟩:=Seal.open hx
 clear hx
 obtain ⟨⟨hh,he,hr,hp⟩,⟨a,so,ss,sd⟩⟩:=x
 simp only at f0 f1 f2 f3 f4 a0 b0 r0 a1 b1 r1 a2 b2 r2
 have HSig:=zd (fun W (h:Below w.heap.size w W) => spec_SigOk W root (headHash ⟨hh,he,hr,hp⟩) ⟨a,so,ss,sd⟩ _ S (Lay.later (Sig.mk' (x:=⟨a,so,ss,sd⟩) f4 a0 b0 r0 s0 a1 b1 r1 s1 a2 b2 r2 s2 (fun h => by simp at h)) h))
 have HOK:Hid (sealOk root ⟨⟨hh,he,hr,hp⟩,⟨a,so,ss,sd⟩⟩=(headOk ⟨hh,he,hr,hp⟩ && decide (a=sealAt he) && sigOk root (headHash ⟨hh,he,hr,hp⟩) ⟨a,so,ss,sd⟩)):=zd rfl
 clear pw r0 r1 r2
 simp only [Seal.cs]
 simp only [Sig.cs] at HSig
 have HSA:=zd (fun W => spec_SealAt he W)
 have HHO:=zd (fun W => spec_HeadOk ⟨hh,he,hr,hp⟩ W)
 obtain ⟨v,hv⟩:∃ v,sealAt he=v:=⟨_,rfl⟩
 rw [hv] at HOK HSA
 clear hv
 cases hok:headOk ⟨hh,he,hr,hp⟩ <;> rw [hok] at HHO
 ·have HF:Hid (sealOk root ⟨⟨hh,he,hr,hp⟩,⟨a,so,ss,sd⟩⟩=false):=zd (by rw [HOK.out,hok]; rfl)
  go_enter Tryz.func177,Tryz.ntmps177
  go_wp2
  generalize hW:w.alloc (.cells #[.int .i64 hh,.int .i64 he,.string hr,.string hp,.int .i64 a,.slice A0 so.length k0,.slice A1 ss.length k1,.slice A2 sd.length k2] 105)=W
  have HBW:Hid (Below w.heap.size w W):=zz74
  obtain ⟨B,hBe⟩:∃ B,w.heap.size=B:=⟨_,rfl⟩
  have hBlt:B<W.heap.size:=by rw [← hW, ← hBe]; simp
  have c0:=Grown.cell (show W.cell? ⟨B,0,none⟩=some (.int .i64 hh) by rw [← hW, ← hBe]; exact ya1 _ _ _ _ _ rfl)
  have c1:=Grown.cell (show W.cell? ⟨B,1,none⟩=some (.int .i64 he) by rw [← hW, ← hBe]; exact ya1 _ _ _ _ _ rfl)
  have c2:=Grown.cell (show W.cell? ⟨B,2,none⟩=some (.string hr) by rw [← hW, ← hBe]; exact ya1 _ _ _ _ _ rfl)
  have c3:=Grown.cell (show W.cell? ⟨B,3,none⟩=some (.string hp) by rw [← hW, ← hBe]; exact ya1 _ _ _ _ _ rfl)
  have c4:=Grown.cell (show W.cell? ⟨B,4,none⟩=some (.int .i64 a) by rw [← hW, ← hBe]; exact ya1 _ _ _ _ _ rfl)
  have c5:=Grown.cell (show W.cell? ⟨B,5,none⟩=some (.slice A0 so.length k0) by rw [← hW, ← hBe]; exact ya1 _ _ _ _ _ rfl)
  have c6:=Grown.cell (show W.cell? ⟨B,6,none⟩=some (.slice A1 ss.length k1) by rw [← hW, ← hBe]; exact ya1 _ _ _ _ _ rfl)
  have c7:=Grown.cell (show W.cell? ⟨B,7,none⟩=some (.slice A2 sd.length k2) by rw [← hW, ← hBe]; exact ya1 _ _ _ _ _ rfl)
  have HBE:=zd hBe
  rw [hBe]
  clear hW hBe
  refine ya4 (by kernel_rfl) (by kernel_rfl) ?_
  repeat (go_big_quiet_step (first | (go_at_call 246; exact ya8 (HHO.out _)) | (go_at_call 247; exact yac (HSA.out _)) | (go_at_call 90; exact ya8 (spec_HeadHash ⟨hh,he,hr,hp⟩ _)) | (go_at_call 248; exact ya8 (HSig.out _ (HBW.out.trans ((Grown.ok _).mono HBW.out.size))))))
  refine wpQuiet_nil ?_
  intro w2 hw2
  have hR:=zd (yaa hw2)
  clear hw2
  go_wp2
  go_ret
  exact ⟨yab (by rw [HF.out]),(HBW.out).trans (hR.out.mono HBW.out.size)⟩
 ·by_cases hav:a=v
  ·have HF:Hid (sealOk root ⟨⟨hh,he,hr,hp⟩,⟨a,so,ss,sd⟩⟩=sigOk root (headHash ⟨hh,he,hr,hp⟩) ⟨a,so,ss,sd⟩):=zd (by rw [HOK.out,hok,decide_eq_true hav]; rfl)
   subst hav
   obtain ⟨z,hz⟩:∃ z,sigOk root (headHash ⟨hh,he,hr,hp⟩) ⟨a,so,ss,sd⟩=z:=⟨_,rfl⟩
   rw [hz] at HSig HF
   clear hz
   go_enter Tryz.func177,Tryz.ntmps177
   go_wp2
   generalize hW:w.alloc (.cells #[.int .i64 hh,.int .i64 he,.string hr,.string hp,.int .i64 a,.slice A0 so.length k0,.slice A1 ss.length k1,.slice A2 sd.length k2] 105)=W
   have HBW:Hid (Below w.heap.size w W):=zz74
   obtain ⟨B,hBe⟩:∃ B,w.heap.size=B:=⟨_,rfl⟩
   have hBlt:B<W.heap.size:=by rw [← hW, ← hBe]; simp
   have c0:=Grown.cell (show W.cell? ⟨B,0,none⟩=some (.int .i64 hh) by rw [← hW, ← hBe]; exact ya1 _ _ _ _ _ rfl)
   have c1:=Grown.cell (show W.cell? ⟨B,1,none⟩=some (.int .i64 he) by rw [← hW, ← hBe]; exact ya1 _ _ _ _ _ rfl)
   have c2:=Grown.cell (show W.cell? ⟨B,2,none⟩=some (.string hr) by rw [← hW, ← hBe]; exact ya1 _ _ _ _ _ rfl)
   have c3:=Grown.cell (show W.cell? ⟨B,3,none⟩=some (.string hp) by rw [← hW, ← hBe]; exact ya1 _ _ _ _ _ rfl)
   have c4:=Grown.cell (show W.cell? ⟨B,4,none⟩=some (.int .i64 a) by rw [← hW, ← hBe]; exact ya1 _ _ _ _ _ rfl)
   have c5:=Grown.cell (show W.cell? ⟨B,5,none⟩=some (.slice A0 so.length k0) by rw [← hW, ← hBe]; exact ya1 _ _ _ _ _ rfl)
   have c6:=Grown.cell (show W.cell? ⟨B,6,none⟩=some (.slice A1 ss.length k1) by rw [← hW, ← hBe]; exact ya1 _ _ _ _ _ rfl)
   have c7:=Grown.cell (show W.cell? ⟨B,7,none⟩=some (.slice A2 sd.length k2) by rw [← hW, ← hBe]; exact ya1 _ _ _ _ _ rfl)
   have HBE:=zd hBe
   rw [hBe]
   clear hW hBe
   refine ya4 (by kernel_rfl) (by kernel_rfl) ?_
   repeat (go_big_quiet_step (first | (go_at_call 246; exact ya8 (HHO.out _)) | (go_at_call 247; exact yac (HSA.out _)) | (go_at_call 90; exact ya8 (spec_HeadHash ⟨hh,he,hr,hp⟩ _)) | (go_at_call 248; exact ya8 (HSig.out _ (HBW.out.trans ((Grown.ok _).mono HBW.out.size))))))
   refine wpQuiet_nil ?_
   intro w2 hw2
   have hR:=zd (yaa hw2)
   clear hw2
   go_wp2
   go_ret
   exact ⟨yab (by rw [HF.out]),(HBW.out).trans (hR.out.mono HBW.out.size)⟩
  ·have HF:Hid (sealOk root ⟨⟨hh,he,hr,hp⟩,⟨a,so,ss,sd⟩⟩=false):=zd (by rw [HOK.out,hok,decide_eq_false hav]; rfl)
   have hq1:(a == v)=false:=beq_eq_false_iff_ne.2 hav
   have hq2:decide (a=v)=false:=decide_eq_false hav
   go_enter Tryz.func177,Tryz.ntmps177
   go_wp2
   generalize hW:w.alloc (.cells #[.int .i64 hh,.int .i64 he,.string hr,.string hp,.int .i64 a,.slice A0 so.length k0,.slice A1 ss.length k1,.slice A2 sd.length k2] 105)=W
   have HBW:Hid (Below w.heap.size w W):=zz74
   obtain ⟨B,hBe⟩:∃ B,w.heap.size=B:=⟨_,rfl⟩
   have hBlt:B<W.heap.size:=by rw [← hW, ← hBe]; simp
   have c0:=Grown.cell (show W.cell? ⟨B,0,none⟩=some (.int .i64 hh) by rw [← hW, ← hBe]; exact ya1 _ _ _ _ _ rfl)
   have c1:=Grown.cell (show W.cell? ⟨B,1,none⟩=some (.int .i64 he) by rw [← hW, ← hBe]; exact ya1 _ _ _ _ _ rfl)
   have c2:=Grown.cell (show W.cell? ⟨B,2,none⟩=some (.string hr) by rw [← hW, ← hBe]; exact ya1 _ _ _ _ _ rfl)
   have c3:=Grown.cell (show W.cell? ⟨B,3,none⟩=some (.string hp) by rw [← hW, ← hBe]; exact ya1 _ _ _ _ _ rfl)
   have c4:=Grown.cell (show W.cell? ⟨B,4,none⟩=some (.int .i64 a) by rw [← hW, ← hBe]; exact ya1 _ _ _ _ _ rfl)
   have c5:=Grown.cell (show W.cell? ⟨B,5,none⟩=some (.slice A0 so.length k0) by rw [← hW, ← hBe]; exact ya1 _ _ _ _ _ rfl)
   have c6:=Grown.cell (show W.cell? ⟨B,6,none⟩=some (.slice A1 ss.length k1) by rw [← hW, ← hBe]; exact ya1 _ _ _ _ _ rfl)
   have c7:=Grown.cell (show W.cell? ⟨B,7,none⟩=some (.slice A2 sd.length k2) by rw [← hW, ← hBe]; exact ya1 _ _ _ _ _ rfl)
   have HBE:=zd hBe
   rw [hBe]
   clear hW hBe
   refine ya4 (by kernel_rfl) (by kernel_rfl) ?_
   repeat (go_big_quiet_step (first | (go_at_call 246; exact ya8 (HHO.out _)) | (go_at_call 247; exact yac (HSA.out _)) | (go_at_call 90; exact ya8 (spec_HeadHash ⟨hh,he,hr,hp⟩ _)) | (go_at_call 248; exact ya8 (HSig.out _ (HBW.out.trans ((Grown.ok _).mono HBW.out.size))))))
   refine wpQuiet_nil ?_
   intro w2 hw2
   have hR:=zd (yaa hw2)
   clear hw2
   go_wp2
   go_ret
   exact ⟨yab (by rw [HF.out]),(HBW.out).trans (hR.out.mono HBW.out.size)⟩
end Go.Proofs.YtcbbjfafmmcfiaaGreatDoor
