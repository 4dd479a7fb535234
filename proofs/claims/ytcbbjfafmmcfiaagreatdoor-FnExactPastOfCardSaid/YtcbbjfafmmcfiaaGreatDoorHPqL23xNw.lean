/- A part of the proof. -/
import Derived.Test.YtcbbjfafmmcfiaaGreatDoorHPqL22xNe
import Derived.Deep.RegionLaw
import Derived.Deep.AppendLies
set_option linter.unusedVariables false
set_option linter.unusedSimpArgs false
set_option maxRecDepth 20000
set_option maxHeartbeats 16000000
namespace Go.Proofs.YtcbbjfafmmcfiaaGreatDoor
open Go.RowKit Lay Mk
theorem name_size {s:ByteArray} (h:nameOk s=true):s.size≤12:=by
 unfold nameOk at h
 rw [Bool.and_eq_true] at h
 have h2:1≤(s.size:Int)∧(s.size:Int)≤12:=by simpa [inB] using h.2
 omega
theorem value_size {s:ByteArray} (h:valueOk s=true):s.size≤12:=by
 unfold valueOk at h
 rw [Bool.and_eq_true] at h
 have h2:1≤(s.size:Int)∧(s.size:Int)≤12:=by simpa [inB] using h.2
 omega
theorem bucket_tag {xs:List Leaf} (h:leavesOk xs=true):tagOk (bucketKind xs) (bucketParts xs)=true:=by
 have h1:=leavesOk_len h
 have h2:=parts_len xs
 have h3:partsOk (bucketParts xs)=true:=by
  unfold partsOk bucketParts
  rw [List.all_eq_true]
  intro p hp
  rw [List.mem_flatMap] at hp
  obtain ⟨x,hx,hp⟩:=hp
  have h4:=leavesOk_all h x hx
  simp only [List.mem_cons,List.not_mem_nil,or_false] at hp
  rcases hp with rfl | rfl
  ·have:=name_size h4.1; simp; omega
  ·have:=value_size h4.2; simp; omega
 have h5:inB (bucketKind xs) 1 8=true:=by unfold bucketKind; split <;> rfl
 unfold tagOk
 rw [h5,h3,decide_eq_true zz18]; rfl
theorem szL_ok {xs:List Leaf} (h:∀ x ∈ xs,nameOk x.name=true∧valueOk x.value=true):szL xs≤25*xs.length:=by
 induction xs with
 | nil => exact Nat.le_refl _
 | cons x r ih =>
  have h1:=ih (fun y hy => h y (List.mem_cons_of_mem _ hy))
  have h2:=h x (List.mem_cons_self ..)
  have h3:=name_size h2.1
  have h4:=value_size h2.2
  simp only [szL,List.map_cons,List.sum_cons,List.length_cons] at h1 ⊢
  have h5:Mk.sz x=x.name.size+x.value.size:=rfl
  omega
theorem spec_BucketHash (w:World) (xs:List Leaf) (A:Option Addr) (cap:Nat) (S:Blks) (hx:Row false w A cap xs S) (hok:leavesOk xs=true) (n:Int) (hn:I64 n):Calls Tryz.prog 282 #[.slice A xs.length cap,.int .i64 n] w fun e w' => e = .returned (.string (bucketHash xs n))∧Below w.heap.size w w':=by
 have hl:=leavesOk_len hok
 have hz:szL xs≤1048576:=by have:=szL_ok (leavesOk_all hok); omega
 have HBT:=zd (spec_BucketText w xs A cap S hx zz18 hz hok)
 rw [bucket_tag hok] at HBT
 have htl:(bucketTx xs).size≤20000:=tagText_le _ _
 have HE:Hid (bucketHash xs n=cutDigest (bucketTx xs) n):=zd rfl
 obtain ⟨t,ht⟩:∃ t,bucketTx xs=t:=⟨_,rfl⟩
 rw [ht] at HBT htl HE
 clear ht hz hok
 go_enter Tryz.func282,Tryz.ntmps282
 go_wp2_with (fail)
 refine HBT.out.mono ?_
 rintro e1 w1 ⟨rfl,hb1⟩
 go_wp2_with (fail)
 refine (spec_CutDigest _ t zz18 n hn).mono ?_
 rintro e2 w2 ⟨rfl,hb2⟩
 have HB:=zd (hb1.trans (hb2.mono hb1.size))
 clear hb1 hb2
 go_wp2
 go_ret
 exact ⟨ret_str zz74,HB.out⟩
def spotOf (x:Leaf):Spot:=⟨x,(indexOf x.name:Int)⟩
def spotsOf (xs:List Leaf):List Spot:=xs.map spotOf
theorem spotsOf_len (xs:List Leaf):(spotsOf xs).length=xs.length:=by unfold spotsOf; simp
theorem spotsOf_snoc {xs:List Leaf} {k:Nat} (h:k<xs.length):spotsOf (xs.take (k+1))=spotsOf (xs.take k) ++ [spotOf xs[k]]:=by
 unfold spotsOf; rw [List.take_succ_eq_append_getElem h,List.map_append]; rfl
theorem spec_l10Spots (w:World) (xs:List Leaf) (A:Option Addr) (cap:Nat) (S:Blks) (hx:Row false w A cap xs S) (hl:xs.length≤1048576) (hz:szL xs≤1048576):Calls Tryz.prog 234 #[.slice A xs.length cap] w (OwnRes (spotsOf xs) w):=by
 go_enter Tryz.func234,Tryz.ntmps234
 go_wp2
 have HO:=zd (Own.litAt (α:=Spot) (Below.refl w.heap.size w) 357 rfl (b:=w.heap.size) rfl)
 go_loopw [3,4] (fun u i wr => ∃ (k:Nat) (A2:Option Addr) (c:Nat),k≤xs.length∧i = .int .i64 k∧u = .slice A2 k c∧Own w wr A2 c (spotsOf (xs.take k))) (fun _ i _ => xs.length - (intOf i).toNat)
 case atStart => exact ⟨0,some ⟨w.heap.size,0,none⟩,0,Nat.zero_le _,rfl,rfl,HO.out⟩
 case round =>
  clear HO
  obtain ⟨k,A2,c,hk,rfl,rfl,hown⟩:=hrel
  have hb:=hown.bl
  have HOW:=zd hown
  by_cases hlt:k<xs.length
  ·obtain ⟨b1,o1,rfl,hl1,e0,e1,s0,s1⟩:=Row.atLeaf hx hlt
   have HN:=zd (spotsOf_snoc hlt)
   have hsz:=leaf_size hlt hz
   have HNL:Hid ((spotsOf (xs.take k)).length=k):=zd (by rw [spotsOf_len,List.length_take]; omega)
   obtain ⟨x,hx'⟩:∃ x,xs[k]=x:=⟨_,rfl⟩
   rw [hx'] at e0 e1 s0 s1 HN hsz
   clear hx'
   have HM:=zd (fun (w':World) (h:Below w.heap.size w w') => (⟨(h.cell (p:=⟨b1,o1+k*2,none⟩) hl1).trans e0,(h.cell (p:=⟨b1,o1+k*2+1,none⟩) hl1).trans e1,h⟩:w'.cell? ⟨b1,o1+k*2,none⟩=some (.string x.name)∧w'.cell? ⟨b1,o1+k*2+1,none⟩=some (.string x.value)∧Below w.heap.size w w'))
   have HIX:=zd (fun W' => spec_IndexOf W' x.name zz18)
   have hwl:=hb.size
   have hok:Flat.ok (spotOf x):=(show x.name.size≤maxLen∧x.value.size≤maxLen∧I64 ((indexOf x.name:Nat):Int) from ⟨s0,s1,by have:=indexOf_lt x.name; unfold I64; omega⟩)
   have HSX:Hid (spotOf x=⟨x,(indexOf x.name:Int)⟩):=zd rfl
   rw [HSX.out] at HN hok
   obtain ⟨ix,hix⟩:∃ ix,indexOf x.name=ix:=⟨_,rfl⟩
   rw [hix] at HIX HN hok
   have hB:=Below.refl wr.heap.size wr
   have hki:(k:Int)<(xs.length:Int):=zz18
   have hk0:(0:Int)≤(k:Int):=zz18
   clear hix HSX e0 e1 s0 s1 hown
   go_wp2_with (fail)
   go_region_held3 (fun w' => w'.cell? ⟨b1,o1+k*2,none⟩=some (.string x.name)∧w'.cell? ⟨b1,o1+k*2+1,none⟩=some (.string x.value)∧Below w.heap.size w w')
    (first | exact HM.out _ hE | exact HM.out _ (hb.trans (Below.mono (w:=wr) (by have zh:=hB; exact zz17) hwl)))
    (first | (go_at_call 158; refine (HIX.out _).mono ?_; rintro e5 w5 ⟨rfl,hb5⟩; have hB:=Below.step (a:=wr) (by have zh:=hB; exact zz17) hb5; have hs5:=hB.size) | ((refine step_push (α:=Spot) (w0:=w) rfl _ _ rfl rfl HNL.out.symm (HOW.out.later (by have zh:=hB; exact zz17)) rfl rfl (src1 hok zz81 rfl) zz18 ?_); intro A6 c6 w6 o6 hE))
   go_wp2
   go_roundw
   case rel => exact ⟨k+1,A6,c6,hlt,by go_num,rfl,by rw [HN.out]; exact o6⟩
   case measure => simp [intOf]; omega
  ·have HE:Hid (spotsOf xs=spotsOf (xs.take k)):=zd (by rw [List.take_of_length_le zz18])
   have HNL:Hid (k=(spotsOf (xs.take k)).length):=zd (by rw [spotsOf_len,List.length_take]; omega)
   clear hown hb
   go_wp2
   go_ret
   exact OwnRes.mk HOW.out HE.out HNL.out
end Go.Proofs.YtcbbjfafmmcfiaaGreatDoor
namespace Go.Proofs.YtcbbjfafmmcfiaaGreatDoor
open Go.RowKit Lay Mk
def GroveRes (xs:List Leaf) (A:Option Addr) (cap:Nat) (n:Int) (w:World) (e:Ending) (w':World):Prop:=∃ A2 c2,e = .returned (.agg #[.slice A xs.length cap,.slice A2 xs.length c2,.int .i64 n])∧Own w w' A2 c2 (ixs xs)
theorem ixs_snoc {xs:List Leaf} {k:Nat} (h:k<xs.length):ixs (xs.take (k+1))=ixs (xs.take k) ++ [(indexOf xs[k].name:Int)]:=by
 unfold ixs; rw [List.take_succ_eq_append_getElem h,List.map_append]; rfl
theorem impl_newGrove (w:World) (xs:List Leaf) (A:Option Addr) (cap:Nat) (S:Blks) (hx:Row false w A cap xs S) (hl:xs.length≤1048576) (hz:szL xs≤1048576) (n:Int) (hT:Tabs w):Calls Tryz.prog 170 #[.slice A xs.length cap,.int .i64 n] w (GroveRes xs A cap n w):=by
 have HT:=zd hT
 clear hT
 have hWd:∀ W,W=(w.alloc (.cells #[.slice none 0 0,.slice none 0 0,.int .i64 0] 241)).alloc (.cells #[.slice A xs.length cap,.slice none 0 0,.int .i64 n] 241)→Below w.heap.size w W∧W.heap.size=w.heap.size+2∧(∀ o,W.frozen? ⟨w.heap.size,o,none⟩=false)∧(∀ o,W.frozen? ⟨w.heap.size+1,o,none⟩=false)∧W.cell? ⟨w.heap.size,0,none⟩=some (.slice none 0 0)∧W.cell? ⟨w.heap.size,1,none⟩=some (.slice none 0 0)∧W.cell? ⟨w.heap.size,2,none⟩=some (.int .i64 0)∧W.cell? ⟨w.heap.size+1,0,none⟩=some (.slice A xs.length cap)∧W.cell? ⟨w.heap.size+1,1,none⟩=some (.slice none 0 0)∧W.cell? ⟨w.heap.size+1,2,none⟩=some (.int .i64 n):=by
  rintro W rfl
  refine ⟨((Below.refl _ _).alloc (Nat.le_refl _) _).alloc zz49 _,zz49,fun o => zz49,fun o => zz49,?_⟩
  refine ⟨zz49,zz49,zz49,zz49,zz49,zz49⟩
 go_enter Tryz.func170,Tryz.ntmps170
 go_wp2_with (fail)
 obtain ⟨W,hW⟩:∃ W,(w.alloc (.cells #[.slice none 0 0,.slice none 0 0,.int .i64 0] 241)).alloc (.cells #[.slice A xs.length cap,.slice none 0 0,.int .i64 n] 241)=W:=⟨_,rfl⟩
 rw [hW]
 obtain ⟨hBW,hWs,zf,gf,z0,z1,z2,g0,g1,g2⟩:=hWd W hW.symm
 clear hW hWd
 have hWl:w.heap.size+2≤W.heap.size:=zz18
 clear hWs
 go_loopw [13] (fun i wr => ∃ (k:Nat) (A2:Option Addr) (c:Nat),k≤xs.length∧i = .int .i64 k∧Hid (Row true wr A2 c (ixs (xs.take k)) (nw (w.heap.size+2)))∧Hid (k≤c∧c≤maxLen)∧Hid (Below w.heap.size w wr)∧w.heap.size+2≤wr.heap.size∧Hid (∀ o,wr.frozen? ⟨w.heap.size,o,none⟩=false)∧(∀ o,wr.frozen? ⟨w.heap.size+1,o,none⟩=false)∧Hid (wr.cell? ⟨w.heap.size,0,none⟩=some (.slice none 0 0)∧wr.cell? ⟨w.heap.size,1,none⟩=some (.slice none 0 0)∧wr.cell? ⟨w.heap.size,2,none⟩=some (.int .i64 0))∧wr.cell? ⟨w.heap.size+1,0,none⟩=some (.slice A xs.length cap)∧wr.cell? ⟨w.heap.size+1,1,none⟩=some (.slice A2 k c)∧wr.cell? ⟨w.heap.size+1,2,none⟩=some (.int .i64 n)) (fun i _ => xs.length - (intOf i).toNat)
 case atStart => exact ⟨0,none,0,Nat.zero_le _,rfl,zd (row_nil _ _),zd ⟨Nat.le_refl _,zz91⟩,zd hBW,hWl,zd zf,gf,zd ⟨z0,z1,z2⟩,g0,g1,g2⟩
 case round =>
  clear zf gf z0 z1 z2 g0 g1 g2 hBW hWl
  obtain ⟨k,A2,c,hk,rfl,HR,HC,HB,hzr,ZF,gf,ZZ,g0,g1,g2⟩:=hrel
  by_cases hlt:k<xs.length
  ·obtain ⟨b1,o1,rfl,hl1,e0,e1,s0,s1⟩:=Row.atLeaf hx hlt
   replace e0:=(HB.out.cell (p:=⟨b1,o1+k*2,none⟩) hl1).trans e0
   replace e1:=(HB.out.cell (p:=⟨b1,o1+k*2+1,none⟩) hl1).trans e1
   have HN:=zd (ixs_snoc hlt)
   have hsz:=leaf_size hlt hz
   obtain ⟨x,hx'⟩:∃ x,xs[k]=x:=⟨_,rfl⟩
   rw [hx'] at e0 e1 HN hsz
   clear hx' s0 s1
   have hlb:b1<wr.heap.size:=Nat.lt_of_lt_of_le hl1 HB.out.size
   have hbw:b1<w.heap.size:=hl1
   have hlw:w.heap.size≤wr.heap.size:=zz18
   have hlen:(ixs (xs.take k)).length=k:=by rw [ixs_len,List.length_take]; omega
   have HLN:=zd hlen
   clear hlen
   go_wp2_with (fail)
   obtain ⟨V,hV⟩:∃ V,wr.alloc (.cells #[.string x.name,.string x.value] 246)=V:=⟨_,rfl⟩
   have hVB:Below wr.heap.size wr V:=by rw [← hV]; exact (Below.refl _ _).alloc (Nat.le_refl _) _
   have hVs:wr.heap.size<V.heap.size:=by rw [← hV]; simp
   have x0:V.cell? ⟨wr.heap.size,0,none⟩=some (.string x.name):=by rw [← hV]; exact yaa _ _ _ _ _ rfl
   rw [hV]
   clear hV
   replace g0:=(hVB.cell (p:=⟨w.heap.size+1,0,none⟩) zz31).trans g0
   replace g1:=(hVB.cell (p:=⟨w.heap.size+1,1,none⟩) zz31).trans g1
   replace g2:=(hVB.cell (p:=⟨w.heap.size+1,2,none⟩) zz31).trans g2
   replace gf:=fun o => (hVB.frozen (p:=⟨w.heap.size+1,o,none⟩) zz31).trans (gf o)
   have HR1:=zd (Row.later HR.out hVB)
   have HB1:=zd (HB.out.trans (hVB.mono hlw))
   have hzV:w.heap.size+2≤V.heap.size:=zz18
   have HIX:=zd (fun W' (h:Below V.heap.size V W') => impl_IndexOf W' x.name zz18 (HT.out.later (HB1.out.trans (h.mono zz18))))
   have ZF1:=zd (fun o => (hVB.frozen (p:=⟨w.heap.size,o,none⟩) zz63).trans (ZF.out o))
   have ZZ1:=zd (And.intro ((hVB.cell (p:=⟨w.heap.size,0,none⟩) zz63).trans ZZ.out.1) (And.intro ((hVB.cell (p:=⟨w.heap.size,1,none⟩) zz63).trans ZZ.out.2.1) ((hVB.cell (p:=⟨w.heap.size,2,none⟩) zz63).trans ZZ.out.2.2)))
   clear hVB e0 e1
   have hok:Flat.ok (indexOf x.name:Int):=(show I64 _ from by have:=indexOf_lt x.name; unfold I64; omega)
   obtain ⟨ix,hix⟩:∃ ix,indexOf x.name=ix:=⟨_,rfl⟩
   rw [hix] at HIX HN hok
   clear hix
   go_region_law (first | (go_simp; go_at_call 166; refine (HIX.out _ (by first | exact Below.refl _ _ | exact (Below.refl _ _).drew)).mono ?_; rintro e5 w5 ⟨rfl,hb5⟩; have hV5:Below V.heap.size V w5:=(by first | exact hb5 | exact Below.viad hb5); have hs5:=hV5.size; have hlg5:w.heap.size+1<w5.heap.size:=zz18; have HR5:=zd (Row.later HR1.out hV5); have g15:=(hV5.cell (p:=⟨w.heap.size+1,1,none⟩) zz31).trans g1; clear hb5) | (refine step_app (α:=Int) rfl _ _ rfl rfl HLN.out.symm (HR5.out.allocC _) HC.out.1 HC.out.2 rfl rfl (src1 hok zz81 rfl) (disj_none_ _) zz18 ?_; intro A6 c6 w6 h1 h2 h3 h4; have hV6:Below (w.heap.size+2) V w6:=(((hV5.mono hzV).alloc zz18 _).trans (h4.to_below zz57 (fun b hb => hb))); have hs6:=h4.size; rw [World.size_alloc] at hs6; have hlg6:w.heap.size+1<w6.heap.size:=zz18; have g06:=(hV6.cell (p:=⟨w.heap.size+1,0,none⟩) zz31).trans g0; have g16:=(hV6.cell (p:=⟨w.heap.size+1,1,none⟩) zz31).trans g1; have g26:=(hV6.cell (p:=⟨w.heap.size+1,2,none⟩) zz31).trans g2; have gf6:=fun o => (hV6.frozen (p:=⟨w.heap.size+1,o,none⟩) zz31).trans (gf o); have HK6:=zd (And.intro h1 (And.intro h2 h3)); clear h1 h2 h3 h4 HR5))
   all_goals
    have hN2:Row true w6 A6 c6 (ixs (xs.take (k+1))) (nw (w.heap.size+2)):=by
     rw [HN.out]
     exact row_og HK6.out.2.2 (fun b hb => by show w.heap.size+2≤b; rw [World.size_alloc] at hb; omega)
    have HNR:=zd hN2
    have HB6:=zd (HB1.out.trans (hV6.mono zz18))
    have HV6:=zd hV6
    have HW1:=zd (World.cell?_setCell_same w6 ⟨w.heap.size+1,1,none⟩ (.slice A6 (k+1) c6) g16)
    clear hN2 HN hV6 HR1 hV5 HIX x0
    go_wp2
    go_roundw
    case rel => exact ⟨k+1,A6,c6,hlt,by go_num,zd (HNR.out.setC (by show ¬ (w.heap.size+2≤w.heap.size+1); omega) _),zd ⟨HK6.out.1,HK6.out.2.1⟩,zd (Below.setCell HB6.out (by show w.heap.size≤w.heap.size+1; omega) _),zz57,zd (fun o => by simpa using (HV6.out.frozen (p:=⟨w.heap.size,o,none⟩) zz63).trans (ZF1.out o)),fun o => by simpa using gf6 o,zd ⟨(World.cell?_setCell_other _ _ _ _ zz87).trans ((HV6.out.cell (p:=⟨w.heap.size,0,none⟩) zz63).trans ZZ1.out.1),(World.cell?_setCell_other _ _ _ _ zz87).trans ((HV6.out.cell (p:=⟨w.heap.size,1,none⟩) zz63).trans ZZ1.out.2.1),(World.cell?_setCell_other _ _ _ _ zz87).trans ((HV6.out.cell (p:=⟨w.heap.size,2,none⟩) zz63).trans ZZ1.out.2.2)⟩,(World.cell?_setCell_other _ _ _ _ zz87).trans g06,HW1.out,(World.cell?_setCell_other _ _ _ _ zz87).trans g26⟩
    case measure => simp [intOf]; omega
  ·have hke:k=xs.length:=by omega
   subst hke
   have hR2:Row true wr A2 c (ixs xs) (nw (w.heap.size+2)):=by have h9:=HR.out; rwa [List.take_of_length_le (Nat.le_refl _)] at h9
   have HR2:=zd hR2
   have HB2:=zd HB.out
   have hlg:w.heap.size<wr.heap.size:=zz18
   obtain ⟨z0,z1,z2⟩:=ZZ.out
   have zf:=ZF.out
   clear hR2 HR ZF ZZ
   go_wp2
   refine bodyPost_ret (v:=.agg #[.slice A xs.length cap,.slice A2 xs.length c,.int .i64 n]) (by simp [results,Tryz.results170,go_sem, *]) rfl ?_
   have hns:∀ o:Nat, ¬ nw (w.heap.size+2) (⟨w.heap.size,o,none⟩:Addr).block:=fun o => by show ¬ (w.heap.size+2≤w.heap.size); omega
   exact ⟨A2,c,rfl,⟨(((HR2.out.setC (hns 0) _).setC (hns 1) _).setC (hns 2) _).mono (fun b hb => Nat.le_trans (Nat.le_add_right _ 2) hb),by rw [ixs_len]; exact HC.out.1,HC.out.2,Below.setCell (Below.setCell (Below.setCell HB2.out (Nat.le_refl _) _) (Nat.le_refl _) _) (Nat.le_refl _) _⟩⟩
end Go.Proofs.YtcbbjfafmmcfiaaGreatDoor
namespace Go.Proofs.YtcbbjfafmmcfiaaGreatDoor
open Go.RowKit Lay Mk
theorem shard_no {name:ByteArray} {k:Int} (h:inB k 0 2=false):shardOf name k=0:=by unfold shardOf; rw [h]; rfl
theorem shard_at {name:ByteArray} {k:Int} (h:inB k 0 2=true):shardOf name k=((indexOf name / 2 ^ (8 - k.toNat):Nat):Int):=by unfold shardOf; rw [h]; rfl
theorem impl_ShardOf (w:World) (name:ByteArray) (hn:name.size≤1048576) (k:Int) (hT:Tabs w):Calls Tryz.prog 73 #[.string name,.int .i64 k] w fun e w' => e = .returned (.int .i64 (shardOf name k))∧Below w.heap.size w w':=by
 have HT:=zd hT
 clear hT
 have HIX:=zd (fun W (h:Below w.heap.size w W) => impl_IndexOf W name zz18 (HT.out.later h))
 have HSP:=zd (fun W => impl_isSplit k W)
 cases hk:inB k 0 2 <;> rw [hk] at HSP
 ·have HE:=zd (shard_no (name:=name) hk)
  clear hk
  go_enter Tryz.func73,Tryz.ntmps73
  go_wp2_with (fail)
  refine (HSP.out _).mono ?_
  rintro e1 w1 ⟨rfl,rfl⟩
  go_wp2
  go_ret
  exact ⟨ret_int zz74,Below.refl _ _⟩
 ·have HE:=zd (shard_at (name:=name) hk)
  have hk2:0≤k∧k≤2:=by simpa [inB] using hk
  have hi:=indexOf_lt name
  obtain ⟨ix,hix⟩:∃ ix,indexOf name=ix:=⟨_,rfl⟩
  rw [hix] at HE HIX hi
  clear hix hk
  rcases (show k=0∨k=1∨k=2 by omega) with rfl | rfl | rfl
  ·have HE2:Hid (shardOf name 0=((ix / 256:Nat):Int)):=zd HE.out
   clear HE hk2
   go_enter Tryz.func73,Tryz.ntmps73
   go_wp2_with (fail)
   refine (HSP.out _).mono ?_
   rintro e1 w1 ⟨rfl,rfl⟩
   go_wp2_with (fail)
   refine (HIX.out _ (Below.refl _ _)).mono ?_
   rintro e2 w2 ⟨rfl,hb2⟩
   go_wp2
   go_ret
   exact ⟨ret_int (by rw [HE2.out]; first | rfl | omega | (simp; done)),hb2⟩
  ·have HE2:Hid (shardOf name 1=((ix / 128:Nat):Int)):=zd HE.out
   clear HE hk2
   go_enter Tryz.func73,Tryz.ntmps73
   go_wp2_with (fail)
   refine (HSP.out _).mono ?_
   rintro e1 w1 ⟨rfl,rfl⟩
   go_wp2_with (fail)
   refine (HIX.out _ (Below.refl _ _)).mono ?_
   rintro e2 w2 ⟨rfl,hb2⟩
   go_wp2
   go_ret
   exact ⟨ret_int (by rw [HE2.out]; first | rfl | omega | (simp; done)),hb2⟩
  ·have HE2:Hid (shardOf name 2=((ix / 64:Nat):Int)):=zd HE.out
   clear HE hk2
   go_enter Tryz.func73,Tryz.ntmps73
   go_wp2_with (fail)
   refine (HSP.out _).mono ?_
   rintro e1 w1 ⟨rfl,rfl⟩
   go_wp2_with (fail)
   refine (HIX.out _ (Below.refl _ _)).mono ?_
   rintro e2 w2 ⟨rfl,hb2⟩
   go_wp2
   go_ret
   exact ⟨ret_int (by rw [HE2.out]; first | rfl | omega | (simp; done)),hb2⟩
theorem spec_ShardOf (w:World) (name:ByteArray) (hn:name.size≤1048576) (k:Int):Calls Tryz.prog 63 #[.string name,.int .i64 k] w fun e w' => e = .returned (.int .i64 (shardOf name k))∧Below w.heap.size w w':=by
 have HIX:=zd (fun W => spec_IndexOf W name zz18)
 have HSP:=zd (fun W => spec_in k 0 2 W)
 cases hk:inB k 0 2 <;> rw [hk] at HSP
 ·have HE:=zd (shard_no (name:=name) hk)
  clear hk
  go_enter Tryz.func63,Tryz.ntmps63
  go_wp2_with (fail)
  refine (HSP.out _).mono ?_
  rintro e1 w1 ⟨rfl,rfl⟩
  go_wp2
  go_ret
  exact ⟨ret_int zz74,Below.refl _ _⟩
 ·have HE:=zd (shard_at (name:=name) hk)
  have hk2:0≤k∧k≤2:=by simpa [inB] using hk
  have hi:=indexOf_lt name
  obtain ⟨ix,hix⟩:∃ ix,indexOf name=ix:=⟨_,rfl⟩
  rw [hix] at HE HIX hi
  clear hix hk
  rcases (show k=0∨k=1∨k=2 by omega) with rfl | rfl | rfl
  ·have HE2:Hid (shardOf name 0=((ix / 256:Nat):Int)):=zd HE.out
   clear HE hk2
   go_enter Tryz.func63,Tryz.ntmps63
   go_wp2_with (fail)
   refine (HSP.out _).mono ?_
   rintro e1 w1 ⟨rfl,rfl⟩
   go_wp2_with (fail)
   refine (HIX.out _).mono ?_
   rintro e2 w2 ⟨rfl,hb2⟩
   go_wp2
   go_ret
   exact ⟨ret_int (by rw [HE2.out]; first | rfl | omega | (simp; done)),hb2⟩
  ·have HE2:Hid (shardOf name 1=((ix / 128:Nat):Int)):=zd HE.out
   clear HE hk2
   go_enter Tryz.func63,Tryz.ntmps63
   go_wp2_with (fail)
   refine (HSP.out _).mono ?_
   rintro e1 w1 ⟨rfl,rfl⟩
   go_wp2_with (fail)
   refine (HIX.out _).mono ?_
   rintro e2 w2 ⟨rfl,hb2⟩
   go_wp2
   go_ret
   exact ⟨ret_int (by rw [HE2.out]; first | rfl | omega | (simp; done)),hb2⟩
  ·have HE2:Hid (shardOf name 2=((ix / 64:Nat):Int)):=zd HE.out
   clear HE hk2
   go_enter Tryz.func63,Tryz.ntmps63
   go_wp2_with (fail)
   refine (HSP.out _).mono ?_
   rintro e1 w1 ⟨rfl,rfl⟩
   go_wp2_with (fail)
   refine (HIX.out _).mono ?_
   rintro e2 w2 ⟨rfl,hb2⟩
   go_wp2
   go_ret
   exact ⟨ret_int (by rw [HE2.out]; first | rfl | omega | (simp; done)),hb2⟩
end Go.Proofs.YtcbbjfafmmcfiaaGreatDoor
