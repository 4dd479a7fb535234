/- A part of the proof. -/
import Derived.Test.YtgllafgpmenjjaaGreatDoorTie
import Derived.Test.YtgllafgpmenjjaaGreatDoorCards
import Derived.Test.YtgllafgpmenjjaaGreatDoorHChSz
import Derived.Test.YtgllafgpmenjjaaGreatDoorHChTo
import Derived.Test.YtgllafgpmenjjaaGreatDoorHChEq
import Derived.Test.YtgllafgpmenjjaaGreatDoorHChMa
import Derived.Test.YtgllafgpmenjjaaGreatDoorHChCg
import Derived.Test.YtgllafgpmenjjaaGreatDoorHChJClientHear
set_option linter.unusedVariables false
set_option linter.unusedSimpArgs false
set_option maxRecDepth 100000
set_option maxHeartbeats 400000000
namespace Go.Proofs.YtgllafgpmenjjaaGreatDoor
open Go.RowKit Go.WideShapes Go.ChangeShapes Go.ChangeAt Lay Mk
theorem law_ClientHear (w : World) (p0 : Client) (cp0 : List Value) (Sp0 : Blks) (hp0 : rd false w cp0 p0 Sp0) (p1 : Trust) (cp1 : List Value) (Sp1 : Blks) (hp1 : rd false w cp1 p1 Sp1) (p2 : List Seal) (Ap2 : Option Addr) (kp2 : Nat) (Sp2 : Blks) (hp2 : Row false w Ap2 kp2 p2 Sp2) (lp2 : p2.length ≤ kp2) (mp2 : kp2 ≤ maxLen) (p3 : ByteArray) (hp3 : p3.size ≤ maxLen) (p4 : Whole) (cp4 : List Value) (Sp4 : Blks) (hp4 : rd false w cp4 p4 Sp4) (hT : Tabs w) : Calls Tryz.prog 3 #[.agg cp0.toArray, .agg cp1.toArray, .slice Ap2 p2.length kp2, .string p3, .agg cp4.toArray] w fun e w' => e = .returned (.bool true) ∧ Below w.heap.size w w':=by
 have HTb:=zd hT; clear hT
 replace hp0:=old_rng hp0
 have HR_p0:=zd hp0; clear hp0
 have ln_p0:=Lay.len HR_p0.out
 replace hp1:=old_rng hp1
 have HR_p1:=zd hp1; clear hp1
 have ln_p1:=Lay.len HR_p1.out
 replace hp2:=old_rngR hp2
 have HR_p2:=zd hp2; clear hp2
 replace hp4:=old_rng hp4
 have HR_p4:=zd hp4; clear hp4
 have ln_p4:=Lay.len HR_p4.out
 have k_p0 : (Tryz.prog.info? 24).map (·.size) = some (Lay.n Client):=by kernel_rfl
 have k_p1 : (Tryz.prog.info? 27).map (·.size) = some (Lay.n Trust):=by kernel_rfl
 have k_p4 : (Tryz.prog.info? 40).map (·.size) = some (Lay.n Whole):=by kernel_rfl
 by_cases zp3 : p3.size ≤ 1048576
 rotate_left
 ·go_enter Tryz.func3,Tryz.ntmps3
  have qp3 : 1048576 < p3.size:=zz8
  unfold maxLen at hp3
  go_wp2_with (first | (refine wpList_box rfl _ _ rfl rfl ?_) | (refine ya0 rfl _ _ rfl rfl (((At.new _ cp0 _ (0,0)).alloc zz58 _).alloc zz58 _) Tryz.underlying24 k_p0 ln_p0 ?_) | (refine ya0 rfl _ _ rfl rfl ((At.new _ cp1 _ (0,0)).alloc zz58 _) Tryz.underlying27 k_p1 ln_p1 ?_) | (refine ya0 rfl _ _ rfl rfl (At.new _ cp4 _ (0,0)) Tryz.underlying40 k_p4 ln_p4 ?_))
  go_ret; exact ⟨rfl,(((Below.refl _ _).alloc zz58 _).alloc zz58 _).alloc zz58 _⟩
 go_enter Tryz.func3,Tryz.ntmps3
 go_wp2_with (first | (refine wpList_box rfl _ _ rfl rfl ?_) | (refine ya0 rfl _ _ rfl rfl (((At.new _ cp0 _ (0,0)).alloc zz58 _).alloc zz58 _) Tryz.underlying24 k_p0 ln_p0 ?_) | (refine ya0 rfl _ _ rfl rfl ((At.new _ cp1 _ (0,0)).alloc zz58 _) Tryz.underlying27 k_p1 ln_p1 ?_) | (refine ya0 rfl _ _ rfl rfl (At.new _ cp4 _ (0,0)) Tryz.underlying40 k_p4 ln_p4 ?_))
 refine (sz_Client p0 _ _ _ _ (Lay.later (Lay.later (Lay.later HR_p0.out ((Below.refl _ _).alloc (Nat.le_refl _) _)) ((Below.refl _ _).alloc (Nat.le_refl _) _)) ((Below.refl _ _).alloc (Nat.le_refl _) _)) zz8 zz8).mono ?_
 rintro e1 w1 ⟨⟨n1,rfl,hn1⟩,hb1⟩
 have hl1 : Below w.heap.size w w1:=(Below.via (Below.via (Below.via hb1)))
 have hB1 : Below w.heap.size w w1:=hl1
 have hz1 : w.heap.size + 3 ≤ w1.heap.size:=zz27
 replace HR_p0:=zd (Lay.later HR_p0.out hl1)
 replace HR_p1:=zd (Lay.later HR_p1.out hl1)
 replace HR_p2:=zd (Row.later HR_p2.out hl1)
 replace HR_p4:=zd (Lay.later HR_p4.out hl1)
 have HA_p0 : Hid (At w1 (w.heap.size) 0 cp0):=zd (by have:=(((At.new _ cp0 _ (0,0)).alloc zz58 _).alloc zz58 _).below hb1 (by first | omega | (simp; done) | (simp; omega)); simpa using this)
 have lt_p0 : w.heap.size < w1.heap.size:=zz8
 have HA_p1 : Hid (At w1 (w.heap.size + 1) 0 cp1):=zd (by have:=((At.new _ cp1 _ (0,0)).alloc zz58 _).below hb1 (by first | omega | (simp; done) | (simp; omega)); simpa using this)
 have lt_p1 : w.heap.size + 1 < w1.heap.size:=zz8
 have HA_p4 : Hid (At w1 (w.heap.size + 2) 0 cp4):=zd (by have:=(At.new _ cp4 _ (0,0)).below hb1 (by first | omega | (simp; done) | (simp; omega)); simpa using this)
 have lt_p4 : w.heap.size + 2 < w1.heap.size:=zz8
 rcases szR_cases hn1 zz8 with rfl | ⟨hn1a,hn1b,sz_p0⟩
 ·go_wp2_with (fail)
  go_ret; exact ⟨rfl,hB1⟩
 clear hn1
 go_wp2_with (first | (refine ya0 rfl _ _ rfl rfl HA_p0.out Tryz.underlying24 k_p0 ln_p0 ?_) | (refine ya0 rfl _ _ rfl rfl HA_p1.out Tryz.underlying27 k_p1 ln_p1 ?_) | (refine ya0 rfl _ _ rfl rfl HA_p4.out Tryz.underlying40 k_p4 ln_p4 ?_))
 refine (sz_Trust p1 _ _ _ _ HR_p1.out zz8 zz8).mono ?_
 rintro e2 w2 ⟨⟨n2,rfl,hn2⟩,hb2⟩
 have hl2:=hb2
 have hB2 : Below w.heap.size w w2:=Below.step hB1 hl2
 have hz2 : w1.heap.size + 0 ≤ w2.heap.size:=zz42
 replace HR_p0:=zd (Lay.later HR_p0.out hl2)
 replace HR_p1:=zd (Lay.later HR_p1.out hl2)
 replace HR_p2:=zd (Row.later HR_p2.out hl2)
 replace HR_p4:=zd (Lay.later HR_p4.out hl2)
 replace HA_p0:=zd (HA_p0.out.below hl2 lt_p0); replace lt_p0:=Nat.lt_of_lt_of_le lt_p0 hl2.size
 replace HA_p1:=zd (HA_p1.out.below hl2 lt_p1); replace lt_p1:=Nat.lt_of_lt_of_le lt_p1 hl2.size
 replace HA_p4:=zd (HA_p4.out.below hl2 lt_p4); replace lt_p4:=Nat.lt_of_lt_of_le lt_p4 hl2.size
 rcases szR_cases hn2 zz8 with rfl | ⟨hn2a,hn2b,sz_p1⟩
 ·go_wp2_with (fail)
  go_ret; exact ⟨rfl,hB2⟩
 clear hn2
 go_wp2_with (first | (refine ya0 rfl _ _ rfl rfl HA_p0.out Tryz.underlying24 k_p0 ln_p0 ?_) | (refine ya0 rfl _ _ rfl rfl HA_p1.out Tryz.underlying27 k_p1 ln_p1 ?_) | (refine ya0 rfl _ _ rfl rfl HA_p4.out Tryz.underlying40 k_p4 ln_p4 ?_))
 refine (sz_SealS p2 _ Ap2 kp2 _ _ HR_p2.out (Nat.le_trans lp2 mp2) zz8 zz8).mono ?_
 rintro e3 w3 ⟨⟨n3,rfl,hn3⟩,hb3⟩
 have hl3:=hb3
 have hB3 : Below w.heap.size w w3:=Below.step hB2 hl3
 have hz3 : w2.heap.size + 0 ≤ w3.heap.size:=zz65
 replace HR_p0:=zd (Lay.later HR_p0.out hl3)
 replace HR_p1:=zd (Lay.later HR_p1.out hl3)
 replace HR_p2:=zd (Row.later HR_p2.out hl3)
 replace HR_p4:=zd (Lay.later HR_p4.out hl3)
 replace HA_p0:=zd (HA_p0.out.below hl3 lt_p0); replace lt_p0:=Nat.lt_of_lt_of_le lt_p0 hl3.size
 replace HA_p1:=zd (HA_p1.out.below hl3 lt_p1); replace lt_p1:=Nat.lt_of_lt_of_le lt_p1 hl3.size
 replace HA_p4:=zd (HA_p4.out.below hl3 lt_p4); replace lt_p4:=Nat.lt_of_lt_of_le lt_p4 hl3.size
 rcases szR_cases hn3 zz8 with rfl | ⟨hn3a,hn3b,sz_p2⟩
 ·go_wp2_with (fail)
  go_ret; exact ⟨rfl,hB3⟩
 clear hn3
 go_wp2_with (first | (refine ya0 rfl _ _ rfl rfl HA_p0.out Tryz.underlying24 k_p0 ln_p0 ?_) | (refine ya0 rfl _ _ rfl rfl HA_p1.out Tryz.underlying27 k_p1 ln_p1 ?_) | (refine ya0 rfl _ _ rfl rfl HA_p4.out Tryz.underlying40 k_p4 ln_p4 ?_))
 refine (sz_Whole p4 _ _ _ _ HR_p4.out zz8 zz8).mono ?_
 rintro e4 w4 ⟨⟨n4,rfl,hn4⟩,hb4⟩
 have hl4:=hb4
 have hB4 : Below w.heap.size w w4:=Below.step hB3 hl4
 have hz4 : w3.heap.size + 0 ≤ w4.heap.size:=by have:=hb4.size; (try simp at this); omega
 replace HR_p0:=zd (Lay.later HR_p0.out hl4)
 replace HR_p1:=zd (Lay.later HR_p1.out hl4)
 replace HR_p2:=zd (Row.later HR_p2.out hl4)
 replace HR_p4:=zd (Lay.later HR_p4.out hl4)
 replace HA_p0:=zd (HA_p0.out.below hl4 lt_p0); replace lt_p0:=Nat.lt_of_lt_of_le lt_p0 hl4.size
 replace HA_p1:=zd (HA_p1.out.below hl4 lt_p1); replace lt_p1:=Nat.lt_of_lt_of_le lt_p1 hl4.size
 replace HA_p4:=zd (HA_p4.out.below hl4 lt_p4); replace lt_p4:=Nat.lt_of_lt_of_le lt_p4 hl4.size
 rcases szR_cases hn4 zz8 with rfl | ⟨hn4a,hn4b,sz_p4⟩
 ·go_wp2_with (fail)
  go_ret; exact ⟨rfl,hB4⟩
 clear hn4
 have HSP:=zd (fun (W_ : World) (cp0_ : List Value) (Sp0_ : Blks) (hp0_ : rd false W_ cp0_ p0 Sp0_) (cp1_ : List Value) (Sp1_ : Blks) (hp1_ : rd false W_ cp1_ p1 Sp1_) (Ap2_ : Option Addr) (cp2_ : Nat) (Sp2_ : Blks) (hp2_ : Row false W_ Ap2_ cp2_ p2 Sp2_) (lp2_ : p2.length ≤ cp2_) (mp2_ : cp2_ ≤ maxLen) (cp4_ : List Value) (Sp4_ : Blks) (hp4_ : rd false W_ cp4_ p4 Sp4_) => spec_ClientHear W_ p0 cp0_ Sp0_ hp0_ sz_p0 p1 cp1_ Sp1_ hp1_ sz_p1 p2 Ap2_ cp2_ Sp2_ hp2_ lp2_ mp2_ sz_p2 p3 zp3 p4 cp4_ Sp4_ hp4_ sz_p4)
 have HIP:=zd (fun (W_ : World) (cp0_ : List Value) (Sp0_ : Blks) (hp0_ : rd false W_ cp0_ p0 Sp0_) (cp1_ : List Value) (Sp1_ : Blks) (hp1_ : rd false W_ cp1_ p1 Sp1_) (Ap2_ : Option Addr) (cp2_ : Nat) (Sp2_ : Blks) (hp2_ : Row false W_ Ap2_ cp2_ p2 Sp2_) (lp2_ : p2.length ≤ cp2_) (mp2_ : cp2_ ≤ maxLen) (cp4_ : List Value) (Sp4_ : Blks) (hp4_ : rd false W_ cp4_ p4 Sp4_) (hT_ : Tabs W_) => impl_ClientHear W_ p0 cp0_ Sp0_ hp0_ sz_p0 p1 cp1_ Sp1_ hp1_ sz_p1 p2 Ap2_ cp2_ Sp2_ hp2_ lp2_ mp2_ sz_p2 p3 zp3 p4 cp4_ Sp4_ hp4_ sz_p4 hT_)
 have HCB:=zd (cnb_clientHear p0 p1 p2 p3 p4 sz_p0 sz_p1 sz_p2 sz_p4 zp3)
 obtain ⟨RR,hRR⟩ : ∃ R,(clientHear p0 p1 p2 p3 p4) = R:=⟨_,rfl⟩
 rw [hRR] at HSP HIP HCB
 obtain ⟨rr0,rr1,rr2,rr3⟩:=RR
 have HKR:=zd hRR; clear hRR
 simp only [ChRes] at HSP HIP HCB
 go_wp2_with (first | (refine ya0 rfl _ _ rfl rfl HA_p0.out Tryz.underlying24 k_p0 ln_p0 ?_) | (refine ya0 rfl _ _ rfl rfl HA_p1.out Tryz.underlying27 k_p1 ln_p1 ?_) | (refine ya0 rfl _ _ rfl rfl HA_p4.out Tryz.underlying40 k_p4 ln_p4 ?_))
 go_cut [12,13,14,15] (fun s12 s13 s14 s15 wx => ∃ (ob lo hi : Nat) (cc : List Value),s12 = .pointer (some ⟨ob,0,none⟩) ∧ s13 = .string rr1 ∧ s14 = .bool rr2 ∧ s15 = .int .i64 rr3 ∧ Hid (FloatCut w4 wx ob lo hi cc rr0))
 case first =>
   refine wp_region_held_drew (S:=fun W' => At W' (w.heap.size) 0 cp0 ∧ At W' (w.heap.size + 1) 0 cp1 ∧ At W' (w.heap.size + 2) 0 cp4) (by kernel_rfl) ⟨HA_p0.out,HA_p1.out,HA_p4.out⟩ (fun hS => ?_)
   refine wpAnyH_take (i:=0) (v:=.agg cp0.toArray) rfl (by as_aux_lemma => kernel_rfl) (by as_aux_lemma => kernel_rfl) (by as_aux_lemma => kernel_rfl) (fun _ _ _ h => h) (yieldsIf_loadT zz43 _ _ rfl rfl (fun _ h => h.1) Tryz.underlying24 k_p0 ln_p0) hS ?_
   (try simp only [Act.put,List.getElem_toArray,List.getElem_cons_succ,List.getElem_cons_zero,List.setIfInBounds_toArray,List.set_cons_zero,List.set_cons_succ])
   refine wpAnyH_take (i:=2) (v:=.agg cp1.toArray) rfl (by as_aux_lemma => kernel_rfl) (by as_aux_lemma => kernel_rfl) (by as_aux_lemma => kernel_rfl) (fun _ _ _ h => h) (yieldsIf_loadT zz43 _ _ rfl rfl (fun _ h => h.2.1) Tryz.underlying27 k_p1 ln_p1) hS ?_
   (try simp only [Act.put,List.getElem_toArray,List.getElem_cons_succ,List.getElem_cons_zero,List.setIfInBounds_toArray,List.set_cons_zero,List.set_cons_succ])
   refine wpAnyH_take (i:=7) (v:=.agg cp4.toArray) rfl (by as_aux_lemma => kernel_rfl) (by as_aux_lemma => kernel_rfl) (by as_aux_lemma => kernel_rfl) (fun _ _ _ h => h) (yieldsIf_loadT zz43 _ _ rfl rfl (fun _ h => h.2.2) Tryz.underlying40 k_p4 ln_p4) hS ?_
   (try simp only [Act.put,List.getElem_toArray,List.getElem_cons_succ,List.getElem_cons_zero,List.setIfInBounds_toArray,List.set_cons_zero,List.set_cons_succ])
   refine wpAnyH_take (i:=4) (v:=.slice Ap2 p2.length kp2) rfl (by as_aux_lemma => kernel_rfl) (by as_aux_lemma => kernel_rfl) (by as_aux_lemma => kernel_rfl) (fun _ _ _ h => h) (yieldsIf_move zz43 _ rfl zz43) hS ?_
   (try simp only [Act.put,List.getElem_toArray,List.getElem_cons_succ,List.getElem_cons_zero,List.setIfInBounds_toArray,List.set_cons_zero,List.set_cons_succ])
   refine wpAnyH_take (i:=6) (v:=.string p3) rfl (by as_aux_lemma => kernel_rfl) (by as_aux_lemma => kernel_rfl) (by as_aux_lemma => kernel_rfl) (fun _ _ _ h => h) (yieldsIf_move zz43 _ rfl zz43) hS ?_
   (try simp only [Act.put,List.getElem_toArray,List.getElem_cons_succ,List.getElem_cons_zero,List.setIfInBounds_toArray,List.set_cons_zero,List.set_cons_succ])
   have HV:=zd ((Below.refl w4.heap.size w4).drew)
   have hv0 : w4.heap.size ≤ w4.drew.heap.size:=Nat.le_refl _
   refine wpAnyH_ready (rs:=[1,15]) (by as_aux_lemma => kernel_rfl) zz32 (AllReadyH.cons rfl (fun K hK => ?_) (AllReadyH.cons rfl (fun K hK => ?_) AllReadyH.nil))
   rotate_left
   ·as_aux_lemma =>
     (try rw [if_pos zz43])
     clear hS
     go_simp
     obtain ⟨hb_,hs_,y0,y1,yf⟩:=float_newd w4 (.int .i64 0) (.slice none 0 0) 47
     obtain ⟨a5_1,hwa⟩ : ∃ W,(w4.alloc (.cells #[.int .i64 0, .slice none 0 0] 47)).drew = W:=⟨_,rfl⟩
     rw [hwa] at hb_ hs_ y0 y1 yf ⊢
     clear hwa
     have hob : w4.heap.size < a5_1.heap.size:=zz62
     have hbl : w4.heap.size ≤ w4.heap.size:=Nat.le_refl _
     replace HV:=zd hb_; clear hb_
     refine hK.out _ _ ⟨HA_p0.out.below HV.out lt_p0,HA_p1.out.below HV.out lt_p1,HA_p4.out.below HV.out lt_p4⟩ (fun hS => ?_)
     clear hK K
     (try simp only [Act.put,List.getElem_toArray,List.getElem_cons_succ,List.getElem_cons_zero,List.setIfInBounds_toArray,List.set_cons_zero,List.set_cons_succ])
     refine wpAnyH_ready (rs:=[1]) (by as_aux_lemma => kernel_rfl) zz32 (AllReadyH.cons rfl (fun K hK => ?_) AllReadyH.nil)
     (try rw [if_pos zz43])
     clear hS
     go_simp
     refine (to_Client p0 _ _ _ (Lay.later HR_p0.out HV.out) sz_p0).mono ?_
     rintro e5_2 v5_2 ⟨c_t5_2,rfl,hr_,hb_⟩
     replace y0:=(hb_.cell (p:=⟨w4.heap.size,0,none⟩) hob).trans y0; replace y1:=(hb_.cell (p:=⟨w4.heap.size,1,none⟩) hob).trans y1; replace yf:=fun o => (hb_.frozen (p:=⟨w4.heap.size,o,none⟩) hob).trans (yf o); replace hob:=Nat.lt_of_lt_of_le hob hb_.size
     replace HV:=zd (Below.step HV.out hb_)
     have HR_t5_2:=zd hr_; clear hr_ hb_
     refine hK.out _ _ ⟨HA_p0.out.below HV.out lt_p0,HA_p1.out.below HV.out lt_p1,HA_p4.out.below HV.out lt_p4⟩ (fun hS => ?_)
     clear hK K
     (try simp only [Act.put,List.getElem_toArray,List.getElem_cons_succ,List.getElem_cons_zero,List.setIfInBounds_toArray,List.set_cons_zero,List.set_cons_succ])
     refine wpAnyH_ready (rs:=[3]) (by as_aux_lemma => kernel_rfl) zz32 (AllReadyH.cons rfl (fun K hK => ?_) AllReadyH.nil)
     (try rw [if_pos zz43])
     clear hS
     go_simp
     refine (to_Trust p1 _ _ _ (Lay.later HR_p1.out HV.out) sz_p1).mono ?_
     rintro e5_3 v5_3 ⟨c_t5_3,rfl,hr_,hb_⟩
     replace HR_t5_2:=zd (Lay.later HR_t5_2.out hb_)
     replace y0:=(hb_.cell (p:=⟨w4.heap.size,0,none⟩) hob).trans y0; replace y1:=(hb_.cell (p:=⟨w4.heap.size,1,none⟩) hob).trans y1; replace yf:=fun o => (hb_.frozen (p:=⟨w4.heap.size,o,none⟩) hob).trans (yf o); replace hob:=Nat.lt_of_lt_of_le hob hb_.size
     replace HV:=zd (Below.step HV.out hb_)
     have HR_t5_3:=zd hr_; clear hr_ hb_
     refine hK.out _ _ ⟨HA_p0.out.below HV.out lt_p0,HA_p1.out.below HV.out lt_p1,HA_p4.out.below HV.out lt_p4⟩ (fun hS => ?_)
     clear hK K
     (try simp only [Act.put,List.getElem_toArray,List.getElem_cons_succ,List.getElem_cons_zero,List.setIfInBounds_toArray,List.set_cons_zero,List.set_cons_succ])
     refine wpAnyH_ready (rs:=[5]) (by as_aux_lemma => kernel_rfl) zz32 (AllReadyH.cons rfl (fun K hK => ?_) AllReadyH.nil)
     (try rw [if_pos zz43])
     clear hS
     go_simp
     refine (to_SealS p2 _ Ap2 kp2 _ (Row.later HR_p2.out HV.out) sz_p2).mono ?_
     rintro e5_4 v5_4 ⟨A_t5_4,c_t5_4,rfl,lt5_4,mt5_4,hr_,hb_⟩
     replace HR_t5_2:=zd (Lay.later HR_t5_2.out hb_)
     replace HR_t5_3:=zd (Lay.later HR_t5_3.out hb_)
     replace y0:=(hb_.cell (p:=⟨w4.heap.size,0,none⟩) hob).trans y0; replace y1:=(hb_.cell (p:=⟨w4.heap.size,1,none⟩) hob).trans y1; replace yf:=fun o => (hb_.frozen (p:=⟨w4.heap.size,o,none⟩) hob).trans (yf o); replace hob:=Nat.lt_of_lt_of_le hob hb_.size
     replace HV:=zd (Below.step HV.out hb_)
     have HR_t5_4:=zd hr_; clear hr_ hb_
     refine hK.out _ _ ⟨HA_p0.out.below HV.out lt_p0,HA_p1.out.below HV.out lt_p1,HA_p4.out.below HV.out lt_p4⟩ (fun hS => ?_)
     clear hK K
     (try simp only [Act.put,List.getElem_toArray,List.getElem_cons_succ,List.getElem_cons_zero,List.setIfInBounds_toArray,List.set_cons_zero,List.set_cons_succ])
     refine wpAnyH_ready (rs:=[8]) (by as_aux_lemma => kernel_rfl) zz32 (AllReadyH.cons rfl (fun K hK => ?_) AllReadyH.nil)
     (try rw [if_pos zz43])
     clear hS
     go_simp
     refine (to_Whole p4 _ _ _ (Lay.later HR_p4.out HV.out) sz_p4).mono ?_
     rintro e5_5 v5_5 ⟨c_t5_5,rfl,hr_,hb_⟩
     replace HR_t5_2:=zd (Lay.later HR_t5_2.out hb_)
     replace HR_t5_3:=zd (Lay.later HR_t5_3.out hb_)
     replace HR_t5_4:=zd (Row.later HR_t5_4.out hb_)
     replace y0:=(hb_.cell (p:=⟨w4.heap.size,0,none⟩) hob).trans y0; replace y1:=(hb_.cell (p:=⟨w4.heap.size,1,none⟩) hob).trans y1; replace yf:=fun o => (hb_.frozen (p:=⟨w4.heap.size,o,none⟩) hob).trans (yf o); replace hob:=Nat.lt_of_lt_of_le hob hb_.size
     replace HV:=zd (Below.step HV.out hb_)
     have HR_t5_5:=zd hr_; clear hr_ hb_
     refine hK.out _ _ ⟨HA_p0.out.below HV.out lt_p0,HA_p1.out.below HV.out lt_p1,HA_p4.out.below HV.out lt_p4⟩ (fun hS => ?_)
     clear hK K
     (try simp only [Act.put,List.getElem_toArray,List.getElem_cons_succ,List.getElem_cons_zero,List.setIfInBounds_toArray,List.set_cons_zero,List.set_cons_succ])
     refine wpAnyH_ready (rs:=[9]) (by as_aux_lemma => kernel_rfl) zz32 (AllReadyH.cons rfl (fun K hK => ?_) AllReadyH.nil)
     (try rw [if_pos zz43])
     clear hS
     go_simp
     have hv1 : w4.heap.size ≤ v5_5.heap.size:=HV.out.size
     have hv2 : w4.heap.size < v5_5.heap.size:=hob
     refine (HSP.out _ c_t5_2 _ (Lay.weak HR_t5_2.out) c_t5_3 _ (Lay.weak HR_t5_3.out) A_t5_4 c_t5_4 _ (Row.weak HR_t5_4.out) lt5_4 mt5_4 c_t5_5 _ (Lay.weak HR_t5_5.out)).mono ?_
     rintro e5_6 v5_6 ⟨c_w0,rfl,hr_,hb_⟩
     have hsz_:=hb_.size
     obtain ⟨A_o,k_o,S_o,hcs_, -⟩:=Client.open hr_
     subst hcs_
     simp only [Client.cs] at hr_ ⊢
     replace HR_t5_2:=zd (Lay.later HR_t5_2.out hb_)
     replace HR_t5_3:=zd (Lay.later HR_t5_3.out hb_)
     replace HR_t5_4:=zd (Row.later HR_t5_4.out hb_)
     replace HR_t5_5:=zd (Lay.later HR_t5_5.out hb_)
     replace y0:=(hb_.cell (p:=⟨w4.heap.size,0,none⟩) hob).trans y0; replace y1:=(hb_.cell (p:=⟨w4.heap.size,1,none⟩) hob).trans y1; replace yf:=fun o => (hb_.frozen (p:=⟨w4.heap.size,o,none⟩) hob).trans (yf o); replace hob:=Nat.lt_of_lt_of_le hob hb_.size
     replace HV:=zd (Below.step HV.out hb_)
     have HRES:=zd (Lay.mono hr_ (S':=rng v5_5.heap.size v5_6.heap.size) (fun b h => zz26)); clear hr_ hb_
     refine hK.out _ _ ⟨HA_p0.out.below HV.out lt_p0,HA_p1.out.below HV.out lt_p1,HA_p4.out.below HV.out lt_p4⟩ (fun hS => ?_)
     clear hK K
     (try simp only [Act.put,List.getElem_toArray,List.getElem_cons_succ,List.getElem_cons_zero,List.setIfInBounds_toArray,List.set_cons_zero,List.set_cons_succ])
     refine wpAnyH_take (i:=10) (v:=.tuple #[.agg #[.int .i64 rr0.house, .slice A_o rr0.seen.length k_o], .string rr1, .bool rr2, .int .i64 rr3]) rfl (by as_aux_lemma => kernel_rfl) (by as_aux_lemma => kernel_rfl) (by as_aux_lemma => kernel_rfl) (fun _ _ _ h => h) (yieldsIf_move zz43 _ rfl zz43) hS ?_
     (try simp only [Act.put,List.getElem_toArray,List.getElem_cons_succ,List.getElem_cons_zero,List.setIfInBounds_toArray,List.set_cons_zero,List.set_cons_succ])
     refine wpAnyH_take (i:=11) (v:=.agg #[.int .i64 rr0.house, .slice A_o rr0.seen.length k_o]) rfl (by as_aux_lemma => kernel_rfl) (by as_aux_lemma => kernel_rfl) (by as_aux_lemma => kernel_rfl) (fun _ _ _ h => h) (ya5 zz43 _ 0 rfl zz43 zz43) hS ?_
     (try simp only [Act.put,List.getElem_toArray,List.getElem_cons_succ,List.getElem_cons_zero,List.setIfInBounds_toArray,List.set_cons_zero,List.set_cons_succ])
     refine wpAnyH_take (i:=12) (v:=.string rr1) rfl (by as_aux_lemma => kernel_rfl) (by as_aux_lemma => kernel_rfl) (by as_aux_lemma => kernel_rfl) (fun _ _ _ h => h) (ya5 zz43 _ 1 rfl zz43 zz43) hS ?_
     (try simp only [Act.put,List.getElem_toArray,List.getElem_cons_succ,List.getElem_cons_zero,List.setIfInBounds_toArray,List.set_cons_zero,List.set_cons_succ])
     refine wpAnyH_take (i:=13) (v:=.bool rr2) rfl (by as_aux_lemma => kernel_rfl) (by as_aux_lemma => kernel_rfl) (by as_aux_lemma => kernel_rfl) (fun _ _ _ h => h) (ya5 zz43 _ 2 rfl zz43 zz43) hS ?_
     (try simp only [Act.put,List.getElem_toArray,List.getElem_cons_succ,List.getElem_cons_zero,List.setIfInBounds_toArray,List.set_cons_zero,List.set_cons_succ])
     refine wpAnyH_take (i:=14) (v:=.int .i64 rr3) rfl (by as_aux_lemma => kernel_rfl) (by as_aux_lemma => kernel_rfl) (by as_aux_lemma => kernel_rfl) (fun _ _ _ h => h) (ya5 zz43 _ 3 rfl zz43 zz43) hS ?_
     (try simp only [Act.put,List.getElem_toArray,List.getElem_cons_succ,List.getElem_cons_zero,List.setIfInBounds_toArray,List.set_cons_zero,List.set_cons_succ])
     refine wpAnyH_ready (rs:=[16]) (by as_aux_lemma => kernel_rfl) zz32 (AllReadyH.cons rfl (fun K hK => ?_) AllReadyH.nil)
     (try rw [if_pos zz43])
     clear hS
     go_simp
     refine hK.out _ _ ⟨HA_p0.out.below (Below.setCell (Below.setCell HV.out hbl _) hbl _) lt_p0,HA_p1.out.below (Below.setCell (Below.setCell HV.out hbl _) hbl _) lt_p1,HA_p4.out.below (Below.setCell (Below.setCell HV.out hbl _) hbl _) lt_p4⟩ (fun hS => ?_)
     clear hK K
     (try (try simp only [Act.put,List.getElem_toArray,List.getElem_cons_succ,List.getElem_cons_zero,List.setIfInBounds_toArray,List.set_cons_zero,List.set_cons_succ]))
     refine wpAnyH_take (i:=17) (v:=.string rr1) rfl (by as_aux_lemma => kernel_rfl) (by as_aux_lemma => kernel_rfl) (by as_aux_lemma => kernel_rfl) (fun _ _ _ h => h) (ya8 zz43 _ rfl zz43) hS ?_
     (try simp only [Act.put,List.getElem_toArray,List.getElem_cons_succ,List.getElem_cons_zero,List.setIfInBounds_toArray,List.set_cons_zero,List.set_cons_succ])
     refine wpAnyH_take (i:=18) (v:=.bool rr2) rfl (by as_aux_lemma => kernel_rfl) (by as_aux_lemma => kernel_rfl) (by as_aux_lemma => kernel_rfl) (fun _ _ _ h => h) (ya8 zz43 _ rfl zz43) hS ?_
     (try simp only [Act.put,List.getElem_toArray,List.getElem_cons_succ,List.getElem_cons_zero,List.setIfInBounds_toArray,List.set_cons_zero,List.set_cons_succ])
     refine wpAnyH_take (i:=19) (v:=.int .i64 rr3) rfl (by as_aux_lemma => kernel_rfl) (by as_aux_lemma => kernel_rfl) (by as_aux_lemma => kernel_rfl) (fun _ _ _ h => h) (ya8 zz43 _ rfl zz43) hS ?_
     (try simp only [Act.put,List.getElem_toArray,List.getElem_cons_succ,List.getElem_cons_zero,List.setIfInBounds_toArray,List.set_cons_zero,List.set_cons_succ])
     refine wpAnyH_done (by as_aux_lemma => kernel_rfl) ?_ _
     clear hS
     (try go_wp2_with (fail))
     go_meet
     exact ⟨w4.heap.size,v5_5.heap.size,v5_6.heap.size,_,rfl,rfl,rfl,rfl,zd (FloatCut.put HV.out hbl hob hv1 (by have:=HV.out.size; omega) zz8 HRES.out y0 y1)⟩
   (try rw [if_pos zz43])
   clear hS
   go_simp
   refine (to_Client p0 _ _ _ (Lay.later HR_p0.out HV.out) sz_p0).mono ?_
   rintro e5_7 v5_7 ⟨c_t5_7,rfl,hr_,hb_⟩
   replace HV:=zd (Below.step HV.out hb_)
   have HR_t5_7:=zd hr_; clear hr_ hb_
   refine hK.out _ _ ⟨HA_p0.out.below HV.out lt_p0,HA_p1.out.below HV.out lt_p1,HA_p4.out.below HV.out lt_p4⟩ (fun hS => ?_)
   clear hK K
   (try simp only [Act.put,List.getElem_toArray,List.getElem_cons_succ,List.getElem_cons_zero,List.setIfInBounds_toArray,List.set_cons_zero,List.set_cons_succ])
   refine wpAnyH_ready (rs:=[3,15]) (by as_aux_lemma => kernel_rfl) zz32 (AllReadyH.cons rfl (fun K hK => ?_) (AllReadyH.cons rfl (fun K hK => ?_) AllReadyH.nil))
   rotate_left
   ·as_aux_lemma =>
     (try rw [if_pos zz43])
     clear hS
     go_simp
     obtain ⟨hb_,hs_,y0,y1,yf⟩:=float_new v5_7 (.int .i64 0) (.slice none 0 0) 47
     obtain ⟨a5_8,hwa⟩ : ∃ W,v5_7.alloc (.cells #[.int .i64 0, .slice none 0 0] 47) = W:=⟨_,rfl⟩
     rw [hwa] at hb_ hs_ y0 y1 yf ⊢
     clear hwa
     have hob : v5_7.heap.size < a5_8.heap.size:=zz62
     have hbl : w4.heap.size ≤ v5_7.heap.size:=HV.out.size
     replace HR_t5_7:=zd (Lay.later HR_t5_7.out hb_)
     replace HV:=zd (Below.step HV.out hb_); clear hb_
     refine hK.out _ _ ⟨HA_p0.out.below HV.out lt_p0,HA_p1.out.below HV.out lt_p1,HA_p4.out.below HV.out lt_p4⟩ (fun hS => ?_)
     clear hK K
     (try simp only [Act.put,List.getElem_toArray,List.getElem_cons_succ,List.getElem_cons_zero,List.setIfInBounds_toArray,List.set_cons_zero,List.set_cons_succ])
     refine wpAnyH_ready (rs:=[3]) (by as_aux_lemma => kernel_rfl) zz32 (AllReadyH.cons rfl (fun K hK => ?_) AllReadyH.nil)
     (try rw [if_pos zz43])
     clear hS
     go_simp
     refine (to_Trust p1 _ _ _ (Lay.later HR_p1.out HV.out) sz_p1).mono ?_
     rintro e5_9 v5_9 ⟨c_t5_9,rfl,hr_,hb_⟩
     replace HR_t5_7:=zd (Lay.later HR_t5_7.out hb_)
     replace y0:=(hb_.cell (p:=⟨v5_7.heap.size,0,none⟩) hob).trans y0; replace y1:=(hb_.cell (p:=⟨v5_7.heap.size,1,none⟩) hob).trans y1; replace yf:=fun o => (hb_.frozen (p:=⟨v5_7.heap.size,o,none⟩) hob).trans (yf o); replace hob:=Nat.lt_of_lt_of_le hob hb_.size
     replace HV:=zd (Below.step HV.out hb_)
     have HR_t5_9:=zd hr_; clear hr_ hb_
     refine hK.out _ _ ⟨HA_p0.out.below HV.out lt_p0,HA_p1.out.below HV.out lt_p1,HA_p4.out.below HV.out lt_p4⟩ (fun hS => ?_)
     clear hK K
     (try simp only [Act.put,List.getElem_toArray,List.getElem_cons_succ,List.getElem_cons_zero,List.setIfInBounds_toArray,List.set_cons_zero,List.set_cons_succ])
     refine wpAnyH_ready (rs:=[5]) (by as_aux_lemma => kernel_rfl) zz32 (AllReadyH.cons rfl (fun K hK => ?_) AllReadyH.nil)
     (try rw [if_pos zz43])
     clear hS
     go_simp
     refine (to_SealS p2 _ Ap2 kp2 _ (Row.later HR_p2.out HV.out) sz_p2).mono ?_
     rintro e5_10 v5_10 ⟨A_t5_10,c_t5_10,rfl,lt5_10,mt5_10,hr_,hb_⟩
     replace HR_t5_7:=zd (Lay.later HR_t5_7.out hb_)
     replace HR_t5_9:=zd (Lay.later HR_t5_9.out hb_)
     replace y0:=(hb_.cell (p:=⟨v5_7.heap.size,0,none⟩) hob).trans y0; replace y1:=(hb_.cell (p:=⟨v5_7.heap.size,1,none⟩) hob).trans y1; replace yf:=fun o => (hb_.frozen (p:=⟨v5_7.heap.size,o,none⟩) hob).trans (yf o); replace hob:=Nat.lt_of_lt_of_le hob hb_.size
     replace HV:=zd (Below.step HV.out hb_)
     have HR_t5_10:=zd hr_; clear hr_ hb_
     refine hK.out _ _ ⟨HA_p0.out.below HV.out lt_p0,HA_p1.out.below HV.out lt_p1,HA_p4.out.below HV.out lt_p4⟩ (fun hS => ?_)
     clear hK K
     (try simp only [Act.put,List.getElem_toArray,List.getElem_cons_succ,List.getElem_cons_zero,List.setIfInBounds_toArray,List.set_cons_zero,List.set_cons_succ])
     refine wpAnyH_ready (rs:=[8]) (by as_aux_lemma => kernel_rfl) zz32 (AllReadyH.cons rfl (fun K hK => ?_) AllReadyH.nil)
     (try rw [if_pos zz43])
     clear hS
     go_simp
     refine (to_Whole p4 _ _ _ (Lay.later HR_p4.out HV.out) sz_p4).mono ?_
     rintro e5_11 v5_11 ⟨c_t5_11,rfl,hr_,hb_⟩
     replace HR_t5_7:=zd (Lay.later HR_t5_7.out hb_)
     replace HR_t5_9:=zd (Lay.later HR_t5_9.out hb_)
     replace HR_t5_10:=zd (Row.later HR_t5_10.out hb_)
     replace y0:=(hb_.cell (p:=⟨v5_7.heap.size,0,none⟩) hob).trans y0; replace y1:=(hb_.cell (p:=⟨v5_7.heap.size,1,none⟩) hob).trans y1; replace yf:=fun o => (hb_.frozen (p:=⟨v5_7.heap.size,o,none⟩) hob).trans (yf o); replace hob:=Nat.lt_of_lt_of_le hob hb_.size
     replace HV:=zd (Below.step HV.out hb_)
     have HR_t5_11:=zd hr_; clear hr_ hb_
     refine hK.out _ _ ⟨HA_p0.out.below HV.out lt_p0,HA_p1.out.below HV.out lt_p1,HA_p4.out.below HV.out lt_p4⟩ (fun hS => ?_)
     clear hK K
     (try simp only [Act.put,List.getElem_toArray,List.getElem_cons_succ,List.getElem_cons_zero,List.setIfInBounds_toArray,List.set_cons_zero,List.set_cons_succ])
     refine wpAnyH_ready (rs:=[9]) (by as_aux_lemma => kernel_rfl) zz32 (AllReadyH.cons rfl (fun K hK => ?_) AllReadyH.nil)
     (try rw [if_pos zz43])
     clear hS
     go_simp
     have hv1 : w4.heap.size ≤ v5_11.heap.size:=HV.out.size
     have hv2 : v5_7.heap.size < v5_11.heap.size:=hob
     refine (HSP.out _ c_t5_7 _ (Lay.weak HR_t5_7.out) c_t5_9 _ (Lay.weak HR_t5_9.out) A_t5_10 c_t5_10 _ (Row.weak HR_t5_10.out) lt5_10 mt5_10 c_t5_11 _ (Lay.weak HR_t5_11.out)).mono ?_
     rintro e5_12 v5_12 ⟨c_w0,rfl,hr_,hb_⟩
     have hsz_:=hb_.size
     obtain ⟨A_o,k_o,S_o,hcs_, -⟩:=Client.open hr_
     subst hcs_
     simp only [Client.cs] at hr_ ⊢
     replace HR_t5_7:=zd (Lay.later HR_t5_7.out hb_)
     replace HR_t5_9:=zd (Lay.later HR_t5_9.out hb_)
     replace HR_t5_10:=zd (Row.later HR_t5_10.out hb_)
     replace HR_t5_11:=zd (Lay.later HR_t5_11.out hb_)
     replace y0:=(hb_.cell (p:=⟨v5_7.heap.size,0,none⟩) hob).trans y0; replace y1:=(hb_.cell (p:=⟨v5_7.heap.size,1,none⟩) hob).trans y1; replace yf:=fun o => (hb_.frozen (p:=⟨v5_7.heap.size,o,none⟩) hob).trans (yf o); replace hob:=Nat.lt_of_lt_of_le hob hb_.size
     replace HV:=zd (Below.step HV.out hb_)
     have HRES:=zd (Lay.mono hr_ (S':=rng v5_11.heap.size v5_12.heap.size) (fun b h => zz26)); clear hr_ hb_
     refine hK.out _ _ ⟨HA_p0.out.below HV.out lt_p0,HA_p1.out.below HV.out lt_p1,HA_p4.out.below HV.out lt_p4⟩ (fun hS => ?_)
     clear hK K
     (try simp only [Act.put,List.getElem_toArray,List.getElem_cons_succ,List.getElem_cons_zero,List.setIfInBounds_toArray,List.set_cons_zero,List.set_cons_succ])
     refine wpAnyH_take (i:=10) (v:=.tuple #[.agg #[.int .i64 rr0.house, .slice A_o rr0.seen.length k_o], .string rr1, .bool rr2, .int .i64 rr3]) rfl (by as_aux_lemma => kernel_rfl) (by as_aux_lemma => kernel_rfl) (by as_aux_lemma => kernel_rfl) (fun _ _ _ h => h) (yieldsIf_move zz43 _ rfl zz43) hS ?_
     (try simp only [Act.put,List.getElem_toArray,List.getElem_cons_succ,List.getElem_cons_zero,List.setIfInBounds_toArray,List.set_cons_zero,List.set_cons_succ])
     refine wpAnyH_take (i:=11) (v:=.agg #[.int .i64 rr0.house, .slice A_o rr0.seen.length k_o]) rfl (by as_aux_lemma => kernel_rfl) (by as_aux_lemma => kernel_rfl) (by as_aux_lemma => kernel_rfl) (fun _ _ _ h => h) (ya5 zz43 _ 0 rfl zz43 zz43) hS ?_
     (try simp only [Act.put,List.getElem_toArray,List.getElem_cons_succ,List.getElem_cons_zero,List.setIfInBounds_toArray,List.set_cons_zero,List.set_cons_succ])
     refine wpAnyH_take (i:=12) (v:=.string rr1) rfl (by as_aux_lemma => kernel_rfl) (by as_aux_lemma => kernel_rfl) (by as_aux_lemma => kernel_rfl) (fun _ _ _ h => h) (ya5 zz43 _ 1 rfl zz43 zz43) hS ?_
     (try simp only [Act.put,List.getElem_toArray,List.getElem_cons_succ,List.getElem_cons_zero,List.setIfInBounds_toArray,List.set_cons_zero,List.set_cons_succ])
     refine wpAnyH_take (i:=13) (v:=.bool rr2) rfl (by as_aux_lemma => kernel_rfl) (by as_aux_lemma => kernel_rfl) (by as_aux_lemma => kernel_rfl) (fun _ _ _ h => h) (ya5 zz43 _ 2 rfl zz43 zz43) hS ?_
     (try simp only [Act.put,List.getElem_toArray,List.getElem_cons_succ,List.getElem_cons_zero,List.setIfInBounds_toArray,List.set_cons_zero,List.set_cons_succ])
     refine wpAnyH_take (i:=14) (v:=.int .i64 rr3) rfl (by as_aux_lemma => kernel_rfl) (by as_aux_lemma => kernel_rfl) (by as_aux_lemma => kernel_rfl) (fun _ _ _ h => h) (ya5 zz43 _ 3 rfl zz43 zz43) hS ?_
     (try simp only [Act.put,List.getElem_toArray,List.getElem_cons_succ,List.getElem_cons_zero,List.setIfInBounds_toArray,List.set_cons_zero,List.set_cons_succ])
     refine wpAnyH_ready (rs:=[16]) (by as_aux_lemma => kernel_rfl) zz32 (AllReadyH.cons rfl (fun K hK => ?_) AllReadyH.nil)
     (try rw [if_pos zz43])
     clear hS
     go_simp
     refine hK.out _ _ ⟨HA_p0.out.below (Below.setCell (Below.setCell HV.out hbl _) hbl _) lt_p0,HA_p1.out.below (Below.setCell (Below.setCell HV.out hbl _) hbl _) lt_p1,HA_p4.out.below (Below.setCell (Below.setCell HV.out hbl _) hbl _) lt_p4⟩ (fun hS => ?_)
     clear hK K
     (try (try simp only [Act.put,List.getElem_toArray,List.getElem_cons_succ,List.getElem_cons_zero,List.setIfInBounds_toArray,List.set_cons_zero,List.set_cons_succ]))
     refine wpAnyH_take (i:=17) (v:=.string rr1) rfl (by as_aux_lemma => kernel_rfl) (by as_aux_lemma => kernel_rfl) (by as_aux_lemma => kernel_rfl) (fun _ _ _ h => h) (ya8 zz43 _ rfl zz43) hS ?_
     (try simp only [Act.put,List.getElem_toArray,List.getElem_cons_succ,List.getElem_cons_zero,List.setIfInBounds_toArray,List.set_cons_zero,List.set_cons_succ])
     refine wpAnyH_take (i:=18) (v:=.bool rr2) rfl (by as_aux_lemma => kernel_rfl) (by as_aux_lemma => kernel_rfl) (by as_aux_lemma => kernel_rfl) (fun _ _ _ h => h) (ya8 zz43 _ rfl zz43) hS ?_
     (try simp only [Act.put,List.getElem_toArray,List.getElem_cons_succ,List.getElem_cons_zero,List.setIfInBounds_toArray,List.set_cons_zero,List.set_cons_succ])
     refine wpAnyH_take (i:=19) (v:=.int .i64 rr3) rfl (by as_aux_lemma => kernel_rfl) (by as_aux_lemma => kernel_rfl) (by as_aux_lemma => kernel_rfl) (fun _ _ _ h => h) (ya8 zz43 _ rfl zz43) hS ?_
     (try simp only [Act.put,List.getElem_toArray,List.getElem_cons_succ,List.getElem_cons_zero,List.setIfInBounds_toArray,List.set_cons_zero,List.set_cons_succ])
     refine wpAnyH_done (by as_aux_lemma => kernel_rfl) ?_ _
     clear hS
     (try go_wp2_with (fail))
     go_meet
     exact ⟨v5_7.heap.size,v5_11.heap.size,v5_12.heap.size,_,rfl,rfl,rfl,rfl,zd (FloatCut.put HV.out hbl hob hv1 (by have:=HV.out.size; omega) zz8 HRES.out y0 y1)⟩
   (try rw [if_pos zz43])
   clear hS
   go_simp
   refine (to_Trust p1 _ _ _ (Lay.later HR_p1.out HV.out) sz_p1).mono ?_
   rintro e5_13 v5_13 ⟨c_t5_13,rfl,hr_,hb_⟩
   replace HR_t5_7:=zd (Lay.later HR_t5_7.out hb_)
   replace HV:=zd (Below.step HV.out hb_)
   have HR_t5_13:=zd hr_; clear hr_ hb_
   refine hK.out _ _ ⟨HA_p0.out.below HV.out lt_p0,HA_p1.out.below HV.out lt_p1,HA_p4.out.below HV.out lt_p4⟩ (fun hS => ?_)
   clear hK K
   (try simp only [Act.put,List.getElem_toArray,List.getElem_cons_succ,List.getElem_cons_zero,List.setIfInBounds_toArray,List.set_cons_zero,List.set_cons_succ])
   refine wpAnyH_ready (rs:=[5,15]) (by as_aux_lemma => kernel_rfl) zz32 (AllReadyH.cons rfl (fun K hK => ?_) (AllReadyH.cons rfl (fun K hK => ?_) AllReadyH.nil))
   rotate_left
   ·as_aux_lemma =>
     (try rw [if_pos zz43])
     clear hS
     go_simp
     obtain ⟨hb_,hs_,y0,y1,yf⟩:=float_new v5_13 (.int .i64 0) (.slice none 0 0) 47
     obtain ⟨a5_14,hwa⟩ : ∃ W,v5_13.alloc (.cells #[.int .i64 0, .slice none 0 0] 47) = W:=⟨_,rfl⟩
     rw [hwa] at hb_ hs_ y0 y1 yf ⊢
     clear hwa
     have hob : v5_13.heap.size < a5_14.heap.size:=zz62
     have hbl : w4.heap.size ≤ v5_13.heap.size:=HV.out.size
     replace HR_t5_7:=zd (Lay.later HR_t5_7.out hb_)
     replace HR_t5_13:=zd (Lay.later HR_t5_13.out hb_)
     replace HV:=zd (Below.step HV.out hb_); clear hb_
     refine hK.out _ _ ⟨HA_p0.out.below HV.out lt_p0,HA_p1.out.below HV.out lt_p1,HA_p4.out.below HV.out lt_p4⟩ (fun hS => ?_)
     clear hK K
     (try simp only [Act.put,List.getElem_toArray,List.getElem_cons_succ,List.getElem_cons_zero,List.setIfInBounds_toArray,List.set_cons_zero,List.set_cons_succ])
     refine wpAnyH_ready (rs:=[5]) (by as_aux_lemma => kernel_rfl) zz32 (AllReadyH.cons rfl (fun K hK => ?_) AllReadyH.nil)
     (try rw [if_pos zz43])
     clear hS
     go_simp
     refine (to_SealS p2 _ Ap2 kp2 _ (Row.later HR_p2.out HV.out) sz_p2).mono ?_
     rintro e5_15 v5_15 ⟨A_t5_15,c_t5_15,rfl,lt5_15,mt5_15,hr_,hb_⟩
     replace HR_t5_7:=zd (Lay.later HR_t5_7.out hb_)
     replace HR_t5_13:=zd (Lay.later HR_t5_13.out hb_)
     replace y0:=(hb_.cell (p:=⟨v5_13.heap.size,0,none⟩) hob).trans y0; replace y1:=(hb_.cell (p:=⟨v5_13.heap.size,1,none⟩) hob).trans y1; replace yf:=fun o => (hb_.frozen (p:=⟨v5_13.heap.size,o,none⟩) hob).trans (yf o); replace hob:=Nat.lt_of_lt_of_le hob hb_.size
     replace HV:=zd (Below.step HV.out hb_)
     have HR_t5_15:=zd hr_; clear hr_ hb_
     refine hK.out _ _ ⟨HA_p0.out.below HV.out lt_p0,HA_p1.out.below HV.out lt_p1,HA_p4.out.below HV.out lt_p4⟩ (fun hS => ?_)
     clear hK K
     (try simp only [Act.put,List.getElem_toArray,List.getElem_cons_succ,List.getElem_cons_zero,List.setIfInBounds_toArray,List.set_cons_zero,List.set_cons_succ])
     refine wpAnyH_ready (rs:=[8]) (by as_aux_lemma => kernel_rfl) zz32 (AllReadyH.cons rfl (fun K hK => ?_) AllReadyH.nil)
     (try rw [if_pos zz43])
     clear hS
     go_simp
     refine (to_Whole p4 _ _ _ (Lay.later HR_p4.out HV.out) sz_p4).mono ?_
     rintro e5_16 v5_16 ⟨c_t5_16,rfl,hr_,hb_⟩
     replace HR_t5_7:=zd (Lay.later HR_t5_7.out hb_)
     replace HR_t5_13:=zd (Lay.later HR_t5_13.out hb_)
     replace HR_t5_15:=zd (Row.later HR_t5_15.out hb_)
     replace y0:=(hb_.cell (p:=⟨v5_13.heap.size,0,none⟩) hob).trans y0; replace y1:=(hb_.cell (p:=⟨v5_13.heap.size,1,none⟩) hob).trans y1; replace yf:=fun o => (hb_.frozen (p:=⟨v5_13.heap.size,o,none⟩) hob).trans (yf o); replace hob:=Nat.lt_of_lt_of_le hob hb_.size
     replace HV:=zd (Below.step HV.out hb_)
     have HR_t5_16:=zd hr_; clear hr_ hb_
     refine hK.out _ _ ⟨HA_p0.out.below HV.out lt_p0,HA_p1.out.below HV.out lt_p1,HA_p4.out.below HV.out lt_p4⟩ (fun hS => ?_)
     clear hK K
     (try simp only [Act.put,List.getElem_toArray,List.getElem_cons_succ,List.getElem_cons_zero,List.setIfInBounds_toArray,List.set_cons_zero,List.set_cons_succ])
     refine wpAnyH_ready (rs:=[9]) (by as_aux_lemma => kernel_rfl) zz32 (AllReadyH.cons rfl (fun K hK => ?_) AllReadyH.nil)
     (try rw [if_pos zz43])
     clear hS
     go_simp
     have hv1 : w4.heap.size ≤ v5_16.heap.size:=HV.out.size
     have hv2 : v5_13.heap.size < v5_16.heap.size:=hob
     refine (HSP.out _ c_t5_7 _ (Lay.weak HR_t5_7.out) c_t5_13 _ (Lay.weak HR_t5_13.out) A_t5_15 c_t5_15 _ (Row.weak HR_t5_15.out) lt5_15 mt5_15 c_t5_16 _ (Lay.weak HR_t5_16.out)).mono ?_
     rintro e5_17 v5_17 ⟨c_w0,rfl,hr_,hb_⟩
     have hsz_:=hb_.size
     obtain ⟨A_o,k_o,S_o,hcs_, -⟩:=Client.open hr_
     subst hcs_
     simp only [Client.cs] at hr_ ⊢
     replace HR_t5_7:=zd (Lay.later HR_t5_7.out hb_)
     replace HR_t5_13:=zd (Lay.later HR_t5_13.out hb_)
     replace HR_t5_15:=zd (Row.later HR_t5_15.out hb_)
     replace HR_t5_16:=zd (Lay.later HR_t5_16.out hb_)
     replace y0:=(hb_.cell (p:=⟨v5_13.heap.size,0,none⟩) hob).trans y0; replace y1:=(hb_.cell (p:=⟨v5_13.heap.size,1,none⟩) hob).trans y1; replace yf:=fun o => (hb_.frozen (p:=⟨v5_13.heap.size,o,none⟩) hob).trans (yf o); replace hob:=Nat.lt_of_lt_of_le hob hb_.size
     replace HV:=zd (Below.step HV.out hb_)
     have HRES:=zd (Lay.mono hr_ (S':=rng v5_16.heap.size v5_17.heap.size) (fun b h => zz26)); clear hr_ hb_
     refine hK.out _ _ ⟨HA_p0.out.below HV.out lt_p0,HA_p1.out.below HV.out lt_p1,HA_p4.out.below HV.out lt_p4⟩ (fun hS => ?_)
     clear hK K
     (try simp only [Act.put,List.getElem_toArray,List.getElem_cons_succ,List.getElem_cons_zero,List.setIfInBounds_toArray,List.set_cons_zero,List.set_cons_succ])
     refine wpAnyH_take (i:=10) (v:=.tuple #[.agg #[.int .i64 rr0.house, .slice A_o rr0.seen.length k_o], .string rr1, .bool rr2, .int .i64 rr3]) rfl (by as_aux_lemma => kernel_rfl) (by as_aux_lemma => kernel_rfl) (by as_aux_lemma => kernel_rfl) (fun _ _ _ h => h) (yieldsIf_move zz43 _ rfl zz43) hS ?_
     (try simp only [Act.put,List.getElem_toArray,List.getElem_cons_succ,List.getElem_cons_zero,List.setIfInBounds_toArray,List.set_cons_zero,List.set_cons_succ])
     refine wpAnyH_take (i:=11) (v:=.agg #[.int .i64 rr0.house, .slice A_o rr0.seen.length k_o]) rfl (by as_aux_lemma => kernel_rfl) (by as_aux_lemma => kernel_rfl) (by as_aux_lemma => kernel_rfl) (fun _ _ _ h => h) (ya5 zz43 _ 0 rfl zz43 zz43) hS ?_
     (try simp only [Act.put,List.getElem_toArray,List.getElem_cons_succ,List.getElem_cons_zero,List.setIfInBounds_toArray,List.set_cons_zero,List.set_cons_succ])
     refine wpAnyH_take (i:=12) (v:=.string rr1) rfl (by as_aux_lemma => kernel_rfl) (by as_aux_lemma => kernel_rfl) (by as_aux_lemma => kernel_rfl) (fun _ _ _ h => h) (ya5 zz43 _ 1 rfl zz43 zz43) hS ?_
     (try simp only [Act.put,List.getElem_toArray,List.getElem_cons_succ,List.getElem_cons_zero,List.setIfInBounds_toArray,List.set_cons_zero,List.set_cons_succ])
     refine wpAnyH_take (i:=13) (v:=.bool rr2) rfl (by as_aux_lemma => kernel_rfl) (by as_aux_lemma => kernel_rfl) (by as_aux_lemma => kernel_rfl) (fun _ _ _ h => h) (ya5 zz43 _ 2 rfl zz43 zz43) hS ?_
     (try simp only [Act.put,List.getElem_toArray,List.getElem_cons_succ,List.getElem_cons_zero,List.setIfInBounds_toArray,List.set_cons_zero,List.set_cons_succ])
     refine wpAnyH_take (i:=14) (v:=.int .i64 rr3) rfl (by as_aux_lemma => kernel_rfl) (by as_aux_lemma => kernel_rfl) (by as_aux_lemma => kernel_rfl) (fun _ _ _ h => h) (ya5 zz43 _ 3 rfl zz43 zz43) hS ?_
     (try simp only [Act.put,List.getElem_toArray,List.getElem_cons_succ,List.getElem_cons_zero,List.setIfInBounds_toArray,List.set_cons_zero,List.set_cons_succ])
     refine wpAnyH_ready (rs:=[16]) (by as_aux_lemma => kernel_rfl) zz32 (AllReadyH.cons rfl (fun K hK => ?_) AllReadyH.nil)
     (try rw [if_pos zz43])
     clear hS
     go_simp
     refine hK.out _ _ ⟨HA_p0.out.below (Below.setCell (Below.setCell HV.out hbl _) hbl _) lt_p0,HA_p1.out.below (Below.setCell (Below.setCell HV.out hbl _) hbl _) lt_p1,HA_p4.out.below (Below.setCell (Below.setCell HV.out hbl _) hbl _) lt_p4⟩ (fun hS => ?_)
     clear hK K
     (try (try simp only [Act.put,List.getElem_toArray,List.getElem_cons_succ,List.getElem_cons_zero,List.setIfInBounds_toArray,List.set_cons_zero,List.set_cons_succ]))
     refine wpAnyH_take (i:=17) (v:=.string rr1) rfl (by as_aux_lemma => kernel_rfl) (by as_aux_lemma => kernel_rfl) (by as_aux_lemma => kernel_rfl) (fun _ _ _ h => h) (ya8 zz43 _ rfl zz43) hS ?_
     (try simp only [Act.put,List.getElem_toArray,List.getElem_cons_succ,List.getElem_cons_zero,List.setIfInBounds_toArray,List.set_cons_zero,List.set_cons_succ])
     refine wpAnyH_take (i:=18) (v:=.bool rr2) rfl (by as_aux_lemma => kernel_rfl) (by as_aux_lemma => kernel_rfl) (by as_aux_lemma => kernel_rfl) (fun _ _ _ h => h) (ya8 zz43 _ rfl zz43) hS ?_
     (try simp only [Act.put,List.getElem_toArray,List.getElem_cons_succ,List.getElem_cons_zero,List.setIfInBounds_toArray,List.set_cons_zero,List.set_cons_succ])
     refine wpAnyH_take (i:=19) (v:=.int .i64 rr3) rfl (by as_aux_lemma => kernel_rfl) (by as_aux_lemma => kernel_rfl) (by as_aux_lemma => kernel_rfl) (fun _ _ _ h => h) (ya8 zz43 _ rfl zz43) hS ?_
     (try simp only [Act.put,List.getElem_toArray,List.getElem_cons_succ,List.getElem_cons_zero,List.setIfInBounds_toArray,List.set_cons_zero,List.set_cons_succ])
     refine wpAnyH_done (by as_aux_lemma => kernel_rfl) ?_ _
     clear hS
     (try go_wp2_with (fail))
     go_meet
     exact ⟨v5_13.heap.size,v5_16.heap.size,v5_17.heap.size,_,rfl,rfl,rfl,rfl,zd (FloatCut.put HV.out hbl hob hv1 (by have:=HV.out.size; omega) zz8 HRES.out y0 y1)⟩
   (try rw [if_pos zz43])
   clear hS
   go_simp
   refine (to_SealS p2 _ Ap2 kp2 _ (Row.later HR_p2.out HV.out) sz_p2).mono ?_
   rintro e5_18 v5_18 ⟨A_t5_18,c_t5_18,rfl,lt5_18,mt5_18,hr_,hb_⟩
   replace HR_t5_7:=zd (Lay.later HR_t5_7.out hb_)
   replace HR_t5_13:=zd (Lay.later HR_t5_13.out hb_)
   replace HV:=zd (Below.step HV.out hb_)
   have HR_t5_18:=zd hr_; clear hr_ hb_
   refine hK.out _ _ ⟨HA_p0.out.below HV.out lt_p0,HA_p1.out.below HV.out lt_p1,HA_p4.out.below HV.out lt_p4⟩ (fun hS => ?_)
   clear hK K
   (try simp only [Act.put,List.getElem_toArray,List.getElem_cons_succ,List.getElem_cons_zero,List.setIfInBounds_toArray,List.set_cons_zero,List.set_cons_succ])
   refine wpAnyH_ready (rs:=[8,15]) (by as_aux_lemma => kernel_rfl) zz32 (AllReadyH.cons rfl (fun K hK => ?_) (AllReadyH.cons rfl (fun K hK => ?_) AllReadyH.nil))
   rotate_left
   ·as_aux_lemma =>
     (try rw [if_pos zz43])
     clear hS
     go_simp
     obtain ⟨hb_,hs_,y0,y1,yf⟩:=float_new v5_18 (.int .i64 0) (.slice none 0 0) 47
     obtain ⟨a5_19,hwa⟩ : ∃ W,v5_18.alloc (.cells #[.int .i64 0, .slice none 0 0] 47) = W:=⟨_,rfl⟩
     rw [hwa] at hb_ hs_ y0 y1 yf ⊢
     clear hwa
     have hob : v5_18.heap.size < a5_19.heap.size:=zz62
     have hbl : w4.heap.size ≤ v5_18.heap.size:=HV.out.size
     replace HR_t5_7:=zd (Lay.later HR_t5_7.out hb_)
     replace HR_t5_13:=zd (Lay.later HR_t5_13.out hb_)
     replace HR_t5_18:=zd (Row.later HR_t5_18.out hb_)
     replace HV:=zd (Below.step HV.out hb_); clear hb_
     refine hK.out _ _ ⟨HA_p0.out.below HV.out lt_p0,HA_p1.out.below HV.out lt_p1,HA_p4.out.below HV.out lt_p4⟩ (fun hS => ?_)
     clear hK K
     (try simp only [Act.put,List.getElem_toArray,List.getElem_cons_succ,List.getElem_cons_zero,List.setIfInBounds_toArray,List.set_cons_zero,List.set_cons_succ])
     refine wpAnyH_ready (rs:=[8]) (by as_aux_lemma => kernel_rfl) zz32 (AllReadyH.cons rfl (fun K hK => ?_) AllReadyH.nil)
     (try rw [if_pos zz43])
     clear hS
     go_simp
     refine (to_Whole p4 _ _ _ (Lay.later HR_p4.out HV.out) sz_p4).mono ?_
     rintro e5_20 v5_20 ⟨c_t5_20,rfl,hr_,hb_⟩
     replace HR_t5_7:=zd (Lay.later HR_t5_7.out hb_)
     replace HR_t5_13:=zd (Lay.later HR_t5_13.out hb_)
     replace HR_t5_18:=zd (Row.later HR_t5_18.out hb_)
     replace y0:=(hb_.cell (p:=⟨v5_18.heap.size,0,none⟩) hob).trans y0; replace y1:=(hb_.cell (p:=⟨v5_18.heap.size,1,none⟩) hob).trans y1; replace yf:=fun o => (hb_.frozen (p:=⟨v5_18.heap.size,o,none⟩) hob).trans (yf o); replace hob:=Nat.lt_of_lt_of_le hob hb_.size
     replace HV:=zd (Below.step HV.out hb_)
     have HR_t5_20:=zd hr_; clear hr_ hb_
     refine hK.out _ _ ⟨HA_p0.out.below HV.out lt_p0,HA_p1.out.below HV.out lt_p1,HA_p4.out.below HV.out lt_p4⟩ (fun hS => ?_)
     clear hK K
     (try simp only [Act.put,List.getElem_toArray,List.getElem_cons_succ,List.getElem_cons_zero,List.setIfInBounds_toArray,List.set_cons_zero,List.set_cons_succ])
     refine wpAnyH_ready (rs:=[9]) (by as_aux_lemma => kernel_rfl) zz32 (AllReadyH.cons rfl (fun K hK => ?_) AllReadyH.nil)
     (try rw [if_pos zz43])
     clear hS
     go_simp
     have hv1 : w4.heap.size ≤ v5_20.heap.size:=HV.out.size
     have hv2 : v5_18.heap.size < v5_20.heap.size:=hob
     refine (HSP.out _ c_t5_7 _ (Lay.weak HR_t5_7.out) c_t5_13 _ (Lay.weak HR_t5_13.out) A_t5_18 c_t5_18 _ (Row.weak HR_t5_18.out) lt5_18 mt5_18 c_t5_20 _ (Lay.weak HR_t5_20.out)).mono ?_
     rintro e5_21 v5_21 ⟨c_w0,rfl,hr_,hb_⟩
     have hsz_:=hb_.size
     obtain ⟨A_o,k_o,S_o,hcs_, -⟩:=Client.open hr_
     subst hcs_
     simp only [Client.cs] at hr_ ⊢
     replace HR_t5_7:=zd (Lay.later HR_t5_7.out hb_)
     replace HR_t5_13:=zd (Lay.later HR_t5_13.out hb_)
     replace HR_t5_18:=zd (Row.later HR_t5_18.out hb_)
     replace HR_t5_20:=zd (Lay.later HR_t5_20.out hb_)
     replace y0:=(hb_.cell (p:=⟨v5_18.heap.size,0,none⟩) hob).trans y0; replace y1:=(hb_.cell (p:=⟨v5_18.heap.size,1,none⟩) hob).trans y1; replace yf:=fun o => (hb_.frozen (p:=⟨v5_18.heap.size,o,none⟩) hob).trans (yf o); replace hob:=Nat.lt_of_lt_of_le hob hb_.size
     replace HV:=zd (Below.step HV.out hb_)
     have HRES:=zd (Lay.mono hr_ (S':=rng v5_20.heap.size v5_21.heap.size) (fun b h => zz26)); clear hr_ hb_
     refine hK.out _ _ ⟨HA_p0.out.below HV.out lt_p0,HA_p1.out.below HV.out lt_p1,HA_p4.out.below HV.out lt_p4⟩ (fun hS => ?_)
     clear hK K
     (try simp only [Act.put,List.getElem_toArray,List.getElem_cons_succ,List.getElem_cons_zero,List.setIfInBounds_toArray,List.set_cons_zero,List.set_cons_succ])
     refine wpAnyH_take (i:=10) (v:=.tuple #[.agg #[.int .i64 rr0.house, .slice A_o rr0.seen.length k_o], .string rr1, .bool rr2, .int .i64 rr3]) rfl (by as_aux_lemma => kernel_rfl) (by as_aux_lemma => kernel_rfl) (by as_aux_lemma => kernel_rfl) (fun _ _ _ h => h) (yieldsIf_move zz43 _ rfl zz43) hS ?_
     (try simp only [Act.put,List.getElem_toArray,List.getElem_cons_succ,List.getElem_cons_zero,List.setIfInBounds_toArray,List.set_cons_zero,List.set_cons_succ])
     refine wpAnyH_take (i:=11) (v:=.agg #[.int .i64 rr0.house, .slice A_o rr0.seen.length k_o]) rfl (by as_aux_lemma => kernel_rfl) (by as_aux_lemma => kernel_rfl) (by as_aux_lemma => kernel_rfl) (fun _ _ _ h => h) (ya5 zz43 _ 0 rfl zz43 zz43) hS ?_
     (try simp only [Act.put,List.getElem_toArray,List.getElem_cons_succ,List.getElem_cons_zero,List.setIfInBounds_toArray,List.set_cons_zero,List.set_cons_succ])
     refine wpAnyH_take (i:=12) (v:=.string rr1) rfl (by as_aux_lemma => kernel_rfl) (by as_aux_lemma => kernel_rfl) (by as_aux_lemma => kernel_rfl) (fun _ _ _ h => h) (ya5 zz43 _ 1 rfl zz43 zz43) hS ?_
     (try simp only [Act.put,List.getElem_toArray,List.getElem_cons_succ,List.getElem_cons_zero,List.setIfInBounds_toArray,List.set_cons_zero,List.set_cons_succ])
     refine wpAnyH_take (i:=13) (v:=.bool rr2) rfl (by as_aux_lemma => kernel_rfl) (by as_aux_lemma => kernel_rfl) (by as_aux_lemma => kernel_rfl) (fun _ _ _ h => h) (ya5 zz43 _ 2 rfl zz43 zz43) hS ?_
     (try simp only [Act.put,List.getElem_toArray,List.getElem_cons_succ,List.getElem_cons_zero,List.setIfInBounds_toArray,List.set_cons_zero,List.set_cons_succ])
     refine wpAnyH_take (i:=14) (v:=.int .i64 rr3) rfl (by as_aux_lemma => kernel_rfl) (by as_aux_lemma => kernel_rfl) (by as_aux_lemma => kernel_rfl) (fun _ _ _ h => h) (ya5 zz43 _ 3 rfl zz43 zz43) hS ?_
     (try simp only [Act.put,List.getElem_toArray,List.getElem_cons_succ,List.getElem_cons_zero,List.setIfInBounds_toArray,List.set_cons_zero,List.set_cons_succ])
     refine wpAnyH_ready (rs:=[16]) (by as_aux_lemma => kernel_rfl) zz32 (AllReadyH.cons rfl (fun K hK => ?_) AllReadyH.nil)
     (try rw [if_pos zz43])
     clear hS
     go_simp
     refine hK.out _ _ ⟨HA_p0.out.below (Below.setCell (Below.setCell HV.out hbl _) hbl _) lt_p0,HA_p1.out.below (Below.setCell (Below.setCell HV.out hbl _) hbl _) lt_p1,HA_p4.out.below (Below.setCell (Below.setCell HV.out hbl _) hbl _) lt_p4⟩ (fun hS => ?_)
     clear hK K
     (try (try simp only [Act.put,List.getElem_toArray,List.getElem_cons_succ,List.getElem_cons_zero,List.setIfInBounds_toArray,List.set_cons_zero,List.set_cons_succ]))
     refine wpAnyH_take (i:=17) (v:=.string rr1) rfl (by as_aux_lemma => kernel_rfl) (by as_aux_lemma => kernel_rfl) (by as_aux_lemma => kernel_rfl) (fun _ _ _ h => h) (ya8 zz43 _ rfl zz43) hS ?_
     (try simp only [Act.put,List.getElem_toArray,List.getElem_cons_succ,List.getElem_cons_zero,List.setIfInBounds_toArray,List.set_cons_zero,List.set_cons_succ])
     refine wpAnyH_take (i:=18) (v:=.bool rr2) rfl (by as_aux_lemma => kernel_rfl) (by as_aux_lemma => kernel_rfl) (by as_aux_lemma => kernel_rfl) (fun _ _ _ h => h) (ya8 zz43 _ rfl zz43) hS ?_
     (try simp only [Act.put,List.getElem_toArray,List.getElem_cons_succ,List.getElem_cons_zero,List.setIfInBounds_toArray,List.set_cons_zero,List.set_cons_succ])
     refine wpAnyH_take (i:=19) (v:=.int .i64 rr3) rfl (by as_aux_lemma => kernel_rfl) (by as_aux_lemma => kernel_rfl) (by as_aux_lemma => kernel_rfl) (fun _ _ _ h => h) (ya8 zz43 _ rfl zz43) hS ?_
     (try simp only [Act.put,List.getElem_toArray,List.getElem_cons_succ,List.getElem_cons_zero,List.setIfInBounds_toArray,List.set_cons_zero,List.set_cons_succ])
     refine wpAnyH_done (by as_aux_lemma => kernel_rfl) ?_ _
     clear hS
     (try go_wp2_with (fail))
     go_meet
     exact ⟨v5_18.heap.size,v5_20.heap.size,v5_21.heap.size,_,rfl,rfl,rfl,rfl,zd (FloatCut.put HV.out hbl hob hv1 (by have:=HV.out.size; omega) zz8 HRES.out y0 y1)⟩
   (try rw [if_pos zz43])
   clear hS
   go_simp
   refine (to_Whole p4 _ _ _ (Lay.later HR_p4.out HV.out) sz_p4).mono ?_
   rintro e5_22 v5_22 ⟨c_t5_22,rfl,hr_,hb_⟩
   replace HR_t5_7:=zd (Lay.later HR_t5_7.out hb_)
   replace HR_t5_13:=zd (Lay.later HR_t5_13.out hb_)
   replace HR_t5_18:=zd (Row.later HR_t5_18.out hb_)
   replace HV:=zd (Below.step HV.out hb_)
   have HR_t5_22:=zd hr_; clear hr_ hb_
   refine hK.out _ _ ⟨HA_p0.out.below HV.out lt_p0,HA_p1.out.below HV.out lt_p1,HA_p4.out.below HV.out lt_p4⟩ (fun hS => ?_)
   clear hK K
   (try simp only [Act.put,List.getElem_toArray,List.getElem_cons_succ,List.getElem_cons_zero,List.setIfInBounds_toArray,List.set_cons_zero,List.set_cons_succ])
   refine wpAnyH_ready (rs:=[9,15]) (by as_aux_lemma => kernel_rfl) zz32 (AllReadyH.cons rfl (fun K hK => ?_) (AllReadyH.cons rfl (fun K hK => ?_) AllReadyH.nil))
   rotate_left
   ·as_aux_lemma =>
     (try rw [if_pos zz43])
     clear hS
     go_simp
     obtain ⟨hb_,hs_,y0,y1,yf⟩:=float_new v5_22 (.int .i64 0) (.slice none 0 0) 47
     obtain ⟨a5_23,hwa⟩ : ∃ W,v5_22.alloc (.cells #[.int .i64 0, .slice none 0 0] 47) = W:=⟨_,rfl⟩
     rw [hwa] at hb_ hs_ y0 y1 yf ⊢
     clear hwa
     have hob : v5_22.heap.size < a5_23.heap.size:=zz62
     have hbl : w4.heap.size ≤ v5_22.heap.size:=HV.out.size
     replace HR_t5_7:=zd (Lay.later HR_t5_7.out hb_)
     replace HR_t5_13:=zd (Lay.later HR_t5_13.out hb_)
     replace HR_t5_18:=zd (Row.later HR_t5_18.out hb_)
     replace HR_t5_22:=zd (Lay.later HR_t5_22.out hb_)
     replace HV:=zd (Below.step HV.out hb_); clear hb_
     refine hK.out _ _ ⟨HA_p0.out.below HV.out lt_p0,HA_p1.out.below HV.out lt_p1,HA_p4.out.below HV.out lt_p4⟩ (fun hS => ?_)
     clear hK K
     (try simp only [Act.put,List.getElem_toArray,List.getElem_cons_succ,List.getElem_cons_zero,List.setIfInBounds_toArray,List.set_cons_zero,List.set_cons_succ])
     refine wpAnyH_ready (rs:=[9]) (by as_aux_lemma => kernel_rfl) zz32 (AllReadyH.cons rfl (fun K hK => ?_) AllReadyH.nil)
     (try rw [if_pos zz43])
     clear hS
     go_simp
     have hv1 : w4.heap.size ≤ a5_23.heap.size:=HV.out.size
     have hv2 : v5_22.heap.size < a5_23.heap.size:=hob
     refine (HSP.out _ c_t5_7 _ (Lay.weak HR_t5_7.out) c_t5_13 _ (Lay.weak HR_t5_13.out) A_t5_18 c_t5_18 _ (Row.weak HR_t5_18.out) lt5_18 mt5_18 c_t5_22 _ (Lay.weak HR_t5_22.out)).mono ?_
     rintro e5_24 v5_24 ⟨c_w0,rfl,hr_,hb_⟩
     have hsz_:=hb_.size
     obtain ⟨A_o,k_o,S_o,hcs_, -⟩:=Client.open hr_
     subst hcs_
     simp only [Client.cs] at hr_ ⊢
     replace HR_t5_7:=zd (Lay.later HR_t5_7.out hb_)
     replace HR_t5_13:=zd (Lay.later HR_t5_13.out hb_)
     replace HR_t5_18:=zd (Row.later HR_t5_18.out hb_)
     replace HR_t5_22:=zd (Lay.later HR_t5_22.out hb_)
     replace y0:=(hb_.cell (p:=⟨v5_22.heap.size,0,none⟩) hob).trans y0; replace y1:=(hb_.cell (p:=⟨v5_22.heap.size,1,none⟩) hob).trans y1; replace yf:=fun o => (hb_.frozen (p:=⟨v5_22.heap.size,o,none⟩) hob).trans (yf o); replace hob:=Nat.lt_of_lt_of_le hob hb_.size
     replace HV:=zd (Below.step HV.out hb_)
     have HRES:=zd (Lay.mono hr_ (S':=rng a5_23.heap.size v5_24.heap.size) (fun b h => zz26)); clear hr_ hb_
     refine hK.out _ _ ⟨HA_p0.out.below HV.out lt_p0,HA_p1.out.below HV.out lt_p1,HA_p4.out.below HV.out lt_p4⟩ (fun hS => ?_)
     clear hK K
     (try simp only [Act.put,List.getElem_toArray,List.getElem_cons_succ,List.getElem_cons_zero,List.setIfInBounds_toArray,List.set_cons_zero,List.set_cons_succ])
     refine wpAnyH_take (i:=10) (v:=.tuple #[.agg #[.int .i64 rr0.house, .slice A_o rr0.seen.length k_o], .string rr1, .bool rr2, .int .i64 rr3]) rfl (by as_aux_lemma => kernel_rfl) (by as_aux_lemma => kernel_rfl) (by as_aux_lemma => kernel_rfl) (fun _ _ _ h => h) (yieldsIf_move zz43 _ rfl zz43) hS ?_
     (try simp only [Act.put,List.getElem_toArray,List.getElem_cons_succ,List.getElem_cons_zero,List.setIfInBounds_toArray,List.set_cons_zero,List.set_cons_succ])
     refine wpAnyH_take (i:=11) (v:=.agg #[.int .i64 rr0.house, .slice A_o rr0.seen.length k_o]) rfl (by as_aux_lemma => kernel_rfl) (by as_aux_lemma => kernel_rfl) (by as_aux_lemma => kernel_rfl) (fun _ _ _ h => h) (ya5 zz43 _ 0 rfl zz43 zz43) hS ?_
     (try simp only [Act.put,List.getElem_toArray,List.getElem_cons_succ,List.getElem_cons_zero,List.setIfInBounds_toArray,List.set_cons_zero,List.set_cons_succ])
     refine wpAnyH_take (i:=12) (v:=.string rr1) rfl (by as_aux_lemma => kernel_rfl) (by as_aux_lemma => kernel_rfl) (by as_aux_lemma => kernel_rfl) (fun _ _ _ h => h) (ya5 zz43 _ 1 rfl zz43 zz43) hS ?_
     (try simp only [Act.put,List.getElem_toArray,List.getElem_cons_succ,List.getElem_cons_zero,List.setIfInBounds_toArray,List.set_cons_zero,List.set_cons_succ])
     refine wpAnyH_take (i:=13) (v:=.bool rr2) rfl (by as_aux_lemma => kernel_rfl) (by as_aux_lemma => kernel_rfl) (by as_aux_lemma => kernel_rfl) (fun _ _ _ h => h) (ya5 zz43 _ 2 rfl zz43 zz43) hS ?_
     (try simp only [Act.put,List.getElem_toArray,List.getElem_cons_succ,List.getElem_cons_zero,List.setIfInBounds_toArray,List.set_cons_zero,List.set_cons_succ])
     refine wpAnyH_take (i:=14) (v:=.int .i64 rr3) rfl (by as_aux_lemma => kernel_rfl) (by as_aux_lemma => kernel_rfl) (by as_aux_lemma => kernel_rfl) (fun _ _ _ h => h) (ya5 zz43 _ 3 rfl zz43 zz43) hS ?_
     (try simp only [Act.put,List.getElem_toArray,List.getElem_cons_succ,List.getElem_cons_zero,List.setIfInBounds_toArray,List.set_cons_zero,List.set_cons_succ])
     refine wpAnyH_ready (rs:=[16]) (by as_aux_lemma => kernel_rfl) zz32 (AllReadyH.cons rfl (fun K hK => ?_) AllReadyH.nil)
     (try rw [if_pos zz43])
     clear hS
     go_simp
     refine hK.out _ _ ⟨HA_p0.out.below (Below.setCell (Below.setCell HV.out hbl _) hbl _) lt_p0,HA_p1.out.below (Below.setCell (Below.setCell HV.out hbl _) hbl _) lt_p1,HA_p4.out.below (Below.setCell (Below.setCell HV.out hbl _) hbl _) lt_p4⟩ (fun hS => ?_)
     clear hK K
     (try (try simp only [Act.put,List.getElem_toArray,List.getElem_cons_succ,List.getElem_cons_zero,List.setIfInBounds_toArray,List.set_cons_zero,List.set_cons_succ]))
     refine wpAnyH_take (i:=17) (v:=.string rr1) rfl (by as_aux_lemma => kernel_rfl) (by as_aux_lemma => kernel_rfl) (by as_aux_lemma => kernel_rfl) (fun _ _ _ h => h) (ya8 zz43 _ rfl zz43) hS ?_
     (try simp only [Act.put,List.getElem_toArray,List.getElem_cons_succ,List.getElem_cons_zero,List.setIfInBounds_toArray,List.set_cons_zero,List.set_cons_succ])
     refine wpAnyH_take (i:=18) (v:=.bool rr2) rfl (by as_aux_lemma => kernel_rfl) (by as_aux_lemma => kernel_rfl) (by as_aux_lemma => kernel_rfl) (fun _ _ _ h => h) (ya8 zz43 _ rfl zz43) hS ?_
     (try simp only [Act.put,List.getElem_toArray,List.getElem_cons_succ,List.getElem_cons_zero,List.setIfInBounds_toArray,List.set_cons_zero,List.set_cons_succ])
     refine wpAnyH_take (i:=19) (v:=.int .i64 rr3) rfl (by as_aux_lemma => kernel_rfl) (by as_aux_lemma => kernel_rfl) (by as_aux_lemma => kernel_rfl) (fun _ _ _ h => h) (ya8 zz43 _ rfl zz43) hS ?_
     (try simp only [Act.put,List.getElem_toArray,List.getElem_cons_succ,List.getElem_cons_zero,List.setIfInBounds_toArray,List.set_cons_zero,List.set_cons_succ])
     refine wpAnyH_done (by as_aux_lemma => kernel_rfl) ?_ _
     clear hS
     (try go_wp2_with (fail))
     go_meet
     exact ⟨v5_22.heap.size,a5_23.heap.size,v5_24.heap.size,_,rfl,rfl,rfl,rfl,zd (FloatCut.put HV.out hbl hob hv1 (by have:=HV.out.size; omega) zz8 HRES.out y0 y1)⟩
   (try rw [if_pos zz43])
   clear hS
   go_simp
   have hv1 : w4.heap.size ≤ v5_22.heap.size:=HV.out.size
   refine (HSP.out _ c_t5_7 _ (Lay.weak HR_t5_7.out) c_t5_13 _ (Lay.weak HR_t5_13.out) A_t5_18 c_t5_18 _ (Row.weak HR_t5_18.out) lt5_18 mt5_18 c_t5_22 _ (Lay.weak HR_t5_22.out)).mono ?_
   rintro e5_25 v5_25 ⟨c_w0,rfl,hr_,hb_⟩
   have hsz_:=hb_.size
   obtain ⟨A_o,k_o,S_o,hcs_, -⟩:=Client.open hr_
   subst hcs_
   simp only [Client.cs] at hr_ ⊢
   replace HR_t5_7:=zd (Lay.later HR_t5_7.out hb_)
   replace HR_t5_13:=zd (Lay.later HR_t5_13.out hb_)
   replace HR_t5_18:=zd (Row.later HR_t5_18.out hb_)
   replace HR_t5_22:=zd (Lay.later HR_t5_22.out hb_)
   replace HV:=zd (Below.step HV.out hb_)
   have HRES:=zd (Lay.mono hr_ (S':=rng v5_22.heap.size v5_25.heap.size) (fun b h => zz26)); clear hr_ hb_
   refine hK.out _ _ ⟨HA_p0.out.below HV.out lt_p0,HA_p1.out.below HV.out lt_p1,HA_p4.out.below HV.out lt_p4⟩ (fun hS => ?_)
   clear hK K
   (try simp only [Act.put,List.getElem_toArray,List.getElem_cons_succ,List.getElem_cons_zero,List.setIfInBounds_toArray,List.set_cons_zero,List.set_cons_succ])
   refine wpAnyH_take (i:=10) (v:=.tuple #[.agg #[.int .i64 rr0.house, .slice A_o rr0.seen.length k_o], .string rr1, .bool rr2, .int .i64 rr3]) rfl (by as_aux_lemma => kernel_rfl) (by as_aux_lemma => kernel_rfl) (by as_aux_lemma => kernel_rfl) (fun _ _ _ h => h) (yieldsIf_move zz43 _ rfl zz43) hS ?_
   (try simp only [Act.put,List.getElem_toArray,List.getElem_cons_succ,List.getElem_cons_zero,List.setIfInBounds_toArray,List.set_cons_zero,List.set_cons_succ])
   refine wpAnyH_take (i:=11) (v:=.agg #[.int .i64 rr0.house, .slice A_o rr0.seen.length k_o]) rfl (by as_aux_lemma => kernel_rfl) (by as_aux_lemma => kernel_rfl) (by as_aux_lemma => kernel_rfl) (fun _ _ _ h => h) (ya5 zz43 _ 0 rfl zz43 zz43) hS ?_
   (try simp only [Act.put,List.getElem_toArray,List.getElem_cons_succ,List.getElem_cons_zero,List.setIfInBounds_toArray,List.set_cons_zero,List.set_cons_succ])
   refine wpAnyH_take (i:=12) (v:=.string rr1) rfl (by as_aux_lemma => kernel_rfl) (by as_aux_lemma => kernel_rfl) (by as_aux_lemma => kernel_rfl) (fun _ _ _ h => h) (ya5 zz43 _ 1 rfl zz43 zz43) hS ?_
   (try simp only [Act.put,List.getElem_toArray,List.getElem_cons_succ,List.getElem_cons_zero,List.setIfInBounds_toArray,List.set_cons_zero,List.set_cons_succ])
   refine wpAnyH_take (i:=13) (v:=.bool rr2) rfl (by as_aux_lemma => kernel_rfl) (by as_aux_lemma => kernel_rfl) (by as_aux_lemma => kernel_rfl) (fun _ _ _ h => h) (ya5 zz43 _ 2 rfl zz43 zz43) hS ?_
   (try simp only [Act.put,List.getElem_toArray,List.getElem_cons_succ,List.getElem_cons_zero,List.setIfInBounds_toArray,List.set_cons_zero,List.set_cons_succ])
   refine wpAnyH_take (i:=14) (v:=.int .i64 rr3) rfl (by as_aux_lemma => kernel_rfl) (by as_aux_lemma => kernel_rfl) (by as_aux_lemma => kernel_rfl) (fun _ _ _ h => h) (ya5 zz43 _ 3 rfl zz43 zz43) hS ?_
   (try simp only [Act.put,List.getElem_toArray,List.getElem_cons_succ,List.getElem_cons_zero,List.setIfInBounds_toArray,List.set_cons_zero,List.set_cons_succ])
   refine wpAnyH_ready (rs:=[15]) (by as_aux_lemma => kernel_rfl) zz32 (AllReadyH.cons rfl (fun K hK => ?_) AllReadyH.nil)
   (try rw [if_pos zz43])
   clear hS
   go_simp
   obtain ⟨hb_,hs_,y0,y1,yf⟩:=float_new v5_25 (.int .i64 0) (.slice none 0 0) 47
   obtain ⟨a5_26,hwa⟩ : ∃ W,v5_25.alloc (.cells #[.int .i64 0, .slice none 0 0] 47) = W:=⟨_,rfl⟩
   rw [hwa] at hb_ hs_ y0 y1 yf ⊢
   clear hwa
   have hob : v5_25.heap.size < a5_26.heap.size:=zz62
   have hbl : w4.heap.size ≤ v5_25.heap.size:=HV.out.size
   replace HRES:=zd (Lay.later HRES.out hb_)
   replace HV:=zd (Below.step HV.out hb_); clear hb_
   refine hK.out _ _ ⟨HA_p0.out.below HV.out lt_p0,HA_p1.out.below HV.out lt_p1,HA_p4.out.below HV.out lt_p4⟩ (fun hS => ?_)
   clear hK K
   (try simp only [Act.put,List.getElem_toArray,List.getElem_cons_succ,List.getElem_cons_zero,List.setIfInBounds_toArray,List.set_cons_zero,List.set_cons_succ])
   refine wpAnyH_ready (rs:=[16]) (by as_aux_lemma => kernel_rfl) zz32 (AllReadyH.cons rfl (fun K hK => ?_) AllReadyH.nil)
   (try rw [if_pos zz43])
   clear hS
   go_simp
   refine hK.out _ _ ⟨HA_p0.out.below (Below.setCell (Below.setCell HV.out hbl _) hbl _) lt_p0,HA_p1.out.below (Below.setCell (Below.setCell HV.out hbl _) hbl _) lt_p1,HA_p4.out.below (Below.setCell (Below.setCell HV.out hbl _) hbl _) lt_p4⟩ (fun hS => ?_)
   clear hK K
   (try (try simp only [Act.put,List.getElem_toArray,List.getElem_cons_succ,List.getElem_cons_zero,List.setIfInBounds_toArray,List.set_cons_zero,List.set_cons_succ]))
   refine wpAnyH_take (i:=17) (v:=.string rr1) rfl (by as_aux_lemma => kernel_rfl) (by as_aux_lemma => kernel_rfl) (by as_aux_lemma => kernel_rfl) (fun _ _ _ h => h) (ya8 zz43 _ rfl zz43) hS ?_
   (try simp only [Act.put,List.getElem_toArray,List.getElem_cons_succ,List.getElem_cons_zero,List.setIfInBounds_toArray,List.set_cons_zero,List.set_cons_succ])
   refine wpAnyH_take (i:=18) (v:=.bool rr2) rfl (by as_aux_lemma => kernel_rfl) (by as_aux_lemma => kernel_rfl) (by as_aux_lemma => kernel_rfl) (fun _ _ _ h => h) (ya8 zz43 _ rfl zz43) hS ?_
   (try simp only [Act.put,List.getElem_toArray,List.getElem_cons_succ,List.getElem_cons_zero,List.setIfInBounds_toArray,List.set_cons_zero,List.set_cons_succ])
   refine wpAnyH_take (i:=19) (v:=.int .i64 rr3) rfl (by as_aux_lemma => kernel_rfl) (by as_aux_lemma => kernel_rfl) (by as_aux_lemma => kernel_rfl) (fun _ _ _ h => h) (ya8 zz43 _ rfl zz43) hS ?_
   (try simp only [Act.put,List.getElem_toArray,List.getElem_cons_succ,List.getElem_cons_zero,List.setIfInBounds_toArray,List.set_cons_zero,List.set_cons_succ])
   refine wpAnyH_done (by as_aux_lemma => kernel_rfl) ?_ _
   clear hS
   (try go_wp2_with (fail))
   go_meet
   exact ⟨v5_25.heap.size,v5_22.heap.size,v5_25.heap.size,_,rfl,rfl,rfl,rfl,zd (FloatCut.put HV.out hbl hob hv1 (by have:=HV.out.size; omega) zz8 HRES.out y0 y1)⟩
 obtain ⟨ob_w0,lo_w0,hi_w0,c_w0,rfl,rfl,rfl,rfl,HFC_⟩:=hcut
 rename World => w5
 have hl5:=HFC_.out.bl
 have hB5 : Below w.heap.size w w5:=Below.step hB4 hl5
 have hz5 : w4.heap.size + 0 ≤ w5.heap.size:=hl5.size
 replace HR_p0:=zd (Lay.later HR_p0.out hl5)
 replace HR_p1:=zd (Lay.later HR_p1.out hl5)
 replace HR_p2:=zd (Row.later HR_p2.out hl5)
 replace HR_p4:=zd (Lay.later HR_p4.out hl5)
 replace HA_p0:=zd (HA_p0.out.below hl5 lt_p0); replace lt_p0:=Nat.lt_of_lt_of_le lt_p0 hl5.size
 replace HA_p1:=zd (HA_p1.out.below hl5 lt_p1); replace lt_p1:=Nat.lt_of_lt_of_le lt_p1 hl5.size
 replace HA_p4:=zd (HA_p4.out.below hl5 lt_p4); replace lt_p4:=Nat.lt_of_lt_of_le lt_p4 hl5.size
 have HR_w0:=zd HFC_.out.rdx
 have sb_w0 : sub (rng lo_w0 hi_w0) (rng lo_w0 hi_w0):=ya9 _
 have HA_w0 : Hid (At w5 ob_w0 0 c_w0):=zd HFC_.out.at_
 have lt_w0:=HFC_.out.b1; have bl_w0:=HFC_.out.b1; have b0_w0:=HFC_.out.b0; have l0_w0:=HFC_.out.l0; have h1_w0:=HFC_.out.h1; have sd_w0:=HFC_.out.sd; clear HFC_
 have ln_w0:=Lay.len HR_w0.out
 have on_w0:=Lay.one HR_w0.out
 have k_w0 : (Tryz.prog.info? 47).map (·.size) = some (Lay.n Client):=by kernel_rfl
 go_wp2_with (first | (refine ya0 rfl _ _ rfl rfl HA_p0.out Tryz.underlying24 k_p0 ln_p0 ?_) | (refine ya0 rfl _ _ rfl rfl HA_p1.out Tryz.underlying27 k_p1 ln_p1 ?_) | (refine ya0 rfl _ _ rfl rfl HA_p4.out Tryz.underlying40 k_p4 ln_p4 ?_) | (refine ya0 rfl _ _ rfl rfl HA_w0.out Tryz.underlying47 k_w0 ln_w0 ?_) | (refine yaa zz20 _ _ rfl rfl HA_w0.out Tryz.underlying47 k_w0 ln_w0 ?_))
 refine (to_Client p0 _ _ _ HR_p0.out sz_p0).mono ?_
 rintro e6 w6 ⟨c_x0,rfl,hr_,hb6⟩
 have hl6:=hb6
 have hB6 : Below w.heap.size w w6:=Below.step hB5 hl6
 have hz6 : w5.heap.size + 0 ≤ w6.heap.size:=by have:=hb6.size; (try simp at this); omega
 replace HR_p0:=zd (Lay.later HR_p0.out hl6)
 replace HR_p1:=zd (Lay.later HR_p1.out hl6)
 replace HR_p2:=zd (Row.later HR_p2.out hl6)
 replace HR_p4:=zd (Lay.later HR_p4.out hl6)
 replace HR_w0:=zd (Lay.later HR_w0.out hl6)
 replace HA_p0:=zd (HA_p0.out.below hl6 lt_p0); replace lt_p0:=Nat.lt_of_lt_of_le lt_p0 hl6.size
 replace HA_p1:=zd (HA_p1.out.below hl6 lt_p1); replace lt_p1:=Nat.lt_of_lt_of_le lt_p1 hl6.size
 replace HA_p4:=zd (HA_p4.out.below hl6 lt_p4); replace lt_p4:=Nat.lt_of_lt_of_le lt_p4 hl6.size
 replace HA_w0:=zd (HA_w0.out.below hl6 lt_w0); replace lt_w0:=Nat.lt_of_lt_of_le lt_w0 hl6.size
 have HR_x0:=zd (Lay.mono hr_ (S':=rng (w5.heap.size) (w6.heap.size)) (fun b h => zz26)); clear hr_
 have sb_x0 : sub (rng (w5.heap.size) (w6.heap.size)) (rng (w5.heap.size) (w6.heap.size)):=ya9 _
 have ln_x0:=Lay.len HR_x0.out
 have on_x0:=Lay.one HR_x0.out
 have k_x0 : (Tryz.prog.info? 47).map (·.size) = some (Lay.n Client):=by kernel_rfl
 go_wp2_with (first | (refine wpList_storeNew (cs:=c_x0.toArray) rfl _ _ _ rfl rfl rfl rfl (k_x0.trans (congrArg some ln_x0.symm)) (Eq.trans (b:=Lay.n Client) rfl ln_x0.symm) (by simpa using on_x0) ?_) | (refine ya0 rfl _ _ rfl rfl (At.new _ c_x0 _ (0,0)) Tryz.underlying47 k_x0 ln_x0 ?_) | (refine ya0 rfl _ _ rfl rfl (HA_p0.out.alloc lt_p0 _) Tryz.underlying24 k_p0 ln_p0 ?_) | (refine ya0 rfl _ _ rfl rfl (HA_p1.out.alloc lt_p1 _) Tryz.underlying27 k_p1 ln_p1 ?_) | (refine ya0 rfl _ _ rfl rfl (HA_p4.out.alloc lt_p4 _) Tryz.underlying40 k_p4 ln_p4 ?_) | (refine ya0 rfl _ _ rfl rfl (HA_w0.out.alloc lt_w0 _) Tryz.underlying47 k_w0 ln_w0 ?_) | (refine yaa zz20 _ _ rfl rfl (HA_w0.out.alloc lt_w0 _) Tryz.underlying47 k_w0 ln_w0 ?_))
 refine (to_Trust p1 _ _ _ (Lay.later HR_p1.out ((Below.refl _ _).alloc (Nat.le_refl _) _)) sz_p1).mono ?_
 rintro e7 w7 ⟨c_x1,rfl,hr_,hb7⟩
 have hl7 : Below w6.heap.size w6 w7:=(Below.via hb7)
 have hB7 : Below w.heap.size w w7:=Below.step hB6 hl7
 have hz7 : w6.heap.size + 1 ≤ w7.heap.size:=by have:=hb7.size; (try simp at this); omega
 replace HR_p0:=zd (Lay.later HR_p0.out hl7)
 replace HR_p1:=zd (Lay.later HR_p1.out hl7)
 replace HR_p2:=zd (Row.later HR_p2.out hl7)
 replace HR_p4:=zd (Lay.later HR_p4.out hl7)
 replace HR_w0:=zd (Lay.later HR_w0.out hl7)
 replace HR_x0:=zd (Lay.later HR_x0.out hl7)
 replace HA_p0:=zd (HA_p0.out.below hl7 lt_p0); replace lt_p0:=Nat.lt_of_lt_of_le lt_p0 hl7.size
 replace HA_p1:=zd (HA_p1.out.below hl7 lt_p1); replace lt_p1:=Nat.lt_of_lt_of_le lt_p1 hl7.size
 replace HA_p4:=zd (HA_p4.out.below hl7 lt_p4); replace lt_p4:=Nat.lt_of_lt_of_le lt_p4 hl7.size
 replace HA_w0:=zd (HA_w0.out.below hl7 lt_w0); replace lt_w0:=Nat.lt_of_lt_of_le lt_w0 hl7.size
 have HA_x0 : Hid (At w7 (w6.heap.size) 0 c_x0):=zd (by have:=(At.new w6 c_x0 _ (0,0)).below (b:=w6.heap.size) hb7 zz32; simpa using this)
 have lt_x0 : w6.heap.size < w7.heap.size:=zz8
 have HR_x1:=zd (Lay.mono hr_ (S':=rng (w6.heap.size + 1) (w7.heap.size)) (fun b h => zz26)); clear hr_
 have sb_x1 : sub (rng (w6.heap.size + 1) (w7.heap.size)) (rng (w6.heap.size + 1) (w7.heap.size)):=ya9 _
 have ln_x1:=Lay.len HR_x1.out
 have on_x1:=Lay.one HR_x1.out
 have k_x1 : (Tryz.prog.info? 51).map (·.size) = some (Lay.n Trust):=by kernel_rfl
 go_wp2_with (first | (refine wpList_storeNew (cs:=c_x1.toArray) rfl _ _ _ rfl rfl rfl rfl (k_x1.trans (congrArg some ln_x1.symm)) (Eq.trans (b:=Lay.n Trust) rfl ln_x1.symm) (by simpa using on_x1) ?_) | (refine ya0 rfl _ _ rfl rfl (At.new _ c_x1 _ (0,0)) Tryz.underlying51 k_x1 ln_x1 ?_) | (refine ya0 rfl _ _ rfl rfl (HA_p0.out.alloc lt_p0 _) Tryz.underlying24 k_p0 ln_p0 ?_) | (refine ya0 rfl _ _ rfl rfl (HA_p1.out.alloc lt_p1 _) Tryz.underlying27 k_p1 ln_p1 ?_) | (refine ya0 rfl _ _ rfl rfl (HA_p4.out.alloc lt_p4 _) Tryz.underlying40 k_p4 ln_p4 ?_) | (refine ya0 rfl _ _ rfl rfl (HA_w0.out.alloc lt_w0 _) Tryz.underlying47 k_w0 ln_w0 ?_) | (refine yaa zz20 _ _ rfl rfl (HA_w0.out.alloc lt_w0 _) Tryz.underlying47 k_w0 ln_w0 ?_) | (refine ya0 rfl _ _ rfl rfl (HA_x0.out.alloc lt_x0 _) Tryz.underlying47 k_x0 ln_x0 ?_))
 refine (to_SealS p2 _ Ap2 kp2 _ (Row.later HR_p2.out ((Below.refl _ _).alloc (Nat.le_refl _) _)) sz_p2).mono ?_
 rintro e8 w8 ⟨A_x2,c_x2,rfl,lx2,mx2,hr_,hb8⟩
 have hl8 : Below w7.heap.size w7 w8:=(Below.via hb8)
 have hB8 : Below w.heap.size w w8:=Below.step hB7 hl8
 have hz8 : w7.heap.size + 1 ≤ w8.heap.size:=by have:=hb8.size; (try simp at this); omega
 replace HR_p0:=zd (Lay.later HR_p0.out hl8)
 replace HR_p1:=zd (Lay.later HR_p1.out hl8)
 replace HR_p2:=zd (Row.later HR_p2.out hl8)
 replace HR_p4:=zd (Lay.later HR_p4.out hl8)
 replace HR_w0:=zd (Lay.later HR_w0.out hl8)
 replace HR_x0:=zd (Lay.later HR_x0.out hl8)
 replace HR_x1:=zd (Lay.later HR_x1.out hl8)
 replace HA_p0:=zd (HA_p0.out.below hl8 lt_p0); replace lt_p0:=Nat.lt_of_lt_of_le lt_p0 hl8.size
 replace HA_p1:=zd (HA_p1.out.below hl8 lt_p1); replace lt_p1:=Nat.lt_of_lt_of_le lt_p1 hl8.size
 replace HA_p4:=zd (HA_p4.out.below hl8 lt_p4); replace lt_p4:=Nat.lt_of_lt_of_le lt_p4 hl8.size
 replace HA_w0:=zd (HA_w0.out.below hl8 lt_w0); replace lt_w0:=Nat.lt_of_lt_of_le lt_w0 hl8.size
 replace HA_x0:=zd (HA_x0.out.below hl8 lt_x0); replace lt_x0:=Nat.lt_of_lt_of_le lt_x0 hl8.size
 have HA_x1 : Hid (At w8 (w7.heap.size) 0 c_x1):=zd (by have:=(At.new w7 c_x1 _ (0,0)).below (b:=w7.heap.size) hb8 zz32; simpa using this)
 have lt_x1 : w7.heap.size < w8.heap.size:=zz8
 have HR_x2:=zd (Row.mono hr_ (S':=rng (w7.heap.size + 1) (w8.heap.size)) (fun b h => zz26)); clear hr_
 have sb_x2 : sub (rng (w7.heap.size + 1) (w8.heap.size)) (rng (w7.heap.size + 1) (w8.heap.size)):=ya9 _
 go_wp2_with (first | (refine ya0 rfl _ _ rfl rfl HA_p0.out Tryz.underlying24 k_p0 ln_p0 ?_) | (refine ya0 rfl _ _ rfl rfl HA_p1.out Tryz.underlying27 k_p1 ln_p1 ?_) | (refine ya0 rfl _ _ rfl rfl HA_p4.out Tryz.underlying40 k_p4 ln_p4 ?_) | (refine ya0 rfl _ _ rfl rfl HA_w0.out Tryz.underlying47 k_w0 ln_w0 ?_) | (refine yaa zz20 _ _ rfl rfl HA_w0.out Tryz.underlying47 k_w0 ln_w0 ?_) | (refine ya0 rfl _ _ rfl rfl HA_x0.out Tryz.underlying47 k_x0 ln_x0 ?_) | (refine ya0 rfl _ _ rfl rfl HA_x1.out Tryz.underlying51 k_x1 ln_x1 ?_))
 refine (to_Whole p4 _ _ _ HR_p4.out sz_p4).mono ?_
 rintro e9 w9 ⟨c_x4,rfl,hr_,hb9⟩
 have hl9:=hb9
 have hB9 : Below w.heap.size w w9:=Below.step hB8 hl9
 have hz9 : w8.heap.size + 0 ≤ w9.heap.size:=by have:=hb9.size; (try simp at this); omega
 replace HR_p0:=zd (Lay.later HR_p0.out hl9)
 replace HR_p1:=zd (Lay.later HR_p1.out hl9)
 replace HR_p2:=zd (Row.later HR_p2.out hl9)
 replace HR_p4:=zd (Lay.later HR_p4.out hl9)
 replace HR_w0:=zd (Lay.later HR_w0.out hl9)
 replace HR_x0:=zd (Lay.later HR_x0.out hl9)
 replace HR_x1:=zd (Lay.later HR_x1.out hl9)
 replace HR_x2:=zd (Row.later HR_x2.out hl9)
 replace HA_p0:=zd (HA_p0.out.below hl9 lt_p0); replace lt_p0:=Nat.lt_of_lt_of_le lt_p0 hl9.size
 replace HA_p1:=zd (HA_p1.out.below hl9 lt_p1); replace lt_p1:=Nat.lt_of_lt_of_le lt_p1 hl9.size
 replace HA_p4:=zd (HA_p4.out.below hl9 lt_p4); replace lt_p4:=Nat.lt_of_lt_of_le lt_p4 hl9.size
 replace HA_w0:=zd (HA_w0.out.below hl9 lt_w0); replace lt_w0:=Nat.lt_of_lt_of_le lt_w0 hl9.size
 replace HA_x0:=zd (HA_x0.out.below hl9 lt_x0); replace lt_x0:=Nat.lt_of_lt_of_le lt_x0 hl9.size
 replace HA_x1:=zd (HA_x1.out.below hl9 lt_x1); replace lt_x1:=Nat.lt_of_lt_of_le lt_x1 hl9.size
 have HR_x4:=zd (Lay.mono hr_ (S':=rng (w8.heap.size) (w9.heap.size)) (fun b h => zz26)); clear hr_
 have sb_x4 : sub (rng (w8.heap.size) (w9.heap.size)) (rng (w8.heap.size) (w9.heap.size)):=ya9 _
 have ln_x4:=Lay.len HR_x4.out
 have on_x4:=Lay.one HR_x4.out
 have k_x4 : (Tryz.prog.info? 64).map (·.size) = some (Lay.n Whole):=by kernel_rfl
 go_wp2_with (first | (refine wpList_storeNew (cs:=c_x4.toArray) rfl _ _ _ rfl rfl rfl rfl (k_x4.trans (congrArg some ln_x4.symm)) (Eq.trans (b:=Lay.n Whole) rfl ln_x4.symm) (by simpa using on_x4) ?_) | (refine ya0 rfl _ _ rfl rfl (At.new _ c_x4 _ (0,0)) Tryz.underlying64 k_x4 ln_x4 ?_) | (refine ya0 rfl _ _ rfl rfl (HA_p0.out.alloc lt_p0 _) Tryz.underlying24 k_p0 ln_p0 ?_) | (refine ya0 rfl _ _ rfl rfl (HA_p1.out.alloc lt_p1 _) Tryz.underlying27 k_p1 ln_p1 ?_) | (refine ya0 rfl _ _ rfl rfl (HA_p4.out.alloc lt_p4 _) Tryz.underlying40 k_p4 ln_p4 ?_) | (refine ya0 rfl _ _ rfl rfl (HA_w0.out.alloc lt_w0 _) Tryz.underlying47 k_w0 ln_w0 ?_) | (refine yaa zz20 _ _ rfl rfl (HA_w0.out.alloc lt_w0 _) Tryz.underlying47 k_w0 ln_w0 ?_) | (refine ya0 rfl _ _ rfl rfl (HA_x0.out.alloc lt_x0 _) Tryz.underlying47 k_x0 ln_x0 ?_) | (refine ya0 rfl _ _ rfl rfl (HA_x1.out.alloc lt_x1 _) Tryz.underlying51 k_x1 ln_x1 ?_))
 refine (impl_ClientHear _ p0 c_x0 _ (Lay.weak (Lay.later HR_x0.out ((Below.refl _ _).alloc (Nat.le_refl _) _))) sz_p0 p1 c_x1 _ (Lay.weak (Lay.later HR_x1.out ((Below.refl _ _).alloc (Nat.le_refl _) _))) sz_p1 p2 A_x2 c_x2 _ (Row.weak (Row.later HR_x2.out ((Below.refl _ _).alloc (Nat.le_refl _) _))) lx2 mx2 sz_p2 p3 zp3 p4 c_x4 _ (Lay.weak (Lay.later HR_x4.out ((Below.refl _ _).alloc (Nat.le_refl _) _))) sz_p4 (Tabs.later (Tabs.later HTb.out hB9) ((Below.refl _ _).alloc (Nat.le_refl _) _))).mono ?_
 rw [HKR.out]
 simp only [ChRes]
 rintro e10 w10 ⟨c_g0,rfl,hr_g0,hb10⟩
 have hl10 : Below w9.heap.size w9 w10:=(Below.via hb10)
 have hB10 : Below w.heap.size w w10:=Below.step hB9 hl10
 have hz10 : w9.heap.size + 1 ≤ w10.heap.size:=by have:=hb10.size; (try simp at this); omega
 replace HR_p0:=zd (Lay.later HR_p0.out hl10)
 replace HR_p1:=zd (Lay.later HR_p1.out hl10)
 replace HR_p2:=zd (Row.later HR_p2.out hl10)
 replace HR_p4:=zd (Lay.later HR_p4.out hl10)
 replace HR_w0:=zd (Lay.later HR_w0.out hl10)
 replace HR_x0:=zd (Lay.later HR_x0.out hl10)
 replace HR_x1:=zd (Lay.later HR_x1.out hl10)
 replace HR_x2:=zd (Row.later HR_x2.out hl10)
 replace HR_x4:=zd (Lay.later HR_x4.out hl10)
 replace HA_p0:=zd (HA_p0.out.below hl10 lt_p0); replace lt_p0:=Nat.lt_of_lt_of_le lt_p0 hl10.size
 replace HA_p1:=zd (HA_p1.out.below hl10 lt_p1); replace lt_p1:=Nat.lt_of_lt_of_le lt_p1 hl10.size
 replace HA_p4:=zd (HA_p4.out.below hl10 lt_p4); replace lt_p4:=Nat.lt_of_lt_of_le lt_p4 hl10.size
 replace HA_w0:=zd (HA_w0.out.below hl10 lt_w0); replace lt_w0:=Nat.lt_of_lt_of_le lt_w0 hl10.size
 replace HA_x0:=zd (HA_x0.out.below hl10 lt_x0); replace lt_x0:=Nat.lt_of_lt_of_le lt_x0 hl10.size
 replace HA_x1:=zd (HA_x1.out.below hl10 lt_x1); replace lt_x1:=Nat.lt_of_lt_of_le lt_x1 hl10.size
 have HA_x4 : Hid (At w10 (w9.heap.size) 0 c_x4):=zd (by have:=(At.new w9 c_x4 _ (0,0)).below (b:=w9.heap.size) hb10 zz32; simpa using this)
 have lt_x4 : w9.heap.size < w10.heap.size:=zz8
 have hr_:=hr_g0; clear hr_g0
 have HR_g0:=zd (Lay.mono hr_ (S':=rng (w9.heap.size + 1) (w10.heap.size)) (fun b h => zz26)); clear hr_
 have sb_g0 : sub (rng (w9.heap.size + 1) (w10.heap.size)) (rng (w9.heap.size + 1) (w10.heap.size)):=ya9 _
 have ln_g0:=Lay.len HR_g0.out
 have on_g0:=Lay.one HR_g0.out
 have k_g0 : (Tryz.prog.info? 47).map (·.size) = some (Lay.n Client):=by kernel_rfl
 go_wp2_with (first | (refine wpList_storeNew (cs:=c_g0.toArray) rfl _ _ _ rfl rfl rfl rfl (k_g0.trans (congrArg some ln_g0.symm)) (Eq.trans (b:=Lay.n Client) rfl ln_g0.symm) (by simpa using on_g0) ?_) | (refine ya0 rfl _ _ rfl rfl (At.new _ c_g0 _ (0,0)) Tryz.underlying47 k_g0 ln_g0 ?_) | (refine yaa zz20 _ _ rfl rfl (At.new _ c_g0 _ (0,0)) Tryz.underlying47 k_g0 ln_g0 ?_) | (refine ya0 rfl _ _ rfl rfl (HA_p0.out.alloc lt_p0 _) Tryz.underlying24 k_p0 ln_p0 ?_) | (refine ya0 rfl _ _ rfl rfl (HA_p1.out.alloc lt_p1 _) Tryz.underlying27 k_p1 ln_p1 ?_) | (refine ya0 rfl _ _ rfl rfl (HA_p4.out.alloc lt_p4 _) Tryz.underlying40 k_p4 ln_p4 ?_) | (refine ya0 rfl _ _ rfl rfl (HA_w0.out.alloc lt_w0 _) Tryz.underlying47 k_w0 ln_w0 ?_) | (refine yaa zz20 _ _ rfl rfl (HA_w0.out.alloc lt_w0 _) Tryz.underlying47 k_w0 ln_w0 ?_) | (refine ya0 rfl _ _ rfl rfl (HA_x0.out.alloc lt_x0 _) Tryz.underlying47 k_x0 ln_x0 ?_) | (refine ya0 rfl _ _ rfl rfl (HA_x1.out.alloc lt_x1 _) Tryz.underlying51 k_x1 ln_x1 ?_) | (refine ya0 rfl _ _ rfl rfl (HA_x4.out.alloc lt_x4 _) Tryz.underlying64 k_x4 ln_x4 ?_))
 refine (eq_Client rr0 _ _ _ _ _ (Lay.weak (Lay.later HR_g0.out ((Below.refl _ _).alloc (Nat.le_refl _) _))) (Lay.weak (Lay.later HR_w0.out ((Below.refl _ _).alloc (Nat.le_refl _) _)))).mono ?_
 rintro e11 w11 ⟨rfl,hb11⟩
 have hl11 : Below w10.heap.size w10 w11:=(Below.via hb11)
 have hB11 : Below w.heap.size w w11:=Below.step hB10 hl11
 have hz11 : w10.heap.size + 1 ≤ w11.heap.size:=by have:=hb11.size; (try simp at this); omega
 replace HR_p0:=zd (Lay.later HR_p0.out hl11)
 replace HR_p1:=zd (Lay.later HR_p1.out hl11)
 replace HR_p2:=zd (Row.later HR_p2.out hl11)
 replace HR_p4:=zd (Lay.later HR_p4.out hl11)
 replace HR_w0:=zd (Lay.later HR_w0.out hl11)
 replace HR_x0:=zd (Lay.later HR_x0.out hl11)
 replace HR_x1:=zd (Lay.later HR_x1.out hl11)
 replace HR_x2:=zd (Row.later HR_x2.out hl11)
 replace HR_x4:=zd (Lay.later HR_x4.out hl11)
 replace HR_g0:=zd (Lay.later HR_g0.out hl11)
 replace HA_p0:=zd (HA_p0.out.below hl11 lt_p0); replace lt_p0:=Nat.lt_of_lt_of_le lt_p0 hl11.size
 replace HA_p1:=zd (HA_p1.out.below hl11 lt_p1); replace lt_p1:=Nat.lt_of_lt_of_le lt_p1 hl11.size
 replace HA_p4:=zd (HA_p4.out.below hl11 lt_p4); replace lt_p4:=Nat.lt_of_lt_of_le lt_p4 hl11.size
 replace HA_w0:=zd (HA_w0.out.below hl11 lt_w0); replace lt_w0:=Nat.lt_of_lt_of_le lt_w0 hl11.size
 replace HA_x0:=zd (HA_x0.out.below hl11 lt_x0); replace lt_x0:=Nat.lt_of_lt_of_le lt_x0 hl11.size
 replace HA_x1:=zd (HA_x1.out.below hl11 lt_x1); replace lt_x1:=Nat.lt_of_lt_of_le lt_x1 hl11.size
 replace HA_x4:=zd (HA_x4.out.below hl11 lt_x4); replace lt_x4:=Nat.lt_of_lt_of_le lt_x4 hl11.size
 have HA_g0 : Hid (At w11 (w10.heap.size) 0 c_g0):=zd (by have:=(At.new w10 c_g0 _ (0,0)).below (b:=w10.heap.size) hb11 zz32; simpa using this)
 have lt_g0 : w10.heap.size < w11.heap.size:=zz8
 go_wp2_with (first | (refine ya0 rfl _ _ rfl rfl HA_p0.out Tryz.underlying24 k_p0 ln_p0 ?_) | (refine ya0 rfl _ _ rfl rfl HA_p1.out Tryz.underlying27 k_p1 ln_p1 ?_) | (refine ya0 rfl _ _ rfl rfl HA_p4.out Tryz.underlying40 k_p4 ln_p4 ?_) | (refine ya0 rfl _ _ rfl rfl HA_w0.out Tryz.underlying47 k_w0 ln_w0 ?_) | (refine yaa zz20 _ _ rfl rfl HA_w0.out Tryz.underlying47 k_w0 ln_w0 ?_) | (refine ya0 rfl _ _ rfl rfl HA_x0.out Tryz.underlying47 k_x0 ln_x0 ?_) | (refine ya0 rfl _ _ rfl rfl HA_x1.out Tryz.underlying51 k_x1 ln_x1 ?_) | (refine ya0 rfl _ _ rfl rfl HA_x4.out Tryz.underlying64 k_x4 ln_x4 ?_) | (refine ya0 rfl _ _ rfl rfl HA_g0.out Tryz.underlying47 k_g0 ln_g0 ?_) | (refine yaa zz20 _ _ rfl rfl HA_g0.out Tryz.underlying47 k_g0 ln_g0 ?_))
 refine wp_region_held_drew (S:=fun W' => At W' (w6.heap.size) 0 c_x0 ∧ At W' (w.heap.size) 0 cp0) (by kernel_rfl) ⟨HA_x0.out,HA_p0.out⟩ (fun hS => ?_)
 refine wpAnyH_take (i:=0) (v:=.agg c_x0.toArray) rfl (by kernel_rfl) (by kernel_rfl) (by kernel_rfl) (fun _ _ _ h => h) (yieldsIf_loadT zz43 _ _ rfl rfl (fun _ h => h.1) Tryz.underlying47 k_x0 ln_x0) hS ?_
 (try simp only [Act.put,List.getElem_toArray,List.getElem_cons_succ,List.getElem_cons_zero,List.setIfInBounds_toArray,List.set_cons_zero,List.set_cons_succ])
 refine wpAnyH_take (i:=1) (v:=.agg cp0.toArray) rfl (by kernel_rfl) (by kernel_rfl) (by kernel_rfl) (fun _ _ _ h => h) (yieldsIf_loadT zz43 _ _ rfl rfl (fun _ h => h.2) Tryz.underlying24 k_p0 ln_p0) hS ?_
 (try simp only [Act.put,List.getElem_toArray,List.getElem_cons_succ,List.getElem_cons_zero,List.setIfInBounds_toArray,List.set_cons_zero,List.set_cons_succ])
 refine wpAnyH_ready (rs:=[2]) (by kernel_rfl) zz32 (AllReadyH.cons rfl (fun K hK => ?_) AllReadyH.nil)
 (try rw [if_pos zz43])
 clear hS
 go_simp
 refine (to_Client p0 _ _ _ (Lay.later HR_p0.out ((Below.refl _ _).drew)) sz_p0).mono ?_
 rintro e12 w12 ⟨c_t12,rfl,hr_,hb12⟩
 have hb12:=Below.viad hb12
 have hl12:=hb12
 have hB12 : Below w.heap.size w w12:=Below.step hB11 hl12
 have hz12 : w11.heap.size + 0 ≤ w12.heap.size:=by have:=hb12.size; (try simp at this); omega
 replace HR_p0:=zd (Lay.later HR_p0.out hl12)
 replace HR_p1:=zd (Lay.later HR_p1.out hl12)
 replace HR_p2:=zd (Row.later HR_p2.out hl12)
 replace HR_p4:=zd (Lay.later HR_p4.out hl12)
 replace HR_w0:=zd (Lay.later HR_w0.out hl12)
 replace HR_x0:=zd (Lay.later HR_x0.out hl12)
 replace HR_x1:=zd (Lay.later HR_x1.out hl12)
 replace HR_x2:=zd (Row.later HR_x2.out hl12)
 replace HR_x4:=zd (Lay.later HR_x4.out hl12)
 replace HR_g0:=zd (Lay.later HR_g0.out hl12)
 replace HA_p0:=zd (HA_p0.out.below hl12 lt_p0); replace lt_p0:=Nat.lt_of_lt_of_le lt_p0 hl12.size
 replace HA_p1:=zd (HA_p1.out.below hl12 lt_p1); replace lt_p1:=Nat.lt_of_lt_of_le lt_p1 hl12.size
 replace HA_p4:=zd (HA_p4.out.below hl12 lt_p4); replace lt_p4:=Nat.lt_of_lt_of_le lt_p4 hl12.size
 replace HA_w0:=zd (HA_w0.out.below hl12 lt_w0); replace lt_w0:=Nat.lt_of_lt_of_le lt_w0 hl12.size
 replace HA_x0:=zd (HA_x0.out.below hl12 lt_x0); replace lt_x0:=Nat.lt_of_lt_of_le lt_x0 hl12.size
 replace HA_x1:=zd (HA_x1.out.below hl12 lt_x1); replace lt_x1:=Nat.lt_of_lt_of_le lt_x1 hl12.size
 replace HA_x4:=zd (HA_x4.out.below hl12 lt_x4); replace lt_x4:=Nat.lt_of_lt_of_le lt_x4 hl12.size
 replace HA_g0:=zd (HA_g0.out.below hl12 lt_g0); replace lt_g0:=Nat.lt_of_lt_of_le lt_g0 hl12.size
 have HR_t12:=zd (Lay.mono hr_ (S':=rng (w11.heap.size) (w12.heap.size)) (fun b h => zz26)); clear hr_
 have sb_t12 : sub (rng (w11.heap.size) (w12.heap.size)) (rng (w11.heap.size) (w12.heap.size)):=ya9 _
 refine hK.out _ _ ⟨HA_x0.out,HA_p0.out⟩ (fun hS => ?_)
 clear hK K
 (try simp only [Act.put,List.getElem_toArray,List.getElem_cons_succ,List.getElem_cons_zero,List.setIfInBounds_toArray,List.set_cons_zero,List.set_cons_succ])
 refine wpAnyH_ready (rs:=[3]) (by kernel_rfl) zz32 (AllReadyH.cons rfl (fun K hK => ?_) AllReadyH.nil)
 (try rw [if_pos zz43])
 clear hS
 go_simp
 refine (eq_Client p0 _ _ _ _ _ (Lay.weak HR_x0.out) (Lay.weak HR_t12.out)).mono ?_
 rintro e13 w13 ⟨rfl,hb13⟩
 have hl13:=hb13
 have hB13 : Below w.heap.size w w13:=Below.step hB12 hl13
 have hz13 : w12.heap.size + 0 ≤ w13.heap.size:=by have:=hb13.size; (try simp at this); omega
 replace HR_p0:=zd (Lay.later HR_p0.out hl13)
 replace HR_p1:=zd (Lay.later HR_p1.out hl13)
 replace HR_p2:=zd (Row.later HR_p2.out hl13)
 replace HR_p4:=zd (Lay.later HR_p4.out hl13)
 replace HR_w0:=zd (Lay.later HR_w0.out hl13)
 replace HR_x0:=zd (Lay.later HR_x0.out hl13)
 replace HR_x1:=zd (Lay.later HR_x1.out hl13)
 replace HR_x2:=zd (Row.later HR_x2.out hl13)
 replace HR_x4:=zd (Lay.later HR_x4.out hl13)
 replace HR_g0:=zd (Lay.later HR_g0.out hl13)
 replace HR_t12:=zd (Lay.later HR_t12.out hl13)
 replace HA_p0:=zd (HA_p0.out.below hl13 lt_p0); replace lt_p0:=Nat.lt_of_lt_of_le lt_p0 hl13.size
 replace HA_p1:=zd (HA_p1.out.below hl13 lt_p1); replace lt_p1:=Nat.lt_of_lt_of_le lt_p1 hl13.size
 replace HA_p4:=zd (HA_p4.out.below hl13 lt_p4); replace lt_p4:=Nat.lt_of_lt_of_le lt_p4 hl13.size
 replace HA_w0:=zd (HA_w0.out.below hl13 lt_w0); replace lt_w0:=Nat.lt_of_lt_of_le lt_w0 hl13.size
 replace HA_x0:=zd (HA_x0.out.below hl13 lt_x0); replace lt_x0:=Nat.lt_of_lt_of_le lt_x0 hl13.size
 replace HA_x1:=zd (HA_x1.out.below hl13 lt_x1); replace lt_x1:=Nat.lt_of_lt_of_le lt_x1 hl13.size
 replace HA_x4:=zd (HA_x4.out.below hl13 lt_x4); replace lt_x4:=Nat.lt_of_lt_of_le lt_x4 hl13.size
 replace HA_g0:=zd (HA_g0.out.below hl13 lt_g0); replace lt_g0:=Nat.lt_of_lt_of_le lt_g0 hl13.size
 refine hK.out _ _ ⟨HA_x0.out,HA_p0.out⟩ (fun hS => ?_)
 clear hK K
 (try simp only [Act.put,List.getElem_toArray,List.getElem_cons_succ,List.getElem_cons_zero,List.setIfInBounds_toArray,List.set_cons_zero,List.set_cons_succ])
 refine wpAnyH_ready (rs:=[4]) (by kernel_rfl) zz32 (AllReadyH.cons rfl (fun K hK => ?_) AllReadyH.nil)
 go_simp
 refine hK.out _ _ hS (fun hS => ?_)
 clear hK K
 (try (try simp only [Act.put,List.getElem_toArray,List.getElem_cons_succ,List.getElem_cons_zero,List.setIfInBounds_toArray,List.set_cons_zero,List.set_cons_succ]))
 refine wpAnyH_done (by kernel_rfl) ?_ _
 clear hS
 clear HR_t12
 go_wp2_with (first | (refine ya0 rfl _ _ rfl rfl HA_p0.out Tryz.underlying24 k_p0 ln_p0 ?_) | (refine ya0 rfl _ _ rfl rfl HA_p1.out Tryz.underlying27 k_p1 ln_p1 ?_) | (refine ya0 rfl _ _ rfl rfl HA_p4.out Tryz.underlying40 k_p4 ln_p4 ?_) | (refine ya0 rfl _ _ rfl rfl HA_w0.out Tryz.underlying47 k_w0 ln_w0 ?_) | (refine yaa zz20 _ _ rfl rfl HA_w0.out Tryz.underlying47 k_w0 ln_w0 ?_) | (refine ya0 rfl _ _ rfl rfl HA_x0.out Tryz.underlying47 k_x0 ln_x0 ?_) | (refine ya0 rfl _ _ rfl rfl HA_x1.out Tryz.underlying51 k_x1 ln_x1 ?_) | (refine ya0 rfl _ _ rfl rfl HA_x4.out Tryz.underlying64 k_x4 ln_x4 ?_) | (refine ya0 rfl _ _ rfl rfl HA_g0.out Tryz.underlying47 k_g0 ln_g0 ?_) | (refine yaa zz20 _ _ rfl rfl HA_g0.out Tryz.underlying47 k_g0 ln_g0 ?_))
 refine wp_region_held_drew (S:=fun W' => At W' (w7.heap.size) 0 c_x1 ∧ At W' (w.heap.size + 1) 0 cp1) (by kernel_rfl) ⟨HA_x1.out,HA_p1.out⟩ (fun hS => ?_)
 refine wpAnyH_take (i:=0) (v:=.agg c_x1.toArray) rfl (by kernel_rfl) (by kernel_rfl) (by kernel_rfl) (fun _ _ _ h => h) (yieldsIf_loadT zz43 _ _ rfl rfl (fun _ h => h.1) Tryz.underlying51 k_x1 ln_x1) hS ?_
 (try simp only [Act.put,List.getElem_toArray,List.getElem_cons_succ,List.getElem_cons_zero,List.setIfInBounds_toArray,List.set_cons_zero,List.set_cons_succ])
 refine wpAnyH_take (i:=1) (v:=.agg cp1.toArray) rfl (by kernel_rfl) (by kernel_rfl) (by kernel_rfl) (fun _ _ _ h => h) (yieldsIf_loadT zz43 _ _ rfl rfl (fun _ h => h.2) Tryz.underlying27 k_p1 ln_p1) hS ?_
 (try simp only [Act.put,List.getElem_toArray,List.getElem_cons_succ,List.getElem_cons_zero,List.setIfInBounds_toArray,List.set_cons_zero,List.set_cons_succ])
 refine wpAnyH_ready (rs:=[2]) (by kernel_rfl) zz32 (AllReadyH.cons rfl (fun K hK => ?_) AllReadyH.nil)
 (try rw [if_pos zz43])
 clear hS
 go_simp
 refine (to_Trust p1 _ _ _ (Lay.later HR_p1.out ((Below.refl _ _).drew)) sz_p1).mono ?_
 rintro e14 w14 ⟨c_t14,rfl,hr_,hb14⟩
 have hb14:=Below.viad hb14
 have hl14:=hb14
 have hB14 : Below w.heap.size w w14:=Below.step hB13 hl14
 have hz14 : w13.heap.size + 0 ≤ w14.heap.size:=by have:=hb14.size; (try simp at this); omega
 replace HR_p0:=zd (Lay.later HR_p0.out hl14)
 replace HR_p1:=zd (Lay.later HR_p1.out hl14)
 replace HR_p2:=zd (Row.later HR_p2.out hl14)
 replace HR_p4:=zd (Lay.later HR_p4.out hl14)
 replace HR_w0:=zd (Lay.later HR_w0.out hl14)
 replace HR_x0:=zd (Lay.later HR_x0.out hl14)
 replace HR_x1:=zd (Lay.later HR_x1.out hl14)
 replace HR_x2:=zd (Row.later HR_x2.out hl14)
 replace HR_x4:=zd (Lay.later HR_x4.out hl14)
 replace HR_g0:=zd (Lay.later HR_g0.out hl14)
 replace HA_p0:=zd (HA_p0.out.below hl14 lt_p0); replace lt_p0:=Nat.lt_of_lt_of_le lt_p0 hl14.size
 replace HA_p1:=zd (HA_p1.out.below hl14 lt_p1); replace lt_p1:=Nat.lt_of_lt_of_le lt_p1 hl14.size
 replace HA_p4:=zd (HA_p4.out.below hl14 lt_p4); replace lt_p4:=Nat.lt_of_lt_of_le lt_p4 hl14.size
 replace HA_w0:=zd (HA_w0.out.below hl14 lt_w0); replace lt_w0:=Nat.lt_of_lt_of_le lt_w0 hl14.size
 replace HA_x0:=zd (HA_x0.out.below hl14 lt_x0); replace lt_x0:=Nat.lt_of_lt_of_le lt_x0 hl14.size
 replace HA_x1:=zd (HA_x1.out.below hl14 lt_x1); replace lt_x1:=Nat.lt_of_lt_of_le lt_x1 hl14.size
 replace HA_x4:=zd (HA_x4.out.below hl14 lt_x4); replace lt_x4:=Nat.lt_of_lt_of_le lt_x4 hl14.size
 replace HA_g0:=zd (HA_g0.out.below hl14 lt_g0); replace lt_g0:=Nat.lt_of_lt_of_le lt_g0 hl14.size
 have HR_t14:=zd (Lay.mono hr_ (S':=rng (w13.heap.size) (w14.heap.size)) (fun b h => zz26)); clear hr_
 have sb_t14 : sub (rng (w13.heap.size) (w14.heap.size)) (rng (w13.heap.size) (w14.heap.size)):=ya9 _
 refine hK.out _ _ ⟨HA_x1.out,HA_p1.out⟩ (fun hS => ?_)
 clear hK K
 (try simp only [Act.put,List.getElem_toArray,List.getElem_cons_succ,List.getElem_cons_zero,List.setIfInBounds_toArray,List.set_cons_zero,List.set_cons_succ])
 refine wpAnyH_ready (rs:=[3]) (by kernel_rfl) zz32 (AllReadyH.cons rfl (fun K hK => ?_) AllReadyH.nil)
 (try rw [if_pos zz43])
 clear hS
 go_simp
 refine (eq_Trust p1 _ _ _ _ _ (Lay.weak HR_x1.out) (Lay.weak HR_t14.out)).mono ?_
 rintro e15 w15 ⟨rfl,hb15⟩
 have hl15:=hb15
 have hB15 : Below w.heap.size w w15:=Below.step hB14 hl15
 have hz15 : w14.heap.size + 0 ≤ w15.heap.size:=by have:=hb15.size; (try simp at this); omega
 replace HR_p0:=zd (Lay.later HR_p0.out hl15)
 replace HR_p1:=zd (Lay.later HR_p1.out hl15)
 replace HR_p2:=zd (Row.later HR_p2.out hl15)
 replace HR_p4:=zd (Lay.later HR_p4.out hl15)
 replace HR_w0:=zd (Lay.later HR_w0.out hl15)
 replace HR_x0:=zd (Lay.later HR_x0.out hl15)
 replace HR_x1:=zd (Lay.later HR_x1.out hl15)
 replace HR_x2:=zd (Row.later HR_x2.out hl15)
 replace HR_x4:=zd (Lay.later HR_x4.out hl15)
 replace HR_g0:=zd (Lay.later HR_g0.out hl15)
 replace HR_t14:=zd (Lay.later HR_t14.out hl15)
 replace HA_p0:=zd (HA_p0.out.below hl15 lt_p0); replace lt_p0:=Nat.lt_of_lt_of_le lt_p0 hl15.size
 replace HA_p1:=zd (HA_p1.out.below hl15 lt_p1); replace lt_p1:=Nat.lt_of_lt_of_le lt_p1 hl15.size
 replace HA_p4:=zd (HA_p4.out.below hl15 lt_p4); replace lt_p4:=Nat.lt_of_lt_of_le lt_p4 hl15.size
 replace HA_w0:=zd (HA_w0.out.below hl15 lt_w0); replace lt_w0:=Nat.lt_of_lt_of_le lt_w0 hl15.size
 replace HA_x0:=zd (HA_x0.out.below hl15 lt_x0); replace lt_x0:=Nat.lt_of_lt_of_le lt_x0 hl15.size
 replace HA_x1:=zd (HA_x1.out.below hl15 lt_x1); replace lt_x1:=Nat.lt_of_lt_of_le lt_x1 hl15.size
 replace HA_x4:=zd (HA_x4.out.below hl15 lt_x4); replace lt_x4:=Nat.lt_of_lt_of_le lt_x4 hl15.size
 replace HA_g0:=zd (HA_g0.out.below hl15 lt_g0); replace lt_g0:=Nat.lt_of_lt_of_le lt_g0 hl15.size
 refine hK.out _ _ ⟨HA_x1.out,HA_p1.out⟩ (fun hS => ?_)
 clear hK K
 (try simp only [Act.put,List.getElem_toArray,List.getElem_cons_succ,List.getElem_cons_zero,List.setIfInBounds_toArray,List.set_cons_zero,List.set_cons_succ])
 refine wpAnyH_ready (rs:=[4]) (by kernel_rfl) zz32 (AllReadyH.cons rfl (fun K hK => ?_) AllReadyH.nil)
 go_simp
 refine hK.out _ _ hS (fun hS => ?_)
 clear hK K
 (try (try simp only [Act.put,List.getElem_toArray,List.getElem_cons_succ,List.getElem_cons_zero,List.setIfInBounds_toArray,List.set_cons_zero,List.set_cons_succ]))
 refine wpAnyH_done (by kernel_rfl) ?_ _
 clear hS
 clear HR_t14
 go_wp2_with (first | (refine ya0 rfl _ _ rfl rfl HA_p0.out Tryz.underlying24 k_p0 ln_p0 ?_) | (refine ya0 rfl _ _ rfl rfl HA_p1.out Tryz.underlying27 k_p1 ln_p1 ?_) | (refine ya0 rfl _ _ rfl rfl HA_p4.out Tryz.underlying40 k_p4 ln_p4 ?_) | (refine ya0 rfl _ _ rfl rfl HA_w0.out Tryz.underlying47 k_w0 ln_w0 ?_) | (refine yaa zz20 _ _ rfl rfl HA_w0.out Tryz.underlying47 k_w0 ln_w0 ?_) | (refine ya0 rfl _ _ rfl rfl HA_x0.out Tryz.underlying47 k_x0 ln_x0 ?_) | (refine ya0 rfl _ _ rfl rfl HA_x1.out Tryz.underlying51 k_x1 ln_x1 ?_) | (refine ya0 rfl _ _ rfl rfl HA_x4.out Tryz.underlying64 k_x4 ln_x4 ?_) | (refine ya0 rfl _ _ rfl rfl HA_g0.out Tryz.underlying47 k_g0 ln_g0 ?_) | (refine yaa zz20 _ _ rfl rfl HA_g0.out Tryz.underlying47 k_g0 ln_g0 ?_))
 refine (to_SealS p2 _ Ap2 kp2 _ HR_p2.out sz_p2).mono ?_
 rintro e16 w16 ⟨A_t16,c_t16,rfl,lt16,mt16,hr_,hb16⟩
 have hl16:=hb16
 have hB16 : Below w.heap.size w w16:=Below.step hB15 hl16
 have hz16 : w15.heap.size + 0 ≤ w16.heap.size:=by have:=hb16.size; (try simp at this); omega
 replace HR_p0:=zd (Lay.later HR_p0.out hl16)
 replace HR_p1:=zd (Lay.later HR_p1.out hl16)
 replace HR_p2:=zd (Row.later HR_p2.out hl16)
 replace HR_p4:=zd (Lay.later HR_p4.out hl16)
 replace HR_w0:=zd (Lay.later HR_w0.out hl16)
 replace HR_x0:=zd (Lay.later HR_x0.out hl16)
 replace HR_x1:=zd (Lay.later HR_x1.out hl16)
 replace HR_x2:=zd (Row.later HR_x2.out hl16)
 replace HR_x4:=zd (Lay.later HR_x4.out hl16)
 replace HR_g0:=zd (Lay.later HR_g0.out hl16)
 replace HA_p0:=zd (HA_p0.out.below hl16 lt_p0); replace lt_p0:=Nat.lt_of_lt_of_le lt_p0 hl16.size
 replace HA_p1:=zd (HA_p1.out.below hl16 lt_p1); replace lt_p1:=Nat.lt_of_lt_of_le lt_p1 hl16.size
 replace HA_p4:=zd (HA_p4.out.below hl16 lt_p4); replace lt_p4:=Nat.lt_of_lt_of_le lt_p4 hl16.size
 replace HA_w0:=zd (HA_w0.out.below hl16 lt_w0); replace lt_w0:=Nat.lt_of_lt_of_le lt_w0 hl16.size
 replace HA_x0:=zd (HA_x0.out.below hl16 lt_x0); replace lt_x0:=Nat.lt_of_lt_of_le lt_x0 hl16.size
 replace HA_x1:=zd (HA_x1.out.below hl16 lt_x1); replace lt_x1:=Nat.lt_of_lt_of_le lt_x1 hl16.size
 replace HA_x4:=zd (HA_x4.out.below hl16 lt_x4); replace lt_x4:=Nat.lt_of_lt_of_le lt_x4 hl16.size
 replace HA_g0:=zd (HA_g0.out.below hl16 lt_g0); replace lt_g0:=Nat.lt_of_lt_of_le lt_g0 hl16.size
 have HR_t16:=zd (Row.mono hr_ (S':=rng (w15.heap.size) (w16.heap.size)) (fun b h => zz26)); clear hr_
 have sb_t16 : sub (rng (w15.heap.size) (w16.heap.size)) (rng (w15.heap.size) (w16.heap.size)):=ya9 _
 go_wp2_with (first | (refine ya0 rfl _ _ rfl rfl HA_p0.out Tryz.underlying24 k_p0 ln_p0 ?_) | (refine ya0 rfl _ _ rfl rfl HA_p1.out Tryz.underlying27 k_p1 ln_p1 ?_) | (refine ya0 rfl _ _ rfl rfl HA_p4.out Tryz.underlying40 k_p4 ln_p4 ?_) | (refine ya0 rfl _ _ rfl rfl HA_w0.out Tryz.underlying47 k_w0 ln_w0 ?_) | (refine yaa zz20 _ _ rfl rfl HA_w0.out Tryz.underlying47 k_w0 ln_w0 ?_) | (refine ya0 rfl _ _ rfl rfl HA_x0.out Tryz.underlying47 k_x0 ln_x0 ?_) | (refine ya0 rfl _ _ rfl rfl HA_x1.out Tryz.underlying51 k_x1 ln_x1 ?_) | (refine ya0 rfl _ _ rfl rfl HA_x4.out Tryz.underlying64 k_x4 ln_x4 ?_) | (refine ya0 rfl _ _ rfl rfl HA_g0.out Tryz.underlying47 k_g0 ln_g0 ?_) | (refine yaa zz20 _ _ rfl rfl HA_g0.out Tryz.underlying47 k_g0 ln_g0 ?_))
 refine (eq_SealS p2 _ A_x2 A_t16 c_x2 c_t16 _ _ (Row.weak HR_x2.out) (Row.weak HR_t16.out) (Nat.le_trans lx2 mx2)).mono ?_
 rintro e17 w17 ⟨rfl,hb17⟩
 have hl17:=hb17
 have hB17 : Below w.heap.size w w17:=Below.step hB16 hl17
 have hz17 : w16.heap.size + 0 ≤ w17.heap.size:=by have:=hb17.size; (try simp at this); omega
 replace HR_p0:=zd (Lay.later HR_p0.out hl17)
 replace HR_p1:=zd (Lay.later HR_p1.out hl17)
 replace HR_p2:=zd (Row.later HR_p2.out hl17)
 replace HR_p4:=zd (Lay.later HR_p4.out hl17)
 replace HR_w0:=zd (Lay.later HR_w0.out hl17)
 replace HR_x0:=zd (Lay.later HR_x0.out hl17)
 replace HR_x1:=zd (Lay.later HR_x1.out hl17)
 replace HR_x2:=zd (Row.later HR_x2.out hl17)
 replace HR_x4:=zd (Lay.later HR_x4.out hl17)
 replace HR_g0:=zd (Lay.later HR_g0.out hl17)
 replace HR_t16:=zd (Row.later HR_t16.out hl17)
 replace HA_p0:=zd (HA_p0.out.below hl17 lt_p0); replace lt_p0:=Nat.lt_of_lt_of_le lt_p0 hl17.size
 replace HA_p1:=zd (HA_p1.out.below hl17 lt_p1); replace lt_p1:=Nat.lt_of_lt_of_le lt_p1 hl17.size
 replace HA_p4:=zd (HA_p4.out.below hl17 lt_p4); replace lt_p4:=Nat.lt_of_lt_of_le lt_p4 hl17.size
 replace HA_w0:=zd (HA_w0.out.below hl17 lt_w0); replace lt_w0:=Nat.lt_of_lt_of_le lt_w0 hl17.size
 replace HA_x0:=zd (HA_x0.out.below hl17 lt_x0); replace lt_x0:=Nat.lt_of_lt_of_le lt_x0 hl17.size
 replace HA_x1:=zd (HA_x1.out.below hl17 lt_x1); replace lt_x1:=Nat.lt_of_lt_of_le lt_x1 hl17.size
 replace HA_x4:=zd (HA_x4.out.below hl17 lt_x4); replace lt_x4:=Nat.lt_of_lt_of_le lt_x4 hl17.size
 replace HA_g0:=zd (HA_g0.out.below hl17 lt_g0); replace lt_g0:=Nat.lt_of_lt_of_le lt_g0 hl17.size
 clear HR_t16
 go_wp2_with (first | (refine ya0 rfl _ _ rfl rfl HA_p0.out Tryz.underlying24 k_p0 ln_p0 ?_) | (refine ya0 rfl _ _ rfl rfl HA_p1.out Tryz.underlying27 k_p1 ln_p1 ?_) | (refine ya0 rfl _ _ rfl rfl HA_p4.out Tryz.underlying40 k_p4 ln_p4 ?_) | (refine ya0 rfl _ _ rfl rfl HA_w0.out Tryz.underlying47 k_w0 ln_w0 ?_) | (refine yaa zz20 _ _ rfl rfl HA_w0.out Tryz.underlying47 k_w0 ln_w0 ?_) | (refine ya0 rfl _ _ rfl rfl HA_x0.out Tryz.underlying47 k_x0 ln_x0 ?_) | (refine ya0 rfl _ _ rfl rfl HA_x1.out Tryz.underlying51 k_x1 ln_x1 ?_) | (refine ya0 rfl _ _ rfl rfl HA_x4.out Tryz.underlying64 k_x4 ln_x4 ?_) | (refine ya0 rfl _ _ rfl rfl HA_g0.out Tryz.underlying47 k_g0 ln_g0 ?_) | (refine yaa zz20 _ _ rfl rfl HA_g0.out Tryz.underlying47 k_g0 ln_g0 ?_))
 refine wp_region_held_drew (S:=fun W' => At W' (w9.heap.size) 0 c_x4 ∧ At W' (w.heap.size + 2) 0 cp4) (by kernel_rfl) ⟨HA_x4.out,HA_p4.out⟩ (fun hS => ?_)
 refine wpAnyH_take (i:=0) (v:=.agg c_x4.toArray) rfl (by kernel_rfl) (by kernel_rfl) (by kernel_rfl) (fun _ _ _ h => h) (yieldsIf_loadT zz43 _ _ rfl rfl (fun _ h => h.1) Tryz.underlying64 k_x4 ln_x4) hS ?_
 (try simp only [Act.put,List.getElem_toArray,List.getElem_cons_succ,List.getElem_cons_zero,List.setIfInBounds_toArray,List.set_cons_zero,List.set_cons_succ])
 refine wpAnyH_take (i:=1) (v:=.agg cp4.toArray) rfl (by kernel_rfl) (by kernel_rfl) (by kernel_rfl) (fun _ _ _ h => h) (yieldsIf_loadT zz43 _ _ rfl rfl (fun _ h => h.2) Tryz.underlying40 k_p4 ln_p4) hS ?_
 (try simp only [Act.put,List.getElem_toArray,List.getElem_cons_succ,List.getElem_cons_zero,List.setIfInBounds_toArray,List.set_cons_zero,List.set_cons_succ])
 refine wpAnyH_ready (rs:=[2]) (by kernel_rfl) zz32 (AllReadyH.cons rfl (fun K hK => ?_) AllReadyH.nil)
 (try rw [if_pos zz43])
 clear hS
 go_simp
 refine (to_Whole p4 _ _ _ (Lay.later HR_p4.out ((Below.refl _ _).drew)) sz_p4).mono ?_
 rintro e18 w18 ⟨c_t18,rfl,hr_,hb18⟩
 have hb18:=Below.viad hb18
 have hl18:=hb18
 have hB18 : Below w.heap.size w w18:=Below.step hB17 hl18
 have hz18 : w17.heap.size + 0 ≤ w18.heap.size:=by have:=hb18.size; (try simp at this); omega
 replace HR_p0:=zd (Lay.later HR_p0.out hl18)
 replace HR_p1:=zd (Lay.later HR_p1.out hl18)
 replace HR_p2:=zd (Row.later HR_p2.out hl18)
 replace HR_p4:=zd (Lay.later HR_p4.out hl18)
 replace HR_w0:=zd (Lay.later HR_w0.out hl18)
 replace HR_x0:=zd (Lay.later HR_x0.out hl18)
 replace HR_x1:=zd (Lay.later HR_x1.out hl18)
 replace HR_x2:=zd (Row.later HR_x2.out hl18)
 replace HR_x4:=zd (Lay.later HR_x4.out hl18)
 replace HR_g0:=zd (Lay.later HR_g0.out hl18)
 replace HA_p0:=zd (HA_p0.out.below hl18 lt_p0); replace lt_p0:=Nat.lt_of_lt_of_le lt_p0 hl18.size
 replace HA_p1:=zd (HA_p1.out.below hl18 lt_p1); replace lt_p1:=Nat.lt_of_lt_of_le lt_p1 hl18.size
 replace HA_p4:=zd (HA_p4.out.below hl18 lt_p4); replace lt_p4:=Nat.lt_of_lt_of_le lt_p4 hl18.size
 replace HA_w0:=zd (HA_w0.out.below hl18 lt_w0); replace lt_w0:=Nat.lt_of_lt_of_le lt_w0 hl18.size
 replace HA_x0:=zd (HA_x0.out.below hl18 lt_x0); replace lt_x0:=Nat.lt_of_lt_of_le lt_x0 hl18.size
 replace HA_x1:=zd (HA_x1.out.below hl18 lt_x1); replace lt_x1:=Nat.lt_of_lt_of_le lt_x1 hl18.size
 replace HA_x4:=zd (HA_x4.out.below hl18 lt_x4); replace lt_x4:=Nat.lt_of_lt_of_le lt_x4 hl18.size
 replace HA_g0:=zd (HA_g0.out.below hl18 lt_g0); replace lt_g0:=Nat.lt_of_lt_of_le lt_g0 hl18.size
 have HR_t18:=zd (Lay.mono hr_ (S':=rng (w17.heap.size) (w18.heap.size)) (fun b h => zz26)); clear hr_
 have sb_t18 : sub (rng (w17.heap.size) (w18.heap.size)) (rng (w17.heap.size) (w18.heap.size)):=ya9 _
 refine hK.out _ _ ⟨HA_x4.out,HA_p4.out⟩ (fun hS => ?_)
 clear hK K
 (try simp only [Act.put,List.getElem_toArray,List.getElem_cons_succ,List.getElem_cons_zero,List.setIfInBounds_toArray,List.set_cons_zero,List.set_cons_succ])
 refine wpAnyH_ready (rs:=[3]) (by kernel_rfl) zz32 (AllReadyH.cons rfl (fun K hK => ?_) AllReadyH.nil)
 (try rw [if_pos zz43])
 clear hS
 go_simp
 refine (eq_Whole p4 _ _ _ _ _ (Lay.weak HR_x4.out) (Lay.weak HR_t18.out)).mono ?_
 rintro e19 w19 ⟨rfl,hb19⟩
 have hl19:=hb19
 have hB19 : Below w.heap.size w w19:=Below.step hB18 hl19
 have hz19 : w18.heap.size + 0 ≤ w19.heap.size:=by have:=hb19.size; (try simp at this); omega
 replace HR_p0:=zd (Lay.later HR_p0.out hl19)
 replace HR_p1:=zd (Lay.later HR_p1.out hl19)
 replace HR_p2:=zd (Row.later HR_p2.out hl19)
 replace HR_p4:=zd (Lay.later HR_p4.out hl19)
 replace HR_w0:=zd (Lay.later HR_w0.out hl19)
 replace HR_x0:=zd (Lay.later HR_x0.out hl19)
 replace HR_x1:=zd (Lay.later HR_x1.out hl19)
 replace HR_x2:=zd (Row.later HR_x2.out hl19)
 replace HR_x4:=zd (Lay.later HR_x4.out hl19)
 replace HR_g0:=zd (Lay.later HR_g0.out hl19)
 replace HR_t18:=zd (Lay.later HR_t18.out hl19)
 replace HA_p0:=zd (HA_p0.out.below hl19 lt_p0); replace lt_p0:=Nat.lt_of_lt_of_le lt_p0 hl19.size
 replace HA_p1:=zd (HA_p1.out.below hl19 lt_p1); replace lt_p1:=Nat.lt_of_lt_of_le lt_p1 hl19.size
 replace HA_p4:=zd (HA_p4.out.below hl19 lt_p4); replace lt_p4:=Nat.lt_of_lt_of_le lt_p4 hl19.size
 replace HA_w0:=zd (HA_w0.out.below hl19 lt_w0); replace lt_w0:=Nat.lt_of_lt_of_le lt_w0 hl19.size
 replace HA_x0:=zd (HA_x0.out.below hl19 lt_x0); replace lt_x0:=Nat.lt_of_lt_of_le lt_x0 hl19.size
 replace HA_x1:=zd (HA_x1.out.below hl19 lt_x1); replace lt_x1:=Nat.lt_of_lt_of_le lt_x1 hl19.size
 replace HA_x4:=zd (HA_x4.out.below hl19 lt_x4); replace lt_x4:=Nat.lt_of_lt_of_le lt_x4 hl19.size
 replace HA_g0:=zd (HA_g0.out.below hl19 lt_g0); replace lt_g0:=Nat.lt_of_lt_of_le lt_g0 hl19.size
 refine hK.out _ _ ⟨HA_x4.out,HA_p4.out⟩ (fun hS => ?_)
 clear hK K
 (try simp only [Act.put,List.getElem_toArray,List.getElem_cons_succ,List.getElem_cons_zero,List.setIfInBounds_toArray,List.set_cons_zero,List.set_cons_succ])
 refine wpAnyH_ready (rs:=[4]) (by kernel_rfl) zz32 (AllReadyH.cons rfl (fun K hK => ?_) AllReadyH.nil)
 go_simp
 refine hK.out _ _ hS (fun hS => ?_)
 clear hK K
 (try (try simp only [Act.put,List.getElem_toArray,List.getElem_cons_succ,List.getElem_cons_zero,List.setIfInBounds_toArray,List.set_cons_zero,List.set_cons_succ]))
 refine wpAnyH_done (by kernel_rfl) ?_ _
 clear hS
 clear HR_t18
 go_wp2_with (first | (refine ya0 rfl _ _ rfl rfl HA_p0.out Tryz.underlying24 k_p0 ln_p0 ?_) | (refine ya0 rfl _ _ rfl rfl HA_p1.out Tryz.underlying27 k_p1 ln_p1 ?_) | (refine ya0 rfl _ _ rfl rfl HA_p4.out Tryz.underlying40 k_p4 ln_p4 ?_) | (refine ya0 rfl _ _ rfl rfl HA_w0.out Tryz.underlying47 k_w0 ln_w0 ?_) | (refine yaa zz20 _ _ rfl rfl HA_w0.out Tryz.underlying47 k_w0 ln_w0 ?_) | (refine ya0 rfl _ _ rfl rfl HA_x0.out Tryz.underlying47 k_x0 ln_x0 ?_) | (refine ya0 rfl _ _ rfl rfl HA_x1.out Tryz.underlying51 k_x1 ln_x1 ?_) | (refine ya0 rfl _ _ rfl rfl HA_x4.out Tryz.underlying64 k_x4 ln_x4 ?_) | (refine ya0 rfl _ _ rfl rfl HA_g0.out Tryz.underlying47 k_g0 ln_g0 ?_) | (refine yaa zz20 _ _ rfl rfl HA_g0.out Tryz.underlying47 k_g0 ln_g0 ?_))
 have cb1 : p0.ct ≤ 1000000000000:=by have:=ctb_Client p0; have:=sz_p0; omega
 refine (mark_Client p0 _ _ _ _ 1 zz66 zz8 HR_x0.out).mono ?_
 obtain ⟨K1,hK_K1⟩ : ∃ K,1 + p0.ct = K:=⟨_,rfl⟩
 rw [hK_K1]
 have bK_K1 : K1 ≤ 2000000000004:=zz8
 rintro e20 w20 ⟨rfl,hr_,hb20⟩
 have hB20 : Below w.heap.size w w20:=Below.stepc hB19 hb20 (fun x hx => by have:=sb_x0 x hx; unfold rng at this; have:=hB19.size; omega)
 have hz20 : w19.heap.size ≤ w20.heap.size:=hb20.size
 replace HR_p0:=zd (Lay.chg HR_p0.out hb20 (disjS (ya9 _) sb_x0 zz8))
 replace HR_p1:=zd (Lay.chg HR_p1.out hb20 (disjS (ya9 _) sb_x0 zz8))
 replace HR_p2:=zd (Row.chg HR_p2.out hb20 (disjS (ya9 _) sb_x0 zz8))
 replace HR_p4:=zd (Lay.chg HR_p4.out hb20 (disjS (ya9 _) sb_x0 zz8))
 replace HR_w0:=zd (Lay.chg HR_w0.out hb20 (disjS sb_w0 sb_x0 zz8))
 replace HR_x1:=zd (Lay.chg HR_x1.out hb20 (disjS sb_x1 sb_x0 zz8))
 replace HR_x2:=zd (Row.chg HR_x2.out hb20 (disjS sb_x2 sb_x0 zz8))
 replace HR_x4:=zd (Lay.chg HR_x4.out hb20 (disjS sb_x4 sb_x0 zz8))
 replace HR_g0:=zd (Lay.chg HR_g0.out hb20 (disjS sb_g0 sb_x0 zz8))
 replace HA_p0:=zd (HA_p0.out.chg hb20 lt_p0 (not_rng sb_x0 zz8)); replace lt_p0:=Nat.lt_of_lt_of_le lt_p0 hb20.size
 replace HA_p1:=zd (HA_p1.out.chg hb20 lt_p1 (not_rng sb_x0 zz8)); replace lt_p1:=Nat.lt_of_lt_of_le lt_p1 hb20.size
 replace HA_p4:=zd (HA_p4.out.chg hb20 lt_p4 (not_rng sb_x0 zz8)); replace lt_p4:=Nat.lt_of_lt_of_le lt_p4 hb20.size
 replace HA_w0:=zd (HA_w0.out.chg hb20 lt_w0 (not_rng sb_x0 zz8)); replace lt_w0:=Nat.lt_of_lt_of_le lt_w0 hb20.size
 replace HA_x0:=zd (HA_x0.out.chg hb20 lt_x0 (not_rng sb_x0 zz8)); replace lt_x0:=Nat.lt_of_lt_of_le lt_x0 hb20.size
 replace HA_x1:=zd (HA_x1.out.chg hb20 lt_x1 (not_rng sb_x0 zz8)); replace lt_x1:=Nat.lt_of_lt_of_le lt_x1 hb20.size
 replace HA_x4:=zd (HA_x4.out.chg hb20 lt_x4 (not_rng sb_x0 zz8)); replace lt_x4:=Nat.lt_of_lt_of_le lt_x4 hb20.size
 replace HA_g0:=zd (HA_g0.out.chg hb20 lt_g0 (not_rng sb_x0 zz8)); replace lt_g0:=Nat.lt_of_lt_of_le lt_g0 hb20.size
 replace HR_x0:=zd hr_; clear hr_
 go_wp2_with (first | (refine ya0 rfl _ _ rfl rfl HA_p0.out Tryz.underlying24 k_p0 ln_p0 ?_) | (refine ya0 rfl _ _ rfl rfl HA_p1.out Tryz.underlying27 k_p1 ln_p1 ?_) | (refine ya0 rfl _ _ rfl rfl HA_p4.out Tryz.underlying40 k_p4 ln_p4 ?_) | (refine ya0 rfl _ _ rfl rfl HA_w0.out Tryz.underlying47 k_w0 ln_w0 ?_) | (refine yaa zz20 _ _ rfl rfl HA_w0.out Tryz.underlying47 k_w0 ln_w0 ?_) | (refine ya0 rfl _ _ rfl rfl HA_x0.out Tryz.underlying47 k_x0 ln_x0 ?_) | (refine ya0 rfl _ _ rfl rfl HA_x1.out Tryz.underlying51 k_x1 ln_x1 ?_) | (refine ya0 rfl _ _ rfl rfl HA_x4.out Tryz.underlying64 k_x4 ln_x4 ?_) | (refine ya0 rfl _ _ rfl rfl HA_g0.out Tryz.underlying47 k_g0 ln_g0 ?_) | (refine yaa zz20 _ _ rfl rfl HA_g0.out Tryz.underlying47 k_g0 ln_g0 ?_))
 have cb2 : p1.ct ≤ 1000000000000:=by have:=ctb_Trust p1; have:=sz_p1; omega
 refine (mark_Trust p1 _ _ _ _ K1 zz66 zz8 HR_x1.out).mono ?_
 obtain ⟨K2,hK_K2⟩ : ∃ K,K1 + p1.ct = K:=⟨_,rfl⟩
 rw [hK_K2]
 have bK_K2 : K2 ≤ 3000000000006:=zz8
 rintro e21 w21 ⟨rfl,hr_,hb21⟩
 have hB21 : Below w.heap.size w w21:=Below.stepc hB20 hb21 (fun x hx => by have:=sb_x1 x hx; unfold rng at this; have:=hB20.size; omega)
 have hz21 : w20.heap.size ≤ w21.heap.size:=hb21.size
 replace HR_p0:=zd (Lay.chg HR_p0.out hb21 (disjS (ya9 _) sb_x1 zz8))
 replace HR_p1:=zd (Lay.chg HR_p1.out hb21 (disjS (ya9 _) sb_x1 zz8))
 replace HR_p2:=zd (Row.chg HR_p2.out hb21 (disjS (ya9 _) sb_x1 zz8))
 replace HR_p4:=zd (Lay.chg HR_p4.out hb21 (disjS (ya9 _) sb_x1 zz8))
 replace HR_w0:=zd (Lay.chg HR_w0.out hb21 (disjS sb_w0 sb_x1 zz8))
 replace HR_x0:=zd (Lay.chg HR_x0.out hb21 (disjS sb_x0 sb_x1 zz8))
 replace HR_x2:=zd (Row.chg HR_x2.out hb21 (disjS sb_x2 sb_x1 zz8))
 replace HR_x4:=zd (Lay.chg HR_x4.out hb21 (disjS sb_x4 sb_x1 zz8))
 replace HR_g0:=zd (Lay.chg HR_g0.out hb21 (disjS sb_g0 sb_x1 zz8))
 replace HA_p0:=zd (HA_p0.out.chg hb21 lt_p0 (not_rng sb_x1 zz8)); replace lt_p0:=Nat.lt_of_lt_of_le lt_p0 hb21.size
 replace HA_p1:=zd (HA_p1.out.chg hb21 lt_p1 (not_rng sb_x1 zz8)); replace lt_p1:=Nat.lt_of_lt_of_le lt_p1 hb21.size
 replace HA_p4:=zd (HA_p4.out.chg hb21 lt_p4 (not_rng sb_x1 zz8)); replace lt_p4:=Nat.lt_of_lt_of_le lt_p4 hb21.size
 replace HA_w0:=zd (HA_w0.out.chg hb21 lt_w0 (not_rng sb_x1 zz8)); replace lt_w0:=Nat.lt_of_lt_of_le lt_w0 hb21.size
 replace HA_x0:=zd (HA_x0.out.chg hb21 lt_x0 (not_rng sb_x1 zz8)); replace lt_x0:=Nat.lt_of_lt_of_le lt_x0 hb21.size
 replace HA_x1:=zd (HA_x1.out.chg hb21 lt_x1 (not_rng sb_x1 zz8)); replace lt_x1:=Nat.lt_of_lt_of_le lt_x1 hb21.size
 replace HA_x4:=zd (HA_x4.out.chg hb21 lt_x4 (not_rng sb_x1 zz8)); replace lt_x4:=Nat.lt_of_lt_of_le lt_x4 hb21.size
 replace HA_g0:=zd (HA_g0.out.chg hb21 lt_g0 (not_rng sb_x1 zz8)); replace lt_g0:=Nat.lt_of_lt_of_le lt_g0 hb21.size
 replace HR_x1:=zd hr_; clear hr_
 go_wp2_with (first | (refine ya0 rfl _ _ rfl rfl HA_p0.out Tryz.underlying24 k_p0 ln_p0 ?_) | (refine ya0 rfl _ _ rfl rfl HA_p1.out Tryz.underlying27 k_p1 ln_p1 ?_) | (refine ya0 rfl _ _ rfl rfl HA_p4.out Tryz.underlying40 k_p4 ln_p4 ?_) | (refine ya0 rfl _ _ rfl rfl HA_w0.out Tryz.underlying47 k_w0 ln_w0 ?_) | (refine yaa zz20 _ _ rfl rfl HA_w0.out Tryz.underlying47 k_w0 ln_w0 ?_) | (refine ya0 rfl _ _ rfl rfl HA_x0.out Tryz.underlying47 k_x0 ln_x0 ?_) | (refine ya0 rfl _ _ rfl rfl HA_x1.out Tryz.underlying51 k_x1 ln_x1 ?_) | (refine ya0 rfl _ _ rfl rfl HA_x4.out Tryz.underlying64 k_x4 ln_x4 ?_) | (refine ya0 rfl _ _ rfl rfl HA_g0.out Tryz.underlying47 k_g0 ln_g0 ?_) | (refine yaa zz20 _ _ rfl rfl HA_g0.out Tryz.underlying47 k_g0 ln_g0 ?_))
 have cb3 : cnL p2 ≤ 1000000000000:=by have:=cnb_SealS p2; have:=sz_p2; omega
 refine (mark_SealS p2 _ A_x2 c_x2 _ _ K2 zz66 zz8 HR_x2.out (Nat.le_trans lx2 mx2)).mono ?_
 obtain ⟨K3,hK_K3⟩ : ∃ K,K2 + cnL p2 = K:=⟨_,rfl⟩
 rw [hK_K3]
 have bK_K3 : K3 ≤ 4000000000008:=zz8
 rintro e22 w22 ⟨rfl,hr_,hb22⟩
 have hB22 : Below w.heap.size w w22:=Below.stepc hB21 hb22 (fun x hx => by have:=sb_x2 x hx; unfold rng at this; have:=hB21.size; omega)
 have hz22 : w21.heap.size ≤ w22.heap.size:=hb22.size
 replace HR_p0:=zd (Lay.chg HR_p0.out hb22 (disjS (ya9 _) sb_x2 zz8))
 replace HR_p1:=zd (Lay.chg HR_p1.out hb22 (disjS (ya9 _) sb_x2 zz8))
 replace HR_p2:=zd (Row.chg HR_p2.out hb22 (disjS (ya9 _) sb_x2 zz8))
 replace HR_p4:=zd (Lay.chg HR_p4.out hb22 (disjS (ya9 _) sb_x2 zz8))
 replace HR_w0:=zd (Lay.chg HR_w0.out hb22 (disjS sb_w0 sb_x2 zz8))
 replace HR_x0:=zd (Lay.chg HR_x0.out hb22 (disjS sb_x0 sb_x2 zz8))
 replace HR_x1:=zd (Lay.chg HR_x1.out hb22 (disjS sb_x1 sb_x2 zz8))
 replace HR_x4:=zd (Lay.chg HR_x4.out hb22 (disjS sb_x4 sb_x2 zz8))
 replace HR_g0:=zd (Lay.chg HR_g0.out hb22 (disjS sb_g0 sb_x2 zz8))
 replace HA_p0:=zd (HA_p0.out.chg hb22 lt_p0 (not_rng sb_x2 zz8)); replace lt_p0:=Nat.lt_of_lt_of_le lt_p0 hb22.size
 replace HA_p1:=zd (HA_p1.out.chg hb22 lt_p1 (not_rng sb_x2 zz8)); replace lt_p1:=Nat.lt_of_lt_of_le lt_p1 hb22.size
 replace HA_p4:=zd (HA_p4.out.chg hb22 lt_p4 (not_rng sb_x2 zz8)); replace lt_p4:=Nat.lt_of_lt_of_le lt_p4 hb22.size
 replace HA_w0:=zd (HA_w0.out.chg hb22 lt_w0 (not_rng sb_x2 zz8)); replace lt_w0:=Nat.lt_of_lt_of_le lt_w0 hb22.size
 replace HA_x0:=zd (HA_x0.out.chg hb22 lt_x0 (not_rng sb_x2 zz8)); replace lt_x0:=Nat.lt_of_lt_of_le lt_x0 hb22.size
 replace HA_x1:=zd (HA_x1.out.chg hb22 lt_x1 (not_rng sb_x2 zz8)); replace lt_x1:=Nat.lt_of_lt_of_le lt_x1 hb22.size
 replace HA_x4:=zd (HA_x4.out.chg hb22 lt_x4 (not_rng sb_x2 zz8)); replace lt_x4:=Nat.lt_of_lt_of_le lt_x4 hb22.size
 replace HA_g0:=zd (HA_g0.out.chg hb22 lt_g0 (not_rng sb_x2 zz8)); replace lt_g0:=Nat.lt_of_lt_of_le lt_g0 hb22.size
 replace HR_x2:=zd hr_; clear hr_
 go_wp2_with (first | (refine ya0 rfl _ _ rfl rfl HA_p0.out Tryz.underlying24 k_p0 ln_p0 ?_) | (refine ya0 rfl _ _ rfl rfl HA_p1.out Tryz.underlying27 k_p1 ln_p1 ?_) | (refine ya0 rfl _ _ rfl rfl HA_p4.out Tryz.underlying40 k_p4 ln_p4 ?_) | (refine ya0 rfl _ _ rfl rfl HA_w0.out Tryz.underlying47 k_w0 ln_w0 ?_) | (refine yaa zz20 _ _ rfl rfl HA_w0.out Tryz.underlying47 k_w0 ln_w0 ?_) | (refine ya0 rfl _ _ rfl rfl HA_x0.out Tryz.underlying47 k_x0 ln_x0 ?_) | (refine ya0 rfl _ _ rfl rfl HA_x1.out Tryz.underlying51 k_x1 ln_x1 ?_) | (refine ya0 rfl _ _ rfl rfl HA_x4.out Tryz.underlying64 k_x4 ln_x4 ?_) | (refine ya0 rfl _ _ rfl rfl HA_g0.out Tryz.underlying47 k_g0 ln_g0 ?_) | (refine yaa zz20 _ _ rfl rfl HA_g0.out Tryz.underlying47 k_g0 ln_g0 ?_))
 have cb4 : p4.ct ≤ 1000000000000:=by have:=ctb_Whole p4; have:=sz_p4; omega
 refine (mark_Whole p4 _ _ _ _ K3 zz66 zz8 HR_x4.out).mono ?_
 obtain ⟨K4,hK_K4⟩ : ∃ K,K3 + p4.ct = K:=⟨_,rfl⟩
 rw [hK_K4]
 have bK_K4 : K4 ≤ 5000000000010:=zz8
 rintro e23 w23 ⟨rfl,hr_,hb23⟩
 have hB23 : Below w.heap.size w w23:=Below.stepc hB22 hb23 (fun x hx => by have:=sb_x4 x hx; unfold rng at this; have:=hB22.size; omega)
 have hz23 : w22.heap.size ≤ w23.heap.size:=hb23.size
 replace HR_p0:=zd (Lay.chg HR_p0.out hb23 (disjS (ya9 _) sb_x4 zz8))
 replace HR_p1:=zd (Lay.chg HR_p1.out hb23 (disjS (ya9 _) sb_x4 zz8))
 replace HR_p2:=zd (Row.chg HR_p2.out hb23 (disjS (ya9 _) sb_x4 zz8))
 replace HR_p4:=zd (Lay.chg HR_p4.out hb23 (disjS (ya9 _) sb_x4 zz8))
 replace HR_w0:=zd (Lay.chg HR_w0.out hb23 (disjS sb_w0 sb_x4 zz8))
 replace HR_x0:=zd (Lay.chg HR_x0.out hb23 (disjS sb_x0 sb_x4 zz8))
 replace HR_x1:=zd (Lay.chg HR_x1.out hb23 (disjS sb_x1 sb_x4 zz8))
 replace HR_x2:=zd (Row.chg HR_x2.out hb23 (disjS sb_x2 sb_x4 zz8))
 replace HR_g0:=zd (Lay.chg HR_g0.out hb23 (disjS sb_g0 sb_x4 zz8))
 replace HA_p0:=zd (HA_p0.out.chg hb23 lt_p0 (not_rng sb_x4 zz8)); replace lt_p0:=Nat.lt_of_lt_of_le lt_p0 hb23.size
 replace HA_p1:=zd (HA_p1.out.chg hb23 lt_p1 (not_rng sb_x4 zz8)); replace lt_p1:=Nat.lt_of_lt_of_le lt_p1 hb23.size
 replace HA_p4:=zd (HA_p4.out.chg hb23 lt_p4 (not_rng sb_x4 zz8)); replace lt_p4:=Nat.lt_of_lt_of_le lt_p4 hb23.size
 replace HA_w0:=zd (HA_w0.out.chg hb23 lt_w0 (not_rng sb_x4 zz8)); replace lt_w0:=Nat.lt_of_lt_of_le lt_w0 hb23.size
 replace HA_x0:=zd (HA_x0.out.chg hb23 lt_x0 (not_rng sb_x4 zz8)); replace lt_x0:=Nat.lt_of_lt_of_le lt_x0 hb23.size
 replace HA_x1:=zd (HA_x1.out.chg hb23 lt_x1 (not_rng sb_x4 zz8)); replace lt_x1:=Nat.lt_of_lt_of_le lt_x1 hb23.size
 replace HA_x4:=zd (HA_x4.out.chg hb23 lt_x4 (not_rng sb_x4 zz8)); replace lt_x4:=Nat.lt_of_lt_of_le lt_x4 hb23.size
 replace HA_g0:=zd (HA_g0.out.chg hb23 lt_g0 (not_rng sb_x4 zz8)); replace lt_g0:=Nat.lt_of_lt_of_le lt_g0 hb23.size
 replace HR_x4:=zd hr_; clear hr_
 go_wp2_with (first | (refine ya0 rfl _ _ rfl rfl HA_p0.out Tryz.underlying24 k_p0 ln_p0 ?_) | (refine ya0 rfl _ _ rfl rfl HA_p1.out Tryz.underlying27 k_p1 ln_p1 ?_) | (refine ya0 rfl _ _ rfl rfl HA_p4.out Tryz.underlying40 k_p4 ln_p4 ?_) | (refine ya0 rfl _ _ rfl rfl HA_w0.out Tryz.underlying47 k_w0 ln_w0 ?_) | (refine yaa zz20 _ _ rfl rfl HA_w0.out Tryz.underlying47 k_w0 ln_w0 ?_) | (refine ya0 rfl _ _ rfl rfl HA_x0.out Tryz.underlying47 k_x0 ln_x0 ?_) | (refine ya0 rfl _ _ rfl rfl HA_x1.out Tryz.underlying51 k_x1 ln_x1 ?_) | (refine ya0 rfl _ _ rfl rfl HA_x4.out Tryz.underlying64 k_x4 ln_x4 ?_) | (refine ya0 rfl _ _ rfl rfl HA_g0.out Tryz.underlying47 k_g0 ln_g0 ?_) | (refine yaa zz20 _ _ rfl rfl HA_g0.out Tryz.underlying47 k_g0 ln_g0 ?_))
 refine (eq_Client rr0 _ _ _ _ _ (Lay.weak HR_g0.out) (Lay.weak HR_w0.out)).mono ?_
 rintro e24 w24 ⟨rfl,hb24⟩
 have hl24:=hb24
 have hB24 : Below w.heap.size w w24:=Below.step hB23 hl24
 have hz24 : w23.heap.size + 0 ≤ w24.heap.size:=by have:=hb24.size; (try simp at this); omega
 replace HR_p0:=zd (Lay.later HR_p0.out hl24)
 replace HR_p1:=zd (Lay.later HR_p1.out hl24)
 replace HR_p2:=zd (Row.later HR_p2.out hl24)
 replace HR_p4:=zd (Lay.later HR_p4.out hl24)
 replace HR_w0:=zd (Lay.later HR_w0.out hl24)
 replace HR_x0:=zd (Lay.later HR_x0.out hl24)
 replace HR_x1:=zd (Lay.later HR_x1.out hl24)
 replace HR_x2:=zd (Row.later HR_x2.out hl24)
 replace HR_x4:=zd (Lay.later HR_x4.out hl24)
 replace HR_g0:=zd (Lay.later HR_g0.out hl24)
 replace HA_p0:=zd (HA_p0.out.below hl24 lt_p0); replace lt_p0:=Nat.lt_of_lt_of_le lt_p0 hl24.size
 replace HA_p1:=zd (HA_p1.out.below hl24 lt_p1); replace lt_p1:=Nat.lt_of_lt_of_le lt_p1 hl24.size
 replace HA_p4:=zd (HA_p4.out.below hl24 lt_p4); replace lt_p4:=Nat.lt_of_lt_of_le lt_p4 hl24.size
 replace HA_w0:=zd (HA_w0.out.below hl24 lt_w0); replace lt_w0:=Nat.lt_of_lt_of_le lt_w0 hl24.size
 replace HA_x0:=zd (HA_x0.out.below hl24 lt_x0); replace lt_x0:=Nat.lt_of_lt_of_le lt_x0 hl24.size
 replace HA_x1:=zd (HA_x1.out.below hl24 lt_x1); replace lt_x1:=Nat.lt_of_lt_of_le lt_x1 hl24.size
 replace HA_x4:=zd (HA_x4.out.below hl24 lt_x4); replace lt_x4:=Nat.lt_of_lt_of_le lt_x4 hl24.size
 replace HA_g0:=zd (HA_g0.out.below hl24 lt_g0); replace lt_g0:=Nat.lt_of_lt_of_le lt_g0 hl24.size
 go_wp2_with (first | (refine ya0 rfl _ _ rfl rfl HA_p0.out Tryz.underlying24 k_p0 ln_p0 ?_) | (refine ya0 rfl _ _ rfl rfl HA_p1.out Tryz.underlying27 k_p1 ln_p1 ?_) | (refine ya0 rfl _ _ rfl rfl HA_p4.out Tryz.underlying40 k_p4 ln_p4 ?_) | (refine ya0 rfl _ _ rfl rfl HA_w0.out Tryz.underlying47 k_w0 ln_w0 ?_) | (refine yaa zz20 _ _ rfl rfl HA_w0.out Tryz.underlying47 k_w0 ln_w0 ?_) | (refine ya0 rfl _ _ rfl rfl HA_x0.out Tryz.underlying47 k_x0 ln_x0 ?_) | (refine ya0 rfl _ _ rfl rfl HA_x1.out Tryz.underlying51 k_x1 ln_x1 ?_) | (refine ya0 rfl _ _ rfl rfl HA_x4.out Tryz.underlying64 k_x4 ln_x4 ?_) | (refine ya0 rfl _ _ rfl rfl HA_g0.out Tryz.underlying47 k_g0 ln_g0 ?_) | (refine yaa zz20 _ _ rfl rfl HA_g0.out Tryz.underlying47 k_g0 ln_g0 ?_))
 have cb5 : rr0.ct ≤ 1000000000000:=HCB.out
 refine (mark_Client rr0 _ _ _ _ 1 zz66 zz8 HR_g0.out).mono ?_
 obtain ⟨K5,hK_K5⟩ : ∃ K,1 + rr0.ct = K:=⟨_,rfl⟩
 rw [hK_K5]
 have bK_K5 : K5 ≤ 6000000000012:=zz8
 rintro e25 w25 ⟨rfl,hr_,hb25⟩
 have hB25 : Below w.heap.size w w25:=Below.stepc hB24 hb25 (fun x hx => by have:=sb_g0 x hx; unfold rng at this; have:=hB24.size; omega)
 have hz25 : w24.heap.size ≤ w25.heap.size:=hb25.size
 replace HR_p0:=zd (Lay.chg HR_p0.out hb25 (disjS (ya9 _) sb_g0 zz8))
 replace HR_p1:=zd (Lay.chg HR_p1.out hb25 (disjS (ya9 _) sb_g0 zz8))
 replace HR_p2:=zd (Row.chg HR_p2.out hb25 (disjS (ya9 _) sb_g0 zz8))
 replace HR_p4:=zd (Lay.chg HR_p4.out hb25 (disjS (ya9 _) sb_g0 zz8))
 replace HR_w0:=zd (Lay.chg HR_w0.out hb25 (disjS sb_w0 sb_g0 zz8))
 replace HR_x0:=zd (Lay.chg HR_x0.out hb25 (disjS sb_x0 sb_g0 zz8))
 replace HR_x1:=zd (Lay.chg HR_x1.out hb25 (disjS sb_x1 sb_g0 zz8))
 replace HR_x2:=zd (Row.chg HR_x2.out hb25 (disjS sb_x2 sb_g0 zz8))
 replace HR_x4:=zd (Lay.chg HR_x4.out hb25 (disjS sb_x4 sb_g0 zz8))
 replace HA_p0:=zd (HA_p0.out.chg hb25 lt_p0 (not_rng sb_g0 zz8)); replace lt_p0:=Nat.lt_of_lt_of_le lt_p0 hb25.size
 replace HA_p1:=zd (HA_p1.out.chg hb25 lt_p1 (not_rng sb_g0 zz8)); replace lt_p1:=Nat.lt_of_lt_of_le lt_p1 hb25.size
 replace HA_p4:=zd (HA_p4.out.chg hb25 lt_p4 (not_rng sb_g0 zz8)); replace lt_p4:=Nat.lt_of_lt_of_le lt_p4 hb25.size
 replace HA_w0:=zd (HA_w0.out.chg hb25 lt_w0 (not_rng sb_g0 zz8)); replace lt_w0:=Nat.lt_of_lt_of_le lt_w0 hb25.size
 replace HA_x0:=zd (HA_x0.out.chg hb25 lt_x0 (not_rng sb_g0 zz8)); replace lt_x0:=Nat.lt_of_lt_of_le lt_x0 hb25.size
 replace HA_x1:=zd (HA_x1.out.chg hb25 lt_x1 (not_rng sb_g0 zz8)); replace lt_x1:=Nat.lt_of_lt_of_le lt_x1 hb25.size
 replace HA_x4:=zd (HA_x4.out.chg hb25 lt_x4 (not_rng sb_g0 zz8)); replace lt_x4:=Nat.lt_of_lt_of_le lt_x4 hb25.size
 replace HA_g0:=zd (HA_g0.out.chg hb25 lt_g0 (not_rng sb_g0 zz8)); replace lt_g0:=Nat.lt_of_lt_of_le lt_g0 hb25.size
 replace HR_g0:=zd hr_; clear hr_
 go_wp2_with (first | (refine ya0 rfl _ _ rfl rfl HA_p0.out Tryz.underlying24 k_p0 ln_p0 ?_) | (refine ya0 rfl _ _ rfl rfl HA_p1.out Tryz.underlying27 k_p1 ln_p1 ?_) | (refine ya0 rfl _ _ rfl rfl HA_p4.out Tryz.underlying40 k_p4 ln_p4 ?_) | (refine ya0 rfl _ _ rfl rfl HA_w0.out Tryz.underlying47 k_w0 ln_w0 ?_) | (refine yaa zz20 _ _ rfl rfl HA_w0.out Tryz.underlying47 k_w0 ln_w0 ?_) | (refine ya0 rfl _ _ rfl rfl HA_x0.out Tryz.underlying47 k_x0 ln_x0 ?_) | (refine ya0 rfl _ _ rfl rfl HA_x1.out Tryz.underlying51 k_x1 ln_x1 ?_) | (refine ya0 rfl _ _ rfl rfl HA_x4.out Tryz.underlying64 k_x4 ln_x4 ?_) | (refine ya0 rfl _ _ rfl rfl HA_g0.out Tryz.underlying47 k_g0 ln_g0 ?_) | (refine yaa zz20 _ _ rfl rfl HA_g0.out Tryz.underlying47 k_g0 ln_g0 ?_))
 refine (held_Client rr0 _ _ _ _ 1 zz66 zz8 (Lay.weak HR_g0.out)).mono ?_
 rw [hK_K5]
 rintro e26 w26 ⟨rfl,hb26⟩
 have hl26:=hb26
 have hB26 : Below w.heap.size w w26:=Below.step hB25 hl26
 have hz26 : w25.heap.size + 0 ≤ w26.heap.size:=by have:=hb26.size; (try simp at this); omega
 replace HR_p0:=zd (Lay.later HR_p0.out hl26)
 replace HR_p1:=zd (Lay.later HR_p1.out hl26)
 replace HR_p2:=zd (Row.later HR_p2.out hl26)
 replace HR_p4:=zd (Lay.later HR_p4.out hl26)
 replace HR_w0:=zd (Lay.later HR_w0.out hl26)
 replace HR_x0:=zd (Lay.later HR_x0.out hl26)
 replace HR_x1:=zd (Lay.later HR_x1.out hl26)
 replace HR_x2:=zd (Row.later HR_x2.out hl26)
 replace HR_x4:=zd (Lay.later HR_x4.out hl26)
 replace HR_g0:=zd (Lay.later HR_g0.out hl26)
 replace HA_p0:=zd (HA_p0.out.below hl26 lt_p0); replace lt_p0:=Nat.lt_of_lt_of_le lt_p0 hl26.size
 replace HA_p1:=zd (HA_p1.out.below hl26 lt_p1); replace lt_p1:=Nat.lt_of_lt_of_le lt_p1 hl26.size
 replace HA_p4:=zd (HA_p4.out.below hl26 lt_p4); replace lt_p4:=Nat.lt_of_lt_of_le lt_p4 hl26.size
 replace HA_w0:=zd (HA_w0.out.below hl26 lt_w0); replace lt_w0:=Nat.lt_of_lt_of_le lt_w0 hl26.size
 replace HA_x0:=zd (HA_x0.out.below hl26 lt_x0); replace lt_x0:=Nat.lt_of_lt_of_le lt_x0 hl26.size
 replace HA_x1:=zd (HA_x1.out.below hl26 lt_x1); replace lt_x1:=Nat.lt_of_lt_of_le lt_x1 hl26.size
 replace HA_x4:=zd (HA_x4.out.below hl26 lt_x4); replace lt_x4:=Nat.lt_of_lt_of_le lt_x4 hl26.size
 replace HA_g0:=zd (HA_g0.out.below hl26 lt_g0); replace lt_g0:=Nat.lt_of_lt_of_le lt_g0 hl26.size
 go_wp2_with (first | (refine ya0 rfl _ _ rfl rfl HA_p0.out Tryz.underlying24 k_p0 ln_p0 ?_) | (refine ya0 rfl _ _ rfl rfl HA_p1.out Tryz.underlying27 k_p1 ln_p1 ?_) | (refine ya0 rfl _ _ rfl rfl HA_p4.out Tryz.underlying40 k_p4 ln_p4 ?_) | (refine ya0 rfl _ _ rfl rfl HA_w0.out Tryz.underlying47 k_w0 ln_w0 ?_) | (refine yaa zz20 _ _ rfl rfl HA_w0.out Tryz.underlying47 k_w0 ln_w0 ?_) | (refine ya0 rfl _ _ rfl rfl HA_x0.out Tryz.underlying47 k_x0 ln_x0 ?_) | (refine ya0 rfl _ _ rfl rfl HA_x1.out Tryz.underlying51 k_x1 ln_x1 ?_) | (refine ya0 rfl _ _ rfl rfl HA_x4.out Tryz.underlying64 k_x4 ln_x4 ?_) | (refine ya0 rfl _ _ rfl rfl HA_g0.out Tryz.underlying47 k_g0 ln_g0 ?_) | (refine yaa zz20 _ _ rfl rfl HA_g0.out Tryz.underlying47 k_g0 ln_g0 ?_))
 go_cut [27,28,29,30] (fun s27 s28 s29 s30 wx => ∃ (ob lo hi : Nat) (cc : List Value),s27 = .pointer (some ⟨ob,0,none⟩) ∧ s28 = .string rr1 ∧ s29 = .bool rr2 ∧ s30 = .int .i64 rr3 ∧ Hid (FloatCut w26 wx ob lo hi cc rr0))
 case first =>
   refine wp_region_held_drew (S:=fun W' => At W' (w.heap.size) 0 cp0 ∧ At W' (w.heap.size + 1) 0 cp1 ∧ At W' (w.heap.size + 2) 0 cp4) (by kernel_rfl) ⟨HA_p0.out,HA_p1.out,HA_p4.out⟩ (fun hS => ?_)
   refine wpAnyH_take (i:=0) (v:=.agg cp0.toArray) rfl (by as_aux_lemma => kernel_rfl) (by as_aux_lemma => kernel_rfl) (by as_aux_lemma => kernel_rfl) (fun _ _ _ h => h) (yieldsIf_loadT zz43 _ _ rfl rfl (fun _ h => h.1) Tryz.underlying24 k_p0 ln_p0) hS ?_
   (try simp only [Act.put,List.getElem_toArray,List.getElem_cons_succ,List.getElem_cons_zero,List.setIfInBounds_toArray,List.set_cons_zero,List.set_cons_succ])
   refine wpAnyH_take (i:=2) (v:=.agg cp1.toArray) rfl (by as_aux_lemma => kernel_rfl) (by as_aux_lemma => kernel_rfl) (by as_aux_lemma => kernel_rfl) (fun _ _ _ h => h) (yieldsIf_loadT zz43 _ _ rfl rfl (fun _ h => h.2.1) Tryz.underlying27 k_p1 ln_p1) hS ?_
   (try simp only [Act.put,List.getElem_toArray,List.getElem_cons_succ,List.getElem_cons_zero,List.setIfInBounds_toArray,List.set_cons_zero,List.set_cons_succ])
   refine wpAnyH_take (i:=7) (v:=.agg cp4.toArray) rfl (by as_aux_lemma => kernel_rfl) (by as_aux_lemma => kernel_rfl) (by as_aux_lemma => kernel_rfl) (fun _ _ _ h => h) (yieldsIf_loadT zz43 _ _ rfl rfl (fun _ h => h.2.2) Tryz.underlying40 k_p4 ln_p4) hS ?_
   (try simp only [Act.put,List.getElem_toArray,List.getElem_cons_succ,List.getElem_cons_zero,List.setIfInBounds_toArray,List.set_cons_zero,List.set_cons_succ])
   refine wpAnyH_take (i:=4) (v:=.slice Ap2 p2.length kp2) rfl (by as_aux_lemma => kernel_rfl) (by as_aux_lemma => kernel_rfl) (by as_aux_lemma => kernel_rfl) (fun _ _ _ h => h) (yieldsIf_move zz43 _ rfl zz43) hS ?_
   (try simp only [Act.put,List.getElem_toArray,List.getElem_cons_succ,List.getElem_cons_zero,List.setIfInBounds_toArray,List.set_cons_zero,List.set_cons_succ])
   refine wpAnyH_take (i:=6) (v:=.string p3) rfl (by as_aux_lemma => kernel_rfl) (by as_aux_lemma => kernel_rfl) (by as_aux_lemma => kernel_rfl) (fun _ _ _ h => h) (yieldsIf_move zz43 _ rfl zz43) hS ?_
   (try simp only [Act.put,List.getElem_toArray,List.getElem_cons_succ,List.getElem_cons_zero,List.setIfInBounds_toArray,List.set_cons_zero,List.set_cons_succ])
   have HV:=zd ((Below.refl w26.heap.size w26).drew)
   have hv0 : w26.heap.size ≤ w26.drew.heap.size:=Nat.le_refl _
   refine wpAnyH_ready (rs:=[1,15]) (by as_aux_lemma => kernel_rfl) zz32 (AllReadyH.cons rfl (fun K hK => ?_) (AllReadyH.cons rfl (fun K hK => ?_) AllReadyH.nil))
   rotate_left
   ·as_aux_lemma =>
     (try rw [if_pos zz43])
     clear hS
     go_simp
     obtain ⟨hb_,hs_,y0,y1,yf⟩:=float_newd w26 (.int .i64 0) (.slice none 0 0) 47
     obtain ⟨a27_1,hwa⟩ : ∃ W,(w26.alloc (.cells #[.int .i64 0, .slice none 0 0] 47)).drew = W:=⟨_,rfl⟩
     rw [hwa] at hb_ hs_ y0 y1 yf ⊢
     clear hwa
     have hob : w26.heap.size < a27_1.heap.size:=zz62
     have hbl : w26.heap.size ≤ w26.heap.size:=Nat.le_refl _
     replace HV:=zd hb_; clear hb_
     refine hK.out _ _ ⟨HA_p0.out.below HV.out lt_p0,HA_p1.out.below HV.out lt_p1,HA_p4.out.below HV.out lt_p4⟩ (fun hS => ?_)
     clear hK K
     (try simp only [Act.put,List.getElem_toArray,List.getElem_cons_succ,List.getElem_cons_zero,List.setIfInBounds_toArray,List.set_cons_zero,List.set_cons_succ])
     refine wpAnyH_ready (rs:=[1]) (by as_aux_lemma => kernel_rfl) zz32 (AllReadyH.cons rfl (fun K hK => ?_) AllReadyH.nil)
     (try rw [if_pos zz43])
     clear hS
     go_simp
     refine (to_Client p0 _ _ _ (Lay.later HR_p0.out HV.out) sz_p0).mono ?_
     rintro e27_2 v27_2 ⟨c_t27_2,rfl,hr_,hb_⟩
     replace y0:=(hb_.cell (p:=⟨w26.heap.size,0,none⟩) hob).trans y0; replace y1:=(hb_.cell (p:=⟨w26.heap.size,1,none⟩) hob).trans y1; replace yf:=fun o => (hb_.frozen (p:=⟨w26.heap.size,o,none⟩) hob).trans (yf o); replace hob:=Nat.lt_of_lt_of_le hob hb_.size
     replace HV:=zd (Below.step HV.out hb_)
     have HR_t27_2:=zd hr_; clear hr_ hb_
     refine hK.out _ _ ⟨HA_p0.out.below HV.out lt_p0,HA_p1.out.below HV.out lt_p1,HA_p4.out.below HV.out lt_p4⟩ (fun hS => ?_)
     clear hK K
     (try simp only [Act.put,List.getElem_toArray,List.getElem_cons_succ,List.getElem_cons_zero,List.setIfInBounds_toArray,List.set_cons_zero,List.set_cons_succ])
     refine wpAnyH_ready (rs:=[3]) (by as_aux_lemma => kernel_rfl) zz32 (AllReadyH.cons rfl (fun K hK => ?_) AllReadyH.nil)
     (try rw [if_pos zz43])
     clear hS
     go_simp
     refine (to_Trust p1 _ _ _ (Lay.later HR_p1.out HV.out) sz_p1).mono ?_
     rintro e27_3 v27_3 ⟨c_t27_3,rfl,hr_,hb_⟩
     replace HR_t27_2:=zd (Lay.later HR_t27_2.out hb_)
     replace y0:=(hb_.cell (p:=⟨w26.heap.size,0,none⟩) hob).trans y0; replace y1:=(hb_.cell (p:=⟨w26.heap.size,1,none⟩) hob).trans y1; replace yf:=fun o => (hb_.frozen (p:=⟨w26.heap.size,o,none⟩) hob).trans (yf o); replace hob:=Nat.lt_of_lt_of_le hob hb_.size
     replace HV:=zd (Below.step HV.out hb_)
     have HR_t27_3:=zd hr_; clear hr_ hb_
     refine hK.out _ _ ⟨HA_p0.out.below HV.out lt_p0,HA_p1.out.below HV.out lt_p1,HA_p4.out.below HV.out lt_p4⟩ (fun hS => ?_)
     clear hK K
     (try simp only [Act.put,List.getElem_toArray,List.getElem_cons_succ,List.getElem_cons_zero,List.setIfInBounds_toArray,List.set_cons_zero,List.set_cons_succ])
     refine wpAnyH_ready (rs:=[5]) (by as_aux_lemma => kernel_rfl) zz32 (AllReadyH.cons rfl (fun K hK => ?_) AllReadyH.nil)
     (try rw [if_pos zz43])
     clear hS
     go_simp
     refine (to_SealS p2 _ Ap2 kp2 _ (Row.later HR_p2.out HV.out) sz_p2).mono ?_
     rintro e27_4 v27_4 ⟨A_t27_4,c_t27_4,rfl,lt27_4,mt27_4,hr_,hb_⟩
     replace HR_t27_2:=zd (Lay.later HR_t27_2.out hb_)
     replace HR_t27_3:=zd (Lay.later HR_t27_3.out hb_)
     replace y0:=(hb_.cell (p:=⟨w26.heap.size,0,none⟩) hob).trans y0; replace y1:=(hb_.cell (p:=⟨w26.heap.size,1,none⟩) hob).trans y1; replace yf:=fun o => (hb_.frozen (p:=⟨w26.heap.size,o,none⟩) hob).trans (yf o); replace hob:=Nat.lt_of_lt_of_le hob hb_.size
     replace HV:=zd (Below.step HV.out hb_)
     have HR_t27_4:=zd hr_; clear hr_ hb_
     refine hK.out _ _ ⟨HA_p0.out.below HV.out lt_p0,HA_p1.out.below HV.out lt_p1,HA_p4.out.below HV.out lt_p4⟩ (fun hS => ?_)
     clear hK K
     (try simp only [Act.put,List.getElem_toArray,List.getElem_cons_succ,List.getElem_cons_zero,List.setIfInBounds_toArray,List.set_cons_zero,List.set_cons_succ])
     refine wpAnyH_ready (rs:=[8]) (by as_aux_lemma => kernel_rfl) zz32 (AllReadyH.cons rfl (fun K hK => ?_) AllReadyH.nil)
     (try rw [if_pos zz43])
     clear hS
     go_simp
     refine (to_Whole p4 _ _ _ (Lay.later HR_p4.out HV.out) sz_p4).mono ?_
     rintro e27_5 v27_5 ⟨c_t27_5,rfl,hr_,hb_⟩
     replace HR_t27_2:=zd (Lay.later HR_t27_2.out hb_)
     replace HR_t27_3:=zd (Lay.later HR_t27_3.out hb_)
     replace HR_t27_4:=zd (Row.later HR_t27_4.out hb_)
     replace y0:=(hb_.cell (p:=⟨w26.heap.size,0,none⟩) hob).trans y0; replace y1:=(hb_.cell (p:=⟨w26.heap.size,1,none⟩) hob).trans y1; replace yf:=fun o => (hb_.frozen (p:=⟨w26.heap.size,o,none⟩) hob).trans (yf o); replace hob:=Nat.lt_of_lt_of_le hob hb_.size
     replace HV:=zd (Below.step HV.out hb_)
     have HR_t27_5:=zd hr_; clear hr_ hb_
     refine hK.out _ _ ⟨HA_p0.out.below HV.out lt_p0,HA_p1.out.below HV.out lt_p1,HA_p4.out.below HV.out lt_p4⟩ (fun hS => ?_)
     clear hK K
     (try simp only [Act.put,List.getElem_toArray,List.getElem_cons_succ,List.getElem_cons_zero,List.setIfInBounds_toArray,List.set_cons_zero,List.set_cons_succ])
     refine wpAnyH_ready (rs:=[9]) (by as_aux_lemma => kernel_rfl) zz32 (AllReadyH.cons rfl (fun K hK => ?_) AllReadyH.nil)
     (try rw [if_pos zz43])
     clear hS
     go_simp
     have hv1 : w26.heap.size ≤ v27_5.heap.size:=HV.out.size
     have hv2 : w26.heap.size < v27_5.heap.size:=hob
     refine (HIP.out _ c_t27_2 _ (Lay.weak HR_t27_2.out) c_t27_3 _ (Lay.weak HR_t27_3.out) A_t27_4 c_t27_4 _ (Row.weak HR_t27_4.out) lt27_4 mt27_4 c_t27_5 _ (Lay.weak HR_t27_5.out) (Tabs.later (Tabs.later HTb.out hB26) HV.out)).mono ?_
     rintro e27_6 v27_6 ⟨c_h0,rfl,hr_,hb_⟩
     have hsz_:=hb_.size
     obtain ⟨A_o,k_o,S_o,hcs_, -⟩:=Client.open hr_
     subst hcs_
     simp only [Client.cs] at hr_ ⊢
     replace HR_t27_2:=zd (Lay.later HR_t27_2.out hb_)
     replace HR_t27_3:=zd (Lay.later HR_t27_3.out hb_)
     replace HR_t27_4:=zd (Row.later HR_t27_4.out hb_)
     replace HR_t27_5:=zd (Lay.later HR_t27_5.out hb_)
     replace y0:=(hb_.cell (p:=⟨w26.heap.size,0,none⟩) hob).trans y0; replace y1:=(hb_.cell (p:=⟨w26.heap.size,1,none⟩) hob).trans y1; replace yf:=fun o => (hb_.frozen (p:=⟨w26.heap.size,o,none⟩) hob).trans (yf o); replace hob:=Nat.lt_of_lt_of_le hob hb_.size
     replace HV:=zd (Below.step HV.out hb_)
     have HRES:=zd (Lay.mono hr_ (S':=rng v27_5.heap.size v27_6.heap.size) (fun b h => zz26)); clear hr_ hb_
     refine hK.out _ _ ⟨HA_p0.out.below HV.out lt_p0,HA_p1.out.below HV.out lt_p1,HA_p4.out.below HV.out lt_p4⟩ (fun hS => ?_)
     clear hK K
     (try simp only [Act.put,List.getElem_toArray,List.getElem_cons_succ,List.getElem_cons_zero,List.setIfInBounds_toArray,List.set_cons_zero,List.set_cons_succ])
     refine wpAnyH_take (i:=10) (v:=.tuple #[.agg #[.int .i64 rr0.house, .slice A_o rr0.seen.length k_o], .string rr1, .bool rr2, .int .i64 rr3]) rfl (by as_aux_lemma => kernel_rfl) (by as_aux_lemma => kernel_rfl) (by as_aux_lemma => kernel_rfl) (fun _ _ _ h => h) (yieldsIf_move zz43 _ rfl zz43) hS ?_
     (try simp only [Act.put,List.getElem_toArray,List.getElem_cons_succ,List.getElem_cons_zero,List.setIfInBounds_toArray,List.set_cons_zero,List.set_cons_succ])
     refine wpAnyH_take (i:=11) (v:=.agg #[.int .i64 rr0.house, .slice A_o rr0.seen.length k_o]) rfl (by as_aux_lemma => kernel_rfl) (by as_aux_lemma => kernel_rfl) (by as_aux_lemma => kernel_rfl) (fun _ _ _ h => h) (ya5 zz43 _ 0 rfl zz43 zz43) hS ?_
     (try simp only [Act.put,List.getElem_toArray,List.getElem_cons_succ,List.getElem_cons_zero,List.setIfInBounds_toArray,List.set_cons_zero,List.set_cons_succ])
     refine wpAnyH_take (i:=12) (v:=.string rr1) rfl (by as_aux_lemma => kernel_rfl) (by as_aux_lemma => kernel_rfl) (by as_aux_lemma => kernel_rfl) (fun _ _ _ h => h) (ya5 zz43 _ 1 rfl zz43 zz43) hS ?_
     (try simp only [Act.put,List.getElem_toArray,List.getElem_cons_succ,List.getElem_cons_zero,List.setIfInBounds_toArray,List.set_cons_zero,List.set_cons_succ])
     refine wpAnyH_take (i:=13) (v:=.bool rr2) rfl (by as_aux_lemma => kernel_rfl) (by as_aux_lemma => kernel_rfl) (by as_aux_lemma => kernel_rfl) (fun _ _ _ h => h) (ya5 zz43 _ 2 rfl zz43 zz43) hS ?_
     (try simp only [Act.put,List.getElem_toArray,List.getElem_cons_succ,List.getElem_cons_zero,List.setIfInBounds_toArray,List.set_cons_zero,List.set_cons_succ])
     refine wpAnyH_take (i:=14) (v:=.int .i64 rr3) rfl (by as_aux_lemma => kernel_rfl) (by as_aux_lemma => kernel_rfl) (by as_aux_lemma => kernel_rfl) (fun _ _ _ h => h) (ya5 zz43 _ 3 rfl zz43 zz43) hS ?_
     (try simp only [Act.put,List.getElem_toArray,List.getElem_cons_succ,List.getElem_cons_zero,List.setIfInBounds_toArray,List.set_cons_zero,List.set_cons_succ])
     refine wpAnyH_ready (rs:=[16]) (by as_aux_lemma => kernel_rfl) zz32 (AllReadyH.cons rfl (fun K hK => ?_) AllReadyH.nil)
     (try rw [if_pos zz43])
     clear hS
     go_simp
     refine hK.out _ _ ⟨HA_p0.out.below (Below.setCell (Below.setCell HV.out hbl _) hbl _) lt_p0,HA_p1.out.below (Below.setCell (Below.setCell HV.out hbl _) hbl _) lt_p1,HA_p4.out.below (Below.setCell (Below.setCell HV.out hbl _) hbl _) lt_p4⟩ (fun hS => ?_)
     clear hK K
     (try (try simp only [Act.put,List.getElem_toArray,List.getElem_cons_succ,List.getElem_cons_zero,List.setIfInBounds_toArray,List.set_cons_zero,List.set_cons_succ]))
     refine wpAnyH_take (i:=17) (v:=.string rr1) rfl (by as_aux_lemma => kernel_rfl) (by as_aux_lemma => kernel_rfl) (by as_aux_lemma => kernel_rfl) (fun _ _ _ h => h) (ya8 zz43 _ rfl zz43) hS ?_
     (try simp only [Act.put,List.getElem_toArray,List.getElem_cons_succ,List.getElem_cons_zero,List.setIfInBounds_toArray,List.set_cons_zero,List.set_cons_succ])
     refine wpAnyH_take (i:=18) (v:=.bool rr2) rfl (by as_aux_lemma => kernel_rfl) (by as_aux_lemma => kernel_rfl) (by as_aux_lemma => kernel_rfl) (fun _ _ _ h => h) (ya8 zz43 _ rfl zz43) hS ?_
     (try simp only [Act.put,List.getElem_toArray,List.getElem_cons_succ,List.getElem_cons_zero,List.setIfInBounds_toArray,List.set_cons_zero,List.set_cons_succ])
     refine wpAnyH_take (i:=19) (v:=.int .i64 rr3) rfl (by as_aux_lemma => kernel_rfl) (by as_aux_lemma => kernel_rfl) (by as_aux_lemma => kernel_rfl) (fun _ _ _ h => h) (ya8 zz43 _ rfl zz43) hS ?_
     (try simp only [Act.put,List.getElem_toArray,List.getElem_cons_succ,List.getElem_cons_zero,List.setIfInBounds_toArray,List.set_cons_zero,List.set_cons_succ])
     refine wpAnyH_done (by as_aux_lemma => kernel_rfl) ?_ _
     clear hS
     (try go_wp2_with (fail))
     go_meet
     exact ⟨w26.heap.size,v27_5.heap.size,v27_6.heap.size,_,rfl,rfl,rfl,rfl,zd (FloatCut.put HV.out hbl hob hv1 (by have:=HV.out.size; omega) zz8 HRES.out y0 y1)⟩
   (try rw [if_pos zz43])
   clear hS
   go_simp
   refine (to_Client p0 _ _ _ (Lay.later HR_p0.out HV.out) sz_p0).mono ?_
   rintro e27_7 v27_7 ⟨c_t27_7,rfl,hr_,hb_⟩
   replace HV:=zd (Below.step HV.out hb_)
   have HR_t27_7:=zd hr_; clear hr_ hb_
   refine hK.out _ _ ⟨HA_p0.out.below HV.out lt_p0,HA_p1.out.below HV.out lt_p1,HA_p4.out.below HV.out lt_p4⟩ (fun hS => ?_)
   clear hK K
   (try simp only [Act.put,List.getElem_toArray,List.getElem_cons_succ,List.getElem_cons_zero,List.setIfInBounds_toArray,List.set_cons_zero,List.set_cons_succ])
   refine wpAnyH_ready (rs:=[3,15]) (by as_aux_lemma => kernel_rfl) zz32 (AllReadyH.cons rfl (fun K hK => ?_) (AllReadyH.cons rfl (fun K hK => ?_) AllReadyH.nil))
   rotate_left
   ·as_aux_lemma =>
     (try rw [if_pos zz43])
     clear hS
     go_simp
     obtain ⟨hb_,hs_,y0,y1,yf⟩:=float_new v27_7 (.int .i64 0) (.slice none 0 0) 47
     obtain ⟨a27_8,hwa⟩ : ∃ W,v27_7.alloc (.cells #[.int .i64 0, .slice none 0 0] 47) = W:=⟨_,rfl⟩
     rw [hwa] at hb_ hs_ y0 y1 yf ⊢
     clear hwa
     have hob : v27_7.heap.size < a27_8.heap.size:=zz62
     have hbl : w26.heap.size ≤ v27_7.heap.size:=HV.out.size
     replace HR_t27_7:=zd (Lay.later HR_t27_7.out hb_)
     replace HV:=zd (Below.step HV.out hb_); clear hb_
     refine hK.out _ _ ⟨HA_p0.out.below HV.out lt_p0,HA_p1.out.below HV.out lt_p1,HA_p4.out.below HV.out lt_p4⟩ (fun hS => ?_)
     clear hK K
     (try simp only [Act.put,List.getElem_toArray,List.getElem_cons_succ,List.getElem_cons_zero,List.setIfInBounds_toArray,List.set_cons_zero,List.set_cons_succ])
     refine wpAnyH_ready (rs:=[3]) (by as_aux_lemma => kernel_rfl) zz32 (AllReadyH.cons rfl (fun K hK => ?_) AllReadyH.nil)
     (try rw [if_pos zz43])
     clear hS
     go_simp
     refine (to_Trust p1 _ _ _ (Lay.later HR_p1.out HV.out) sz_p1).mono ?_
     rintro e27_9 v27_9 ⟨c_t27_9,rfl,hr_,hb_⟩
     replace HR_t27_7:=zd (Lay.later HR_t27_7.out hb_)
     replace y0:=(hb_.cell (p:=⟨v27_7.heap.size,0,none⟩) hob).trans y0; replace y1:=(hb_.cell (p:=⟨v27_7.heap.size,1,none⟩) hob).trans y1; replace yf:=fun o => (hb_.frozen (p:=⟨v27_7.heap.size,o,none⟩) hob).trans (yf o); replace hob:=Nat.lt_of_lt_of_le hob hb_.size
     replace HV:=zd (Below.step HV.out hb_)
     have HR_t27_9:=zd hr_; clear hr_ hb_
     refine hK.out _ _ ⟨HA_p0.out.below HV.out lt_p0,HA_p1.out.below HV.out lt_p1,HA_p4.out.below HV.out lt_p4⟩ (fun hS => ?_)
     clear hK K
     (try simp only [Act.put,List.getElem_toArray,List.getElem_cons_succ,List.getElem_cons_zero,List.setIfInBounds_toArray,List.set_cons_zero,List.set_cons_succ])
     refine wpAnyH_ready (rs:=[5]) (by as_aux_lemma => kernel_rfl) zz32 (AllReadyH.cons rfl (fun K hK => ?_) AllReadyH.nil)
     (try rw [if_pos zz43])
     clear hS
     go_simp
     refine (to_SealS p2 _ Ap2 kp2 _ (Row.later HR_p2.out HV.out) sz_p2).mono ?_
     rintro e27_10 v27_10 ⟨A_t27_10,c_t27_10,rfl,lt27_10,mt27_10,hr_,hb_⟩
     replace HR_t27_7:=zd (Lay.later HR_t27_7.out hb_)
     replace HR_t27_9:=zd (Lay.later HR_t27_9.out hb_)
     replace y0:=(hb_.cell (p:=⟨v27_7.heap.size,0,none⟩) hob).trans y0; replace y1:=(hb_.cell (p:=⟨v27_7.heap.size,1,none⟩) hob).trans y1; replace yf:=fun o => (hb_.frozen (p:=⟨v27_7.heap.size,o,none⟩) hob).trans (yf o); replace hob:=Nat.lt_of_lt_of_le hob hb_.size
     replace HV:=zd (Below.step HV.out hb_)
     have HR_t27_10:=zd hr_; clear hr_ hb_
     refine hK.out _ _ ⟨HA_p0.out.below HV.out lt_p0,HA_p1.out.below HV.out lt_p1,HA_p4.out.below HV.out lt_p4⟩ (fun hS => ?_)
     clear hK K
     (try simp only [Act.put,List.getElem_toArray,List.getElem_cons_succ,List.getElem_cons_zero,List.setIfInBounds_toArray,List.set_cons_zero,List.set_cons_succ])
     refine wpAnyH_ready (rs:=[8]) (by as_aux_lemma => kernel_rfl) zz32 (AllReadyH.cons rfl (fun K hK => ?_) AllReadyH.nil)
     (try rw [if_pos zz43])
     clear hS
     go_simp
     refine (to_Whole p4 _ _ _ (Lay.later HR_p4.out HV.out) sz_p4).mono ?_
     rintro e27_11 v27_11 ⟨c_t27_11,rfl,hr_,hb_⟩
     replace HR_t27_7:=zd (Lay.later HR_t27_7.out hb_)
     replace HR_t27_9:=zd (Lay.later HR_t27_9.out hb_)
     replace HR_t27_10:=zd (Row.later HR_t27_10.out hb_)
     replace y0:=(hb_.cell (p:=⟨v27_7.heap.size,0,none⟩) hob).trans y0; replace y1:=(hb_.cell (p:=⟨v27_7.heap.size,1,none⟩) hob).trans y1; replace yf:=fun o => (hb_.frozen (p:=⟨v27_7.heap.size,o,none⟩) hob).trans (yf o); replace hob:=Nat.lt_of_lt_of_le hob hb_.size
     replace HV:=zd (Below.step HV.out hb_)
     have HR_t27_11:=zd hr_; clear hr_ hb_
     refine hK.out _ _ ⟨HA_p0.out.below HV.out lt_p0,HA_p1.out.below HV.out lt_p1,HA_p4.out.below HV.out lt_p4⟩ (fun hS => ?_)
     clear hK K
     (try simp only [Act.put,List.getElem_toArray,List.getElem_cons_succ,List.getElem_cons_zero,List.setIfInBounds_toArray,List.set_cons_zero,List.set_cons_succ])
     refine wpAnyH_ready (rs:=[9]) (by as_aux_lemma => kernel_rfl) zz32 (AllReadyH.cons rfl (fun K hK => ?_) AllReadyH.nil)
     (try rw [if_pos zz43])
     clear hS
     go_simp
     have hv1 : w26.heap.size ≤ v27_11.heap.size:=HV.out.size
     have hv2 : v27_7.heap.size < v27_11.heap.size:=hob
     refine (HIP.out _ c_t27_7 _ (Lay.weak HR_t27_7.out) c_t27_9 _ (Lay.weak HR_t27_9.out) A_t27_10 c_t27_10 _ (Row.weak HR_t27_10.out) lt27_10 mt27_10 c_t27_11 _ (Lay.weak HR_t27_11.out) (Tabs.later (Tabs.later HTb.out hB26) HV.out)).mono ?_
     rintro e27_12 v27_12 ⟨c_h0,rfl,hr_,hb_⟩
     have hsz_:=hb_.size
     obtain ⟨A_o,k_o,S_o,hcs_, -⟩:=Client.open hr_
     subst hcs_
     simp only [Client.cs] at hr_ ⊢
     replace HR_t27_7:=zd (Lay.later HR_t27_7.out hb_)
     replace HR_t27_9:=zd (Lay.later HR_t27_9.out hb_)
     replace HR_t27_10:=zd (Row.later HR_t27_10.out hb_)
     replace HR_t27_11:=zd (Lay.later HR_t27_11.out hb_)
     replace y0:=(hb_.cell (p:=⟨v27_7.heap.size,0,none⟩) hob).trans y0; replace y1:=(hb_.cell (p:=⟨v27_7.heap.size,1,none⟩) hob).trans y1; replace yf:=fun o => (hb_.frozen (p:=⟨v27_7.heap.size,o,none⟩) hob).trans (yf o); replace hob:=Nat.lt_of_lt_of_le hob hb_.size
     replace HV:=zd (Below.step HV.out hb_)
     have HRES:=zd (Lay.mono hr_ (S':=rng v27_11.heap.size v27_12.heap.size) (fun b h => zz26)); clear hr_ hb_
     refine hK.out _ _ ⟨HA_p0.out.below HV.out lt_p0,HA_p1.out.below HV.out lt_p1,HA_p4.out.below HV.out lt_p4⟩ (fun hS => ?_)
     clear hK K
     (try simp only [Act.put,List.getElem_toArray,List.getElem_cons_succ,List.getElem_cons_zero,List.setIfInBounds_toArray,List.set_cons_zero,List.set_cons_succ])
     refine wpAnyH_take (i:=10) (v:=.tuple #[.agg #[.int .i64 rr0.house, .slice A_o rr0.seen.length k_o], .string rr1, .bool rr2, .int .i64 rr3]) rfl (by as_aux_lemma => kernel_rfl) (by as_aux_lemma => kernel_rfl) (by as_aux_lemma => kernel_rfl) (fun _ _ _ h => h) (yieldsIf_move zz43 _ rfl zz43) hS ?_
     (try simp only [Act.put,List.getElem_toArray,List.getElem_cons_succ,List.getElem_cons_zero,List.setIfInBounds_toArray,List.set_cons_zero,List.set_cons_succ])
     refine wpAnyH_take (i:=11) (v:=.agg #[.int .i64 rr0.house, .slice A_o rr0.seen.length k_o]) rfl (by as_aux_lemma => kernel_rfl) (by as_aux_lemma => kernel_rfl) (by as_aux_lemma => kernel_rfl) (fun _ _ _ h => h) (ya5 zz43 _ 0 rfl zz43 zz43) hS ?_
     (try simp only [Act.put,List.getElem_toArray,List.getElem_cons_succ,List.getElem_cons_zero,List.setIfInBounds_toArray,List.set_cons_zero,List.set_cons_succ])
     refine wpAnyH_take (i:=12) (v:=.string rr1) rfl (by as_aux_lemma => kernel_rfl) (by as_aux_lemma => kernel_rfl) (by as_aux_lemma => kernel_rfl) (fun _ _ _ h => h) (ya5 zz43 _ 1 rfl zz43 zz43) hS ?_
     (try simp only [Act.put,List.getElem_toArray,List.getElem_cons_succ,List.getElem_cons_zero,List.setIfInBounds_toArray,List.set_cons_zero,List.set_cons_succ])
     refine wpAnyH_take (i:=13) (v:=.bool rr2) rfl (by as_aux_lemma => kernel_rfl) (by as_aux_lemma => kernel_rfl) (by as_aux_lemma => kernel_rfl) (fun _ _ _ h => h) (ya5 zz43 _ 2 rfl zz43 zz43) hS ?_
     (try simp only [Act.put,List.getElem_toArray,List.getElem_cons_succ,List.getElem_cons_zero,List.setIfInBounds_toArray,List.set_cons_zero,List.set_cons_succ])
     refine wpAnyH_take (i:=14) (v:=.int .i64 rr3) rfl (by as_aux_lemma => kernel_rfl) (by as_aux_lemma => kernel_rfl) (by as_aux_lemma => kernel_rfl) (fun _ _ _ h => h) (ya5 zz43 _ 3 rfl zz43 zz43) hS ?_
     (try simp only [Act.put,List.getElem_toArray,List.getElem_cons_succ,List.getElem_cons_zero,List.setIfInBounds_toArray,List.set_cons_zero,List.set_cons_succ])
     refine wpAnyH_ready (rs:=[16]) (by as_aux_lemma => kernel_rfl) zz32 (AllReadyH.cons rfl (fun K hK => ?_) AllReadyH.nil)
     (try rw [if_pos zz43])
     clear hS
     go_simp
     refine hK.out _ _ ⟨HA_p0.out.below (Below.setCell (Below.setCell HV.out hbl _) hbl _) lt_p0,HA_p1.out.below (Below.setCell (Below.setCell HV.out hbl _) hbl _) lt_p1,HA_p4.out.below (Below.setCell (Below.setCell HV.out hbl _) hbl _) lt_p4⟩ (fun hS => ?_)
     clear hK K
     (try (try simp only [Act.put,List.getElem_toArray,List.getElem_cons_succ,List.getElem_cons_zero,List.setIfInBounds_toArray,List.set_cons_zero,List.set_cons_succ]))
     refine wpAnyH_take (i:=17) (v:=.string rr1) rfl (by as_aux_lemma => kernel_rfl) (by as_aux_lemma => kernel_rfl) (by as_aux_lemma => kernel_rfl) (fun _ _ _ h => h) (ya8 zz43 _ rfl zz43) hS ?_
     (try simp only [Act.put,List.getElem_toArray,List.getElem_cons_succ,List.getElem_cons_zero,List.setIfInBounds_toArray,List.set_cons_zero,List.set_cons_succ])
     refine wpAnyH_take (i:=18) (v:=.bool rr2) rfl (by as_aux_lemma => kernel_rfl) (by as_aux_lemma => kernel_rfl) (by as_aux_lemma => kernel_rfl) (fun _ _ _ h => h) (ya8 zz43 _ rfl zz43) hS ?_
     (try simp only [Act.put,List.getElem_toArray,List.getElem_cons_succ,List.getElem_cons_zero,List.setIfInBounds_toArray,List.set_cons_zero,List.set_cons_succ])
     refine wpAnyH_take (i:=19) (v:=.int .i64 rr3) rfl (by as_aux_lemma => kernel_rfl) (by as_aux_lemma => kernel_rfl) (by as_aux_lemma => kernel_rfl) (fun _ _ _ h => h) (ya8 zz43 _ rfl zz43) hS ?_
     (try simp only [Act.put,List.getElem_toArray,List.getElem_cons_succ,List.getElem_cons_zero,List.setIfInBounds_toArray,List.set_cons_zero,List.set_cons_succ])
     refine wpAnyH_done (by as_aux_lemma => kernel_rfl) ?_ _
     clear hS
     (try go_wp2_with (fail))
     go_meet
     exact ⟨v27_7.heap.size,v27_11.heap.size,v27_12.heap.size,_,rfl,rfl,rfl,rfl,zd (FloatCut.put HV.out hbl hob hv1 (by have:=HV.out.size; omega) zz8 HRES.out y0 y1)⟩
   (try rw [if_pos zz43])
   clear hS
   go_simp
   refine (to_Trust p1 _ _ _ (Lay.later HR_p1.out HV.out) sz_p1).mono ?_
   rintro e27_13 v27_13 ⟨c_t27_13,rfl,hr_,hb_⟩
   replace HR_t27_7:=zd (Lay.later HR_t27_7.out hb_)
   replace HV:=zd (Below.step HV.out hb_)
   have HR_t27_13:=zd hr_; clear hr_ hb_
   refine hK.out _ _ ⟨HA_p0.out.below HV.out lt_p0,HA_p1.out.below HV.out lt_p1,HA_p4.out.below HV.out lt_p4⟩ (fun hS => ?_)
   clear hK K
   (try simp only [Act.put,List.getElem_toArray,List.getElem_cons_succ,List.getElem_cons_zero,List.setIfInBounds_toArray,List.set_cons_zero,List.set_cons_succ])
   refine wpAnyH_ready (rs:=[5,15]) (by as_aux_lemma => kernel_rfl) zz32 (AllReadyH.cons rfl (fun K hK => ?_) (AllReadyH.cons rfl (fun K hK => ?_) AllReadyH.nil))
   rotate_left
   ·as_aux_lemma =>
     (try rw [if_pos zz43])
     clear hS
     go_simp
     obtain ⟨hb_,hs_,y0,y1,yf⟩:=float_new v27_13 (.int .i64 0) (.slice none 0 0) 47
     obtain ⟨a27_14,hwa⟩ : ∃ W,v27_13.alloc (.cells #[.int .i64 0, .slice none 0 0] 47) = W:=⟨_,rfl⟩
     rw [hwa] at hb_ hs_ y0 y1 yf ⊢
     clear hwa
     have hob : v27_13.heap.size < a27_14.heap.size:=zz62
     have hbl : w26.heap.size ≤ v27_13.heap.size:=HV.out.size
     replace HR_t27_7:=zd (Lay.later HR_t27_7.out hb_)
     replace HR_t27_13:=zd (Lay.later HR_t27_13.out hb_)
     replace HV:=zd (Below.step HV.out hb_); clear hb_
     refine hK.out _ _ ⟨HA_p0.out.below HV.out lt_p0,HA_p1.out.below HV.out lt_p1,HA_p4.out.below HV.out lt_p4⟩ (fun hS => ?_)
     clear hK K
     (try simp only [Act.put,List.getElem_toArray,List.getElem_cons_succ,List.getElem_cons_zero,List.setIfInBounds_toArray,List.set_cons_zero,List.set_cons_succ])
     refine wpAnyH_ready (rs:=[5]) (by as_aux_lemma => kernel_rfl) zz32 (AllReadyH.cons rfl (fun K hK => ?_) AllReadyH.nil)
     (try rw [if_pos zz43])
     clear hS
     go_simp
     refine (to_SealS p2 _ Ap2 kp2 _ (Row.later HR_p2.out HV.out) sz_p2).mono ?_
     rintro e27_15 v27_15 ⟨A_t27_15,c_t27_15,rfl,lt27_15,mt27_15,hr_,hb_⟩
     replace HR_t27_7:=zd (Lay.later HR_t27_7.out hb_)
     replace HR_t27_13:=zd (Lay.later HR_t27_13.out hb_)
     replace y0:=(hb_.cell (p:=⟨v27_13.heap.size,0,none⟩) hob).trans y0; replace y1:=(hb_.cell (p:=⟨v27_13.heap.size,1,none⟩) hob).trans y1; replace yf:=fun o => (hb_.frozen (p:=⟨v27_13.heap.size,o,none⟩) hob).trans (yf o); replace hob:=Nat.lt_of_lt_of_le hob hb_.size
     replace HV:=zd (Below.step HV.out hb_)
     have HR_t27_15:=zd hr_; clear hr_ hb_
     refine hK.out _ _ ⟨HA_p0.out.below HV.out lt_p0,HA_p1.out.below HV.out lt_p1,HA_p4.out.below HV.out lt_p4⟩ (fun hS => ?_)
     clear hK K
     (try simp only [Act.put,List.getElem_toArray,List.getElem_cons_succ,List.getElem_cons_zero,List.setIfInBounds_toArray,List.set_cons_zero,List.set_cons_succ])
     refine wpAnyH_ready (rs:=[8]) (by as_aux_lemma => kernel_rfl) zz32 (AllReadyH.cons rfl (fun K hK => ?_) AllReadyH.nil)
     (try rw [if_pos zz43])
     clear hS
     go_simp
     refine (to_Whole p4 _ _ _ (Lay.later HR_p4.out HV.out) sz_p4).mono ?_
     rintro e27_16 v27_16 ⟨c_t27_16,rfl,hr_,hb_⟩
     replace HR_t27_7:=zd (Lay.later HR_t27_7.out hb_)
     replace HR_t27_13:=zd (Lay.later HR_t27_13.out hb_)
     replace HR_t27_15:=zd (Row.later HR_t27_15.out hb_)
     replace y0:=(hb_.cell (p:=⟨v27_13.heap.size,0,none⟩) hob).trans y0; replace y1:=(hb_.cell (p:=⟨v27_13.heap.size,1,none⟩) hob).trans y1; replace yf:=fun o => (hb_.frozen (p:=⟨v27_13.heap.size,o,none⟩) hob).trans (yf o); replace hob:=Nat.lt_of_lt_of_le hob hb_.size
     replace HV:=zd (Below.step HV.out hb_)
     have HR_t27_16:=zd hr_; clear hr_ hb_
     refine hK.out _ _ ⟨HA_p0.out.below HV.out lt_p0,HA_p1.out.below HV.out lt_p1,HA_p4.out.below HV.out lt_p4⟩ (fun hS => ?_)
     clear hK K
     (try simp only [Act.put,List.getElem_toArray,List.getElem_cons_succ,List.getElem_cons_zero,List.setIfInBounds_toArray,List.set_cons_zero,List.set_cons_succ])
     refine wpAnyH_ready (rs:=[9]) (by as_aux_lemma => kernel_rfl) zz32 (AllReadyH.cons rfl (fun K hK => ?_) AllReadyH.nil)
     (try rw [if_pos zz43])
     clear hS
     go_simp
     have hv1 : w26.heap.size ≤ v27_16.heap.size:=HV.out.size
     have hv2 : v27_13.heap.size < v27_16.heap.size:=hob
     refine (HIP.out _ c_t27_7 _ (Lay.weak HR_t27_7.out) c_t27_13 _ (Lay.weak HR_t27_13.out) A_t27_15 c_t27_15 _ (Row.weak HR_t27_15.out) lt27_15 mt27_15 c_t27_16 _ (Lay.weak HR_t27_16.out) (Tabs.later (Tabs.later HTb.out hB26) HV.out)).mono ?_
     rintro e27_17 v27_17 ⟨c_h0,rfl,hr_,hb_⟩
     have hsz_:=hb_.size
     obtain ⟨A_o,k_o,S_o,hcs_, -⟩:=Client.open hr_
     subst hcs_
     simp only [Client.cs] at hr_ ⊢
     replace HR_t27_7:=zd (Lay.later HR_t27_7.out hb_)
     replace HR_t27_13:=zd (Lay.later HR_t27_13.out hb_)
     replace HR_t27_15:=zd (Row.later HR_t27_15.out hb_)
     replace HR_t27_16:=zd (Lay.later HR_t27_16.out hb_)
     replace y0:=(hb_.cell (p:=⟨v27_13.heap.size,0,none⟩) hob).trans y0; replace y1:=(hb_.cell (p:=⟨v27_13.heap.size,1,none⟩) hob).trans y1; replace yf:=fun o => (hb_.frozen (p:=⟨v27_13.heap.size,o,none⟩) hob).trans (yf o); replace hob:=Nat.lt_of_lt_of_le hob hb_.size
     replace HV:=zd (Below.step HV.out hb_)
     have HRES:=zd (Lay.mono hr_ (S':=rng v27_16.heap.size v27_17.heap.size) (fun b h => zz26)); clear hr_ hb_
     refine hK.out _ _ ⟨HA_p0.out.below HV.out lt_p0,HA_p1.out.below HV.out lt_p1,HA_p4.out.below HV.out lt_p4⟩ (fun hS => ?_)
     clear hK K
     (try simp only [Act.put,List.getElem_toArray,List.getElem_cons_succ,List.getElem_cons_zero,List.setIfInBounds_toArray,List.set_cons_zero,List.set_cons_succ])
     refine wpAnyH_take (i:=10) (v:=.tuple #[.agg #[.int .i64 rr0.house, .slice A_o rr0.seen.length k_o], .string rr1, .bool rr2, .int .i64 rr3]) rfl (by as_aux_lemma => kernel_rfl) (by as_aux_lemma => kernel_rfl) (by as_aux_lemma => kernel_rfl) (fun _ _ _ h => h) (yieldsIf_move zz43 _ rfl zz43) hS ?_
     (try simp only [Act.put,List.getElem_toArray,List.getElem_cons_succ,List.getElem_cons_zero,List.setIfInBounds_toArray,List.set_cons_zero,List.set_cons_succ])
     refine wpAnyH_take (i:=11) (v:=.agg #[.int .i64 rr0.house, .slice A_o rr0.seen.length k_o]) rfl (by as_aux_lemma => kernel_rfl) (by as_aux_lemma => kernel_rfl) (by as_aux_lemma => kernel_rfl) (fun _ _ _ h => h) (ya5 zz43 _ 0 rfl zz43 zz43) hS ?_
     (try simp only [Act.put,List.getElem_toArray,List.getElem_cons_succ,List.getElem_cons_zero,List.setIfInBounds_toArray,List.set_cons_zero,List.set_cons_succ])
     refine wpAnyH_take (i:=12) (v:=.string rr1) rfl (by as_aux_lemma => kernel_rfl) (by as_aux_lemma => kernel_rfl) (by as_aux_lemma => kernel_rfl) (fun _ _ _ h => h) (ya5 zz43 _ 1 rfl zz43 zz43) hS ?_
     (try simp only [Act.put,List.getElem_toArray,List.getElem_cons_succ,List.getElem_cons_zero,List.setIfInBounds_toArray,List.set_cons_zero,List.set_cons_succ])
     refine wpAnyH_take (i:=13) (v:=.bool rr2) rfl (by as_aux_lemma => kernel_rfl) (by as_aux_lemma => kernel_rfl) (by as_aux_lemma => kernel_rfl) (fun _ _ _ h => h) (ya5 zz43 _ 2 rfl zz43 zz43) hS ?_
     (try simp only [Act.put,List.getElem_toArray,List.getElem_cons_succ,List.getElem_cons_zero,List.setIfInBounds_toArray,List.set_cons_zero,List.set_cons_succ])
     refine wpAnyH_take (i:=14) (v:=.int .i64 rr3) rfl (by as_aux_lemma => kernel_rfl) (by as_aux_lemma => kernel_rfl) (by as_aux_lemma => kernel_rfl) (fun _ _ _ h => h) (ya5 zz43 _ 3 rfl zz43 zz43) hS ?_
     (try simp only [Act.put,List.getElem_toArray,List.getElem_cons_succ,List.getElem_cons_zero,List.setIfInBounds_toArray,List.set_cons_zero,List.set_cons_succ])
     refine wpAnyH_ready (rs:=[16]) (by as_aux_lemma => kernel_rfl) zz32 (AllReadyH.cons rfl (fun K hK => ?_) AllReadyH.nil)
     (try rw [if_pos zz43])
     clear hS
     go_simp
     refine hK.out _ _ ⟨HA_p0.out.below (Below.setCell (Below.setCell HV.out hbl _) hbl _) lt_p0,HA_p1.out.below (Below.setCell (Below.setCell HV.out hbl _) hbl _) lt_p1,HA_p4.out.below (Below.setCell (Below.setCell HV.out hbl _) hbl _) lt_p4⟩ (fun hS => ?_)
     clear hK K
     (try (try simp only [Act.put,List.getElem_toArray,List.getElem_cons_succ,List.getElem_cons_zero,List.setIfInBounds_toArray,List.set_cons_zero,List.set_cons_succ]))
     refine wpAnyH_take (i:=17) (v:=.string rr1) rfl (by as_aux_lemma => kernel_rfl) (by as_aux_lemma => kernel_rfl) (by as_aux_lemma => kernel_rfl) (fun _ _ _ h => h) (ya8 zz43 _ rfl zz43) hS ?_
     (try simp only [Act.put,List.getElem_toArray,List.getElem_cons_succ,List.getElem_cons_zero,List.setIfInBounds_toArray,List.set_cons_zero,List.set_cons_succ])
     refine wpAnyH_take (i:=18) (v:=.bool rr2) rfl (by as_aux_lemma => kernel_rfl) (by as_aux_lemma => kernel_rfl) (by as_aux_lemma => kernel_rfl) (fun _ _ _ h => h) (ya8 zz43 _ rfl zz43) hS ?_
     (try simp only [Act.put,List.getElem_toArray,List.getElem_cons_succ,List.getElem_cons_zero,List.setIfInBounds_toArray,List.set_cons_zero,List.set_cons_succ])
     refine wpAnyH_take (i:=19) (v:=.int .i64 rr3) rfl (by as_aux_lemma => kernel_rfl) (by as_aux_lemma => kernel_rfl) (by as_aux_lemma => kernel_rfl) (fun _ _ _ h => h) (ya8 zz43 _ rfl zz43) hS ?_
     (try simp only [Act.put,List.getElem_toArray,List.getElem_cons_succ,List.getElem_cons_zero,List.setIfInBounds_toArray,List.set_cons_zero,List.set_cons_succ])
     refine wpAnyH_done (by as_aux_lemma => kernel_rfl) ?_ _
     clear hS
     (try go_wp2_with (fail))
     go_meet
     exact ⟨v27_13.heap.size,v27_16.heap.size,v27_17.heap.size,_,rfl,rfl,rfl,rfl,zd (FloatCut.put HV.out hbl hob hv1 (by have:=HV.out.size; omega) zz8 HRES.out y0 y1)⟩
   (try rw [if_pos zz43])
   clear hS
   go_simp
   refine (to_SealS p2 _ Ap2 kp2 _ (Row.later HR_p2.out HV.out) sz_p2).mono ?_
   rintro e27_18 v27_18 ⟨A_t27_18,c_t27_18,rfl,lt27_18,mt27_18,hr_,hb_⟩
   replace HR_t27_7:=zd (Lay.later HR_t27_7.out hb_)
   replace HR_t27_13:=zd (Lay.later HR_t27_13.out hb_)
   replace HV:=zd (Below.step HV.out hb_)
   have HR_t27_18:=zd hr_; clear hr_ hb_
   refine hK.out _ _ ⟨HA_p0.out.below HV.out lt_p0,HA_p1.out.below HV.out lt_p1,HA_p4.out.below HV.out lt_p4⟩ (fun hS => ?_)
   clear hK K
   (try simp only [Act.put,List.getElem_toArray,List.getElem_cons_succ,List.getElem_cons_zero,List.setIfInBounds_toArray,List.set_cons_zero,List.set_cons_succ])
   refine wpAnyH_ready (rs:=[8,15]) (by as_aux_lemma => kernel_rfl) zz32 (AllReadyH.cons rfl (fun K hK => ?_) (AllReadyH.cons rfl (fun K hK => ?_) AllReadyH.nil))
   rotate_left
   ·as_aux_lemma =>
     (try rw [if_pos zz43])
     clear hS
     go_simp
     obtain ⟨hb_,hs_,y0,y1,yf⟩:=float_new v27_18 (.int .i64 0) (.slice none 0 0) 47
     obtain ⟨a27_19,hwa⟩ : ∃ W,v27_18.alloc (.cells #[.int .i64 0, .slice none 0 0] 47) = W:=⟨_,rfl⟩
     rw [hwa] at hb_ hs_ y0 y1 yf ⊢
     clear hwa
     have hob : v27_18.heap.size < a27_19.heap.size:=zz62
     have hbl : w26.heap.size ≤ v27_18.heap.size:=HV.out.size
     replace HR_t27_7:=zd (Lay.later HR_t27_7.out hb_)
     replace HR_t27_13:=zd (Lay.later HR_t27_13.out hb_)
     replace HR_t27_18:=zd (Row.later HR_t27_18.out hb_)
     replace HV:=zd (Below.step HV.out hb_); clear hb_
     refine hK.out _ _ ⟨HA_p0.out.below HV.out lt_p0,HA_p1.out.below HV.out lt_p1,HA_p4.out.below HV.out lt_p4⟩ (fun hS => ?_)
     clear hK K
     (try simp only [Act.put,List.getElem_toArray,List.getElem_cons_succ,List.getElem_cons_zero,List.setIfInBounds_toArray,List.set_cons_zero,List.set_cons_succ])
     refine wpAnyH_ready (rs:=[8]) (by as_aux_lemma => kernel_rfl) zz32 (AllReadyH.cons rfl (fun K hK => ?_) AllReadyH.nil)
     (try rw [if_pos zz43])
     clear hS
     go_simp
     refine (to_Whole p4 _ _ _ (Lay.later HR_p4.out HV.out) sz_p4).mono ?_
     rintro e27_20 v27_20 ⟨c_t27_20,rfl,hr_,hb_⟩
     replace HR_t27_7:=zd (Lay.later HR_t27_7.out hb_)
     replace HR_t27_13:=zd (Lay.later HR_t27_13.out hb_)
     replace HR_t27_18:=zd (Row.later HR_t27_18.out hb_)
     replace y0:=(hb_.cell (p:=⟨v27_18.heap.size,0,none⟩) hob).trans y0; replace y1:=(hb_.cell (p:=⟨v27_18.heap.size,1,none⟩) hob).trans y1; replace yf:=fun o => (hb_.frozen (p:=⟨v27_18.heap.size,o,none⟩) hob).trans (yf o); replace hob:=Nat.lt_of_lt_of_le hob hb_.size
     replace HV:=zd (Below.step HV.out hb_)
     have HR_t27_20:=zd hr_; clear hr_ hb_
     refine hK.out _ _ ⟨HA_p0.out.below HV.out lt_p0,HA_p1.out.below HV.out lt_p1,HA_p4.out.below HV.out lt_p4⟩ (fun hS => ?_)
     clear hK K
     (try simp only [Act.put,List.getElem_toArray,List.getElem_cons_succ,List.getElem_cons_zero,List.setIfInBounds_toArray,List.set_cons_zero,List.set_cons_succ])
     refine wpAnyH_ready (rs:=[9]) (by as_aux_lemma => kernel_rfl) zz32 (AllReadyH.cons rfl (fun K hK => ?_) AllReadyH.nil)
     (try rw [if_pos zz43])
     clear hS
     go_simp
     have hv1 : w26.heap.size ≤ v27_20.heap.size:=HV.out.size
     have hv2 : v27_18.heap.size < v27_20.heap.size:=hob
     refine (HIP.out _ c_t27_7 _ (Lay.weak HR_t27_7.out) c_t27_13 _ (Lay.weak HR_t27_13.out) A_t27_18 c_t27_18 _ (Row.weak HR_t27_18.out) lt27_18 mt27_18 c_t27_20 _ (Lay.weak HR_t27_20.out) (Tabs.later (Tabs.later HTb.out hB26) HV.out)).mono ?_
     rintro e27_21 v27_21 ⟨c_h0,rfl,hr_,hb_⟩
     have hsz_:=hb_.size
     obtain ⟨A_o,k_o,S_o,hcs_, -⟩:=Client.open hr_
     subst hcs_
     simp only [Client.cs] at hr_ ⊢
     replace HR_t27_7:=zd (Lay.later HR_t27_7.out hb_)
     replace HR_t27_13:=zd (Lay.later HR_t27_13.out hb_)
     replace HR_t27_18:=zd (Row.later HR_t27_18.out hb_)
     replace HR_t27_20:=zd (Lay.later HR_t27_20.out hb_)
     replace y0:=(hb_.cell (p:=⟨v27_18.heap.size,0,none⟩) hob).trans y0; replace y1:=(hb_.cell (p:=⟨v27_18.heap.size,1,none⟩) hob).trans y1; replace yf:=fun o => (hb_.frozen (p:=⟨v27_18.heap.size,o,none⟩) hob).trans (yf o); replace hob:=Nat.lt_of_lt_of_le hob hb_.size
     replace HV:=zd (Below.step HV.out hb_)
     have HRES:=zd (Lay.mono hr_ (S':=rng v27_20.heap.size v27_21.heap.size) (fun b h => zz26)); clear hr_ hb_
     refine hK.out _ _ ⟨HA_p0.out.below HV.out lt_p0,HA_p1.out.below HV.out lt_p1,HA_p4.out.below HV.out lt_p4⟩ (fun hS => ?_)
     clear hK K
     (try simp only [Act.put,List.getElem_toArray,List.getElem_cons_succ,List.getElem_cons_zero,List.setIfInBounds_toArray,List.set_cons_zero,List.set_cons_succ])
     refine wpAnyH_take (i:=10) (v:=.tuple #[.agg #[.int .i64 rr0.house, .slice A_o rr0.seen.length k_o], .string rr1, .bool rr2, .int .i64 rr3]) rfl (by as_aux_lemma => kernel_rfl) (by as_aux_lemma => kernel_rfl) (by as_aux_lemma => kernel_rfl) (fun _ _ _ h => h) (yieldsIf_move zz43 _ rfl zz43) hS ?_
     (try simp only [Act.put,List.getElem_toArray,List.getElem_cons_succ,List.getElem_cons_zero,List.setIfInBounds_toArray,List.set_cons_zero,List.set_cons_succ])
     refine wpAnyH_take (i:=11) (v:=.agg #[.int .i64 rr0.house, .slice A_o rr0.seen.length k_o]) rfl (by as_aux_lemma => kernel_rfl) (by as_aux_lemma => kernel_rfl) (by as_aux_lemma => kernel_rfl) (fun _ _ _ h => h) (ya5 zz43 _ 0 rfl zz43 zz43) hS ?_
     (try simp only [Act.put,List.getElem_toArray,List.getElem_cons_succ,List.getElem_cons_zero,List.setIfInBounds_toArray,List.set_cons_zero,List.set_cons_succ])
     refine wpAnyH_take (i:=12) (v:=.string rr1) rfl (by as_aux_lemma => kernel_rfl) (by as_aux_lemma => kernel_rfl) (by as_aux_lemma => kernel_rfl) (fun _ _ _ h => h) (ya5 zz43 _ 1 rfl zz43 zz43) hS ?_
     (try simp only [Act.put,List.getElem_toArray,List.getElem_cons_succ,List.getElem_cons_zero,List.setIfInBounds_toArray,List.set_cons_zero,List.set_cons_succ])
     refine wpAnyH_take (i:=13) (v:=.bool rr2) rfl (by as_aux_lemma => kernel_rfl) (by as_aux_lemma => kernel_rfl) (by as_aux_lemma => kernel_rfl) (fun _ _ _ h => h) (ya5 zz43 _ 2 rfl zz43 zz43) hS ?_
     (try simp only [Act.put,List.getElem_toArray,List.getElem_cons_succ,List.getElem_cons_zero,List.setIfInBounds_toArray,List.set_cons_zero,List.set_cons_succ])
     refine wpAnyH_take (i:=14) (v:=.int .i64 rr3) rfl (by as_aux_lemma => kernel_rfl) (by as_aux_lemma => kernel_rfl) (by as_aux_lemma => kernel_rfl) (fun _ _ _ h => h) (ya5 zz43 _ 3 rfl zz43 zz43) hS ?_
     (try simp only [Act.put,List.getElem_toArray,List.getElem_cons_succ,List.getElem_cons_zero,List.setIfInBounds_toArray,List.set_cons_zero,List.set_cons_succ])
     refine wpAnyH_ready (rs:=[16]) (by as_aux_lemma => kernel_rfl) zz32 (AllReadyH.cons rfl (fun K hK => ?_) AllReadyH.nil)
     (try rw [if_pos zz43])
     clear hS
     go_simp
     refine hK.out _ _ ⟨HA_p0.out.below (Below.setCell (Below.setCell HV.out hbl _) hbl _) lt_p0,HA_p1.out.below (Below.setCell (Below.setCell HV.out hbl _) hbl _) lt_p1,HA_p4.out.below (Below.setCell (Below.setCell HV.out hbl _) hbl _) lt_p4⟩ (fun hS => ?_)
     clear hK K
     (try (try simp only [Act.put,List.getElem_toArray,List.getElem_cons_succ,List.getElem_cons_zero,List.setIfInBounds_toArray,List.set_cons_zero,List.set_cons_succ]))
     refine wpAnyH_take (i:=17) (v:=.string rr1) rfl (by as_aux_lemma => kernel_rfl) (by as_aux_lemma => kernel_rfl) (by as_aux_lemma => kernel_rfl) (fun _ _ _ h => h) (ya8 zz43 _ rfl zz43) hS ?_
     (try simp only [Act.put,List.getElem_toArray,List.getElem_cons_succ,List.getElem_cons_zero,List.setIfInBounds_toArray,List.set_cons_zero,List.set_cons_succ])
     refine wpAnyH_take (i:=18) (v:=.bool rr2) rfl (by as_aux_lemma => kernel_rfl) (by as_aux_lemma => kernel_rfl) (by as_aux_lemma => kernel_rfl) (fun _ _ _ h => h) (ya8 zz43 _ rfl zz43) hS ?_
     (try simp only [Act.put,List.getElem_toArray,List.getElem_cons_succ,List.getElem_cons_zero,List.setIfInBounds_toArray,List.set_cons_zero,List.set_cons_succ])
     refine wpAnyH_take (i:=19) (v:=.int .i64 rr3) rfl (by as_aux_lemma => kernel_rfl) (by as_aux_lemma => kernel_rfl) (by as_aux_lemma => kernel_rfl) (fun _ _ _ h => h) (ya8 zz43 _ rfl zz43) hS ?_
     (try simp only [Act.put,List.getElem_toArray,List.getElem_cons_succ,List.getElem_cons_zero,List.setIfInBounds_toArray,List.set_cons_zero,List.set_cons_succ])
     refine wpAnyH_done (by as_aux_lemma => kernel_rfl) ?_ _
     clear hS
     (try go_wp2_with (fail))
     go_meet
     exact ⟨v27_18.heap.size,v27_20.heap.size,v27_21.heap.size,_,rfl,rfl,rfl,rfl,zd (FloatCut.put HV.out hbl hob hv1 (by have:=HV.out.size; omega) zz8 HRES.out y0 y1)⟩
   (try rw [if_pos zz43])
   clear hS
   go_simp
   refine (to_Whole p4 _ _ _ (Lay.later HR_p4.out HV.out) sz_p4).mono ?_
   rintro e27_22 v27_22 ⟨c_t27_22,rfl,hr_,hb_⟩
   replace HR_t27_7:=zd (Lay.later HR_t27_7.out hb_)
   replace HR_t27_13:=zd (Lay.later HR_t27_13.out hb_)
   replace HR_t27_18:=zd (Row.later HR_t27_18.out hb_)
   replace HV:=zd (Below.step HV.out hb_)
   have HR_t27_22:=zd hr_; clear hr_ hb_
   refine hK.out _ _ ⟨HA_p0.out.below HV.out lt_p0,HA_p1.out.below HV.out lt_p1,HA_p4.out.below HV.out lt_p4⟩ (fun hS => ?_)
   clear hK K
   (try simp only [Act.put,List.getElem_toArray,List.getElem_cons_succ,List.getElem_cons_zero,List.setIfInBounds_toArray,List.set_cons_zero,List.set_cons_succ])
   refine wpAnyH_ready (rs:=[9,15]) (by as_aux_lemma => kernel_rfl) zz32 (AllReadyH.cons rfl (fun K hK => ?_) (AllReadyH.cons rfl (fun K hK => ?_) AllReadyH.nil))
   rotate_left
   ·as_aux_lemma =>
     (try rw [if_pos zz43])
     clear hS
     go_simp
     obtain ⟨hb_,hs_,y0,y1,yf⟩:=float_new v27_22 (.int .i64 0) (.slice none 0 0) 47
     obtain ⟨a27_23,hwa⟩ : ∃ W,v27_22.alloc (.cells #[.int .i64 0, .slice none 0 0] 47) = W:=⟨_,rfl⟩
     rw [hwa] at hb_ hs_ y0 y1 yf ⊢
     clear hwa
     have hob : v27_22.heap.size < a27_23.heap.size:=zz62
     have hbl : w26.heap.size ≤ v27_22.heap.size:=HV.out.size
     replace HR_t27_7:=zd (Lay.later HR_t27_7.out hb_)
     replace HR_t27_13:=zd (Lay.later HR_t27_13.out hb_)
     replace HR_t27_18:=zd (Row.later HR_t27_18.out hb_)
     replace HR_t27_22:=zd (Lay.later HR_t27_22.out hb_)
     replace HV:=zd (Below.step HV.out hb_); clear hb_
     refine hK.out _ _ ⟨HA_p0.out.below HV.out lt_p0,HA_p1.out.below HV.out lt_p1,HA_p4.out.below HV.out lt_p4⟩ (fun hS => ?_)
     clear hK K
     (try simp only [Act.put,List.getElem_toArray,List.getElem_cons_succ,List.getElem_cons_zero,List.setIfInBounds_toArray,List.set_cons_zero,List.set_cons_succ])
     refine wpAnyH_ready (rs:=[9]) (by as_aux_lemma => kernel_rfl) zz32 (AllReadyH.cons rfl (fun K hK => ?_) AllReadyH.nil)
     (try rw [if_pos zz43])
     clear hS
     go_simp
     have hv1 : w26.heap.size ≤ a27_23.heap.size:=HV.out.size
     have hv2 : v27_22.heap.size < a27_23.heap.size:=hob
     refine (HIP.out _ c_t27_7 _ (Lay.weak HR_t27_7.out) c_t27_13 _ (Lay.weak HR_t27_13.out) A_t27_18 c_t27_18 _ (Row.weak HR_t27_18.out) lt27_18 mt27_18 c_t27_22 _ (Lay.weak HR_t27_22.out) (Tabs.later (Tabs.later HTb.out hB26) HV.out)).mono ?_
     rintro e27_24 v27_24 ⟨c_h0,rfl,hr_,hb_⟩
     have hsz_:=hb_.size
     obtain ⟨A_o,k_o,S_o,hcs_, -⟩:=Client.open hr_
     subst hcs_
     simp only [Client.cs] at hr_ ⊢
     replace HR_t27_7:=zd (Lay.later HR_t27_7.out hb_)
     replace HR_t27_13:=zd (Lay.later HR_t27_13.out hb_)
     replace HR_t27_18:=zd (Row.later HR_t27_18.out hb_)
     replace HR_t27_22:=zd (Lay.later HR_t27_22.out hb_)
     replace y0:=(hb_.cell (p:=⟨v27_22.heap.size,0,none⟩) hob).trans y0; replace y1:=(hb_.cell (p:=⟨v27_22.heap.size,1,none⟩) hob).trans y1; replace yf:=fun o => (hb_.frozen (p:=⟨v27_22.heap.size,o,none⟩) hob).trans (yf o); replace hob:=Nat.lt_of_lt_of_le hob hb_.size
     replace HV:=zd (Below.step HV.out hb_)
     have HRES:=zd (Lay.mono hr_ (S':=rng a27_23.heap.size v27_24.heap.size) (fun b h => zz26)); clear hr_ hb_
     refine hK.out _ _ ⟨HA_p0.out.below HV.out lt_p0,HA_p1.out.below HV.out lt_p1,HA_p4.out.below HV.out lt_p4⟩ (fun hS => ?_)
     clear hK K
     (try simp only [Act.put,List.getElem_toArray,List.getElem_cons_succ,List.getElem_cons_zero,List.setIfInBounds_toArray,List.set_cons_zero,List.set_cons_succ])
     refine wpAnyH_take (i:=10) (v:=.tuple #[.agg #[.int .i64 rr0.house, .slice A_o rr0.seen.length k_o], .string rr1, .bool rr2, .int .i64 rr3]) rfl (by as_aux_lemma => kernel_rfl) (by as_aux_lemma => kernel_rfl) (by as_aux_lemma => kernel_rfl) (fun _ _ _ h => h) (yieldsIf_move zz43 _ rfl zz43) hS ?_
     (try simp only [Act.put,List.getElem_toArray,List.getElem_cons_succ,List.getElem_cons_zero,List.setIfInBounds_toArray,List.set_cons_zero,List.set_cons_succ])
     refine wpAnyH_take (i:=11) (v:=.agg #[.int .i64 rr0.house, .slice A_o rr0.seen.length k_o]) rfl (by as_aux_lemma => kernel_rfl) (by as_aux_lemma => kernel_rfl) (by as_aux_lemma => kernel_rfl) (fun _ _ _ h => h) (ya5 zz43 _ 0 rfl zz43 zz43) hS ?_
     (try simp only [Act.put,List.getElem_toArray,List.getElem_cons_succ,List.getElem_cons_zero,List.setIfInBounds_toArray,List.set_cons_zero,List.set_cons_succ])
     refine wpAnyH_take (i:=12) (v:=.string rr1) rfl (by as_aux_lemma => kernel_rfl) (by as_aux_lemma => kernel_rfl) (by as_aux_lemma => kernel_rfl) (fun _ _ _ h => h) (ya5 zz43 _ 1 rfl zz43 zz43) hS ?_
     (try simp only [Act.put,List.getElem_toArray,List.getElem_cons_succ,List.getElem_cons_zero,List.setIfInBounds_toArray,List.set_cons_zero,List.set_cons_succ])
     refine wpAnyH_take (i:=13) (v:=.bool rr2) rfl (by as_aux_lemma => kernel_rfl) (by as_aux_lemma => kernel_rfl) (by as_aux_lemma => kernel_rfl) (fun _ _ _ h => h) (ya5 zz43 _ 2 rfl zz43 zz43) hS ?_
     (try simp only [Act.put,List.getElem_toArray,List.getElem_cons_succ,List.getElem_cons_zero,List.setIfInBounds_toArray,List.set_cons_zero,List.set_cons_succ])
     refine wpAnyH_take (i:=14) (v:=.int .i64 rr3) rfl (by as_aux_lemma => kernel_rfl) (by as_aux_lemma => kernel_rfl) (by as_aux_lemma => kernel_rfl) (fun _ _ _ h => h) (ya5 zz43 _ 3 rfl zz43 zz43) hS ?_
     (try simp only [Act.put,List.getElem_toArray,List.getElem_cons_succ,List.getElem_cons_zero,List.setIfInBounds_toArray,List.set_cons_zero,List.set_cons_succ])
     refine wpAnyH_ready (rs:=[16]) (by as_aux_lemma => kernel_rfl) zz32 (AllReadyH.cons rfl (fun K hK => ?_) AllReadyH.nil)
     (try rw [if_pos zz43])
     clear hS
     go_simp
     refine hK.out _ _ ⟨HA_p0.out.below (Below.setCell (Below.setCell HV.out hbl _) hbl _) lt_p0,HA_p1.out.below (Below.setCell (Below.setCell HV.out hbl _) hbl _) lt_p1,HA_p4.out.below (Below.setCell (Below.setCell HV.out hbl _) hbl _) lt_p4⟩ (fun hS => ?_)
     clear hK K
     (try (try simp only [Act.put,List.getElem_toArray,List.getElem_cons_succ,List.getElem_cons_zero,List.setIfInBounds_toArray,List.set_cons_zero,List.set_cons_succ]))
     refine wpAnyH_take (i:=17) (v:=.string rr1) rfl (by as_aux_lemma => kernel_rfl) (by as_aux_lemma => kernel_rfl) (by as_aux_lemma => kernel_rfl) (fun _ _ _ h => h) (ya8 zz43 _ rfl zz43) hS ?_
     (try simp only [Act.put,List.getElem_toArray,List.getElem_cons_succ,List.getElem_cons_zero,List.setIfInBounds_toArray,List.set_cons_zero,List.set_cons_succ])
     refine wpAnyH_take (i:=18) (v:=.bool rr2) rfl (by as_aux_lemma => kernel_rfl) (by as_aux_lemma => kernel_rfl) (by as_aux_lemma => kernel_rfl) (fun _ _ _ h => h) (ya8 zz43 _ rfl zz43) hS ?_
     (try simp only [Act.put,List.getElem_toArray,List.getElem_cons_succ,List.getElem_cons_zero,List.setIfInBounds_toArray,List.set_cons_zero,List.set_cons_succ])
     refine wpAnyH_take (i:=19) (v:=.int .i64 rr3) rfl (by as_aux_lemma => kernel_rfl) (by as_aux_lemma => kernel_rfl) (by as_aux_lemma => kernel_rfl) (fun _ _ _ h => h) (ya8 zz43 _ rfl zz43) hS ?_
     (try simp only [Act.put,List.getElem_toArray,List.getElem_cons_succ,List.getElem_cons_zero,List.setIfInBounds_toArray,List.set_cons_zero,List.set_cons_succ])
     refine wpAnyH_done (by as_aux_lemma => kernel_rfl) ?_ _
     clear hS
     (try go_wp2_with (fail))
     go_meet
     exact ⟨v27_22.heap.size,a27_23.heap.size,v27_24.heap.size,_,rfl,rfl,rfl,rfl,zd (FloatCut.put HV.out hbl hob hv1 (by have:=HV.out.size; omega) zz8 HRES.out y0 y1)⟩
   (try rw [if_pos zz43])
   clear hS
   go_simp
   have hv1 : w26.heap.size ≤ v27_22.heap.size:=HV.out.size
   refine (HIP.out _ c_t27_7 _ (Lay.weak HR_t27_7.out) c_t27_13 _ (Lay.weak HR_t27_13.out) A_t27_18 c_t27_18 _ (Row.weak HR_t27_18.out) lt27_18 mt27_18 c_t27_22 _ (Lay.weak HR_t27_22.out) (Tabs.later (Tabs.later HTb.out hB26) HV.out)).mono ?_
   rintro e27_25 v27_25 ⟨c_h0,rfl,hr_,hb_⟩
   have hsz_:=hb_.size
   obtain ⟨A_o,k_o,S_o,hcs_, -⟩:=Client.open hr_
   subst hcs_
   simp only [Client.cs] at hr_ ⊢
   replace HR_t27_7:=zd (Lay.later HR_t27_7.out hb_)
   replace HR_t27_13:=zd (Lay.later HR_t27_13.out hb_)
   replace HR_t27_18:=zd (Row.later HR_t27_18.out hb_)
   replace HR_t27_22:=zd (Lay.later HR_t27_22.out hb_)
   replace HV:=zd (Below.step HV.out hb_)
   have HRES:=zd (Lay.mono hr_ (S':=rng v27_22.heap.size v27_25.heap.size) (fun b h => zz26)); clear hr_ hb_
   refine hK.out _ _ ⟨HA_p0.out.below HV.out lt_p0,HA_p1.out.below HV.out lt_p1,HA_p4.out.below HV.out lt_p4⟩ (fun hS => ?_)
   clear hK K
   (try simp only [Act.put,List.getElem_toArray,List.getElem_cons_succ,List.getElem_cons_zero,List.setIfInBounds_toArray,List.set_cons_zero,List.set_cons_succ])
   refine wpAnyH_take (i:=10) (v:=.tuple #[.agg #[.int .i64 rr0.house, .slice A_o rr0.seen.length k_o], .string rr1, .bool rr2, .int .i64 rr3]) rfl (by as_aux_lemma => kernel_rfl) (by as_aux_lemma => kernel_rfl) (by as_aux_lemma => kernel_rfl) (fun _ _ _ h => h) (yieldsIf_move zz43 _ rfl zz43) hS ?_
   (try simp only [Act.put,List.getElem_toArray,List.getElem_cons_succ,List.getElem_cons_zero,List.setIfInBounds_toArray,List.set_cons_zero,List.set_cons_succ])
   refine wpAnyH_take (i:=11) (v:=.agg #[.int .i64 rr0.house, .slice A_o rr0.seen.length k_o]) rfl (by as_aux_lemma => kernel_rfl) (by as_aux_lemma => kernel_rfl) (by as_aux_lemma => kernel_rfl) (fun _ _ _ h => h) (ya5 zz43 _ 0 rfl zz43 zz43) hS ?_
   (try simp only [Act.put,List.getElem_toArray,List.getElem_cons_succ,List.getElem_cons_zero,List.setIfInBounds_toArray,List.set_cons_zero,List.set_cons_succ])
   refine wpAnyH_take (i:=12) (v:=.string rr1) rfl (by as_aux_lemma => kernel_rfl) (by as_aux_lemma => kernel_rfl) (by as_aux_lemma => kernel_rfl) (fun _ _ _ h => h) (ya5 zz43 _ 1 rfl zz43 zz43) hS ?_
   (try simp only [Act.put,List.getElem_toArray,List.getElem_cons_succ,List.getElem_cons_zero,List.setIfInBounds_toArray,List.set_cons_zero,List.set_cons_succ])
   refine wpAnyH_take (i:=13) (v:=.bool rr2) rfl (by as_aux_lemma => kernel_rfl) (by as_aux_lemma => kernel_rfl) (by as_aux_lemma => kernel_rfl) (fun _ _ _ h => h) (ya5 zz43 _ 2 rfl zz43 zz43) hS ?_
   (try simp only [Act.put,List.getElem_toArray,List.getElem_cons_succ,List.getElem_cons_zero,List.setIfInBounds_toArray,List.set_cons_zero,List.set_cons_succ])
   refine wpAnyH_take (i:=14) (v:=.int .i64 rr3) rfl (by as_aux_lemma => kernel_rfl) (by as_aux_lemma => kernel_rfl) (by as_aux_lemma => kernel_rfl) (fun _ _ _ h => h) (ya5 zz43 _ 3 rfl zz43 zz43) hS ?_
   (try simp only [Act.put,List.getElem_toArray,List.getElem_cons_succ,List.getElem_cons_zero,List.setIfInBounds_toArray,List.set_cons_zero,List.set_cons_succ])
   refine wpAnyH_ready (rs:=[15]) (by as_aux_lemma => kernel_rfl) zz32 (AllReadyH.cons rfl (fun K hK => ?_) AllReadyH.nil)
   (try rw [if_pos zz43])
   clear hS
   go_simp
   obtain ⟨hb_,hs_,y0,y1,yf⟩:=float_new v27_25 (.int .i64 0) (.slice none 0 0) 47
   obtain ⟨a27_26,hwa⟩ : ∃ W,v27_25.alloc (.cells #[.int .i64 0, .slice none 0 0] 47) = W:=⟨_,rfl⟩
   rw [hwa] at hb_ hs_ y0 y1 yf ⊢
   clear hwa
   have hob : v27_25.heap.size < a27_26.heap.size:=zz62
   have hbl : w26.heap.size ≤ v27_25.heap.size:=HV.out.size
   replace HRES:=zd (Lay.later HRES.out hb_)
   replace HV:=zd (Below.step HV.out hb_); clear hb_
   refine hK.out _ _ ⟨HA_p0.out.below HV.out lt_p0,HA_p1.out.below HV.out lt_p1,HA_p4.out.below HV.out lt_p4⟩ (fun hS => ?_)
   clear hK K
   (try simp only [Act.put,List.getElem_toArray,List.getElem_cons_succ,List.getElem_cons_zero,List.setIfInBounds_toArray,List.set_cons_zero,List.set_cons_succ])
   refine wpAnyH_ready (rs:=[16]) (by as_aux_lemma => kernel_rfl) zz32 (AllReadyH.cons rfl (fun K hK => ?_) AllReadyH.nil)
   (try rw [if_pos zz43])
   clear hS
   go_simp
   refine hK.out _ _ ⟨HA_p0.out.below (Below.setCell (Below.setCell HV.out hbl _) hbl _) lt_p0,HA_p1.out.below (Below.setCell (Below.setCell HV.out hbl _) hbl _) lt_p1,HA_p4.out.below (Below.setCell (Below.setCell HV.out hbl _) hbl _) lt_p4⟩ (fun hS => ?_)
   clear hK K
   (try (try simp only [Act.put,List.getElem_toArray,List.getElem_cons_succ,List.getElem_cons_zero,List.setIfInBounds_toArray,List.set_cons_zero,List.set_cons_succ]))
   refine wpAnyH_take (i:=17) (v:=.string rr1) rfl (by as_aux_lemma => kernel_rfl) (by as_aux_lemma => kernel_rfl) (by as_aux_lemma => kernel_rfl) (fun _ _ _ h => h) (ya8 zz43 _ rfl zz43) hS ?_
   (try simp only [Act.put,List.getElem_toArray,List.getElem_cons_succ,List.getElem_cons_zero,List.setIfInBounds_toArray,List.set_cons_zero,List.set_cons_succ])
   refine wpAnyH_take (i:=18) (v:=.bool rr2) rfl (by as_aux_lemma => kernel_rfl) (by as_aux_lemma => kernel_rfl) (by as_aux_lemma => kernel_rfl) (fun _ _ _ h => h) (ya8 zz43 _ rfl zz43) hS ?_
   (try simp only [Act.put,List.getElem_toArray,List.getElem_cons_succ,List.getElem_cons_zero,List.setIfInBounds_toArray,List.set_cons_zero,List.set_cons_succ])
   refine wpAnyH_take (i:=19) (v:=.int .i64 rr3) rfl (by as_aux_lemma => kernel_rfl) (by as_aux_lemma => kernel_rfl) (by as_aux_lemma => kernel_rfl) (fun _ _ _ h => h) (ya8 zz43 _ rfl zz43) hS ?_
   (try simp only [Act.put,List.getElem_toArray,List.getElem_cons_succ,List.getElem_cons_zero,List.setIfInBounds_toArray,List.set_cons_zero,List.set_cons_succ])
   refine wpAnyH_done (by as_aux_lemma => kernel_rfl) ?_ _
   clear hS
   (try go_wp2_with (fail))
   go_meet
   exact ⟨v27_25.heap.size,v27_22.heap.size,v27_25.heap.size,_,rfl,rfl,rfl,rfl,zd (FloatCut.put HV.out hbl hob hv1 (by have:=HV.out.size; omega) zz8 HRES.out y0 y1)⟩
 obtain ⟨ob_h0,lo_h0,hi_h0,c_h0,rfl,rfl,rfl,rfl,HFC_⟩:=hcut
 rename World => w27
 have hl27:=HFC_.out.bl
 have hB27 : Below w.heap.size w w27:=Below.step hB26 hl27
 have hz27 : w26.heap.size + 0 ≤ w27.heap.size:=hl27.size
 replace HR_p0:=zd (Lay.later HR_p0.out hl27)
 replace HR_p1:=zd (Lay.later HR_p1.out hl27)
 replace HR_p2:=zd (Row.later HR_p2.out hl27)
 replace HR_p4:=zd (Lay.later HR_p4.out hl27)
 replace HR_w0:=zd (Lay.later HR_w0.out hl27)
 replace HR_x0:=zd (Lay.later HR_x0.out hl27)
 replace HR_x1:=zd (Lay.later HR_x1.out hl27)
 replace HR_x2:=zd (Row.later HR_x2.out hl27)
 replace HR_x4:=zd (Lay.later HR_x4.out hl27)
 replace HR_g0:=zd (Lay.later HR_g0.out hl27)
 replace HA_p0:=zd (HA_p0.out.below hl27 lt_p0); replace lt_p0:=Nat.lt_of_lt_of_le lt_p0 hl27.size
 replace HA_p1:=zd (HA_p1.out.below hl27 lt_p1); replace lt_p1:=Nat.lt_of_lt_of_le lt_p1 hl27.size
 replace HA_p4:=zd (HA_p4.out.below hl27 lt_p4); replace lt_p4:=Nat.lt_of_lt_of_le lt_p4 hl27.size
 replace HA_w0:=zd (HA_w0.out.below hl27 lt_w0); replace lt_w0:=Nat.lt_of_lt_of_le lt_w0 hl27.size
 replace HA_x0:=zd (HA_x0.out.below hl27 lt_x0); replace lt_x0:=Nat.lt_of_lt_of_le lt_x0 hl27.size
 replace HA_x1:=zd (HA_x1.out.below hl27 lt_x1); replace lt_x1:=Nat.lt_of_lt_of_le lt_x1 hl27.size
 replace HA_x4:=zd (HA_x4.out.below hl27 lt_x4); replace lt_x4:=Nat.lt_of_lt_of_le lt_x4 hl27.size
 replace HA_g0:=zd (HA_g0.out.below hl27 lt_g0); replace lt_g0:=Nat.lt_of_lt_of_le lt_g0 hl27.size
 have HR_h0:=zd HFC_.out.rdx
 have sb_h0 : sub (rng lo_h0 hi_h0) (rng lo_h0 hi_h0):=ya9 _
 have HA_h0 : Hid (At w27 ob_h0 0 c_h0):=zd HFC_.out.at_
 have lt_h0:=HFC_.out.b1; have bl_h0:=HFC_.out.b1; have b0_h0:=HFC_.out.b0; have l0_h0:=HFC_.out.l0; have h1_h0:=HFC_.out.h1; have sd_h0:=HFC_.out.sd; clear HFC_
 have ln_h0:=Lay.len HR_h0.out
 have on_h0:=Lay.one HR_h0.out
 have k_h0 : (Tryz.prog.info? 47).map (·.size) = some (Lay.n Client):=by kernel_rfl
 go_wp2_with (first | (refine ya0 rfl _ _ rfl rfl HA_p0.out Tryz.underlying24 k_p0 ln_p0 ?_) | (refine ya0 rfl _ _ rfl rfl HA_p1.out Tryz.underlying27 k_p1 ln_p1 ?_) | (refine ya0 rfl _ _ rfl rfl HA_p4.out Tryz.underlying40 k_p4 ln_p4 ?_) | (refine ya0 rfl _ _ rfl rfl HA_w0.out Tryz.underlying47 k_w0 ln_w0 ?_) | (refine yaa zz20 _ _ rfl rfl HA_w0.out Tryz.underlying47 k_w0 ln_w0 ?_) | (refine ya0 rfl _ _ rfl rfl HA_x0.out Tryz.underlying47 k_x0 ln_x0 ?_) | (refine ya0 rfl _ _ rfl rfl HA_x1.out Tryz.underlying51 k_x1 ln_x1 ?_) | (refine ya0 rfl _ _ rfl rfl HA_x4.out Tryz.underlying64 k_x4 ln_x4 ?_) | (refine ya0 rfl _ _ rfl rfl HA_g0.out Tryz.underlying47 k_g0 ln_g0 ?_) | (refine yaa zz20 _ _ rfl rfl HA_g0.out Tryz.underlying47 k_g0 ln_g0 ?_) | (refine ya0 rfl _ _ rfl rfl HA_h0.out Tryz.underlying47 k_h0 ln_h0 ?_) | (refine yaa zz20 _ _ rfl rfl HA_h0.out Tryz.underlying47 k_h0 ln_h0 ?_))
 refine (eq_Client rr0 _ _ _ _ _ (Lay.weak HR_h0.out) (Lay.weak HR_w0.out)).mono ?_
 rintro e28 w28 ⟨rfl,hb28⟩
 have hl28:=hb28
 have hB28 : Below w.heap.size w w28:=Below.step hB27 hl28
 have hz28 : w27.heap.size + 0 ≤ w28.heap.size:=by have:=hb28.size; (try simp at this); omega
 replace HR_p0:=zd (Lay.later HR_p0.out hl28)
 replace HR_p1:=zd (Lay.later HR_p1.out hl28)
 replace HR_p2:=zd (Row.later HR_p2.out hl28)
 replace HR_p4:=zd (Lay.later HR_p4.out hl28)
 replace HR_w0:=zd (Lay.later HR_w0.out hl28)
 replace HR_x0:=zd (Lay.later HR_x0.out hl28)
 replace HR_x1:=zd (Lay.later HR_x1.out hl28)
 replace HR_x2:=zd (Row.later HR_x2.out hl28)
 replace HR_x4:=zd (Lay.later HR_x4.out hl28)
 replace HR_g0:=zd (Lay.later HR_g0.out hl28)
 replace HR_h0:=zd (Lay.later HR_h0.out hl28)
 replace HA_p0:=zd (HA_p0.out.below hl28 lt_p0); replace lt_p0:=Nat.lt_of_lt_of_le lt_p0 hl28.size
 replace HA_p1:=zd (HA_p1.out.below hl28 lt_p1); replace lt_p1:=Nat.lt_of_lt_of_le lt_p1 hl28.size
 replace HA_p4:=zd (HA_p4.out.below hl28 lt_p4); replace lt_p4:=Nat.lt_of_lt_of_le lt_p4 hl28.size
 replace HA_w0:=zd (HA_w0.out.below hl28 lt_w0); replace lt_w0:=Nat.lt_of_lt_of_le lt_w0 hl28.size
 replace HA_x0:=zd (HA_x0.out.below hl28 lt_x0); replace lt_x0:=Nat.lt_of_lt_of_le lt_x0 hl28.size
 replace HA_x1:=zd (HA_x1.out.below hl28 lt_x1); replace lt_x1:=Nat.lt_of_lt_of_le lt_x1 hl28.size
 replace HA_x4:=zd (HA_x4.out.below hl28 lt_x4); replace lt_x4:=Nat.lt_of_lt_of_le lt_x4 hl28.size
 replace HA_g0:=zd (HA_g0.out.below hl28 lt_g0); replace lt_g0:=Nat.lt_of_lt_of_le lt_g0 hl28.size
 replace HA_h0:=zd (HA_h0.out.below hl28 lt_h0); replace lt_h0:=Nat.lt_of_lt_of_le lt_h0 hl28.size
 go_wp2_with (first | (refine ya0 rfl _ _ rfl rfl HA_p0.out Tryz.underlying24 k_p0 ln_p0 ?_) | (refine ya0 rfl _ _ rfl rfl HA_p1.out Tryz.underlying27 k_p1 ln_p1 ?_) | (refine ya0 rfl _ _ rfl rfl HA_p4.out Tryz.underlying40 k_p4 ln_p4 ?_) | (refine ya0 rfl _ _ rfl rfl HA_w0.out Tryz.underlying47 k_w0 ln_w0 ?_) | (refine yaa zz20 _ _ rfl rfl HA_w0.out Tryz.underlying47 k_w0 ln_w0 ?_) | (refine ya0 rfl _ _ rfl rfl HA_x0.out Tryz.underlying47 k_x0 ln_x0 ?_) | (refine ya0 rfl _ _ rfl rfl HA_x1.out Tryz.underlying51 k_x1 ln_x1 ?_) | (refine ya0 rfl _ _ rfl rfl HA_x4.out Tryz.underlying64 k_x4 ln_x4 ?_) | (refine ya0 rfl _ _ rfl rfl HA_g0.out Tryz.underlying47 k_g0 ln_g0 ?_) | (refine yaa zz20 _ _ rfl rfl HA_g0.out Tryz.underlying47 k_g0 ln_g0 ?_) | (refine ya0 rfl _ _ rfl rfl HA_h0.out Tryz.underlying47 k_h0 ln_h0 ?_) | (refine yaa zz20 _ _ rfl rfl HA_h0.out Tryz.underlying47 k_h0 ln_h0 ?_))
 refine (held_Client rr0 _ _ _ _ 1 zz66 zz8 (Lay.weak HR_g0.out)).mono ?_
 rw [hK_K5]
 rintro e29 w29 ⟨rfl,hb29⟩
 have hl29:=hb29
 have hB29 : Below w.heap.size w w29:=Below.step hB28 hl29
 have hz29 : w28.heap.size + 0 ≤ w29.heap.size:=by have:=hb29.size; (try simp at this); omega
 replace HR_p0:=zd (Lay.later HR_p0.out hl29)
 replace HR_p1:=zd (Lay.later HR_p1.out hl29)
 replace HR_p2:=zd (Row.later HR_p2.out hl29)
 replace HR_p4:=zd (Lay.later HR_p4.out hl29)
 replace HR_w0:=zd (Lay.later HR_w0.out hl29)
 replace HR_x0:=zd (Lay.later HR_x0.out hl29)
 replace HR_x1:=zd (Lay.later HR_x1.out hl29)
 replace HR_x2:=zd (Row.later HR_x2.out hl29)
 replace HR_x4:=zd (Lay.later HR_x4.out hl29)
 replace HR_g0:=zd (Lay.later HR_g0.out hl29)
 replace HR_h0:=zd (Lay.later HR_h0.out hl29)
 replace HA_p0:=zd (HA_p0.out.below hl29 lt_p0); replace lt_p0:=Nat.lt_of_lt_of_le lt_p0 hl29.size
 replace HA_p1:=zd (HA_p1.out.below hl29 lt_p1); replace lt_p1:=Nat.lt_of_lt_of_le lt_p1 hl29.size
 replace HA_p4:=zd (HA_p4.out.below hl29 lt_p4); replace lt_p4:=Nat.lt_of_lt_of_le lt_p4 hl29.size
 replace HA_w0:=zd (HA_w0.out.below hl29 lt_w0); replace lt_w0:=Nat.lt_of_lt_of_le lt_w0 hl29.size
 replace HA_x0:=zd (HA_x0.out.below hl29 lt_x0); replace lt_x0:=Nat.lt_of_lt_of_le lt_x0 hl29.size
 replace HA_x1:=zd (HA_x1.out.below hl29 lt_x1); replace lt_x1:=Nat.lt_of_lt_of_le lt_x1 hl29.size
 replace HA_x4:=zd (HA_x4.out.below hl29 lt_x4); replace lt_x4:=Nat.lt_of_lt_of_le lt_x4 hl29.size
 replace HA_g0:=zd (HA_g0.out.below hl29 lt_g0); replace lt_g0:=Nat.lt_of_lt_of_le lt_g0 hl29.size
 replace HA_h0:=zd (HA_h0.out.below hl29 lt_h0); replace lt_h0:=Nat.lt_of_lt_of_le lt_h0 hl29.size
 go_wp2_with (first | (refine ya0 rfl _ _ rfl rfl HA_p0.out Tryz.underlying24 k_p0 ln_p0 ?_) | (refine ya0 rfl _ _ rfl rfl HA_p1.out Tryz.underlying27 k_p1 ln_p1 ?_) | (refine ya0 rfl _ _ rfl rfl HA_p4.out Tryz.underlying40 k_p4 ln_p4 ?_) | (refine ya0 rfl _ _ rfl rfl HA_w0.out Tryz.underlying47 k_w0 ln_w0 ?_) | (refine yaa zz20 _ _ rfl rfl HA_w0.out Tryz.underlying47 k_w0 ln_w0 ?_) | (refine ya0 rfl _ _ rfl rfl HA_x0.out Tryz.underlying47 k_x0 ln_x0 ?_) | (refine ya0 rfl _ _ rfl rfl HA_x1.out Tryz.underlying51 k_x1 ln_x1 ?_) | (refine ya0 rfl _ _ rfl rfl HA_x4.out Tryz.underlying64 k_x4 ln_x4 ?_) | (refine ya0 rfl _ _ rfl rfl HA_g0.out Tryz.underlying47 k_g0 ln_g0 ?_) | (refine yaa zz20 _ _ rfl rfl HA_g0.out Tryz.underlying47 k_g0 ln_g0 ?_) | (refine ya0 rfl _ _ rfl rfl HA_h0.out Tryz.underlying47 k_h0 ln_h0 ?_) | (refine yaa zz20 _ _ rfl rfl HA_h0.out Tryz.underlying47 k_h0 ln_h0 ?_))
 go_ret; exact ⟨rfl,hB29⟩
theorem lifted_ClientHear (os : Os) (started : os.Started) (H : Type) (enc : TypeId × Value → H) :
  ReturnsInHanded {} Tryz.checked os 3 .any (fun w args => (Rows.fnExactClientHearSpec.pre enc Tryz.prog Tryz.f3 [] false w args ∧ laidMetH Tryz.prog laidSha w) ∧ sizedMet enc Tryz.prog Tryz.f3 (OpenSpec.ofChange Rows.fnExactClientHearSpec) false w args)
   (Rows.fnExactClientHearSpec.post enc Tryz.prog Tryz.f3 false true false false):=by
 refine returnsInHanded_of_change_and (C:=Tryz.checked) (X:=fun w _ => laidMetH Tryz.prog laidSha w) (fun _ _ _ hh h => h.of_heap hh) own_ started (by kernel_rfl) Tryz.func3
  (ChangeSpec.witness_shaped (enc:=enc) (C:=Tryz.checked) (os:=os) (X:=fun w _ => laidMetH Tryz.prog laidSha w) false (World.doorLaid Tryz.prog 34 os) #[.agg #[.int .i64 0, .slice none 0 0], .agg #[.slice none 0 0, .int .i64 0, .int .i64 0], .slice none 0 0, .string ⟨#[]⟩, .agg #[.slice none 0 0, .slice none 0 0, .slice none 0 0, .int .i64 0, .int .i64 0, .string ⟨#[]⟩, .string ⟨#[]⟩, .int .i64 0, .slice none 0 0, .slice none 0 0, .slice none 0 0, .slice none 0 0]] 8 rfl (World.shaped_of_RefB (by kernel_rfl) (by kernel_rfl)) (by kernel_rfl) (by kernel_rfl) (by kernel_rfl) (door_met os _)) ?_
 intro W base args ds gs before hval0 hW hcnd _ hLaid _
 have hval : ∀ (j : Nat) t v,Tryz.f3.params[j]? = some t → args[j]? = some v → Value.okWide Tryz.prog W .any base t v:=hval0
 have hW':=hW
 obtain ⟨p,q,hA0,hV,rfl,hfz,hnd⟩:=hW
 have hA : DataW.TrodAll enc Tryz.prog W 0 (fun _ => true) true Tryz.f3.params.toList args.toList ds p:=hA0
 rw [Tryz.params3] at hA hval
 have hA2:=hA
 obtain ⟨v0,vs0,d0,ds0,p0,q0,hargs0,rfl,rfl,h0,r0⟩:=trodAll_cons hA
 obtain ⟨v1,vs1,d1,ds1,p1,q1,hargs1,rfl,rfl,h1,r1⟩:=trodAll_cons r0
 obtain ⟨v2,vs2,d2,ds2,p2,q2,hargs2,rfl,rfl,h2,r2⟩:=trodAll_cons r1
 obtain ⟨v3,vs3,d3,ds3,p3,q3,hargs3,rfl,rfl,h3,r3⟩:=trodAll_cons r2
 obtain ⟨v4,vs4,d4,ds4,p4,q4,hargs4,rfl,rfl,h4,r4⟩:=trodAll_cons r3
 obtain ⟨rfl,rfl,rfl⟩:=trodAll_nil r4
 try subst hargs1
 try subst hargs2
 try subst hargs3
 try subst hargs4
 obtain rfl : args = #[v0,v1,v2,v3,v4]:=by cases args; simp_all
 have hV2:=hV
 obtain ⟨_,_,_,_,g0,_,_,_,_,_,g1,_,hgs,_⟩:=trodVars_two hV2
 subst hgs
 obtain ⟨c0,rfl⟩:=okWide_agg Tryz.underlying24 (hval 0 24 v0 rfl rfl)
 obtain ⟨fu0,hf0⟩:=h0
 obtain ⟨x0,hx0⟩:=rdb_Client H enc W 0 _ _ fu0 _ _ hf0
 obtain ⟨c1,rfl⟩:=okWide_agg Tryz.underlying27 (hval 1 27 v1 rfl rfl)
 obtain ⟨fu1,hf1⟩:=h1
 obtain ⟨x1,hx1⟩:=rdb_Trust H enc W 0 _ _ fu1 _ _ hf1
 have ng2:=nagg_slice Tryz.underlying28 (hval 2 28 v2 rfl rfl)
 obtain ⟨fu2,hf2⟩:=h2
 obtain ⟨x2,hx2⟩:=rdb_SealS H enc W 0 _ _ fu2 _ _ hf2
 obtain ⟨A2,k2,hc2,hl2,hm2,hr2⟩:=open_list hx2
 obtain rfl:=cells_one hc2 ng2
 have ng3:=nagg_string Tryz.underlying9 (hval 3 9 v3 rfl rfl)
 obtain ⟨fu3,hf3⟩:=h3
 obtain ⟨x3,hx3⟩:=rdb_str (Tryz.underlying9) H enc W 0 _ _ fu3 _ _ hf3
 obtain ⟨hc3,hi3⟩:=open_str hx3
 obtain rfl:=cells_one hc3 ng3
 obtain ⟨c4,rfl⟩:=okWide_agg Tryz.underlying40 (hval 4 40 v4 rfl rfl)
 obtain ⟨fu4,hf4⟩:=h4
 obtain ⟨x4,hx4⟩:=rdb_Whole H enc W 0 _ _ fu4 _ _ hf4
 refine (law_ClientHear W x0 c0.toList All hx0 x1 c1.toList All hx1 x2 A2 k2 All hr2 hl2 hm2 x3 hi3 x4 c4.toList All hx4 (tabs_of_laid hLaid)).mono fun e W' ⟨he,hb⟩ => ?_
 subst he
 refine ⟨_,rfl,post_below (pa:=p0 ++ (p1 ++ (p2 ++ (p3 ++ (p4 ++ []))))) (pv:=q) hW' (fun _ _ _ => trodAll_mk1 (shut_bool Tryz.underlying4 true)) (fun sp hsp => ?_) (fun sp hsp => trodVars_stays laidOut_ hb (by kernel_rfl) hV (fun x hx => hsp x (by simp [hx]))) zz32 hb (ok_one (by kernel_rfl) rfl (okWide_bool_mk Tryz.underlying4 true))⟩
 rw [show Tryz.f3.params.toList = _ from congrArg Array.toList Tryz.params3]
 exact trodAll_stays laidOut_ hb _ _ _ _ (by intro t ht; simp at ht; rcases ht with rfl | rfl | rfl | rfl | rfl <;> exact ⟨by kernel_rfl,by decide +kernel⟩) hA2 (fun x hx => hW'.lt x (by first | (simpa using Or.inl hx) | (simp at hx ⊢; rcases hx with hx | hx | hx | hx | hx <;> simp [hx]) | (simp at hx ⊢; rcases hx with hx | hx | hx | hx <;> simp [hx]) | (simp at hx ⊢; rcases hx with hx | hx | hx <;> simp [hx]) | (simp at hx ⊢; rcases hx with hx | hx <;> simp [hx]))) (fun x hx => hsp x (by first | (simpa using Or.inl hx) | (simp at hx ⊢; rcases hx with hx | hx | hx | hx | hx <;> simp [hx]) | (simp at hx ⊢; rcases hx with hx | hx | hx | hx <;> simp [hx]) | (simp at hx ⊢; rcases hx with hx | hx | hx <;> simp [hx]) | (simp at hx ⊢; rcases hx with hx | hx <;> simp [hx])))
theorem row_ClientHear : Rows.FnExactClientHearSaid :=
 OpenClaim.holds_of_wide 3 Tryz.f3 rfl rfl rfl rfl rfl rfl rfl ⟨rfl,rfl,rfl,rfl,rfl⟩ rfl rfl rfl rfl rfl (by kernel_rfl) Tryz.func3 joined_ClientHear
  (of_decide_eq_true (by kernel_rfl)) (by unfold Func.isWrapper; first | (rw [if_pos (by decide +kernel)]; kernel_rfl) | (rw [if_neg (by decide +kernel)]; exact ⟨rfl,rfl⟩))
  (fun os started H enc _ => lifted_ClientHear os started H enc)
theorem holds_ClientHear : Rows.FnExactClientHearCardSaid :=
 Claim7.holds_tied_plain_at .later [] Rows.fnExactClientHearCard.laidKinds true Rows.fnExactClientHearCard.stood.harness false
  row_ClientHear (fun _ h => by cases h) (by as_aux_lemma => kernel_rfl) (fun _ h => by cases h) fnExactClientHear_row_tie rfl ⟨rfl,rfl⟩ (by as_aux_lemma => kernel_rfl) rfl
  (fun f fn hf hfn => by
   obtain rfl : f = 3 := Option.some.inj ((show Tryz.prog.funcNamed "loop.example/g00284/laws.FnExactClientHear" = some 3 by as_aux_lemma => kernel_rfl).symm.trans hf) |>.symm
   obtain rfl : fn = Tryz.f3:=(Option.some.inj (Tryz.func3.symm.trans hfn)).symm
   exact ⟨by as_aux_lemma => kernel_rfl,fun j t ht => by
    rw [Tryz.params3] at ht
    have hm : t ∈ [24,27,28,9,40]:=by simpa using Array.mem_of_getElem? ht
    have hall : ([24,27,28,9,40].all fun u => !Tryz.prog.wantsStandIn u) = true:=by as_aux_lemma => kernel_rfl
    exact (show Tryz.prog.wantsStandIn t = false by simpa using List.all_eq_true.1 hall t hm)⟩)
  (by as_aux_lemma => kernel_rfl)
end Go.Proofs.YtgllafgpmenjjaaGreatDoor
