/- A part of the proof. -/
import Derived.Test.YtlfnmbcnehaikaaGreatDoorTie
import Derived.Test.YtlfnmbcnehaikaaGreatDoorCards
import Derived.Test.YtlfnmbcnehaikaaGreatDoorHApSz
import Derived.Test.YtlfnmbcnehaikaaGreatDoorHApTo
import Derived.Test.YtlfnmbcnehaikaaGreatDoorHApEq
import Derived.Test.YtlfnmbcnehaikaaGreatDoorHApUmp2
import Derived.Test.YtlfnmbcnehaikaaGreatDoorHApJAuditorOk
set_option linter.unusedVariables false
set_option linter.unusedSimpArgs false
set_option maxRecDepth 100000
set_option maxHeartbeats 8000000
namespace Go.Proofs.YtlfnmbcnehaikaaGreatDoor
open Go.RowKit Go.WideShapes Go.ChangeShapes Go.ChangeAt Lay Mk
theorem law_AuditorOk (w : World) (p0 : Auditor) (cp0 : List Value) (Sp0 : Blks) (hp0 : rd false w cp0 p0 Sp0) (p1 : List ByteArray) (Ap1 : Option Addr) (kp1 : Nat) (Sp1 : Blks) (hp1 : Row false w Ap1 kp1 p1 Sp1) (lp1 : p1.length ≤ kp1) (mp1 : kp1 ≤ maxLen) (hT : Tabs w) : Calls Tryz.prog 4 #[.agg cp0.toArray, .slice Ap1 p1.length kp1] w fun e w' => e = .returned (.bool true) ∧ Below w.heap.size w w':=by
 have HTb:=zd hT; clear hT
 replace hp0:=old_rng hp0
 have HR_p0:=zd hp0; clear hp0
 have ln_p0:=Lay.len HR_p0.out
 replace hp1:=old_rngR hp1
 have HR_p1:=zd hp1; clear hp1
 have k_p0 : (Tryz.prog.info? 44).map (·.size) = some (Lay.n Auditor):=by kernel_rfl
 go_enter Tryz.func4,Tryz.ntmps4
 go_wp2_with (first | (refine wpList_box rfl _ _ rfl rfl ?_) | (refine wpList_loadT rfl _ _ rfl rfl (At.new _ cp0 _ (0,0)) Tryz.underlying44 k_p0 ln_p0 ?_))
 refine (sz_Auditor p0 _ _ _ _ (Lay.later HR_p0.out ((Below.refl _ _).alloc (Nat.le_refl _) _)) zz4 zz4).mono ?_
 rintro e1 w1 ⟨⟨n1,rfl,hn1⟩,hb1⟩
 have hl1 : Below w.heap.size w w1:=(Below.via hb1)
 have hB1 : Below w.heap.size w w1:=hl1
 have hz1 : w.heap.size + 1 ≤ w1.heap.size:=zz28
 replace HR_p0:=zd (Lay.later HR_p0.out hl1)
 replace HR_p1:=zd (Row.later HR_p1.out hl1)
 have HA_p0 : Hid (At w1 (w.heap.size) 0 cp0):=zd (by have:=(At.new w cp0 _ (0,0)).below (b:=w.heap.size) hb1 zz17; simpa using this)
 have lt_p0 : w.heap.size < w1.heap.size:=zz4
 rcases szR_cases hn1 zz4 with rfl | ⟨hn1a,hn1b,sz_p0⟩
 ·go_wp2_with (fail)
  go_ret; exact ⟨rfl,hB1⟩
 clear hn1
 go_wp2_with (first | (refine wpList_loadT rfl _ _ rfl rfl HA_p0.out Tryz.underlying44 k_p0 ln_p0 ?_))
 refine (sz_StringS p1 _ Ap1 kp1 _ _ HR_p1.out (Nat.le_trans lp1 mp1) zz4 zz4).mono ?_
 rintro e2 w2 ⟨⟨n2,rfl,hn2⟩,hb2⟩
 have hl2:=hb2
 have hB2 : Below w.heap.size w w2:=Below.step hB1 hl2
 have hz2 : w1.heap.size + 0 ≤ w2.heap.size:=zz35
 replace HR_p0:=zd (Lay.later HR_p0.out hl2)
 replace HR_p1:=zd (Row.later HR_p1.out hl2)
 replace HA_p0:=zd (HA_p0.out.below hl2 lt_p0); replace lt_p0:=Nat.lt_of_lt_of_le lt_p0 hl2.size
 rcases szR_cases hn2 zz4 with rfl | ⟨hn2a,hn2b,sz_p1⟩
 ·go_wp2_with (fail)
  go_ret; exact ⟨rfl,hB2⟩
 clear hn2
 go_wp2_with (first | (refine wpList_loadT rfl _ _ rfl rfl HA_p0.out Tryz.underlying44 k_p0 ln_p0 ?_))
 refine (to_Auditor p0 _ _ _ HR_p0.out sz_p0).mono ?_
 rintro e3 w3 ⟨c_t3,rfl,hr_,hb3⟩
 have hl3:=hb3
 have hB3 : Below w.heap.size w w3:=Below.step hB2 hl3
 have hz3 : w2.heap.size + 0 ≤ w3.heap.size:=by have:=hb3.size; (try simp at this); omega
 replace HR_p0:=zd (Lay.later HR_p0.out hl3)
 replace HR_p1:=zd (Row.later HR_p1.out hl3)
 replace HA_p0:=zd (HA_p0.out.below hl3 lt_p0); replace lt_p0:=Nat.lt_of_lt_of_le lt_p0 hl3.size
 have HR_t3:=zd (Lay.mono hr_ (S':=rng (w2.heap.size) (w3.heap.size)) (fun b h => zz32)); clear hr_
 have sb_t3 : sub (rng (w2.heap.size) (w3.heap.size)) (rng (w2.heap.size) (w3.heap.size)):=ya8 _
 go_wp2_with (first | (refine wpList_loadT rfl _ _ rfl rfl HA_p0.out Tryz.underlying44 k_p0 ln_p0 ?_))
 refine (to_StringS p1 _ Ap1 kp1 _ HR_p1.out sz_p1).mono ?_
 rintro e4 w4 ⟨A_t4,c_t4,rfl,lt4,mt4,hr_,hb4⟩
 have hl4:=hb4
 have hB4 : Below w.heap.size w w4:=Below.step hB3 hl4
 have hz4 : w3.heap.size + 0 ≤ w4.heap.size:=by have:=hb4.size; (try simp at this); omega
 replace HR_p0:=zd (Lay.later HR_p0.out hl4)
 replace HR_p1:=zd (Row.later HR_p1.out hl4)
 replace HR_t3:=zd (Lay.later HR_t3.out hl4)
 replace HA_p0:=zd (HA_p0.out.below hl4 lt_p0); replace lt_p0:=Nat.lt_of_lt_of_le lt_p0 hl4.size
 have HR_t4:=zd (Row.mono hr_ (S':=rng (w3.heap.size) (w4.heap.size)) (fun b h => zz32)); clear hr_
 have sb_t4 : sub (rng (w3.heap.size) (w4.heap.size)) (rng (w3.heap.size) (w4.heap.size)):=ya8 _
 go_wp2_with (first | (refine wpList_loadT rfl _ _ rfl rfl HA_p0.out Tryz.underlying44 k_p0 ln_p0 ?_))
 refine (spec_AuditorOk _ p0 c_t3 _ (Lay.weak HR_t3.out) sz_p0 p1 A_t4 c_t4 _ (Row.weak HR_t4.out) lt4 mt4 sz_p1).mono ?_
 rintro e5 w5 ⟨rfl,hb5⟩
 have hl5:=hb5
 have hB5 : Below w.heap.size w w5:=Below.step hB4 hl5
 have hz5 : w4.heap.size + 0 ≤ w5.heap.size:=by have:=hb5.size; (try simp at this); omega
 replace HR_p0:=zd (Lay.later HR_p0.out hl5)
 replace HR_p1:=zd (Row.later HR_p1.out hl5)
 replace HR_t3:=zd (Lay.later HR_t3.out hl5)
 replace HR_t4:=zd (Row.later HR_t4.out hl5)
 replace HA_p0:=zd (HA_p0.out.below hl5 lt_p0); replace lt_p0:=Nat.lt_of_lt_of_le lt_p0 hl5.size
 clear HR_t3
 clear HR_t4
 go_wp2_with (first | (refine wpList_loadT rfl _ _ rfl rfl HA_p0.out Tryz.underlying44 k_p0 ln_p0 ?_))
 refine (to_Auditor p0 _ _ _ HR_p0.out sz_p0).mono ?_
 rintro e6 w6 ⟨c_x0,rfl,hr_,hb6⟩
 have hl6:=hb6
 have hB6 : Below w.heap.size w w6:=Below.step hB5 hl6
 have hz6 : w5.heap.size + 0 ≤ w6.heap.size:=by have:=hb6.size; (try simp at this); omega
 replace HR_p0:=zd (Lay.later HR_p0.out hl6)
 replace HR_p1:=zd (Row.later HR_p1.out hl6)
 replace HA_p0:=zd (HA_p0.out.below hl6 lt_p0); replace lt_p0:=Nat.lt_of_lt_of_le lt_p0 hl6.size
 have HR_x0:=zd (Lay.mono hr_ (S':=rng (w5.heap.size) (w6.heap.size)) (fun b h => zz32)); clear hr_
 have sb_x0 : sub (rng (w5.heap.size) (w6.heap.size)) (rng (w5.heap.size) (w6.heap.size)):=ya8 _
 have ln_x0:=Lay.len HR_x0.out
 have on_x0:=Lay.one HR_x0.out
 have k_x0 : (Tryz.prog.info? 33).map (·.size) = some (Lay.n Auditor):=by kernel_rfl
 go_wp2_with (first | (refine wpList_storeNew (cs:=c_x0.toArray) rfl _ _ _ rfl rfl rfl rfl (k_x0.trans (congrArg some ln_x0.symm)) (Eq.trans (b:=Lay.n Auditor) rfl ln_x0.symm) (by simpa using on_x0) ?_) | (refine wpList_loadT rfl _ _ rfl rfl (At.new _ c_x0 _ (0,0)) Tryz.underlying33 k_x0 ln_x0 ?_) | (refine wpList_loadT rfl _ _ rfl rfl (HA_p0.out.alloc lt_p0 _) Tryz.underlying44 k_p0 ln_p0 ?_))
 refine (to_StringS p1 _ Ap1 kp1 _ (Row.later HR_p1.out ((Below.refl _ _).alloc (Nat.le_refl _) _)) sz_p1).mono ?_
 rintro e7 w7 ⟨A_x1,c_x1,rfl,lx1,mx1,hr_,hb7⟩
 have hl7 : Below w6.heap.size w6 w7:=(Below.via hb7)
 have hB7 : Below w.heap.size w w7:=Below.step hB6 hl7
 have hz7 : w6.heap.size + 1 ≤ w7.heap.size:=by have:=hb7.size; (try simp at this); omega
 replace HR_p0:=zd (Lay.later HR_p0.out hl7)
 replace HR_p1:=zd (Row.later HR_p1.out hl7)
 replace HR_x0:=zd (Lay.later HR_x0.out hl7)
 replace HA_p0:=zd (HA_p0.out.below hl7 lt_p0); replace lt_p0:=Nat.lt_of_lt_of_le lt_p0 hl7.size
 have HA_x0 : Hid (At w7 (w6.heap.size) 0 c_x0):=zd (by have:=(At.new w6 c_x0 _ (0,0)).below (b:=w6.heap.size) hb7 zz17; simpa using this)
 have lt_x0 : w6.heap.size < w7.heap.size:=zz4
 have HR_x1:=zd (Row.mono hr_ (S':=rng (w6.heap.size + 1) (w7.heap.size)) (fun b h => zz32)); clear hr_
 have sb_x1 : sub (rng (w6.heap.size + 1) (w7.heap.size)) (rng (w6.heap.size + 1) (w7.heap.size)):=ya8 _
 go_wp2_with (first | (refine wpList_loadT rfl _ _ rfl rfl HA_p0.out Tryz.underlying44 k_p0 ln_p0 ?_) | (refine wpList_loadT rfl _ _ rfl rfl HA_x0.out Tryz.underlying33 k_x0 ln_x0 ?_))
 refine (impl_AuditorOk _ p0 c_x0 _ (Lay.weak HR_x0.out) sz_p0 p1 A_x1 c_x1 _ (Row.weak HR_x1.out) lx1 mx1 sz_p1 (Tabs.later HTb.out hB7)).mono ?_
 rintro e8 w8 ⟨rfl,hb8⟩
 have hl8:=hb8
 have hB8 : Below w.heap.size w w8:=Below.step hB7 hl8
 have hz8 : w7.heap.size + 0 ≤ w8.heap.size:=by have:=hb8.size; (try simp at this); omega
 replace HR_p0:=zd (Lay.later HR_p0.out hl8)
 replace HR_p1:=zd (Row.later HR_p1.out hl8)
 replace HR_x0:=zd (Lay.later HR_x0.out hl8)
 replace HR_x1:=zd (Row.later HR_x1.out hl8)
 replace HA_p0:=zd (HA_p0.out.below hl8 lt_p0); replace lt_p0:=Nat.lt_of_lt_of_le lt_p0 hl8.size
 replace HA_x0:=zd (HA_x0.out.below hl8 lt_x0); replace lt_x0:=Nat.lt_of_lt_of_le lt_x0 hl8.size
 go_wp2_with (first | (refine wpList_loadT rfl _ _ rfl rfl HA_p0.out Tryz.underlying44 k_p0 ln_p0 ?_) | (refine wpList_loadT rfl _ _ rfl rfl HA_x0.out Tryz.underlying33 k_x0 ln_x0 ?_))
 refine wp_region_held_drew (S:=fun W' => At W' (w6.heap.size) 0 c_x0 ∧ At W' (w.heap.size) 0 cp0) (by kernel_rfl) ⟨HA_x0.out,HA_p0.out⟩ (fun hS => ?_)
 refine wpAnyH_take (i:=0) (v:=.agg c_x0.toArray) rfl (by kernel_rfl) (by kernel_rfl) (by kernel_rfl) (fun _ _ _ h => h) (ya7 zz22 _ _ rfl rfl (fun _ h => h.1) Tryz.underlying33 k_x0 ln_x0) hS ?_
 (try simp only [Act.put,List.getElem_toArray,List.getElem_cons_succ,List.getElem_cons_zero,List.setIfInBounds_toArray,List.set_cons_zero,List.set_cons_succ])
 refine wpAnyH_take (i:=1) (v:=.agg cp0.toArray) rfl (by kernel_rfl) (by kernel_rfl) (by kernel_rfl) (fun _ _ _ h => h) (ya7 zz22 _ _ rfl rfl (fun _ h => h.2) Tryz.underlying44 k_p0 ln_p0) hS ?_
 (try simp only [Act.put,List.getElem_toArray,List.getElem_cons_succ,List.getElem_cons_zero,List.setIfInBounds_toArray,List.set_cons_zero,List.set_cons_succ])
 refine wpAnyH_ready (rs:=[2]) (by kernel_rfl) zz17 (AllReadyH.cons rfl (fun K hK => ?_) AllReadyH.nil)
 (try rw [if_pos zz22])
 clear hS
 go_simp
 refine (to_Auditor p0 _ _ _ (Lay.later HR_p0.out ((Below.refl _ _).drew)) sz_p0).mono ?_
 rintro e9 w9 ⟨c_t9,rfl,hr_,hb9⟩
 have hb9:=Below.viad hb9
 have hl9:=hb9
 have hB9 : Below w.heap.size w w9:=Below.step hB8 hl9
 have hz9 : w8.heap.size + 0 ≤ w9.heap.size:=by have:=hb9.size; (try simp at this); omega
 replace HR_p0:=zd (Lay.later HR_p0.out hl9)
 replace HR_p1:=zd (Row.later HR_p1.out hl9)
 replace HR_x0:=zd (Lay.later HR_x0.out hl9)
 replace HR_x1:=zd (Row.later HR_x1.out hl9)
 replace HA_p0:=zd (HA_p0.out.below hl9 lt_p0); replace lt_p0:=Nat.lt_of_lt_of_le lt_p0 hl9.size
 replace HA_x0:=zd (HA_x0.out.below hl9 lt_x0); replace lt_x0:=Nat.lt_of_lt_of_le lt_x0 hl9.size
 have HR_t9:=zd (Lay.mono hr_ (S':=rng (w8.heap.size) (w9.heap.size)) (fun b h => zz32)); clear hr_
 have sb_t9 : sub (rng (w8.heap.size) (w9.heap.size)) (rng (w8.heap.size) (w9.heap.size)):=ya8 _
 refine hK.out _ _ ⟨HA_x0.out,HA_p0.out⟩ (fun hS => ?_)
 clear hK K
 (try simp only [Act.put,List.getElem_toArray,List.getElem_cons_succ,List.getElem_cons_zero,List.setIfInBounds_toArray,List.set_cons_zero,List.set_cons_succ])
 refine wpAnyH_ready (rs:=[3]) (by kernel_rfl) zz17 (AllReadyH.cons rfl (fun K hK => ?_) AllReadyH.nil)
 (try rw [if_pos zz22])
 clear hS
 go_simp
 refine (eq_Auditor p0 _ _ _ _ _ (Lay.weak HR_x0.out) (Lay.weak HR_t9.out)).mono ?_
 rintro e10 w10 ⟨rfl,hb10⟩
 have hl10:=hb10
 have hB10 : Below w.heap.size w w10:=Below.step hB9 hl10
 have hz10 : w9.heap.size + 0 ≤ w10.heap.size:=by have:=hb10.size; (try simp at this); omega
 replace HR_p0:=zd (Lay.later HR_p0.out hl10)
 replace HR_p1:=zd (Row.later HR_p1.out hl10)
 replace HR_x0:=zd (Lay.later HR_x0.out hl10)
 replace HR_x1:=zd (Row.later HR_x1.out hl10)
 replace HR_t9:=zd (Lay.later HR_t9.out hl10)
 replace HA_p0:=zd (HA_p0.out.below hl10 lt_p0); replace lt_p0:=Nat.lt_of_lt_of_le lt_p0 hl10.size
 replace HA_x0:=zd (HA_x0.out.below hl10 lt_x0); replace lt_x0:=Nat.lt_of_lt_of_le lt_x0 hl10.size
 refine hK.out _ _ ⟨HA_x0.out,HA_p0.out⟩ (fun hS => ?_)
 clear hK K
 (try simp only [Act.put,List.getElem_toArray,List.getElem_cons_succ,List.getElem_cons_zero,List.setIfInBounds_toArray,List.set_cons_zero,List.set_cons_succ])
 refine wpAnyH_ready (rs:=[4]) (by kernel_rfl) zz17 (AllReadyH.cons rfl (fun K hK => ?_) AllReadyH.nil)
 go_simp
 refine hK.out _ _ hS (fun hS => ?_)
 clear hK K
 (try (try simp only [Act.put,List.getElem_toArray,List.getElem_cons_succ,List.getElem_cons_zero,List.setIfInBounds_toArray,List.set_cons_zero,List.set_cons_succ]))
 refine wpAnyH_done (by kernel_rfl) ?_ _
 clear hS
 clear HR_t9
 go_wp2_with (first | (refine wpList_loadT rfl _ _ rfl rfl HA_p0.out Tryz.underlying44 k_p0 ln_p0 ?_) | (refine wpList_loadT rfl _ _ rfl rfl HA_x0.out Tryz.underlying33 k_x0 ln_x0 ?_))
 refine (to_StringS p1 _ Ap1 kp1 _ HR_p1.out sz_p1).mono ?_
 rintro e11 w11 ⟨A_t11,c_t11,rfl,lt11,mt11,hr_,hb11⟩
 have hl11:=hb11
 have hB11 : Below w.heap.size w w11:=Below.step hB10 hl11
 have hz11 : w10.heap.size + 0 ≤ w11.heap.size:=by have:=hb11.size; (try simp at this); omega
 replace HR_p0:=zd (Lay.later HR_p0.out hl11)
 replace HR_p1:=zd (Row.later HR_p1.out hl11)
 replace HR_x0:=zd (Lay.later HR_x0.out hl11)
 replace HR_x1:=zd (Row.later HR_x1.out hl11)
 replace HA_p0:=zd (HA_p0.out.below hl11 lt_p0); replace lt_p0:=Nat.lt_of_lt_of_le lt_p0 hl11.size
 replace HA_x0:=zd (HA_x0.out.below hl11 lt_x0); replace lt_x0:=Nat.lt_of_lt_of_le lt_x0 hl11.size
 have HR_t11:=zd (Row.mono hr_ (S':=rng (w10.heap.size) (w11.heap.size)) (fun b h => zz32)); clear hr_
 have sb_t11 : sub (rng (w10.heap.size) (w11.heap.size)) (rng (w10.heap.size) (w11.heap.size)):=ya8 _
 go_wp2_with (first | (refine wpList_loadT rfl _ _ rfl rfl HA_p0.out Tryz.underlying44 k_p0 ln_p0 ?_) | (refine wpList_loadT rfl _ _ rfl rfl HA_x0.out Tryz.underlying33 k_x0 ln_x0 ?_))
 refine (eq_StringS p1 _ A_x1 A_t11 c_x1 c_t11 _ _ (Row.weak HR_x1.out) (Row.weak HR_t11.out) (Nat.le_trans lx1 mx1)).mono ?_
 rintro e12 w12 ⟨rfl,hb12⟩
 have hl12:=hb12
 have hB12 : Below w.heap.size w w12:=Below.step hB11 hl12
 have hz12 : w11.heap.size + 0 ≤ w12.heap.size:=by have:=hb12.size; (try simp at this); omega
 replace HR_p0:=zd (Lay.later HR_p0.out hl12)
 replace HR_p1:=zd (Row.later HR_p1.out hl12)
 replace HR_x0:=zd (Lay.later HR_x0.out hl12)
 replace HR_x1:=zd (Row.later HR_x1.out hl12)
 replace HR_t11:=zd (Row.later HR_t11.out hl12)
 replace HA_p0:=zd (HA_p0.out.below hl12 lt_p0); replace lt_p0:=Nat.lt_of_lt_of_le lt_p0 hl12.size
 replace HA_x0:=zd (HA_x0.out.below hl12 lt_x0); replace lt_x0:=Nat.lt_of_lt_of_le lt_x0 hl12.size
 clear HR_t11
 go_wp2_with (first | (refine wpList_loadT rfl _ _ rfl rfl HA_p0.out Tryz.underlying44 k_p0 ln_p0 ?_) | (refine wpList_loadT rfl _ _ rfl rfl HA_x0.out Tryz.underlying33 k_x0 ln_x0 ?_))
 go_ret; exact ⟨rfl,hB12⟩
theorem lifted_AuditorOk (os : Os) (started : os.Started) (H : Type) (enc : TypeId × Value → H) :
  ReturnsInHanded {} Tryz.checked os 4 .any (fun w args => (Rows.fnExactAuditorOkSpec.pre enc Tryz.prog Tryz.f4 [] false w args ∧ laidMetH Tryz.prog laidFive w) ∧ sizedMet enc Tryz.prog Tryz.f4 (OpenSpec.ofChange Rows.fnExactAuditorOkSpec) false w args)
   (Rows.fnExactAuditorOkSpec.post enc Tryz.prog Tryz.f4 false true false false):=by
 refine returnsInHanded_of_change_and (C:=Tryz.checked) (X:=fun w _ => laidMetH Tryz.prog laidFive w) (fun _ _ _ hh h => h.of_heap hh) own_ started (by kernel_rfl) Tryz.func4
  (ChangeSpec.witness_shaped (enc:=enc) (C:=Tryz.checked) (os:=os) (X:=fun w _ => laidMetH Tryz.prog laidFive w) false (World.doorLaid Tryz.prog 34 os) #[.agg #[.int .i64 0, .bool false, .slice none 0 0, .slice none 0 0, .slice none 0 0, .slice none 0 0], .slice none 0 0] 8 rfl (World.shaped_of_RefB (by kernel_rfl) (by kernel_rfl)) (by kernel_rfl) (by kernel_rfl) (by kernel_rfl) (door_met5 os _)) ?_
 intro W base args ds gs before hval0 hW hcnd _ hLaid _
 have hval : ∀ (j : Nat) t v,Tryz.f4.params[j]? = some t → args[j]? = some v → Value.okWide Tryz.prog W .any base t v:=hval0
 have hW':=hW
 obtain ⟨p,q,hA0,hV,rfl,hfz,hnd⟩:=hW
 have hA : DataW.TrodAll enc Tryz.prog W 0 (fun _ => true) true Tryz.f4.params.toList args.toList ds p:=hA0
 rw [Tryz.params4] at hA hval
 have hA2:=hA
 obtain ⟨v0,vs0,d0,ds0,p0,q0,hargs0,rfl,rfl,h0,r0⟩:=trodAll_cons hA
 obtain ⟨v1,vs1,d1,ds1,p1,q1,hargs1,rfl,rfl,h1,r1⟩:=trodAll_cons r0
 obtain ⟨rfl,rfl,rfl⟩:=trodAll_nil r1
 try subst hargs1
 obtain rfl : args = #[v0,v1]:=by cases args; simp_all
 have hV2:=hV
 obtain ⟨_,_,_,_,g0,_,_,_,_,_,g1,_,hgs,_⟩:=trodVars_two hV2
 subst hgs
 obtain ⟨c0,rfl⟩:=okWide_agg Tryz.underlying44 (hval 0 44 v0 rfl rfl)
 obtain ⟨fu0,hf0⟩:=h0
 obtain ⟨x0,hx0⟩:=rdb_Auditor H enc W 0 _ _ fu0 _ _ hf0
 have ng1:=nagg_slice Tryz.underlying29 (hval 1 29 v1 rfl rfl)
 obtain ⟨fu1,hf1⟩:=h1
 obtain ⟨x1,hx1⟩:=rdb_StringS H enc W 0 _ _ fu1 _ _ hf1
 obtain ⟨A1,k1,hc1,hl1,hm1,hr1⟩:=open_list hx1
 obtain rfl:=cells_one hc1 ng1
 refine (law_AuditorOk W x0 c0.toList All hx0 x1 A1 k1 All hr1 hl1 hm1 (tabs_of_five hLaid)).mono fun e W' ⟨he,hb⟩ => ?_
 subst he
 refine ⟨_,rfl,post_below (pa:=p0 ++ (p1 ++ [])) (pv:=q) hW' (fun _ _ _ => trodAll_mk1 (shut_bool Tryz.underlying4 true)) (fun sp hsp => ?_) (fun sp hsp => trodVars_stays laidOut_ hb (by kernel_rfl) hV (fun x hx => hsp x (by simp [hx]))) zz17 hb (ok_one (by kernel_rfl) rfl (okWide_bool_mk Tryz.underlying4 true))⟩
 rw [show Tryz.f4.params.toList = _ from congrArg Array.toList Tryz.params4]
 exact trodAll_stays laidOut_ hb _ _ _ _ (by intro t ht; simp at ht; rcases ht with rfl | rfl <;> exact ⟨by kernel_rfl,by decide +kernel⟩) hA2 (fun x hx => hW'.lt x (by first | (simpa using Or.inl hx) | (simp at hx ⊢; rcases hx with hx | hx | hx | hx | hx <;> simp [hx]) | (simp at hx ⊢; rcases hx with hx | hx | hx | hx <;> simp [hx]) | (simp at hx ⊢; rcases hx with hx | hx | hx <;> simp [hx]) | (simp at hx ⊢; rcases hx with hx | hx <;> simp [hx]))) (fun x hx => hsp x (by first | (simpa using Or.inl hx) | (simp at hx ⊢; rcases hx with hx | hx | hx | hx | hx <;> simp [hx]) | (simp at hx ⊢; rcases hx with hx | hx | hx | hx <;> simp [hx]) | (simp at hx ⊢; rcases hx with hx | hx | hx <;> simp [hx]) | (simp at hx ⊢; rcases hx with hx | hx <;> simp [hx])))
theorem row_AuditorOk : Rows.FnExactAuditorOkSaid :=
 OpenClaim.holds_of_wide 4 Tryz.f4 rfl rfl rfl rfl rfl rfl rfl ⟨rfl,rfl,rfl,rfl,rfl⟩ rfl rfl rfl rfl rfl (by kernel_rfl) Tryz.func4 joined_AuditorOk
  (of_decide_eq_true (by kernel_rfl)) (by unfold Func.isWrapper; first | (rw [if_pos (by decide +kernel)]; kernel_rfl) | (rw [if_neg (by decide +kernel)]; exact ⟨rfl,rfl⟩))
  (fun os started H enc _ => lifted_AuditorOk os started H enc)
theorem holds_AuditorOk : Rows.FnExactAuditorOkCardSaid :=
 Claim7.holds_tied_plain_at .later [] Rows.fnExactAuditorOkCard.laidKinds true Rows.fnExactAuditorOkCard.stood.harness false
  row_AuditorOk (fun _ h => by cases h) (by as_aux_lemma => kernel_rfl) (fun _ h => by cases h) fnExactAuditorOk_row_tie rfl ⟨rfl,rfl⟩ (by as_aux_lemma => kernel_rfl) rfl
  (fun f fn hf hfn => by
   obtain rfl : f = 4 := Option.some.inj ((show Tryz.prog.funcNamed "loop.example/g00284/laws.FnExactAuditorOk" = some 4 by as_aux_lemma => kernel_rfl).symm.trans hf) |>.symm
   obtain rfl : fn = Tryz.f4:=(Option.some.inj (Tryz.func4.symm.trans hfn)).symm
   exact ⟨by as_aux_lemma => kernel_rfl,fun j t ht => by
    rw [Tryz.params4] at ht
    have hm : t ∈ [44,29]:=by simpa using Array.mem_of_getElem? ht
    have hall : ([44,29].all fun u => !Tryz.prog.wantsStandIn u) = true:=by as_aux_lemma => kernel_rfl
    exact (show Tryz.prog.wantsStandIn t = false by simpa using List.all_eq_true.1 hall t hm)⟩)
  (by as_aux_lemma => kernel_rfl)
end Go.Proofs.YtlfnmbcnehaikaaGreatDoor
