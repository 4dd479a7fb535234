/- A part of the proof. -/
import Derived.Test.YtcbbjfafmmcfiaaGreatDoorTie
import Derived.Test.YtcbbjfafmmcfiaaGreatDoorCards
import Derived.Test.YtcbbjfafmmcfiaaGreatDoorHAqBt
import Derived.Test.YtcbbjfafmmcfiaaGreatDoorHAqSz
import Derived.Test.YtcbbjfafmmcfiaaGreatDoorHAqEq
import Derived.Test.YtcbbjfafmmcfiaaGreatDoorHAqAw
import Derived.Test.YtcbbjfafmmcfiaaGreatDoorHAqJAskWorld
set_option linter.unusedVariables false
set_option linter.unusedSimpArgs false
set_option maxRecDepth 100000
set_option maxHeartbeats 8000000
namespace Go.Proofs.YtcbbjfafmmcfiaaGreatDoor
open Go.RowKit Go.WideShapes Go.ChangeShapes Go.ChangeAt Lay Mk
theorem law_AskWorld (w:World) (p0:Wrld) (cp0:List Value) (Sp0:Blks) (hp0:rd false w cp0 p0 Sp0) (p1:Trust) (cp1:List Value) (Sp1:Blks) (hp1:rd false w cp1 p1 Sp1) (p2:Int) (hp2:I64 p2) (p3:ByteArray) (hp3:p3.size≤maxLen) (p4:Int) (hp4:I64 p4) (hT:Tabs w):Calls Tryz.prog 7 #[.agg cp0.toArray,.agg cp1.toArray,.int .i64 p2,.string p3,.int .i64 p4] w fun e w' => e = .returned (.bool true)∧Below w.heap.size w w':=by
 have HTb:=zd hT; clear hT
 replace hp0:=old_rng hp0
 have HR_p0:=zd hp0; clear hp0
 have ln_p0:=Lay.len HR_p0.out
 replace hp1:=old_rng hp1
 have HR_p1:=zd hp1; clear hp1
 have ln_p1:=Lay.len HR_p1.out
 have k_p0:(Tryz.prog.info? 123).map (·.size)=some (Lay.n Wrld):=by kernel_rfl
 have k_p1:(Tryz.prog.info? 54).map (·.size)=some (Lay.n Trust):=by kernel_rfl
 by_cases zp3:p3.size≤1048576
 rotate_left
 ·go_enter Tryz.func7,Tryz.ntmps7
  have qp3:1048576<p3.size:=zz13
  unfold maxLen at hp3
  go_wp2_with (first | (refine wpList_box rfl _ _ rfl rfl ?_) | (refine yag rfl _ _ rfl rfl ((At.new _ cp0 _ (0,0)).alloc zz30 _) Tryz.underlying123 k_p0 ln_p0 ?_) | (refine yag rfl _ _ rfl rfl (At.new _ cp1 _ (0,0)) Tryz.underlying54 k_p1 ln_p1 ?_))
  go_ret; exact ⟨rfl,((Below.refl _ _).alloc zz30 _).alloc zz30 _⟩
 go_enter Tryz.func7,Tryz.ntmps7
 go_wp2_with (first | (refine wpList_box rfl _ _ rfl rfl ?_) | (refine yag rfl _ _ rfl rfl ((At.new _ cp0 _ (0,0)).alloc zz30 _) Tryz.underlying123 k_p0 ln_p0 ?_) | (refine yag rfl _ _ rfl rfl (At.new _ cp1 _ (0,0)) Tryz.underlying54 k_p1 ln_p1 ?_))
 refine (sz_Wrld p0 _ _ _ _ (Lay.later (Lay.later HR_p0.out ((Below.refl _ _).alloc (Nat.le_refl _) _)) ((Below.refl _ _).alloc (Nat.le_refl _) _)) zz13 zz13).mono ?_
 rintro e1 w1 ⟨⟨n1,rfl,hn1⟩,hb1⟩
 have hl1:Below w.heap.size w w1:=(Below.via (Below.via hb1))
 have hB1:Below w.heap.size w w1:=hl1
 have hz1:w.heap.size+2≤w1.heap.size:=zz23
 replace HR_p0:=zd (Lay.later HR_p0.out hl1)
 replace HR_p1:=zd (Lay.later HR_p1.out hl1)
 have HA_p0:Hid (At w1 (w.heap.size) 0 cp0):=zd (by have:=((At.new _ cp0 _ (0,0)).alloc zz30 _).below hb1 (by first | omega | (simp; done) | (simp; omega)); simpa using this)
 have lt_p0:w.heap.size<w1.heap.size:=zz13
 have HA_p1:Hid (At w1 (w.heap.size+1) 0 cp1):=zd (by have:=(At.new _ cp1 _ (0,0)).below hb1 (by first | omega | (simp; done) | (simp; omega)); simpa using this)
 have lt_p1:w.heap.size+1<w1.heap.size:=zz13
 rcases szR_cases hn1 zz13 with rfl | ⟨hn1a,hn1b,sz_p0⟩
 ·go_wp2_with (fail)
  go_ret; exact ⟨rfl,hB1⟩
 clear hn1
 go_wp2_with (first | (refine yag rfl _ _ rfl rfl HA_p0.out Tryz.underlying123 k_p0 ln_p0 ?_) | (refine yag rfl _ _ rfl rfl HA_p1.out Tryz.underlying54 k_p1 ln_p1 ?_))
 refine (sz_Trust p1 _ _ _ _ HR_p1.out zz13 zz13).mono ?_
 rintro e2 w2 ⟨⟨n2,rfl,hn2⟩,hb2⟩
 have hl2:=hb2
 have hB2:Below w.heap.size w w2:=Below.step hB1 hl2
 have hz2:w1.heap.size+0≤w2.heap.size:=zz45
 replace HR_p0:=zd (Lay.later HR_p0.out hl2)
 replace HR_p1:=zd (Lay.later HR_p1.out hl2)
 replace HA_p0:=zd (HA_p0.out.below hl2 lt_p0); replace lt_p0:=Nat.lt_of_lt_of_le lt_p0 hl2.size
 replace HA_p1:=zd (HA_p1.out.below hl2 lt_p1); replace lt_p1:=Nat.lt_of_lt_of_le lt_p1 hl2.size
 rcases szR_cases hn2 zz13 with rfl | ⟨hn2a,hn2b,sz_p1⟩
 ·go_wp2_with (fail)
  go_ret; exact ⟨rfl,hB2⟩
 clear hn2
 go_wp2_with (first | (refine yag rfl _ _ rfl rfl HA_p0.out Tryz.underlying123 k_p0 ln_p0 ?_) | (refine yag rfl _ _ rfl rfl HA_p1.out Tryz.underlying54 k_p1 ln_p1 ?_))
 refine wp_region_held_drew (S:=fun W' => At W' (w.heap.size) 0 cp0∧At W' (w.heap.size+1) 0 cp1) (by kernel_rfl) ⟨HA_p0.out,HA_p1.out⟩ (fun hS => ?_)
 refine wpAnyH_take (i:=0) (v:=.agg cp0.toArray) rfl (by kernel_rfl) (by kernel_rfl) (by kernel_rfl) (fun _ _ _ h => h) (yieldsIf_loadT (by rfl) _ _ rfl rfl (fun _ h => h.1) Tryz.underlying123 k_p0 ln_p0) hS ?_
 (try simp only [Act.put,List.setIfInBounds_toArray,List.set_cons_zero,List.set_cons_succ])
 refine wpAnyH_take (i:=2) (v:=.agg cp1.toArray) rfl (by kernel_rfl) (by kernel_rfl) (by kernel_rfl) (fun _ _ _ h => h) (yieldsIf_loadT (by rfl) _ _ rfl rfl (fun _ h => h.2) Tryz.underlying54 k_p1 ln_p1) hS ?_
 (try simp only [Act.put,List.setIfInBounds_toArray,List.set_cons_zero,List.set_cons_succ])
 refine wpAnyH_take (i:=4) (v:=.int .i64 p2) rfl (by kernel_rfl) (by kernel_rfl) (by kernel_rfl) (fun _ _ _ h => h) (yieldsIf_move (by rfl) _ rfl (by rfl)) hS ?_
 (try simp only [Act.put,List.setIfInBounds_toArray,List.set_cons_zero,List.set_cons_succ])
 refine wpAnyH_take (i:=5) (v:=.string p3) rfl (by kernel_rfl) (by kernel_rfl) (by kernel_rfl) (fun _ _ _ h => h) (yieldsIf_move (by rfl) _ rfl (by rfl)) hS ?_
 (try simp only [Act.put,List.setIfInBounds_toArray,List.set_cons_zero,List.set_cons_succ])
 refine wpAnyH_take (i:=6) (v:=.int .i64 p4) rfl (by kernel_rfl) (by kernel_rfl) (by kernel_rfl) (fun _ _ _ h => h) (yieldsIf_move (by rfl) _ rfl (by rfl)) hS ?_
 (try simp only [Act.put,List.setIfInBounds_toArray,List.set_cons_zero,List.set_cons_succ])
 refine wpAnyH_ready (rs:=[1]) (by kernel_rfl) zz30 (AllReadyH.cons rfl (fun K hK => ?_) AllReadyH.nil)
 (try rw [if_pos (by rfl)])
 clear hS
 go_simp
 refine (to_Wrld p0 _ _ _ (Lay.later HR_p0.out ((Below.refl _ _).drew)) sz_p0).mono ?_
 rintro e3 w3 ⟨c_t3,rfl,hr_,hb3⟩
 have hb3:=Below.viad hb3
 have hl3:=hb3
 have hB3:Below w.heap.size w w3:=Below.step hB2 hl3
 have hz3:w2.heap.size+0≤w3.heap.size:=zz55
 replace HR_p0:=zd (Lay.later HR_p0.out hl3)
 replace HR_p1:=zd (Lay.later HR_p1.out hl3)
 replace HA_p0:=zd (HA_p0.out.below hl3 lt_p0); replace lt_p0:=Nat.lt_of_lt_of_le lt_p0 hl3.size
 replace HA_p1:=zd (HA_p1.out.below hl3 lt_p1); replace lt_p1:=Nat.lt_of_lt_of_le lt_p1 hl3.size
 have HR_t3:=zd (Lay.mono hr_ (S':=rng (w2.heap.size) (w3.heap.size)) (fun b h => zz26)); clear hr_
 have sb_t3:sub (rng (w2.heap.size) (w3.heap.size)) (rng (w2.heap.size) (w3.heap.size)):=ya3 _
 refine hK.out _ _ ⟨HA_p0.out,HA_p1.out⟩ (fun hS => ?_)
 clear hK K
 (try simp only [Act.put,List.setIfInBounds_toArray,List.set_cons_zero,List.set_cons_succ])
 refine wpAnyH_ready (rs:=[3]) (by kernel_rfl) zz30 (AllReadyH.cons rfl (fun K hK => ?_) AllReadyH.nil)
 (try rw [if_pos (by rfl)])
 clear hS
 go_simp
 refine (to_Trust p1 _ _ _ HR_p1.out sz_p1).mono ?_
 rintro e4 w4 ⟨c_t4,rfl,hr_,hb4⟩
 have hl4:=hb4
 have hB4:Below w.heap.size w w4:=Below.step hB3 hl4
 have hz4:w3.heap.size+0≤w4.heap.size:=zz57
 replace HR_p0:=zd (Lay.later HR_p0.out hl4)
 replace HR_p1:=zd (Lay.later HR_p1.out hl4)
 replace HR_t3:=zd (Lay.later HR_t3.out hl4)
 replace HA_p0:=zd (HA_p0.out.below hl4 lt_p0); replace lt_p0:=Nat.lt_of_lt_of_le lt_p0 hl4.size
 replace HA_p1:=zd (HA_p1.out.below hl4 lt_p1); replace lt_p1:=Nat.lt_of_lt_of_le lt_p1 hl4.size
 have HR_t4:=zd (Lay.mono hr_ (S':=rng (w3.heap.size) (w4.heap.size)) (fun b h => zz26)); clear hr_
 have sb_t4:sub (rng (w3.heap.size) (w4.heap.size)) (rng (w3.heap.size) (w4.heap.size)):=ya3 _
 refine hK.out _ _ ⟨HA_p0.out,HA_p1.out⟩ (fun hS => ?_)
 clear hK K
 (try simp only [Act.put,List.setIfInBounds_toArray,List.set_cons_zero,List.set_cons_succ])
 refine wpAnyH_ready (rs:=[7]) (by kernel_rfl) zz30 (AllReadyH.cons rfl (fun K hK => ?_) AllReadyH.nil)
 (try rw [if_pos (by rfl)])
 clear hS
 go_simp
 refine (spec_AskWorld _ p0 c_t3 _ (Lay.weak HR_t3.out) sz_p0 p1 c_t4 _ (Lay.weak HR_t4.out) sz_p1 p2 hp2 p3 zp3 p4 hp4).mono ?_
 rintro e5 w5 ⟨rfl,hb5⟩
 have hl5:=hb5
 have hB5:Below w.heap.size w w5:=Below.step hB4 hl5
 have hz5:w4.heap.size+0≤w5.heap.size:=zz78
 replace HR_p0:=zd (Lay.later HR_p0.out hl5)
 replace HR_p1:=zd (Lay.later HR_p1.out hl5)
 replace HR_t3:=zd (Lay.later HR_t3.out hl5)
 replace HR_t4:=zd (Lay.later HR_t4.out hl5)
 replace HA_p0:=zd (HA_p0.out.below hl5 lt_p0); replace lt_p0:=Nat.lt_of_lt_of_le lt_p0 hl5.size
 replace HA_p1:=zd (HA_p1.out.below hl5 lt_p1); replace lt_p1:=Nat.lt_of_lt_of_le lt_p1 hl5.size
 refine hK.out _ _ ⟨HA_p0.out,HA_p1.out⟩ (fun hS => ?_)
 clear hK K
 (try simp only [Act.put,List.setIfInBounds_toArray,List.set_cons_zero,List.set_cons_succ])
 refine wpAnyH_take (i:=8) (v:=.tuple #[.string (askWorld p0 p1 p2 p3 p4).1,.bool (askWorld p0 p1 p2 p3 p4).2.1,.int .i64 (askWorld p0 p1 p2 p3 p4).2.2]) rfl (by kernel_rfl) (by kernel_rfl) (by kernel_rfl) (fun _ _ _ h => h) (yieldsIf_move (by rfl) _ rfl (by rfl)) hS ?_
 (try simp only [Act.put,List.setIfInBounds_toArray,List.set_cons_zero,List.set_cons_succ])
 refine wpAnyH_take (i:=9) (v:=.string (askWorld p0 p1 p2 p3 p4).1) rfl (by kernel_rfl) (by kernel_rfl) (by kernel_rfl) (fun _ _ _ h => h) (yieldsIf_extract (by rfl) _ 0 rfl (by rfl) (by rfl)) hS ?_
 (try simp only [Act.put,List.setIfInBounds_toArray,List.set_cons_zero,List.set_cons_succ])
 refine wpAnyH_take (i:=10) (v:=.bool (askWorld p0 p1 p2 p3 p4).2.1) rfl (by kernel_rfl) (by kernel_rfl) (by kernel_rfl) (fun _ _ _ h => h) (yieldsIf_extract (by rfl) _ 1 rfl (by rfl) (by rfl)) hS ?_
 (try simp only [Act.put,List.setIfInBounds_toArray,List.set_cons_zero,List.set_cons_succ])
 refine wpAnyH_take (i:=11) (v:=.int .i64 (askWorld p0 p1 p2 p3 p4).2.2) rfl (by kernel_rfl) (by kernel_rfl) (by kernel_rfl) (fun _ _ _ h => h) (yieldsIf_extract (by rfl) _ 2 rfl (by rfl) (by rfl)) hS ?_
 (try simp only [Act.put,List.setIfInBounds_toArray,List.set_cons_zero,List.set_cons_succ])
 refine wpAnyH_take (i:=12) (v:=.string (askWorld p0 p1 p2 p3 p4).1) rfl (by kernel_rfl) (by kernel_rfl) (by kernel_rfl) (fun _ _ _ h => h) (yieldsIf_assign (by rfl) _ rfl (by rfl)) hS ?_
 (try simp only [Act.put,List.setIfInBounds_toArray,List.set_cons_zero,List.set_cons_succ])
 refine wpAnyH_take (i:=13) (v:=.bool (askWorld p0 p1 p2 p3 p4).2.1) rfl (by kernel_rfl) (by kernel_rfl) (by kernel_rfl) (fun _ _ _ h => h) (yieldsIf_assign (by rfl) _ rfl (by rfl)) hS ?_
 (try simp only [Act.put,List.setIfInBounds_toArray,List.set_cons_zero,List.set_cons_succ])
 refine wpAnyH_take (i:=14) (v:=.int .i64 (askWorld p0 p1 p2 p3 p4).2.2) rfl (by kernel_rfl) (by kernel_rfl) (by kernel_rfl) (fun _ _ _ h => h) (yieldsIf_assign (by rfl) _ rfl (by rfl)) hS ?_
 (try simp only [Act.put,List.setIfInBounds_toArray,List.set_cons_zero,List.set_cons_succ])
 refine wpAnyH_done (by kernel_rfl) ?_ _
 clear hS
 clear HR_t3
 clear HR_t4
 go_wp2_with (first | (refine yag rfl _ _ rfl rfl HA_p0.out Tryz.underlying123 k_p0 ln_p0 ?_) | (refine yag rfl _ _ rfl rfl HA_p1.out Tryz.underlying54 k_p1 ln_p1 ?_))
 refine (to_Wrld p0 _ _ _ HR_p0.out sz_p0).mono ?_
 rintro e6 w6 ⟨c_x0,rfl,hr_,hb6⟩
 have hl6:=hb6
 have hB6:Below w.heap.size w w6:=Below.step hB5 hl6
 have hz6:w5.heap.size+0≤w6.heap.size:=by have:=hb6.size; (try simp at this); omega
 replace HR_p0:=zd (Lay.later HR_p0.out hl6)
 replace HR_p1:=zd (Lay.later HR_p1.out hl6)
 replace HA_p0:=zd (HA_p0.out.below hl6 lt_p0); replace lt_p0:=Nat.lt_of_lt_of_le lt_p0 hl6.size
 replace HA_p1:=zd (HA_p1.out.below hl6 lt_p1); replace lt_p1:=Nat.lt_of_lt_of_le lt_p1 hl6.size
 have HR_x0:=zd (Lay.mono hr_ (S':=rng (w5.heap.size) (w6.heap.size)) (fun b h => zz26)); clear hr_
 have sb_x0:sub (rng (w5.heap.size) (w6.heap.size)) (rng (w5.heap.size) (w6.heap.size)):=ya3 _
 have ln_x0:=Lay.len HR_x0.out
 have on_x0:=Lay.one HR_x0.out
 have k_x0:(Tryz.prog.info? 132).map (·.size)=some (Lay.n Wrld):=by kernel_rfl
 go_wp2_with (first | (refine wpList_storeNew (cs:=c_x0.toArray) rfl _ _ _ rfl rfl rfl rfl (k_x0.trans (congrArg some ln_x0.symm)) (Eq.trans (b:=Lay.n Wrld) rfl ln_x0.symm) (by simpa using on_x0) ?_) | (refine yag rfl _ _ rfl rfl (At.new _ c_x0 _ (0,0)) Tryz.underlying132 k_x0 ln_x0 ?_) | (refine yag rfl _ _ rfl rfl (HA_p0.out.alloc lt_p0 _) Tryz.underlying123 k_p0 ln_p0 ?_) | (refine yag rfl _ _ rfl rfl (HA_p1.out.alloc lt_p1 _) Tryz.underlying54 k_p1 ln_p1 ?_))
 refine (to_Trust p1 _ _ _ (Lay.later HR_p1.out ((Below.refl _ _).alloc (Nat.le_refl _) _)) sz_p1).mono ?_
 rintro e7 w7 ⟨c_x1,rfl,hr_,hb7⟩
 have hl7:Below w6.heap.size w6 w7:=(Below.via hb7)
 have hB7:Below w.heap.size w w7:=Below.step hB6 hl7
 have hz7:w6.heap.size+1≤w7.heap.size:=by have:=hb7.size; (try simp at this); omega
 replace HR_p0:=zd (Lay.later HR_p0.out hl7)
 replace HR_p1:=zd (Lay.later HR_p1.out hl7)
 replace HR_x0:=zd (Lay.later HR_x0.out hl7)
 replace HA_p0:=zd (HA_p0.out.below hl7 lt_p0); replace lt_p0:=Nat.lt_of_lt_of_le lt_p0 hl7.size
 replace HA_p1:=zd (HA_p1.out.below hl7 lt_p1); replace lt_p1:=Nat.lt_of_lt_of_le lt_p1 hl7.size
 have HA_x0:Hid (At w7 (w6.heap.size) 0 c_x0):=zd (by have:=(At.new w6 c_x0 _ (0,0)).below (b:=w6.heap.size) hb7 zz30; simpa using this)
 have lt_x0:w6.heap.size<w7.heap.size:=zz13
 have HR_x1:=zd (Lay.mono hr_ (S':=rng (w6.heap.size+1) (w7.heap.size)) (fun b h => zz26)); clear hr_
 have sb_x1:sub (rng (w6.heap.size+1) (w7.heap.size)) (rng (w6.heap.size+1) (w7.heap.size)):=ya3 _
 have ln_x1:=Lay.len HR_x1.out
 have on_x1:=Lay.one HR_x1.out
 have k_x1:(Tryz.prog.info? 62).map (·.size)=some (Lay.n Trust):=by kernel_rfl
 go_wp2_with (first | (refine wpList_storeNew (cs:=c_x1.toArray) rfl _ _ _ rfl rfl rfl rfl (k_x1.trans (congrArg some ln_x1.symm)) (Eq.trans (b:=Lay.n Trust) rfl ln_x1.symm) (by simpa using on_x1) ?_) | (refine yag rfl _ _ rfl rfl (At.new _ c_x1 _ (0,0)) Tryz.underlying62 k_x1 ln_x1 ?_) | (refine yag rfl _ _ rfl rfl (HA_p0.out.alloc lt_p0 _) Tryz.underlying123 k_p0 ln_p0 ?_) | (refine yag rfl _ _ rfl rfl (HA_p1.out.alloc lt_p1 _) Tryz.underlying54 k_p1 ln_p1 ?_) | (refine yag rfl _ _ rfl rfl (HA_x0.out.alloc lt_x0 _) Tryz.underlying132 k_x0 ln_x0 ?_))
 refine (impl_AskWorld _ p0 c_x0 _ (Lay.weak (Lay.later HR_x0.out ((Below.refl _ _).alloc (Nat.le_refl _) _))) sz_p0 p1 c_x1 _ (Lay.weak (Lay.later HR_x1.out ((Below.refl _ _).alloc (Nat.le_refl _) _))) sz_p1 p2 hp2 p3 zp3 p4 hp4 (Tabs.later (Tabs.later HTb.out hB7) ((Below.refl _ _).alloc (Nat.le_refl _) _))).mono ?_
 rintro e8 w8 ⟨rfl,hb8⟩
 have hl8:Below w7.heap.size w7 w8:=(Below.via hb8)
 have hB8:Below w.heap.size w w8:=Below.step hB7 hl8
 have hz8:w7.heap.size+1≤w8.heap.size:=by have:=hb8.size; (try simp at this); omega
 replace HR_p0:=zd (Lay.later HR_p0.out hl8)
 replace HR_p1:=zd (Lay.later HR_p1.out hl8)
 replace HR_x0:=zd (Lay.later HR_x0.out hl8)
 replace HR_x1:=zd (Lay.later HR_x1.out hl8)
 replace HA_p0:=zd (HA_p0.out.below hl8 lt_p0); replace lt_p0:=Nat.lt_of_lt_of_le lt_p0 hl8.size
 replace HA_p1:=zd (HA_p1.out.below hl8 lt_p1); replace lt_p1:=Nat.lt_of_lt_of_le lt_p1 hl8.size
 replace HA_x0:=zd (HA_x0.out.below hl8 lt_x0); replace lt_x0:=Nat.lt_of_lt_of_le lt_x0 hl8.size
 have HA_x1:Hid (At w8 (w7.heap.size) 0 c_x1):=zd (by have:=(At.new w7 c_x1 _ (0,0)).below (b:=w7.heap.size) hb8 zz30; simpa using this)
 have lt_x1:w7.heap.size<w8.heap.size:=zz13
 go_wp2_with (first | (refine yag rfl _ _ rfl rfl HA_p0.out Tryz.underlying123 k_p0 ln_p0 ?_) | (refine yag rfl _ _ rfl rfl HA_p1.out Tryz.underlying54 k_p1 ln_p1 ?_) | (refine yag rfl _ _ rfl rfl HA_x0.out Tryz.underlying132 k_x0 ln_x0 ?_) | (refine yag rfl _ _ rfl rfl HA_x1.out Tryz.underlying62 k_x1 ln_x1 ?_))
 refine wp_region_held_drew (S:=fun W' => At W' (w6.heap.size) 0 c_x0∧At W' (w.heap.size) 0 cp0) (by kernel_rfl) ⟨HA_x0.out,HA_p0.out⟩ (fun hS => ?_)
 refine wpAnyH_take (i:=0) (v:=.agg c_x0.toArray) rfl (by kernel_rfl) (by kernel_rfl) (by kernel_rfl) (fun _ _ _ h => h) (yieldsIf_loadT (by rfl) _ _ rfl rfl (fun _ h => h.1) Tryz.underlying132 k_x0 ln_x0) hS ?_
 (try simp only [Act.put,List.setIfInBounds_toArray,List.set_cons_zero,List.set_cons_succ])
 refine wpAnyH_take (i:=1) (v:=.agg cp0.toArray) rfl (by kernel_rfl) (by kernel_rfl) (by kernel_rfl) (fun _ _ _ h => h) (yieldsIf_loadT (by rfl) _ _ rfl rfl (fun _ h => h.2) Tryz.underlying123 k_p0 ln_p0) hS ?_
 (try simp only [Act.put,List.setIfInBounds_toArray,List.set_cons_zero,List.set_cons_succ])
 refine wpAnyH_ready (rs:=[2]) (by kernel_rfl) zz30 (AllReadyH.cons rfl (fun K hK => ?_) AllReadyH.nil)
 (try rw [if_pos (by rfl)])
 clear hS
 go_simp
 refine (to_Wrld p0 _ _ _ (Lay.later HR_p0.out ((Below.refl _ _).drew)) sz_p0).mono ?_
 rintro e9 w9 ⟨c_t9,rfl,hr_,hb9⟩
 have hb9:=Below.viad hb9
 have hl9:=hb9
 have hB9:Below w.heap.size w w9:=Below.step hB8 hl9
 have hz9:w8.heap.size+0≤w9.heap.size:=by have:=hb9.size; (try simp at this); omega
 replace HR_p0:=zd (Lay.later HR_p0.out hl9)
 replace HR_p1:=zd (Lay.later HR_p1.out hl9)
 replace HR_x0:=zd (Lay.later HR_x0.out hl9)
 replace HR_x1:=zd (Lay.later HR_x1.out hl9)
 replace HA_p0:=zd (HA_p0.out.below hl9 lt_p0); replace lt_p0:=Nat.lt_of_lt_of_le lt_p0 hl9.size
 replace HA_p1:=zd (HA_p1.out.below hl9 lt_p1); replace lt_p1:=Nat.lt_of_lt_of_le lt_p1 hl9.size
 replace HA_x0:=zd (HA_x0.out.below hl9 lt_x0); replace lt_x0:=Nat.lt_of_lt_of_le lt_x0 hl9.size
 replace HA_x1:=zd (HA_x1.out.below hl9 lt_x1); replace lt_x1:=Nat.lt_of_lt_of_le lt_x1 hl9.size
 have HR_t9:=zd (Lay.mono hr_ (S':=rng (w8.heap.size) (w9.heap.size)) (fun b h => zz26)); clear hr_
 have sb_t9:sub (rng (w8.heap.size) (w9.heap.size)) (rng (w8.heap.size) (w9.heap.size)):=ya3 _
 refine hK.out _ _ ⟨HA_x0.out,HA_p0.out⟩ (fun hS => ?_)
 clear hK K
 (try simp only [Act.put,List.setIfInBounds_toArray,List.set_cons_zero,List.set_cons_succ])
 refine wpAnyH_ready (rs:=[3]) (by kernel_rfl) zz30 (AllReadyH.cons rfl (fun K hK => ?_) AllReadyH.nil)
 (try rw [if_pos (by rfl)])
 clear hS
 go_simp
 refine (eq_Wrld p0 _ _ _ _ _ (Lay.weak HR_x0.out) (Lay.weak HR_t9.out)).mono ?_
 rintro e10 w10 ⟨rfl,hb10⟩
 have hl10:=hb10
 have hB10:Below w.heap.size w w10:=Below.step hB9 hl10
 have hz10:w9.heap.size+0≤w10.heap.size:=by have:=hb10.size; (try simp at this); omega
 replace HR_p0:=zd (Lay.later HR_p0.out hl10)
 replace HR_p1:=zd (Lay.later HR_p1.out hl10)
 replace HR_x0:=zd (Lay.later HR_x0.out hl10)
 replace HR_x1:=zd (Lay.later HR_x1.out hl10)
 replace HR_t9:=zd (Lay.later HR_t9.out hl10)
 replace HA_p0:=zd (HA_p0.out.below hl10 lt_p0); replace lt_p0:=Nat.lt_of_lt_of_le lt_p0 hl10.size
 replace HA_p1:=zd (HA_p1.out.below hl10 lt_p1); replace lt_p1:=Nat.lt_of_lt_of_le lt_p1 hl10.size
 replace HA_x0:=zd (HA_x0.out.below hl10 lt_x0); replace lt_x0:=Nat.lt_of_lt_of_le lt_x0 hl10.size
 replace HA_x1:=zd (HA_x1.out.below hl10 lt_x1); replace lt_x1:=Nat.lt_of_lt_of_le lt_x1 hl10.size
 refine hK.out _ _ ⟨HA_x0.out,HA_p0.out⟩ (fun hS => ?_)
 clear hK K
 (try simp only [Act.put,List.setIfInBounds_toArray,List.set_cons_zero,List.set_cons_succ])
 refine wpAnyH_ready (rs:=[4]) (by kernel_rfl) zz30 (AllReadyH.cons rfl (fun K hK => ?_) AllReadyH.nil)
 go_simp
 refine hK.out _ _ hS (fun hS => ?_)
 clear hK K
 (try (try simp only [Act.put,List.setIfInBounds_toArray,List.set_cons_zero,List.set_cons_succ]))
 refine wpAnyH_done (by kernel_rfl) ?_ _
 clear hS
 clear HR_t9
 go_wp2_with (first | (refine yag rfl _ _ rfl rfl HA_p0.out Tryz.underlying123 k_p0 ln_p0 ?_) | (refine yag rfl _ _ rfl rfl HA_p1.out Tryz.underlying54 k_p1 ln_p1 ?_) | (refine yag rfl _ _ rfl rfl HA_x0.out Tryz.underlying132 k_x0 ln_x0 ?_) | (refine yag rfl _ _ rfl rfl HA_x1.out Tryz.underlying62 k_x1 ln_x1 ?_))
 refine wp_region_held_drew (S:=fun W' => At W' (w7.heap.size) 0 c_x1∧At W' (w.heap.size+1) 0 cp1) (by kernel_rfl) ⟨HA_x1.out,HA_p1.out⟩ (fun hS => ?_)
 refine wpAnyH_take (i:=0) (v:=.agg c_x1.toArray) rfl (by kernel_rfl) (by kernel_rfl) (by kernel_rfl) (fun _ _ _ h => h) (yieldsIf_loadT (by rfl) _ _ rfl rfl (fun _ h => h.1) Tryz.underlying62 k_x1 ln_x1) hS ?_
 (try simp only [Act.put,List.setIfInBounds_toArray,List.set_cons_zero,List.set_cons_succ])
 refine wpAnyH_take (i:=1) (v:=.agg cp1.toArray) rfl (by kernel_rfl) (by kernel_rfl) (by kernel_rfl) (fun _ _ _ h => h) (yieldsIf_loadT (by rfl) _ _ rfl rfl (fun _ h => h.2) Tryz.underlying54 k_p1 ln_p1) hS ?_
 (try simp only [Act.put,List.setIfInBounds_toArray,List.set_cons_zero,List.set_cons_succ])
 refine wpAnyH_ready (rs:=[2]) (by kernel_rfl) zz30 (AllReadyH.cons rfl (fun K hK => ?_) AllReadyH.nil)
 (try rw [if_pos (by rfl)])
 clear hS
 go_simp
 refine (to_Trust p1 _ _ _ (Lay.later HR_p1.out ((Below.refl _ _).drew)) sz_p1).mono ?_
 rintro e11 w11 ⟨c_t11,rfl,hr_,hb11⟩
 have hb11:=Below.viad hb11
 have hl11:=hb11
 have hB11:Below w.heap.size w w11:=Below.step hB10 hl11
 have hz11:w10.heap.size+0≤w11.heap.size:=by have:=hb11.size; (try simp at this); omega
 replace HR_p0:=zd (Lay.later HR_p0.out hl11)
 replace HR_p1:=zd (Lay.later HR_p1.out hl11)
 replace HR_x0:=zd (Lay.later HR_x0.out hl11)
 replace HR_x1:=zd (Lay.later HR_x1.out hl11)
 replace HA_p0:=zd (HA_p0.out.below hl11 lt_p0); replace lt_p0:=Nat.lt_of_lt_of_le lt_p0 hl11.size
 replace HA_p1:=zd (HA_p1.out.below hl11 lt_p1); replace lt_p1:=Nat.lt_of_lt_of_le lt_p1 hl11.size
 replace HA_x0:=zd (HA_x0.out.below hl11 lt_x0); replace lt_x0:=Nat.lt_of_lt_of_le lt_x0 hl11.size
 replace HA_x1:=zd (HA_x1.out.below hl11 lt_x1); replace lt_x1:=Nat.lt_of_lt_of_le lt_x1 hl11.size
 have HR_t11:=zd (Lay.mono hr_ (S':=rng (w10.heap.size) (w11.heap.size)) (fun b h => zz26)); clear hr_
 have sb_t11:sub (rng (w10.heap.size) (w11.heap.size)) (rng (w10.heap.size) (w11.heap.size)):=ya3 _
 refine hK.out _ _ ⟨HA_x1.out,HA_p1.out⟩ (fun hS => ?_)
 clear hK K
 (try simp only [Act.put,List.setIfInBounds_toArray,List.set_cons_zero,List.set_cons_succ])
 refine wpAnyH_ready (rs:=[3]) (by kernel_rfl) zz30 (AllReadyH.cons rfl (fun K hK => ?_) AllReadyH.nil)
 (try rw [if_pos (by rfl)])
 clear hS
 go_simp
 refine (eq_Trust p1 _ _ _ _ _ (Lay.weak HR_x1.out) (Lay.weak HR_t11.out)).mono ?_
 rintro e12 w12 ⟨rfl,hb12⟩
 have hl12:=hb12
 have hB12:Below w.heap.size w w12:=Below.step hB11 hl12
 have hz12:w11.heap.size+0≤w12.heap.size:=by have:=hb12.size; (try simp at this); omega
 replace HR_p0:=zd (Lay.later HR_p0.out hl12)
 replace HR_p1:=zd (Lay.later HR_p1.out hl12)
 replace HR_x0:=zd (Lay.later HR_x0.out hl12)
 replace HR_x1:=zd (Lay.later HR_x1.out hl12)
 replace HR_t11:=zd (Lay.later HR_t11.out hl12)
 replace HA_p0:=zd (HA_p0.out.below hl12 lt_p0); replace lt_p0:=Nat.lt_of_lt_of_le lt_p0 hl12.size
 replace HA_p1:=zd (HA_p1.out.below hl12 lt_p1); replace lt_p1:=Nat.lt_of_lt_of_le lt_p1 hl12.size
 replace HA_x0:=zd (HA_x0.out.below hl12 lt_x0); replace lt_x0:=Nat.lt_of_lt_of_le lt_x0 hl12.size
 replace HA_x1:=zd (HA_x1.out.below hl12 lt_x1); replace lt_x1:=Nat.lt_of_lt_of_le lt_x1 hl12.size
 refine hK.out _ _ ⟨HA_x1.out,HA_p1.out⟩ (fun hS => ?_)
 clear hK K
 (try simp only [Act.put,List.setIfInBounds_toArray,List.set_cons_zero,List.set_cons_succ])
 refine wpAnyH_ready (rs:=[4]) (by kernel_rfl) zz30 (AllReadyH.cons rfl (fun K hK => ?_) AllReadyH.nil)
 go_simp
 refine hK.out _ _ hS (fun hS => ?_)
 clear hK K
 (try (try simp only [Act.put,List.setIfInBounds_toArray,List.set_cons_zero,List.set_cons_succ]))
 refine wpAnyH_done (by kernel_rfl) ?_ _
 clear hS
 clear HR_t11
 go_wp2_with (first | (refine yag rfl _ _ rfl rfl HA_p0.out Tryz.underlying123 k_p0 ln_p0 ?_) | (refine yag rfl _ _ rfl rfl HA_p1.out Tryz.underlying54 k_p1 ln_p1 ?_) | (refine yag rfl _ _ rfl rfl HA_x0.out Tryz.underlying132 k_x0 ln_x0 ?_) | (refine yag rfl _ _ rfl rfl HA_x1.out Tryz.underlying62 k_x1 ln_x1 ?_))
 go_ret; exact ⟨rfl,hB12⟩
theorem lifted_AskWorld (os:Os) (started:os.Started) (H:Type) (enc:TypeId × Value→H) :
  ReturnsInHanded {} Tryz.checked os 7 .any (fun w args => (Rows.fnExactAskWorldSpec.pre enc Tryz.prog Tryz.f7 [] false w args∧laidMetH Tryz.prog laidSha w)∧sizedMet enc Tryz.prog Tryz.f7 (OpenSpec.ofChange Rows.fnExactAskWorldSpec) false w args)
   (Rows.fnExactAskWorldSpec.post enc Tryz.prog Tryz.f7 false true false false):=by
 refine returnsInHanded_of_change_and (C:=Tryz.checked) (X:=fun w _ => laidMetH Tryz.prog laidSha w) (fun _ _ _ hh h => h.of_heap hh) own_ started (by kernel_rfl) Tryz.func7
  (ChangeSpec.witness_shaped (enc:=enc) (C:=Tryz.checked) (os:=os) (X:=fun w _ => laidMetH Tryz.prog laidSha w) false (World.doorLaid Tryz.prog 34 os) #[.agg #[.slice none 0 0,.slice none 0 0,.slice none 0 0,.slice none 0 0,.slice none 0 0,.slice none 0 0],.agg #[.slice none 0 0,.int .i64 0,.int .i64 0],.int .i64 0,.string ⟨#[]⟩,.int .i64 0] 8 rfl (World.shaped_of_RefB (by kernel_rfl) (by kernel_rfl)) (by kernel_rfl) (by kernel_rfl) (by kernel_rfl) (door_met os _)) ?_
 intro W base args ds gs before hval0 hW hcnd _ hLaid _
 have hval:∀ (j:Nat) t v,Tryz.f7.params[j]? = some t→args[j]? = some v→Value.okWide Tryz.prog W .any base t v:=hval0
 have hW':=hW
 obtain ⟨p,q,hA0,hV,rfl,hfz,hnd⟩:=hW
 have hA:DataW.TrodAll enc Tryz.prog W 0 (fun _ => true) true Tryz.f7.params.toList args.toList ds p:=hA0
 rw [Tryz.params7] at hA hval
 have hA2:=hA
 obtain ⟨v0,vs0,d0,ds0,p0,q0,hargs0,rfl,rfl,h0,r0⟩:=trodAll_cons hA
 obtain ⟨v1,vs1,d1,ds1,p1,q1,hargs1,rfl,rfl,h1,r1⟩:=trodAll_cons r0
 obtain ⟨v2,vs2,d2,ds2,p2,q2,hargs2,rfl,rfl,h2,r2⟩:=trodAll_cons r1
 obtain ⟨v3,vs3,d3,ds3,p3,q3,hargs3,rfl,rfl,h3,r3⟩:=trodAll_cons r2
 obtain ⟨v4,vs4,d4,ds4,p4,q4,hargs4,rfl,rfl,h4,r4⟩:=trodAll_cons r3
 obtain ⟨rfl,rfl,rfl⟩:=trodAll_nil r4
 try subst hargs1
 try subst hargs2
 try subst hargs3
 try subst hargs4
 obtain rfl:args = #[v0,v1,v2,v3,v4]:=by cases args; simp_all
 have hV2:=hV
 obtain ⟨_,_,_,_,g0,_,_,_,_,_,g1,_,hgs,_⟩:=trodVars_two hV2
 subst hgs
 obtain ⟨c0,rfl⟩:=okWide_agg Tryz.underlying123 (hval 0 123 v0 rfl rfl)
 obtain ⟨fu0,hf0⟩:=h0
 obtain ⟨x0,hx0⟩:=rdb_Wrld H enc W 0 _ _ fu0 _ _ hf0
 obtain ⟨c1,rfl⟩:=okWide_agg Tryz.underlying54 (hval 1 54 v1 rfl rfl)
 obtain ⟨fu1,hf1⟩:=h1
 obtain ⟨x1,hx1⟩:=rdb_Trust H enc W 0 _ _ fu1 _ _ hf1
 have ng2:=nagg_int Tryz.underlying3 (hval 2 3 v2 rfl rfl)
 obtain ⟨fu2,hf2⟩:=h2
 obtain ⟨x2,hx2⟩:=rdb_int (Tryz.underlying3) H enc W 0 _ _ fu2 _ _ hf2
 obtain ⟨hc2,hi2⟩:=open_int hx2
 obtain rfl:=cells_one hc2 ng2
 have ng3:=nagg_string Tryz.underlying9 (hval 3 9 v3 rfl rfl)
 obtain ⟨fu3,hf3⟩:=h3
 obtain ⟨x3,hx3⟩:=rdb_str (Tryz.underlying9) H enc W 0 _ _ fu3 _ _ hf3
 obtain ⟨hc3,hi3⟩:=open_str hx3
 obtain rfl:=cells_one hc3 ng3
 have ng4:=nagg_int Tryz.underlying3 (hval 4 3 v4 rfl rfl)
 obtain ⟨fu4,hf4⟩:=h4
 obtain ⟨x4,hx4⟩:=rdb_int (Tryz.underlying3) H enc W 0 _ _ fu4 _ _ hf4
 obtain ⟨hc4,hi4⟩:=open_int hx4
 obtain rfl:=cells_one hc4 ng4
 refine (law_AskWorld W x0 c0.toList All hx0 x1 c1.toList All hx1 x2 hi2 x3 hi3 x4 hi4 (tabs_of_laid hLaid)).mono fun e W' ⟨he,hb⟩ => ?_
 subst he
 refine ⟨_,rfl,post_below (pa:=p0 ++ (p1 ++ (p2 ++ (p3 ++ (p4 ++ []))))) (pv:=q) hW' (fun _ _ _ => trodAll_mk1 (shut_bool Tryz.underlying4 true)) (fun sp hsp => ?_) (fun sp hsp => trodVars_stays laidOut_ hb (by kernel_rfl) hV (fun x hx => hsp x (by simp [hx]))) zz30 hb (ok_one (by kernel_rfl) rfl (okWide_bool_mk Tryz.underlying4 true))⟩
 rw [show Tryz.f7.params.toList=_ from congrArg Array.toList Tryz.params7]
 exact trodAll_stays laidOut_ hb _ _ _ _ (by intro t ht; simp at ht; rcases ht with rfl | rfl | rfl | rfl | rfl <;> exact ⟨by kernel_rfl,by decide +kernel⟩) hA2 (fun x hx => hW'.lt x (by first | (simpa using Or.inl hx) | (simp at hx ⊢; rcases hx with hx | hx | hx | hx | hx <;> simp [hx]) | (simp at hx ⊢; rcases hx with hx | hx | hx | hx <;> simp [hx]) | (simp at hx ⊢; rcases hx with hx | hx | hx <;> simp [hx]) | (simp at hx ⊢; rcases hx with hx | hx <;> simp [hx]))) (fun x hx => hsp x (by first | (simpa using Or.inl hx) | (simp at hx ⊢; rcases hx with hx | hx | hx | hx | hx <;> simp [hx]) | (simp at hx ⊢; rcases hx with hx | hx | hx | hx <;> simp [hx]) | (simp at hx ⊢; rcases hx with hx | hx | hx <;> simp [hx]) | (simp at hx ⊢; rcases hx with hx | hx <;> simp [hx])))
theorem row_AskWorld:Rows.FnExactAskWorldSaid :=
 OpenClaim.holds_of_wide 7 Tryz.f7 rfl rfl rfl rfl rfl rfl rfl ⟨rfl,rfl,rfl,rfl,rfl⟩ rfl rfl rfl rfl rfl (by kernel_rfl) Tryz.func7 joined_AskWorld
  (of_decide_eq_true (by kernel_rfl)) (by unfold Func.isWrapper; first | (rw [if_pos (by decide +kernel)]; kernel_rfl) | (rw [if_neg (by decide +kernel)]; exact ⟨rfl,rfl⟩))
  (fun os started H enc _ => lifted_AskWorld os started H enc)
theorem holds_AskWorld:Rows.FnExactAskWorldCardSaid :=
 Claim7.holds_tied_plain_at .later [] Rows.fnExactAskWorldCard.laidKinds true Rows.fnExactAskWorldCard.stood.harness false
  row_AskWorld (fun _ h => by cases h) (by as_aux_lemma => kernel_rfl) (fun _ h => by cases h) fnExactAskWorld_row_tie rfl ⟨rfl,rfl⟩ (by as_aux_lemma => kernel_rfl) rfl
  (fun f fn hf hfn => by
   obtain rfl : f = 7 := Option.some.inj ((show Tryz.prog.funcNamed "loop.example/g00284/laws.FnExactAskWorld" = some 7 by as_aux_lemma => kernel_rfl).symm.trans hf) |>.symm
   obtain rfl:fn=Tryz.f7:=(Option.some.inj (Tryz.func7.symm.trans hfn)).symm
   exact ⟨by as_aux_lemma => kernel_rfl,fun j t ht => by
    rw [Tryz.params7] at ht
    have hm:t ∈ [123,54,3,9,3]:=by simpa using Array.mem_of_getElem? ht
    have hall:([123,54,3,9,3].all fun u => !Tryz.prog.wantsStandIn u)=true:=by as_aux_lemma => kernel_rfl
    exact (show Tryz.prog.wantsStandIn t=false by simpa using List.all_eq_true.1 hall t hm)⟩)
  (by as_aux_lemma => kernel_rfl)
end Go.Proofs.YtcbbjfafmmcfiaaGreatDoor
