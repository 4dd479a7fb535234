/- A part of the proof. -/
import Derived.Test.YtgllafgpmenjjaaGreatDoorHChL24xFo
set_option linter.unusedVariables false
set_option linter.unusedSimpArgs false
set_option maxRecDepth 20000
set_option maxHeartbeats 8000000
namespace Go.Proofs.YtgllafgpmenjjaaGreatDoor
open Go.RowKit Lay Mk
def stampKey (h e : Int) : Int:=if (inB h 0 2 && inB e 1 4) = true then 4 * (h + 1) + e - 1 else -1
def stampTx (x : Head) : ByteArray:=yaf 8 [headHash x] 16
def stampOk (root : ByteArray) (x : Head) (s : Sig) : Bool:=headOk x && decide (s.at_ = stampKey x.house x.epoch) && sigOk root (stampTx x) s
theorem impl_StampAt (h e : Int) (w : World) : Calls Tryz.prog 149 #[.int .i64 h, .int .i64 e] w fun r w' => r = .returned (.int .i64 (stampKey h e)) ∧ w = w':=by
 cases h1 : inB h 0 2
 ·have HC : Hid (stampKey h e = -1):=zd (by unfold stampKey; rw [h1]; rfl)
  go_enter Tryz.func149,Tryz.ntmps149
  go_wp2_with (first | (go_at_call 74; refine (house_in _ _).mono ?_; rintro e2 w2 ⟨rfl,rfl⟩) | (go_at_call 152; refine (epoch_in _ _).mono ?_; rintro e3 w3 ⟨rfl,rfl⟩))
  go_ret
  exact ⟨by rw [HC.out]; rfl,rfl⟩
 cases h2 : inB e 1 4
 ·have HC : Hid (stampKey h e = -1):=zd (by unfold stampKey; rw [h1,h2]; rfl)
  go_enter Tryz.func149,Tryz.ntmps149
  go_wp2_with (first | (go_at_call 74; refine (house_in _ _).mono ?_; rintro e2 w2 ⟨rfl,rfl⟩) | (go_at_call 152; refine (epoch_in _ _).mono ?_; rintro e3 w3 ⟨rfl,rfl⟩))
  go_ret
  exact ⟨by rw [HC.out]; rfl,rfl⟩
 have HC : Hid (stampKey h e = 4 * (h + 1) + e - 1):=zd (by unfold stampKey; rw [h1,h2]; rfl)
 have hb1 : 0 ≤ h ∧ h ≤ 2:=by simpa [inB] using h1
 have hb2 : 1 ≤ e ∧ e ≤ 4:=by simpa [inB] using h2
 obtain ⟨q1,q2⟩:=hb1
 obtain ⟨q3,q4⟩:=hb2
 go_enter Tryz.func149,Tryz.ntmps149
 go_wp2_with (first | (go_at_call 74; refine (house_in _ _).mono ?_; rintro e2 w2 ⟨rfl,rfl⟩) | (go_at_call 152; refine (epoch_in _ _).mono ?_; rintro e3 w3 ⟨rfl,rfl⟩))
 go_ret
 exact ⟨by rw [HC.out]; rfl,rfl⟩
theorem spec_StampAt (h e : Int) (w : World) : Calls Tryz.prog 139 #[.int .i64 h, .int .i64 e] w fun r w' => r = .returned (.int .i64 (stampKey h e)) ∧ w = w':=by
 cases h1 : inB h 0 2
 ·have HC : Hid (stampKey h e = -1):=zd (by unfold stampKey; rw [h1]; rfl)
  go_enter Tryz.func139,Tryz.ntmps139
  go_wp2_with (go_at_call 87; refine (spec_in _ _ _ _).mono ?_; rintro e2 w2 ⟨rfl,rfl⟩)
  go_ret
  exact ⟨by rw [HC.out]; rfl,rfl⟩
 cases h2 : inB e 1 4
 ·have HC : Hid (stampKey h e = -1):=zd (by unfold stampKey; rw [h1,h2]; rfl)
  go_enter Tryz.func139,Tryz.ntmps139
  go_wp2_with (go_at_call 87; refine (spec_in _ _ _ _).mono ?_; rintro e2 w2 ⟨rfl,rfl⟩)
  go_ret
  exact ⟨by rw [HC.out]; rfl,rfl⟩
 have HC : Hid (stampKey h e = 4 * (h + 1) + e - 1):=zd (by unfold stampKey; rw [h1,h2]; rfl)
 have hb1 : 0 ≤ h ∧ h ≤ 2:=by simpa [inB] using h1
 have hb2 : 1 ≤ e ∧ e ≤ 4:=by simpa [inB] using h2
 obtain ⟨q1,q2⟩:=hb1
 obtain ⟨q3,q4⟩:=hb2
 go_enter Tryz.func139,Tryz.ntmps139
 go_wp2_with (go_at_call 87; refine (spec_in _ _ _ _).mono ?_; rintro e2 w2 ⟨rfl,rfl⟩)
 go_ret
 exact ⟨by rw [HC.out]; rfl,rfl⟩
theorem impl_stampText (x : Head) (w : World) (hT : Tabs w) : Calls Tryz.prog 150 #[.agg (Head.cs x).toArray] w fun e w' => e = .returned (.string (stampTx x)) ∧ Below w.heap.size w w':=by
 have HT:=zd hT
 clear hT
 have HH:=zd (fun W (h : Below w.heap.size w W) => impl_HeadHash x W (HT.out.later h))
 have HF : Hid (stampTx x = yaf 8 [headHash x] 16):=zd rfl
 have hle:=headHash_le x
 obtain ⟨t,ht⟩ : ∃ t,headHash x = t:=⟨_,rfl⟩
 rw [ht] at HH HF hle
 clear ht
 obtain ⟨hs,ep,r,p⟩:=x
 simp only [Head.cs] at HH ⊢
 go_enter Tryz.func150,Tryz.ntmps150
 go_wp2_with (fail)
 refine (HH.out _ ((Below.refl _ _).alloc (Nat.le_refl _) _)).mono ?_
 rintro e1 w1 ⟨rfl,hb1⟩
 have HB1:=zd (Below.via hb1)
 clear hb1
 go_wp2_with (fail)
 refine (impl_hashOf _ 8 zz39 [t] _ _ _ (row_one w1 t (ml hle zz8) _) zz32 16 zz39 (HT.out.later (HB1.out.alloc HB1.out.size _))).mono ?_
 rintro e5 w5 ⟨rfl,hb5⟩
 go_wp2
 go_ret
 exact ⟨ret_str (by rw [HF.out]),(HB1.out.alloc HB1.out.size _).trans (hb5.mono (by have:=HB1.out.size; simp; omega))⟩
theorem spec_l14Stamp (x : Head) (w : World) : Calls Tryz.prog 140 #[.agg (Head.cs x).toArray] w fun e w' => e = .returned (.string (stampTx x)) ∧ Below w.heap.size w w':=by
 have HH:=zd (fun W (h : Below w.heap.size w W) => spec_HeadHash x W)
 have HF : Hid (stampTx x = yaf 8 [headHash x] 16):=zd rfl
 have hle:=headHash_le x
 obtain ⟨t,ht⟩ : ∃ t,headHash x = t:=⟨_,rfl⟩
 rw [ht] at HH HF hle
 clear ht
 obtain ⟨hs,ep,r,p⟩:=x
 simp only [Head.cs] at HH ⊢
 go_enter Tryz.func140,Tryz.ntmps140
 go_wp2_with (fail)
 refine (HH.out _ ((Below.refl _ _).alloc (Nat.le_refl _) _)).mono ?_
 rintro e1 w1 ⟨rfl,hb1⟩
 have HB1:=zd (Below.via hb1)
 clear hb1
 go_wp2_with (fail)
 refine (spec_TagHash _ 8 zz39 [t] _ _ _ (row_one w1 t (ml hle zz8) _) zz32 16 zz39).mono ?_
 rintro e5 w5 ⟨rfl,hb5⟩
 go_wp2
 go_ret
 exact ⟨ret_str (by rw [HF.out]),(HB1.out.alloc HB1.out.size _).trans (hb5.mono (by have:=HB1.out.size; simp; omega))⟩
theorem impl_StampOk (w : World) (root : ByteArray) (x : Head) (s : Sig) (cs : List Value) (S : Blks) (hx : rd false w cs s S) (hT : Tabs w) : Calls Tryz.prog 99 #[.string root, .agg (Head.cs x).toArray, .agg cs.toArray] w fun e w' => e = .returned (.bool (stampOk root x s)) ∧ Below w.heap.size w w':=by
 have HT:=zd hT
 clear hT
 have HSig:=zd (fun W (h : Below w.heap.size w W) => impl_SigOk W root (stampTx x) s cs S (Lay.later hx h) (HT.out.later h))
 have HTX:=zd (fun W (h : Below w.heap.size w W) => impl_stampText x W (HT.out.later h))
 have HHO:=zd (fun W => impl_HeadOk x W)
 have HSA:=zd (fun W => impl_StampAt x.house x.epoch W)
 have HOK : Hid (stampOk root x s = (headOk x && decide (s.at_ = stampKey x.house x.epoch) && sigOk root (stampTx x) s)):=zd rfl
 obtain ⟨A0,k0,S0,A1,k1,S1,A2,k2,S2,rfl, -⟩:=Sig.open hx
 clear hx
 obtain ⟨v,hv⟩ : ∃ v,stampKey x.house x.epoch = v:=⟨_,rfl⟩
 rw [hv] at HSA HOK
 clear hv
 obtain ⟨R,hR⟩ : ∃ R,stampOk root x s = R:=⟨_,rfl⟩
 rw [hR] at HOK ⊢
 clear hR
 obtain ⟨z,hz⟩ : ∃ z,sigOk root (stampTx x) s = z:=⟨_,rfl⟩
 rw [hz] at HSig HOK
 clear hz
 obtain ⟨tx,htx⟩ : ∃ t,stampTx x = t:=⟨_,rfl⟩
 rw [htx] at HSig HTX
 clear htx
 obtain ⟨b,hb⟩ : ∃ b,headOk x = b:=⟨_,rfl⟩
 rw [hb] at HHO HOK
 clear hb
 obtain ⟨hh,he,hr,hp⟩:=x
 obtain ⟨a,so,ss,sd⟩:=s
 simp only [Head.cs,Sig.cs] at HSig HTX HHO HSA HOK ⊢
 cases b
 ·go_enter Tryz.func99,Tryz.ntmps99
  go_wp2
  generalize hW : (w.alloc (.cells #[.int .i64 hh, .int .i64 he, .string hr, .string hp] 58)).alloc (.cells #[.int .i64 a, .slice A0 so.length k0, .slice A1 ss.length k1, .slice A2 sd.length k2] 59) = W
  have HBW : Hid (Below w.heap.size w W):=zz50
  have c0:=Grown.cell (show W.cell? ⟨w.heap.size,0,none⟩ = some (.int .i64 hh) by rw [← hW]; exact ya4 (ya1 _ _ _ _ _ rfl))
  have c1:=Grown.cell (show W.cell? ⟨w.heap.size,1,none⟩ = some (.int .i64 he) by rw [← hW]; exact ya4 (ya1 _ _ _ _ _ rfl))
  have c2:=Grown.cell (show W.cell? ⟨w.heap.size,2,none⟩ = some (.string hr) by rw [← hW]; exact ya4 (ya1 _ _ _ _ _ rfl))
  have c3:=Grown.cell (show W.cell? ⟨w.heap.size,3,none⟩ = some (.string hp) by rw [← hW]; exact ya4 (ya1 _ _ _ _ _ rfl))
  have d0:=Grown.cell (show W.cell? ⟨w.heap.size + 1,0,none⟩ = some (.int .i64 a) by rw [← hW,show w.heap.size + 1 = (w.alloc (.cells #[.int .i64 hh, .int .i64 he, .string hr, .string hp] 58)).heap.size from by simp]; exact ya1 _ _ _ _ _ rfl)
  have d1:=Grown.cell (show W.cell? ⟨w.heap.size + 1,1,none⟩ = some (.slice A0 so.length k0) by rw [← hW,show w.heap.size + 1 = (w.alloc (.cells #[.int .i64 hh, .int .i64 he, .string hr, .string hp] 58)).heap.size from by simp]; exact ya1 _ _ _ _ _ rfl)
  have d2:=Grown.cell (show W.cell? ⟨w.heap.size + 1,2,none⟩ = some (.slice A1 ss.length k1) by rw [← hW,show w.heap.size + 1 = (w.alloc (.cells #[.int .i64 hh, .int .i64 he, .string hr, .string hp] 58)).heap.size from by simp]; exact ya1 _ _ _ _ _ rfl)
  have d3:=Grown.cell (show W.cell? ⟨w.heap.size + 1,3,none⟩ = some (.slice A2 sd.length k2) by rw [← hW,show w.heap.size + 1 = (w.alloc (.cells #[.int .i64 hh, .int .i64 he, .string hr, .string hp] 58)).heap.size from by simp]; exact ya1 _ _ _ _ _ rfl)
  have hz1 : w.heap.size + 1 < W.heap.size:=by rw [← hW]; simp
  clear hW
  obtain ⟨B,hB⟩ : ∃ B,w.heap.size = B:=⟨_,rfl⟩
  simp only [hB] at c0 c1 c2 c3 d0 d1 d2 d3 hz1 ⊢
  have HBE:=zd hB
  clear hB
  refine ya2 (by kernel_rfl) (by kernel_rfl) ?_
  repeat (go_big_quiet_step (first | (go_at_call 101; exact ya6 (HHO.out _)) | (go_at_call 149; exact grown_same (HSA.out _)) | (go_at_call 150; exact ya6 (HTX.out _ (HBW.out.trans ((Grown.ok _).mono HBW.out.size)))) | (go_at_call 103; exact ya6 (HSig.out _ (HBW.out.trans ((Grown.ok _).mono HBW.out.size))))))
  refine wpQuiet_nil ?_
  intro w2 hw2
  have hR:=zd (ya7 hw2)
  clear hw2
  go_wp2
  go_ret
  exact ⟨yab (by rw [HOK.out]; simp []),by first | exact (HBW.out).trans (hR.out.mono HBW.out.size) | rw [← HBE.out]; exact (HBW.out).trans (hR.out.mono HBW.out.size)⟩
 by_cases hav : a = v
 ·have HAV:=zd hav
  subst hav
  go_enter Tryz.func99,Tryz.ntmps99
  go_wp2
  generalize hW : (w.alloc (.cells #[.int .i64 hh, .int .i64 he, .string hr, .string hp] 58)).alloc (.cells #[.int .i64 a, .slice A0 so.length k0, .slice A1 ss.length k1, .slice A2 sd.length k2] 59) = W
  have HBW : Hid (Below w.heap.size w W):=zz50
  have c0:=Grown.cell (show W.cell? ⟨w.heap.size,0,none⟩ = some (.int .i64 hh) by rw [← hW]; exact ya4 (ya1 _ _ _ _ _ rfl))
  have c1:=Grown.cell (show W.cell? ⟨w.heap.size,1,none⟩ = some (.int .i64 he) by rw [← hW]; exact ya4 (ya1 _ _ _ _ _ rfl))
  have c2:=Grown.cell (show W.cell? ⟨w.heap.size,2,none⟩ = some (.string hr) by rw [← hW]; exact ya4 (ya1 _ _ _ _ _ rfl))
  have c3:=Grown.cell (show W.cell? ⟨w.heap.size,3,none⟩ = some (.string hp) by rw [← hW]; exact ya4 (ya1 _ _ _ _ _ rfl))
  have d0:=Grown.cell (show W.cell? ⟨w.heap.size + 1,0,none⟩ = some (.int .i64 a) by rw [← hW,show w.heap.size + 1 = (w.alloc (.cells #[.int .i64 hh, .int .i64 he, .string hr, .string hp] 58)).heap.size from by simp]; exact ya1 _ _ _ _ _ rfl)
  have d1:=Grown.cell (show W.cell? ⟨w.heap.size + 1,1,none⟩ = some (.slice A0 so.length k0) by rw [← hW,show w.heap.size + 1 = (w.alloc (.cells #[.int .i64 hh, .int .i64 he, .string hr, .string hp] 58)).heap.size from by simp]; exact ya1 _ _ _ _ _ rfl)
  have d2:=Grown.cell (show W.cell? ⟨w.heap.size + 1,2,none⟩ = some (.slice A1 ss.length k1) by rw [← hW,show w.heap.size + 1 = (w.alloc (.cells #[.int .i64 hh, .int .i64 he, .string hr, .string hp] 58)).heap.size from by simp]; exact ya1 _ _ _ _ _ rfl)
  have d3:=Grown.cell (show W.cell? ⟨w.heap.size + 1,3,none⟩ = some (.slice A2 sd.length k2) by rw [← hW,show w.heap.size + 1 = (w.alloc (.cells #[.int .i64 hh, .int .i64 he, .string hr, .string hp] 58)).heap.size from by simp]; exact ya1 _ _ _ _ _ rfl)
  have hz1 : w.heap.size + 1 < W.heap.size:=by rw [← hW]; simp
  clear hW
  obtain ⟨B,hB⟩ : ∃ B,w.heap.size = B:=⟨_,rfl⟩
  simp only [hB] at c0 c1 c2 c3 d0 d1 d2 d3 hz1 ⊢
  have HBE:=zd hB
  clear hB
  refine ya2 (by kernel_rfl) (by kernel_rfl) ?_
  repeat (go_big_quiet_step (first | (go_at_call 101; exact ya6 (HHO.out _)) | (go_at_call 149; exact grown_same (HSA.out _)) | (go_at_call 150; exact ya6 (HTX.out _ (HBW.out.trans ((Grown.ok _).mono HBW.out.size)))) | (go_at_call 103; exact ya6 (HSig.out _ (HBW.out.trans ((Grown.ok _).mono HBW.out.size))))))
  refine wpQuiet_nil ?_
  intro w2 hw2
  have hR:=zd (ya7 hw2)
  clear hw2
  go_wp2
  go_ret
  exact ⟨yab (by rw [HOK.out]; simp []),by first | exact (HBW.out).trans (hR.out.mono HBW.out.size) | rw [← HBE.out]; exact (HBW.out).trans (hR.out.mono HBW.out.size)⟩
 ·have HAV:=zd hav
  have hq1 : (a == v) = false:=beq_eq_false_iff_ne.2 hav
  have hq2 : decide (a = v) = false:=decide_eq_false hav
  clear hav
  go_enter Tryz.func99,Tryz.ntmps99
  go_wp2
  generalize hW : (w.alloc (.cells #[.int .i64 hh, .int .i64 he, .string hr, .string hp] 58)).alloc (.cells #[.int .i64 a, .slice A0 so.length k0, .slice A1 ss.length k1, .slice A2 sd.length k2] 59) = W
  have HBW : Hid (Below w.heap.size w W):=zz50
  have c0:=Grown.cell (show W.cell? ⟨w.heap.size,0,none⟩ = some (.int .i64 hh) by rw [← hW]; exact ya4 (ya1 _ _ _ _ _ rfl))
  have c1:=Grown.cell (show W.cell? ⟨w.heap.size,1,none⟩ = some (.int .i64 he) by rw [← hW]; exact ya4 (ya1 _ _ _ _ _ rfl))
  have c2:=Grown.cell (show W.cell? ⟨w.heap.size,2,none⟩ = some (.string hr) by rw [← hW]; exact ya4 (ya1 _ _ _ _ _ rfl))
  have c3:=Grown.cell (show W.cell? ⟨w.heap.size,3,none⟩ = some (.string hp) by rw [← hW]; exact ya4 (ya1 _ _ _ _ _ rfl))
  have d0:=Grown.cell (show W.cell? ⟨w.heap.size + 1,0,none⟩ = some (.int .i64 a) by rw [← hW,show w.heap.size + 1 = (w.alloc (.cells #[.int .i64 hh, .int .i64 he, .string hr, .string hp] 58)).heap.size from by simp]; exact ya1 _ _ _ _ _ rfl)
  have d1:=Grown.cell (show W.cell? ⟨w.heap.size + 1,1,none⟩ = some (.slice A0 so.length k0) by rw [← hW,show w.heap.size + 1 = (w.alloc (.cells #[.int .i64 hh, .int .i64 he, .string hr, .string hp] 58)).heap.size from by simp]; exact ya1 _ _ _ _ _ rfl)
  have d2:=Grown.cell (show W.cell? ⟨w.heap.size + 1,2,none⟩ = some (.slice A1 ss.length k1) by rw [← hW,show w.heap.size + 1 = (w.alloc (.cells #[.int .i64 hh, .int .i64 he, .string hr, .string hp] 58)).heap.size from by simp]; exact ya1 _ _ _ _ _ rfl)
  have d3:=Grown.cell (show W.cell? ⟨w.heap.size + 1,3,none⟩ = some (.slice A2 sd.length k2) by rw [← hW,show w.heap.size + 1 = (w.alloc (.cells #[.int .i64 hh, .int .i64 he, .string hr, .string hp] 58)).heap.size from by simp]; exact ya1 _ _ _ _ _ rfl)
  have hz1 : w.heap.size + 1 < W.heap.size:=by rw [← hW]; simp
  clear hW
  obtain ⟨B,hB⟩ : ∃ B,w.heap.size = B:=⟨_,rfl⟩
  simp only [hB] at c0 c1 c2 c3 d0 d1 d2 d3 hz1 ⊢
  have HBE:=zd hB
  clear hB
  refine ya2 (by kernel_rfl) (by kernel_rfl) ?_
  repeat (go_big_quiet_step (first | (go_at_call 101; exact ya6 (HHO.out _)) | (go_at_call 149; exact grown_same (HSA.out _)) | (go_at_call 150; exact ya6 (HTX.out _ (HBW.out.trans ((Grown.ok _).mono HBW.out.size)))) | (go_at_call 103; exact ya6 (HSig.out _ (HBW.out.trans ((Grown.ok _).mono HBW.out.size))))))
  refine wpQuiet_nil ?_
  intro w2 hw2
  have hR:=zd (ya7 hw2)
  clear hw2
  go_wp2
  go_ret
  exact ⟨yab (by rw [HOK.out]; simp [HAV.out]),by first | exact (HBW.out).trans (hR.out.mono HBW.out.size) | rw [← HBE.out]; exact (HBW.out).trans (hR.out.mono HBW.out.size)⟩
theorem spec_StampOk (w : World) (root : ByteArray) (x : Head) (s : Sig) (cs : List Value) (S : Blks) (hx : rd false w cs s S) : Calls Tryz.prog 88 #[.string root, .agg (Head.cs x).toArray, .agg cs.toArray] w fun e w' => e = .returned (.bool (stampOk root x s)) ∧ Below w.heap.size w w':=by
 have HSig:=zd (fun W (h : Below w.heap.size w W) => spec_SigOk W root (stampTx x) s cs S (Lay.later hx h))
 have HTX:=zd (fun W (h : Below w.heap.size w W) => spec_l14Stamp x W)
 have HHO:=zd (fun W => spec_HeadOk x W)
 have HSA:=zd (fun W => spec_StampAt x.house x.epoch W)
 have HOK : Hid (stampOk root x s = (headOk x && decide (s.at_ = stampKey x.house x.epoch) && sigOk root (stampTx x) s)):=zd rfl
 obtain ⟨A0,k0,S0,A1,k1,S1,A2,k2,S2,rfl, -⟩:=Sig.open hx
 clear hx
 obtain ⟨v,hv⟩ : ∃ v,stampKey x.house x.epoch = v:=⟨_,rfl⟩
 rw [hv] at HSA HOK
 clear hv
 obtain ⟨R,hR⟩ : ∃ R,stampOk root x s = R:=⟨_,rfl⟩
 rw [hR] at HOK ⊢
 clear hR
 obtain ⟨z,hz⟩ : ∃ z,sigOk root (stampTx x) s = z:=⟨_,rfl⟩
 rw [hz] at HSig HOK
 clear hz
 obtain ⟨tx,htx⟩ : ∃ t,stampTx x = t:=⟨_,rfl⟩
 rw [htx] at HSig HTX
 clear htx
 obtain ⟨b,hb⟩ : ∃ b,headOk x = b:=⟨_,rfl⟩
 rw [hb] at HHO HOK
 clear hb
 obtain ⟨hh,he,hr,hp⟩:=x
 obtain ⟨a,so,ss,sd⟩:=s
 simp only [Head.cs,Sig.cs] at HSig HTX HHO HSA HOK ⊢
 cases b
 ·go_enter Tryz.func88,Tryz.ntmps88
  go_wp2
  generalize hW : (w.alloc (.cells #[.int .i64 hh, .int .i64 he, .string hr, .string hp] 58)).alloc (.cells #[.int .i64 a, .slice A0 so.length k0, .slice A1 ss.length k1, .slice A2 sd.length k2] 59) = W
  have HBW : Hid (Below w.heap.size w W):=zz50
  have c0:=Grown.cell (show W.cell? ⟨w.heap.size,0,none⟩ = some (.int .i64 hh) by rw [← hW]; exact ya4 (ya1 _ _ _ _ _ rfl))
  have c1:=Grown.cell (show W.cell? ⟨w.heap.size,1,none⟩ = some (.int .i64 he) by rw [← hW]; exact ya4 (ya1 _ _ _ _ _ rfl))
  have c2:=Grown.cell (show W.cell? ⟨w.heap.size,2,none⟩ = some (.string hr) by rw [← hW]; exact ya4 (ya1 _ _ _ _ _ rfl))
  have c3:=Grown.cell (show W.cell? ⟨w.heap.size,3,none⟩ = some (.string hp) by rw [← hW]; exact ya4 (ya1 _ _ _ _ _ rfl))
  have d0:=Grown.cell (show W.cell? ⟨w.heap.size + 1,0,none⟩ = some (.int .i64 a) by rw [← hW,show w.heap.size + 1 = (w.alloc (.cells #[.int .i64 hh, .int .i64 he, .string hr, .string hp] 58)).heap.size from by simp]; exact ya1 _ _ _ _ _ rfl)
  have d1:=Grown.cell (show W.cell? ⟨w.heap.size + 1,1,none⟩ = some (.slice A0 so.length k0) by rw [← hW,show w.heap.size + 1 = (w.alloc (.cells #[.int .i64 hh, .int .i64 he, .string hr, .string hp] 58)).heap.size from by simp]; exact ya1 _ _ _ _ _ rfl)
  have d2:=Grown.cell (show W.cell? ⟨w.heap.size + 1,2,none⟩ = some (.slice A1 ss.length k1) by rw [← hW,show w.heap.size + 1 = (w.alloc (.cells #[.int .i64 hh, .int .i64 he, .string hr, .string hp] 58)).heap.size from by simp]; exact ya1 _ _ _ _ _ rfl)
  have d3:=Grown.cell (show W.cell? ⟨w.heap.size + 1,3,none⟩ = some (.slice A2 sd.length k2) by rw [← hW,show w.heap.size + 1 = (w.alloc (.cells #[.int .i64 hh, .int .i64 he, .string hr, .string hp] 58)).heap.size from by simp]; exact ya1 _ _ _ _ _ rfl)
  have hz1 : w.heap.size + 1 < W.heap.size:=by rw [← hW]; simp
  clear hW
  obtain ⟨B,hB⟩ : ∃ B,w.heap.size = B:=⟨_,rfl⟩
  simp only [hB] at c0 c1 c2 c3 d0 d1 d2 d3 hz1 ⊢
  have HBE:=zd hB
  clear hB
  refine ya2 (by kernel_rfl) (by kernel_rfl) ?_
  repeat (go_big_quiet_step (first | (go_at_call 132; exact ya6 (HHO.out _)) | (go_at_call 139; exact grown_same (HSA.out _)) | (go_at_call 140; exact ya6 (HTX.out _ (HBW.out.trans ((Grown.ok _).mono HBW.out.size)))) | (go_at_call 134; exact ya6 (HSig.out _ (HBW.out.trans ((Grown.ok _).mono HBW.out.size))))))
  refine wpQuiet_nil ?_
  intro w2 hw2
  have hR:=zd (ya7 hw2)
  clear hw2
  go_wp2
  go_ret
  exact ⟨yab (by rw [HOK.out]; simp []),by first | exact (HBW.out).trans (hR.out.mono HBW.out.size) | rw [← HBE.out]; exact (HBW.out).trans (hR.out.mono HBW.out.size)⟩
 by_cases hav : a = v
 ·have HAV:=zd hav
  subst hav
  go_enter Tryz.func88,Tryz.ntmps88
  go_wp2
  generalize hW : (w.alloc (.cells #[.int .i64 hh, .int .i64 he, .string hr, .string hp] 58)).alloc (.cells #[.int .i64 a, .slice A0 so.length k0, .slice A1 ss.length k1, .slice A2 sd.length k2] 59) = W
  have HBW : Hid (Below w.heap.size w W):=zz50
  have c0:=Grown.cell (show W.cell? ⟨w.heap.size,0,none⟩ = some (.int .i64 hh) by rw [← hW]; exact ya4 (ya1 _ _ _ _ _ rfl))
  have c1:=Grown.cell (show W.cell? ⟨w.heap.size,1,none⟩ = some (.int .i64 he) by rw [← hW]; exact ya4 (ya1 _ _ _ _ _ rfl))
  have c2:=Grown.cell (show W.cell? ⟨w.heap.size,2,none⟩ = some (.string hr) by rw [← hW]; exact ya4 (ya1 _ _ _ _ _ rfl))
  have c3:=Grown.cell (show W.cell? ⟨w.heap.size,3,none⟩ = some (.string hp) by rw [← hW]; exact ya4 (ya1 _ _ _ _ _ rfl))
  have d0:=Grown.cell (show W.cell? ⟨w.heap.size + 1,0,none⟩ = some (.int .i64 a) by rw [← hW,show w.heap.size + 1 = (w.alloc (.cells #[.int .i64 hh, .int .i64 he, .string hr, .string hp] 58)).heap.size from by simp]; exact ya1 _ _ _ _ _ rfl)
  have d1:=Grown.cell (show W.cell? ⟨w.heap.size + 1,1,none⟩ = some (.slice A0 so.length k0) by rw [← hW,show w.heap.size + 1 = (w.alloc (.cells #[.int .i64 hh, .int .i64 he, .string hr, .string hp] 58)).heap.size from by simp]; exact ya1 _ _ _ _ _ rfl)
  have d2:=Grown.cell (show W.cell? ⟨w.heap.size + 1,2,none⟩ = some (.slice A1 ss.length k1) by rw [← hW,show w.heap.size + 1 = (w.alloc (.cells #[.int .i64 hh, .int .i64 he, .string hr, .string hp] 58)).heap.size from by simp]; exact ya1 _ _ _ _ _ rfl)
  have d3:=Grown.cell (show W.cell? ⟨w.heap.size + 1,3,none⟩ = some (.slice A2 sd.length k2) by rw [← hW,show w.heap.size + 1 = (w.alloc (.cells #[.int .i64 hh, .int .i64 he, .string hr, .string hp] 58)).heap.size from by simp]; exact ya1 _ _ _ _ _ rfl)
  have hz1 : w.heap.size + 1 < W.heap.size:=by rw [← hW]; simp
  clear hW
  obtain ⟨B,hB⟩ : ∃ B,w.heap.size = B:=⟨_,rfl⟩
  simp only [hB] at c0 c1 c2 c3 d0 d1 d2 d3 hz1 ⊢
  have HBE:=zd hB
  clear hB
  refine ya2 (by kernel_rfl) (by kernel_rfl) ?_
  repeat (go_big_quiet_step (first | (go_at_call 132; exact ya6 (HHO.out _)) | (go_at_call 139; exact grown_same (HSA.out _)) | (go_at_call 140; exact ya6 (HTX.out _ (HBW.out.trans ((Grown.ok _).mono HBW.out.size)))) | (go_at_call 134; exact ya6 (HSig.out _ (HBW.out.trans ((Grown.ok _).mono HBW.out.size))))))
  refine wpQuiet_nil ?_
  intro w2 hw2
  have hR:=zd (ya7 hw2)
  clear hw2
  go_wp2
  go_ret
  exact ⟨yab (by rw [HOK.out]; simp []),by first | exact (HBW.out).trans (hR.out.mono HBW.out.size) | rw [← HBE.out]; exact (HBW.out).trans (hR.out.mono HBW.out.size)⟩
 ·have HAV:=zd hav
  have hq1 : (a == v) = false:=beq_eq_false_iff_ne.2 hav
  have hq2 : decide (a = v) = false:=decide_eq_false hav
  clear hav
  go_enter Tryz.func88,Tryz.ntmps88
  go_wp2
  generalize hW : (w.alloc (.cells #[.int .i64 hh, .int .i64 he, .string hr, .string hp] 58)).alloc (.cells #[.int .i64 a, .slice A0 so.length k0, .slice A1 ss.length k1, .slice A2 sd.length k2] 59) = W
  have HBW : Hid (Below w.heap.size w W):=zz50
  have c0:=Grown.cell (show W.cell? ⟨w.heap.size,0,none⟩ = some (.int .i64 hh) by rw [← hW]; exact ya4 (ya1 _ _ _ _ _ rfl))
  have c1:=Grown.cell (show W.cell? ⟨w.heap.size,1,none⟩ = some (.int .i64 he) by rw [← hW]; exact ya4 (ya1 _ _ _ _ _ rfl))
  have c2:=Grown.cell (show W.cell? ⟨w.heap.size,2,none⟩ = some (.string hr) by rw [← hW]; exact ya4 (ya1 _ _ _ _ _ rfl))
  have c3:=Grown.cell (show W.cell? ⟨w.heap.size,3,none⟩ = some (.string hp) by rw [← hW]; exact ya4 (ya1 _ _ _ _ _ rfl))
  have d0:=Grown.cell (show W.cell? ⟨w.heap.size + 1,0,none⟩ = some (.int .i64 a) by rw [← hW,show w.heap.size + 1 = (w.alloc (.cells #[.int .i64 hh, .int .i64 he, .string hr, .string hp] 58)).heap.size from by simp]; exact ya1 _ _ _ _ _ rfl)
  have d1:=Grown.cell (show W.cell? ⟨w.heap.size + 1,1,none⟩ = some (.slice A0 so.length k0) by rw [← hW,show w.heap.size + 1 = (w.alloc (.cells #[.int .i64 hh, .int .i64 he, .string hr, .string hp] 58)).heap.size from by simp]; exact ya1 _ _ _ _ _ rfl)
  have d2:=Grown.cell (show W.cell? ⟨w.heap.size + 1,2,none⟩ = some (.slice A1 ss.length k1) by rw [← hW,show w.heap.size + 1 = (w.alloc (.cells #[.int .i64 hh, .int .i64 he, .string hr, .string hp] 58)).heap.size from by simp]; exact ya1 _ _ _ _ _ rfl)
  have d3:=Grown.cell (show W.cell? ⟨w.heap.size + 1,3,none⟩ = some (.slice A2 sd.length k2) by rw [← hW,show w.heap.size + 1 = (w.alloc (.cells #[.int .i64 hh, .int .i64 he, .string hr, .string hp] 58)).heap.size from by simp]; exact ya1 _ _ _ _ _ rfl)
  have hz1 : w.heap.size + 1 < W.heap.size:=by rw [← hW]; simp
  clear hW
  obtain ⟨B,hB⟩ : ∃ B,w.heap.size = B:=⟨_,rfl⟩
  simp only [hB] at c0 c1 c2 c3 d0 d1 d2 d3 hz1 ⊢
  have HBE:=zd hB
  clear hB
  refine ya2 (by kernel_rfl) (by kernel_rfl) ?_
  repeat (go_big_quiet_step (first | (go_at_call 132; exact ya6 (HHO.out _)) | (go_at_call 139; exact grown_same (HSA.out _)) | (go_at_call 140; exact ya6 (HTX.out _ (HBW.out.trans ((Grown.ok _).mono HBW.out.size)))) | (go_at_call 134; exact ya6 (HSig.out _ (HBW.out.trans ((Grown.ok _).mono HBW.out.size))))))
  refine wpQuiet_nil ?_
  intro w2 hw2
  have hR:=zd (ya7 hw2)
  clear hw2
  go_wp2
  go_ret
  exact ⟨yab (by rw [HOK.out]; simp [HAV.out]),by first | exact (HBW.out).trans (hR.out.mono HBW.out.size) | rw [← HBE.out]; exact (HBW.out).trans (hR.out.mono HBW.out.size)⟩
end Go.Proofs.YtgllafgpmenjjaaGreatDoor
