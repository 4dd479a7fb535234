/- A part of the proof. -/
import Derived.Test.YtgllafgpmenjjaaGreatDoorHChCe
set_option linter.unusedVariables false
set_option linter.unusedSimpArgs false
set_option maxRecDepth 20000
set_option maxHeartbeats 16000000
namespace Go.Proofs.YtgllafgpmenjjaaGreatDoor
open Go.RowKit Lay Mk
def CopyRes (hs : Int) (L : List Head) (w : World) (e : Ending) (w' : World) : Prop:=∃ A c,e = .returned (.agg #[.int .i64 hs, .slice A L.length c]) ∧ Own w w' A c L
def LkRes (ok : Bool) (AA : List Head) (w : World) (e : Ending) (w' : World) : Prop:=∃ A n c,e = .returned (.tuple #[.slice A n c, .bool ok]) ∧ (ok = true → n = AA.length ∧ Own w w' A c AA) ∧ Below w.heap.size w w'
theorem spec_l28Copy (w : World) (hs : Int) (L : List Head) (C0 : Option Addr) (q0 : Nat) (S : Blks) (hc : Row false w C0 q0 L S) (hl : L.length ≤ 2000000000) : Calls Tryz.prog 44 #[.agg #[.int .i64 hs, .slice C0 L.length q0]] w (CopyRes hs L w):=by
 have hWd : ∀ W,W = (w.alloc (.cells #[.int .i64 hs, .slice C0 L.length q0] 47)).alloc (.cells #[.int .i64 0, .slice none 0 0] 47) → Below w.heap.size w W ∧ W.heap.size = w.heap.size + 2 ∧ W.cell? ⟨w.heap.size,0,none⟩ = some (.int .i64 hs) ∧ W.cell? ⟨w.heap.size,1,none⟩ = some (.slice C0 L.length q0) ∧ W.cell? ⟨w.heap.size + 1,0,none⟩ = some (.int .i64 0) ∧ W.cell? ⟨w.heap.size + 1,1,none⟩ = some (.slice none 0 0) ∧ (∀ o,W.frozen? ⟨w.heap.size + 1,o,none⟩ = false):=by
  rintro W rfl
  have e1 : w.heap.size + 1 = (w.alloc (.cells #[.int .i64 hs, .slice C0 L.length q0] 47)).heap.size:=zz32
  exact ⟨((Below.refl _ _).alloc (Nat.le_refl _) _).alloc zz32 _,zz32,ya4 (ya1 _ _ _ _ _ rfl),ya4 (ya1 _ _ _ _ _ rfl),zz56,zz56,fun o => by rw [e1]; exact frozen_new _ _ _ _⟩
 go_enter Tryz.func44,Tryz.ntmps44
 go_wp2_with (fail)
 obtain ⟨W,hW⟩ : ∃ W,(w.alloc (.cells #[.int .i64 hs, .slice C0 L.length q0] 47)).alloc (.cells #[.int .i64 0, .slice none 0 0] 47) = W:=⟨_,rfl⟩
 rw [hW]
 obtain ⟨hBW,hWs,c0,c1,z0,z1,zf⟩:=hWd W hW.symm
 clear hW hWd
 have hlc : w.heap.size < W.heap.size:=zz8
 have hlr : w.heap.size + 1 < W.heap.size:=zz8
 have HBW:=zd hBW
 have rW:=Row.later hc hBW
 clear hWs hBW
 go_region_law (refine step_push (α:=Head) (w0:=W) rfl _ _ rfl rfl rfl (Own.litAt ((Below.refl W.heap.size W).drew) 58 rfl zz66) rfl rfl (Src.flatC (Row.later rW (((Below.refl _ _).drew).alloc (Nat.le_refl _) _))) zz8 ?_; intro A6 c6 w6 o6 hE; have y0:=(hE.cell (p:=⟨w.heap.size + 1,0,none⟩) hlr).trans z0; have y1:=(hE.cell (p:=⟨w.heap.size + 1,1,none⟩) hlr).trans z1; have yf:=fun o => (hE.frozen (p:=⟨w.heap.size + 1,o,none⟩) hlr).trans (zf o); have d0:=(hE.cell (p:=⟨w.heap.size,0,none⟩) hlc).trans c0; have hs6:=hE.size; have hlc6 : w.heap.size < w6.heap.size:=zz8; have O6:=zd o6; clear o6 hE)
 all_goals (
  go_wp2
  refine bodyPost_ret (v:=.agg #[.int .i64 hs, .slice A6 L.length c6]) (by simp [results,Tryz.results44,go_sem, *]) rfl ?_
  have hq : ∀ o : Nat, ¬ nw W.heap.size (⟨w.heap.size + 1,o,none⟩ : Addr).block:=fun o h => by have h1 : W.heap.size ≤ w.heap.size + 1:=h; omega
  have o6:=O6.out
  rw [List.nil_append] at o6
  exact ⟨A6,c6,rfl,⟨((o6.row.setC (hq 0) _).setC (hq 1) _).mono (fun b h => Nat.le_trans HBW.out.size h),o6.le,o6.cm,Below.setCell (Below.setCell (HBW.out.trans (o6.bl.mono HBW.out.size)) (Nat.le_add_right _ 1) _) (Nat.le_add_right _ 1) _⟩⟩)
theorem spec_l28Links (w : World) (hs : Int) (L : List Head) (C0 : Option Addr) (q0 : Nat) (S : Blks) (hc : Row false w C0 q0 L S) (hl : L.length ≤ 1048576) (root : ByteArray) (links : List Seal) (AL : Option Addr) (kL : Nat) (SL : Blks) (hk : Row false w AL kL links SL) (hll : links.length ≤ 1048576) (hh ep : Int) (hr hp : ByteArray) : Calls Tryz.prog 46 #[.agg #[.int .i64 hs, .slice C0 L.length q0], .string root, .slice AL links.length kL, .agg #[.int .i64 hh, .int .i64 ep, .string hr, .string hp]] w (LkRes (linksOk root ⟨hs,L⟩ links ⟨hh,ep,hr,hp⟩) (hearAll ⟨hs,L⟩ links) w):=by
 have hWd : ∀ W,W = (w.alloc (.cells #[.int .i64 hs, .slice C0 L.length q0] 47)).alloc (.cells #[.int .i64 hh, .int .i64 ep, .string hr, .string hp] 58) → Below w.heap.size w W ∧ W.heap.size = w.heap.size + 2 ∧ W.cell? ⟨w.heap.size,0,none⟩ = some (.int .i64 hs) ∧ W.cell? ⟨w.heap.size,1,none⟩ = some (.slice C0 L.length q0) ∧ W.cell? ⟨w.heap.size + 1,0,none⟩ = some (.int .i64 hh) ∧ W.cell? ⟨w.heap.size + 1,1,none⟩ = some (.int .i64 ep) ∧ W.cell? ⟨w.heap.size + 1,2,none⟩ = some (.string hr) ∧ W.cell? ⟨w.heap.size + 1,3,none⟩ = some (.string hp):=by
  rintro W rfl
  have e1 : w.heap.size + 1 = (w.alloc (.cells #[.int .i64 hs, .slice C0 L.length q0] 47)).heap.size:=zz32
  exact ⟨((Below.refl _ _).alloc (Nat.le_refl _) _).alloc zz32 _,zz32,ya4 (ya1 _ _ _ _ _ rfl),ya4 (ya1 _ _ _ _ _ rfl),zz56,zz56,zz56,zz56⟩
 have HLB:=zd (fun k hk hb => lk_bad (root:=root) (c:=⟨hs,L⟩) (links:=links) (h:=⟨hh,ep,hr,hp⟩) (k:=k) hk hb)
 have HLA:=zd (fun ha => lk_all (root:=root) (c:=⟨hs,L⟩) (links:=links) (h:=⟨hh,ep,hr,hp⟩) ha)
 have HAE : Hid (hearAll ⟨hs,L⟩ links = L ++ headL links):=zd rfl
 have HSM : Hid (∀ y : Head,sameHd y ⟨hh,ep,hr,hp⟩ = (decide (y.house = hh) && decide (y.epoch = ep) && decide (y.root = hr) && decide (y.prev = hp))):=zd (fun _ => rfl)
 rw [HAE.out] at HLA ⊢
 obtain ⟨LO,hLO⟩ : ∃ b,linksOk root ⟨hs,L⟩ links ⟨hh,ep,hr,hp⟩ = b:=⟨_,rfl⟩
 rw [hLO] at HLB HLA ⊢
 clear hLO
 obtain ⟨W,hW⟩ : ∃ W,(w.alloc (.cells #[.int .i64 hs, .slice C0 L.length q0] 47)).alloc (.cells #[.int .i64 hh, .int .i64 ep, .string hr, .string hp] 58) = W:=⟨_,rfl⟩
 obtain ⟨hBW,hWs,c0,c1,g0,g1,g2,g3⟩:=hWd W hW.symm
 clear hWd
 have hlc : w.heap.size < W.heap.size:=zz8
 have hlh : w.heap.size + 1 < W.heap.size:=zz8
 have HM:=zd (fun (w' : World) (h : Below W.heap.size W w') => (⟨(h.cell (p:=⟨w.heap.size,0,none⟩) hlc).trans c0,(h.cell (p:=⟨w.heap.size + 1,0,none⟩) hlh).trans g0,(h.cell (p:=⟨w.heap.size + 1,1,none⟩) hlh).trans g1,(h.cell (p:=⟨w.heap.size + 1,2,none⟩) hlh).trans g2,(h.cell (p:=⟨w.heap.size + 1,3,none⟩) hlh).trans g3⟩ : w'.cell? ⟨w.heap.size,0,none⟩ = some (.int .i64 hs) ∧ w'.cell? ⟨w.heap.size + 1,0,none⟩ = some (.int .i64 hh) ∧ w'.cell? ⟨w.heap.size + 1,1,none⟩ = some (.int .i64 ep) ∧ w'.cell? ⟨w.heap.size + 1,2,none⟩ = some (.string hr) ∧ w'.cell? ⟨w.heap.size + 1,3,none⟩ = some (.string hp)))
 have HBW:=zd hBW
 have RL:=zd (Row.later hk hBW)
 have hBF : Below w.heap.size w ((w.alloc (.cells #[.int .i64 hs, .slice C0 L.length q0] 47)).alloc (.cells #[.int .i64 hh, .int .i64 ep, .string hr, .string hp] 58)):=by rw [hW]; exact hBW
 have HBF:=zd hBF
 have HWH:=zd hW
 clear hWs hBW hk c0 c1 g0 g1 g2 g3 hBF hW
 go_enter Tryz.func46,Tryz.ntmps46
 go_wp2_with (at_builtin; refine wpList_push (α:=Head) (w0:=(w.alloc (.cells #[.int .i64 hs, .slice C0 L.length q0] 47)).alloc (.cells #[.int .i64 hh, .int .i64 ep, .string hr, .string hp] 58)) rfl _ _ rfl rfl rfl (Own.litAt (Below.refl _ _) 58 rfl zz66) rfl rfl (Src.flatC (Row.later hc (HBF.out.alloc HBF.out.size _))) zz8 ?_; intro A6 c6 w6 o6 z6)
 rw [HWH.out] at o6 z6
 have HO:=zd o6
 clear o6 z6
 go_loopw [10,11] (fun u i wr => ∃ (k : Nat) (A : Option Addr) (c : Nat),k ≤ links.length ∧ i = .int .i64 k ∧ u = .slice A (L.length + k) c ∧ Hid (∀ j (hj : j < links.length),j < k → sealOk root links[j] = true) ∧ Own W wr A c (L ++ headL (links.take k))) (fun _ i _ => links.length - (intOf i).toNat)
 case atStart => exact ⟨0,A6,c6,Nat.zero_le _,rfl,zz32,zd (fun j _ h => absurd h (Nat.not_lt_zero _)),by simpa [headL] using HO.out⟩
 case round =>
  clear HO
  obtain ⟨k,A,c,hk,rfl,rfl,HA,hown⟩:=hrel
  have hb:=hown.bl
  have HOW:=zd hown
  have HKL : Hid (L.length + k = (L ++ headL (links.take k)).length):=zd (by unfold headL; rw [List.length_append,List.length_map,List.length_take]; omega)
  by_cases hlt : k < links.length
  ·obtain ⟨b1,o1,cc,T,rfl,hl1,ha,hrd,_,_⟩:=Row.at_ RL.out hlt
   replace ha:=ha.keep (hb.block b1 hl1)
   replace hrd:=Lay.later hrd hb
   have HN : Hid (L ++ headL (links.take (k + 1)) = (L ++ headL (links.take k)) ++ [links[k].head]):=zd (by unfold headL; rw [mapT_snoc _ hlt,List.append_assoc])
   have HY:=zd (fun (h0 : sealOk root links[k] = false) => HLB.out k hlt h0)
   have HA2 : Hid (sealOk root links[k] = true → ∀ j (hj : j < links.length),j < k + 1 → sealOk root links[j] = true):=zd (fun h0 j hj h => by rcases Nat.lt_succ_iff_lt_or_eq.1 h with h1 | h1; exact HA.out j hj h1; subst h1; exact h0)
   obtain ⟨s,hs_⟩ : ∃ s,links[k] = s:=⟨_,rfl⟩
   rw [hs_] at hrd HY HA2 HN
   clear hs_
   have HS:=zd (fun W (h' : Below wr.heap.size wr W) => spec_SealOk W root s cc T (Lay.later hrd h'))
   obtain ⟨z,hz⟩ : ∃ z,sealOk root s = z:=⟨_,rfl⟩
   rw [hz] at HY HA2 HS
   clear hz
   obtain ⟨D0,m0,V0,D1,m1,V1,D2,m2,V2,rfl,f0,f1,f2,f3, -⟩:=Seal.open hrd
   have hok : Flat.ok s.head:=(⟨f0,f1,f2,f3⟩ : I64 s.head.house ∧ I64 s.head.epoch ∧ s.head.root.size ≤ maxLen ∧ s.head.prev.size ≤ maxLen)
   clear hrd f0 f1 f2 f3
   rw [show Lay.n Seal = 8 from rfl] at ha
   have e0:=ha 0 _ rfl
   have e1:=ha 1 _ rfl
   have e2:=ha 2 _ rfl
   have e3:=ha 3 _ rfl
   have e4:=ha 4 _ rfl
   have e5:=ha 5 _ rfl
   have e6:=ha 6 _ rfl
   have e7:=ha 7 _ rfl
   simp only [Nat.add_zero] at e0
   have hl3 : b1 < wr.heap.size:=Nat.lt_of_lt_of_le hl1 hb.size
   simp only [Seal.cs] at HS
   have HBr:=zd hb
   clear ha hb HA hown
   go_wp2_with (fail)
   refine (HS.out _ (Below.refl _ _)).mono ?_
   rintro e5 w5 ⟨rfl,hb5⟩
   have HB5:=zd (HBr.out.trans (hb5.mono HBr.out.size))
   have HO5:=zd (HOW.out.later hb5)
   replace e0:=(hb5.cell (p:=⟨b1,o1 + k * 8,none⟩) hl3).trans e0
   replace e1:=(hb5.cell (p:=⟨b1,o1 + k * 8 + 1,none⟩) hl3).trans e1
   replace e2:=(hb5.cell (p:=⟨b1,o1 + k * 8 + 2,none⟩) hl3).trans e2
   replace e3:=(hb5.cell (p:=⟨b1,o1 + k * 8 + 3,none⟩) hl3).trans e3
   have hl5 : b1 < w5.heap.size:=Nat.lt_of_lt_of_le hl3 hb5.size
   clear hb5 e4 e5 e6 e7
   cases z
   ·have HE:=zd (HY.out rfl)
    go_wp2
    go_ret2
    rw [HE.out]
    exact ⟨_,_,_,rfl,(fun h => absurd h zz69),HBW.out.trans (HB5.out.mono HBW.out.size)⟩
   ·have HA3:=zd (HA2.out rfl)
    go_wp2_with (at_builtin; refine wpList_push (α:=Head) rfl _ _ rfl rfl HKL.out (HO5.out.alloc _) rfl rfl (src1 hok zz66 rfl) zz8 ?_; intro A7 c7 w7 o7 z7)
    go_roundw
    case rel => exact ⟨k + 1,A7,c7,hlt,by go_num,rfl,HA3,by rw [HN.out]; exact o7⟩
    case measure => simp [intOf]; omega
  ·have hke : k = links.length:=by omega
   have HLQ:=zd (HLA.out (fun j hj => HA.out j hj zz8))
   subst hke
   rw [List.take_of_length_le (Nat.le_refl _)] at HOW HKL
   have hHL : (headL links).length = links.length:=by unfold headL; simp
   obtain ⟨AA,hAA⟩ : ∃ l,L ++ headL links = l:=⟨_,rfl⟩
   rw [hAA] at HOW HKL HLQ
   have HAA:=zd hAA
   obtain ⟨N,hN⟩ : ∃ N,L.length + links.length = N:=⟨_,rfl⟩
   rw [hN] at HKL
   have HNN:=zd hN.symm
   simp only [hN]
   have HCH:=zd (fun W' (h : Below wr.heap.size wr W') => spec_ChainOk W' AA A c _ (Row.later HOW.out.weak h) (by have:=HKL.out; have:=HNN.out; omega) hs)
   simp only [← HKL.out] at HCH HLQ
   have HBr:=zd hb
   clear hAA hN hHL hown hb HA
   obtain ⟨z,hz⟩ : ∃ z,chainOk AA hs = z:=⟨_,rfl⟩
   rw [hz] at HCH HLQ
   clear hz
   obtain ⟨c0,g0,g1,g2,g3⟩:=HM.out wr HBr.out
   by_cases a0 : links.length = 0
   ·have hq0 : decide (0 < links.length) = false:=decide_eq_false zz8
    have hq1 : decide ((0 : Int) < (links.length : Int)) = false:=decide_eq_false zz8
    have hq2 : decide ((links.length : Int) > 0) = false:=decide_eq_false zz8
    have HE:=zd (show LO = false by rw [HLQ.out,hq0]; rfl)
    clear a0
    go_wp2_with (fail)
    have Gc0:=Grown.cell c0
    have Gg0:=Grown.cell g0
    have Gg1:=Grown.cell g1
    have Gg2:=Grown.cell g2
    have Gg3:=Grown.cell g3
    clear c0 g0 g1 g2 g3
    refine ya2 (by kernel_rfl) (by kernel_rfl) ?_
    repeat (go_big_quiet_step (first | (go_at_call 89; exact ya6 (HCH.out _ (Grown.ok _)))))
    refine wpQuiet_nil ?_
    intro w7 hw_
    have HB7:=zd (ya7 hw_)
    clear hw_ Gc0 Gg0 Gg1 Gg2 Gg3
    go_wp2
    go_ret2
    rw [HE.out]
    exact ⟨_,_,_,rfl,(fun h => absurd h zz69),(HBW.out.trans (HBr.out.mono HBW.out.size)).trans (HB7.out.mono (Nat.le_trans HBW.out.size HBr.out.size))⟩
   have hq0 : decide (0 < links.length) = true:=decide_eq_true zz8
   have hq1 : decide ((0 : Int) < (links.length : Int)) = true:=decide_eq_true zz8
   have hq2 : decide ((links.length : Int) > 0) = true:=decide_eq_true zz8
   have HA0:=zd a0
   clear a0
   by_cases a2 : (N : Int) = ep
   rotate_left
   ·have hq3 : ((N : Int) == ep) = false:=beq_eq_false_iff_ne.2 a2
    have HE:=zd (show LO = false by rw [HLQ.out,decide_eq_false a2]; simp)
    clear a2
    go_wp2_with (fail)
    have Gc0:=Grown.cell c0
    have Gg0:=Grown.cell g0
    have Gg1:=Grown.cell g1
    have Gg2:=Grown.cell g2
    have Gg3:=Grown.cell g3
    clear c0 g0 g1 g2 g3
    refine ya2 (by kernel_rfl) (by kernel_rfl) ?_
    repeat (go_big_quiet_step (first | (go_at_call 89; exact ya6 (HCH.out _ (Grown.ok _)))))
    refine wpQuiet_nil ?_
    intro w7 hw_
    have HB7:=zd (ya7 hw_)
    clear hw_ Gc0 Gg0 Gg1 Gg2 Gg3
    go_wp2
    go_ret2
    rw [HE.out]
    exact ⟨_,_,_,rfl,(fun h => absurd h zz69),(HBW.out.trans (HBr.out.mono HBW.out.size)).trans (HB7.out.mono (Nat.le_trans HBW.out.size HBr.out.size))⟩
   have hq3 : ((N : Int) == ep) = true:=beq_iff_eq.2 a2
   have HA2:=zd a2
   clear a2
   cases z
   ·have HE:=zd (show LO = false by rw [HLQ.out]; simp)
    go_wp2_with (fail)
    have Gc0:=Grown.cell c0
    have Gg0:=Grown.cell g0
    have Gg1:=Grown.cell g1
    have Gg2:=Grown.cell g2
    have Gg3:=Grown.cell g3
    clear c0 g0 g1 g2 g3
    refine ya2 (by kernel_rfl) (by kernel_rfl) ?_
    repeat (go_big_quiet_step (first | (go_at_call 89; exact ya6 (HCH.out _ (Grown.ok _)))))
    refine wpQuiet_nil ?_
    intro w7 hw_
    have HB7:=zd (ya7 hw_)
    clear hw_ Gc0 Gg0 Gg1 Gg2 Gg3
    go_wp2
    go_ret2
    rw [HE.out]
    exact ⟨_,_,_,rfl,(fun h => absurd h zz69),(HBW.out.trans (HBr.out.mono HBW.out.size)).trans (HB7.out.mono (Nat.le_trans HBW.out.size HBr.out.size))⟩
   obtain ⟨q,hq⟩ : ∃ q,N = q + 1:=⟨N - 1,by have:=HNN.out; have:=HA0.out; omega⟩
   have hqA : q < AA.length:=by rw [← HKL.out]; omega
   have HLQ2 : Hid (LO = sameHd AA[q] ⟨hh,ep,hr,hp⟩):=zd (by
    have h9:=HLQ.out
    rw [hq0,decide_eq_true HA2.out,show N - 1 = q by omega,hdIs_at hqA] at h9
    simpa using h9)
   have HSA:=zd (HSM.out AA[q])
   obtain ⟨b3,o3,rfl,hl3,q0_,q1_,q2_,q3_, -, -, -, -⟩:=Row.atHead HOW.out.weak hqA
   obtain ⟨y,hy⟩ : ∃ y,AA[q] = y:=⟨_,rfl⟩
   rw [hy] at q0_ q1_ q2_ q3_ HSA HLQ2
   obtain ⟨yh,ye,yr,yp⟩:=y
   simp only at q0_ q1_ q2_ q3_ HSA
   have hqi : (q : Int) < (N : Int):=zz8
   have hq00 : (0 : Int) ≤ (q : Int):=zz8
   have hqb : (q : Int) ≤ 9000000:=by have:=HNN.out; omega
   have hwi2 : (N : Int) - 1 = (q : Int):=zz8
   have hwi3 : wrap64 (q : Int) = (q : Int):=IntWalk.wrap64_in _ ⟨zz8,zz8⟩
   clear hqb
   clear hy hq HLQ
   by_cases s0 : yh = hh
   rotate_left
   ·have HQ:=zd s0
    have HE:=zd (show LO = false by rw [HLQ2.out,HSA.out]; simp [HQ.out])
    have hs1 : (yh == hh) = false:=beq_eq_false_iff_ne.2 s0
    have hs2 : ¬ yh = hh:=HQ.out
    go_wp2_with (fail)
    have Gc0:=Grown.cell c0
    have Gg0:=Grown.cell g0
    have Gg1:=Grown.cell g1
    have Gg2:=Grown.cell g2
    have Gg3:=Grown.cell g3
    have Gq0_:=Grown.cell q0_
    have Gq1_:=Grown.cell q1_
    have Gq2_:=Grown.cell q2_
    have Gq3_:=Grown.cell q3_
    clear c0 g0 g1 g2 g3 q0_ q1_ q2_ q3_
    refine ya2 (by kernel_rfl) (by kernel_rfl) ?_
    repeat (go_big_quiet_step (first | (go_at_call 89; exact ya6 (HCH.out _ (Grown.ok _)))))
    refine wpQuiet_nil ?_
    intro w7 hw_
    have HB7:=zd (ya7 hw_)
    clear hw_ Gc0 Gg0 Gg1 Gg2 Gg3 Gq0_ Gq1_ Gq2_ Gq3_
    go_wp2
    go_ret2
    rw [HE.out]
    exact ⟨_,_,_,rfl,(fun h => absurd h zz69),(HBW.out.trans (HBr.out.mono HBW.out.size)).trans (HB7.out.mono (Nat.le_trans HBW.out.size HBr.out.size))⟩
   subst s0
   by_cases s1 : ye = ep
   rotate_left
   ·have HQ:=zd s1
    have HE:=zd (show LO = false by rw [HLQ2.out,HSA.out]; simp [HQ.out])
    have hs1 : (ye == ep) = false:=beq_eq_false_iff_ne.2 s1
    have hs2 : ¬ ye = ep:=HQ.out
    go_wp2_with (fail)
    have Gc0:=Grown.cell c0
    have Gg0:=Grown.cell g0
    have Gg1:=Grown.cell g1
    have Gg2:=Grown.cell g2
    have Gg3:=Grown.cell g3
    have Gq0_:=Grown.cell q0_
    have Gq1_:=Grown.cell q1_
    have Gq2_:=Grown.cell q2_
    have Gq3_:=Grown.cell q3_
    clear c0 g0 g1 g2 g3 q0_ q1_ q2_ q3_
    refine ya2 (by kernel_rfl) (by kernel_rfl) ?_
    repeat (go_big_quiet_step (first | (go_at_call 89; exact ya6 (HCH.out _ (Grown.ok _)))))
    refine wpQuiet_nil ?_
    intro w7 hw_
    have HB7:=zd (ya7 hw_)
    clear hw_ Gc0 Gg0 Gg1 Gg2 Gg3 Gq0_ Gq1_ Gq2_ Gq3_
    go_wp2
    go_ret2
    rw [HE.out]
    exact ⟨_,_,_,rfl,(fun h => absurd h zz69),(HBW.out.trans (HBr.out.mono HBW.out.size)).trans (HB7.out.mono (Nat.le_trans HBW.out.size HBr.out.size))⟩
   subst s1
   by_cases s2 : yr = hr
   rotate_left
   ·have HQ:=zd s2
    have HE:=zd (show LO = false by rw [HLQ2.out,HSA.out]; simp [HQ.out])
    have hs1 : (yr.toList == hr.toList) = false:=str_ne s2
    have hs2 : ¬ yr.toList = hr.toList:=fun e => HQ.out (toList_inj e)
    clear s2
    go_wp2_with (fail)
    have Gc0:=Grown.cell c0
    have Gg0:=Grown.cell g0
    have Gg1:=Grown.cell g1
    have Gg2:=Grown.cell g2
    have Gg3:=Grown.cell g3
    have Gq0_:=Grown.cell q0_
    have Gq1_:=Grown.cell q1_
    have Gq2_:=Grown.cell q2_
    have Gq3_:=Grown.cell q3_
    clear c0 g0 g1 g2 g3 q0_ q1_ q2_ q3_
    refine ya2 (by kernel_rfl) (by kernel_rfl) ?_
    repeat (go_big_quiet_step (first | (go_at_call 89; exact ya6 (HCH.out _ (Grown.ok _)))))
    refine wpQuiet_nil ?_
    intro w7 hw_
    have HB7:=zd (ya7 hw_)
    clear hw_ Gc0 Gg0 Gg1 Gg2 Gg3 Gq0_ Gq1_ Gq2_ Gq3_
    go_wp2
    go_ret2
    rw [HE.out]
    exact ⟨_,_,_,rfl,(fun h => absurd h zz69),(HBW.out.trans (HBr.out.mono HBW.out.size)).trans (HB7.out.mono (Nat.le_trans HBW.out.size HBr.out.size))⟩
   subst s2
   by_cases s3 : yp = hp
   rotate_left
   ·have HQ:=zd s3
    have HE:=zd (show LO = false by rw [HLQ2.out,HSA.out]; simp [HQ.out])
    have hs1 : (yp.toList == hp.toList) = false:=str_ne s3
    have hs2 : ¬ yp.toList = hp.toList:=fun e => HQ.out (toList_inj e)
    clear s3
    go_wp2_with (fail)
    have Gc0:=Grown.cell c0
    have Gg0:=Grown.cell g0
    have Gg1:=Grown.cell g1
    have Gg2:=Grown.cell g2
    have Gg3:=Grown.cell g3
    have Gq0_:=Grown.cell q0_
    have Gq1_:=Grown.cell q1_
    have Gq2_:=Grown.cell q2_
    have Gq3_:=Grown.cell q3_
    clear c0 g0 g1 g2 g3 q0_ q1_ q2_ q3_
    refine ya2 (by kernel_rfl) (by kernel_rfl) ?_
    repeat (go_big_quiet_step (first | (go_at_call 89; exact ya6 (HCH.out _ (Grown.ok _)))))
    refine wpQuiet_nil ?_
    intro w7 hw_
    have HB7:=zd (ya7 hw_)
    clear hw_ Gc0 Gg0 Gg1 Gg2 Gg3 Gq0_ Gq1_ Gq2_ Gq3_
    go_wp2
    go_ret2
    rw [HE.out]
    exact ⟨_,_,_,rfl,(fun h => absurd h zz69),(HBW.out.trans (HBr.out.mono HBW.out.size)).trans (HB7.out.mono (Nat.le_trans HBW.out.size HBr.out.size))⟩
   subst s3
   have HE:=zd (show LO = true by rw [HLQ2.out,HSA.out]; simp)
   go_wp2_with (fail)
   have Gc0:=Grown.cell c0
   have Gg0:=Grown.cell g0
   have Gg1:=Grown.cell g1
   have Gg2:=Grown.cell g2
   have Gg3:=Grown.cell g3
   have Gq0_:=Grown.cell q0_
   have Gq1_:=Grown.cell q1_
   have Gq2_:=Grown.cell q2_
   have Gq3_:=Grown.cell q3_
   clear c0 g0 g1 g2 g3 q0_ q1_ q2_ q3_
   refine ya2 (by kernel_rfl) (by kernel_rfl) ?_
   repeat (go_big_quiet_step (first | (go_at_call 89; exact ya6 (HCH.out _ (Grown.ok _)))))
   refine wpQuiet_nil ?_
   intro w7 hw_
   have HB7:=zd (ya7 hw_)
   clear hw_ Gc0 Gg0 Gg1 Gg2 Gg3 Gq0_ Gq1_ Gq2_ Gq3_
   go_wp2
   go_ret2
   rw [HE.out]
   rw [HAA.out]
   exact ⟨_,_,_,rfl,(fun _ => ⟨HKL.out,(HOW.out.later HB7.out).from HBW.out⟩),(HBW.out.trans (HBr.out.mono HBW.out.size)).trans (HB7.out.mono (Nat.le_trans HBW.out.size HBr.out.size))⟩
end Go.Proofs.YtgllafgpmenjjaaGreatDoor
