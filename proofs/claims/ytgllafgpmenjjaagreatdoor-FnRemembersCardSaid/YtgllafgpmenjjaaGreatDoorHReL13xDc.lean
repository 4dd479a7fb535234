/- A part of the proof: what the laws need of it. -/
import Derived.Test.YtgllafgpmenjjaaGreatDoorHReL12xDh
import Derived.Test.YtgllafgpmenjjaaGreatDoorHReTy
import Derived.LaidMore
import Derived.LaidLaws
import Derived.LaidHandle
import Derived.Handed
import Derived.Lib.LaidTab
import Derived.OpenShut
import Derived.SevenTiedAt
import Derived.Test.YtgllafgpmenjjaaGreatDoorHReL7xLw
set_option linter.unusedVariables false
set_option linter.unusedSimpArgs false
set_option linter.unusedVariables false
set_option linter.unusedSimpArgs false
namespace Go.Proofs.YtgllafgpmenjjaaGreatDoor
open Go.RowKit Lay Mk
set_option maxRecDepth 100000 in set_option maxHeartbeats 8000000 in
theorem impl_compress (w : World) (s : S8) (hs : s.Ok) (blk : ByteArray) (hb : blk.size = 64) (hT : Tabs w) : Calls Tryz.prog 187 #[.agg (arr s.l), .string blk] w fun e w' => e = .returned (.agg (arr (comp s blk).l)) ∧ Below w.heap.size w w' := by
  have hbl : 64 ≤ blk.size := by omega
  have HB := Lib.hid hb; clear hb
  obtain ⟨hs0, hs1, hs2, hs3, hs4, hs5, hs6, hs7⟩ := hs
  rw [S8.arr]
  go_enter Tryz.func187, Tryz.ntmps187
  go_wp2
  generalize hW : ((w.alloc (.cells #[_, _, _, _, _, _, _, _] _)).alloc (.cells #[_, _, _, _, _, _, _, _] _)).alloc _ = W
  have hWs : W.heap.size = w.heap.size + 1 + 1 + 1 := by rw [← hW]; simp
  have A2 : Arr W w.heap.size 218 s.l := by
    rw [← hW]
    exact Arr.alloc (Arr.alloc (arr_new (l := s.l) rfl rfl) _) _
  have A4 : Arr W (w.heap.size + 1) 218 (List.replicate 8 0) := by
    rw [← hW]
    exact Arr.alloc (arr_new (l := List.replicate 8 0) (World.size_alloc _ _).symm rfl) _
  have A5 : Arr W (w.heap.size + 1 + 1) 220 (padz (sch blk 0) 64) := by
    rw [← hW]
    exact arr_new (l := padz (sch blk 0) 64) (by rw [World.size_alloc, World.size_alloc]) rfl
  have hWB : Below w.heap.size w W := by
    rw [← hW]
    exact (((Below.refl _ _).alloc (Nat.le_refl _) _).alloc (by simp) _).alloc (by simp; omega) _
  have hWs2 : w.heap.size + 1 + 1 + 1 ≤ W.heap.size := by omega
  clear hW hWs
  go_loopw [18] (fun i wr => ∃ k : Nat, k ≤ 16 ∧ i = .int .i64 k ∧ Arr wr w.heap.size 218 s.l ∧ Arr wr (w.heap.size + 1) 218 (List.replicate 8 0) ∧ Arr wr (w.heap.size + 1 + 1) 220 (padz (sch blk k) 64) ∧ Below w.heap.size w wr) (fun i _ => 16 - (intOf i).toNat)
  case atStart => exact ⟨0, by omega, rfl, A2, A4, A5, hWB⟩
  case round =>
    clear A2 A4 A5 hWB
    obtain ⟨k, hk, rfl, A2, A4, A5, hB⟩ := hrel
    by_cases hlt : k < 16
    · have e0 : IntKind.i64.wrap (4 * (k : Int)) = 4 * (k : Int) := IntWalk.i64_in _ (by omega)
      have e1 : IntKind.i64.wrap (4 * (k : Int) + 1) = 4 * (k : Int) + 1 := IntWalk.i64_in _ (by omega)
      have e2 : IntKind.i64.wrap (4 * (k : Int) + 2) = 4 * (k : Int) + 2 := IntWalk.i64_in _ (by omega)
      have e3 : IntKind.i64.wrap (4 * (k : Int) + 3) = 4 * (k : Int) + 3 := IntWalk.i64_in _ (by omega)
      have n0 : (4 * (k : Int)).toNat = 4 * k := by omega
      have n1 : (4 * (k : Int) + 1).toNat = 4 * k + 1 := by omega
      have n2 : (4 * (k : Int) + 2).toNat = 4 * k + 2 := by omega
      have n3 : (4 * (k : Int) + 3).toNat = 4 * k + 3 := by omega
      have l0 : 4 * (k : Int) < blk.size := by omega
      have l1 : 4 * (k : Int) + 1 < blk.size := by omega
      have l2 : 4 * (k : Int) + 2 < blk.size := by omega
      have l3 : 4 * (k : Int) + 3 < blk.size := by omega
      have m0 : 0 ≤ 4 * (k : Int) := by omega
      have m1 : 0 ≤ 4 * (k : Int) + 1 := by omega
      have m2 : 0 ≤ 4 * (k : Int) + 2 := by omega
      have m3 : 0 ≤ 4 * (k : Int) + 3 := by omega
      go_wp2
      refine still_tail 30 (by kernel_rfl) (by kernel_rfl) ?_
      simp only [List.take_succ_cons, List.take_zero, List.drop_succ_cons, List.drop_zero]
      repeat still_step
      refine wpStill_nil ?_
      clear e0 e1 e2 e3
      have hc := A5.cell (i := k) (by rw [padz_len (by rw [sch_len]; omega)]; omega)
      have hf := A5.frozen k
      have hl : k < 64 := by omega
      go_wp2
      go_roundw
      case rel =>
        refine ⟨k + 1, by omega, by go_num, ((A2.setO (show w.heap.size ≠ w.heap.size + 1 + 1 by omega) _).drew), ((A4.setO (show w.heap.size + 1 ≠ w.heap.size + 1 + 1 by omega) _).drew), ?_, ?_⟩
        · rw [sch_low blk hlt, ← sch_put blk hl, ← word_at (by omega)]
          exact (A5.set k _).drew
        · exact (hB.setCell (show w.heap.size ≤ w.heap.size + 1 + 1 by omega) _).drew
      case measure => simp [intOf]; omega
    · have hke : k = 16 := by omega
      subst hke
      clear hlt hk
      go_wp2
      go_loopw [8] (fun i wr => ∃ k : Nat, 16 ≤ k ∧ k ≤ 64 ∧ i = .int .i64 k ∧ Arr wr w.heap.size 218 s.l ∧ Arr wr (w.heap.size + 1) 218 (List.replicate 8 0) ∧ Arr wr (w.heap.size + 1 + 1) 220 (padz (sch blk k) 64) ∧ Below w.heap.size w wr) (fun i _ => 64 - (intOf i).toNat)
      case atStart => exact ⟨16, by omega, by omega, rfl, A2, A4, A5, hB⟩
      case round =>
        clear A2 A4 A5 hB
        obtain ⟨k, hk0, hk, rfl, A2, A4, A5, hB⟩ := hrel
        by_cases hlt : k < 64
        · obtain ⟨x16, X16, hx16, c16⟩ := A5.word (i := k - 16) (by omega) (by omega)
          obtain ⟨x15, X15, hx15, c15⟩ := A5.word (i := k - 15) (by omega) (by omega)
          obtain ⟨x7, X7, hx7, c7⟩ := A5.word (i := k - 7) (by omega) (by omega)
          obtain ⟨x2, X2, hx2, c2⟩ := A5.word (i := k - 2) (by omega) (by omega)
          have HS : Hid (sch blk (k + 1) = sch blk k ++ [wsum x16 (sg0 x15) x7 (sg1 x2)]) := Lib.hid (by rw [sch_high blk (by omega)]; simp only [wnext, X16, X15, X7, X2])
          clear X16 X15 X7 X2
          have e16 : IntKind.i64.wrap ((k : Int) - 16) = (k : Int) - 16 := IntWalk.i64_in _ (by omega)
          have e15 : IntKind.i64.wrap ((k : Int) - 15) = (k : Int) - 15 := IntWalk.i64_in _ (by omega)
          have e7 : IntKind.i64.wrap ((k : Int) - 7) = (k : Int) - 7 := IntWalk.i64_in _ (by omega)
          have e2 : IntKind.i64.wrap ((k : Int) - 2) = (k : Int) - 2 := IntWalk.i64_in _ (by omega)
          have n16 : ((k : Int) - 16).toNat = k - 16 := by omega
          have n15 : ((k : Int) - 15).toNat = k - 15 := by omega
          have n7 : ((k : Int) - 7).toNat = k - 7 := by omega
          have n2 : ((k : Int) - 2).toNat = k - 2 := by omega
          have m16 : 0 ≤ (k : Int) - 16 := by omega
          have m15 : 0 ≤ (k : Int) - 15 := by omega
          have m7 : 0 ≤ (k : Int) - 7 := by omega
          have m2 : 0 ≤ (k : Int) - 2 := by omega
          have p16 : (16 : Int) ≤ k := by omega
          have p15 : (15 : Int) ≤ k := by omega
          have p7 : (7 : Int) ≤ k := by omega
          have p2 : (2 : Int) ≤ k := by omega
          have l16 : (k : Int) - 16 < 64 := by omega
          have l15 : (k : Int) - 15 < 64 := by omega
          have l7 : (k : Int) - 7 < 64 := by omega
          have l2 : (k : Int) - 2 < 64 := by omega
          obtain ⟨hx15a, hx15b⟩ := hx15
          obtain ⟨hx2a, hx2b⟩ := hx2
          go_wp2
          go_quiet (fail)
          go_wp2
          refine still_tail 32 (by kernel_rfl) (by kernel_rfl) ?_
          simp only [List.take_succ_cons, List.take_zero, List.drop_succ_cons, List.drop_zero]
          repeat still_step
          still_call (still_of (impl_turn 7 _ _ (by decide) hx15a hx15b))
          repeat still_step
          still_call (still_of (impl_turn 18 _ _ (by decide) hx15a hx15b))
          repeat still_step
          still_call (still_of (impl_turn 17 _ _ (by decide) hx2a hx2b))
          repeat still_step
          still_call (still_of (impl_turn 19 _ _ (by decide) hx2a hx2b))
          repeat still_step
          refine wpStill_nil ?_
          have hc := A5.cell (i := k) (by rw [padz_len (by rw [sch_len]; omega)]; omega)
          have hf := A5.frozen k
          clear e16 e15 e7 e2 c16 c15 c7 c2 n16 n15 n7 n2 m16 m15 m7 m2 l16 l15 l7 l2 p16 p15 p7 p2
          go_wp2
          go_roundw
          case rel =>
            (repeat apply Exists.intro)
            refine ⟨⟨k + 1, by omega, by omega, by go_num, A2.setO (show w.heap.size ≠ w.heap.size + 1 + 1 by omega) _, A4.setO (show w.heap.size + 1 ≠ w.heap.size + 1 + 1 by omega) _, ?_, ?_⟩, rfl⟩
            · rw [HS.out, ← sch_put blk hlt]
              simp only [wsum, sg0, sg1, xr]
              exact A5.set k _
            · exact ((Below.drewN hB _).setCell (show w.heap.size ≤ w.heap.size + 1 + 1 by omega) _)
          case measure => simp [intOf]; omega
        · have hke : k = 64 := by omega
          subst hke
          clear hlt hk hk0
          rw [show padz (sch blk 64) 64 = sch blk 64 from by unfold padz; rw [sch_len]; simp] at A5
          have hsz2 := hB.size
          have A5lt := A5.lt
          go_wp2_with (refine wpList_load_row rfl 218 _ rfl w.heap.size rfl 218 #[.int .u32 s.a, .int .u32 s.b, .int .u32 s.c, .int .u32 s.d, .int .u32 s.e, .int .u32 s.f, .int .u32 s.g, .int .u32 s.h] (0, 0) _ A2 Tryz.underlying218 rfl (by kernel_rfl) ?_)
          obtain ⟨V, hV⟩ : ∃ V, wr.heap.size = V := ⟨_, rfl⟩
          have AV : Arr (wr.alloc (.cells #[.int .u32 s.a, .int .u32 s.b, .int .u32 s.c, .int .u32 s.d, .int .u32 s.e, .int .u32 s.f, .int .u32 s.g, .int .u32 s.h] 218)) V 218 (rounds s (sch blk 64) 0).l := arr_new hV.symm rfl
          replace A2 := A2.alloc (.cells #[.int .u32 s.a, .int .u32 s.b, .int .u32 s.c, .int .u32 s.d, .int .u32 s.e, .int .u32 s.f, .int .u32 s.g, .int .u32 s.h] 218)
          replace A4 := A4.alloc (.cells #[.int .u32 s.a, .int .u32 s.b, .int .u32 s.c, .int .u32 s.d, .int .u32 s.e, .int .u32 s.f, .int .u32 s.g, .int .u32 s.h] 218)
          replace A5 := A5.alloc (.cells #[.int .u32 s.a, .int .u32 s.b, .int .u32 s.c, .int .u32 s.d, .int .u32 s.e, .int .u32 s.f, .int .u32 s.g, .int .u32 s.h] 218)
          replace hB := hB.alloc hsz2 (.cells #[.int .u32 s.a, .int .u32 s.b, .int .u32 s.c, .int .u32 s.d, .int .u32 s.e, .int .u32 s.f, .int .u32 s.g, .int .u32 s.h] 218)
          have hV3 : w.heap.size + 1 + 1 < V := by rw [← hV]; exact A5lt
          rw [hV]
          replace hV := Lib.hid hV
          generalize wr.alloc _ = W2 at A2 A4 A5 hB AV ⊢
          have HT2 := Lib.hid (hT.later hB)
          go_loopw [99] (fun i wr => ∃ k : Nat, k ≤ 64 ∧ i = .int .i64 k ∧ Arr wr w.heap.size 218 s.l ∧ Arr wr (w.heap.size + 1) 218 (List.replicate 8 0) ∧ Arr wr (w.heap.size + 1 + 1) 220 (sch blk 64) ∧ Arr wr V 218 (rounds s (sch blk 64) k).l ∧ Below w.heap.size w wr) (fun i _ => 64 - (intOf i).toNat)
          case atStart => exact ⟨0, by omega, rfl, A2, A4, A5, AV, hB⟩
          case round =>
            clear A2 A4 A5 hB AV HT2
            obtain ⟨k, hk, rfl, A2, A4, A5, AV, hB⟩ := hrel
            by_cases hlt : k < 64
            · obtain ⟨hw, hwx, hww, cw⟩ : ∃ x, (sch blk 64).getD k 0 = x ∧ W32 x ∧ wr.cell? ⟨w.heap.size + 1 + 1, k, none⟩ = some (.int .u32 x) := ⟨_, rfl, sch_w blk hlt, A5.at_ (by rw [sch_len]; exact hlt)⟩
              obtain ⟨kk, hkk, hkw, ck⟩ : ∃ x, shaKeys.getD k 0 = x ∧ W32 x ∧ wr.cell? ⟨1, k, none⟩ = some (.int .u32 x) := ⟨_, rfl, keys_lt k hlt, (hT.later hB).1 k hlt⟩
              have HR : Hid (rounds s (sch blk 64) (k + 1) = rnd (rounds s (sch blk 64) k) kk hw) := Lib.hid (by simp only [rounds, hwx, hkk])
              clear hwx hkk
              have hro := rounds_ok ⟨hs0, hs1, hs2, hs3, hs4, hs5, hs6, hs7⟩ (sch blk 64) k
              obtain ⟨r, hr⟩ : ∃ r, rounds s (sch blk 64) k = r := ⟨_, rfl⟩
              rw [hr] at AV HR hro
              clear hr
              obtain ⟨ra, rb, rc, rd_, re, rf, rg, rh⟩ := r
              obtain ⟨ha, hb_, hc_, hd, he, hf_, hg, hh⟩ := hro
              have v0 := AV.cell (i := 0) (by simp [S8.l])
              have v1 := AV.cell (i := 1) (by simp [S8.l])
              have v2 := AV.cell (i := 2) (by simp [S8.l])
              have v3 := AV.cell (i := 3) (by simp [S8.l])
              have v4 := AV.cell (i := 4) (by simp [S8.l])
              have v5 := AV.cell (i := 5) (by simp [S8.l])
              have v6 := AV.cell (i := 6) (by simp [S8.l])
              have v7 := AV.cell (i := 7) (by simp [S8.l])
              simp only [S8.l, List.getElem_cons_zero, List.getElem_cons_succ] at v0 v1 v2 v3 v4 v5 v6 v7
              change W32 ra at ha
              change W32 re at he
              obtain ⟨haa, hab⟩ := ha
              obtain ⟨hea, heb⟩ := he
              have hk64 : (k : Int) < 64 := by omega
              go_wp2
              go_quiet (fail)
              go_wp2
              go_quiet ((go_at_call 202; exact quiet_add_left (impl_turn _ _ _ (by decide) hea heb)))
              go_wp2
              go_quiet ((go_at_call 202; exact quiet_add_left (impl_turn _ _ _ (by decide) haa hab)))
              have hfz := fun o => AV.frozen o
              go_wp2
              go_roundw
              case rel =>
                first | refine ⟨k + 1, by omega, by go_num, Arr.setO8 (A2.drewN _) (by omega) _ _ _ _ _ _ _ _, Arr.setO8 (A4.drewN _) (by omega) _ _ _ _ _ _ _ _, Arr.setO8 (A5.drewN _) (by omega) _ _ _ _ _ _ _ _, ?_, Below.set8 (Below.drewN hB _) (by omega) _ _ _ _ _ _ _ _⟩ | ((repeat apply Exists.intro); refine ⟨⟨k + 1, by omega, by go_num, Arr.setO8 (A2.drewN _) (by omega) _ _ _ _ _ _ _ _, Arr.setO8 (A4.drewN _) (by omega) _ _ _ _ _ _ _ _, Arr.setO8 (A5.drewN _) (by omega) _ _ _ _ _ _ _ _, ?_, Below.set8 (Below.drewN hB _) (by omega) _ _ _ _ _ _ _ _⟩, rfl⟩)
                rw [HR.out]
                simp only [rnd, tmpT, tmpU, up0, up1, chs, maj, xr, an, ← max32]
                exact Arr.set8 (AV.drewN _) _ _ _ _ _ _ _ _
              case measure => simp [intOf]; omega
            · have hke : k = 64 := by omega
              subst hke
              clear hlt hk
              obtain ⟨r, hr⟩ : ∃ r, rounds s (sch blk 64) 64 = r := ⟨_, rfl⟩
              have HC : Hid (comp s blk = adds s r) := Lib.hid (by unfold comp; rw [hr])
              rw [hr] at AV
              clear hr
              have hsz3 := hB.size
              go_wp2
              have B2 : Arr wr w.heap.size 218 (addk s r 0) := A2
              clear A2
              go_loopw [185] (fun i wr => ∃ k : Nat, k ≤ 8 ∧ i = .int .i64 k ∧ Arr wr w.heap.size 218 (addk s r k) ∧ Arr wr (w.heap.size + 1) 218 (List.replicate 8 0) ∧ Arr wr V 218 r.l ∧ Below w.heap.size w wr) (fun i _ => 8 - (intOf i).toNat)
              case atStart => exact ⟨0, by omega, rfl, B2, A4, AV, hB⟩
              case round =>
                clear B2 A4 A5 AV hB hsz3
                obtain ⟨k, hk, rfl, A2, A4, AV, hB⟩ := hrel
                by_cases hlt : k < 8
                · have c0 : wr.cell? ⟨w.heap.size, k, none⟩ = some (.int .u32 (s.l.getD k 0)) := by rw [← addk_get hlt]; exact A2.at_ (by rw [addk_len]; exact hlt)
                  have c1 : wr.cell? ⟨V, k, none⟩ = some (.int .u32 (r.l.getD k 0)) := AV.at_ hlt
                  have f0 := A2.frozen k
                  have hs8 := Lib.hid (addk_set (s := s) (r := r) hlt)
                  obtain ⟨x, hx⟩ : ∃ x, s.l.getD k 0 = x := ⟨_, rfl⟩
                  obtain ⟨y, hy⟩ : ∃ y, r.l.getD k 0 = y := ⟨_, rfl⟩
                  rw [hx] at c0 hs8
                  rw [hy] at c1 hs8
                  clear hx hy
                  have hk8 : (k : Int) < 8 := by omega
                  go_wp2
                  refine still_tail 7 (by kernel_rfl) (by kernel_rfl) ?_
                  simp only [List.take_succ_cons, List.take_zero, List.drop_succ_cons, List.drop_zero]
                  repeat still_step
                  refine wpStill_nil ?_
                  go_wp2
                  go_roundw
                  case rel =>
                    first | refine ⟨k + 1, by omega, by go_num, ?_, A4.setO (show w.heap.size + 1 ≠ w.heap.size by omega) _, AV.setO (show V ≠ w.heap.size by omega) _, (hB.drew.setCell (Nat.le_refl _) _)⟩ | ((repeat apply Exists.intro); refine ⟨⟨k + 1, by omega, by go_num, ?_, A4.setO (show w.heap.size + 1 ≠ w.heap.size by omega) _, AV.setO (show V ≠ w.heap.size by omega) _, (hB.drew.setCell (Nat.le_refl _) _)⟩, rfl⟩)
                    rw [← hs8.out]
                    exact A2.set k _
                  case measure => simp [intOf]; omega
                · have hke : k = 8 := by omega
                  subst hke
                  clear hlt hk
                  rw [addk_all] at A2
                  rw [← HC.out] at A2
                  obtain ⟨⟨qa, qb, qc, qd, qe, qf, qg, qh⟩, hq⟩ : ∃ q, comp s blk = q := ⟨_, rfl⟩
                  rw [hq] at A2
                  have HQ := Lib.hid hq
                  clear hq
                  have z0 := A4.cell (i := 0) (by simp)
                  have z1 := A4.cell (i := 1) (by simp)
                  have z2 := A4.cell (i := 2) (by simp)
                  have z3 := A4.cell (i := 3) (by simp)
                  have z4 := A4.cell (i := 4) (by simp)
                  have z5 := A4.cell (i := 5) (by simp)
                  have z6 := A4.cell (i := 6) (by simp)
                  have z7 := A4.cell (i := 7) (by simp)
                  simp only [List.getElem_replicate] at z0 z1 z2 z3 z4 z5 z6 z7
                  have hfz := fun o => A4.frozen o
                  go_wp2_with (refine wpList_load_row rfl 218 _ rfl w.heap.size rfl 218 #[.int .u32 qa, .int .u32 qb, .int .u32 qc, .int .u32 qd, .int .u32 qe, .int .u32 qf, .int .u32 qg, .int .u32 qh] (0, 0) _ A2 Tryz.underlying218 rfl (by kernel_rfl) ?_)
                  refine bodyPost_ret (v := .agg #[.int .u32 qa, .int .u32 qb, .int .u32 qc, .int .u32 qd, .int .u32 qe, .int .u32 qf, .int .u32 qg, .int .u32 qh]) ?_ rfl ⟨by rw [HQ.out]; rfl, Below.set8 hB (by omega) _ _ _ _ _ _ _ _⟩
                  exact results_cell_row rfl _ _ (w.heap.size + 1) 218 _ (0, 0) _ rfl (Arr.set8 A4 qa qb qc qd qe qf qg qh) Tryz.underlying218 rfl (by kernel_rfl)
end Go.Proofs.YtgllafgpmenjjaaGreatDoor

set_option linter.unusedVariables false
set_option linter.unusedSimpArgs false
namespace Go.Proofs.YtgllafgpmenjjaaGreatDoor
open Go.RowKit Lay Mk
set_option maxRecDepth 100000 in set_option maxHeartbeats 8000000 in
theorem spec_l03Block (w : World) (s : S8) (hs : s.Ok) (blk : ByteArray) (hb : blk.size = 64)  : Calls Tryz.prog 177 #[.agg (arr s.l), .string blk, .agg (arr shaKeys)] w fun e w' => e = .returned (.agg (arr (comp s blk).l)) ∧ Below w.heap.size w w' := by
  have hbl : 64 ≤ blk.size := by omega
  have HB := Lib.hid hb; clear hb
  obtain ⟨hs0, hs1, hs2, hs3, hs4, hs5, hs6, hs7⟩ := hs
  rw [S8.arr]
  obtain ⟨KS, hKS⟩ : ∃ K, arr shaKeys = K := ⟨_, rfl⟩
  rw [hKS]
  replace hKS := Lib.hid hKS
  go_enter Tryz.func177, Tryz.ntmps177
  go_wp2_with (first | (refine wpList_box rfl _ _ rfl rfl ?_) | (refine wpList_storeNew (cs := arr (List.replicate 64 0)) rfl 220 _ _ rfl rfl rfl (by simp) (by kernel_rfl) rfl (arr_one _) ?_))
  generalize hW : (((w.alloc (.cells #[_, _, _, _, _, _, _, _] _)).alloc (.cells KS _)).alloc (.cells #[_, _, _, _, _, _, _, _] _)).alloc _ = W
  have hWs : W.heap.size = w.heap.size + 1 + 1 + 1 + 1 := by rw [← hW]; simp
  have A2 : Arr W w.heap.size 218 s.l := by
    rw [← hW]
    exact Arr.alloc (Arr.alloc (Arr.alloc (arr_new (l := s.l) rfl rfl) _) _) _
  have AK : Arr W (w.heap.size + 1) 220 shaKeys := by
    rw [← hW]
    exact Arr.alloc (Arr.alloc (arr_new (l := shaKeys) (World.size_alloc _ _).symm hKS.out.symm) _) _
  have A4 : Arr W (w.heap.size + 1 + 1) 218 (List.replicate 8 0) := by
    rw [← hW]
    exact Arr.alloc (arr_new (l := List.replicate 8 0) (by rw [World.size_alloc, World.size_alloc]) rfl) _
  have A5 : Arr W (w.heap.size + 1 + 1 + 1) 220 (padz (sch blk 0) 64) := by
    rw [← hW]
    exact arr_new (l := padz (sch blk 0) 64) (by rw [World.size_alloc, World.size_alloc, World.size_alloc]) rfl
  have hWB : Below w.heap.size w W := by
    rw [← hW]
    exact ((((Below.refl _ _).alloc (Nat.le_refl _) _).alloc (by simp) _).alloc (by simp; omega) _).alloc (by simp; omega) _
  have hWs2 : w.heap.size + 1 + 1 + 1 + 1 ≤ W.heap.size := by omega
  clear hW hWs
  go_loopw [8] (fun i wr => ∃ k : Nat, k ≤ 16 ∧ i = .int .i64 k ∧ Arr wr w.heap.size 218 s.l ∧ Arr wr (w.heap.size + 1) 220 shaKeys ∧ Arr wr (w.heap.size + 1 + 1) 218 (List.replicate 8 0) ∧ Arr wr (w.heap.size + 1 + 1 + 1) 220 (padz (sch blk k) 64) ∧ Below w.heap.size w wr) (fun i _ => 16 - (intOf i).toNat)
  case atStart => exact ⟨0, by omega, rfl, A2, AK, A4, A5, hWB⟩
  case round =>
    clear A2 AK A4 A5 hWB
    obtain ⟨k, hk, rfl, A2, AK, A4, A5, hB⟩ := hrel
    by_cases hlt : k < 16
    · have e0 : IntKind.i64.wrap (4 * (k : Int)) = 4 * (k : Int) := IntWalk.i64_in _ (by omega)
      have e1 : IntKind.i64.wrap (4 * (k : Int) + 1) = 4 * (k : Int) + 1 := IntWalk.i64_in _ (by omega)
      have e2 : IntKind.i64.wrap (4 * (k : Int) + 2) = 4 * (k : Int) + 2 := IntWalk.i64_in _ (by omega)
      have e3 : IntKind.i64.wrap (4 * (k : Int) + 3) = 4 * (k : Int) + 3 := IntWalk.i64_in _ (by omega)
      have n0 : (4 * (k : Int)).toNat = 4 * k := by omega
      have n1 : (4 * (k : Int) + 1).toNat = 4 * k + 1 := by omega
      have n2 : (4 * (k : Int) + 2).toNat = 4 * k + 2 := by omega
      have n3 : (4 * (k : Int) + 3).toNat = 4 * k + 3 := by omega
      have l0 : 4 * (k : Int) < blk.size := by omega
      have l1 : 4 * (k : Int) + 1 < blk.size := by omega
      have l2 : 4 * (k : Int) + 2 < blk.size := by omega
      have l3 : 4 * (k : Int) + 3 < blk.size := by omega
      have m0 : 0 ≤ 4 * (k : Int) := by omega
      have m1 : 0 ≤ 4 * (k : Int) + 1 := by omega
      have m2 : 0 ≤ 4 * (k : Int) + 2 := by omega
      have m3 : 0 ≤ 4 * (k : Int) + 3 := by omega
      go_wp2
      refine still_tail 30 (by kernel_rfl) (by kernel_rfl) ?_
      simp only [List.take_succ_cons, List.take_zero, List.drop_succ_cons, List.drop_zero]
      repeat still_step
      refine wpStill_nil ?_
      clear e0 e1 e2 e3
      have hc := A5.cell (i := k) (by rw [padz_len (by rw [sch_len]; omega)]; omega)
      have hf := A5.frozen k
      have hl : k < 64 := by omega
      go_wp2
      go_roundw
      case rel =>
        refine ⟨k + 1, by omega, by go_num, ((A2.setO (show w.heap.size ≠ w.heap.size + 1 + 1 + 1 by omega) _).drew), ((AK.setO (show w.heap.size + 1 ≠ w.heap.size + 1 + 1 + 1 by omega) _).drew), ((A4.setO (show w.heap.size + 1 + 1 ≠ w.heap.size + 1 + 1 + 1 by omega) _).drew), ?_, ?_⟩
        · rw [sch_low blk hlt, ← sch_put blk hl, ← word_at (by omega)]
          exact (A5.set k _).drew
        · exact (hB.setCell (show w.heap.size ≤ w.heap.size + 1 + 1 + 1 by omega) _).drew
      case measure => simp [intOf]; omega
    · have hke : k = 16 := by omega
      subst hke
      clear hlt hk
      go_wp2
      go_loopw [9] (fun i wr => ∃ k : Nat, 16 ≤ k ∧ k ≤ 64 ∧ i = .int .i64 k ∧ Arr wr w.heap.size 218 s.l ∧ Arr wr (w.heap.size + 1) 220 shaKeys ∧ Arr wr (w.heap.size + 1 + 1) 218 (List.replicate 8 0) ∧ Arr wr (w.heap.size + 1 + 1 + 1) 220 (padz (sch blk k) 64) ∧ Below w.heap.size w wr) (fun i _ => 64 - (intOf i).toNat)
      case atStart => exact ⟨16, by omega, by omega, rfl, A2, AK, A4, A5, hB⟩
      case round =>
        clear A2 AK A4 A5 hB
        obtain ⟨k, hk0, hk, rfl, A2, AK, A4, A5, hB⟩ := hrel
        by_cases hlt : k < 64
        · obtain ⟨x16, X16, hx16, c16⟩ := A5.word (i := k - 16) (by omega) (by omega)
          obtain ⟨x15, X15, hx15, c15⟩ := A5.word (i := k - 15) (by omega) (by omega)
          obtain ⟨x7, X7, hx7, c7⟩ := A5.word (i := k - 7) (by omega) (by omega)
          obtain ⟨x2, X2, hx2, c2⟩ := A5.word (i := k - 2) (by omega) (by omega)
          have HS : Hid (sch blk (k + 1) = sch blk k ++ [wsum x16 (sg0 x15) x7 (sg1 x2)]) := Lib.hid (by rw [sch_high blk (by omega)]; simp only [wnext, X16, X15, X7, X2])
          clear X16 X15 X7 X2
          have e16 : IntKind.i64.wrap ((k : Int) - 16) = (k : Int) - 16 := IntWalk.i64_in _ (by omega)
          have e15 : IntKind.i64.wrap ((k : Int) - 15) = (k : Int) - 15 := IntWalk.i64_in _ (by omega)
          have e7 : IntKind.i64.wrap ((k : Int) - 7) = (k : Int) - 7 := IntWalk.i64_in _ (by omega)
          have e2 : IntKind.i64.wrap ((k : Int) - 2) = (k : Int) - 2 := IntWalk.i64_in _ (by omega)
          have n16 : ((k : Int) - 16).toNat = k - 16 := by omega
          have n15 : ((k : Int) - 15).toNat = k - 15 := by omega
          have n7 : ((k : Int) - 7).toNat = k - 7 := by omega
          have n2 : ((k : Int) - 2).toNat = k - 2 := by omega
          have m16 : 0 ≤ (k : Int) - 16 := by omega
          have m15 : 0 ≤ (k : Int) - 15 := by omega
          have m7 : 0 ≤ (k : Int) - 7 := by omega
          have m2 : 0 ≤ (k : Int) - 2 := by omega
          have p16 : (16 : Int) ≤ k := by omega
          have p15 : (15 : Int) ≤ k := by omega
          have p7 : (7 : Int) ≤ k := by omega
          have p2 : (2 : Int) ≤ k := by omega
          have l16 : (k : Int) - 16 < 64 := by omega
          have l15 : (k : Int) - 15 < 64 := by omega
          have l7 : (k : Int) - 7 < 64 := by omega
          have l2 : (k : Int) - 2 < 64 := by omega
          obtain ⟨hx15a, hx15b⟩ := hx15
          obtain ⟨hx2a, hx2b⟩ := hx2
          go_wp2
          go_quiet ((go_at_call 199; exact quiet_w (spec_turn _ _ _ (by decide) hx15a hx15b)))
          go_wp2
          go_quiet ((go_at_call 199; exact quiet_add_left (spec_turn _ _ _ (by decide) hx2a hx2b)))
          go_wp2
          refine still_tail 14 (by kernel_rfl) (by kernel_rfl) ?_
          simp only [List.take_succ_cons, List.take_zero, List.drop_succ_cons, List.drop_zero]
          repeat still_step
          refine wpStill_nil ?_
          have hc := A5.cell (i := k) (by rw [padz_len (by rw [sch_len]; omega)]; omega)
          have hf := A5.frozen k
          clear e16 e15 e7 e2 c16 c15 c7 c2 n16 n15 n7 n2 m16 m15 m7 m2 l16 l15 l7 l2 p16 p15 p7 p2
          go_wp2
          go_roundw
          case rel =>
            (repeat apply Exists.intro)
            refine ⟨⟨k + 1, by omega, by omega, by go_num, A2.setO (show w.heap.size ≠ w.heap.size + 1 + 1 + 1 by omega) _, AK.setO (show w.heap.size + 1 ≠ w.heap.size + 1 + 1 + 1 by omega) _, A4.setO (show w.heap.size + 1 + 1 ≠ w.heap.size + 1 + 1 + 1 by omega) _, ?_, ?_⟩, rfl⟩
            · rw [HS.out, ← sch_put blk hlt]
              simp only [wsum, sg0, sg1, xr]
              exact A5.set k _
            · exact ((Below.drewN hB _).setCell (show w.heap.size ≤ w.heap.size + 1 + 1 + 1 by omega) _)
          case measure => simp [intOf]; omega
        · have hke : k = 64 := by omega
          subst hke
          clear hlt hk hk0
          rw [show padz (sch blk 64) 64 = sch blk 64 from by unfold padz; rw [sch_len]; simp] at A5
          have hsz2 := hB.size
          have A5lt := A5.lt
          go_wp2_with (refine wpList_load_row rfl 218 _ rfl w.heap.size rfl 218 #[.int .u32 s.a, .int .u32 s.b, .int .u32 s.c, .int .u32 s.d, .int .u32 s.e, .int .u32 s.f, .int .u32 s.g, .int .u32 s.h] (0, 0) _ A2 Tryz.underlying218 rfl (by kernel_rfl) ?_)
          obtain ⟨V, hV⟩ : ∃ V, wr.heap.size = V := ⟨_, rfl⟩
          have AV : Arr (wr.alloc (.cells #[.int .u32 s.a, .int .u32 s.b, .int .u32 s.c, .int .u32 s.d, .int .u32 s.e, .int .u32 s.f, .int .u32 s.g, .int .u32 s.h] 218)) V 218 (rounds s (sch blk 64) 0).l := arr_new hV.symm rfl
          replace A2 := A2.alloc (.cells #[.int .u32 s.a, .int .u32 s.b, .int .u32 s.c, .int .u32 s.d, .int .u32 s.e, .int .u32 s.f, .int .u32 s.g, .int .u32 s.h] 218)
          replace AK := AK.alloc (.cells #[.int .u32 s.a, .int .u32 s.b, .int .u32 s.c, .int .u32 s.d, .int .u32 s.e, .int .u32 s.f, .int .u32 s.g, .int .u32 s.h] 218)
          replace A4 := A4.alloc (.cells #[.int .u32 s.a, .int .u32 s.b, .int .u32 s.c, .int .u32 s.d, .int .u32 s.e, .int .u32 s.f, .int .u32 s.g, .int .u32 s.h] 218)
          replace A5 := A5.alloc (.cells #[.int .u32 s.a, .int .u32 s.b, .int .u32 s.c, .int .u32 s.d, .int .u32 s.e, .int .u32 s.f, .int .u32 s.g, .int .u32 s.h] 218)
          replace hB := hB.alloc hsz2 (.cells #[.int .u32 s.a, .int .u32 s.b, .int .u32 s.c, .int .u32 s.d, .int .u32 s.e, .int .u32 s.f, .int .u32 s.g, .int .u32 s.h] 218)
          have hV3 : w.heap.size + 1 + 1 + 1 < V := by rw [← hV]; exact A5lt
          rw [hV]
          replace hV := Lib.hid hV
          generalize wr.alloc _ = W2 at A2 AK A4 A5 hB AV ⊢
          go_loopw [13] (fun i wr => ∃ k : Nat, k ≤ 64 ∧ i = .int .i64 k ∧ Arr wr w.heap.size 218 s.l ∧ Arr wr (w.heap.size + 1) 220 shaKeys ∧ Arr wr (w.heap.size + 1 + 1) 218 (List.replicate 8 0) ∧ Arr wr (w.heap.size + 1 + 1 + 1) 220 (sch blk 64) ∧ Arr wr V 218 (rounds s (sch blk 64) k).l ∧ Below w.heap.size w wr) (fun i _ => 64 - (intOf i).toNat)
          case atStart => exact ⟨0, by omega, rfl, A2, AK, A4, A5, AV, hB⟩
          case round =>
            clear A2 AK A4 A5 hB AV
            obtain ⟨k, hk, rfl, A2, AK, A4, A5, AV, hB⟩ := hrel
            by_cases hlt : k < 64
            · obtain ⟨hw, hwx, hww, cw⟩ : ∃ x, (sch blk 64).getD k 0 = x ∧ W32 x ∧ wr.cell? ⟨w.heap.size + 1 + 1 + 1, k, none⟩ = some (.int .u32 x) := ⟨_, rfl, sch_w blk hlt, A5.at_ (by rw [sch_len]; exact hlt)⟩
              obtain ⟨kk, hkk, hkw, ck⟩ : ∃ x, shaKeys.getD k 0 = x ∧ W32 x ∧ wr.cell? ⟨w.heap.size + 1, k, none⟩ = some (.int .u32 x) := ⟨_, rfl, keys_lt k hlt, AK.at_ hlt⟩
              have HR : Hid (rounds s (sch blk 64) (k + 1) = rnd (rounds s (sch blk 64) k) kk hw) := Lib.hid (by simp only [rounds, hwx, hkk])
              clear hwx hkk
              have hro := rounds_ok ⟨hs0, hs1, hs2, hs3, hs4, hs5, hs6, hs7⟩ (sch blk 64) k
              obtain ⟨r, hr⟩ : ∃ r, rounds s (sch blk 64) k = r := ⟨_, rfl⟩
              rw [hr] at AV HR hro
              clear hr
              obtain ⟨ra, rb, rc, rd_, re, rf, rg, rh⟩ := r
              obtain ⟨ha, hb_, hc_, hd, he, hf_, hg, hh⟩ := hro
              have v0 := AV.cell (i := 0) (by simp [S8.l])
              have v1 := AV.cell (i := 1) (by simp [S8.l])
              have v2 := AV.cell (i := 2) (by simp [S8.l])
              have v3 := AV.cell (i := 3) (by simp [S8.l])
              have v4 := AV.cell (i := 4) (by simp [S8.l])
              have v5 := AV.cell (i := 5) (by simp [S8.l])
              have v6 := AV.cell (i := 6) (by simp [S8.l])
              have v7 := AV.cell (i := 7) (by simp [S8.l])
              simp only [S8.l, List.getElem_cons_zero, List.getElem_cons_succ] at v0 v1 v2 v3 v4 v5 v6 v7
              change W32 ra at ha
              change W32 re at he
              obtain ⟨haa, hab⟩ := ha
              obtain ⟨hea, heb⟩ := he
              have hk64 : (k : Int) < 64 := by omega
              have hfz := fun o => AV.frozen o
              go_wp2
              go_quiet ((go_at_call 199; exact quiet_w (spec_turn _ _ _ (by decide) hea heb)))
              go_wp2
              go_quiet (fail)
              go_wp2
              go_quiet ((go_at_call 199; exact quiet_add_left (spec_turn _ _ _ (by decide) haa hab)))
              go_wp2
              go_roundw
              case rel =>
                first | refine ⟨k + 1, by omega, by go_num, Arr.setO8r (A2.drewN _) (by omega) _ _ _ _ _ _ _ _, Arr.setO8r (AK.drewN _) (by omega) _ _ _ _ _ _ _ _, Arr.setO8r (A4.drewN _) (by omega) _ _ _ _ _ _ _ _, Arr.setO8r (A5.drewN _) (by omega) _ _ _ _ _ _ _ _, ?_, Below.set8r (Below.drewN hB _) (by omega) _ _ _ _ _ _ _ _⟩ | ((repeat apply Exists.intro); refine ⟨⟨k + 1, by omega, by go_num, Arr.setO8r (A2.drewN _) (by omega) _ _ _ _ _ _ _ _, Arr.setO8r (AK.drewN _) (by omega) _ _ _ _ _ _ _ _, Arr.setO8r (A4.drewN _) (by omega) _ _ _ _ _ _ _ _, Arr.setO8r (A5.drewN _) (by omega) _ _ _ _ _ _ _ _, ?_, Below.set8r (Below.drewN hB _) (by omega) _ _ _ _ _ _ _ _⟩, rfl⟩)
                rw [HR.out]
                simp only [rnd, tmpT, tmpU, up0, up1, chs, maj, xr, an]
                exact Arr.set8r (AV.drewN _) _ _ _ _ _ _ _ _
              case measure => simp [intOf]; omega
            · have hke : k = 64 := by omega
              subst hke
              clear hlt hk
              obtain ⟨r, hr⟩ : ∃ r, rounds s (sch blk 64) 64 = r := ⟨_, rfl⟩
              have HC : Hid (comp s blk = adds s r) := Lib.hid (by unfold comp; rw [hr])
              rw [hr] at AV
              clear hr
              have hsz3 := hB.size
              go_wp2
              have B2 : Arr wr w.heap.size 218 (addk s r 0) := A2
              clear A2
              go_loopw [20] (fun i wr => ∃ k : Nat, k ≤ 8 ∧ i = .int .i64 k ∧ Arr wr w.heap.size 218 (addk s r k) ∧ Arr wr (w.heap.size + 1 + 1) 218 (List.replicate 8 0) ∧ Arr wr V 218 r.l ∧ Below w.heap.size w wr) (fun i _ => 8 - (intOf i).toNat)
              case atStart => exact ⟨0, by omega, rfl, B2, A4, AV, hB⟩
              case round =>
                clear B2 A4 A5 AV hB hsz3
                obtain ⟨k, hk, rfl, A2, A4, AV, hB⟩ := hrel
                by_cases hlt : k < 8
                · have c0 : wr.cell? ⟨w.heap.size, k, none⟩ = some (.int .u32 (s.l.getD k 0)) := by rw [← addk_get hlt]; exact A2.at_ (by rw [addk_len]; exact hlt)
                  have c1 : wr.cell? ⟨V, k, none⟩ = some (.int .u32 (r.l.getD k 0)) := AV.at_ hlt
                  have f0 := A2.frozen k
                  have hs8 := Lib.hid (addk_set (s := s) (r := r) hlt)
                  obtain ⟨x, hx⟩ : ∃ x, s.l.getD k 0 = x := ⟨_, rfl⟩
                  obtain ⟨y, hy⟩ : ∃ y, r.l.getD k 0 = y := ⟨_, rfl⟩
                  rw [hx] at c0 hs8
                  rw [hy] at c1 hs8
                  clear hx hy
                  have hk8 : (k : Int) < 8 := by omega
                  go_wp2
                  refine still_tail 8 (by kernel_rfl) (by kernel_rfl) ?_
                  simp only [List.take_succ_cons, List.take_zero, List.drop_succ_cons, List.drop_zero]
                  repeat still_step
                  refine wpStill_nil ?_
                  go_wp2
                  go_roundw
                  case rel =>
                    first | refine ⟨k + 1, by omega, by go_num, ?_, A4.setO (show w.heap.size + 1 + 1 ≠ w.heap.size by omega) _, AV.setO (show V ≠ w.heap.size by omega) _, (hB.drew.setCell (Nat.le_refl _) _)⟩ | ((repeat apply Exists.intro); refine ⟨⟨k + 1, by omega, by go_num, ?_, A4.setO (show w.heap.size + 1 + 1 ≠ w.heap.size by omega) _, AV.setO (show V ≠ w.heap.size by omega) _, (hB.drew.setCell (Nat.le_refl _) _)⟩, rfl⟩)
                    rw [← hs8.out]
                    exact A2.set k _
                  case measure => simp [intOf]; omega
                · have hke : k = 8 := by omega
                  subst hke
                  clear hlt hk
                  rw [addk_all] at A2
                  rw [← HC.out] at A2
                  obtain ⟨⟨qa, qb, qc, qd, qe, qf, qg, qh⟩, hq⟩ : ∃ q, comp s blk = q := ⟨_, rfl⟩
                  rw [hq] at A2
                  have HQ := Lib.hid hq
                  clear hq
                  have z0 := A4.cell (i := 0) (by simp)
                  have z1 := A4.cell (i := 1) (by simp)
                  have z2 := A4.cell (i := 2) (by simp)
                  have z3 := A4.cell (i := 3) (by simp)
                  have z4 := A4.cell (i := 4) (by simp)
                  have z5 := A4.cell (i := 5) (by simp)
                  have z6 := A4.cell (i := 6) (by simp)
                  have z7 := A4.cell (i := 7) (by simp)
                  simp only [List.getElem_replicate] at z0 z1 z2 z3 z4 z5 z6 z7
                  have hfz := fun o => A4.frozen o
                  go_wp2_with (refine wpList_load_row rfl 218 _ rfl w.heap.size rfl 218 #[.int .u32 qa, .int .u32 qb, .int .u32 qc, .int .u32 qd, .int .u32 qe, .int .u32 qf, .int .u32 qg, .int .u32 qh] (0, 0) _ A2 Tryz.underlying218 rfl (by kernel_rfl) ?_)
                  refine bodyPost_ret (v := .agg #[.int .u32 qa, .int .u32 qb, .int .u32 qc, .int .u32 qd, .int .u32 qe, .int .u32 qf, .int .u32 qg, .int .u32 qh]) ?_ rfl ⟨by rw [HQ.out]; rfl, Below.set8 hB (by omega) _ _ _ _ _ _ _ _⟩
                  exact results_cell_row rfl _ _ (w.heap.size + 1 + 1) 218 _ (0, 0) _ rfl (Arr.set8 A4 qa qb qc qd qe qf qg qh) Tryz.underlying218 rfl (by kernel_rfl)
end Go.Proofs.YtgllafgpmenjjaaGreatDoor

set_option linter.unusedVariables false
set_option linter.unusedSimpArgs false
namespace Go.Proofs.YtgllafgpmenjjaaGreatDoor
open Go.RowKit Lay Mk
theorem Cur.keep {w w' : World} {g : Nat} {xs : List UInt8} {A : Option Addr} {cap : Nat} (h : Cur w g xs A cap) (e : w'.heap[g]? = w.heap[g]?) : Cur w' g xs A cap := by
  obtain ⟨i, z, h1, h2⟩ := h
  exact ⟨i, z, h1, e.trans h2⟩
end Go.Proofs.YtgllafgpmenjjaaGreatDoor

set_option linter.unusedVariables false
set_option linter.unusedSimpArgs false
namespace Go.Proofs.YtgllafgpmenjjaaGreatDoor
open Go.RowKit Lay Mk
theorem og_ge {g n b B : Nat} (h : og g n b) (h1 : B ≤ g) (h2 : B ≤ n) : B ≤ b := by unfold og at h; omega
theorem og_row {α : Type} [Lay α] {w : World} {A : Option Addr} {cap : Nat} {xs : List α} {g n B : Nat} (h : Row true w A cap xs (og g n)) (h1 : B ≤ g) (h2 : B ≤ n) : Row true w A cap xs (rng B w.heap.size) := h.tight.mono (fun _ x => ⟨og_ge x.1 h1 h2, x.2⟩)
set_option maxRecDepth 20000 in set_option maxHeartbeats 16000000 in
theorem spec_LeafPut (w : World) (xs : List Leaf) (A0 : Option Addr) (cap0 : Nat) (S : Blks) (hx : Row false w A0 cap0 xs S) (hl : xs.length ≤ 100000000) (nm : ByteArray) (hn : nm.size ≤ maxLen) (v : ByteArray) (hv : v.size ≤ maxLen) : Calls Tryz.prog 76 #[.slice A0 xs.length cap0, .string nm, .string v] w fun e w' => ∃ A' cap', e = .returned (.tuple #[.slice A' (leafPut xs nm v).1.length cap', .bool (leafPut xs nm v).2]) ∧ (leafPut xs nm v).1.length ≤ cap' ∧ cap' ≤ maxLen ∧ Row true w' A' cap' (leafPut xs nm v).1 (rng w.heap.size w'.heap.size) ∧ Below w.heap.size w w' := by
  have hWo := fun W h => spec_l09Without W xs A0 cap0 S h (by omega) nm hn
  have HP : Hid (putSpec xs nm v = (leafWithout xs nm).filter (ltB nm) ++ [⟨nm, v⟩] ++ (leafWithout xs nm).filter (gtB nm)) := Lib.hid rfl
  have hrl : (leafWithout xs nm).length ≤ xs.length := List.length_filter_le _ _
  obtain ⟨rest, hrest⟩ : ∃ r, leafWithout xs nm = r := ⟨_, rfl⟩
  rw [hrest] at HP hrl
  simp only [hrest] at hWo
  clear hrest
  have hokn : Flat.ok (⟨nm, v⟩ : Leaf) := (⟨hn, hv⟩ : nm.size ≤ maxLen ∧ v.size ≤ maxLen)
  go_enter Tryz.func76, Tryz.ntmps76
  go_wp2_with (fail)
  refine (hWo _ (Row.later hx ((Below.refl _ _).alloc (Nat.le_refl _) _))).mono ?_
  rintro e1 w1 ⟨Ar, cr, rfl, hr1, hr2, hrr, hb1⟩
  clear hWo
  have hB1 : Below w.heap.size w w1 := Below.via hb1
  have hz1 : w.heap.size + 1 ≤ w1.heap.size := by have := hb1.size; simp at this; omega
  replace hrr := hrr.mono (S' := rng (w.heap.size + 1) w1.heap.size) (fun b h => by unfold rng at h ⊢; simp at h; omega)
  have hR0 : Hid (Row (α := Leaf) true w1 (some ⟨w.heap.size, 0, none⟩) 0 [] (og w.heap.size w1.heap.size)) := Lib.hid (Row.later (row_lit0 w 180 _ rfl (.inl rfl)) hb1)
  clear hb1
  go_wp2
  go_loopw [8, 10] (fun u i wr => ∃ (k : Nat) (ys : List Leaf) (A : Option Addr) (cap : Nat), k ≤ rest.length ∧ i = .int .i64 k ∧ u = .slice A ys.length cap ∧ Hid (ys = [] ++ foldT (gath (ltB nm) id) [] rest k) ∧ ys.length ≤ 0 + k ∧ ys.length ≤ cap ∧ cap ≤ maxLen ∧ Row true wr A cap ys (og w.heap.size w1.heap.size) ∧ Chg (og w.heap.size w1.heap.size) w1 wr) (fun _ i _ => rest.length - (intOf i).toNat)
  case atStart => exact ⟨0, [], _, _, Nat.zero_le _, rfl, rfl, Lib.hid (by simp [foldT]), by simp, by simp, by decide, hR0.out, Chg.refl _ _⟩
  case round =>
    obtain ⟨k, ys, A, cap, hk, rfl, rfl, hys, hyk, hle, hcm2, hrow, hch⟩ := hrel
    have hz := hch.size
    by_cases hlt : k < rest.length
    · obtain ⟨b1, o1, e1, hl1, hS1, c0, c1, t0, t1⟩ := Row.inLeaf hrr hlt
      subst e1
      have hnO : ¬ (og w.heap.size w1.heap.size) b1 := (fun h => by unfold og at h; unfold rng at hS1; omega)
      replace c0 := (hch.cell (o := o1 + k * 2) hl1 hnO).trans c0
      replace c1 := (hch.cell (o := o1 + k * 2 + 1) hl1 hnO).trans c1
      have hl2 : b1 < wr.heap.size := Nat.lt_of_lt_of_le hl1 hz
      have hN := Lib.hid (gathT_no (p := (ltB nm)) (g := id) hlt)
      have hY := Lib.hid (gathT_yes (p := (ltB nm)) (g := id) hlt)
      obtain ⟨x, hxx⟩ : ∃ x, rest[k] = x := ⟨_, rfl⟩
      rw [hxx] at c0 c1 t0 t1 hN hY
      clear hxx
      have hok : Flat.ok x := (⟨t0, t1⟩ : x.name.size ≤ maxLen ∧ x.value.size ≤ maxLen)
      have hz2 : w1.heap.size ≤ (wr.alloc (.cells #[.string x.name, .string x.value] 180)).heap.size := by simp; omega
      by_cases hc : (ltB nm) x = true
      · have HY := Lib.hid (hY.out hc)
        have hd : Op.bytesLess x.name.toList nm.toList = true := hc
        clear hc
        go_wp2_with (at_builtin; refine wpList_app (α := Leaf) rfl _ _ rfl rfl rfl (hrow.allocC _) hle hcm2 rfl rfl (src_newb _ x hok _ _ _ (by first | rfl | simp) rfl) (disj_none_ _) (by omega) ?_; intro A' cap' w' h1 h2 h3 h4)
        go_roundw
        case rel => exact ⟨k + 1, ys ++ [x], A', cap', by omega, by go_num, by simp, Lib.hid (by rw [HY.out, hys.out]; simp), by have := hyk; simp only [List.length_append, List.length_cons, List.length_nil] at this ⊢; omega, by simpa using h1, h2, row_og h3 (fun b hb => (show ∀ q, w1.heap.size ≤ q → og w.heap.size w1.heap.size q from fun _ h => Or.inr h) b (Nat.le_trans hz2 hb)), (hch.alloc _).trans h4⟩
        case measure => simp [intOf]; omega
      · have hc : (ltB nm) x = false := by simpa using hc
        have HN := Lib.hid (hN.out hc)
        have hd : Op.bytesLess x.name.toList nm.toList = false := hc
        clear hc
        go_wp2
        go_roundw
        case rel => exact ⟨k + 1, ys, A, cap, by omega, by go_num, rfl, Lib.hid (by rw [HN.out, hys.out]), by omega, hle, hcm2, hrow, hch⟩
        case measure => simp [intOf]; omega
    · have hke : k = rest.length := by omega
      subst hke
      have hyy : ys = rest.filter (ltB nm) := by rw [hys.out, foldT_all, gath_fold]; simp
      subst hyy
      go_wp2_with (at_builtin; refine wpList_app (α := Leaf) rfl _ _ rfl rfl rfl (hrow.allocC _) hle hcm2 rfl rfl (src_newb _ (⟨nm, v⟩ : Leaf) hokn _ _ _ (by first | rfl | simp) rfl) (disj_none_ _) (by omega) ?_; intro A2 cap2 w2 h1 h2 h3 h4)
      have hrow2 : Row true w2 A2 cap2 (rest.filter (ltB nm) ++ [⟨nm, v⟩]) (og w.heap.size w1.heap.size) := row_og h3 (fun b hb => .inr (by simp at hb; omega))
      have hch2 : Chg (og w.heap.size w1.heap.size) w1 w2 := (hch.alloc _).trans h4
      clear h3 h4 hrow hch
      have hal : (rest.filter (ltB nm) ++ ([⟨nm, v⟩] : List Leaf)).length ≤ rest.length + 1 := by simp; exact List.length_filter_le _ _
      go_loopw [8, 11] (fun u i wr => ∃ (k : Nat) (ys : List Leaf) (A : Option Addr) (cap : Nat), k ≤ rest.length ∧ i = .int .i64 k ∧ u = .slice A ys.length cap ∧ Hid (ys = (rest.filter (ltB nm) ++ ([⟨nm, v⟩] : List Leaf)) ++ foldT (gath (gtB nm) id) [] rest k) ∧ ys.length ≤ (rest.filter (ltB nm) ++ ([⟨nm, v⟩] : List Leaf)).length + k ∧ ys.length ≤ cap ∧ cap ≤ maxLen ∧ Row true wr A cap ys (og w.heap.size w1.heap.size) ∧ Chg (og w.heap.size w1.heap.size) w1 wr) (fun _ i _ => rest.length - (intOf i).toNat)
      case atStart => exact ⟨0, (rest.filter (ltB nm) ++ ([⟨nm, v⟩] : List Leaf)), A2, cap2, Nat.zero_le _, rfl, by simp, Lib.hid (by simp [foldT]), by simp, by simpa using h1, h2, hrow2, hch2⟩
      case round =>
        obtain ⟨k, ys, A, cap, hk, rfl, rfl, hys, hyk, hle, hcm2, hrow, hch⟩ := hrel
        have hz := hch.size
        by_cases hlt : k < rest.length
        · obtain ⟨b1, o1, e1, hl1, hS1, c0, c1, t0, t1⟩ := Row.inLeaf hrr hlt
          subst e1
          have hnO : ¬ (og w.heap.size w1.heap.size) b1 := (fun h => by unfold og at h; unfold rng at hS1; omega)
          replace c0 := (hch.cell (o := o1 + k * 2) hl1 hnO).trans c0
          replace c1 := (hch.cell (o := o1 + k * 2 + 1) hl1 hnO).trans c1
          have hl2 : b1 < wr.heap.size := Nat.lt_of_lt_of_le hl1 hz
          have hN := Lib.hid (gathT_no (p := (gtB nm)) (g := id) hlt)
          have hY := Lib.hid (gathT_yes (p := (gtB nm)) (g := id) hlt)
          obtain ⟨x, hxx⟩ : ∃ x, rest[k] = x := ⟨_, rfl⟩
          rw [hxx] at c0 c1 t0 t1 hN hY
          clear hxx
          have hok : Flat.ok x := (⟨t0, t1⟩ : x.name.size ≤ maxLen ∧ x.value.size ≤ maxLen)
          have hz2 : w1.heap.size ≤ (wr.alloc (.cells #[.string x.name, .string x.value] 180)).heap.size := by simp; omega
          by_cases hc : (gtB nm) x = true
          · have HY := Lib.hid (hY.out hc)
            have hd := gt_yes hc
            clear hc
            go_wp2_with (at_builtin; refine wpList_app (α := Leaf) rfl _ _ rfl rfl rfl (hrow.allocC _) hle hcm2 rfl rfl (src_newb _ x hok _ _ _ (by first | rfl | simp) rfl) (disj_none_ _) (by omega) ?_; intro A' cap' w' h1 h2 h3 h4)
            go_roundw
            case rel => exact ⟨k + 1, ys ++ [x], A', cap', by omega, by go_num, by simp, Lib.hid (by rw [HY.out, hys.out]; simp), by have := hyk; simp only [List.length_append, List.length_cons, List.length_nil] at this ⊢; omega, by simpa using h1, h2, row_og h3 (fun b hb => (show ∀ q, w1.heap.size ≤ q → og w.heap.size w1.heap.size q from fun _ h => Or.inr h) b (Nat.le_trans hz2 hb)), (hch.alloc _).trans h4⟩
            case measure => simp [intOf]; omega
          · have hc : (gtB nm) x = false := by simpa using hc
            have HN := Lib.hid (hN.out hc)
            have hd := gt_no hc
            clear hc
            go_wp2
            go_roundw
            case rel => exact ⟨k + 1, ys, A, cap, by omega, by go_num, rfl, Lib.hid (by rw [HN.out, hys.out]), by omega, hle, hcm2, hrow, hch⟩
            case measure => simp [intOf]; omega
        · have hke : k = rest.length := by omega
          subst hke
          have hyy : ys = putSpec xs nm v := by rw [hys.out, foldT_all, gath_fold, HP.out]; simp
          subst hyy
          have hB : Below w.heap.size w wr := hB1.trans (hch.to_below (by omega) (fun b h => og_ge h (Nat.le_refl _) (by omega)))
          have hpl := putSpec_len xs nm v
          go_wp2_with (fail)
          refine (spec_LeavesOk _ xs A0 cap0 S (Row.later hx hB) (by omega)).mono ?_
          rintro e3 w3 ⟨rfl, hb3⟩
          have hB3 : Below w.heap.size w w3 := Below.step hB hb3
          have hz3 := hB3.size
          replace hrow := Row.later hrow hb3
          cases ho : leavesOk xs
          · have HF : Hid (leafPut xs nm v = (xs, false)) := Lib.hid (by simp [leafPut, ho])
            go_wp2_with (at_builtin; refine wpList_app (α := Leaf) rfl _ _ rfl rfl rfl (row_lit0b _ _ _ (nw w.heap.size) (by first | rfl | simp) rfl hz3) (by simp) (by decide) rfl rfl (Src.flat2 (Row.allocC (Row.later hx hB3) _)) (disj_none_ _) (by first | (simp; done) | (simp; omega)) ?_; intro A' cap' w' h1 h2 h3 h4)
            go_ret2
            exact ⟨A', cap', ret_sliceb (by rw [HF.out] <;> simp) (by rw [HF.out]), by rw [HF.out]; simpa using h1, h2, by rw [HF.out]; simpa using row_up h3 (B := w.heap.size) (fun b h => h) (fun b h => h.elim) (by first | (simp; done) | (simp; omega)), (hB3.alloc hz3 _).trans (h4.to_below (by first | (simp; done) | (simp; omega)) (fun b h => h))⟩
          go_wp2_with (fail)
          refine (spec_LeavesOk _ (putSpec xs nm v) A cap _ (Row.weak hrow) (by omega)).mono ?_
          rintro e4 w4 ⟨rfl, hb4⟩
          have hB4 : Below w.heap.size w w4 := Below.step hB3 hb4
          have hz4 := hB4.size
          replace hrow := Row.later hrow hb4
          cases hp : leavesOk (putSpec xs nm v)
          · have HF : Hid (leafPut xs nm v = (xs, false)) := Lib.hid (by simp [leafPut, hp])
            go_wp2_with (at_builtin; refine wpList_app (α := Leaf) rfl _ _ rfl rfl rfl (row_lit0b _ _ _ (nw w.heap.size) (by first | rfl | simp) rfl hz4) (by simp) (by decide) rfl rfl (Src.flat2 (Row.allocC (Row.later hx hB4) _)) (disj_none_ _) (by first | (simp; done) | (simp; omega)) ?_; intro A' cap' w' h1 h2 h3 h4)
            go_ret2
            exact ⟨A', cap', ret_sliceb (by rw [HF.out] <;> simp) (by rw [HF.out]), by rw [HF.out]; simpa using h1, h2, by rw [HF.out]; simpa using row_up h3 (B := w.heap.size) (fun b h => h) (fun b h => h.elim) (by first | (simp; done) | (simp; omega)), (hB4.alloc hz4 _).trans (h4.to_below (by first | (simp; done) | (simp; omega)) (fun b h => h))⟩
          · have HF : Hid (leafPut xs nm v = (putSpec xs nm v, true)) := Lib.hid (by simp [leafPut, ho, hp])
            go_wp2
            go_ret2
            exact ⟨A, cap, ret_sliceb (by rw [HF.out]) (by rw [HF.out]), by rw [HF.out]; exact hle, hcm2, by rw [HF.out]; exact og_row hrow (Nat.le_refl _) (by omega), hB4⟩

end Go.Proofs.YtgllafgpmenjjaaGreatDoor

set_option linter.unusedVariables false
set_option linter.unusedSimpArgs false
namespace Go.Proofs.YtgllafgpmenjjaaGreatDoor
open Go.RowKit Lay Mk
theorem Src.flatC {α : Type} [Lay α] [Flat α] {m : Bool} {w : World} {A : Option Addr} {cap : Nat} {xs : List α} {S : Blks} (h : Row m w A cap xs S) : Src w A xs none_ := Src.flat h
set_option maxHeartbeats 2000000 in
theorem impl_copyHeads (w : World) (xs : List Head) (A : Option Addr) (cap : Nat) (S : Blks) (hx : Row false w A cap xs S) (hl : xs.length ≤ 2000000000) : Calls Tryz.prog 52 #[.slice A xs.length cap] w (OwnRes xs w) := by
  go_enter Tryz.func52, Tryz.ntmps52
  go_wp2_with (at_builtin; refine wpList_push (α := Head) rfl _ _ rfl rfl rfl (Own.start (Below.refl w.heap.size w)) rfl rfl (Src.flatC hx) (by omega) ?_; intro A' c' w' o' z')
  go_ret
  exact OwnRes.mk o' (by simp) (by simp)
def ChRes (R : Client × ByteArray × Bool × Int) (w : World) (e : Ending) (w' : World) : Prop := ∃ c, e = .returned (.tuple #[.agg c.toArray, .string R.2.1, .bool R.2.2.1, .int .i64 R.2.2.2]) ∧ rd true w' c R.1 (rng w.heap.size w'.heap.size) ∧ Below w.heap.size w w'
theorem ChRes.mk {R : Client × ByteArray × Bool × Int} {hs : Int} {L : List Head} {s : ByteArray} {b : Bool} {k : Int} {w w' : World} {A : Option Addr} {c n : Nat} (hR : R = (⟨hs, L⟩, s, b, k)) (hn : n = L.length) (hi : I64 hs) (own : Own w w' A c L) :
    ChRes R w (.returned (.tuple #[.agg #[.int .i64 hs, .slice A n c], .string s, .bool b, .int .i64 k])) w' := by
  subst hR; subst hn
  exact ⟨[.int .i64 hs, .slice A L.length c], rfl, Client.mk' (x := ⟨hs, L⟩) (S0 := rng w.heap.size w'.heap.size) hi own.le own.cm own.rng (fun _ h => h), own.bl⟩
end Go.Proofs.YtgllafgpmenjjaaGreatDoor

set_option linter.unusedVariables false
set_option linter.unusedSimpArgs false
namespace Go.Proofs.YtgllafgpmenjjaaGreatDoor
open Go.RowKit Go.WideShapes Go.ChangeShapes Go.ChangeAt Lay Mk
def laidSha : List (String × DataW Unit) := [("loop.example/g00284/impl.roundWords", Rows.laid_loop_example_g00284_impl_roundWords), ("loop.example/g00284/impl.startWords", Rows.laid_loop_example_g00284_impl_startWords)]
theorem gRound : Tryz.prog.globalNamed "loop.example/g00284/impl.roundWords" = some 1 := by kernel_rfl
theorem gStart : Tryz.prog.globalNamed "loop.example/g00284/impl.startWords" = some 0 := by kernel_rfl
theorem tRound : (Tryz.prog.globals[1]?).map (·.type) = some 220 := by kernel_rfl
theorem tStart : (Tryz.prog.globals[0]?).map (·.type) = some 218 := by kernel_rfl
set_option maxRecDepth 100000 in
theorem laidRound_tab : (Rows.laid_loop_example_g00284_impl_roundWords : DataW Unit) = Go.Lib.tabData .u32 shaKeys := by kernel_rfl
set_option maxRecDepth 100000 in
theorem laidStart_tab : (Rows.laid_loop_example_g00284_impl_startWords : DataW Unit) = Go.Lib.tabData .u32 shaFirst.l := by kernel_rfl
theorem tabs_of_laid {W : World} (h : laidMetH Tryz.prog laidSha W) : Tabs W := by
  rw [MakeChecks.laidMetH_plain _ _ _ (by kernel_rfl)] at h
  obtain ⟨ps, ⟨g0, t0, cs0, f0, p0, q0, hg0, ht0, hv0, hd0, ⟨g1, t1, cs1, f1, p1, q1, hg1, ht1, hv1, hd1, _, _⟩, _⟩, _, _⟩ := h
  obtain rfl := Option.some.inj (gRound.symm.trans hg0)
  obtain rfl := Option.some.inj (gStart.symm.trans hg1)
  obtain rfl := Option.some.inj (tRound.symm.trans ht0)
  obtain rfl := Option.some.inj (tStart.symm.trans ht1)
  rw [laidRound_tab] at hd0
  rw [laidStart_tab] at hd1
  have e0 := Go.Lib.cells_of_tab Tryz.underlying220 Tryz.underlying217 (by kernel_rfl) (by kernel_rfl) hd0
  have e1 := Go.Lib.cells_of_tab Tryz.underlying218 Tryz.underlying217 (by kernel_rfl) (by kernel_rfl) hd1
  have k0 : shaKeys.length = 64 := rfl
  have k1 : shaFirst.l.length = 8 := rfl
  refine ⟨fun i hi => ?_, fun i hi => ?_⟩
  · have h := World.var?_cell hg0 hv0 i
    rw [h]
    have : cs0.toList[i]? = some (.int .u32 (shaKeys.getD i 0)) := by
      rw [e0, List.getElem?_map, List.getElem?_eq_getElem (by omega), Option.map_some, List.getD_eq_getElem?_getD, List.getElem?_eq_getElem (by omega)]; rfl
    simpa using this
  · have h := World.var?_cell hg1 hv1 i
    rw [h]
    have : cs1.toList[i]? = some (.int .u32 (shaFirst.l.getD i 0)) := by
      rw [e1, List.getElem?_map, List.getElem?_eq_getElem (by omega), Option.map_some, List.getD_eq_getElem?_getD, List.getElem?_eq_getElem (by omega)]; rfl
    simpa using this
set_option maxRecDepth 100000 in
theorem door_met (os : Os) (args : Array Value) : laidMetH Tryz.prog laidSha ((World.doorLaid Tryz.prog 34 os).forCall (fun _ _ => 0) ⟨#[], args, []⟩).memory :=
  laidMetH_of_parts3 (fuel := 8) (laidMet_of_run' 8 (by kernel_rfl) (by kernel_rfl)) (by kernel_rfl) (by kernel_rfl)
def rowedVars (P : Program) (ns : List String) : Bool := ns.all fun n => ((P.globalNamed n).bind (P.globals[·]?)).all fun gl => P.readableRec gl.type && decide (gl.type < P.types.size)
theorem trodVars_stays {H : Type} {enc : TypeId × Value → H} {P : Program} (hl : laidOutB P = true) {W W' : World} {sp : Nat → Bool} (hb : Below W.heap.size W W') :
    ∀ {ns : List String} {gs : List (DataW H)} {ps : List MemPlace}, rowedVars P ns = true → DataW.TrodVars enc P W (fun _ => true) ns gs ps → (∀ x ∈ ps, sp x.block = true) → DataW.TrodVars enc P W' sp ns gs ps
  | [], [], _, _, h, _ => h
  | [], _ :: _, _, _, h, _ => h.elim
  | _ :: _, [], _, _, h, _ => h.elim
  | n :: ns, d :: ds, ps, hv, h, hsp => by
    have hlt := h.lt
    obtain ⟨g, t, cs, fuel, p, q, h1, h2, h3, h4, hs, e⟩ := h
    simp only [rowedVars, List.all_cons, Bool.and_eq_true] at hv
    have ht : P.readableRec t = true ∧ t < P.types.size := by
      have := hv.1
      rw [h1] at this
      cases hg : P.globals[g]? with
      | none => rw [hg] at h2; cases h2
      | some gl =>
        rw [hg] at h2
        obtain rfl : gl.type = t := Option.some.inj h2
        simpa [hg] using this
    have hp : ∀ x ∈ p, x.block < W.heap.size := fun x hx => hlt x (by rw [e]; simp [hx])
    have h3' : W'.var? P n = some cs := by
      unfold World.var? at h3 ⊢
      rw [h1] at h3 ⊢
      simp only [Option.bind_some] at h3 ⊢
      have hg : g < W.heap.size := by
        cases hh : W.heap[g]? with
        | none => rw [hh] at h3; cases h3
        | some o => exact (Array.getElem?_eq_some_iff.1 hh).1
      rw [hb.block g hg]; exact h3
    exact ⟨g, t, cs, fuel, p, q, h1, h2, h3', DataW.trod_stays (kids_book hl ht.1) (book_sized ht.1) (fun h => by cases h) ⟨ht.2, book_self t⟩ h4 (fun x hx => hb.same (hp x hx)) (fun x hx => hsp x (by rw [e]; simp [hx])),
      trodVars_stays hl hb (by simpa [rowedVars] using hv.2) hs (fun x hx => hsp x (by rw [e]; simp [hx])), e⟩
end Go.Proofs.YtgllafgpmenjjaaGreatDoor
