/- Are a provider's signed heads a chain. -/
import Derived.Test.YthgonaodmpegfaaGreatDoorHf
import Derived.Test.YthgonaodmpegfaaGreatDoorPr
import Derived.Test.YthgonaodmpegfaaGreatDoorEk
import Derived.Test.YthgonaodmpegfaaGreatDoorHs
import Derived.Deep.RegionHeld3
set_option linter.unusedVariables false
set_option linter.unusedSimpArgs false
namespace Go.Proofs.YthgonaodmpegfaaGreatDoor
open Go.RowKit Lay Mk
def chainRight (h : House) : Bool := h.coord.seals.all (sealOk (poolRoot h.coord.pool)) && chainOk (headL h.coord.seals) h.coord.house
theorem all_bad {α : Type} {p : α → Bool} {l : List α} {k : Nat} (hk : k < l.length) (h : p l[k] = false) : l.all p = false := by
  rw [List.all_eq_false]; exact ⟨_, List.getElem_mem hk, by simp [h]⟩
theorem all_good {α : Type} {p : α → Bool} {l : List α} (h : ∀ k (hk : k < l.length), p l[k] = true) : l.all p = true := by
  rw [List.all_eq_true]; intro x hx
  obtain ⟨k, hk, rfl⟩ := List.getElem_of_mem hx
  exact h k hk
theorem house_two {h : House} (hz : h.sz ≤ 1048576) : h.coord.pool.length ≤ 1048576 ∧ h.coord.seals.length ≤ 1048576 := by
  simp only [House.sz, Coord.sz] at hz
  have := szT_le h.coord.pool 0
  have := szT_le h.coord.seals 0
  omega
theorem headL_len (xs : List Seal) : (headL xs).length = xs.length := by unfold headL; simp
set_option maxRecDepth 20000 in set_option maxHeartbeats 8000000 in
theorem impl_ChainRight (w : World) (h : House) (cs : List Value) (S : Blks) (hx : rd false w cs h S) (hz : h.sz ≤ 1048576) (hT : Tabs w) : Calls Tryz.prog 10 #[.agg cs.toArray] w fun e w' => e = .returned (.bool (chainRight h)) ∧ Below w.heap.size w w' := by
  have HT := Lib.hid hT
  clear hT
  obtain ⟨hpl, hsl⟩ := house_two hz
  obtain ⟨H0, g0, T0, H1, g1, T1, H2, g2, T2, H3, g3, T3, H4, g4, T4, H5, g5, T5, H6, g6, T6, H7, g7, T7, H8, g8, T8, rfl, -, -, -, -, -, -, -, -, -, rp, -, -, -, rs, -⟩ := House.open hx
  clear hx hz
  have HF : Hid (chainRight h = (h.coord.seals.all (sealOk (poolRoot h.coord.pool)) && chainOk (headL h.coord.seals) h.coord.house)) := Lib.hid rfl
  have HP := Lib.hid (fun W (h' : Below w.heap.size w W) => impl_PoolRoot W h.coord.pool H1 g1 _ (Row.later rp h') hpl (HT.out.later h'))
  obtain ⟨root, hroot⟩ : ∃ r, poolRoot h.coord.pool = r := ⟨_, rfl⟩
  rw [hroot] at HF HP
  clear hroot rp
  simp only [House.cs]
  have hWd : ∀ W, W = w.alloc (.cells #[.int .i64 h.coord.house, .int .i64 h.coord.k, .bool h.coord.up, .slice H0 h.coord.disk.files.length g0, .slice H1 h.coord.pool.length g1, .slice H2 h.coord.seals.length g2, .slice H3 h.coord.tries.length g3, .int .i64 h.coord.try_, .bool h.coord.asking, .slice H4 h.coord.votes.length g4, .slice H5 h.coord.dones.length g5, .slice H6 h.servers.length g6, .slice H7 h.net.length g7, .slice H8 h.codes.length g8] 44) → Below w.heap.size w W ∧ W.cell? ⟨w.heap.size, 4, none⟩ = some (.slice H1 h.coord.pool.length g1) ∧ W.cell? ⟨w.heap.size, 5, none⟩ = some (.slice H2 h.coord.seals.length g2) ∧ W.cell? ⟨w.heap.size, 0, none⟩ = some (.int .i64 h.coord.house) ∧ W.heap.size = w.heap.size + 1 := by
    rintro W rfl
    exact ⟨(Below.refl _ _).alloc (Nat.le_refl _) _, box_cell _ _ _ _ _ rfl, box_cell _ _ _ _ _ rfl, box_cell _ _ _ _ _ rfl, by simp⟩
  obtain ⟨xs, hxs⟩ : ∃ xs, h.coord.seals = xs := ⟨_, rfl⟩
  simp only [hxs] at *
  clear hxs
  go_enter Tryz.func10, Tryz.ntmps10
  go_wp2_with (fail)
  obtain ⟨W, hW⟩ : ∃ W, w.alloc (.cells #[.int .i64 h.coord.house, .int .i64 h.coord.k, .bool h.coord.up, .slice H0 h.coord.disk.files.length g0, .slice H1 h.coord.pool.length g1, .slice H2 xs.length g2, .slice H3 h.coord.tries.length g3, .int .i64 h.coord.try_, .bool h.coord.asking, .slice H4 h.coord.votes.length g4, .slice H5 h.coord.dones.length g5, .slice H6 h.servers.length g6, .slice H7 h.net.length g7, .slice H8 h.codes.length g8] 44) = W := ⟨_, rfl⟩
  rw [hW]
  obtain ⟨hBW, c1, c2, c3, hsz⟩ := hWd W hW.symm
  clear hW hWd
  have hlW : w.heap.size < W.heap.size := by omega
  refine (HP.out _ hBW).mono ?_
  rintro e0 V ⟨rfl, hbV⟩
  have hBV := hBW.trans (hbV.mono hBW.size)
  replace c2 := (hbV.cell (p := ⟨w.heap.size, 5, none⟩) hlW).trans c2
  replace c3 := (hbV.cell (p := ⟨w.heap.size, 0, none⟩) hlW).trans c3
  have hlV : w.heap.size < V.heap.size := Nat.lt_of_lt_of_le hlW hbV.size
  have HBV := Lib.hid hBV
  have C2 := Lib.hid c2
  have C3 := Lib.hid c3
  have rV := Lib.hid (Row.later rs hBV)
  clear c1 hbV hBW hBV rs HP
  go_wp2_with (fail)
  go_loopw [14] (fun i wr => ∃ (k : Nat), k ≤ xs.length ∧ i = .int .i64 k ∧ Hid (∀ j (hj : j < xs.length), j < k → sealOk root xs[j] = true) ∧ Below V.heap.size V wr) (fun i _ => xs.length - (intOf i).toNat)
  case atStart => exact ⟨0, Nat.zero_le _, rfl, Lib.hid (fun j _ h => absurd h (by omega)), Below.refl _ _⟩
  case round =>
    clear c2 c3
    obtain ⟨k, hk, rfl, HA, hb⟩ := hrel
    have c2 := (hb.cell (p := ⟨w.heap.size, 5, none⟩) hlV).trans C2.out
    have hlr : w.heap.size < wr.heap.size := Nat.lt_of_lt_of_le hlV hb.size
    have HBr := Lib.hid (HBV.out.trans (hb.mono HBV.out.size))
    by_cases hlt : k < xs.length
    · obtain ⟨b1, o1, cc, T, rfl, hl1, ha, hr, _, _⟩ := Row.at_ rV.out hlt
      replace ha := ha.keep (hb.block b1 hl1)
      replace hr := Lay.later hr hb
      have HY := Lib.hid (fun (h0 : sealOk root xs[k] = false) => all_bad (p := sealOk root) hlt h0)
      have HA2 : Hid (sealOk root xs[k] = true → ∀ j (hj : j < xs.length), j < k + 1 → sealOk root xs[j] = true) := Lib.hid (fun h0 j hj h => by rcases Nat.lt_succ_iff_lt_or_eq.1 h with h1 | h1; exact HA.out j hj h1; subst h1; exact h0)
      obtain ⟨s, hs⟩ : ∃ s, xs[k] = s := ⟨_, rfl⟩
      rw [hs] at hr HY HA2
      clear hs
      have HS := Lib.hid (fun W (h' : Below wr.heap.size wr W) => impl_SealOk W root s cc T (Lay.later hr h') (HT.out.later (HBr.out.trans (h'.mono HBr.out.size))))
      obtain ⟨z, hz⟩ : ∃ z, sealOk root s = z := ⟨_, rfl⟩
      rw [hz] at HY HA2 HS
      clear hz
      obtain ⟨D0, m0, U0, D1, m1, U1, D2, m2, U2, rfl, -⟩ := Seal.open hr
      clear hr
      rw [show Lay.n Seal = 8 from rfl] at ha
      have e0 := ha 0 _ rfl
      have e1 := ha 1 _ rfl
      have e2 := ha 2 _ rfl
      have e3 := ha 3 _ rfl
      have e4 := ha 4 _ rfl
      have e5 := ha 5 _ rfl
      have e6 := ha 6 _ rfl
      have e7 := ha 7 _ rfl
      simp only [Nat.add_zero] at e0
      have hl3 : b1 < wr.heap.size := Nat.lt_of_lt_of_le hl1 hb.size
      have HB := Lib.hid hb
      simp only [Seal.cs] at HS
      clear ha hb HA
      go_wp2_with (fail)
      refine (HS.out _ ((Below.refl _ _).alloc (Nat.le_refl _) _)).mono ?_
      rintro e5 w5 ⟨rfl, hb5⟩
      have HB5 := Lib.hid ((HB.out.alloc HB.out.size _).trans (hb5.mono (HB.out.alloc HB.out.size _).size))
      have HBr5 := Lib.hid (HBV.out.trans (HB5.out.mono HBV.out.size))
      clear hb5
      cases z
      · have HE : Hid (chainRight h = false) := Lib.hid (by rw [HF.out, HY.out rfl]; rfl)
        go_wp2
        go_ret
        exact ⟨ret_bool (by rw [HE.out]), HBr5.out⟩
      · have HA3 := Lib.hid (HA2.out rfl)
        go_wp2
        go_roundw
        case rel => exact ⟨k + 1, hlt, by go_num, HA3, HB5.out⟩
        case measure => simp [intOf]; omega
    · have hke : k = xs.length := by omega
      have HE : Hid (chainRight h = chainOk (headL xs) h.coord.house) := Lib.hid (by rw [HF.out, all_good (fun j hj => HA.out j hj (by omega))]; rfl)
      have hll := headL_len xs
      have rR := Row.later rV.out hb
      have c3 := (hb.cell (p := ⟨w.heap.size, 0, none⟩) hlV).trans C3.out
      subst hke
      have hB := Below.refl wr.heap.size wr
      have HM := Lib.hid (fun (w' : World) (h' : Below wr.heap.size wr w') => (⟨(h'.cell (p := ⟨w.heap.size, 5, none⟩) hlr).trans c2, (h'.cell (p := ⟨w.heap.size, 0, none⟩) hlr).trans c3, h'⟩ : w'.cell? ⟨w.heap.size, 5, none⟩ = some (.slice H2 xs.length g2) ∧ w'.cell? ⟨w.heap.size, 0, none⟩ = some (.int .i64 h.coord.house) ∧ Below wr.heap.size wr w'))
      have hlx : (headL xs).length ≤ 4000000000 := by omega
      obtain ⟨ys, hys⟩ : ∃ ys, headL xs = ys := ⟨_, rfl⟩
      have HCH := Lib.hid (fun W (h' : Below wr.heap.size wr W) (A1 : Option Addr) (c1 : Nat) (S1 : Blks) (r1 : Row false W A1 c1 ys S1) (hc : ys.length ≤ c1) => impl_ChainOk W ys A1 c1 S1 r1 (by rw [← hys]; exact hlx) hc h.coord.house (HT.out.later (HBr.out.trans (h'.mono HBr.out.size))))
      have HHE := Lib.hid (fun W (h' : Below wr.heap.size wr W) => impl_headsOf W xs H2 g2 _ (Row.later rR h') hsl)
      rw [hys] at HE HHE
      obtain ⟨z, hz⟩ : ∃ z, chainOk ys h.coord.house = z := ⟨_, rfl⟩
      rw [hz] at HE HCH
      have HYS := Lib.hid hys
      clear hz hys hb HA hll hlx rR c2
      go_wp2_with (fail)
      go_region_held3 (fun w' => w'.cell? ⟨w.heap.size, 5, none⟩ = some (.slice H2 xs.length g2) ∧ w'.cell? ⟨w.heap.size, 0, none⟩ = some (.int .i64 h.coord.house) ∧ Below wr.heap.size wr w')
        (first | exact HM.out _ (by (repeat (first | with_reducible exact hB | with_reducible apply Below.drew | with_reducible refine Below.alloc ?_ ?_ _)); all_goals (first | omega | (simp; done) | (simp; omega))))
        (first | (go_at_call 49; refine (HHE.out _ (by (repeat (first | with_reducible exact hB | with_reducible apply Below.drew | with_reducible refine Below.alloc ?_ ?_ _)); all_goals (first | omega | (simp; done) | (simp; omega)))).mono ?_; rintro e1 w1 ⟨A1, n1, rfl, own1⟩; have hs1 := own1.bl.size; (try simp at hs1); have HO1 := Lib.hid own1; have hB := Below.step (a := wr) (by (repeat (first | with_reducible exact hB | with_reducible apply Below.drew | with_reducible refine Below.alloc ?_ ?_ _)); all_goals (first | omega | (simp; done) | (simp; omega))) own1.bl; clear own1) | (go_at_call 48; refine (HCH.out _ (by (repeat (first | with_reducible exact hB | with_reducible apply Below.drew | with_reducible refine Below.alloc ?_ ?_ _)); all_goals (first | omega | (simp; done) | (simp; omega))) _ _ _ (HO1.out.later (by (repeat (first | with_reducible exact Below.refl _ _ | with_reducible apply Below.drew | with_reducible refine Below.alloc ?_ ?_ _)); all_goals (first | omega | (simp; done) | (simp; omega)))).weak HO1.out.le).mono ?_; rintro e2 w2 ⟨rfl, hb2⟩; have hs2 := hb2.size; (try simp at hs2); have hB := Below.step (a := wr) (by (repeat (first | with_reducible exact hB | with_reducible apply Below.drew | with_reducible refine Below.alloc ?_ ?_ _)); all_goals (first | omega | (simp; done) | (simp; omega))) hb2))
      go_wp2
      go_ret
      exact ⟨ret_bool (by rw [HE.out]), HBr.out.trans (Below.mono (w := wr) (by (repeat (first | with_reducible exact hB | with_reducible apply Below.drew | with_reducible refine Below.alloc ?_ ?_ _)); all_goals (first | omega | (simp; done) | (simp; omega))) HBr.out.size)⟩
set_option maxRecDepth 20000 in set_option maxHeartbeats 8000000 in
theorem spec_ChainRight (w : World) (h : House) (cs : List Value) (S : Blks) (hx : rd false w cs h S) (hz : h.sz ≤ 1048576) : Calls Tryz.prog 8 #[.agg cs.toArray] w fun e w' => e = .returned (.bool (chainRight h)) ∧ Below w.heap.size w w' := by
  obtain ⟨hpl, hsl⟩ := house_two hz
  obtain ⟨H0, g0, T0, H1, g1, T1, H2, g2, T2, H3, g3, T3, H4, g4, T4, H5, g5, T5, H6, g6, T6, H7, g7, T7, H8, g8, T8, rfl, -, -, -, -, -, -, -, -, -, rp, -, -, -, rs, -⟩ := House.open hx
  clear hx hz
  have HF : Hid (chainRight h = (h.coord.seals.all (sealOk (poolRoot h.coord.pool)) && chainOk (headL h.coord.seals) h.coord.house)) := Lib.hid rfl
  have HP := Lib.hid (fun W (h' : Below w.heap.size w W) => spec_PoolRoot W h.coord.pool H1 g1 _ (Row.later rp h') hpl)
  obtain ⟨root, hroot⟩ : ∃ r, poolRoot h.coord.pool = r := ⟨_, rfl⟩
  rw [hroot] at HF HP
  clear hroot rp
  simp only [House.cs]
  have hWd : ∀ W, W = w.alloc (.cells #[.int .i64 h.coord.house, .int .i64 h.coord.k, .bool h.coord.up, .slice H0 h.coord.disk.files.length g0, .slice H1 h.coord.pool.length g1, .slice H2 h.coord.seals.length g2, .slice H3 h.coord.tries.length g3, .int .i64 h.coord.try_, .bool h.coord.asking, .slice H4 h.coord.votes.length g4, .slice H5 h.coord.dones.length g5, .slice H6 h.servers.length g6, .slice H7 h.net.length g7, .slice H8 h.codes.length g8] 44) → Below w.heap.size w W ∧ W.cell? ⟨w.heap.size, 4, none⟩ = some (.slice H1 h.coord.pool.length g1) ∧ W.cell? ⟨w.heap.size, 5, none⟩ = some (.slice H2 h.coord.seals.length g2) ∧ W.cell? ⟨w.heap.size, 0, none⟩ = some (.int .i64 h.coord.house) ∧ W.heap.size = w.heap.size + 1 := by
    rintro W rfl
    exact ⟨(Below.refl _ _).alloc (Nat.le_refl _) _, box_cell _ _ _ _ _ rfl, box_cell _ _ _ _ _ rfl, box_cell _ _ _ _ _ rfl, by simp⟩
  obtain ⟨xs, hxs⟩ : ∃ xs, h.coord.seals = xs := ⟨_, rfl⟩
  simp only [hxs] at *
  clear hxs
  go_enter Tryz.func8, Tryz.ntmps8
  go_wp2_with (fail)
  obtain ⟨W, hW⟩ : ∃ W, w.alloc (.cells #[.int .i64 h.coord.house, .int .i64 h.coord.k, .bool h.coord.up, .slice H0 h.coord.disk.files.length g0, .slice H1 h.coord.pool.length g1, .slice H2 xs.length g2, .slice H3 h.coord.tries.length g3, .int .i64 h.coord.try_, .bool h.coord.asking, .slice H4 h.coord.votes.length g4, .slice H5 h.coord.dones.length g5, .slice H6 h.servers.length g6, .slice H7 h.net.length g7, .slice H8 h.codes.length g8] 44) = W := ⟨_, rfl⟩
  rw [hW]
  obtain ⟨hBW, c1, c2, c3, hsz⟩ := hWd W hW.symm
  clear hW hWd
  have hlW : w.heap.size < W.heap.size := by omega
  refine (HP.out _ hBW).mono ?_
  rintro e0 V ⟨rfl, hbV⟩
  have hBV := hBW.trans (hbV.mono hBW.size)
  replace c2 := (hbV.cell (p := ⟨w.heap.size, 5, none⟩) hlW).trans c2
  replace c3 := (hbV.cell (p := ⟨w.heap.size, 0, none⟩) hlW).trans c3
  have hlV : w.heap.size < V.heap.size := Nat.lt_of_lt_of_le hlW hbV.size
  have HBV := Lib.hid hBV
  have C2 := Lib.hid c2
  have C3 := Lib.hid c3
  have rV := Lib.hid (Row.later rs hBV)
  clear c1 hbV hBW hBV rs HP
  go_wp2_with (fail)
  go_loopw [4] (fun i wr => ∃ (k : Nat), k ≤ xs.length ∧ i = .int .i64 k ∧ Hid (∀ j (hj : j < xs.length), j < k → sealOk root xs[j] = true) ∧ Below V.heap.size V wr) (fun i _ => xs.length - (intOf i).toNat)
  case atStart => exact ⟨0, Nat.zero_le _, rfl, Lib.hid (fun j _ h => absurd h (by omega)), Below.refl _ _⟩
  case round =>
    clear c2 c3
    obtain ⟨k, hk, rfl, HA, hb⟩ := hrel
    have c2 := (hb.cell (p := ⟨w.heap.size, 5, none⟩) hlV).trans C2.out
    have hlr : w.heap.size < wr.heap.size := Nat.lt_of_lt_of_le hlV hb.size
    have HBr := Lib.hid (HBV.out.trans (hb.mono HBV.out.size))
    by_cases hlt : k < xs.length
    · obtain ⟨b1, o1, cc, T, rfl, hl1, ha, hr, _, _⟩ := Row.at_ rV.out hlt
      replace ha := ha.keep (hb.block b1 hl1)
      replace hr := Lay.later hr hb
      have HY := Lib.hid (fun (h0 : sealOk root xs[k] = false) => all_bad (p := sealOk root) hlt h0)
      have HA2 : Hid (sealOk root xs[k] = true → ∀ j (hj : j < xs.length), j < k + 1 → sealOk root xs[j] = true) := Lib.hid (fun h0 j hj h => by rcases Nat.lt_succ_iff_lt_or_eq.1 h with h1 | h1; exact HA.out j hj h1; subst h1; exact h0)
      obtain ⟨s, hs⟩ : ∃ s, xs[k] = s := ⟨_, rfl⟩
      rw [hs] at hr HY HA2
      clear hs
      have HS := Lib.hid (fun W (h' : Below wr.heap.size wr W) => spec_SealOk W root s cc T (Lay.later hr h'))
      obtain ⟨z, hz⟩ : ∃ z, sealOk root s = z := ⟨_, rfl⟩
      rw [hz] at HY HA2 HS
      clear hz
      obtain ⟨D0, m0, U0, D1, m1, U1, D2, m2, U2, rfl, -⟩ := Seal.open hr
      clear hr
      rw [show Lay.n Seal = 8 from rfl] at ha
      have e0 := ha 0 _ rfl
      have e1 := ha 1 _ rfl
      have e2 := ha 2 _ rfl
      have e3 := ha 3 _ rfl
      have e4 := ha 4 _ rfl
      have e5 := ha 5 _ rfl
      have e6 := ha 6 _ rfl
      have e7 := ha 7 _ rfl
      simp only [Nat.add_zero] at e0
      have hl3 : b1 < wr.heap.size := Nat.lt_of_lt_of_le hl1 hb.size
      have HB := Lib.hid hb
      simp only [Seal.cs] at HS
      clear ha hb HA
      go_wp2_with (fail)
      refine (HS.out _ (Below.refl _ _)).mono ?_
      rintro e5 w5 ⟨rfl, hb5⟩
      have HB5 := Lib.hid ((HB.out).trans (hb5.mono (HB.out).size))
      have HBr5 := Lib.hid (HBV.out.trans (HB5.out.mono HBV.out.size))
      clear hb5
      cases z
      · have HE : Hid (chainRight h = false) := Lib.hid (by rw [HF.out, HY.out rfl]; rfl)
        go_wp2
        go_ret
        exact ⟨ret_bool (by rw [HE.out]), HBr5.out⟩
      · have HA3 := Lib.hid (HA2.out rfl)
        go_wp2
        go_roundw
        case rel => exact ⟨k + 1, hlt, by go_num, HA3, HB5.out⟩
        case measure => simp [intOf]; omega
    · have hke : k = xs.length := by omega
      have HE : Hid (chainRight h = chainOk (headL xs) h.coord.house) := Lib.hid (by rw [HF.out, all_good (fun j hj => HA.out j hj (by omega))]; rfl)
      have hll := headL_len xs
      have rR := Row.later rV.out hb
      have c3 := (hb.cell (p := ⟨w.heap.size, 0, none⟩) hlV).trans C3.out
      subst hke
      have hB := Below.refl wr.heap.size wr
      have HM := Lib.hid (fun (w' : World) (h' : Below wr.heap.size wr w') => (⟨(h'.cell (p := ⟨w.heap.size, 5, none⟩) hlr).trans c2, (h'.cell (p := ⟨w.heap.size, 0, none⟩) hlr).trans c3, h'⟩ : w'.cell? ⟨w.heap.size, 5, none⟩ = some (.slice H2 xs.length g2) ∧ w'.cell? ⟨w.heap.size, 0, none⟩ = some (.int .i64 h.coord.house) ∧ Below wr.heap.size wr w'))
      have hlx : (headL xs).length ≤ 4000000000 := by omega
      obtain ⟨ys, hys⟩ : ∃ ys, headL xs = ys := ⟨_, rfl⟩
      have HCH := Lib.hid (fun W (h' : Below wr.heap.size wr W) (A1 : Option Addr) (c1 : Nat) (S1 : Blks) (r1 : Row false W A1 c1 ys S1) (hc : ys.length ≤ c1) => spec_ChainOk W ys A1 c1 S1 r1 (by rw [← hys]; exact hlx) h.coord.house)
      have HHE := Lib.hid (fun W (h' : Below wr.heap.size wr W) => spec_l19Heads W xs H2 g2 _ (Row.later rR h') hsl)
      rw [hys] at HE HHE
      obtain ⟨z, hz⟩ : ∃ z, chainOk ys h.coord.house = z := ⟨_, rfl⟩
      rw [hz] at HE HCH
      have HYS := Lib.hid hys
      clear hz hys hb HA hll hlx rR
      go_wp2_with (fail)
      go_region_held3 (fun w' => w'.cell? ⟨w.heap.size, 5, none⟩ = some (.slice H2 xs.length g2) ∧ w'.cell? ⟨w.heap.size, 0, none⟩ = some (.int .i64 h.coord.house) ∧ Below wr.heap.size wr w')
        (first | exact HM.out _ (by (repeat (first | with_reducible exact hB | with_reducible apply Below.drew | with_reducible refine Below.alloc ?_ ?_ _)); all_goals (first | omega | (simp; done) | (simp; omega))))
        (first | (go_at_call 41; refine (HHE.out _ (by (repeat (first | with_reducible exact hB | with_reducible apply Below.drew | with_reducible refine Below.alloc ?_ ?_ _)); all_goals (first | omega | (simp; done) | (simp; omega)))).mono ?_; rintro e1 w1 ⟨A1, n1, rfl, own1⟩; have hs1 := own1.bl.size; (try simp at hs1); have HO1 := Lib.hid own1; have hB := Below.step (a := wr) (by (repeat (first | with_reducible exact hB | with_reducible apply Below.drew | with_reducible refine Below.alloc ?_ ?_ _)); all_goals (first | omega | (simp; done) | (simp; omega))) own1.bl; clear own1) | (go_at_call 40; refine (HCH.out _ (by (repeat (first | with_reducible exact hB | with_reducible apply Below.drew | with_reducible refine Below.alloc ?_ ?_ _)); all_goals (first | omega | (simp; done) | (simp; omega))) _ _ _ (HO1.out.later (by (repeat (first | with_reducible exact Below.refl _ _ | with_reducible apply Below.drew | with_reducible refine Below.alloc ?_ ?_ _)); all_goals (first | omega | (simp; done) | (simp; omega)))).weak HO1.out.le).mono ?_; rintro e2 w2 ⟨rfl, hb2⟩; have hs2 := hb2.size; (try simp at hs2); have hB := Below.step (a := wr) (by (repeat (first | with_reducible exact hB | with_reducible apply Below.drew | with_reducible refine Below.alloc ?_ ?_ _)); all_goals (first | omega | (simp; done) | (simp; omega))) hb2))
      go_wp2
      go_ret
      exact ⟨ret_bool (by rw [HE.out]), HBr.out.trans (Below.mono (w := wr) (by (repeat (first | with_reducible exact hB | with_reducible apply Below.drew | with_reducible refine Below.alloc ?_ ?_ _)); all_goals (first | omega | (simp; done) | (simp; omega))) HBr.out.size)⟩
end Go.Proofs.YthgonaodmpegfaaGreatDoor
