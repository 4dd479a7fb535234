/- Whom to trust: what is computed, and the walks. -/
import Derived.Test.YthgonaodmpegfaaGreatDoorRt
import Derived.Deep.RegionHeld3
set_option linter.unusedVariables false
set_option linter.unusedSimpArgs false
namespace Go.Proofs.YthgonaodmpegfaaGreatDoor
open Go.RowKit Lay Mk
def trustOf (x : Wrld) (need : Int) : Trust := match x.houses with
  | [] => ⟨[], 0, 0⟩
  | h :: _ => ⟨rootsOf x, h.coord.k, need⟩
theorem trust_nil {x : Wrld} {need : Int} (h : x.houses.length = 0) : trustOf x need = ⟨[], 0, 0⟩ := by
  unfold trustOf; cases e : x.houses with
  | nil => rfl
  | cons a b => rw [e] at h; simp at h
theorem trust_cons {x : Wrld} {need : Int} (h : 0 < x.houses.length) : trustOf x need = ⟨rootsOf x, (x.houses[0]).coord.k, need⟩ := by
  unfold trustOf
  split
  · rename_i e; rw [e] at h; simp at h
  · rename_i a b e; congr 1; simp [e]
theorem cnb_trustOf (x : Wrld) (need : Int) (hx : x.sz ≤ 1048576) : (trustOf x need).ct ≤ 1000000000000 := by
  have h1 := cnb_rootsOf x hx
  unfold trustOf
  have h2 : (rootsOf x).length ≤ 1048576 := by
    unfold rootsOf; rw [List.length_map]
    simp only [Wrld.sz] at hx
    have := szT_le x.houses 0
    omega
  split <;> simp only [Trust.ct, cnL_str] <;> (try simp) <;> omega
theorem house_k_at {m : Bool} {w : World} {A : Option Addr} {cap : Nat} {xs : List House} {S : Blks} (h : Row m w A cap xs S) {i : Nat} (hi : i < xs.length) :
    ∃ b off, A = some ⟨b, off, none⟩ ∧ b < w.heap.size ∧ w.cell? ⟨b, off + i * 14 + 1, none⟩ = some (.int .i64 (xs[i]).coord.k) ∧ I64 (xs[i]).coord.k := by
  obtain ⟨b, off, cs, T, e, hb, ha, hr, _, _⟩ := Row.at_ h hi
  obtain ⟨_, _, _, _, _, _, _, _, _, _, _, _, _, _, _, _, _, _, _, _, _, _, _, _, _, _, _, rfl, -, f0, -⟩ := House.open hr
  rw [show Lay.n House = 14 from rfl] at ha
  exact ⟨b, off, e, hb, ha 1 _ rfl, f0⟩
set_option maxRecDepth 20000 in set_option maxHeartbeats 8000000 in
theorem impl_TrustOf (w : World) (x : Wrld) (cs : List Value) (S : Blks) (hx : rd false w cs x S) (hz : x.sz ≤ 1048576) (need : Int) (hn : I64 need) (hT : Tabs w) : Calls Tryz.prog 28 #[.agg cs.toArray, .int .i64 need] w fun e w' => ∃ c : List Value, e = .returned (.agg c.toArray) ∧ rd true w' c (trustOf x need) (rng w.heap.size w'.heap.size) ∧ Below w.heap.size w w' := by
  have HT := Lib.hid hT
  clear hT
  have HRT := Lib.hid (fun W (h : Below w.heap.size w W) => impl_RootsOf W x cs S (Lay.later hx h) hz (HT.out.later h))
  obtain ⟨A0, k0, S0, A1, k1, S1, A2, k2, S2, A3, k3, S3, A4, k4, S4, A5, k5, S5, rfl, -, -, r0, -⟩ := Wrld.open hx
  clear hx hz
  have HZ0 := Lib.hid (fun h => trust_nil (x := x) (need := need) h)
  have HZ1 := Lib.hid (fun h => trust_cons (x := x) (need := need) h)
  simp only [Wrld.cs] at HRT ⊢
  obtain ⟨R, hR⟩ : ∃ R, rootsOf x = R := ⟨_, rfl⟩
  rw [hR] at HRT HZ1
  clear hR
  obtain ⟨V, hV⟩ : ∃ V, trustOf x need = V := ⟨_, rfl⟩
  rw [hV] at HZ0 HZ1 ⊢
  clear hV
  by_cases h0 : x.houses.length = 0
  · have HZ := Lib.hid (HZ0.out h0)
    rw [h0]
    have hq : ((x.houses.length : Int) == 0) = true := by rw [beq_iff_eq]; omega
    clear HZ0 HZ1 h0 HRT r0
    go_enter Tryz.func28, Tryz.ntmps28
    go_wp2
    refine bodyPost_ret (v := .agg #[.slice none 0 0, .int .i64 0, .int .i64 0]) (by simp [results, Tryz.results28, go_sem, *]) rfl ?_
    exact ⟨[.slice none 0 0, .int .i64 0, .int .i64 0], rfl, by rw [HZ.out]; exact Trust.mk' (x := ⟨[], 0, 0⟩) (by simp) (by decide) (row_nil _ none_) (none_sub _) (show I64 0 by unfold I64; omega) (show I64 0 by unfold I64; omega), by first | exact ((Below.refl _ _).alloc (Nat.le_refl _) _).alloc (by simp) _ | exact (((Below.refl _ _).alloc (Nat.le_refl _) _).alloc (by simp) _).setCell (by simp) _⟩
  have hpos : 0 < x.houses.length := by omega
  have HZ := Lib.hid (HZ1.out hpos)
  have hq : ((x.houses.length : Int) == 0) = false := by rw [beq_eq_false_iff_ne]; omega
  have hpi : (0 : Int) < (x.houses.length : Int) := by omega
  obtain ⟨b1, o1, rfl, hl1, qk, fk⟩ := house_k_at r0 hpos
  obtain ⟨kk, hkk⟩ : ∃ kk, (x.houses[0]).coord.k = kk := ⟨_, rfl⟩
  rw [hkk] at HZ qk fk
  simp only [Nat.zero_mul, Nat.add_zero] at qk
  clear hkk HZ0 HZ1 h0 r0
  go_enter Tryz.func28, Tryz.ntmps28
  go_wp2_with (fail)
  generalize hW1 : w.alloc (.cells #[_, _, _, _, _, _] _) = W1
  have hwW1 : Below w.heap.size w W1 := by rw [← hW1]; exact (Below.refl _ _).alloc (Nat.le_refl _) _
  have hWs1 : W1.heap.size = w.heap.size + 1 := by rw [← hW1]; simp
  have q0 : W1.cell? ⟨w.heap.size, 0, none⟩ = some (.slice (some ⟨b1, o1, none⟩) x.houses.length k0) := by rw [← hW1]; exact box_cell _ _ _ _ _ rfl
  have q1 : W1.cell? ⟨w.heap.size, 1, none⟩ = some (.slice A1 x.auditors.length k1) := by rw [← hW1]; exact box_cell _ _ _ _ _ rfl
  have q2 : W1.cell? ⟨w.heap.size, 2, none⟩ = some (.slice A2 x.notes.length k2) := by rw [← hW1]; exact box_cell _ _ _ _ _ rfl
  have q3 : W1.cell? ⟨w.heap.size, 3, none⟩ = some (.slice A3 x.given.length k3) := by rw [← hW1]; exact box_cell _ _ _ _ _ rfl
  have q4 : W1.cell? ⟨w.heap.size, 4, none⟩ = some (.slice A4 x.evil.length k4) := by rw [← hW1]; exact box_cell _ _ _ _ _ rfl
  have q5 : W1.cell? ⟨w.heap.size, 5, none⟩ = some (.slice A5 x.codes.length k5) := by rw [← hW1]; exact box_cell _ _ _ _ _ rfl
  replace qk := (hwW1.cell (p := ⟨b1, o1 + 1, none⟩) hl1).trans qk
  clear hW1
  generalize hW : W1.alloc (.cells #[_, _, _] _) = W
  have hWW : Below W1.heap.size W1 W := by rw [← hW]; exact (Below.refl _ _).alloc (Nat.le_refl _) _
  have hWs : W.heap.size = W1.heap.size + 1 := by rw [← hW]; simp
  have z0 : W.cell? ⟨w.heap.size + 1, 0, none⟩ = some (.slice none 0 0) := by rw [← hWs1, ← hW]; exact box_cell _ _ _ _ _ rfl
  have z1 : W.cell? ⟨w.heap.size + 1, 1, none⟩ = some (.int .i64 0) := by rw [← hWs1, ← hW]; exact box_cell _ _ _ _ _ rfl
  have z2 : W.cell? ⟨w.heap.size + 1, 2, none⟩ = some (.int .i64 0) := by rw [← hWs1, ← hW]; exact box_cell _ _ _ _ _ rfl
  have zf : ∀ o, W.frozen? ⟨w.heap.size + 1, o, none⟩ = false := by intro o; rw [← hWs1, ← hW]; simp
  clear hW
  have hWl : W1.heap.size ≤ W.heap.size := by omega
  have hB := Below.refl W.heap.size W
  have HM := Lib.hid (fun (w' : World) (h : Below W1.heap.size W1 w') => (⟨(h.cell (p := ⟨w.heap.size, 0, none⟩) (show w.heap.size < W1.heap.size by omega)).trans q0, (h.cell (p := ⟨w.heap.size, 1, none⟩) (show w.heap.size < W1.heap.size by omega)).trans q1, (h.cell (p := ⟨w.heap.size, 2, none⟩) (show w.heap.size < W1.heap.size by omega)).trans q2, (h.cell (p := ⟨w.heap.size, 3, none⟩) (show w.heap.size < W1.heap.size by omega)).trans q3, (h.cell (p := ⟨w.heap.size, 4, none⟩) (show w.heap.size < W1.heap.size by omega)).trans q4, (h.cell (p := ⟨w.heap.size, 5, none⟩) (show w.heap.size < W1.heap.size by omega)).trans q5, (h.cell (p := ⟨b1, o1 + 1, none⟩) (show b1 < W1.heap.size by omega)).trans qk, h⟩ : w'.cell? ⟨w.heap.size, 0, none⟩ = some (.slice (some ⟨b1, o1, none⟩) x.houses.length k0) ∧ w'.cell? ⟨w.heap.size, 1, none⟩ = some (.slice A1 x.auditors.length k1) ∧ w'.cell? ⟨w.heap.size, 2, none⟩ = some (.slice A2 x.notes.length k2) ∧ w'.cell? ⟨w.heap.size, 3, none⟩ = some (.slice A3 x.given.length k3) ∧ w'.cell? ⟨w.heap.size, 4, none⟩ = some (.slice A4 x.evil.length k4) ∧ w'.cell? ⟨w.heap.size, 5, none⟩ = some (.slice A5 x.codes.length k5) ∧ w'.cell? ⟨b1, o1 + 1, none⟩ = some (.int .i64 kk) ∧ Below W1.heap.size W1 w'))
  have hwW := hwW1.trans (hWW.mono (by omega))
  have HWW := Lib.hid hwW
  go_region_held3 (fun w' => w'.cell? ⟨w.heap.size, 0, none⟩ = some (.slice (some ⟨b1, o1, none⟩) x.houses.length k0) ∧ w'.cell? ⟨w.heap.size, 1, none⟩ = some (.slice A1 x.auditors.length k1) ∧ w'.cell? ⟨w.heap.size, 2, none⟩ = some (.slice A2 x.notes.length k2) ∧ w'.cell? ⟨w.heap.size, 3, none⟩ = some (.slice A3 x.given.length k3) ∧ w'.cell? ⟨w.heap.size, 4, none⟩ = some (.slice A4 x.evil.length k4) ∧ w'.cell? ⟨w.heap.size, 5, none⟩ = some (.slice A5 x.codes.length k5) ∧ w'.cell? ⟨b1, o1 + 1, none⟩ = some (.int .i64 kk) ∧ Below W1.heap.size W1 w')
      (first | exact HM.out _ (by (repeat (first | with_reducible exact hWW.trans (hB.mono hWl) | with_reducible apply Below.drew | with_reducible refine Below.alloc ?_ ?_ _ | with_reducible refine Below.setCell ?_ ?_ _)); all_goals (first | omega | (simp; done) | (simp; omega))))
      (first | (go_at_call 33; refine (HRT.out _ (HWW.out.trans (Below.mono (by first | exact hB | exact hB.drew) (by omega)))).mono ?_; rintro e1 w1 ⟨B0, j0, rfl, g0, h0, n0, hb1⟩; have hs1 := hb1.size; (try simp at hs1); have hB := Below.step (a := W) (by first | exact hB | exact hB.drew) hb1; have y20 := (hB.cell (p := ⟨w.heap.size + 1, 0, none⟩) (show w.heap.size + 1 < W.heap.size by omega)).trans z0; have y21 := (hB.cell (p := ⟨w.heap.size + 1, 1, none⟩) (show w.heap.size + 1 < W.heap.size by omega)).trans z1; have y22 := (hB.cell (p := ⟨w.heap.size + 1, 2, none⟩) (show w.heap.size + 1 < W.heap.size by omega)).trans z2; have yf2 := fun o => (hB.frozen (p := ⟨w.heap.size + 1, o, none⟩) (show w.heap.size + 1 < W.heap.size by omega)).trans (zf o)) | fail)
  go_wp2
  refine bodyPost_ret (v := .agg #[.slice B0 R.length j0, .int .i64 kk, .int .i64 need]) (by simp [results, Tryz.results28, go_sem, *]) rfl ?_
  replace n0 := n0.mono (S' := rng W.heap.size w1.heap.size) (fun b h => by unfold rng at h ⊢; (try simp at h); omega)
  exact ⟨[.slice B0 R.length j0, .int .i64 kk, .int .i64 need], rfl, by
    rw [HZ.out]
    exact Trust.mk' (x := ⟨R, kk, need⟩) (S0 := rng W.heap.size w1.heap.size) g0 h0 (show Row true _ B0 j0 R (rng W.heap.size w1.heap.size) from by (repeat (first | with_reducible exact n0 | with_reducible apply Row.drewC | with_reducible refine Row.allocC ?_ _ | with_reducible refine Row.setC ?_ ?_ _)); all_goals (intro h; unfold rng at h; (try simp at h); omega)) (fun b h => by unfold rng at h ⊢; simp; omega) fk hn, Below.trans hwW1 (Below.mono (show Below W1.heap.size W1 _ from (by (repeat (first | with_reducible exact hWW.trans (hB.mono hWl) | with_reducible apply Below.drew | with_reducible refine Below.alloc ?_ ?_ _ | with_reducible refine Below.setCell ?_ ?_ _)); all_goals (first | omega | (simp; done) | (simp; omega)))) (by omega))⟩
set_option maxRecDepth 20000 in set_option maxHeartbeats 8000000 in
theorem spec_TrustOf (w : World) (x : Wrld) (cs : List Value) (S : Blks) (hx : rd false w cs x S) (hz : x.sz ≤ 1048576) (need : Int) (hn : I64 need) : Calls Tryz.prog 26 #[.agg cs.toArray, .int .i64 need] w fun e w' => ∃ c : List Value, e = .returned (.agg c.toArray) ∧ rd true w' c (trustOf x need) (rng w.heap.size w'.heap.size) ∧ Below w.heap.size w w' := by
  have HRT := Lib.hid (fun W (h : Below w.heap.size w W) => spec_RootsOf W x cs S (Lay.later hx h) hz)
  obtain ⟨A0, k0, S0, A1, k1, S1, A2, k2, S2, A3, k3, S3, A4, k4, S4, A5, k5, S5, rfl, -, -, r0, -⟩ := Wrld.open hx
  clear hx hz
  have HZ0 := Lib.hid (fun h => trust_nil (x := x) (need := need) h)
  have HZ1 := Lib.hid (fun h => trust_cons (x := x) (need := need) h)
  simp only [Wrld.cs] at HRT ⊢
  obtain ⟨R, hR⟩ : ∃ R, rootsOf x = R := ⟨_, rfl⟩
  rw [hR] at HRT HZ1
  clear hR
  obtain ⟨V, hV⟩ : ∃ V, trustOf x need = V := ⟨_, rfl⟩
  rw [hV] at HZ0 HZ1 ⊢
  clear hV
  by_cases h0 : x.houses.length = 0
  · have HZ := Lib.hid (HZ0.out h0)
    rw [h0]
    have hq : ((x.houses.length : Int) == 0) = true := by rw [beq_iff_eq]; omega
    clear HZ0 HZ1 h0 HRT r0
    go_enter Tryz.func26, Tryz.ntmps26
    go_wp2
    refine bodyPost_ret (v := .agg #[.slice none 0 0, .int .i64 0, .int .i64 0]) (by simp [results, Tryz.results26, go_sem, *]) rfl ?_
    exact ⟨[.slice none 0 0, .int .i64 0, .int .i64 0], rfl, by rw [HZ.out]; exact Trust.mk' (x := ⟨[], 0, 0⟩) (by simp) (by decide) (row_nil _ none_) (none_sub _) (show I64 0 by unfold I64; omega) (show I64 0 by unfold I64; omega), by first | exact ((Below.refl _ _).alloc (Nat.le_refl _) _).alloc (by simp) _ | exact (((Below.refl _ _).alloc (Nat.le_refl _) _).alloc (by simp) _).setCell (by simp) _⟩
  have hpos : 0 < x.houses.length := by omega
  have HZ := Lib.hid (HZ1.out hpos)
  have hq : ((x.houses.length : Int) == 0) = false := by rw [beq_eq_false_iff_ne]; omega
  have hpi : (0 : Int) < (x.houses.length : Int) := by omega
  obtain ⟨b1, o1, rfl, hl1, qk, fk⟩ := house_k_at r0 hpos
  obtain ⟨kk, hkk⟩ : ∃ kk, (x.houses[0]).coord.k = kk := ⟨_, rfl⟩
  rw [hkk] at HZ qk fk
  simp only [Nat.zero_mul, Nat.add_zero] at qk
  clear hkk HZ0 HZ1 h0 r0
  go_enter Tryz.func26, Tryz.ntmps26
  go_wp2_with (fail)
  generalize hW1 : w.alloc (.cells #[_, _, _, _, _, _] _) = W1
  have hwW1 : Below w.heap.size w W1 := by rw [← hW1]; exact (Below.refl _ _).alloc (Nat.le_refl _) _
  have hWs1 : W1.heap.size = w.heap.size + 1 := by rw [← hW1]; simp
  have q0 : W1.cell? ⟨w.heap.size, 0, none⟩ = some (.slice (some ⟨b1, o1, none⟩) x.houses.length k0) := by rw [← hW1]; exact box_cell _ _ _ _ _ rfl
  have q1 : W1.cell? ⟨w.heap.size, 1, none⟩ = some (.slice A1 x.auditors.length k1) := by rw [← hW1]; exact box_cell _ _ _ _ _ rfl
  have q2 : W1.cell? ⟨w.heap.size, 2, none⟩ = some (.slice A2 x.notes.length k2) := by rw [← hW1]; exact box_cell _ _ _ _ _ rfl
  have q3 : W1.cell? ⟨w.heap.size, 3, none⟩ = some (.slice A3 x.given.length k3) := by rw [← hW1]; exact box_cell _ _ _ _ _ rfl
  have q4 : W1.cell? ⟨w.heap.size, 4, none⟩ = some (.slice A4 x.evil.length k4) := by rw [← hW1]; exact box_cell _ _ _ _ _ rfl
  have q5 : W1.cell? ⟨w.heap.size, 5, none⟩ = some (.slice A5 x.codes.length k5) := by rw [← hW1]; exact box_cell _ _ _ _ _ rfl
  replace qk := (hwW1.cell (p := ⟨b1, o1 + 1, none⟩) hl1).trans qk
  clear hW1
  generalize hW : W1.alloc (.cells #[_, _, _] _) = W
  have hWW : Below W1.heap.size W1 W := by rw [← hW]; exact (Below.refl _ _).alloc (Nat.le_refl _) _
  have hWs : W.heap.size = W1.heap.size + 1 := by rw [← hW]; simp
  have z0 : W.cell? ⟨w.heap.size + 1, 0, none⟩ = some (.slice none 0 0) := by rw [← hWs1, ← hW]; exact box_cell _ _ _ _ _ rfl
  have z1 : W.cell? ⟨w.heap.size + 1, 1, none⟩ = some (.int .i64 0) := by rw [← hWs1, ← hW]; exact box_cell _ _ _ _ _ rfl
  have z2 : W.cell? ⟨w.heap.size + 1, 2, none⟩ = some (.int .i64 0) := by rw [← hWs1, ← hW]; exact box_cell _ _ _ _ _ rfl
  have zf : ∀ o, W.frozen? ⟨w.heap.size + 1, o, none⟩ = false := by intro o; rw [← hWs1, ← hW]; simp
  clear hW
  have hWl : W1.heap.size ≤ W.heap.size := by omega
  have hB := Below.refl W.heap.size W
  have HM := Lib.hid (fun (w' : World) (h : Below W1.heap.size W1 w') => (⟨(h.cell (p := ⟨w.heap.size, 0, none⟩) (show w.heap.size < W1.heap.size by omega)).trans q0, (h.cell (p := ⟨w.heap.size, 1, none⟩) (show w.heap.size < W1.heap.size by omega)).trans q1, (h.cell (p := ⟨w.heap.size, 2, none⟩) (show w.heap.size < W1.heap.size by omega)).trans q2, (h.cell (p := ⟨w.heap.size, 3, none⟩) (show w.heap.size < W1.heap.size by omega)).trans q3, (h.cell (p := ⟨w.heap.size, 4, none⟩) (show w.heap.size < W1.heap.size by omega)).trans q4, (h.cell (p := ⟨w.heap.size, 5, none⟩) (show w.heap.size < W1.heap.size by omega)).trans q5, (h.cell (p := ⟨b1, o1 + 1, none⟩) (show b1 < W1.heap.size by omega)).trans qk, h⟩ : w'.cell? ⟨w.heap.size, 0, none⟩ = some (.slice (some ⟨b1, o1, none⟩) x.houses.length k0) ∧ w'.cell? ⟨w.heap.size, 1, none⟩ = some (.slice A1 x.auditors.length k1) ∧ w'.cell? ⟨w.heap.size, 2, none⟩ = some (.slice A2 x.notes.length k2) ∧ w'.cell? ⟨w.heap.size, 3, none⟩ = some (.slice A3 x.given.length k3) ∧ w'.cell? ⟨w.heap.size, 4, none⟩ = some (.slice A4 x.evil.length k4) ∧ w'.cell? ⟨w.heap.size, 5, none⟩ = some (.slice A5 x.codes.length k5) ∧ w'.cell? ⟨b1, o1 + 1, none⟩ = some (.int .i64 kk) ∧ Below W1.heap.size W1 w'))
  have hwW := hwW1.trans (hWW.mono (by omega))
  have HWW := Lib.hid hwW
  go_region_held3 (fun w' => w'.cell? ⟨w.heap.size, 0, none⟩ = some (.slice (some ⟨b1, o1, none⟩) x.houses.length k0) ∧ w'.cell? ⟨w.heap.size, 1, none⟩ = some (.slice A1 x.auditors.length k1) ∧ w'.cell? ⟨w.heap.size, 2, none⟩ = some (.slice A2 x.notes.length k2) ∧ w'.cell? ⟨w.heap.size, 3, none⟩ = some (.slice A3 x.given.length k3) ∧ w'.cell? ⟨w.heap.size, 4, none⟩ = some (.slice A4 x.evil.length k4) ∧ w'.cell? ⟨w.heap.size, 5, none⟩ = some (.slice A5 x.codes.length k5) ∧ w'.cell? ⟨b1, o1 + 1, none⟩ = some (.int .i64 kk) ∧ Below W1.heap.size W1 w')
      (first | exact HM.out _ (by (repeat (first | with_reducible exact hWW.trans (hB.mono hWl) | with_reducible apply Below.drew | with_reducible refine Below.alloc ?_ ?_ _ | with_reducible refine Below.setCell ?_ ?_ _)); all_goals (first | omega | (simp; done) | (simp; omega))))
      (first | (go_at_call 32; refine (HRT.out _ (HWW.out.trans (Below.mono (by first | exact hB | exact hB.drew) (by omega)))).mono ?_; rintro e1 w1 ⟨B0, j0, rfl, g0, h0, n0, hb1⟩; have hs1 := hb1.size; (try simp at hs1); have hB := Below.step (a := W) (by first | exact hB | exact hB.drew) hb1; have y20 := (hB.cell (p := ⟨w.heap.size + 1, 0, none⟩) (show w.heap.size + 1 < W.heap.size by omega)).trans z0; have y21 := (hB.cell (p := ⟨w.heap.size + 1, 1, none⟩) (show w.heap.size + 1 < W.heap.size by omega)).trans z1; have y22 := (hB.cell (p := ⟨w.heap.size + 1, 2, none⟩) (show w.heap.size + 1 < W.heap.size by omega)).trans z2; have yf2 := fun o => (hB.frozen (p := ⟨w.heap.size + 1, o, none⟩) (show w.heap.size + 1 < W.heap.size by omega)).trans (zf o)) | fail)
  go_wp2
  refine bodyPost_ret (v := .agg #[.slice B0 R.length j0, .int .i64 kk, .int .i64 need]) (by simp [results, Tryz.results26, go_sem, *]) rfl ?_
  replace n0 := n0.mono (S' := rng W.heap.size w1.heap.size) (fun b h => by unfold rng at h ⊢; (try simp at h); omega)
  exact ⟨[.slice B0 R.length j0, .int .i64 kk, .int .i64 need], rfl, by
    rw [HZ.out]
    exact Trust.mk' (x := ⟨R, kk, need⟩) (S0 := rng W.heap.size w1.heap.size) g0 h0 (show Row true _ B0 j0 R (rng W.heap.size w1.heap.size) from by (repeat (first | with_reducible exact n0 | with_reducible apply Row.drewC | with_reducible refine Row.allocC ?_ _ | with_reducible refine Row.setC ?_ ?_ _)); all_goals (intro h; unfold rng at h; (try simp at h); omega)) (fun b h => by unfold rng at h ⊢; simp; omega) fk hn, Below.trans hwW1 (Below.mono (show Below W1.heap.size W1 _ from (by (repeat (first | with_reducible exact hWW.trans (hB.mono hWl) | with_reducible apply Below.drew | with_reducible refine Below.alloc ?_ ?_ _ | with_reducible refine Below.setCell ?_ ?_ _)); all_goals (first | omega | (simp; done) | (simp; omega)))) (by omega))⟩
end Go.Proofs.YthgonaodmpegfaaGreatDoor
