/- Walks: the changes that wait. -/
import Derived.Test.YtbnfkpbaaoknmaaFd
set_option linter.unusedVariables false
set_option linter.unusedSimpArgs false
namespace Go.Proofs.Ytbnfkpbaaoknmaa
open Go.RowKit Lay Mk
def takenOf (x : Server) : Int := if x.taken = [] then 0 else x.taken.getD (x.taken.length - 1) 0
def waitsOf (x : Server) : List Change := if takenOf x < 0 then [] else x.all.drop (takenOf x).toNat
theorem cnL_change : ∀ xs : List Change, cnL xs = 3 * xs.length
  | [] => rfl
  | x :: xs => by have := cnL_change xs; simp only [cnL, List.map_cons, List.sum_cons, List.length_cons] at *; show 3 + _ = _; omega
theorem waitsOf_len (x : Server) : (waitsOf x).length ≤ x.all.length := by unfold waitsOf; split <;> simp
theorem server_all (x : Server) (hz : x.sz ≤ 1048576) : x.all.length ≤ 1048576 := by
  have h1 : szL x.all ≤ x.sz := by simp only [Server.sz]; omega
  have := szT_le x.all 0
  omega
theorem server_taken (x : Server) (hz : x.sz ≤ 1048576) : x.taken.length ≤ 1048576 := by
  have h1 : szL x.taken ≤ x.sz := by simp only [Server.sz]; omega
  have := szT_le x.taken 0
  omega
theorem cnb_waitsOf (x : Server) (hz : x.sz ≤ 1048576) : cnL (waitsOf x) ≤ 1000000000000 := by
  rw [cnL_change]
  have := waitsOf_len x
  have := server_all x hz
  omega
theorem src_drop {α : Type} [Lay α] [Flat α] {m : Bool} {w : World} {b off cap : Nat} {xs : List α} {S : Blks} (h : Row m w (some ⟨b, off, none⟩) cap xs S) {k : Nat} (hk : k < xs.length) : Src w (some ⟨b, off + k * Lay.n α, none⟩) (xs.drop k) none_ := by
  have hs := Src.flat h (by rintro rfl; simp at hk)
  obtain ⟨b2, o2, e, T, h1, h2, h3⟩ := hs
  injection e with e
  injection e with e1 e2
  subst e1; subst e2
  intro _
  refine ⟨b, off + k * Lay.n α, rfl, fun i => T (i + k), fun i => h1 _, fun hm i j hij => h2 hm _ _ (by omega), fun i hi => ?_⟩
  have hi' : i + k < xs.length := by simp at hi; omega
  obtain ⟨cs, h4, h5⟩ := h3 (i + k) hi'
  refine ⟨cs, ?_, ?_⟩
  · have e : off + (i + k) * Lay.n α = off + k * Lay.n α + i * Lay.n α := by rw [Nat.add_mul]; omega
    rw [e] at h4; exact h4
  · rw [List.getElem_drop]; simpa [Nat.add_comm] using h5
theorem takenOf_nil {x : Server} (h : x.taken = []) : takenOf x = 0 := by simp [takenOf, h]
theorem takenOf_last {x : Server} {k : Nat} (h : x.taken.length = k + 1) : takenOf x = x.taken[k] := by
  have hn : x.taken ≠ [] := by intro e; rw [e] at h; simp at h
  simp [takenOf, hn, h, List.getD]

set_option maxRecDepth 20000 in set_option maxHeartbeats 4000000 in
theorem impl_takenOf (w : World) (x : Server) (cs : List Value) (S : Blks) (hx : rd false w cs x S) (hsz : x.sz ≤ 1048576) : Calls Try.prog 89 #[.agg cs.toArray] w fun e w' => e = .returned (.int .i64 (takenOf x)) ∧ Below w.heap.size w w' := by
  have hlt := server_taken x hsz
  obtain ⟨A0, k0, S0, A1, k1, S1, A2, k2, S2, A3, k3, S3, rfl, f0, f1, f4, f8, f9, f10, a0, b0, r0, s0, a1, b1, r1, s1, a2, b2, r2, s2, a3, b3, r3, s3, pw⟩ := Server.open hx
  clear hx r0 r1 r3 s0 s1 s3 pw a0 b0 a1 b1 a3 b3 S0 S1 S3
  simp only [Server.cs]
  rcases Nat.eq_zero_or_pos x.taken.length with h0 | h0
  · have HT := Lib.hid (takenOf_nil (List.eq_nil_of_length_eq_zero h0))
    have h1 : ((x.taken.length : Int) == 0) = true := by simp [h0]
    clear h0
    go_enter Try.func89, Try.ntmps89
    go_wp2
    go_ret
    exact ⟨ret_int (by rw [HT.out]), (Below.refl _ _).alloc (Nat.le_refl _) _⟩
  · obtain ⟨k, hk⟩ : ∃ k, x.taken.length = k + 1 := ⟨x.taken.length - 1, by omega⟩
    have HT := Lib.hid (takenOf_last hk)
    have hkl : k < x.taken.length := by omega
    obtain ⟨b4, o4, rfl, hl4, g0, g1⟩ := Row.int r2 hkl
    obtain ⟨v, hv⟩ : ∃ v, x.taken[k] = v := ⟨_, rfl⟩
    rw [hv] at g0 g1 HT
    clear hv
    have h1 : ((x.taken.length : Int) == 0) = false := by rw [beq_eq_false_iff_ne]; omega
    have h2 : (x.taken.length : Int) - 1 = (k : Int) := by omega
    have hn : x.taken.length ≠ 0 := by omega
    clear h0
    go_enter Try.func89, Try.ntmps89
    go_wp2
    go_ret
    exact ⟨ret_int (by rw [HT.out]), (Below.refl _ _).alloc (Nat.le_refl _) _⟩

set_option maxRecDepth 20000 in set_option maxHeartbeats 8000000 in
theorem impl_WaitsOf (w : World) (x : Server) (cs : List Value) (S : Blks) (hx : rd false w cs x S) (hsz : x.sz ≤ 1048576) : Calls Try.prog 34 #[.agg cs.toArray] w fun e w' => ∃ A' cap', e = .returned (.slice A' (waitsOf x).length cap') ∧ (waitsOf x).length ≤ cap' ∧ cap' ≤ maxLen ∧ Row true w' A' cap' (waitsOf x) (rng w.heap.size w'.heap.size) ∧ Below w.heap.size w w' := by
  have hla := server_all x hsz
  have hT : ∀ W, rd false W cs x S → Calls Try.prog 89 #[.agg cs.toArray] W _ := fun W h => impl_takenOf W x cs S h hsz
  have hx0 := hx
  obtain ⟨A0, k0, S0, A1, k1, S1, A2, k2, S2, A3, k3, S3, rfl, f0, f1, f4, f8, f9, f10, a0, b0, r0, s0, a1, b1, r1, s1, a2, b2, r2, s2, a3, b3, r3, s3, pw⟩ := Server.open hx
  have HX := Lib.hid hx0
  clear hx hx0 r0 r1 r2 s0 s1 s2 pw a0 b0 a1 b1 a2 b2 S0 S1 S2
  simp only [Server.cs] at hT ⊢
  go_enter Try.func34, Try.ntmps34
  go_wp2_with (fail)
  refine (hT _ (Lay.later HX.out ((Below.refl _ _).alloc (Nat.le_refl _) _))).mono ?_
  rintro e1 w1 ⟨rfl, hb1⟩
  have hB : Below w.heap.size w w1 := ((Below.refl _ _).alloc (Nat.le_refl _) _).trans (hb1.mono (by simp))
  have hz := hb1.size
  simp at hz
  have hc1 := fun o => hb1.cell (p := ⟨w.heap.size, o, none⟩) (by simp)
  have hzl : w.heap.size ≤ w1.heap.size := by omega
  replace r3 := Row.later r3 hB
  clear hT
  by_cases hneg : takenOf x < 0
  · have HW : Hid (waitsOf x = []) := Lib.hid (by simp [waitsOf, hneg])
    go_wp2
    go_ret
    exact ⟨none, 0, by rw [HW.out]; rfl, by rw [HW.out]; simp, by decide, by rw [HW.out]; exact row_nil _ _, hB⟩
  · obtain ⟨k, hk⟩ : ∃ k : Nat, takenOf x = (k : Int) := ⟨(takenOf x).toNat, by omega⟩
    have HW : Hid (waitsOf x = x.all.drop k) := Lib.hid (by unfold waitsOf; rw [if_neg hneg, hk]; rfl)
    rw [hk]
    clear hneg hk
    by_cases hlt : k < x.all.length
    · obtain ⟨b4, o4, e4, hl4, _⟩ := Row.atChange r3 hlt
      subst e4
      have hsrc := src_drop r3 hlt
      rw [show Lay.n Change = 3 from rfl] at hsrc
      have hmin : min (k : Int) (x.all.length : Int) = k := by omega
      have hne : ¬ k3 = k := by omega
      have h3 : (x.all.length : Int) - (k : Int) = ((x.all.length - k : Nat) : Int) := by omega
      have hlen : x.all.length - k = (x.all.drop k).length := by simp
      have HLn := Lib.hid hlen; clear hlen
      go_wp2_with (at_builtin; refine wpList_app (α := Change) rfl _ _ rfl rfl rfl (row_nil _ none_) (by simp) (by decide) rfl (by simp) hsrc (disj_none_ _) (by omega) ?_; intro A' cap' w' h1 h2 h3 h4)
      go_ret
      have h5 := h4.to_below (B := w1.heap.size) (Nat.le_refl _) (fun b h => h.elim)
      refine ⟨A', cap', ret_slice (by rw [HW.out, ← HLn.out]), ?_, h2, ?_, hB.trans (h5.mono hzl)⟩
      · rw [HW.out, ← HLn.out]; simpa using h1
      · rw [HW.out]; simpa using row_up h3 (B := w.heap.size) (fun b h => h.elim) (fun b h => h.elim) hzl
    · have HW2 : Hid (waitsOf x = []) := Lib.hid (by rw [HW.out, List.drop_eq_nil_iff]; omega)
      rcases (show k = x.all.length ∨ x.all.length < k by omega) with hke | hgt
      · subst hke
        clear hlt
        go_wp2_with (at_builtin; refine wpList_app (α := Change) (ys := []) rfl _ _ rfl rfl rfl (row_nil _ none_) (by simp) (by decide) rfl (by simp) (fun h => absurd rfl h) (disj_none_ none_) (by simp) ?_; intro A' cap' w' h1 h2 h3 h4)
        all_goals
          go_ret
          have h5 := h4.to_below (B := w1.heap.size) (Nat.le_refl _) (fun b h => h.elim)
          refine ⟨A', cap', ret_slice (by rw [HW2.out]; simp), ?_, h2, ?_, hB.trans (h5.mono hzl)⟩
          · rw [HW2.out]; simp
          · rw [HW2.out]; simpa using row_up h3 (B := w.heap.size) (fun b h => h.elim) (fun b h => h.elim) hzl
      · clear hlt
        have hgt2 : ¬ k ≤ x.all.length := by omega
        go_wp2_with (at_builtin; refine wpList_app (α := Change) (ys := []) rfl _ _ rfl rfl rfl (row_nil _ none_) (by simp) (by decide) rfl (by simp) (fun h => absurd rfl h) (disj_none_ none_) (by simp) ?_; intro A' cap' w' h1 h2 h3 h4)
        all_goals
          go_ret
          have h5 := h4.to_below (B := w1.heap.size) (Nat.le_refl _) (fun b h => h.elim)
          refine ⟨A', cap', ret_slice (by rw [HW2.out]; simp), ?_, h2, ?_, hB.trans (h5.mono hzl)⟩
          · rw [HW2.out]; simp
          · rw [HW2.out]; simpa using row_up h3 (B := w.heap.size) (fun b h => h.elim) (fun b h => h.elim) hzl

theorem drop_step {xs : List Change} {f j : Nat} (h : j < xs.length) (hf : f ≤ j) : (xs.take (j + 1)).drop f = (xs.take j).drop f ++ [xs[j]] := by
  rw [List.take_succ_eq_append_getElem h, List.drop_append_of_le_length (by simp; omega)]
set_option maxRecDepth 20000 in set_option maxHeartbeats 8000000 in
theorem spec_WaitsOf (w : World) (x : Server) (cs : List Value) (S : Blks) (hx : rd false w cs x S) (hsz : x.sz ≤ 1048576) : Calls Try.prog 32 #[.agg cs.toArray] w fun e w' => ∃ A' cap', e = .returned (.slice A' (waitsOf x).length cap') ∧ (waitsOf x).length ≤ cap' ∧ cap' ≤ maxLen ∧ Row true w' A' cap' (waitsOf x) (rng w.heap.size w'.heap.size) ∧ Below w.heap.size w w' := by
  have hla := server_all x hsz
  have hlt := server_taken x hsz
  obtain ⟨A0, k0, S0, A1, k1, S1, A2, k2, S2, A3, k3, S3, rfl, f0, f1, f4, f8, f9, f10, a0, b0, r0, s0, a1, b1, r1, s1, a2, b2, r2, s2, a3, b3, r3, s3, pw⟩ := Server.open hx
  clear hx r0 r1 s0 s1 s2 s3 pw a0 b0 a1 b1 S0 S1
  simp only [Server.cs]
  rcases Nat.eq_zero_or_pos x.taken.length with h0 | h0
  · have ht : takenOf x = 0 := takenOf_nil (List.eq_nil_of_length_eq_zero h0)
    have hWt : Hid (waitsOf x = x.all.drop 0) := Lib.hid (by simp [waitsOf, ht])
    have h1 : decide ((0 : Int) < (x.taken.length : Int)) = false := by rw [decide_eq_false_iff_not]; omega
    have h0n : ¬ 0 < x.taken.length := by omega
    clear ht r2 h0
    go_enter Try.func32, Try.ntmps32
    go_wp2
    clear h1 h0n
    generalize hW : w.alloc (.cells #[_, _, _, _, _, _, _, _, _, _, _] _) = W
    have hWB : Below w.heap.size w W := by rw [← hW]; exact (Below.refl _ _).alloc (Nat.le_refl _) _
    have hWs : w.heap.size < W.heap.size := by rw [← hW]; simp
    have q7 : W.cell? ⟨w.heap.size, 7, none⟩ = some (.slice A3 x.all.length k3) := by rw [← hW]; exact box_cell _ _ _ _ _ rfl
    have hWe : Hid (w.heap.size + 1 = W.heap.size) := Lib.hid (by rw [← hW]; simp)
    clear hW
    replace r3 := Row.later r3 hWB
    have hWl : w.heap.size ≤ W.heap.size := by omega
    go_loopw [3, 5] (fun u i wr => ∃ (j : Nat) (ys : List Change) (A : Option Addr) (cap : Nat), 0 ≤ j ∧ (j ≤ x.all.length ∨ j = 0) ∧ i = .int .i64 j ∧ u = .slice A ys.length cap ∧ Hid (ys = (x.all.take j).drop 0) ∧ ys.length ≤ x.all.length ∧ ys.length ≤ cap ∧ cap ≤ maxLen ∧ Row true wr A cap ys (nw W.heap.size) ∧ Below W.heap.size W wr) (fun _ i _ => x.all.length - (intOf i).toNat)
    case atStart => exact ⟨0, [], _, _, by omega, .inr rfl, by first | rfl | simp, rfl, Lib.hid (by symm; rw [List.drop_eq_nil_iff]; first | (simp; done) | (simp; omega)), by simp, by simp, by decide, row_lit0b _ _ _ _ hWe.out rfl (Nat.le_refl _), (Below.refl _ _).alloc (Nat.le_refl _) _⟩
    case round =>
      obtain ⟨j, ys, A, cap, hj1, hj2, rfl, rfl, hys, hyk, hle, hcm2, hrow, hb⟩ := hrel
      have hz := hb.size
      have q7' := (hb.cell (p := ⟨w.heap.size, 7, none⟩) hWs).trans q7
      have hnn : decide ((0 : Int) ≤ (j : Int)) = true := by simp
      by_cases hlt : j < x.all.length
      · obtain ⟨b5, o5, e5, hl5, c0, c1, c2, t0, t1, t2⟩ := Row.atChange r3 hlt
        subst e5
        replace c0 := (hb.cell (p := ⟨b5, o5 + j * 3, none⟩) hl5).trans c0
        replace c1 := (hb.cell (p := ⟨b5, o5 + j * 3 + 1, none⟩) hl5).trans c1
        replace c2 := (hb.cell (p := ⟨b5, o5 + j * 3 + 2, none⟩) hl5).trans c2
        have hY := Lib.hid (drop_step hlt hj1)
        have hlen : ((x.all.take (j + 1)).drop 0).length ≤ x.all.length := by simp; omega
        obtain ⟨s, hss⟩ : ∃ s, x.all[j] = s := ⟨_, rfl⟩
        rw [hss] at c0 c1 c2 t0 t1 t2 hY
        rw [hY.out, ← hys.out] at hlen
        clear hss
        simp only [List.length_append, List.length_cons, List.length_nil] at hlen
        have hok : Flat.ok s := (⟨t0, t1, t2⟩ : I64 s.id ∧ s.name.size ≤ maxLen ∧ s.value.size ≤ maxLen)
        have hz2 : W.heap.size ≤ (wr.alloc (.cells #[.int .i64 s.id, .string s.name, .string s.value] 30)).heap.size := by simp; omega
        go_wp2_with (at_builtin; refine wpList_app (α := Change) rfl _ _ rfl rfl rfl (hrow.allocC _) hle hcm2 rfl rfl (src_newb _ s hok _ _ _ (by first | rfl | simp) rfl) (disj_none_ _) (by omega) ?_; intro A' cap' w' h1 h2 h3 h4)
        go_roundw
        case rel => exact ⟨j + 1, ys ++ [s], A', cap', by omega, .inl (by omega), by go_num, by simp, Lib.hid (by rw [hY.out, hys.out]), by simp; omega, by simpa using h1, h2, row_step h3 hz2, (hb.alloc hz _).trans (h4.nw hz2 (sub_refl _))⟩
        case measure => simp [intOf]; omega
      · have hyy : ys = waitsOf x := by rw [hys.out, hWt.out, List.take_of_length_le (by omega)]
        have hd : decide ((j : Int) < (x.all.length : Int)) = false := by simp; omega
        subst hyy
        go_wp2
        go_ret
        exact ⟨A, cap, rfl, hle, hcm2, (to_rng hrow).mono (rngS hWl (Nat.le_refl _)), hWB.trans (hb.mono hWl)⟩
  · obtain ⟨k, hk⟩ : ∃ k, x.taken.length = k + 1 := ⟨x.taken.length - 1, by omega⟩
    have ht := takenOf_last hk
    have hkl : k < x.taken.length := by omega
    obtain ⟨b4, o4, e4, hl4, g0, g1⟩ := Row.int r2 hkl
    subst e4
    obtain ⟨v, hv⟩ : ∃ v, x.taken[k] = v := ⟨_, rfl⟩
    rw [hv] at g0 g1 ht
    clear hv r2
    have h1 : decide ((0 : Int) < (x.taken.length : Int)) = true := by rw [decide_eq_true_eq]; omega
    have h2 : (x.taken.length : Int) - 1 = (k : Int) := by omega
    by_cases hneg : v < 0
    · have hWt : Hid (waitsOf x = []) := Lib.hid (by simp [waitsOf, ht, hneg])
      clear ht
      go_enter Try.func32, Try.ntmps32
      go_wp2
      clear h1 h2 hk h0 hkl
      generalize hW : w.alloc (.cells #[_, _, _, _, _, _, _, _, _, _, _] _) = W
      have hWB : Below w.heap.size w W := by rw [← hW]; exact (Below.refl _ _).alloc (Nat.le_refl _) _
      have hWs : w.heap.size < W.heap.size := by rw [← hW]; simp
      have q7 : W.cell? ⟨w.heap.size, 7, none⟩ = some (.slice A3 x.all.length k3) := by rw [← hW]; exact box_cell _ _ _ _ _ rfl
      have hWe : Hid (w.heap.size + 1 = W.heap.size) := Lib.hid (by rw [← hW]; simp)
      clear hW
      replace r3 := Row.later r3 hWB
      have hWl : w.heap.size ≤ W.heap.size := by omega
      go_loopw [3, 5] (fun u i wr => ∃ (A : Option Addr) (cap : Nat), i = .int .i64 v ∧ u = .slice A 0 cap ∧ cap ≤ maxLen ∧ Row (α := Change) true wr A cap [] (nw W.heap.size) ∧ Below W.heap.size W wr) (fun _ _ _ => 0)
      case atStart => exact ⟨_, _, rfl, rfl, by decide, row_lit0b _ _ _ _ hWe.out rfl (Nat.le_refl _), (Below.refl _ _).alloc (Nat.le_refl _) _⟩
      case round =>
        obtain ⟨A, cap, rfl, rfl, hcm2, hrow, hb⟩ := hrel
        have hnn : decide ((0 : Int) ≤ v) = false := by rw [decide_eq_false_iff_not]; omega
        go_wp2
        go_ret
        exact ⟨A, cap, ret_slice (by rw [hWt.out]; rfl), by rw [hWt.out]; simp, hcm2, by rw [hWt.out]; exact (to_rng hrow).mono (rngS hWl (Nat.le_refl _)), hWB.trans (hb.mono hWl)⟩
    · obtain ⟨f, rfl⟩ : ∃ f : Nat, v = (f : Int) := ⟨v.toNat, by omega⟩
      have hWt : Hid (waitsOf x = x.all.drop f) := Lib.hid (by unfold waitsOf; rw [ht, if_neg hneg]; rfl)
      clear ht hneg
      go_enter Try.func32, Try.ntmps32
      go_wp2
      clear h1 h2 hk h0 hkl
      generalize hW : w.alloc (.cells #[_, _, _, _, _, _, _, _, _, _, _] _) = W
      have hWB : Below w.heap.size w W := by rw [← hW]; exact (Below.refl _ _).alloc (Nat.le_refl _) _
      have hWs : w.heap.size < W.heap.size := by rw [← hW]; simp
      have q7 : W.cell? ⟨w.heap.size, 7, none⟩ = some (.slice A3 x.all.length k3) := by rw [← hW]; exact box_cell _ _ _ _ _ rfl
      have hWe : Hid (w.heap.size + 1 = W.heap.size) := Lib.hid (by rw [← hW]; simp)
      clear hW
      replace r3 := Row.later r3 hWB
      have hWl : w.heap.size ≤ W.heap.size := by omega
      go_loopw [3, 5] (fun u i wr => ∃ (j : Nat) (ys : List Change) (A : Option Addr) (cap : Nat), f ≤ j ∧ (j ≤ x.all.length ∨ j = f) ∧ i = .int .i64 j ∧ u = .slice A ys.length cap ∧ Hid (ys = (x.all.take j).drop f) ∧ ys.length ≤ x.all.length ∧ ys.length ≤ cap ∧ cap ≤ maxLen ∧ Row true wr A cap ys (nw W.heap.size) ∧ Below W.heap.size W wr) (fun _ i _ => x.all.length - (intOf i).toNat)
      case atStart => exact ⟨f, [], _, _, by omega, .inr rfl, by first | rfl | simp, rfl, Lib.hid (by symm; rw [List.drop_eq_nil_iff]; first | (simp; done) | (simp; omega)), by simp, by simp, by decide, row_lit0b _ _ _ _ hWe.out rfl (Nat.le_refl _), (Below.refl _ _).alloc (Nat.le_refl _) _⟩
      case round =>
        obtain ⟨j, ys, A, cap, hj1, hj2, rfl, rfl, hys, hyk, hle, hcm2, hrow, hb⟩ := hrel
        have hz := hb.size
        have q7' := (hb.cell (p := ⟨w.heap.size, 7, none⟩) hWs).trans q7
        have hnn : decide ((0 : Int) ≤ (j : Int)) = true := by simp
        by_cases hlt : j < x.all.length
        · obtain ⟨b5, o5, e5, hl5, c0, c1, c2, t0, t1, t2⟩ := Row.atChange r3 hlt
          subst e5
          replace c0 := (hb.cell (p := ⟨b5, o5 + j * 3, none⟩) hl5).trans c0
          replace c1 := (hb.cell (p := ⟨b5, o5 + j * 3 + 1, none⟩) hl5).trans c1
          replace c2 := (hb.cell (p := ⟨b5, o5 + j * 3 + 2, none⟩) hl5).trans c2
          have hY := Lib.hid (drop_step hlt hj1)
          have hlen : ((x.all.take (j + 1)).drop f).length ≤ x.all.length := by simp; omega
          obtain ⟨s, hss⟩ : ∃ s, x.all[j] = s := ⟨_, rfl⟩
          rw [hss] at c0 c1 c2 t0 t1 t2 hY
          rw [hY.out, ← hys.out] at hlen
          clear hss
          simp only [List.length_append, List.length_cons, List.length_nil] at hlen
          have hok : Flat.ok s := (⟨t0, t1, t2⟩ : I64 s.id ∧ s.name.size ≤ maxLen ∧ s.value.size ≤ maxLen)
          have hz2 : W.heap.size ≤ (wr.alloc (.cells #[.int .i64 s.id, .string s.name, .string s.value] 30)).heap.size := by simp; omega
          go_wp2_with (at_builtin; refine wpList_app (α := Change) rfl _ _ rfl rfl rfl (hrow.allocC _) hle hcm2 rfl rfl (src_newb _ s hok _ _ _ (by first | rfl | simp) rfl) (disj_none_ _) (by omega) ?_; intro A' cap' w' h1 h2 h3 h4)
          go_roundw
          case rel => exact ⟨j + 1, ys ++ [s], A', cap', by omega, .inl (by omega), by go_num, by simp, Lib.hid (by rw [hY.out, hys.out]), by simp; omega, by simpa using h1, h2, row_step h3 hz2, (hb.alloc hz _).trans (h4.nw hz2 (sub_refl _))⟩
          case measure => simp [intOf]; omega
        · have hyy : ys = waitsOf x := by rw [hys.out, hWt.out, List.take_of_length_le (by omega)]
          have hd : decide ((j : Int) < (x.all.length : Int)) = false := by simp; omega
          subst hyy
          go_wp2
          go_ret
          exact ⟨A, cap, rfl, hle, hcm2, (to_rng hrow).mono (rngS hWl (Nat.le_refl _)), hWB.trans (hb.mono hWl)⟩

end Go.Proofs.Ytbnfkpbaaoknmaa
