/- Walks: the leaves that stand ready. -/
import Derived.Test.YtaggkipbogphgaaLa
set_option linter.unusedVariables false
set_option linter.unusedSimpArgs false
namespace Go.Proofs.Ytaggkipbogphgaa
open Go.RowKit Lay Mk
theorem row_take {α : Type} [Lay α] {w : World} {A : Option Addr} {cap : Nat} {xs : List α} {S : Blks} (h : Row false w A cap xs S) (cap' k : Nat) : Row false w A cap' (xs.take k) S := by
  intro hx
  obtain ⟨b, off, e, hS, T, h1, h2, h3⟩ := h (by rintro rfl; simp at hx)
  refine ⟨b, off, e, hS, T, h1, h2, fun i hi => ?_⟩
  have hi' : i < xs.length := by simp at hi; omega
  obtain ⟨cs, h4, h5⟩ := h3 i hi'
  exact ⟨cs, h4, by rw [List.getElem_take]; exact h5⟩
theorem szL_take_le {α : Type} [Lay α] [Mk α] (xs : List α) (k : Nat) : szL (xs.take k) ≤ szL xs := by
  unfold szL
  rw [List.map_take]
  have := sum_take_le (xs.map sz) k
  have : (xs.take k).length ≤ xs.length := by simp; omega
  omega
def readyTake (x : Server) : Nat := (max 0 (min x.ready.take (x.all.length : Int))).toNat
def readyLeaves (x : Server) : List Leaf := applyAll [] (x.all.take (readyTake x))
theorem serverAll_sz (x : Server) (hz : x.sz ≤ 1048576) : szL x.all ≤ 1048576 := by simp only [Server.sz] at hz; omega
theorem readyAll_len (x : Server) (hz : x.sz ≤ 1048576) : x.all.length ≤ 1048576 := by
  have := serverAll_sz x hz
  have := szT_le x.all 0
  omega
theorem readyTake_le (x : Server) : readyTake x ≤ x.all.length := by unfold readyTake; omega
theorem cnb_readyLeaves (x : Server) (hz : x.sz ≤ 1048576) : cnL (readyLeaves x) ≤ 1000000000000 :=
  cnb_applyAll _ _ (by simp [szL]) (Nat.le_trans (szL_take_le _ _) (serverAll_sz x hz))

set_option maxRecDepth 20000 in set_option maxHeartbeats 8000000 in
theorem impl_ReadyLeaves (w : World) (x : Server) (cs : List Value) (S : Blks) (hx : rd false w cs x S) (hsz : x.sz ≤ 1048576) : Calls Try.prog 8 #[.agg cs.toArray] w fun e w' => ∃ A' cap', e = .returned (.slice A' (readyLeaves x).length cap') ∧ (readyLeaves x).length ≤ cap' ∧ cap' ≤ maxLen ∧ Row true w' A' cap' (readyLeaves x) (rng w.heap.size w'.heap.size) ∧ Below w.heap.size w w' := by
  have hla := readyAll_len x hsz
  have hsa := serverAll_sz x hsz
  have hrl := readyTake_le x
  obtain ⟨A0, k0, S0, A1, k1, S1, A2, k2, S2, A3, k3, S3, rfl, f0, f1, f4, f8, f9, f10, a0, b0, r0, s0, a1, b1, r1, s1, a2, b2, r2, s2, a3, b3, r3, s3, pw⟩ := Server.open hx
  clear hx r0 r1 r2 s0 s1 s2 pw a0 b0 a1 b1 a2 b2 S0 S1 S2
  simp only [Server.cs]
  have hm : max (0 : Int) (min x.ready.take (x.all.length : Int)) = ((readyTake x : Nat) : Int) := by unfold readyTake; omega
  have HR : Hid (readyLeaves x = applyAll [] (x.all.take (readyTake x))) := Lib.hid rfl
  have hlen : readyTake x = (x.all.take (readyTake x)).length := by simp; omega
  have HLn := Lib.hid hlen; clear hlen
  have hcap : readyTake x ≤ k3 := by omega
  have hsT : Hid (szL (x.all.take (readyTake x)) ≤ 1048576) := Lib.hid (Nat.le_trans (szL_take_le _ _) hsa)
  obtain ⟨r, hr⟩ : ∃ r, readyTake x = r := ⟨_, rfl⟩
  rw [hr] at hm HR HLn hcap hrl hsT
  clear hr
  go_enter Try.func8, Try.ntmps8
  go_wp2_with (fail)
  rw [HLn.out]
  refine (impl_ApplyAll _ [] none 0 none_ (Row.weak (row_nil _ _)) (by simp) (by decide) (by simp [szL]) (x.all.take r) A3 k3 S3 (row_take (Row.later r3 ((Below.refl _ _).alloc (Nat.le_refl _) _)) _ _) (by rw [← HLn.out]; exact hcap) b3 hsT.out).mono ?_
  rintro e1 w1 ⟨A', cap', rfl, h1, h2, h3, hb⟩
  have hB : Below w.heap.size w w1 := ((Below.refl _ _).alloc (Nat.le_refl _) _).trans (hb.mono (by simp))
  go_wp2
  go_ret
  exact ⟨A', cap', ret_slice (by rw [HR.out]), by rw [HR.out]; exact h1, h2, by rw [HR.out]; exact h3.mono (rngS (by simp) (Nat.le_refl _)), hB⟩

theorem spec_AllTake (w : World) (A0 : Option Addr) (cap0 : Nat) (S : Blks) (hx : Row false w A0 cap0 ([] : List Leaf) S) (hcm : cap0 ≤ maxLen) (us : List Change) (Au : Option Addr) (capu : Nat) (Su : Blks) (hu : Row false w Au capu us Su) (hle : us.length ≤ capu) (hcmu : capu ≤ maxLen) (hzu : szL us ≤ 1048576) (k : Nat) (hk : k ≤ us.length) : Calls Try.prog 23 #[.slice A0 0 cap0, .slice Au k capu] w fun e w' => ∃ A' cap', e = .returned (.slice A' (applyAll [] (us.take k)).length cap') ∧ (applyAll [] (us.take k)).length ≤ cap' ∧ cap' ≤ maxLen ∧ Row true w' A' cap' (applyAll [] (us.take k)) (rng w.heap.size w'.heap.size) ∧ Below w.heap.size w w' := by
  have hlk : (us.take k).length = k := by simp; omega
  have h := spec_ApplyAll w [] A0 cap0 S hx (by simp) hcm (by simp [szL]) (us.take k) Au capu Su (row_take hu _ _) (by rw [hlk]; omega) hcmu (Nat.le_trans (szL_take_le _ _) hzu)
  rw [hlk] at h
  exact h

set_option maxRecDepth 20000 in set_option maxHeartbeats 4000000 in
theorem spec_ReadyA (w : World) (x : Server) (cs : List Value) (S : Blks) (hx : rd false w cs x S) (hsz : x.sz ≤ 1048576) (c1 : (x.all.length : Int) < x.ready.take) (hr : readyTake x = x.all.length) : Calls Try.prog 6 #[.agg cs.toArray] w fun e w' => ∃ A' cap', e = .returned (.slice A' (readyLeaves x).length cap') ∧ (readyLeaves x).length ≤ cap' ∧ cap' ≤ maxLen ∧ Row true w' A' cap' (readyLeaves x) (rng w.heap.size w'.heap.size) ∧ Below w.heap.size w w' := by
  have hla := readyAll_len x hsz
  have hsa := serverAll_sz x hsz
  obtain ⟨A0, k0, S0, A1, k1, S1, A2, k2, S2, A3, k3, S3, rfl, f0, f1, f4, f8, f9, f10, a0, b0, r0, s0, a1, b1, r1, s1, a2, b2, r2, s2, a3, b3, r3, s3, pw⟩ := Server.open hx
  clear hx r0 r1 r2 s0 s1 s2 pw a0 b0 a1 b1 a2 b2 S0 S1 S2
  simp only [Server.cs]
  have HR : Hid (readyLeaves x = applyAll [] (x.all.take x.all.length)) := Lib.hid (by unfold readyLeaves; rw [hr])
  clear hr
  have d1 : decide ((x.all.length : Int) < x.ready.take) = true := by simpa using c1
  have d2 : decide ((x.all.length : Int) < 0) = false := by rw [decide_eq_false_iff_not]; omega
  go_enter Try.func6, Try.ntmps6
  go_wp2_with (fail)
  refine (spec_AllTake _ _ 0 (nw w.heap.size) (Row.weak (row_lit0b _ _ _ _ (by first | rfl | simp) rfl (by unfold nw; simp))) (by decide) x.all A3 k3 S3 (Row.later r3 (((Below.refl _ _).alloc (Nat.le_refl _) _).alloc (by simp) _)) a3 b3 hsa x.all.length (by omega)).mono ?_
  rintro e1 w1 ⟨A', cap', rfl, h1, h2, h3, hb⟩
  have hB : Below w.heap.size w w1 := (((Below.refl _ _).alloc (Nat.le_refl _) _).alloc (by simp) _).trans (hb.mono (by simp; omega))
  go_wp2
  go_ret
  exact ⟨A', cap', ret_slice (by first | (rw [HR.out]; done) | (rw [HR.out]; simp)), by rw [HR.out]; exact h1, h2, by rw [HR.out]; exact h3.mono (rngS (by simp; omega) (Nat.le_refl _)), hB⟩

set_option maxRecDepth 20000 in set_option maxHeartbeats 4000000 in
theorem spec_ReadyB (w : World) (x : Server) (cs : List Value) (S : Blks) (hx : rd false w cs x S) (hsz : x.sz ≤ 1048576) (c1 : ¬ (x.all.length : Int) < x.ready.take) (c2 : x.ready.take < 0) (hr : readyTake x = 0) : Calls Try.prog 6 #[.agg cs.toArray] w fun e w' => ∃ A' cap', e = .returned (.slice A' (readyLeaves x).length cap') ∧ (readyLeaves x).length ≤ cap' ∧ cap' ≤ maxLen ∧ Row true w' A' cap' (readyLeaves x) (rng w.heap.size w'.heap.size) ∧ Below w.heap.size w w' := by
  have hla := readyAll_len x hsz
  have hsa := serverAll_sz x hsz
  obtain ⟨A0, k0, S0, A1, k1, S1, A2, k2, S2, A3, k3, S3, rfl, f0, f1, f4, f8, f9, f10, a0, b0, r0, s0, a1, b1, r1, s1, a2, b2, r2, s2, a3, b3, r3, s3, pw⟩ := Server.open hx
  clear hx r0 r1 r2 s0 s1 s2 pw a0 b0 a1 b1 a2 b2 S0 S1 S2
  simp only [Server.cs]
  have HR : Hid (readyLeaves x = applyAll [] (x.all.take 0)) := Lib.hid (by unfold readyLeaves; rw [hr])
  clear hr
  have d1 : decide ((x.all.length : Int) < x.ready.take) = false := by rw [decide_eq_false_iff_not]; omega
  have d2 : decide (x.ready.take < 0) = true := by simpa using c2
  go_enter Try.func6, Try.ntmps6
  go_wp2_with (fail)
  refine (spec_AllTake _ _ 0 (nw w.heap.size) (Row.weak (row_lit0b _ _ _ _ (by first | rfl | simp) rfl (by unfold nw; simp))) (by decide) x.all A3 k3 S3 (Row.later r3 (((Below.refl _ _).alloc (Nat.le_refl _) _).alloc (by simp) _)) a3 b3 hsa 0 (by omega)).mono ?_
  rintro e1 w1 ⟨A', cap', rfl, h1, h2, h3, hb⟩
  have hB : Below w.heap.size w w1 := (((Below.refl _ _).alloc (Nat.le_refl _) _).alloc (by simp) _).trans (hb.mono (by simp; omega))
  go_wp2
  go_ret
  exact ⟨A', cap', ret_slice (by first | (rw [HR.out]; done) | (rw [HR.out]; simp)), by rw [HR.out]; exact h1, h2, by rw [HR.out]; exact h3.mono (rngS (by simp; omega) (Nat.le_refl _)), hB⟩

set_option maxRecDepth 20000 in set_option maxHeartbeats 4000000 in
theorem spec_ReadyC (w : World) (x : Server) (cs : List Value) (S : Blks) (hx : rd false w cs x S) (hsz : x.sz ≤ 1048576) (r : Nat) (c1 : ¬ (x.all.length : Int) < x.ready.take) (c3 : x.ready.take = (r : Int)) (hr : readyTake x = r) : Calls Try.prog 6 #[.agg cs.toArray] w fun e w' => ∃ A' cap', e = .returned (.slice A' (readyLeaves x).length cap') ∧ (readyLeaves x).length ≤ cap' ∧ cap' ≤ maxLen ∧ Row true w' A' cap' (readyLeaves x) (rng w.heap.size w'.heap.size) ∧ Below w.heap.size w w' := by
  have hla := readyAll_len x hsz
  have hsa := serverAll_sz x hsz
  obtain ⟨A0, k0, S0, A1, k1, S1, A2, k2, S2, A3, k3, S3, rfl, f0, f1, f4, f8, f9, f10, a0, b0, r0, s0, a1, b1, r1, s1, a2, b2, r2, s2, a3, b3, r3, s3, pw⟩ := Server.open hx
  clear hx r0 r1 r2 s0 s1 s2 pw a0 b0 a1 b1 a2 b2 S0 S1 S2
  simp only [Server.cs]
  have HR : Hid (readyLeaves x = applyAll [] (x.all.take r)) := Lib.hid (by unfold readyLeaves; rw [hr])
  clear hr
  rw [c3] at c1 f10 ⊢
  have d1 : decide ((x.all.length : Int) < (r : Int)) = false := by rw [decide_eq_false_iff_not]; omega
  have d2 : decide ((r : Int) < 0) = false := by rw [decide_eq_false_iff_not]; omega
  have hrl : r ≤ x.all.length := by omega
  have hrk : r ≤ k3 := by omega
  clear c1 c3
  go_enter Try.func6, Try.ntmps6
  go_wp2_with (fail)
  refine (spec_AllTake _ _ 0 (nw w.heap.size) (Row.weak (row_lit0b _ _ _ _ (by first | rfl | simp) rfl (by unfold nw; simp))) (by decide) x.all A3 k3 S3 (Row.later r3 (((Below.refl _ _).alloc (Nat.le_refl _) _).alloc (by simp) _)) a3 b3 hsa r (by omega)).mono ?_
  rintro e1 w1 ⟨A', cap', rfl, h1, h2, h3, hb⟩
  have hB : Below w.heap.size w w1 := (((Below.refl _ _).alloc (Nat.le_refl _) _).alloc (by simp) _).trans (hb.mono (by simp; omega))
  go_wp2
  go_ret
  exact ⟨A', cap', ret_slice (by first | (rw [HR.out]; done) | (rw [HR.out]; simp)), by rw [HR.out]; exact h1, h2, by rw [HR.out]; exact h3.mono (rngS (by simp; omega) (Nat.le_refl _)), hB⟩

theorem spec_ReadyLeaves (w : World) (x : Server) (cs : List Value) (S : Blks) (hx : rd false w cs x S) (hsz : x.sz ≤ 1048576) : Calls Try.prog 6 #[.agg cs.toArray] w fun e w' => ∃ A' cap', e = .returned (.slice A' (readyLeaves x).length cap') ∧ (readyLeaves x).length ≤ cap' ∧ cap' ≤ maxLen ∧ Row true w' A' cap' (readyLeaves x) (rng w.heap.size w'.heap.size) ∧ Below w.heap.size w w' := by
  by_cases c1 : (x.all.length : Int) < x.ready.take
  · exact spec_ReadyA w x cs S hx hsz c1 (by unfold readyTake; omega)
  · by_cases c2 : x.ready.take < 0
    · exact spec_ReadyB w x cs S hx hsz c1 c2 (by unfold readyTake; omega)
    · exact spec_ReadyC w x cs S hx hsz x.ready.take.toNat c1 (by omega) (by unfold readyTake; omega)

end Go.Proofs.Ytaggkipbogphgaa
