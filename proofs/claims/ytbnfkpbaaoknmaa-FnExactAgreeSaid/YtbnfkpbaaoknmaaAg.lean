/- Walks: two auditors were shown the same. -/
import Derived.Test.YtbnfkpbaaoknmaaSo
import Derived.Test.YtbnfkpbaaoknmaaSq
set_option linter.unusedVariables false
set_option linter.unusedSimpArgs false
namespace Go.Proofs.Ytbnfkpbaaoknmaa
open Go.RowKit Lay Mk
def agree (x y : Auditor) : Bool := decide ((splitsOf x y).length = 0)
theorem splitsOf_len (x y : Auditor) (h : x.sz ≤ 1048576) : (splitsOf x y).length ≤ 1048576 := by
  rw [← splitsOf_all]
  have h1 := splitT_len y.pins x.pins x.pins.length (Nat.le_refl _)
  have h2 := szT_le x.pins 0
  have h3 := aud_pins x h
  omega

set_option maxRecDepth 20000 in set_option maxHeartbeats 4000000 in
theorem impl_Agree (w : World) (x : Auditor) (cs : List Value) (S : Blks) (hx : rd false w cs x S) (hsz : x.sz ≤ 1048576) (y : Auditor) (ct : List Value) (T : Blks) (hy : rd false w ct y T) (hsy : y.sz ≤ 1048576) : Calls Try.prog 29 #[.agg cs.toArray, .agg ct.toArray] w fun e w' => e = .returned (.bool (agree x y)) ∧ Below w.heap.size w w' := by
  have hl := splitsOf_len x y hsz
  obtain ⟨A0, k0, S0, A1, k1, S1, AX, kX, SX, A3, k3, S3, rfl, f0, a0, b0, r0, s0, a1, b1, r1, s1, a2, b2, rx, s2, a3, b3, r3, s3, pw⟩ := Auditor.open hx
  obtain ⟨B0, l0, T0, B1, l1, T1, AY, kY, SY, B3, l3, T3, rfl, g0, c0, d0, u0, v0, c1, d1, u1, v1, c2, d2, ry, v2, c3, d3, u3, v3, pw'⟩ := Auditor.open hy
  clear r0 r1 r3 s0 s1 s2 s3 pw a0 b0 a1 b1 a3 b3 u0 u1 u3 v0 v1 v2 v3 pw' c0 d0 c1 d1 c3 d3 rx ry
  simp only [Auditor.cs] at hx hy ⊢
  go_enter Try.func29, Try.ntmps29
  go_wp2_with (fail)
  have hWB : Below w.heap.size w ((w.alloc (.cells #[.int .i64 x.house, .bool x.up, .slice A0 x.disk.files.length k0, .slice A1 x.pool.length k1, .slice AX x.pins.length kX, .slice A3 x.pairs.length k3] 59)).alloc (.cells #[.int .i64 y.house, .bool y.up, .slice B0 y.disk.files.length l0, .slice B1 y.pool.length l1, .slice AY y.pins.length kY, .slice B3 y.pairs.length l3] 59)) := ((Below.refl _ _).alloc (Nat.le_refl _) _).alloc (by simp) _
  first
    | refine (impl_SplitsOf _ x _ S (Lay.later hx hWB) hsz y _ T (Lay.later hy hWB) hsy).mono ?_
    | refine (impl_SplitsOf _ x _ S hx hsz y _ T hy hsy).mono ?_
  rintro e1 w1 ⟨A, cap, rfl, h1, h2, h3, hb1⟩
  have hB1 : Below w.heap.size w w1 := by first | exact hb1 | exact hWB.trans (hb1.mono hWB.size)
  go_wp2
  go_ret
  exact ⟨ret_bool (by unfold agree; by_cases h : (splitsOf x y).length = 0; (rw [h]; rfl); (rw [decide_eq_false h, beq_eq_false_iff_ne]; omega)), hB1⟩

set_option maxRecDepth 20000 in set_option maxHeartbeats 4000000 in
theorem spec_Agree (w : World) (x : Auditor) (cs : List Value) (S : Blks) (hx : rd false w cs x S) (hsz : x.sz ≤ 1048576) (y : Auditor) (ct : List Value) (T : Blks) (hy : rd false w ct y T) (hsy : y.sz ≤ 1048576) : Calls Try.prog 27 #[.agg cs.toArray, .agg ct.toArray] w fun e w' => e = .returned (.bool (agree x y)) ∧ Below w.heap.size w w' := by
  have hl := splitsOf_len x y hsz
  obtain ⟨A0, k0, S0, A1, k1, S1, AX, kX, SX, A3, k3, S3, rfl, f0, a0, b0, r0, s0, a1, b1, r1, s1, a2, b2, rx, s2, a3, b3, r3, s3, pw⟩ := Auditor.open hx
  obtain ⟨B0, l0, T0, B1, l1, T1, AY, kY, SY, B3, l3, T3, rfl, g0, c0, d0, u0, v0, c1, d1, u1, v1, c2, d2, ry, v2, c3, d3, u3, v3, pw'⟩ := Auditor.open hy
  clear r0 r1 r3 s0 s1 s2 s3 pw a0 b0 a1 b1 a3 b3 u0 u1 u3 v0 v1 v2 v3 pw' c0 d0 c1 d1 c3 d3 rx ry
  simp only [Auditor.cs] at hx hy ⊢
  go_enter Try.func27, Try.ntmps27
  go_wp2_with (fail)
  have hWB : Below w.heap.size w ((w.alloc (.cells #[.int .i64 x.house, .bool x.up, .slice A0 x.disk.files.length k0, .slice A1 x.pool.length k1, .slice AX x.pins.length kX, .slice A3 x.pairs.length k3] 59)).alloc (.cells #[.int .i64 y.house, .bool y.up, .slice B0 y.disk.files.length l0, .slice B1 y.pool.length l1, .slice AY y.pins.length kY, .slice B3 y.pairs.length l3] 59)) := ((Below.refl _ _).alloc (Nat.le_refl _) _).alloc (by simp) _
  first
    | refine (spec_SplitsOf _ x _ S (Lay.later hx hWB) hsz y _ T (Lay.later hy hWB) hsy).mono ?_
    | refine (spec_SplitsOf _ x _ S hx hsz y _ T hy hsy).mono ?_
  rintro e1 w1 ⟨A, cap, rfl, h1, h2, h3, hb1⟩
  have hB1 : Below w.heap.size w w1 := by first | exact hb1 | exact hWB.trans (hb1.mono hWB.size)
  go_wp2
  go_ret
  exact ⟨ret_bool (by unfold agree; by_cases h : (splitsOf x y).length = 0; (rw [h]; rfl); (rw [decide_eq_false h, beq_eq_false_iff_ne]; omega)), hB1⟩

end Go.Proofs.Ytbnfkpbaaoknmaa
