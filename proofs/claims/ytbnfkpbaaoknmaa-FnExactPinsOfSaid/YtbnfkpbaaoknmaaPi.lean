/- Walks: the pins of a house. -/
import Derived.Test.YtbnfkpbaaoknmaaFd
set_option linter.unusedVariables false
set_option linter.unusedSimpArgs false
namespace Go.Proofs.Ytbnfkpbaaoknmaa
open Go.RowKit Lay Mk
def pinP (h : Int) (s : Seal) : Bool := decide (s.head.house = h)
def pinsOf (a : Auditor) (h : Int) : List Head := a.pins.foldl (gath (pinP h) (·.head)) []
theorem pinsOf_all (a : Auditor) (h : Int) : foldT (gath (pinP h) (·.head)) [] a.pins a.pins.length = pinsOf a h := foldT_all _ _ _
theorem cnL_head : ∀ xs : List Head, cnL xs = 4 * xs.length
  | [] => rfl
  | x :: xs => by have := cnL_head xs; simp only [cnL, List.map_cons, List.sum_cons, List.length_cons] at *; show 4 + _ = _; omega
theorem cnb_pinsOf (a : Auditor) (h : Int) (hz : a.sz ≤ 1048576) : cnL (pinsOf a h) ≤ 1000000000000 := by
  rw [cnL_head, ← pinsOf_all]
  have := gathT_len (pinP h) (·.head) a.pins a.pins.length
  have h1 : szL a.pins ≤ a.sz := by simp only [Auditor.sz]; omega
  have := szT_le a.pins 0
  omega

set_option maxRecDepth 20000 in set_option maxHeartbeats 8000000 in
theorem impl_PinsOf (w : World) (x : Auditor) (cs : List Value) (S : Blks) (hx : rd false w cs x S) (hsz : x.sz ≤ 1048576) (h : Int) (hh : I64 h) : Calls Try.prog 39 #[.agg cs.toArray, .int .i64 h] w fun e w' => ∃ A' cap', e = .returned (.slice A' (pinsOf x h).length cap') ∧ (pinsOf x h).length ≤ cap' ∧ cap' ≤ maxLen ∧ Row true w' A' cap' (pinsOf x h) (rng w.heap.size w'.heap.size) ∧ Below w.heap.size w w' := by
  have hll : x.pins.length ≤ 1048576 := by
    have h1 : szL x.pins ≤ x.sz := by simp only [Auditor.sz]; omega
    have := szT_le x.pins 0
    omega
  obtain ⟨A0, k0, S0, A1, k1, S1, A2, k2, S2, A3, k3, S3, rfl, f0, a0, b0, r0, s0, a1, b1, r1, s1, a2, b2, r2, s2, a3, b3, r3, s3, pw⟩ := Auditor.open hx
  clear hx r0 r1 r3 s0 s1 s3 pw a0 b0 a1 b1 a3 b3 S0 S1 S3
  have HE := Lib.hid (pinsOf_all x h)
  simp only [Auditor.cs]
  obtain ⟨xs, hxs⟩ : ∃ xs, x.pins = xs := ⟨_, rfl⟩
  rw [hxs] at r2 a2 hll HE
  go_enter Try.func39, Try.ntmps39
  go_wp2
  rw [hxs]
  clear hxs
  generalize hW : w.alloc (.cells #[_, _, _, _, _, _] _) = W
  have hWB : Below w.heap.size w W := by rw [← hW]; exact (Below.refl _ _).alloc (Nat.le_refl _) _
  have hWs : w.heap.size < W.heap.size := by rw [← hW]; simp
  have q4 : W.cell? ⟨w.heap.size, 4, none⟩ = some (.slice A2 xs.length k2) := by rw [← hW]; exact box_cell _ _ _ _ _ rfl
  replace r2 := Row.later r2 hWB
  have hWl : w.heap.size ≤ W.heap.size := by omega
  have hWe : Hid (w.heap.size + 1 = W.heap.size) := Lib.hid (by rw [← hW]; simp)
  clear hW
  go_loopw [5, 11] (fun u i wr => ∃ (k : Nat) (ys : List Head) (A : Option Addr) (cap : Nat), k ≤ xs.length ∧ i = .int .i64 k ∧ u = .slice A ys.length cap ∧ Hid (ys = foldT (gath (pinP h) (·.head)) [] xs k) ∧ ys.length ≤ k ∧ ys.length ≤ cap ∧ cap ≤ maxLen ∧ Row true wr A cap ys (nw W.heap.size) ∧ Below W.heap.size W wr) (fun _ i _ => xs.length - (intOf i).toNat)
  case atStart => exact ⟨0, [], none, 0, Nat.zero_le _, rfl, rfl, Lib.hid rfl, by simp, by simp, by decide, row_nil _ _, Below.refl _ _⟩
  case round =>
    obtain ⟨k, ys, A, cap, hk, rfl, rfl, hys, hyk, hle, hcm2, hrow, hb⟩ := hrel
    have hz := hb.size
    have q4' := (hb.cell (p := ⟨w.heap.size, 4, none⟩) hWs).trans q4
    by_cases hlt : k < xs.length
    · obtain ⟨b1, o1, cc, T, rfl, hl1, ha, hr, _, _⟩ := Row.at_ r2 hlt
      replace ha := ha.keep (hb.block b1 hl1)
      have hN := Lib.hid (gathT_no (p := pinP h) (g := (·.head)) hlt)
      have hY := Lib.hid (gathT_yes (p := pinP h) (g := (·.head)) hlt)
      obtain ⟨s, hss⟩ : ∃ s, xs[k] = s := ⟨_, rfl⟩
      rw [hss] at hr hN hY
      clear hss
      obtain ⟨B0, j0, T0, B1, j1, T1, B2, j2, T2, rfl, g0, g1, g2, g3, g4, _⟩ := Seal.open hr
      clear hr
      rw [show Lay.n Seal = 8 from rfl] at ha
      have c0 := ha 0 _ rfl
      have c1 := ha 1 _ rfl
      have c2 := ha 2 _ rfl
      have c3 := ha 3 _ rfl
      have c4 := ha 4 _ rfl
      have c5 := ha 5 _ rfl
      have c6 := ha 6 _ rfl
      have c7 := ha 7 _ rfl
      simp only [Nat.add_zero] at c0
      clear ha
      have hl2 : b1 < wr.heap.size := by omega
      have hok : Flat.ok s.head := (⟨g0, g1, g2, g3⟩ : I64 s.head.house ∧ I64 s.head.epoch ∧ s.head.root.size ≤ maxLen ∧ s.head.prev.size ≤ maxLen)
      have hlb : w.heap.size < wr.heap.size := by omega
      by_cases hc : s.head.house = h
      · have HY := Lib.hid (hY.out (by simpa [pinP] using hc))
        have hd : (s.head.house == h) = true := by simpa using hc
        clear hc
        go_wp2_with (at_builtin; refine wpList_app (α := Head) rfl _ _ rfl rfl rfl ((hrow.allocC _).allocC _) hle hcm2 rfl rfl (src_newb _ s.head hok _ _ _ (by simp) rfl) (disj_none_ _) (by omega) ?_; intro A' cap' w' h1 h2 h3 h4)
        have hz2 : W.heap.size ≤ ((wr.alloc (.cells #[.int .i64 s.head.house, .int .i64 s.head.epoch, .string s.head.root, .string s.head.prev, .int .i64 s.sig.at_, .slice B0 s.sig.open_.length j0, .slice B1 s.sig.shut.length j1, .slice B2 s.sig.sides.length j2] 142)).alloc (.cells #[.int .i64 s.head.house, .int .i64 s.head.epoch, .string s.head.root, .string s.head.prev] 138)).heap.size := by simp; omega
        go_roundw
        case rel => first | exact ⟨k + 1, ys ++ [s.head], A', cap', by omega, by go_num, by simp, Lib.hid (by rw [HY.out, hys.out]), by simp; omega, by simpa using h1, h2, row_step h3 hz2, ((hb.alloc hz _).alloc (by simp; omega) _).trans (h4.nw hz2 (sub_refl _))⟩ | ((repeat apply Exists.intro); exact ⟨⟨k + 1, ys ++ [s.head], A', cap', by omega, by go_num, by simp, Lib.hid (by rw [HY.out, hys.out]), by simp; omega, by simpa using h1, h2, row_step h3 hz2, ((hb.alloc hz _).alloc (by simp; omega) _).trans (h4.nw hz2 (sub_refl _))⟩, rfl⟩)
        case measure => simp [intOf]; omega
      · have HN := Lib.hid (hN.out (by simpa [pinP] using hc))
        have hd : (s.head.house == h) = false := by simpa using hc
        clear hc
        go_wp2
        go_roundw
        case rel => exact ⟨k + 1, ys, A, cap, by omega, by go_num, rfl, Lib.hid (by rw [HN.out, hys.out]), by omega, hle, hcm2, hrow.allocC _, hb.alloc hz _⟩
        case measure => simp [intOf]; omega
    · have hke : k = xs.length := by omega
      subst hke
      have hyy := hys.out.trans HE.out
      subst hyy
      go_wp2
      go_ret
      exact ⟨A, cap, rfl, hle, hcm2, (to_rng hrow).mono (rngS hWl (Nat.le_refl _)), hWB.trans (hb.mono hWl)⟩

set_option maxRecDepth 20000 in set_option maxHeartbeats 8000000 in
theorem spec_PinsOf (w : World) (x : Auditor) (cs : List Value) (S : Blks) (hx : rd false w cs x S) (hsz : x.sz ≤ 1048576) (h : Int) (hh : I64 h) : Calls Try.prog 38 #[.agg cs.toArray, .int .i64 h] w fun e w' => ∃ A' cap', e = .returned (.slice A' (pinsOf x h).length cap') ∧ (pinsOf x h).length ≤ cap' ∧ cap' ≤ maxLen ∧ Row true w' A' cap' (pinsOf x h) (rng w.heap.size w'.heap.size) ∧ Below w.heap.size w w' := by
  have hll : x.pins.length ≤ 1048576 := by
    have h1 : szL x.pins ≤ x.sz := by simp only [Auditor.sz]; omega
    have := szT_le x.pins 0
    omega
  obtain ⟨A0, k0, S0, A1, k1, S1, A2, k2, S2, A3, k3, S3, rfl, f0, a0, b0, r0, s0, a1, b1, r1, s1, a2, b2, r2, s2, a3, b3, r3, s3, pw⟩ := Auditor.open hx
  clear hx r0 r1 r3 s0 s1 s3 pw a0 b0 a1 b1 a3 b3 S0 S1 S3
  have HE := Lib.hid (pinsOf_all x h)
  simp only [Auditor.cs]
  obtain ⟨xs, hxs⟩ : ∃ xs, x.pins = xs := ⟨_, rfl⟩
  rw [hxs] at r2 a2 hll HE
  go_enter Try.func38, Try.ntmps38
  go_wp2
  rw [hxs]
  clear hxs
  generalize hW : w.alloc (.cells #[_, _, _, _, _, _] _) = W
  have hWB : Below w.heap.size w W := by rw [← hW]; exact (Below.refl _ _).alloc (Nat.le_refl _) _
  have hWs : w.heap.size < W.heap.size := by rw [← hW]; simp
  have q4 : W.cell? ⟨w.heap.size, 4, none⟩ = some (.slice A2 xs.length k2) := by rw [← hW]; exact box_cell _ _ _ _ _ rfl
  replace r2 := Row.later r2 hWB
  have hWl : w.heap.size ≤ W.heap.size := by omega
  have hWe : Hid (w.heap.size + 1 = W.heap.size) := Lib.hid (by rw [← hW]; simp)
  clear hW
  go_loopw [5, 6] (fun u i wr => ∃ (k : Nat) (ys : List Head) (A : Option Addr) (cap : Nat), k ≤ xs.length ∧ i = .int .i64 k ∧ u = .slice A ys.length cap ∧ Hid (ys = foldT (gath (pinP h) (·.head)) [] xs k) ∧ ys.length ≤ k ∧ ys.length ≤ cap ∧ cap ≤ maxLen ∧ Row true wr A cap ys (nw W.heap.size) ∧ Below W.heap.size W wr) (fun _ i _ => xs.length - (intOf i).toNat)
  case atStart => exact ⟨0, [], _, _, Nat.zero_le _, rfl, rfl, Lib.hid rfl, by simp, by simp, by decide, row_lit0b _ _ _ _ hWe.out rfl (Nat.le_refl _), (Below.refl _ _).alloc (Nat.le_refl _) _⟩
  case round =>
    obtain ⟨k, ys, A, cap, hk, rfl, rfl, hys, hyk, hle, hcm2, hrow, hb⟩ := hrel
    have hz := hb.size
    have q4' := (hb.cell (p := ⟨w.heap.size, 4, none⟩) hWs).trans q4
    by_cases hlt : k < xs.length
    · obtain ⟨b1, o1, cc, T, rfl, hl1, ha, hr, _, _⟩ := Row.at_ r2 hlt
      replace ha := ha.keep (hb.block b1 hl1)
      have hN := Lib.hid (gathT_no (p := pinP h) (g := (·.head)) hlt)
      have hY := Lib.hid (gathT_yes (p := pinP h) (g := (·.head)) hlt)
      obtain ⟨s, hss⟩ : ∃ s, xs[k] = s := ⟨_, rfl⟩
      rw [hss] at hr hN hY
      clear hss
      obtain ⟨B0, j0, T0, B1, j1, T1, B2, j2, T2, rfl, g0, g1, g2, g3, g4, _⟩ := Seal.open hr
      clear hr
      rw [show Lay.n Seal = 8 from rfl] at ha
      have c0 := ha 0 _ rfl
      have c1 := ha 1 _ rfl
      have c2 := ha 2 _ rfl
      have c3 := ha 3 _ rfl
      have c4 := ha 4 _ rfl
      have c5 := ha 5 _ rfl
      have c6 := ha 6 _ rfl
      have c7 := ha 7 _ rfl
      simp only [Nat.add_zero] at c0
      clear ha
      have hl2 : b1 < wr.heap.size := by omega
      have hok : Flat.ok s.head := (⟨g0, g1, g2, g3⟩ : I64 s.head.house ∧ I64 s.head.epoch ∧ s.head.root.size ≤ maxLen ∧ s.head.prev.size ≤ maxLen)
      have hlb : w.heap.size < wr.heap.size := by omega
      by_cases hc : s.head.house = h
      · have HY := Lib.hid (hY.out (by simpa [pinP] using hc))
        have hd : (s.head.house == h) = true := by simpa using hc
        clear hc
        go_wp2_with (at_builtin; refine wpList_app (α := Head) rfl _ _ rfl rfl rfl (hrow.allocC _) hle hcm2 rfl rfl (src_newb _ s.head hok _ _ _ (by simp) rfl) (disj_none_ _) (by omega) ?_; intro A' cap' w' h1 h2 h3 h4)
        have hz2 : W.heap.size ≤ (wr.alloc (.cells #[.int .i64 s.head.house, .int .i64 s.head.epoch, .string s.head.root, .string s.head.prev] 138)).heap.size := by simp; omega
        go_roundw
        case rel => first | exact ⟨k + 1, ys ++ [s.head], A', cap', by omega, by go_num, by simp, Lib.hid (by rw [HY.out, hys.out]), by simp; omega, by simpa using h1, h2, row_step h3 hz2, (hb.alloc hz _).trans (h4.nw hz2 (sub_refl _))⟩ | ((repeat apply Exists.intro); exact ⟨⟨k + 1, ys ++ [s.head], A', cap', by omega, by go_num, by simp, Lib.hid (by rw [HY.out, hys.out]), by simp; omega, by simpa using h1, h2, row_step h3 hz2, (hb.alloc hz _).trans (h4.nw hz2 (sub_refl _))⟩, rfl⟩)
        case measure => simp [intOf]; omega
      · have HN := Lib.hid (hN.out (by simpa [pinP] using hc))
        have hd : (s.head.house == h) = false := by simpa using hc
        clear hc
        go_wp2
        go_roundw
        case rel => exact ⟨k + 1, ys, A, cap, by omega, by go_num, rfl, Lib.hid (by rw [HN.out, hys.out]), by omega, hle, hcm2, hrow, hb⟩
        case measure => simp [intOf]; omega
    · have hke : k = xs.length := by omega
      subst hke
      have hyy := hys.out.trans HE.out
      subst hyy
      go_wp2
      go_ret
      exact ⟨A, cap, rfl, hle, hcm2, (to_rng hrow).mono (rngS hWl (Nat.le_refl _)), hWB.trans (hb.mono hWl)⟩

end Go.Proofs.Ytbnfkpbaaoknmaa
