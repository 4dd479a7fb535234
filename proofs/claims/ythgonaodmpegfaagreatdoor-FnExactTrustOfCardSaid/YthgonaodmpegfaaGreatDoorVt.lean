/- Walks: the numbers' encoding. -/
import Derived.Test.YthgonaodmpegfaaGreatDoorRd
import Derived.Test.YthgonaodmpegfaaGreatDoorIn
set_option linter.unusedVariables false
set_option linter.unusedSimpArgs false
namespace Go.Proofs.YthgonaodmpegfaaGreatDoor
open Go.RowKit Lay Mk
def varB (n : Nat) : List UInt8 := if h : 127 < n then UInt8.ofNat (128 + n % 128) :: varB (n / 128) else [UInt8.ofNat n]
termination_by n
decreasing_by omega
theorem varB_more {n : Nat} (h : 127 < n) : varB n = UInt8.ofNat (128 + n % 128) :: varB (n / 128) := by rw [varB]; simp [h]
theorem varB_last {n : Nat} (h : n ≤ 127) : varB n = [UInt8.ofNat n] := by rw [varB]; simp [show ¬ 127 < n by omega]
def varT (n : Nat) : ByteArray := bs (varB n)
theorem varB_len : ∀ (k n : Nat), n < 128 ^ (k + 1) → (varB n).length ≤ k + 1
  | 0, n, h => by rw [varB_last (by omega)]; simp
  | k + 1, n, h => by
    by_cases hn : 127 < n
    · rw [varB_more hn]
      have := varB_len k (n / 128) (by rw [Nat.pow_succ] at h; omega)
      simp only [List.length_cons]; omega
    · rw [varB_last (by omega)]; simp
theorem varT_le {n : Nat} (h : n ≤ 1000000000) : (varT n).size ≤ 5 := by
  unfold varT; rw [bs_size]; exact varB_len 4 n (by omega)
set_option maxRecDepth 20000 in set_option maxHeartbeats 2000000 in
theorem impl_varText (n : Nat) (w : World) (hn : n ≤ 1000000000) : Calls Tryz.prog 243 #[.int .i64 n] w fun e w' => e = .returned (.string (varT n)) ∧ Below w.heap.size w w' := by
  go_enter Tryz.func243, Tryz.ntmps243
  go_wp2
  go_loopw [0, 3] (fun v u wr => ∃ (m : Nat) (pre : List UInt8) (A : Option Addr) (cap : Nat), v = .int .i64 m ∧ u = .slice A pre.length cap ∧ Hid (pre ++ varB m = varB n) ∧ pre.length + m ≤ n ∧ pre.length ≤ cap ∧ cap ≤ maxLen ∧ Row true wr A cap pre (nw w.heap.size) ∧ Below w.heap.size w wr) (fun v _ _ => (intOf v).toNat)
  case atStart => exact ⟨n, [], none, 0, rfl, rfl, Lib.hid rfl, by simp, by simp, by decide, row_nil _ _, Below.refl _ _⟩
  case round =>
    obtain ⟨m, pre, A, cap, rfl, rfl, hpre, hlen, hle, hcm, hrow, hb⟩ := hrel
    have hz := hb.size
    by_cases hm : 127 < m
    · have hv := varB_more hm
      have HV := Lib.hid hv; clear hv
      have hz2 : w.heap.size ≤ (wr.alloc (.cells #[.int .u8 (128 + (m : Int) % 128)] 5)).heap.size := by simp; omega
      go_wp2_with (at_builtin; refine wpList_app (α := UInt8) rfl _ _ rfl rfl rfl (hrow.allocC _) hle hcm rfl rfl (src_u8 _ _ _ _ (u8_eq (128 + m % 128) _ (by omega) (by omega))) (disj_none_ _) (by omega) ?_; intro A' cap' w' h1 h2 h3 h4)
      go_roundw
      case rel => exact ⟨m / 128, pre ++ [UInt8.ofNat (128 + m % 128)], A', cap', by go_num, by simp, Lib.hid (by rw [← hpre.out, HV.out]; simp), by simp; omega, by simpa using h1, h2, h3.mono (nw_step (sub_refl _) (none_sub _) hz2), (hb.alloc hz _).trans (h4.nw hz2 (sub_refl _))⟩
      case measure => simp [intOf]; omega
    · have hv := varB_last (n := m) (by omega)
      have HV := Lib.hid hv; clear hv
      have hz2 : w.heap.size ≤ (wr.alloc (.cells #[.int .u8 (m : Int)] 5)).heap.size := by simp; omega
      go_wp2_with (first | (at_builtin; refine wpList_app (α := UInt8) rfl _ _ rfl rfl rfl (hrow.allocC _) hle hcm rfl rfl (src_u8 _ _ _ _ (u8_eq m _ rfl (by omega))) (disj_none_ _) (by omega) ?_; intro A' cap' w' h1 h2 h3 h4) | (refine wpList_bytes rfl _ rfl Tryz.underlying5 Tryz.underlying9 rfl (l := pre ++ [UInt8.ofNat m]) (by simp) h3 ?_))
      go_ret
      exact ⟨ret_str (by rw [varT, ← hpre.out, HV.out]), (hb.alloc hz _).trans (h4.nw hz2 (sub_refl _))⟩
set_option maxRecDepth 20000 in set_option maxHeartbeats 2000000 in
theorem spec_l01Var (n : Nat) (w : World) (hn : n ≤ 1000000000) : Calls Tryz.prog 222 #[.int .i64 n] w fun e w' => e = .returned (.string (varT n)) ∧ Below w.heap.size w w' := by
  go_enter Tryz.func222, Tryz.ntmps222
  go_wp2
  go_loopw [0, 3] (fun v u wr => ∃ (m : Nat) (pre : List UInt8) (A : Option Addr) (cap : Nat), v = .int .i64 m ∧ u = .slice A pre.length cap ∧ Hid (pre ++ varB m = varB n) ∧ pre.length + m ≤ n ∧ pre.length ≤ cap ∧ cap ≤ maxLen ∧ Row true wr A cap pre (nw w.heap.size) ∧ Below w.heap.size w wr) (fun v _ _ => (intOf v).toNat)
  case atStart => exact ⟨n, [], _, _, rfl, rfl, Lib.hid rfl, by simp, by simp, by decide, row_lit0 _ _ _ rfl (Nat.le_refl _), (Below.refl _ _).alloc (Nat.le_refl _) _⟩
  case round =>
    obtain ⟨m, pre, A, cap, rfl, rfl, hpre, hlen, hle, hcm, hrow, hb⟩ := hrel
    have hz := hb.size
    by_cases hm : 127 < m
    · have hv := varB_more hm
      have HV := Lib.hid hv; clear hv
      have hz2 : w.heap.size ≤ (wr.alloc (.cells #[.int .u8 ((m : Int) % 128 + 128)] 5)).heap.size := by simp; omega
      go_wp2_with (at_builtin; refine wpList_app (α := UInt8) rfl _ _ rfl rfl rfl (hrow.allocC _) hle hcm rfl rfl (src_u8 _ _ _ _ (u8_eq (128 + m % 128) _ (by omega) (by omega))) (disj_none_ _) (by omega) ?_; intro A' cap' w' h1 h2 h3 h4)
      go_roundw
      case rel => exact ⟨m / 128, pre ++ [UInt8.ofNat (128 + m % 128)], A', cap', by go_num, by simp, Lib.hid (by rw [← hpre.out, HV.out]; simp), by simp; omega, by simpa using h1, h2, h3.mono (nw_step (sub_refl _) (none_sub _) hz2), (hb.alloc hz _).trans (h4.nw hz2 (sub_refl _))⟩
      case measure => simp [intOf]; omega
    · have hv := varB_last (n := m) (by omega)
      have HV := Lib.hid hv; clear hv
      have hz2 : w.heap.size ≤ (wr.alloc (.cells #[.int .u8 (m : Int)] 5)).heap.size := by simp; omega
      go_wp2_with (first | (at_builtin; refine wpList_app (α := UInt8) rfl _ _ rfl rfl rfl (hrow.allocC _) hle hcm rfl rfl (src_u8 _ _ _ _ (u8_eq m _ rfl (by omega))) (disj_none_ _) (by omega) ?_; intro A' cap' w' h1 h2 h3 h4) | (refine wpList_bytes rfl _ rfl Tryz.underlying5 Tryz.underlying9 rfl (l := pre ++ [UInt8.ofNat m]) (by simp) h3 ?_))
      go_ret
      exact ⟨ret_str (by rw [varT, ← hpre.out, HV.out]), (hb.alloc hz _).trans (h4.nw hz2 (sub_refl _))⟩
end Go.Proofs.YthgonaodmpegfaaGreatDoor
