/- Walks: checksums. -/
import Derived.Test.YticdcndpbnbkhaaRd
import Derived.Laws.BitsAllLaws
namespace Go.Proofs.Yticdcndpbnbkhaa
open Go.RowKit Lay Mk
def crcS (n : Nat) : Nat := if n % 2 = 1 then (n / 2) ^^^ 3558460437 else n / 2
def crcJ (n : Nat) : Nat → Nat
  | 0 => n
  | j + 1 => crcS (crcJ n j)
def sumM (s : ByteArray) (n : Nat) : Nat → Nat
  | 0 => n
  | k + 1 => crcJ (sumM s n k ^^^ (s.data.getD k 0).toNat) 8
def sumMore (n : Nat) (s : ByteArray) : Nat := sumM s n s.size
theorem crcS_lt {n : Nat} (h : n < 4294967296) : crcS n < 4294967296 := by
  unfold crcS; split
  · exact Nat.xor_lt_two_pow (n := 32) (by omega) (by omega)
  · omega
theorem crcJ_lt {n : Nat} (h : n < 4294967296) : ∀ j, crcJ n j < 4294967296
  | 0 => h
  | j + 1 => crcS_lt (crcJ_lt h j)
theorem byte_lt (b : UInt8) : b.toNat < 256 := b.toNat_lt
theorem xor_lt {n : Nat} (h : n < 4294967296) (b : UInt8) : n ^^^ b.toNat < 4294967296 := Nat.xor_lt_two_pow (n := 32) h (by have := byte_lt b; omega)
theorem sumM_lt (s : ByteArray) {n : Nat} (h : n < 4294967296) : ∀ k, sumM s n k < 4294967296
  | 0 => h
  | k + 1 => crcJ_lt (xor_lt (sumM_lt s h k) _) 8
theorem sumM_succ {s : ByteArray} {n k : Nat} (hk : k < s.size) : sumM s n (k + 1) = crcJ (sumM s n k ^^^ s[k].toNat) 8 := by
  have : s.data.getD k 0 = s[k] := by unfold Array.getD; rw [dif_pos (show k < s.data.size from hk)]; rfl
  simp only [sumM, this]
theorem crcS_odd {n : Nat} (h : n % 2 = 1) : crcS n = (n / 2) ^^^ 3558460437 := by simp [crcS, h]
theorem crcS_even {n : Nat} (h : ¬ n % 2 = 1) : crcS n = n / 2 := by simp [crcS, h]

set_option maxRecDepth 20000 in set_option maxHeartbeats 2000000 in
theorem impl_SumMore (w : World) (n : Nat) (s : ByteArray) (hn : n < 4294967296) (hs : s.size ≤ 1048576) : Calls Try.prog 68 #[.int .u32 n, .string s] w fun e w' => e = .returned (.int .u32 (sumMore n s)) ∧ w = w' := by
  go_enter Try.func68, Try.ntmps68
  go_wp2
  go_loop [0, 5] (fun v i => ∃ k : Nat, k ≤ s.size ∧ i = .int .i64 k ∧ v = .int .u32 (sumM s n k)) (fun _ i => s.size - (intOf i).toNat)
  case atStart => exact ⟨0, Nat.zero_le _, rfl, rfl⟩
  case round =>
    obtain ⟨k, hk, rfl, rfl⟩ := hrel
    have hm := sumM_lt s hn k
    by_cases hlt : k < s.size
    · have HS := Lib.hid (sumM_succ (n := n) hlt)
      obtain ⟨m, hmm⟩ : ∃ m, sumM s n k = m := ⟨_, rfl⟩
      rw [hmm] at hm ⊢
      have HM := Lib.hid hmm; clear hmm
      have hb := byte_lt s[k]
      have hx := u32_xor_nat m s[k].toNat hm (by omega)
      have hm2 := xor_lt hm s[k]
      go_wp2
      obtain ⟨p, hp⟩ : ∃ p, m ^^^ s[k].toNat = p := ⟨_, rfl⟩
      rw [hp] at hm2 ⊢
      have HP := Lib.hid hp; clear hp hx
      go_loop [0, 19] (fun v i => ∃ j : Nat, j ≤ 8 ∧ i = .int .i64 j ∧ v = .int .u32 (crcJ p j)) (fun _ i => 8 - (intOf i).toNat)
      case atStart => exact ⟨0, by omega, rfl, rfl⟩
      case round =>
        obtain ⟨j, hj, rfl, rfl⟩ := hrel
        have hq := crcJ_lt hm2 j
        by_cases hj8 : j < 8
        · obtain ⟨q, hqq⟩ : ∃ q, crcJ p j = q := ⟨_, rfl⟩
          rw [hqq] at hq ⊢
          have hand : bits .and .u32 (q : Int) 1 = ((q % 2 : Nat) : Int) := by have := u32_and_nat q 1 hq (by omega); rw [nat_mask1] at this; exact this
          have hxor : bits .xor .u32 ((q : Int) / 2) 3558460437 = ((q / 2 ^^^ 3558460437 : Nat) : Int) := u32_xor_nat (q / 2) 3558460437 (by omega) (by omega)
          by_cases ho : q % 2 = 1
          · have HN : Hid (crcJ p (j + 1) = (q / 2) ^^^ 3558460437) := Lib.hid (by show crcS (crcJ p j) = _; rw [hqq]; exact crcS_odd ho)
            rw [ho] at hand
            go_wp2
            go_round
            case rel => exact ⟨j + 1, by omega, by go_num, by rw [HN.out]⟩
            case measure => simp [intOf]; omega
          · have HN : Hid (crcJ p (j + 1) = q / 2) := Lib.hid (by show crcS (crcJ p j) = _; rw [hqq]; exact crcS_even ho)
            have h0 : q % 2 = 0 := by omega
            rw [h0] at hand
            go_wp2
            go_round
            case rel => exact ⟨j + 1, by omega, by go_num, by rw [HN.out]; congr 1⟩
            case measure => simp [intOf]; omega
        · have hje : j = 8 := by omega
          subst hje
          go_wp2
          go_round
          case rel => exact ⟨k + 1, by omega, by go_num, by rw [HS.out, HM.out, HP.out]⟩
          case measure => simp [intOf]; omega
    · have hke : k = s.size := by omega
      subst hke
      go_wp2
      go_ret
      exact ⟨rfl, rfl⟩
set_option maxRecDepth 20000 in set_option maxHeartbeats 2000000 in
theorem spec_SumMore (w : World) (n : Nat) (s : ByteArray) (hn : n < 4294967296) (hs : s.size ≤ 1048576) : Calls Try.prog 67 #[.int .u32 n, .string s] w fun e w' => e = .returned (.int .u32 (sumMore n s)) ∧ w = w' := by
  go_enter Try.func67, Try.ntmps67
  go_wp2
  go_loop [0, 5] (fun v i => ∃ k : Nat, k ≤ s.size ∧ i = .int .i64 k ∧ v = .int .u32 (sumM s n k)) (fun _ i => s.size - (intOf i).toNat)
  case atStart => exact ⟨0, Nat.zero_le _, rfl, rfl⟩
  case round =>
    obtain ⟨k, hk, rfl, rfl⟩ := hrel
    have hm := sumM_lt s hn k
    by_cases hlt : k < s.size
    · have HS := Lib.hid (sumM_succ (n := n) hlt)
      obtain ⟨m, hmm⟩ : ∃ m, sumM s n k = m := ⟨_, rfl⟩
      rw [hmm] at hm ⊢
      have HM := Lib.hid hmm; clear hmm
      have hb := byte_lt s[k]
      have hx := u32_xor_nat m s[k].toNat hm (by omega)
      have hm2 := xor_lt hm s[k]
      go_wp2
      obtain ⟨p, hp⟩ : ∃ p, m ^^^ s[k].toNat = p := ⟨_, rfl⟩
      rw [hp] at hm2 ⊢
      have HP := Lib.hid hp; clear hp hx
      go_loop [0, 6] (fun v i => ∃ j : Nat, j ≤ 8 ∧ i = .int .i64 j ∧ v = .int .u32 (crcJ p j)) (fun _ i => 8 - (intOf i).toNat)
      case atStart => exact ⟨0, by omega, rfl, rfl⟩
      case round =>
        obtain ⟨j, hj, rfl, rfl⟩ := hrel
        have hq := crcJ_lt hm2 j
        by_cases hj8 : j < 8
        · obtain ⟨q, hqq⟩ : ∃ q, crcJ p j = q := ⟨_, rfl⟩
          rw [hqq] at hq ⊢
          have hand : True := trivial
          have hxor : bits .xor .u32 ((q : Int) / 2) 3558460437 = ((q / 2 ^^^ 3558460437 : Nat) : Int) := u32_xor_nat (q / 2) 3558460437 (by omega) (by omega)
          by_cases ho : q % 2 = 1
          · have HN : Hid (crcJ p (j + 1) = (q / 2) ^^^ 3558460437) := Lib.hid (by show crcS (crcJ p j) = _; rw [hqq]; exact crcS_odd ho)
            have hd : ((q : Int) % 2 == 1) = true := by rw [beq_iff_eq]; omega
            go_wp2
            go_round
            case rel => exact ⟨j + 1, by omega, by go_num, by rw [HN.out]⟩
            case measure => simp [intOf]; omega
          · have HN : Hid (crcJ p (j + 1) = q / 2) := Lib.hid (by show crcS (crcJ p j) = _; rw [hqq]; exact crcS_even ho)
            have h0 : q % 2 = 0 := by omega
            have hd : ((q : Int) % 2 == 1) = false := by rw [beq_eq_false_iff_ne]; omega
            go_wp2
            go_round
            case rel => exact ⟨j + 1, by omega, by go_num, by rw [HN.out]; congr 1⟩
            case measure => simp [intOf]; omega
        · have hje : j = 8 := by omega
          subst hje
          go_wp2
          go_round
          case rel => exact ⟨k + 1, by omega, by go_num, by rw [HS.out, HM.out, HP.out]⟩
          case measure => simp [intOf]; omega
    · have hke : k = s.size := by omega
      subst hke
      go_wp2
      go_ret
      exact ⟨rfl, rfl⟩

def sumOf (s : ByteArray) : Nat := sumMore 4294967295 s
def fourB (n : Nat) : ByteArray := bs [UInt8.ofNat (n / 16777216), UInt8.ofNat (n / 65536), UInt8.ofNat (n / 256), UInt8.ofNat n]
theorem sumOf_lt (s : ByteArray) : sumOf s < 4294967296 := sumM_lt s (by omega) _
theorem impl_SumOf (w : World) (s : ByteArray) (hs : s.size ≤ 1048576) : Calls Try.prog 66 #[.string s] w fun e w' => e = .returned (.int .u32 (sumOf s)) ∧ w = w' := by
  go_enter Try.func66, Try.ntmps66
  go_wp2_with (go_at_call 68; refine (impl_SumMore _ 4294967295 _ (by omega) hs).mono ?_; rintro e w' ⟨rfl, rfl⟩)
  go_ret; exact ⟨rfl, rfl⟩
theorem spec_SumOf (w : World) (s : ByteArray) (hs : s.size ≤ 1048576) : Calls Try.prog 64 #[.string s] w fun e w' => e = .returned (.int .u32 (sumOf s)) ∧ w = w' := by
  go_enter Try.func64, Try.ntmps64
  go_wp2_with (go_at_call 67; refine (spec_SumMore _ 4294967295 _ (by omega) hs).mono ?_; rintro e w' ⟨rfl, rfl⟩)
  go_ret; exact ⟨rfl, rfl⟩
set_option maxHeartbeats 2000000 in
theorem impl_fourBytes (w : World) (n : Nat) (hn : n < 4294967296) : Calls Try.prog 65 #[.int .u32 n] w fun e w' => e = .returned (.string (fourB n)) ∧ Below w.heap.size w w' := by
  go_enter Try.func65, Try.ntmps65
  go_wp2_with (refine wpList_bytesAt rfl _ rfl Try.underlying5 Try.underlying9 [UInt8.ofNat (n / 16777216), UInt8.ofNat (n / 65536), UInt8.ofNat (n / 256), UInt8.ofNat n] rfl rfl (at_lit _ _ _ _ _ (by simp [u8c]; omega)) ?_)
  go_ret; exact ⟨rfl, (Below.refl _ _).alloc (Nat.le_refl _) _⟩
set_option maxHeartbeats 2000000 in
theorem spec_l02Four (w : World) (n : Nat) (hn : n < 4294967296) : Calls Try.prog 63 #[.int .u32 n] w fun e w' => e = .returned (.string (fourB n)) ∧ Below w.heap.size w w' := by
  go_enter Try.func63, Try.ntmps63
  go_wp2_with (refine wpList_bytesAt rfl _ rfl Try.underlying5 Try.underlying9 [UInt8.ofNat (n / 16777216), UInt8.ofNat (n / 65536), UInt8.ofNat (n / 256), UInt8.ofNat n] rfl rfl (at_lit _ _ _ _ _ (by simp [u8c]; omega)) ?_)
  go_ret; exact ⟨rfl, (Below.refl _ _).alloc (Nat.le_refl _) _⟩
theorem fourB_size (n : Nat) : (fourB n).size = 4 := by unfold fourB; rw [bs_size]; rfl
def sealed (s : ByteArray) : ByteArray × Bool := if s.size ≤ 20000 then (s ++ fourB (sumOf s), true) else (⟨#[]⟩, false)
theorem impl_Sealed (w : World) (s : ByteArray) (hs : s.size ≤ 1048576) : Calls Try.prog 60 #[.string s] w fun e w' => e = .returned (.tuple #[.string (sealed s).1, .bool (sealed s).2]) ∧ Below w.heap.size w w' := by
  have h4 := fourB_size (sumOf s)
  have h5 : ¬ 9223372036854775807 < s.size + (fourB (sumOf s)).size := by omega
  by_cases hz : s.size ≤ 20000
  · go_enter Try.func60, Try.ntmps60
    go_wp2_with (first | (go_at_call 66; refine (impl_SumOf _ _ hs).mono ?_; rintro e w' ⟨rfl, rfl⟩) | (go_at_call 65; refine (impl_fourBytes _ _ (sumOf_lt s)).mono ?_; rintro e w' ⟨rfl, hb⟩))
    go_ret2; exact ⟨by simp [sealed, hz], hb⟩
  · have hz2 : 20000 < s.size := by omega
    go_enter Try.func60, Try.ntmps60
    go_wp2_with (fail)
    go_ret2; exact ⟨by simp [sealed, hz], Below.refl _ _⟩
theorem spec_Sealed (w : World) (s : ByteArray) (hs : s.size ≤ 1048576) : Calls Try.prog 59 #[.string s] w fun e w' => e = .returned (.tuple #[.string (sealed s).1, .bool (sealed s).2]) ∧ Below w.heap.size w w' := by
  have h4 := fourB_size (sumOf s)
  have h5 : ¬ 9223372036854775807 < s.size + (fourB (sumOf s)).size := by omega
  by_cases hz : s.size ≤ 20000
  · go_enter Try.func59, Try.ntmps59
    go_wp2_with (first | (go_at_call 64; refine (spec_SumOf _ _ hs).mono ?_; rintro e w' ⟨rfl, rfl⟩) | (go_at_call 63; refine (spec_l02Four _ _ (sumOf_lt s)).mono ?_; rintro e w' ⟨rfl, hb⟩))
    go_ret2; exact ⟨by simp [sealed, hz], hb⟩
  · have hz2 : 20000 < s.size := by omega
    go_enter Try.func59, Try.ntmps59
    go_wp2_with (fail)
    go_ret2; exact ⟨by simp [sealed, hz], Below.refl _ _⟩
end Go.Proofs.Yticdcndpbnbkhaa
