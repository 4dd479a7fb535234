/- A part of the proof: what the laws need of it. -/
import Derived.Laws.BitsAllLaws
import Derived.Outline
import Derived.Test.YtgllafgpmenjjaaGreatDoorHReL9xBy
import Derived.IntWalk
import Derived.Deep.QuietTactic
import Derived.BigQuiet
import Derived.Sort.Walk0
import Derived.Test.YtgllafgpmenjjaaGreatDoorHReL7xLw
import Derived.Test.YtgllafgpmenjjaaGreatDoorHReL8xRd
import Derived.Test.YtgllafgpmenjjaaGreatDoorHReL6xInf
set_option linter.unusedVariables false
set_option linter.unusedSimpArgs false
set_option linter.unusedVariables false
set_option linter.unusedSimpArgs false
namespace Go.Proofs.YtgllafgpmenjjaaGreatDoor
open Go.RowKit Lay Mk
theorem or_comm32 (a b : Int) : bits .or .u32 a b = bits .or .u32 b a := by
  unfold bits; simp only [BitVec.or_comm]
def rotr (p q : Int) (x : Int) : Int := bits .or .u32 (x / p) (x * q % 4294967296)
theorem wrap32_lt (x : Int) : 0 ≤ IntKind.u32.wrap x ∧ IntKind.u32.wrap x < 4294967296 := by rw [IntKind.wrap_u32']; omega
theorem bits32_lt (op : BinOp) (a b : Int) : 0 ≤ bits op .u32 a b ∧ bits op .u32 a b < 4294967296 := by
  unfold bits
  split <;> exact wrap32_lt _
def turnsAll : List Int := [7, 18, 17, 19, 6, 11, 25, 2, 13, 22]
def rotI (n x : Int) : Int := rotr (2 ^ n.toNat) (2 ^ (32 - n.toNat)) x
theorem rotI7 (x : Int) : rotI 7 x = rotr 128 33554432 x := by unfold rotI; rfl
theorem rotI18 (x : Int) : rotI 18 x = rotr 262144 16384 x := by unfold rotI; rfl
theorem rotI17 (x : Int) : rotI 17 x = rotr 131072 32768 x := by unfold rotI; rfl
theorem rotI19 (x : Int) : rotI 19 x = rotr 524288 8192 x := by unfold rotI; rfl
theorem rotI6 (x : Int) : rotI 6 x = rotr 64 67108864 x := by unfold rotI; rfl
theorem rotI11 (x : Int) : rotI 11 x = rotr 2048 2097152 x := by unfold rotI; rfl
theorem rotI25 (x : Int) : rotI 25 x = rotr 33554432 128 x := by unfold rotI; rfl
theorem rotI2 (x : Int) : rotI 2 x = rotr 4 1073741824 x := by unfold rotI; rfl
theorem rotI13 (x : Int) : rotI 13 x = rotr 8192 524288 x := by unfold rotI; rfl
theorem rotI22 (x : Int) : rotI 22 x = rotr 4194304 1024 x := by unfold rotI; rfl
theorem spec_turn7 (x : Int) (w : World) (h0 : 0 ≤ x) (h1 : x < 4294967296) : Calls Tryz.prog 199 #[.int .u32 x, .int .u64 7] w fun e w' => e = .returned (.int .u32 (rotr 128 33554432 x)) ∧ w = w' := by
  go_enter Tryz.func199, Tryz.ntmps199
  go_wp2
  go_ret
  exact ⟨rfl, rfl⟩
theorem rot7 (x : Int) (w : World) (h0 : 0 ≤ x) (h1 : x < 4294967296) : Calls Tryz.prog 203 #[.int .u32 x, .int .i64 (-7)] w fun e w' => e = .returned (.int .u32 (rotr 128 33554432 x)) ∧ w = w' := by
  have k7 : bits .and .u64 (IntKind.u64.wrap (-7)) 31 = 25 := by decide
  go_enter Tryz.func203, Tryz.ntmps203
  go_wp2
  go_ret
  exact ⟨by unfold rotr; rw [or_comm32]; rfl, rfl⟩
theorem impl_turn7 (x : Int) (w : World) (h0 : 0 ≤ x) (h1 : x < 4294967296) : Calls Tryz.prog 202 #[.int .u32 x, .int .i64 7] w fun e w' => e = .returned (.int .u32 (rotr 128 33554432 x)) ∧ w = w' := by
  go_enter Tryz.func202, Tryz.ntmps202
  go_wp2_with (go_at_call 203; refine (rot7 _ _ h0 h1).mono ?_; rintro e w' ⟨rfl, rfl⟩)
  go_ret
  exact ⟨rfl, rfl⟩
theorem spec_turn18 (x : Int) (w : World) (h0 : 0 ≤ x) (h1 : x < 4294967296) : Calls Tryz.prog 199 #[.int .u32 x, .int .u64 18] w fun e w' => e = .returned (.int .u32 (rotr 262144 16384 x)) ∧ w = w' := by
  go_enter Tryz.func199, Tryz.ntmps199
  go_wp2
  go_ret
  exact ⟨rfl, rfl⟩
theorem rot18 (x : Int) (w : World) (h0 : 0 ≤ x) (h1 : x < 4294967296) : Calls Tryz.prog 203 #[.int .u32 x, .int .i64 (-18)] w fun e w' => e = .returned (.int .u32 (rotr 262144 16384 x)) ∧ w = w' := by
  have k7 : bits .and .u64 (IntKind.u64.wrap (-18)) 31 = 14 := by decide
  go_enter Tryz.func203, Tryz.ntmps203
  go_wp2
  go_ret
  exact ⟨by unfold rotr; rw [or_comm32]; rfl, rfl⟩
theorem impl_turn18 (x : Int) (w : World) (h0 : 0 ≤ x) (h1 : x < 4294967296) : Calls Tryz.prog 202 #[.int .u32 x, .int .i64 18] w fun e w' => e = .returned (.int .u32 (rotr 262144 16384 x)) ∧ w = w' := by
  go_enter Tryz.func202, Tryz.ntmps202
  go_wp2_with (go_at_call 203; refine (rot18 _ _ h0 h1).mono ?_; rintro e w' ⟨rfl, rfl⟩)
  go_ret
  exact ⟨rfl, rfl⟩
theorem spec_turn17 (x : Int) (w : World) (h0 : 0 ≤ x) (h1 : x < 4294967296) : Calls Tryz.prog 199 #[.int .u32 x, .int .u64 17] w fun e w' => e = .returned (.int .u32 (rotr 131072 32768 x)) ∧ w = w' := by
  go_enter Tryz.func199, Tryz.ntmps199
  go_wp2
  go_ret
  exact ⟨rfl, rfl⟩
theorem rot17 (x : Int) (w : World) (h0 : 0 ≤ x) (h1 : x < 4294967296) : Calls Tryz.prog 203 #[.int .u32 x, .int .i64 (-17)] w fun e w' => e = .returned (.int .u32 (rotr 131072 32768 x)) ∧ w = w' := by
  have k7 : bits .and .u64 (IntKind.u64.wrap (-17)) 31 = 15 := by decide
  go_enter Tryz.func203, Tryz.ntmps203
  go_wp2
  go_ret
  exact ⟨by unfold rotr; rw [or_comm32]; rfl, rfl⟩
theorem impl_turn17 (x : Int) (w : World) (h0 : 0 ≤ x) (h1 : x < 4294967296) : Calls Tryz.prog 202 #[.int .u32 x, .int .i64 17] w fun e w' => e = .returned (.int .u32 (rotr 131072 32768 x)) ∧ w = w' := by
  go_enter Tryz.func202, Tryz.ntmps202
  go_wp2_with (go_at_call 203; refine (rot17 _ _ h0 h1).mono ?_; rintro e w' ⟨rfl, rfl⟩)
  go_ret
  exact ⟨rfl, rfl⟩
theorem spec_turn19 (x : Int) (w : World) (h0 : 0 ≤ x) (h1 : x < 4294967296) : Calls Tryz.prog 199 #[.int .u32 x, .int .u64 19] w fun e w' => e = .returned (.int .u32 (rotr 524288 8192 x)) ∧ w = w' := by
  go_enter Tryz.func199, Tryz.ntmps199
  go_wp2
  go_ret
  exact ⟨rfl, rfl⟩
theorem rot19 (x : Int) (w : World) (h0 : 0 ≤ x) (h1 : x < 4294967296) : Calls Tryz.prog 203 #[.int .u32 x, .int .i64 (-19)] w fun e w' => e = .returned (.int .u32 (rotr 524288 8192 x)) ∧ w = w' := by
  have k7 : bits .and .u64 (IntKind.u64.wrap (-19)) 31 = 13 := by decide
  go_enter Tryz.func203, Tryz.ntmps203
  go_wp2
  go_ret
  exact ⟨by unfold rotr; rw [or_comm32]; rfl, rfl⟩
theorem impl_turn19 (x : Int) (w : World) (h0 : 0 ≤ x) (h1 : x < 4294967296) : Calls Tryz.prog 202 #[.int .u32 x, .int .i64 19] w fun e w' => e = .returned (.int .u32 (rotr 524288 8192 x)) ∧ w = w' := by
  go_enter Tryz.func202, Tryz.ntmps202
  go_wp2_with (go_at_call 203; refine (rot19 _ _ h0 h1).mono ?_; rintro e w' ⟨rfl, rfl⟩)
  go_ret
  exact ⟨rfl, rfl⟩
theorem spec_turn6 (x : Int) (w : World) (h0 : 0 ≤ x) (h1 : x < 4294967296) : Calls Tryz.prog 199 #[.int .u32 x, .int .u64 6] w fun e w' => e = .returned (.int .u32 (rotr 64 67108864 x)) ∧ w = w' := by
  go_enter Tryz.func199, Tryz.ntmps199
  go_wp2
  go_ret
  exact ⟨rfl, rfl⟩
theorem rot6 (x : Int) (w : World) (h0 : 0 ≤ x) (h1 : x < 4294967296) : Calls Tryz.prog 203 #[.int .u32 x, .int .i64 (-6)] w fun e w' => e = .returned (.int .u32 (rotr 64 67108864 x)) ∧ w = w' := by
  have k7 : bits .and .u64 (IntKind.u64.wrap (-6)) 31 = 26 := by decide
  go_enter Tryz.func203, Tryz.ntmps203
  go_wp2
  go_ret
  exact ⟨by unfold rotr; rw [or_comm32]; rfl, rfl⟩
theorem impl_turn6 (x : Int) (w : World) (h0 : 0 ≤ x) (h1 : x < 4294967296) : Calls Tryz.prog 202 #[.int .u32 x, .int .i64 6] w fun e w' => e = .returned (.int .u32 (rotr 64 67108864 x)) ∧ w = w' := by
  go_enter Tryz.func202, Tryz.ntmps202
  go_wp2_with (go_at_call 203; refine (rot6 _ _ h0 h1).mono ?_; rintro e w' ⟨rfl, rfl⟩)
  go_ret
  exact ⟨rfl, rfl⟩
theorem spec_turn11 (x : Int) (w : World) (h0 : 0 ≤ x) (h1 : x < 4294967296) : Calls Tryz.prog 199 #[.int .u32 x, .int .u64 11] w fun e w' => e = .returned (.int .u32 (rotr 2048 2097152 x)) ∧ w = w' := by
  go_enter Tryz.func199, Tryz.ntmps199
  go_wp2
  go_ret
  exact ⟨rfl, rfl⟩
theorem rot11 (x : Int) (w : World) (h0 : 0 ≤ x) (h1 : x < 4294967296) : Calls Tryz.prog 203 #[.int .u32 x, .int .i64 (-11)] w fun e w' => e = .returned (.int .u32 (rotr 2048 2097152 x)) ∧ w = w' := by
  have k7 : bits .and .u64 (IntKind.u64.wrap (-11)) 31 = 21 := by decide
  go_enter Tryz.func203, Tryz.ntmps203
  go_wp2
  go_ret
  exact ⟨by unfold rotr; rw [or_comm32]; rfl, rfl⟩
theorem impl_turn11 (x : Int) (w : World) (h0 : 0 ≤ x) (h1 : x < 4294967296) : Calls Tryz.prog 202 #[.int .u32 x, .int .i64 11] w fun e w' => e = .returned (.int .u32 (rotr 2048 2097152 x)) ∧ w = w' := by
  go_enter Tryz.func202, Tryz.ntmps202
  go_wp2_with (go_at_call 203; refine (rot11 _ _ h0 h1).mono ?_; rintro e w' ⟨rfl, rfl⟩)
  go_ret
  exact ⟨rfl, rfl⟩
theorem spec_turn25 (x : Int) (w : World) (h0 : 0 ≤ x) (h1 : x < 4294967296) : Calls Tryz.prog 199 #[.int .u32 x, .int .u64 25] w fun e w' => e = .returned (.int .u32 (rotr 33554432 128 x)) ∧ w = w' := by
  go_enter Tryz.func199, Tryz.ntmps199
  go_wp2
  go_ret
  exact ⟨rfl, rfl⟩
theorem rot25 (x : Int) (w : World) (h0 : 0 ≤ x) (h1 : x < 4294967296) : Calls Tryz.prog 203 #[.int .u32 x, .int .i64 (-25)] w fun e w' => e = .returned (.int .u32 (rotr 33554432 128 x)) ∧ w = w' := by
  have k7 : bits .and .u64 (IntKind.u64.wrap (-25)) 31 = 7 := by decide
  go_enter Tryz.func203, Tryz.ntmps203
  go_wp2
  go_ret
  exact ⟨by unfold rotr; rw [or_comm32]; rfl, rfl⟩
theorem impl_turn25 (x : Int) (w : World) (h0 : 0 ≤ x) (h1 : x < 4294967296) : Calls Tryz.prog 202 #[.int .u32 x, .int .i64 25] w fun e w' => e = .returned (.int .u32 (rotr 33554432 128 x)) ∧ w = w' := by
  go_enter Tryz.func202, Tryz.ntmps202
  go_wp2_with (go_at_call 203; refine (rot25 _ _ h0 h1).mono ?_; rintro e w' ⟨rfl, rfl⟩)
  go_ret
  exact ⟨rfl, rfl⟩
theorem spec_turn2 (x : Int) (w : World) (h0 : 0 ≤ x) (h1 : x < 4294967296) : Calls Tryz.prog 199 #[.int .u32 x, .int .u64 2] w fun e w' => e = .returned (.int .u32 (rotr 4 1073741824 x)) ∧ w = w' := by
  go_enter Tryz.func199, Tryz.ntmps199
  go_wp2
  go_ret
  exact ⟨rfl, rfl⟩
theorem rot2 (x : Int) (w : World) (h0 : 0 ≤ x) (h1 : x < 4294967296) : Calls Tryz.prog 203 #[.int .u32 x, .int .i64 (-2)] w fun e w' => e = .returned (.int .u32 (rotr 4 1073741824 x)) ∧ w = w' := by
  have k7 : bits .and .u64 (IntKind.u64.wrap (-2)) 31 = 30 := by decide
  go_enter Tryz.func203, Tryz.ntmps203
  go_wp2
  go_ret
  exact ⟨by unfold rotr; rw [or_comm32]; rfl, rfl⟩
theorem impl_turn2 (x : Int) (w : World) (h0 : 0 ≤ x) (h1 : x < 4294967296) : Calls Tryz.prog 202 #[.int .u32 x, .int .i64 2] w fun e w' => e = .returned (.int .u32 (rotr 4 1073741824 x)) ∧ w = w' := by
  go_enter Tryz.func202, Tryz.ntmps202
  go_wp2_with (go_at_call 203; refine (rot2 _ _ h0 h1).mono ?_; rintro e w' ⟨rfl, rfl⟩)
  go_ret
  exact ⟨rfl, rfl⟩
theorem spec_turn13 (x : Int) (w : World) (h0 : 0 ≤ x) (h1 : x < 4294967296) : Calls Tryz.prog 199 #[.int .u32 x, .int .u64 13] w fun e w' => e = .returned (.int .u32 (rotr 8192 524288 x)) ∧ w = w' := by
  go_enter Tryz.func199, Tryz.ntmps199
  go_wp2
  go_ret
  exact ⟨rfl, rfl⟩
theorem rot13 (x : Int) (w : World) (h0 : 0 ≤ x) (h1 : x < 4294967296) : Calls Tryz.prog 203 #[.int .u32 x, .int .i64 (-13)] w fun e w' => e = .returned (.int .u32 (rotr 8192 524288 x)) ∧ w = w' := by
  have k7 : bits .and .u64 (IntKind.u64.wrap (-13)) 31 = 19 := by decide
  go_enter Tryz.func203, Tryz.ntmps203
  go_wp2
  go_ret
  exact ⟨by unfold rotr; rw [or_comm32]; rfl, rfl⟩
theorem impl_turn13 (x : Int) (w : World) (h0 : 0 ≤ x) (h1 : x < 4294967296) : Calls Tryz.prog 202 #[.int .u32 x, .int .i64 13] w fun e w' => e = .returned (.int .u32 (rotr 8192 524288 x)) ∧ w = w' := by
  go_enter Tryz.func202, Tryz.ntmps202
  go_wp2_with (go_at_call 203; refine (rot13 _ _ h0 h1).mono ?_; rintro e w' ⟨rfl, rfl⟩)
  go_ret
  exact ⟨rfl, rfl⟩
theorem spec_turn22 (x : Int) (w : World) (h0 : 0 ≤ x) (h1 : x < 4294967296) : Calls Tryz.prog 199 #[.int .u32 x, .int .u64 22] w fun e w' => e = .returned (.int .u32 (rotr 4194304 1024 x)) ∧ w = w' := by
  go_enter Tryz.func199, Tryz.ntmps199
  go_wp2
  go_ret
  exact ⟨rfl, rfl⟩
theorem rot22 (x : Int) (w : World) (h0 : 0 ≤ x) (h1 : x < 4294967296) : Calls Tryz.prog 203 #[.int .u32 x, .int .i64 (-22)] w fun e w' => e = .returned (.int .u32 (rotr 4194304 1024 x)) ∧ w = w' := by
  have k7 : bits .and .u64 (IntKind.u64.wrap (-22)) 31 = 10 := by decide
  go_enter Tryz.func203, Tryz.ntmps203
  go_wp2
  go_ret
  exact ⟨by unfold rotr; rw [or_comm32]; rfl, rfl⟩
theorem impl_turn22 (x : Int) (w : World) (h0 : 0 ≤ x) (h1 : x < 4294967296) : Calls Tryz.prog 202 #[.int .u32 x, .int .i64 22] w fun e w' => e = .returned (.int .u32 (rotr 4194304 1024 x)) ∧ w = w' := by
  go_enter Tryz.func202, Tryz.ntmps202
  go_wp2_with (go_at_call 203; refine (rot22 _ _ h0 h1).mono ?_; rintro e w' ⟨rfl, rfl⟩)
  go_ret
  exact ⟨rfl, rfl⟩
theorem spec_turn (n : Int) (x : Int) (w : World) (hn : n ∈ turnsAll) (h0 : 0 ≤ x) (h1 : x < 4294967296) : Calls Tryz.prog 199 #[.int .u32 x, .int .u64 n] w fun e w' => e = .returned (.int .u32 (rotI n x)) ∧ w = w' := by
  simp only [turnsAll, List.mem_cons, List.mem_nil_iff, or_false] at hn
  rcases hn with rfl | rfl | rfl | rfl | rfl | rfl | rfl | rfl | rfl | rfl
  · rw [rotI7]; exact spec_turn7 x w h0 h1
  · rw [rotI18]; exact spec_turn18 x w h0 h1
  · rw [rotI17]; exact spec_turn17 x w h0 h1
  · rw [rotI19]; exact spec_turn19 x w h0 h1
  · rw [rotI6]; exact spec_turn6 x w h0 h1
  · rw [rotI11]; exact spec_turn11 x w h0 h1
  · rw [rotI25]; exact spec_turn25 x w h0 h1
  · rw [rotI2]; exact spec_turn2 x w h0 h1
  · rw [rotI13]; exact spec_turn13 x w h0 h1
  · rw [rotI22]; exact spec_turn22 x w h0 h1
theorem impl_turn (n : Int) (x : Int) (w : World) (hn : n ∈ turnsAll) (h0 : 0 ≤ x) (h1 : x < 4294967296) : Calls Tryz.prog 202 #[.int .u32 x, .int .i64 n] w fun e w' => e = .returned (.int .u32 (rotI n x)) ∧ w = w' := by
  simp only [turnsAll, List.mem_cons, List.mem_nil_iff, or_false] at hn
  rcases hn with rfl | rfl | rfl | rfl | rfl | rfl | rfl | rfl | rfl | rfl
  · rw [rotI7]; exact impl_turn7 x w h0 h1
  · rw [rotI18]; exact impl_turn18 x w h0 h1
  · rw [rotI17]; exact impl_turn17 x w h0 h1
  · rw [rotI19]; exact impl_turn19 x w h0 h1
  · rw [rotI6]; exact impl_turn6 x w h0 h1
  · rw [rotI11]; exact impl_turn11 x w h0 h1
  · rw [rotI25]; exact impl_turn25 x w h0 h1
  · rw [rotI2]; exact impl_turn2 x w h0 h1
  · rw [rotI13]; exact impl_turn13 x w h0 h1
  · rw [rotI22]; exact impl_turn22 x w h0 h1
end Go.Proofs.YtgllafgpmenjjaaGreatDoor

set_option linter.unusedVariables false
set_option linter.unusedSimpArgs false
namespace Go.Proofs.YtgllafgpmenjjaaGreatDoor
open Go.RowKit Lay Mk
def padZ (n : Nat) : Nat := (119 - n % 64) % 64
def lenB (n k : Nat) : UInt8 := UInt8.ofNat (8 * n / 2 ^ (8 * k))
def lens (n : Nat) : List UInt8 := [lenB n 7, lenB n 6, lenB n 5, lenB n 4, lenB n 3, lenB n 2, lenB n 1, lenB n 0]
def padL (s : ByteArray) : List UInt8 := s.data.toList ++ [128] ++ List.replicate (padZ s.size) 0 ++ lens s.size
def pad (s : ByteArray) : ByteArray := bs (padL s)
theorem pad_size (s : ByteArray) : (pad s).size = s.size + 9 + padZ s.size := by
  have : s.data.size = s.size := rfl
  unfold pad padL; rw [bs_size]; simp [lens]; omega
theorem pad_mod (s : ByteArray) : (pad s).size % 64 = 0 := by rw [pad_size]; unfold padZ; omega
theorem lenB_int (n k : Nat) (z : Int) (h : z = ((8 * n / 2 ^ (8 * k) : Nat) : Int) % 256) : z = ((lenB n k).toNat : Int) := by
  subst h
  unfold lenB
  rw [UInt8.toNat_ofNat']
  omega
theorem padZ_test {n z : Nat} (h : z ≤ padZ n) : (n + 1 + z) % 64 = 56 ↔ z = padZ n := by unfold padZ at *; omega
def slLen : Value → Nat
  | .slice _ n _ => n
  | _ => 0
theorem dlen (s : ByteArray) : s.data.toList.length = s.size := rfl

set_option maxRecDepth 20000 in set_option maxHeartbeats 4000000 in
theorem impl_PadText (w : World) (s : ByteArray) (hs : s.size ≤ 100000000) : Calls Tryz.prog 186 #[.string s] w fun e w' => e = .returned (.string (pad s)) ∧ Below w.heap.size w w' := by
  have hd := dlen s
  have HD := Lib.hid hd; clear hd
  have hz64 : padZ s.size < 64 := by unfold padZ; omega
  have E1 : Hid ((119 - (s.size : Int)) % 64 = ((padZ s.size : Nat) : Int)) := Lib.hid (by unfold padZ; omega)
  obtain ⟨z, hz⟩ : ∃ z, padZ s.size = z := ⟨_, rfl⟩
  rw [hz] at E1 hz64
  have HZ := Lib.hid hz; clear hz
  go_enter Tryz.func186, Tryz.ntmps186
  go_wp2_with (first | (refine wpList_ofStr rfl _ rfl Tryz.underlying5 Tryz.underlying9 rfl (by omega) ?_; intro g cap w1 h1 h2 hg h3 h4; subst hg) | (at_builtin; refine wpList_appB rfl _ _ rfl rfl HD.out.symm (h3.alloc _) h1 h2 [128] rfl rfl (at_lit _ _ _ _ _ rfl) (by omega) ?_; intro A2 cap2 w2 p1 p2 p3 p4; have HL2 : Hid (s.size + 1 = (s.data.toList ++ [128]).length) := Lib.hid (by rw [List.length_append]; rfl); clear h1 h2 h3) | (at_builtin; refine wpList_appZ rfl _ _ rfl Tryz.underlying3 z rfl HL2.out p3 p1 p2 (congrArg (Value.int IntKind.i64) E1.out) (by omega) ?_; intro A3 cap3 w3 q1 q2 q3 q4))
  have hB3 : Below w.heap.size w w3 := ((h4.alloc h4.size _).trans (p4.to_below (by have := h4.size; simp; omega) (fun b hb => hb))).trans (q4.to_below (by have := h4.size; have := p4.size; simp at this; omega) (fun b hb => hb.elim id (fun x => by have := h4.size; simp at x; omega)))
  have r3 : BR w3 A3 cap3 (s.data.toList ++ [128] ++ List.replicate z 0) (fun b => w.heap.size ≤ b) := q3.mono (fun b hb => hb.elim (fun x => x.elim id (fun y => by have := h4.size; simp at y; omega)) (fun x => by have := h4.size; have := p4.size; simp at this; omega))
  obtain ⟨base, hbase⟩ : ∃ l, s.data.toList ++ [128] ++ List.replicate z 0 = l := ⟨_, rfl⟩
  have HL : Hid (s.size + 1 + z = base.length) := Lib.hid (by rw [← hbase]; simp; omega)
  have HPd : Hid (pad s = bs (base ++ lens s.size)) := Lib.hid (by unfold pad padL; rw [HZ.out, hbase])
  rw [hbase] at r3
  clear hbase q3 q4 p3 p4 p1 p2 h4 HL2 E1
  go_loopw [4, 5] (fun u i wr => ∃ (j : Nat) (A : Option Addr) (cap : Nat), j ≤ 8 ∧ i = .int .i64 (7 - (j : Int)) ∧ u = .slice A (s.size + 1 + z + j) cap ∧ s.size + 1 + z + j ≤ cap ∧ cap ≤ maxLen ∧ BR wr A cap (base ++ (lens s.size).take j) (fun b => w.heap.size ≤ b) ∧ Below w.heap.size w wr) (fun _ i _ => (intOf i + 1).toNat)
  case atStart => exact ⟨0, A3, cap3, by omega, by simp, by simp, by omega, q2, by simpa using r3, hB3⟩
  case round =>
    clear r3 hB3 q1 q2
    obtain ⟨j, A, cap, hj, rfl, rfl, c1, c2, r3, hB⟩ := hrel
    have hz := hB.size
    by_cases hlt : j < 8
    · have HL3 : Hid (s.size + 1 + z + j = (base ++ (lens s.size).take j).length) := Lib.hid (by rw [List.length_append, ← HL.out]; simp [lens]; omega)
      rcases (show j = 0 ∨ j = 1 ∨ j = 2 ∨ j = 3 ∨ j = 4 ∨ j = 5 ∨ j = 6 ∨ j = 7 by omega) with rfl | rfl | rfl | rfl | rfl | rfl | rfl | rfl
      · have HV : Hid (∀ q : Int, q = ((8 * s.size / 72057594037927936 : Nat) : Int) % 256 → q = ((lenB s.size 7).toNat : Int)) := Lib.hid (fun q h => lenB_int _ _ q h)
        go_wp2_with (at_builtin; refine wpList_appB rfl _ _ rfl rfl HL3.out (r3.alloc _) c1 c2 [lenB s.size 7] rfl rfl (at_lit _ _ _ _ _ (congrArg (fun q => [Value.int IntKind.u8 q]) (HV.out _ (by omega)))) (by omega) ?_; intro A5 cap5 w5 d1 d2 d3 d4)
        go_roundw
        case rel => exact ⟨0 + 1, A5, cap5, by omega, by simp, rfl, d1, d2, by rw [show base ++ (lens s.size).take (0 + 1) = base ++ (lens s.size).take 0 ++ [lenB s.size 7] from by rw [List.append_assoc]; rfl]; exact d3.mono (fun b hb => hb.elim id (fun y => by simp at y; omega)), (hB.alloc hz _).trans (d4.to_below (by simp; omega) (fun b hb => hb))⟩
        case measure => simp [intOf]
      · have HV : Hid (∀ q : Int, q = ((8 * s.size / 281474976710656 : Nat) : Int) % 256 → q = ((lenB s.size 6).toNat : Int)) := Lib.hid (fun q h => lenB_int _ _ q h)
        go_wp2_with (at_builtin; refine wpList_appB rfl _ _ rfl rfl HL3.out (r3.alloc _) c1 c2 [lenB s.size 6] rfl rfl (at_lit _ _ _ _ _ (congrArg (fun q => [Value.int IntKind.u8 q]) (HV.out _ (by omega)))) (by omega) ?_; intro A5 cap5 w5 d1 d2 d3 d4)
        go_roundw
        case rel => exact ⟨1 + 1, A5, cap5, by omega, by simp, rfl, d1, d2, by rw [show base ++ (lens s.size).take (1 + 1) = base ++ (lens s.size).take 1 ++ [lenB s.size 6] from by rw [List.append_assoc]; rfl]; exact d3.mono (fun b hb => hb.elim id (fun y => by simp at y; omega)), (hB.alloc hz _).trans (d4.to_below (by simp; omega) (fun b hb => hb))⟩
        case measure => simp [intOf]
      · have HV : Hid (∀ q : Int, q = ((8 * s.size / 1099511627776 : Nat) : Int) % 256 → q = ((lenB s.size 5).toNat : Int)) := Lib.hid (fun q h => lenB_int _ _ q h)
        go_wp2_with (at_builtin; refine wpList_appB rfl _ _ rfl rfl HL3.out (r3.alloc _) c1 c2 [lenB s.size 5] rfl rfl (at_lit _ _ _ _ _ (congrArg (fun q => [Value.int IntKind.u8 q]) (HV.out _ (by omega)))) (by omega) ?_; intro A5 cap5 w5 d1 d2 d3 d4)
        go_roundw
        case rel => exact ⟨2 + 1, A5, cap5, by omega, by simp, rfl, d1, d2, by rw [show base ++ (lens s.size).take (2 + 1) = base ++ (lens s.size).take 2 ++ [lenB s.size 5] from by rw [List.append_assoc]; rfl]; exact d3.mono (fun b hb => hb.elim id (fun y => by simp at y; omega)), (hB.alloc hz _).trans (d4.to_below (by simp; omega) (fun b hb => hb))⟩
        case measure => simp [intOf]
      · have HV : Hid (∀ q : Int, q = ((8 * s.size / 4294967296 : Nat) : Int) % 256 → q = ((lenB s.size 4).toNat : Int)) := Lib.hid (fun q h => lenB_int _ _ q h)
        go_wp2_with (at_builtin; refine wpList_appB rfl _ _ rfl rfl HL3.out (r3.alloc _) c1 c2 [lenB s.size 4] rfl rfl (at_lit _ _ _ _ _ (congrArg (fun q => [Value.int IntKind.u8 q]) (HV.out _ (by omega)))) (by omega) ?_; intro A5 cap5 w5 d1 d2 d3 d4)
        go_roundw
        case rel => exact ⟨3 + 1, A5, cap5, by omega, by simp, rfl, d1, d2, by rw [show base ++ (lens s.size).take (3 + 1) = base ++ (lens s.size).take 3 ++ [lenB s.size 4] from by rw [List.append_assoc]; rfl]; exact d3.mono (fun b hb => hb.elim id (fun y => by simp at y; omega)), (hB.alloc hz _).trans (d4.to_below (by simp; omega) (fun b hb => hb))⟩
        case measure => simp [intOf]
      · have HV : Hid (∀ q : Int, q = ((8 * s.size / 16777216 : Nat) : Int) % 256 → q = ((lenB s.size 3).toNat : Int)) := Lib.hid (fun q h => lenB_int _ _ q h)
        go_wp2_with (at_builtin; refine wpList_appB rfl _ _ rfl rfl HL3.out (r3.alloc _) c1 c2 [lenB s.size 3] rfl rfl (at_lit _ _ _ _ _ (congrArg (fun q => [Value.int IntKind.u8 q]) (HV.out _ (by omega)))) (by omega) ?_; intro A5 cap5 w5 d1 d2 d3 d4)
        go_roundw
        case rel => exact ⟨4 + 1, A5, cap5, by omega, by simp, rfl, d1, d2, by rw [show base ++ (lens s.size).take (4 + 1) = base ++ (lens s.size).take 4 ++ [lenB s.size 3] from by rw [List.append_assoc]; rfl]; exact d3.mono (fun b hb => hb.elim id (fun y => by simp at y; omega)), (hB.alloc hz _).trans (d4.to_below (by simp; omega) (fun b hb => hb))⟩
        case measure => simp [intOf]
      · have HV : Hid (∀ q : Int, q = ((8 * s.size / 65536 : Nat) : Int) % 256 → q = ((lenB s.size 2).toNat : Int)) := Lib.hid (fun q h => lenB_int _ _ q h)
        go_wp2_with (at_builtin; refine wpList_appB rfl _ _ rfl rfl HL3.out (r3.alloc _) c1 c2 [lenB s.size 2] rfl rfl (at_lit _ _ _ _ _ (congrArg (fun q => [Value.int IntKind.u8 q]) (HV.out _ (by omega)))) (by omega) ?_; intro A5 cap5 w5 d1 d2 d3 d4)
        go_roundw
        case rel => exact ⟨5 + 1, A5, cap5, by omega, by simp, rfl, d1, d2, by rw [show base ++ (lens s.size).take (5 + 1) = base ++ (lens s.size).take 5 ++ [lenB s.size 2] from by rw [List.append_assoc]; rfl]; exact d3.mono (fun b hb => hb.elim id (fun y => by simp at y; omega)), (hB.alloc hz _).trans (d4.to_below (by simp; omega) (fun b hb => hb))⟩
        case measure => simp [intOf]
      · have HV : Hid (∀ q : Int, q = ((8 * s.size / 256 : Nat) : Int) % 256 → q = ((lenB s.size 1).toNat : Int)) := Lib.hid (fun q h => lenB_int _ _ q h)
        go_wp2_with (at_builtin; refine wpList_appB rfl _ _ rfl rfl HL3.out (r3.alloc _) c1 c2 [lenB s.size 1] rfl rfl (at_lit _ _ _ _ _ (congrArg (fun q => [Value.int IntKind.u8 q]) (HV.out _ (by omega)))) (by omega) ?_; intro A5 cap5 w5 d1 d2 d3 d4)
        go_roundw
        case rel => exact ⟨6 + 1, A5, cap5, by omega, by simp, rfl, d1, d2, by rw [show base ++ (lens s.size).take (6 + 1) = base ++ (lens s.size).take 6 ++ [lenB s.size 1] from by rw [List.append_assoc]; rfl]; exact d3.mono (fun b hb => hb.elim id (fun y => by simp at y; omega)), (hB.alloc hz _).trans (d4.to_below (by simp; omega) (fun b hb => hb))⟩
        case measure => simp [intOf]
      · have HV : Hid (∀ q : Int, q = ((8 * s.size / 1 : Nat) : Int) % 256 → q = ((lenB s.size 0).toNat : Int)) := Lib.hid (fun q h => lenB_int _ _ q h)
        go_wp2_with (at_builtin; refine wpList_appB rfl _ _ rfl rfl HL3.out (r3.alloc _) c1 c2 [lenB s.size 0] rfl rfl (at_lit _ _ _ _ _ (congrArg (fun q => [Value.int IntKind.u8 q]) (HV.out _ (by omega)))) (by omega) ?_; intro A5 cap5 w5 d1 d2 d3 d4)
        go_roundw
        case rel => exact ⟨7 + 1, A5, cap5, by omega, by simp, rfl, d1, d2, by rw [show base ++ (lens s.size).take (7 + 1) = base ++ (lens s.size).take 7 ++ [lenB s.size 0] from by rw [List.append_assoc]; rfl]; exact d3.mono (fun b hb => hb.elim id (fun y => by simp at y; omega)), (hB.alloc hz _).trans (d4.to_below (by simp; omega) (fun b hb => hb))⟩
        case measure => simp [intOf]
    · have hje : j = 8 := by omega
      subst hje
      have HL4 : Hid (s.size + 1 + z + 8 = (base ++ (lens s.size).take 8).length) := Lib.hid (by rw [List.length_append, ← HL.out]; rfl)
      go_wp2_with (refine wpList_strB rfl _ rfl Tryz.underlying5 Tryz.underlying9 rfl HL4.out r3 ?_)
      go_ret
      exact ⟨by rw [HPd.out]; rfl, hB⟩

set_option maxRecDepth 20000 in set_option maxHeartbeats 4000000 in
theorem spec_PadText (w : World) (s : ByteArray) (hs : s.size ≤ 100000000) : Calls Tryz.prog 176 #[.string s] w fun e w' => e = .returned (.string (pad s)) ∧ Below w.heap.size w w' := by
  have hd := dlen s
  have HD := Lib.hid hd; clear hd
  have hz64 : padZ s.size < 64 := by unfold padZ; omega
  have HT := Lib.hid (fun q => padZ_test (n := s.size) (z := q))
  obtain ⟨z, hz⟩ : ∃ z, padZ s.size = z := ⟨_, rfl⟩
  rw [hz] at HT hz64
  have HZ := Lib.hid hz; clear hz
  go_enter Tryz.func176, Tryz.ntmps176
  go_wp2_with (first | (refine wpList_ofStr rfl _ rfl Tryz.underlying5 Tryz.underlying9 rfl (by omega) ?_; intro g cap w1 h1 h2 hg h3 h4; subst hg) | (at_builtin; refine wpList_appB rfl _ _ rfl rfl HD.out.symm (h3.alloc _) h1 h2 [128] rfl rfl (at_lit _ _ _ _ _ rfl) (by omega) ?_; intro A2 cap2 w2 p1 p2 p3 p4; clear h1 h2 h3))
  have hB2 : Below w.heap.size w w2 := ((h4.alloc h4.size _).trans (p4.to_below (by have := h4.size; simp; omega) (fun b hb => hb)))
  have r2 : BR w2 A2 cap2 (s.data.toList ++ [128] ++ List.replicate 0 0) (fun b => w.heap.size ≤ b) := by
    rw [List.replicate_zero, List.append_nil]
    exact p3.mono (fun b hb => hb.elim id (fun x => by have := h4.size; simp at x; omega))
  obtain ⟨bas, hbas⟩ : ∃ l, s.data.toList ++ [128] = l := ⟨_, rfl⟩
  have HL0 : Hid (s.size + 1 = bas.length) := Lib.hid (by rw [← hbas]; simp)
  have HPd : Hid (pad s = bs (bas ++ List.replicate z 0 ++ lens s.size)) := Lib.hid (by unfold pad padL; rw [HZ.out, hbas])
  rw [hbas] at r2
  clear hbas p3 p4 h4
  go_loopw [3] (fun u wr => ∃ (q : Nat) (A : Option Addr) (cap : Nat), q ≤ z ∧ u = .slice A (s.size + 1 + q) cap ∧ s.size + 1 + q ≤ cap ∧ cap ≤ maxLen ∧ BR wr A cap (bas ++ List.replicate q 0) (fun b => w.heap.size ≤ b) ∧ Below w.heap.size w wr) (fun u _ => s.size + 1 + z - slLen u)
  case atStart => exact ⟨0, A2, cap2, by omega, by simp, by simpa using p1, p2, r2, hB2⟩
  case round =>
    clear r2 hB2 p1 p2
    obtain ⟨q, A3, cap3, hq, rfl, q1, q2, r3, hB3⟩ := hrel
    have hz3 := hB3.size
    have ht := HT.out q hq
    by_cases hlt : q < z
    · have ht1 : ¬ (s.size + 1 + q) % 64 = 56 := by omega
      have hb1 : (((s.size : Int) + 1 + (q : Int)) % 64 != 56) = true := by rw [bne_iff_ne]; omega
      have HL3 : Hid (s.size + 1 + q = (bas ++ List.replicate q 0).length) := Lib.hid (by rw [List.length_append, ← HL0.out]; simp)
      clear ht
      go_wp2_with (at_builtin; refine wpList_appB rfl _ _ rfl rfl HL3.out (r3.alloc _) q1 q2 [0] rfl rfl (at_lit _ _ _ _ _ rfl) (by omega) ?_; intro A5 cap5 w5 d1 d2 d3 d4)
      go_roundw
      case rel => exact ⟨q + 1, A5, cap5, by omega, rfl, d1, d2, by rw [List.replicate_succ', ← List.append_assoc]; exact d3.mono (fun b hb => hb.elim id (fun y => by simp at y; omega)), (hB3.alloc hz3 _).trans (d4.to_below (by simp; omega) (fun b hb => hb))⟩
      case measure => simp [slLen]; omega
    · have hqe : q = z := by omega
      subst hqe
      have ht1 : (s.size + 1 + q) % 64 = 56 := ht.2 rfl
      have hb1 : (((s.size : Int) + 1 + (q : Int)) % 64 != 56) = false := by rw [bne_eq_false_iff_eq]; omega
      clear ht hlt hq HT
      have HT1 := Lib.hid ht1; clear ht1
      go_wp2
      obtain ⟨base, hbase⟩ : ∃ l, bas ++ List.replicate q 0 = l := ⟨_, rfl⟩
      have HL : Hid (s.size + 1 + q = base.length) := Lib.hid (by rw [← hbase, List.length_append, ← HL0.out]; simp)
      rw [hbase] at r3 HPd
      clear hbase hb1
      go_loopw [3, 5] (fun u i wr => ∃ (j : Nat) (A : Option Addr) (cap : Nat), j ≤ 8 ∧ i = .int .i64 (7 - (j : Int)) ∧ u = .slice A (s.size + 1 + q + j) cap ∧ s.size + 1 + q + j ≤ cap ∧ cap ≤ maxLen ∧ BR wr A cap (base ++ (lens s.size).take j) (fun b => w.heap.size ≤ b) ∧ Below w.heap.size w wr) (fun _ i _ => (intOf i + 1).toNat)
      case atStart => exact ⟨0, A3, cap3, by omega, by simp, by simp, by omega, q2, by simpa using r3, hB3⟩
      case round =>
        clear r3 hB3 q1 q2
        obtain ⟨j, A, cap, hj, rfl, rfl, c1, c2, r3, hB⟩ := hrel
        have hz := hB.size
        by_cases hlt : j < 8
        · have HL3 : Hid (s.size + 1 + q + j = (base ++ (lens s.size).take j).length) := Lib.hid (by rw [List.length_append, ← HL.out]; simp [lens]; omega)
          rcases (show j = 0 ∨ j = 1 ∨ j = 2 ∨ j = 3 ∨ j = 4 ∨ j = 5 ∨ j = 6 ∨ j = 7 by omega) with rfl | rfl | rfl | rfl | rfl | rfl | rfl | rfl
          · have HV : Hid (∀ q : Int, q = ((8 * s.size / 72057594037927936 : Nat) : Int) % 256 → q = ((lenB s.size 7).toNat : Int)) := Lib.hid (fun q h => lenB_int _ _ q h)
            go_wp2_with (at_builtin; refine wpList_appB rfl _ _ rfl rfl HL3.out (r3.alloc _) c1 c2 [lenB s.size 7] rfl rfl (at_lit _ _ _ _ _ (congrArg (fun q => [Value.int IntKind.u8 q]) (HV.out _ (by omega)))) (by omega) ?_; intro A5 cap5 w5 d1 d2 d3 d4)
            go_roundw
            case rel => exact ⟨0 + 1, A5, cap5, by omega, by simp, rfl, d1, d2, by rw [show base ++ (lens s.size).take (0 + 1) = base ++ (lens s.size).take 0 ++ [lenB s.size 7] from by rw [List.append_assoc]; rfl]; exact d3.mono (fun b hb => hb.elim id (fun y => by simp at y; omega)), (hB.alloc hz _).trans (d4.to_below (by simp; omega) (fun b hb => hb))⟩
            case measure => simp [intOf]
          · have HV : Hid (∀ q : Int, q = ((8 * s.size / 281474976710656 : Nat) : Int) % 256 → q = ((lenB s.size 6).toNat : Int)) := Lib.hid (fun q h => lenB_int _ _ q h)
            go_wp2_with (at_builtin; refine wpList_appB rfl _ _ rfl rfl HL3.out (r3.alloc _) c1 c2 [lenB s.size 6] rfl rfl (at_lit _ _ _ _ _ (congrArg (fun q => [Value.int IntKind.u8 q]) (HV.out _ (by omega)))) (by omega) ?_; intro A5 cap5 w5 d1 d2 d3 d4)
            go_roundw
            case rel => exact ⟨1 + 1, A5, cap5, by omega, by simp, rfl, d1, d2, by rw [show base ++ (lens s.size).take (1 + 1) = base ++ (lens s.size).take 1 ++ [lenB s.size 6] from by rw [List.append_assoc]; rfl]; exact d3.mono (fun b hb => hb.elim id (fun y => by simp at y; omega)), (hB.alloc hz _).trans (d4.to_below (by simp; omega) (fun b hb => hb))⟩
            case measure => simp [intOf]
          · have HV : Hid (∀ q : Int, q = ((8 * s.size / 1099511627776 : Nat) : Int) % 256 → q = ((lenB s.size 5).toNat : Int)) := Lib.hid (fun q h => lenB_int _ _ q h)
            go_wp2_with (at_builtin; refine wpList_appB rfl _ _ rfl rfl HL3.out (r3.alloc _) c1 c2 [lenB s.size 5] rfl rfl (at_lit _ _ _ _ _ (congrArg (fun q => [Value.int IntKind.u8 q]) (HV.out _ (by omega)))) (by omega) ?_; intro A5 cap5 w5 d1 d2 d3 d4)
            go_roundw
            case rel => exact ⟨2 + 1, A5, cap5, by omega, by simp, rfl, d1, d2, by rw [show base ++ (lens s.size).take (2 + 1) = base ++ (lens s.size).take 2 ++ [lenB s.size 5] from by rw [List.append_assoc]; rfl]; exact d3.mono (fun b hb => hb.elim id (fun y => by simp at y; omega)), (hB.alloc hz _).trans (d4.to_below (by simp; omega) (fun b hb => hb))⟩
            case measure => simp [intOf]
          · have HV : Hid (∀ q : Int, q = ((8 * s.size / 4294967296 : Nat) : Int) % 256 → q = ((lenB s.size 4).toNat : Int)) := Lib.hid (fun q h => lenB_int _ _ q h)
            go_wp2_with (at_builtin; refine wpList_appB rfl _ _ rfl rfl HL3.out (r3.alloc _) c1 c2 [lenB s.size 4] rfl rfl (at_lit _ _ _ _ _ (congrArg (fun q => [Value.int IntKind.u8 q]) (HV.out _ (by omega)))) (by omega) ?_; intro A5 cap5 w5 d1 d2 d3 d4)
            go_roundw
            case rel => exact ⟨3 + 1, A5, cap5, by omega, by simp, rfl, d1, d2, by rw [show base ++ (lens s.size).take (3 + 1) = base ++ (lens s.size).take 3 ++ [lenB s.size 4] from by rw [List.append_assoc]; rfl]; exact d3.mono (fun b hb => hb.elim id (fun y => by simp at y; omega)), (hB.alloc hz _).trans (d4.to_below (by simp; omega) (fun b hb => hb))⟩
            case measure => simp [intOf]
          · have HV : Hid (∀ q : Int, q = ((8 * s.size / 16777216 : Nat) : Int) % 256 → q = ((lenB s.size 3).toNat : Int)) := Lib.hid (fun q h => lenB_int _ _ q h)
            go_wp2_with (at_builtin; refine wpList_appB rfl _ _ rfl rfl HL3.out (r3.alloc _) c1 c2 [lenB s.size 3] rfl rfl (at_lit _ _ _ _ _ (congrArg (fun q => [Value.int IntKind.u8 q]) (HV.out _ (by omega)))) (by omega) ?_; intro A5 cap5 w5 d1 d2 d3 d4)
            go_roundw
            case rel => exact ⟨4 + 1, A5, cap5, by omega, by simp, rfl, d1, d2, by rw [show base ++ (lens s.size).take (4 + 1) = base ++ (lens s.size).take 4 ++ [lenB s.size 3] from by rw [List.append_assoc]; rfl]; exact d3.mono (fun b hb => hb.elim id (fun y => by simp at y; omega)), (hB.alloc hz _).trans (d4.to_below (by simp; omega) (fun b hb => hb))⟩
            case measure => simp [intOf]
          · have HV : Hid (∀ q : Int, q = ((8 * s.size / 65536 : Nat) : Int) % 256 → q = ((lenB s.size 2).toNat : Int)) := Lib.hid (fun q h => lenB_int _ _ q h)
            go_wp2_with (at_builtin; refine wpList_appB rfl _ _ rfl rfl HL3.out (r3.alloc _) c1 c2 [lenB s.size 2] rfl rfl (at_lit _ _ _ _ _ (congrArg (fun q => [Value.int IntKind.u8 q]) (HV.out _ (by omega)))) (by omega) ?_; intro A5 cap5 w5 d1 d2 d3 d4)
            go_roundw
            case rel => exact ⟨5 + 1, A5, cap5, by omega, by simp, rfl, d1, d2, by rw [show base ++ (lens s.size).take (5 + 1) = base ++ (lens s.size).take 5 ++ [lenB s.size 2] from by rw [List.append_assoc]; rfl]; exact d3.mono (fun b hb => hb.elim id (fun y => by simp at y; omega)), (hB.alloc hz _).trans (d4.to_below (by simp; omega) (fun b hb => hb))⟩
            case measure => simp [intOf]
          · have HV : Hid (∀ q : Int, q = ((8 * s.size / 256 : Nat) : Int) % 256 → q = ((lenB s.size 1).toNat : Int)) := Lib.hid (fun q h => lenB_int _ _ q h)
            go_wp2_with (at_builtin; refine wpList_appB rfl _ _ rfl rfl HL3.out (r3.alloc _) c1 c2 [lenB s.size 1] rfl rfl (at_lit _ _ _ _ _ (congrArg (fun q => [Value.int IntKind.u8 q]) (HV.out _ (by omega)))) (by omega) ?_; intro A5 cap5 w5 d1 d2 d3 d4)
            go_roundw
            case rel => exact ⟨6 + 1, A5, cap5, by omega, by simp, rfl, d1, d2, by rw [show base ++ (lens s.size).take (6 + 1) = base ++ (lens s.size).take 6 ++ [lenB s.size 1] from by rw [List.append_assoc]; rfl]; exact d3.mono (fun b hb => hb.elim id (fun y => by simp at y; omega)), (hB.alloc hz _).trans (d4.to_below (by simp; omega) (fun b hb => hb))⟩
            case measure => simp [intOf]
          · have HV : Hid (∀ q : Int, q = ((8 * s.size / 1 : Nat) : Int) % 256 → q = ((lenB s.size 0).toNat : Int)) := Lib.hid (fun q h => lenB_int _ _ q h)
            go_wp2_with (at_builtin; refine wpList_appB rfl _ _ rfl rfl HL3.out (r3.alloc _) c1 c2 [lenB s.size 0] rfl rfl (at_lit _ _ _ _ _ (congrArg (fun q => [Value.int IntKind.u8 q]) (HV.out _ (by omega)))) (by omega) ?_; intro A5 cap5 w5 d1 d2 d3 d4)
            go_roundw
            case rel => exact ⟨7 + 1, A5, cap5, by omega, by simp, rfl, d1, d2, by rw [show base ++ (lens s.size).take (7 + 1) = base ++ (lens s.size).take 7 ++ [lenB s.size 0] from by rw [List.append_assoc]; rfl]; exact d3.mono (fun b hb => hb.elim id (fun y => by simp at y; omega)), (hB.alloc hz _).trans (d4.to_below (by simp; omega) (fun b hb => hb))⟩
            case measure => simp [intOf]
        · have hje : j = 8 := by omega
          subst hje
          have HL4 : Hid (s.size + 1 + q + 8 = (base ++ (lens s.size).take 8).length) := Lib.hid (by rw [List.length_append, ← HL.out]; rfl)
          go_wp2_with (refine wpList_strB rfl _ rfl Tryz.underlying5 Tryz.underlying9 rfl HL4.out r3 ?_)
          go_ret
          exact ⟨by rw [HPd.out]; rfl, hB⟩

end Go.Proofs.YtgllafgpmenjjaaGreatDoor

set_option linter.unusedVariables false
set_option linter.unusedSimpArgs false
namespace Go.Proofs.YtgllafgpmenjjaaGreatDoor
open Go.RowKit Lay Mk
structure Grown (W : World) where
  w : World
  ok : Below W.heap.size W w
instance {W : World} : Nonempty (Grown W) := ⟨⟨W, Below.refl _ _⟩⟩
theorem Grown.size {W : World} (g : Grown W) : W.heap.size ≤ g.w.heap.size := g.ok.size
theorem Grown.cell {W : World} {p : Addr} {v : Value} (h : W.cell? p = some v) : ∀ g : Grown W, g.w.cell? p = some v := fun g => (g.ok.cell (p := p) (World.block_lt_of_cell? W p h)).trans h
theorem grown_call {P : Program} {f : FuncId} {args : Array Value} {W : World} {v : Value} {g : Grown W} (h : Calls P f args g.w fun e w' => e = .returned v ∧ Below g.w.heap.size g.w w') : Calls P f args g.w fun e w' => e = .returned v ∧ ∃ g' : Grown W, w' = g'.w :=
  h.mono fun _ _ ⟨he, hb⟩ => ⟨he, ⟨_, g.ok.trans (hb.mono g.size)⟩, rfl⟩
theorem grown_same {P : Program} {f : FuncId} {args : Array Value} {W : World} {v : Value} {g : Grown W} (h : Calls P f args g.w fun e w' => e = .returned v ∧ g.w = w') : Calls P f args g.w fun e w' => e = .returned v ∧ ∃ g' : Grown W, w' = g'.w :=
  h.mono fun _ _ ⟨he, hb⟩ => ⟨he, g, hb.symm⟩
theorem grown_below {W w : World} (h : ∃ g : Grown W, w = g.w) : Below W.heap.size W w := by
  obtain ⟨g, rfl⟩ := h
  exact g.ok
theorem wp_region_grown {P : Program} {id : Nat} {Q : Exit → Act → World → Prop} {a : Act} {W : World} {l : List Oper} (hm : P.follows .mixedOrders = true) (hB : Region.lexB .any l.toArray = true)
    (h : wpQuiet P l.toArray (fun w' => ∃ g : Grown W, w' = g.w) (fun a' => ∀ w', (∃ g : Grown W, w' = g.w) → Q .normal a' w') l a) : (Code.region id l.toArray true).wp P Q a W :=
  wp_region_quiet (C := fun w' => ∃ g : Grown W, w' = g.w) hm hB ⟨⟨_, (Below.refl _ _).drew⟩, rfl⟩ (by simpa using h)
end Go.Proofs.YtgllafgpmenjjaaGreatDoor

set_option linter.unusedVariables false
set_option linter.unusedSimpArgs false
namespace Go.Proofs.YtgllafgpmenjjaaGreatDoor
open Go.RowKit Lay Mk
theorem step_app {α : Type} [Lay α] [SlTy α] [Inf α] {ops : Array Oper} {o : Oper} {a : Act} {K : Act → World → Prop} {Q : Exit → Act → World → Prop} {E : Prop} {w : World} (hgd : o.guard = none) (s x : Operand)
    (ho : o.op = .call { callee := .builtin .append, args := #[s, x], argTypes := #[SlTy.st α, SlTy.st α] })
    {A A2 : Option Addr} {cap c2 k m : Nat} {xs ys : List α} {S T : Blks} (hs : a.eval s = .slice A k cap) (hk : k = xs.length) (hrow : Row true w A cap xs S) (hle : k ≤ cap) (hcm : cap ≤ maxLen)
    (hx : a.eval x = .slice A2 m c2) (hm : m = ys.length) (hsrc : Src w A2 ys T) (hd : disj S T) (hb : k + m ≤ 4000000000)
    (h : ∀ A' cap' w', k + m ≤ cap' → cap' ≤ maxLen → Row true w' A' cap' (xs ++ ys) (fun b => S b ∨ T b ∨ (w.heap.size ≤ b ∧ b < w'.heap.size)) → Chg S w w' → K (a.put o.dst (.slice A' (k + m) cap')) w') :
    if Region.wanted o (yielded ops a.tmps) = true then Oper.wp Tryz.prog o a w K Q else E := by
  have hw : Region.wanted o (yielded ops a.tmps) = true := by simp [Region.wanted, hgd]
  rw [if_pos hw]
  subst hk; subst hm
  obtain ⟨z, bytes, e, hz, hby⟩ := Inf.ex (α := α)
  obtain ⟨i, hi, h0, h1, h2⟩ := info_parts e
  obtain ⟨A', cap', w', hr, h3, h4, h5, h6⟩ := run_app (P := Tryz.prog) (c2 := c2) (SlTy.st α) o.type i z bytes Inf.st hi h0 h1 h2 hz hrow hle hcm hsrc hd (by unfold maxLen; omega)
    (Nat.le_trans (Nat.mul_le_mul hb hby) (by decide))
  unfold Oper.wp execOp
  simp only [ho, resolve, invoke, builtin, Sem.run_bind, Sem.run_pure, Result.andThen_ok, List.map_toArray, List.map_cons, List.map_nil, hs, hx, hr]
  exact h A' cap' w' h3 h4 h5 h6

end Go.Proofs.YtgllafgpmenjjaaGreatDoor

set_option linter.unusedVariables false
set_option linter.unusedSimpArgs false
namespace Go.Proofs.YtgllafgpmenjjaaGreatDoor
open Go.RowKit Lay Mk
def bLess (a b : ByteArray) : Bool := Op.bytesLess a.toList b.toList
def prevLess (xs : List Leaf) (k : Nat) (x : Leaf) : Bool := match k with | 0 => true | j + 1 => match xs[j]? with | some y => bLess y.name x.name | none => false
def leafP (xs : List Leaf) (k : Nat) : Bool := match xs[k]? with | none => false | some x => nameOk x.name && valueOk x.value && prevLess xs k x
def leavesOk (xs : List Leaf) : Bool := allN xs.length (leafP xs) && decide (xs.length ≤ 24)
theorem leafP_at {xs : List Leaf} {k : Nat} (h : k < xs.length) : leafP xs k = (nameOk xs[k].name && valueOk xs[k].value && prevLess xs k xs[k]) := by unfold leafP; rw [List.getElem?_eq_getElem h]
theorem prevLess_succ {xs : List Leaf} {k : Nat} (h : k + 1 < xs.length) (x : Leaf) : prevLess xs (k + 1) x = bLess xs[k].name x.name := by simp only [prevLess]; rw [List.getElem?_eq_getElem (by omega)]
theorem leavesOk_bad {xs : List Leaf} {k : Nat} (h : k < xs.length) (hp : leafP xs k = false) : leavesOk xs = false := by unfold leavesOk; rw [allN_bad h hp]; rfl
theorem leavesOk_long {xs : List Leaf} (h : 24 < xs.length) : leavesOk xs = false := by unfold leavesOk; rw [decide_eq_false (by omega)]; simp
theorem leavesOk_end {xs : List Leaf} (h : ∀ k, k < xs.length → leafP xs k = true) : leavesOk xs = decide (xs.length ≤ 24) := by unfold leavesOk; rw [allN_end h]; rfl

set_option maxRecDepth 20000 in set_option maxHeartbeats 8000000 in
theorem impl_LeavesOk (w : World) (xs : List Leaf) (A : Option Addr) (cap : Nat) (S : Blks) (hx : Row false w A cap xs S) (hl : xs.length ≤ 4000000000) : Calls Tryz.prog 180 #[.slice A xs.length cap] w fun e w' => e = .returned (.bool (leavesOk xs)) ∧ Below w.heap.size w w' := by
  go_enter Tryz.func180, Tryz.ntmps180
  go_wp2
  go_loopw [7] (fun i wr => ∃ k : Nat, k ≤ xs.length ∧ i = .int .i64 k ∧ Hid (∀ j, j < k → leafP xs j = true) ∧ k ≤ 24 ∧ Below w.heap.size w wr) (fun i _ => xs.length - (intOf i).toNat)
  case atStart => exact ⟨0, Nat.zero_le _, rfl, Lib.hid upto_zero, by omega, Below.refl _ _⟩
  case round =>
    obtain ⟨k, hk, rfl, hall, hk24, hb⟩ := hrel
    have hz := hb.size
    by_cases hlt : k < xs.length
    · obtain ⟨b1, o1, rfl, hl1, f0, f1, s0, s1⟩ := Row.atLeaf hx hlt
      replace f0 := (hb.cell (p := ⟨b1, o1 + k * 2, none⟩) hl1).trans f0
      replace f1 := (hb.cell (p := ⟨b1, o1 + k * 2 + 1, none⟩) hl1).trans f1
      have hl2 : b1 < wr.heap.size := by omega
      have HP := Lib.hid (leafP_at hlt)
      have HB := Lib.hid (leavesOk_bad hlt)
      have HN := Lib.hid (upto_succ (p := leafP xs) hall.out)
      obtain ⟨x, hxx⟩ : ∃ x, xs[k] = x := ⟨_, rfl⟩
      rw [hxx] at f0 f1 s0 s1 HP
      have HX := Lib.hid hxx; clear hxx
      have hBl : Below w.heap.size w (wr.alloc (.cells #[.string x.name, .string x.value] 180)) := hb.alloc hz _
      by_cases h24 : 24 ≤ k
      · have HL := Lib.hid (leavesOk_long (show 24 < xs.length by omega))
        have d24 : decide ((24 : Int) ≤ (k : Int)) = true := by simp; omega
        go_wp2
        go_quiet (fail)
        go_wp2
        go_ret
        exact ⟨ret_bool (by rw [HL.out]), Below.drewN hBl _⟩
      have d24 : decide ((24 : Int) ≤ (k : Int)) = false := by simp; omega
      cases hn : nameOk x.name
      · have HF : Hid (leavesOk xs = false) := Lib.hid (HB.out (by rw [HP.out, hn]; rfl))
        go_wp2
        go_quiet ((first | (go_at_call 179; exact quiet_w (impl_NameOk _ _ s0)) | (go_at_call 200; exact quiet_w (impl_ValueOk _ _ s1))))
        go_wp2
        go_ret
        exact ⟨ret_bool (by rw [HF.out]), Below.drewN hBl _⟩
      cases hv : valueOk x.value
      · have HF : Hid (leavesOk xs = false) := Lib.hid (HB.out (by rw [HP.out, hn, hv]; rfl))
        go_wp2
        go_quiet ((first | (go_at_call 179; exact quiet_w (impl_NameOk _ _ s0)) | (go_at_call 200; exact quiet_w (impl_ValueOk _ _ s1))))
        go_wp2
        go_ret
        exact ⟨ret_bool (by rw [HF.out]), Below.drewN hBl _⟩
      rcases Nat.eq_zero_or_pos k with h0 | h0
      · subst h0
        simp only [Nat.zero_mul, Nat.add_zero] at f0 f1
        have d0 : decide ((0 : Int) < ((0 : Nat) : Int)) = false := rfl
        have d1 : decide ((0 : Int) < 0) = false := rfl
        · have HF : Hid (∀ q, q < 0 + 1 → leafP xs q = true) := Lib.hid (by exact HN.out (by rw [HP.out, hn, hv]; rfl))
          go_wp2
          go_quiet ((first | (go_at_call 179; exact quiet_w (impl_NameOk _ _ s0)) | (go_at_call 200; exact quiet_w (impl_ValueOk _ _ s1))))
          go_wp2
          go_roundw
          case rel => exact ⟨0 + 1, by omega, by go_num, HF, by omega, Below.drewN hBl _⟩
          case measure => simp [intOf]; omega
      obtain ⟨j, rfl⟩ : ∃ j, k = j + 1 := ⟨k - 1, by omega⟩
      have HPL := Lib.hid (prevLess_succ hlt x)
      obtain ⟨b3, o3, e3, _, g0, _, t0, _⟩ := Row.atLeaf hx (show j < xs.length by omega)
      injection e3 with e3
      injection e3 with e3 e4
      subst e3; subst e4
      replace g0 := (hb.cell (p := ⟨b1, o1 + j * 2, none⟩) hl1).trans g0
      obtain ⟨y, hyy⟩ : ∃ y, xs[j].name = y := ⟨_, rfl⟩
      rw [hyy] at g0 HPL
      have HY := Lib.hid hyy; clear hyy t0
      have d24b : decide ((24 : Int) ≤ (j : Int) + 1) = false := by rw [decide_eq_false_iff_not]; omega
      have d2 : decide ((0 : Int) < (j : Int) + 1) = true := by rw [decide_eq_true_eq]; omega
      cases hp : Op.bytesLess y.toList x.name.toList
      · have HF : Hid (leavesOk xs = false) := Lib.hid (HB.out (by rw [HP.out, hn, hv, HPL.out, show bLess y x.name = false from hp]; rfl))
        go_wp2
        go_quiet ((first | (go_at_call 179; exact quiet_w (impl_NameOk _ _ s0)) | (go_at_call 200; exact quiet_w (impl_ValueOk _ _ s1))))
        go_wp2
        go_ret
        exact ⟨ret_bool (by rw [HF.out]), Below.drewN hBl _⟩
      · have HF : Hid (∀ q, q < j + 1 + 1 → leafP xs q = true) := Lib.hid (by exact HN.out (by rw [HP.out, hn, hv, HPL.out, show bLess y x.name = true from hp]; rfl))
        go_wp2
        go_quiet ((first | (go_at_call 179; exact quiet_w (impl_NameOk _ _ s0)) | (go_at_call 200; exact quiet_w (impl_ValueOk _ _ s1))))
        go_wp2
        go_roundw
        case rel => exact ⟨j + 1 + 1, by omega, by go_num, HF, by omega, Below.drewN hBl _⟩
        case measure => simp [intOf]; omega
    · have hke : k = xs.length := by omega
      subst hke
      have HE := Lib.hid (leavesOk_end hall.out)
      have HD : Hid (decide (xs.length ≤ 24) = true) := Lib.hid (by simpa using hk24)
      go_wp2
      go_ret
      exact ⟨ret_bool (by rw [HE.out, HD.out]), hb⟩
set_option maxRecDepth 20000 in set_option maxHeartbeats 8000000 in
theorem spec_LeavesOk (w : World) (xs : List Leaf) (A : Option Addr) (cap : Nat) (S : Blks) (hx : Row false w A cap xs S) (hl : xs.length ≤ 4000000000) : Calls Tryz.prog 125 #[.slice A xs.length cap] w fun e w' => e = .returned (.bool (leavesOk xs)) ∧ Below w.heap.size w w' := by
  go_enter Tryz.func125, Tryz.ntmps125
  go_wp2
  go_loopw [3] (fun i wr => ∃ k : Nat, k ≤ xs.length ∧ i = .int .i64 k ∧ Hid (∀ j, j < k → leafP xs j = true) ∧ Below w.heap.size w wr) (fun i _ => xs.length - (intOf i).toNat)
  case atStart => exact ⟨0, Nat.zero_le _, rfl, Lib.hid upto_zero, Below.refl _ _⟩
  case round =>
    obtain ⟨k, hk, rfl, hall, hb⟩ := hrel
    have hz := hb.size
    by_cases hlt : k < xs.length
    · obtain ⟨b1, o1, rfl, hl1, f0, f1, s0, s1⟩ := Row.atLeaf hx hlt
      replace f0 := (hb.cell (p := ⟨b1, o1 + k * 2, none⟩) hl1).trans f0
      replace f1 := (hb.cell (p := ⟨b1, o1 + k * 2 + 1, none⟩) hl1).trans f1
      have hl2 : b1 < wr.heap.size := by omega
      have HP := Lib.hid (leafP_at hlt)
      have HB := Lib.hid (leavesOk_bad hlt)
      have HN := Lib.hid (upto_succ (p := leafP xs) hall.out)
      obtain ⟨x, hxx⟩ : ∃ x, xs[k] = x := ⟨_, rfl⟩
      rw [hxx] at f0 f1 s0 s1 HP
      have HX := Lib.hid hxx; clear hxx
      have hBl := hb
      cases hn : nameOk x.name
      · have HF : Hid (leavesOk xs = false) := Lib.hid (HB.out (by rw [HP.out, hn]; rfl))
        go_wp2
        go_quiet ((first | (go_at_call 159; exact quiet_w (spec_NameOk _ _ s0)) | (go_at_call 168; exact quiet_w (spec_ValueOk _ _ s1))))
        go_wp2
        go_ret
        exact ⟨ret_bool (by rw [HF.out]), Below.drewN hBl _⟩
      cases hv : valueOk x.value
      · have HF : Hid (leavesOk xs = false) := Lib.hid (HB.out (by rw [HP.out, hn, hv]; rfl))
        go_wp2
        go_quiet ((first | (go_at_call 159; exact quiet_w (spec_NameOk _ _ s0)) | (go_at_call 168; exact quiet_w (spec_ValueOk _ _ s1))))
        go_wp2
        go_ret
        exact ⟨ret_bool (by rw [HF.out]), Below.drewN hBl _⟩
      rcases Nat.eq_zero_or_pos k with h0 | h0
      · subst h0
        simp only [Nat.zero_mul, Nat.add_zero] at f0 f1
        have d0 : decide ((0 : Int) < ((0 : Nat) : Int)) = false := rfl
        have d1 : decide ((0 : Int) < 0) = false := rfl
        · have HF : Hid (∀ q, q < 0 + 1 → leafP xs q = true) := Lib.hid (by exact HN.out (by rw [HP.out, hn, hv]; rfl))
          go_wp2
          go_quiet ((first | (go_at_call 159; exact quiet_w (spec_NameOk _ _ s0)) | (go_at_call 168; exact quiet_w (spec_ValueOk _ _ s1))))
          go_wp2
          go_roundw
          case rel => exact ⟨0 + 1, by omega, by go_num, HF, Below.drewN hBl _⟩
          case measure => simp [intOf]; omega
      obtain ⟨j, rfl⟩ : ∃ j, k = j + 1 := ⟨k - 1, by omega⟩
      have HPL := Lib.hid (prevLess_succ hlt x)
      obtain ⟨b3, o3, e3, _, g0, _, t0, _⟩ := Row.atLeaf hx (show j < xs.length by omega)
      injection e3 with e3
      injection e3 with e3 e4
      subst e3; subst e4
      replace g0 := (hb.cell (p := ⟨b1, o1 + j * 2, none⟩) hl1).trans g0
      obtain ⟨y, hyy⟩ : ∃ y, xs[j].name = y := ⟨_, rfl⟩
      rw [hyy] at g0 HPL
      have HY := Lib.hid hyy; clear hyy t0
      have d2 : decide ((0 : Int) < (j : Int) + 1) = true := by rw [decide_eq_true_eq]; omega
      cases hp : Op.bytesLess y.toList x.name.toList
      · have HF : Hid (leavesOk xs = false) := Lib.hid (HB.out (by rw [HP.out, hn, hv, HPL.out, show bLess y x.name = false from hp]; rfl))
        go_wp2
        go_quiet ((first | (go_at_call 159; exact quiet_w (spec_NameOk _ _ s0)) | (go_at_call 168; exact quiet_w (spec_ValueOk _ _ s1))))
        go_wp2
        go_ret
        exact ⟨ret_bool (by rw [HF.out]), Below.drewN hBl _⟩
      · have HF : Hid (∀ q, q < j + 1 + 1 → leafP xs q = true) := Lib.hid (by exact HN.out (by rw [HP.out, hn, hv, HPL.out, show bLess y x.name = true from hp]; rfl))
        go_wp2
        go_quiet ((first | (go_at_call 159; exact quiet_w (spec_NameOk _ _ s0)) | (go_at_call 168; exact quiet_w (spec_ValueOk _ _ s1))))
        go_wp2
        go_roundw
        case rel => exact ⟨j + 1 + 1, by omega, by go_num, HF, Below.drewN hBl _⟩
        case measure => simp [intOf]; omega
    · have hke : k = xs.length := by omega
      subst hke
      have HE := Lib.hid (leavesOk_end hall.out)
      go_wp2
      go_ret
      exact ⟨ret_bool (by rw [HE.out]; first | rfl | (congr 1; simp; done) | (apply decide_eq_decide.2; omega)), hb⟩
end Go.Proofs.YtgllafgpmenjjaaGreatDoor

set_option linter.unusedVariables false
set_option linter.unusedSimpArgs false
namespace Go.Proofs.YtgllafgpmenjjaaGreatDoor
open Go.RowKit Lay Mk
theorem Row.u8 {m : Bool} {w : World} {A : Option Addr} {cap : Nat} {xs : List UInt8} {S : Blks} (h : Row m w A cap xs S) {i : Nat} (hi : i < xs.length) :
    ∃ b off, A = some ⟨b, off, none⟩ ∧ b < w.heap.size ∧ S b ∧ w.cell? ⟨b, off + i, none⟩ = some (.int .u8 (xs[i].toNat : Int)) := by
  obtain ⟨b, off, cs, T, e, hb, ha, hr, _, hSb⟩ := Row.at_ h hi
  have hr : cs = [.int .u8 (xs[i].toNat : Int)] := by first | exact hr | exact hr.1
  subst hr
  have := ha 0 _ rfl
  exact ⟨b, off, e, hb, hSb, by simpa [show n UInt8 = 1 from rfl] using this⟩
def Cur (w : World) (g : Nat) (xs : List UInt8) (A : Option Addr) (cap : Nat) : Prop :=
  ∃ (i : Nat) (h : Int), i ≤ xs.length ∧ w.heap[g]? = some (.cells #[.slice A xs.length cap, .int .i64 i, .int .i64 h] 178 (0, 0))
set_option maxRecDepth 20000 in set_option maxHeartbeats 4000000 in
theorem spec_l01New (w : World) (xs : List UInt8) (A : Option Addr) (cap : Nat) (S : Blks) (hx : Row false w A cap xs S) (hl : xs.length ≤ 1048576) : Calls Tryz.prog 70 #[.slice A xs.length cap] w fun e w' => ∃ g, e = .returned (.pointer (some ⟨g, 0, none⟩)) ∧ w.heap.size ≤ g ∧ Cur w' g xs A cap ∧ Below w.heap.size w w' := by
  go_enter Tryz.func70, Tryz.ntmps70
  go_wp2
  go_loopw [3, 4] (fun h i wr => ∃ (k : Nat) (z : Int), k ≤ xs.length ∧ i = .int .i64 k ∧ h = .int .i64 z ∧ Below w.heap.size w wr) (fun _ i _ => xs.length - (intOf i).toNat)
  case atStart => exact ⟨0, _, Nat.zero_le _, rfl, rfl, Below.refl _ _⟩
  case round =>
    obtain ⟨k, z, hk, rfl, rfl, hB⟩ := hrel
    have hz := hB.size
    by_cases hlt : k < xs.length
    · by_cases h4 : k < 4000
      · obtain ⟨b1, o1, rfl, hl1, -, f0⟩ := Row.u8 hx hlt
        replace f0 := (hB.cell (p := ⟨b1, o1 + k, none⟩) hl1).trans f0
        have hd : decide ((k : Int) < 4000) = true := by rw [decide_eq_true_iff]; omega
        go_wp2
        go_roundw
        case rel => exact ⟨k + 1, _, by omega, by go_num, rfl, hB⟩
        case measure => simp [intOf]; omega
      · have hd : decide ((k : Int) < 4000) = false := by rw [decide_eq_false_iff_not]; omega
        go_wp2_with (refine wpList_box rfl _ _ rfl rfl ?_)
        go_ret
        exact ⟨wr.heap.size, rfl, hz, ⟨0, z, Nat.zero_le _, heap_alloc_new wr _⟩, hB.alloc hz _⟩
    · have hke : k = xs.length := by omega
      subst hke
      go_wp2_with (refine wpList_box rfl _ _ rfl rfl ?_)
      go_ret
      exact ⟨wr.heap.size, rfl, hz, ⟨0, z, Nat.zero_le _, heap_alloc_new wr _⟩, hB.alloc hz _⟩
end Go.Proofs.YtgllafgpmenjjaaGreatDoor

set_option linter.unusedVariables false
set_option linter.unusedSimpArgs false
namespace Go.Proofs.YtgllafgpmenjjaaGreatDoor
open Go.RowKit Lay Mk
set_option maxRecDepth 20000 in set_option maxHeartbeats 4000000 in
theorem laws_sameHeads (w : World) (xs : List Head) (A : Option Addr) (cap : Nat) (S : Blks) (hx : Row false w A cap xs S) (A2 : Option Addr) (cap2 : Nat) (S2 : Blks) (hy : Row false w A2 cap2 xs S2) (hl : xs.length ≤ 4000000000) : Calls Tryz.prog 32 #[.slice A xs.length cap, .slice A2 xs.length cap2] w fun e w' => e = .returned (.bool true) ∧ Below w.heap.size w w' := by
  go_enter Tryz.func32, Tryz.ntmps32
  go_wp2
  go_loopw [5] (fun i wr => ∃ k : Nat, k ≤ xs.length ∧ i = .int .i64 k ∧ Below w.heap.size w wr) (fun i _ => xs.length - (intOf i).toNat)
  case atStart => exact ⟨0, Nat.zero_le _, rfl, Below.refl _ _⟩
  case round =>
    obtain ⟨k, hk, rfl, hB⟩ := hrel
    have hz := hB.size
    by_cases hlt : k < xs.length
    · obtain ⟨b1, o1, rfl, hl1, f0, f1, f2, f3, -, -, -, -⟩ := Row.atHead hx hlt
      obtain ⟨b2, o2, rfl, hl2, g0, g1, g2, g3, -, -, -, -⟩ := Row.atHead hy hlt
      replace f0 := (hB.cell (p := ⟨b1, o1 + k * 4, none⟩) hl1).trans f0
      replace f1 := (hB.cell (p := ⟨b1, o1 + k * 4 + 1, none⟩) hl1).trans f1
      replace f2 := (hB.cell (p := ⟨b1, o1 + k * 4 + 2, none⟩) hl1).trans f2
      replace f3 := (hB.cell (p := ⟨b1, o1 + k * 4 + 3, none⟩) hl1).trans f3
      replace g0 := (hB.cell (p := ⟨b2, o2 + k * 4, none⟩) hl2).trans g0
      replace g1 := (hB.cell (p := ⟨b2, o2 + k * 4 + 1, none⟩) hl2).trans g1
      replace g2 := (hB.cell (p := ⟨b2, o2 + k * 4 + 2, none⟩) hl2).trans g2
      replace g3 := (hB.cell (p := ⟨b2, o2 + k * 4 + 3, none⟩) hl2).trans g3
      obtain ⟨x, hxx⟩ : ∃ x, xs[k] = x := ⟨_, rfl⟩
      rw [hxx] at f0 f1 f2 f3 g0 g1 g2 g3
      clear hxx
      go_wp2
      go_quiet (fail)
      go_wp2
      go_roundw
      case rel => exact ⟨k + 1, by omega, by go_num, Below.drewN hB _⟩
      case measure => simp [intOf]; omega
    · have hke : k = xs.length := by omega
      subst hke
      go_wp2
      go_ret
      exact ⟨rfl, hB⟩
end Go.Proofs.YtgllafgpmenjjaaGreatDoor

set_option linter.unusedVariables false
set_option linter.unusedSimpArgs false
namespace Go.Proofs.YtgllafgpmenjjaaGreatDoor
open Go.RowKit Lay Mk
structure FloatCut {α : Type} [Lay α] (w wx : World) (ob lo hi : Nat) (c : List Value) (x : α) : Prop where
  bl : Below w.heap.size w wx
  b0 : w.heap.size ≤ ob
  b1 : ob < wx.heap.size
  l0 : w.heap.size ≤ lo
  h1 : hi ≤ wx.heap.size
  sd : ob < lo ∨ hi ≤ ob
  at_ : At wx ob 0 c
  rdx : rd true wx c x (rng lo hi)
theorem At.two {w : World} {b : Nat} {u v : Value} (h0 : w.cell? ⟨b, 0, none⟩ = some u) (h1 : w.cell? ⟨b, 1, none⟩ = some v) : At w b 0 [u, v] := by
  intro j z hj
  rcases j with _ | _ | j
  · have : u = z := by simpa using hj
    subst this; exact h0
  · have : v = z := by simpa using hj
    subst this; exact h1
  · simp at hj
theorem chg_setF {w : World} {g o : Nat} {v : Value} : Chg (fun b => b = g) w (w.setCell ⟨g, o, none⟩ v) := Chg.setCell (S := fun b => b = g) (p := ⟨g, o, none⟩) (Chg.refl _ _) (Or.inl (show (fun b => b = g) g from rfl)) _
theorem FloatCut.put {α : Type} [Lay α] {w w5 : World} {ob lo hi : Nat} {u v u0 v0 : Value} {x : α} (hb : Below w.heap.size w w5) (h0 : w.heap.size ≤ ob) (h1 : ob < w5.heap.size) (l0 : w.heap.size ≤ lo) (h2 : hi ≤ w5.heap.size) (sd : ob < lo ∨ hi ≤ ob) (hr : rd true w5 [u, v] x (rng lo hi)) (y0 : w5.cell? ⟨ob, 0, none⟩ = some u0) (y1 : w5.cell? ⟨ob, 1, none⟩ = some v0) : FloatCut w ((w5.setCell ⟨ob, 0, none⟩ u).setCell ⟨ob, 1, none⟩ v) ob lo hi [u, v] x := by
  have hne : (⟨ob, 1, none⟩ : Addr) ≠ ⟨ob, 0, none⟩ := by intro h; injection h with h1 h2 h3; omega
  have hne2 : (⟨ob, 0, none⟩ : Addr) ≠ ⟨ob, 1, none⟩ := fun h => hne h.symm
  have hd : disj (rng lo hi) (fun b => b = ob) := fun b h h2 => by have h3 : lo ≤ b := h.1; have h5 := h.2; have h4 : b = ob := h2; omega
  refine ⟨Below.setCell (Below.setCell hb h0 _) h0 _, h0, by simpa using h1, l0, by simpa using h2, sd, At.two ?_ ?_, ?_⟩
  · exact (World.cell?_setCell_other _ _ _ _ hne).trans (World.cell?_setCell_same _ _ _ y0)
  · exact World.cell?_setCell_same _ _ _ ((World.cell?_setCell_other _ _ _ _ hne2).trans y1)
  · exact Lay.chg (Lay.chg hr chg_setF hd) chg_setF hd
theorem float_new (w : World) (u v : Value) (t : TypeId) : Below w.heap.size w (w.alloc (.cells #[u, v] t)) ∧ (w.alloc (.cells #[u, v] t)).heap.size = w.heap.size + 1 ∧ (w.alloc (.cells #[u, v] t)).cell? ⟨w.heap.size, 0, none⟩ = some u ∧ (w.alloc (.cells #[u, v] t)).cell? ⟨w.heap.size, 1, none⟩ = some v ∧ ∀ o, (w.alloc (.cells #[u, v] t)).frozen? ⟨w.heap.size, o, none⟩ = false :=
  ⟨(Below.refl _ _).alloc (Nat.le_refl _) _, by simp, box_cell _ _ _ _ _ rfl, box_cell _ _ _ _ _ rfl, fun o => by simp⟩
theorem float_newd (w : World) (u v : Value) (t : TypeId) : Below w.heap.size w (w.alloc (.cells #[u, v] t)).drew ∧ (w.alloc (.cells #[u, v] t)).drew.heap.size = w.heap.size + 1 ∧ (w.alloc (.cells #[u, v] t)).drew.cell? ⟨w.heap.size, 0, none⟩ = some u ∧ (w.alloc (.cells #[u, v] t)).drew.cell? ⟨w.heap.size, 1, none⟩ = some v ∧ ∀ o, (w.alloc (.cells #[u, v] t)).drew.frozen? ⟨w.heap.size, o, none⟩ = false :=
  let ⟨h1, h2, h3, h4, h5⟩ := float_new w u v t
  ⟨h1.drew, h2, h3, h4, h5⟩
end Go.Proofs.YtgllafgpmenjjaaGreatDoor

set_option linter.unusedVariables false
set_option linter.unusedSimpArgs false
namespace Go.Proofs.YtgllafgpmenjjaaGreatDoor
open Go.RowKit Lay Mk
theorem laws_big (w : World) (n : Nat) (A : Option Addr) (cap : Nat) : Calls Tryz.prog 25 #[.slice A n cap] w fun e w' => e = .returned (.bool (decide ((1048576 : Int) < n))) ∧ w = w' := by
  go_enter Tryz.func25, Tryz.ntmps25
  go_wp2
  go_ret
  exact ⟨rfl, rfl⟩
end Go.Proofs.YtgllafgpmenjjaaGreatDoor
