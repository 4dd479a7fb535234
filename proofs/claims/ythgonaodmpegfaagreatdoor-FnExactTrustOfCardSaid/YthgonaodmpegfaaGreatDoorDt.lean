/- Walks: a word turned. -/
import Derived.Test.YthgonaodmpegfaaGreatDoorAr
import Derived.Test.YthgonaodmpegfaaGreatDoorFd
import Derived.Laws.BitsAllLaws
import Derived.Outline
set_option linter.unusedVariables false
set_option linter.unusedSimpArgs false
namespace Go.Proofs.YthgonaodmpegfaaGreatDoor
open Go.RowKit Lay Mk
theorem or_comm32 (a b : Int) : bits .or .u32 a b = bits .or .u32 b a := by
  unfold bits; simp only [BitVec.or_comm]
/-- x turned to the right; p: two to the power of the places, q: two to that of the others -/
def rotr (p q : Int) (x : Int) : Int := bits .or .u32 (x / p) (x * q % 4294967296)
theorem wrap32_lt (x : Int) : 0 ≤ IntKind.u32.wrap x ∧ IntKind.u32.wrap x < 4294967296 := by rw [IntKind.wrap_u32']; omega
theorem bits32_lt (op : BinOp) (a b : Int) : 0 ≤ bits op .u32 a b ∧ bits op .u32 a b < 4294967296 := by
  unfold bits
  split <;> exact wrap32_lt _
theorem rotr_lt (p q x : Int) : 0 ≤ rotr p q x ∧ rotr p q x < 4294967296 := bits32_lt _ _ _
def turnsAll : List Int := [7, 18, 17, 19, 6, 11, 25, 2, 13, 22]
def rotI (n x : Int) : Int := rotr (2 ^ n.toNat) (2 ^ (32 - n.toNat)) x
theorem rotI_lt (n x : Int) : 0 ≤ rotI n x ∧ rotI n x < 4294967296 := rotr_lt _ _ _
theorem rotI7 (x : Int) : rotI 7 x = rotr 128 33554432 x := by unfold rotI; rfl
theorem rotI18 (x : Int) : rotI 18 x = rotr 262144 16384 x := by unfold rotI; rfl
theorem rotI17 (x : Int) : rotI 17 x = rotr 131072 32768 x := by unfold rotI; rfl
theorem rotI19 (x : Int) : rotI 19 x = rotr 524288 8192 x := by unfold rotI; rfl
theorem rotI6 (x : Int) : rotI 6 x = rotr 64 67108864 x := by unfold rotI; rfl
theorem rotI11 (x : Int) : rotI 11 x = rotr 2048 2097152 x := by unfold rotI; rfl
theorem rotI25 (x : Int) : rotI 25 x = rotr 33554432 128 x := by unfold rotI; rfl
theorem rotI2 (x : Int) : rotI 2 x = rotr 4 1073741824 x := by unfold rotI; rfl
theorem rotI13 (x : Int) : rotI 13 x = rotr 8192 524288 x := by unfold rotI; rfl
theorem rotI22 (x : Int) : rotI 22 x = rotr 4194304 1024 x := by unfold rotI; rfl
theorem spec_turn7 (x : Int) (w : World) (h0 : 0 ≤ x) (h1 : x < 4294967296) : Calls Tryz.prog 239 #[.int .u32 x, .int .u64 7] w fun e w' => e = .returned (.int .u32 (rotr 128 33554432 x)) ∧ w = w' := by
  go_enter Tryz.func239, Tryz.ntmps239
  go_wp2
  go_ret
  exact ⟨rfl, rfl⟩
theorem rot7 (x : Int) (w : World) (h0 : 0 ≤ x) (h1 : x < 4294967296) : Calls Tryz.prog 242 #[.int .u32 x, .int .i64 (-7)] w fun e w' => e = .returned (.int .u32 (rotr 128 33554432 x)) ∧ w = w' := by
  have k7 : bits .and .u64 (IntKind.u64.wrap (-7)) 31 = 25 := by decide
  go_enter Tryz.func242, Tryz.ntmps242
  go_wp2
  go_ret
  exact ⟨by unfold rotr; rw [or_comm32]; rfl, rfl⟩
theorem impl_turn7 (x : Int) (w : World) (h0 : 0 ≤ x) (h1 : x < 4294967296) : Calls Tryz.prog 241 #[.int .u32 x, .int .i64 7] w fun e w' => e = .returned (.int .u32 (rotr 128 33554432 x)) ∧ w = w' := by
  go_enter Tryz.func241, Tryz.ntmps241
  go_wp2_with (go_at_call 242; refine (rot7 _ _ h0 h1).mono ?_; rintro e w' ⟨rfl, rfl⟩)
  go_ret
  exact ⟨rfl, rfl⟩
theorem spec_turn18 (x : Int) (w : World) (h0 : 0 ≤ x) (h1 : x < 4294967296) : Calls Tryz.prog 239 #[.int .u32 x, .int .u64 18] w fun e w' => e = .returned (.int .u32 (rotr 262144 16384 x)) ∧ w = w' := by
  go_enter Tryz.func239, Tryz.ntmps239
  go_wp2
  go_ret
  exact ⟨rfl, rfl⟩
theorem rot18 (x : Int) (w : World) (h0 : 0 ≤ x) (h1 : x < 4294967296) : Calls Tryz.prog 242 #[.int .u32 x, .int .i64 (-18)] w fun e w' => e = .returned (.int .u32 (rotr 262144 16384 x)) ∧ w = w' := by
  have k7 : bits .and .u64 (IntKind.u64.wrap (-18)) 31 = 14 := by decide
  go_enter Tryz.func242, Tryz.ntmps242
  go_wp2
  go_ret
  exact ⟨by unfold rotr; rw [or_comm32]; rfl, rfl⟩
theorem impl_turn18 (x : Int) (w : World) (h0 : 0 ≤ x) (h1 : x < 4294967296) : Calls Tryz.prog 241 #[.int .u32 x, .int .i64 18] w fun e w' => e = .returned (.int .u32 (rotr 262144 16384 x)) ∧ w = w' := by
  go_enter Tryz.func241, Tryz.ntmps241
  go_wp2_with (go_at_call 242; refine (rot18 _ _ h0 h1).mono ?_; rintro e w' ⟨rfl, rfl⟩)
  go_ret
  exact ⟨rfl, rfl⟩
theorem spec_turn17 (x : Int) (w : World) (h0 : 0 ≤ x) (h1 : x < 4294967296) : Calls Tryz.prog 239 #[.int .u32 x, .int .u64 17] w fun e w' => e = .returned (.int .u32 (rotr 131072 32768 x)) ∧ w = w' := by
  go_enter Tryz.func239, Tryz.ntmps239
  go_wp2
  go_ret
  exact ⟨rfl, rfl⟩
theorem rot17 (x : Int) (w : World) (h0 : 0 ≤ x) (h1 : x < 4294967296) : Calls Tryz.prog 242 #[.int .u32 x, .int .i64 (-17)] w fun e w' => e = .returned (.int .u32 (rotr 131072 32768 x)) ∧ w = w' := by
  have k7 : bits .and .u64 (IntKind.u64.wrap (-17)) 31 = 15 := by decide
  go_enter Tryz.func242, Tryz.ntmps242
  go_wp2
  go_ret
  exact ⟨by unfold rotr; rw [or_comm32]; rfl, rfl⟩
theorem impl_turn17 (x : Int) (w : World) (h0 : 0 ≤ x) (h1 : x < 4294967296) : Calls Tryz.prog 241 #[.int .u32 x, .int .i64 17] w fun e w' => e = .returned (.int .u32 (rotr 131072 32768 x)) ∧ w = w' := by
  go_enter Tryz.func241, Tryz.ntmps241
  go_wp2_with (go_at_call 242; refine (rot17 _ _ h0 h1).mono ?_; rintro e w' ⟨rfl, rfl⟩)
  go_ret
  exact ⟨rfl, rfl⟩
theorem spec_turn19 (x : Int) (w : World) (h0 : 0 ≤ x) (h1 : x < 4294967296) : Calls Tryz.prog 239 #[.int .u32 x, .int .u64 19] w fun e w' => e = .returned (.int .u32 (rotr 524288 8192 x)) ∧ w = w' := by
  go_enter Tryz.func239, Tryz.ntmps239
  go_wp2
  go_ret
  exact ⟨rfl, rfl⟩
theorem rot19 (x : Int) (w : World) (h0 : 0 ≤ x) (h1 : x < 4294967296) : Calls Tryz.prog 242 #[.int .u32 x, .int .i64 (-19)] w fun e w' => e = .returned (.int .u32 (rotr 524288 8192 x)) ∧ w = w' := by
  have k7 : bits .and .u64 (IntKind.u64.wrap (-19)) 31 = 13 := by decide
  go_enter Tryz.func242, Tryz.ntmps242
  go_wp2
  go_ret
  exact ⟨by unfold rotr; rw [or_comm32]; rfl, rfl⟩
theorem impl_turn19 (x : Int) (w : World) (h0 : 0 ≤ x) (h1 : x < 4294967296) : Calls Tryz.prog 241 #[.int .u32 x, .int .i64 19] w fun e w' => e = .returned (.int .u32 (rotr 524288 8192 x)) ∧ w = w' := by
  go_enter Tryz.func241, Tryz.ntmps241
  go_wp2_with (go_at_call 242; refine (rot19 _ _ h0 h1).mono ?_; rintro e w' ⟨rfl, rfl⟩)
  go_ret
  exact ⟨rfl, rfl⟩
theorem spec_turn6 (x : Int) (w : World) (h0 : 0 ≤ x) (h1 : x < 4294967296) : Calls Tryz.prog 239 #[.int .u32 x, .int .u64 6] w fun e w' => e = .returned (.int .u32 (rotr 64 67108864 x)) ∧ w = w' := by
  go_enter Tryz.func239, Tryz.ntmps239
  go_wp2
  go_ret
  exact ⟨rfl, rfl⟩
theorem rot6 (x : Int) (w : World) (h0 : 0 ≤ x) (h1 : x < 4294967296) : Calls Tryz.prog 242 #[.int .u32 x, .int .i64 (-6)] w fun e w' => e = .returned (.int .u32 (rotr 64 67108864 x)) ∧ w = w' := by
  have k7 : bits .and .u64 (IntKind.u64.wrap (-6)) 31 = 26 := by decide
  go_enter Tryz.func242, Tryz.ntmps242
  go_wp2
  go_ret
  exact ⟨by unfold rotr; rw [or_comm32]; rfl, rfl⟩
theorem impl_turn6 (x : Int) (w : World) (h0 : 0 ≤ x) (h1 : x < 4294967296) : Calls Tryz.prog 241 #[.int .u32 x, .int .i64 6] w fun e w' => e = .returned (.int .u32 (rotr 64 67108864 x)) ∧ w = w' := by
  go_enter Tryz.func241, Tryz.ntmps241
  go_wp2_with (go_at_call 242; refine (rot6 _ _ h0 h1).mono ?_; rintro e w' ⟨rfl, rfl⟩)
  go_ret
  exact ⟨rfl, rfl⟩
theorem spec_turn11 (x : Int) (w : World) (h0 : 0 ≤ x) (h1 : x < 4294967296) : Calls Tryz.prog 239 #[.int .u32 x, .int .u64 11] w fun e w' => e = .returned (.int .u32 (rotr 2048 2097152 x)) ∧ w = w' := by
  go_enter Tryz.func239, Tryz.ntmps239
  go_wp2
  go_ret
  exact ⟨rfl, rfl⟩
theorem rot11 (x : Int) (w : World) (h0 : 0 ≤ x) (h1 : x < 4294967296) : Calls Tryz.prog 242 #[.int .u32 x, .int .i64 (-11)] w fun e w' => e = .returned (.int .u32 (rotr 2048 2097152 x)) ∧ w = w' := by
  have k7 : bits .and .u64 (IntKind.u64.wrap (-11)) 31 = 21 := by decide
  go_enter Tryz.func242, Tryz.ntmps242
  go_wp2
  go_ret
  exact ⟨by unfold rotr; rw [or_comm32]; rfl, rfl⟩
theorem impl_turn11 (x : Int) (w : World) (h0 : 0 ≤ x) (h1 : x < 4294967296) : Calls Tryz.prog 241 #[.int .u32 x, .int .i64 11] w fun e w' => e = .returned (.int .u32 (rotr 2048 2097152 x)) ∧ w = w' := by
  go_enter Tryz.func241, Tryz.ntmps241
  go_wp2_with (go_at_call 242; refine (rot11 _ _ h0 h1).mono ?_; rintro e w' ⟨rfl, rfl⟩)
  go_ret
  exact ⟨rfl, rfl⟩
theorem spec_turn25 (x : Int) (w : World) (h0 : 0 ≤ x) (h1 : x < 4294967296) : Calls Tryz.prog 239 #[.int .u32 x, .int .u64 25] w fun e w' => e = .returned (.int .u32 (rotr 33554432 128 x)) ∧ w = w' := by
  go_enter Tryz.func239, Tryz.ntmps239
  go_wp2
  go_ret
  exact ⟨rfl, rfl⟩
theorem rot25 (x : Int) (w : World) (h0 : 0 ≤ x) (h1 : x < 4294967296) : Calls Tryz.prog 242 #[.int .u32 x, .int .i64 (-25)] w fun e w' => e = .returned (.int .u32 (rotr 33554432 128 x)) ∧ w = w' := by
  have k7 : bits .and .u64 (IntKind.u64.wrap (-25)) 31 = 7 := by decide
  go_enter Tryz.func242, Tryz.ntmps242
  go_wp2
  go_ret
  exact ⟨by unfold rotr; rw [or_comm32]; rfl, rfl⟩
theorem impl_turn25 (x : Int) (w : World) (h0 : 0 ≤ x) (h1 : x < 4294967296) : Calls Tryz.prog 241 #[.int .u32 x, .int .i64 25] w fun e w' => e = .returned (.int .u32 (rotr 33554432 128 x)) ∧ w = w' := by
  go_enter Tryz.func241, Tryz.ntmps241
  go_wp2_with (go_at_call 242; refine (rot25 _ _ h0 h1).mono ?_; rintro e w' ⟨rfl, rfl⟩)
  go_ret
  exact ⟨rfl, rfl⟩
theorem spec_turn2 (x : Int) (w : World) (h0 : 0 ≤ x) (h1 : x < 4294967296) : Calls Tryz.prog 239 #[.int .u32 x, .int .u64 2] w fun e w' => e = .returned (.int .u32 (rotr 4 1073741824 x)) ∧ w = w' := by
  go_enter Tryz.func239, Tryz.ntmps239
  go_wp2
  go_ret
  exact ⟨rfl, rfl⟩
theorem rot2 (x : Int) (w : World) (h0 : 0 ≤ x) (h1 : x < 4294967296) : Calls Tryz.prog 242 #[.int .u32 x, .int .i64 (-2)] w fun e w' => e = .returned (.int .u32 (rotr 4 1073741824 x)) ∧ w = w' := by
  have k7 : bits .and .u64 (IntKind.u64.wrap (-2)) 31 = 30 := by decide
  go_enter Tryz.func242, Tryz.ntmps242
  go_wp2
  go_ret
  exact ⟨by unfold rotr; rw [or_comm32]; rfl, rfl⟩
theorem impl_turn2 (x : Int) (w : World) (h0 : 0 ≤ x) (h1 : x < 4294967296) : Calls Tryz.prog 241 #[.int .u32 x, .int .i64 2] w fun e w' => e = .returned (.int .u32 (rotr 4 1073741824 x)) ∧ w = w' := by
  go_enter Tryz.func241, Tryz.ntmps241
  go_wp2_with (go_at_call 242; refine (rot2 _ _ h0 h1).mono ?_; rintro e w' ⟨rfl, rfl⟩)
  go_ret
  exact ⟨rfl, rfl⟩
theorem spec_turn13 (x : Int) (w : World) (h0 : 0 ≤ x) (h1 : x < 4294967296) : Calls Tryz.prog 239 #[.int .u32 x, .int .u64 13] w fun e w' => e = .returned (.int .u32 (rotr 8192 524288 x)) ∧ w = w' := by
  go_enter Tryz.func239, Tryz.ntmps239
  go_wp2
  go_ret
  exact ⟨rfl, rfl⟩
theorem rot13 (x : Int) (w : World) (h0 : 0 ≤ x) (h1 : x < 4294967296) : Calls Tryz.prog 242 #[.int .u32 x, .int .i64 (-13)] w fun e w' => e = .returned (.int .u32 (rotr 8192 524288 x)) ∧ w = w' := by
  have k7 : bits .and .u64 (IntKind.u64.wrap (-13)) 31 = 19 := by decide
  go_enter Tryz.func242, Tryz.ntmps242
  go_wp2
  go_ret
  exact ⟨by unfold rotr; rw [or_comm32]; rfl, rfl⟩
theorem impl_turn13 (x : Int) (w : World) (h0 : 0 ≤ x) (h1 : x < 4294967296) : Calls Tryz.prog 241 #[.int .u32 x, .int .i64 13] w fun e w' => e = .returned (.int .u32 (rotr 8192 524288 x)) ∧ w = w' := by
  go_enter Tryz.func241, Tryz.ntmps241
  go_wp2_with (go_at_call 242; refine (rot13 _ _ h0 h1).mono ?_; rintro e w' ⟨rfl, rfl⟩)
  go_ret
  exact ⟨rfl, rfl⟩
theorem spec_turn22 (x : Int) (w : World) (h0 : 0 ≤ x) (h1 : x < 4294967296) : Calls Tryz.prog 239 #[.int .u32 x, .int .u64 22] w fun e w' => e = .returned (.int .u32 (rotr 4194304 1024 x)) ∧ w = w' := by
  go_enter Tryz.func239, Tryz.ntmps239
  go_wp2
  go_ret
  exact ⟨rfl, rfl⟩
theorem rot22 (x : Int) (w : World) (h0 : 0 ≤ x) (h1 : x < 4294967296) : Calls Tryz.prog 242 #[.int .u32 x, .int .i64 (-22)] w fun e w' => e = .returned (.int .u32 (rotr 4194304 1024 x)) ∧ w = w' := by
  have k7 : bits .and .u64 (IntKind.u64.wrap (-22)) 31 = 10 := by decide
  go_enter Tryz.func242, Tryz.ntmps242
  go_wp2
  go_ret
  exact ⟨by unfold rotr; rw [or_comm32]; rfl, rfl⟩
theorem impl_turn22 (x : Int) (w : World) (h0 : 0 ≤ x) (h1 : x < 4294967296) : Calls Tryz.prog 241 #[.int .u32 x, .int .i64 22] w fun e w' => e = .returned (.int .u32 (rotr 4194304 1024 x)) ∧ w = w' := by
  go_enter Tryz.func241, Tryz.ntmps241
  go_wp2_with (go_at_call 242; refine (rot22 _ _ h0 h1).mono ?_; rintro e w' ⟨rfl, rfl⟩)
  go_ret
  exact ⟨rfl, rfl⟩
theorem spec_turn (n : Int) (x : Int) (w : World) (hn : n ∈ turnsAll) (h0 : 0 ≤ x) (h1 : x < 4294967296) : Calls Tryz.prog 239 #[.int .u32 x, .int .u64 n] w fun e w' => e = .returned (.int .u32 (rotI n x)) ∧ w = w' := by
  simp only [turnsAll, List.mem_cons, List.mem_nil_iff, or_false] at hn
  rcases hn with rfl | rfl | rfl | rfl | rfl | rfl | rfl | rfl | rfl | rfl
  · rw [rotI7]; exact spec_turn7 x w h0 h1
  · rw [rotI18]; exact spec_turn18 x w h0 h1
  · rw [rotI17]; exact spec_turn17 x w h0 h1
  · rw [rotI19]; exact spec_turn19 x w h0 h1
  · rw [rotI6]; exact spec_turn6 x w h0 h1
  · rw [rotI11]; exact spec_turn11 x w h0 h1
  · rw [rotI25]; exact spec_turn25 x w h0 h1
  · rw [rotI2]; exact spec_turn2 x w h0 h1
  · rw [rotI13]; exact spec_turn13 x w h0 h1
  · rw [rotI22]; exact spec_turn22 x w h0 h1
theorem impl_turn (n : Int) (x : Int) (w : World) (hn : n ∈ turnsAll) (h0 : 0 ≤ x) (h1 : x < 4294967296) : Calls Tryz.prog 241 #[.int .u32 x, .int .i64 n] w fun e w' => e = .returned (.int .u32 (rotI n x)) ∧ w = w' := by
  simp only [turnsAll, List.mem_cons, List.mem_nil_iff, or_false] at hn
  rcases hn with rfl | rfl | rfl | rfl | rfl | rfl | rfl | rfl | rfl | rfl
  · rw [rotI7]; exact impl_turn7 x w h0 h1
  · rw [rotI18]; exact impl_turn18 x w h0 h1
  · rw [rotI17]; exact impl_turn17 x w h0 h1
  · rw [rotI19]; exact impl_turn19 x w h0 h1
  · rw [rotI6]; exact impl_turn6 x w h0 h1
  · rw [rotI11]; exact impl_turn11 x w h0 h1
  · rw [rotI25]; exact impl_turn25 x w h0 h1
  · rw [rotI2]; exact impl_turn2 x w h0 h1
  · rw [rotI13]; exact impl_turn13 x w h0 h1
  · rw [rotI22]; exact impl_turn22 x w h0 h1
end Go.Proofs.YthgonaodmpegfaaGreatDoor
