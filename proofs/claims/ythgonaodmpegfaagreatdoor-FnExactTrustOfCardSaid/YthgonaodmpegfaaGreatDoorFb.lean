/- Walks: four bytes of a word. -/
import Derived.Test.YthgonaodmpegfaaGreatDoorRd
import Derived.Laws.BitsAllLaws
set_option linter.unusedVariables false
set_option linter.unusedSimpArgs false
namespace Go.Proofs.YthgonaodmpegfaaGreatDoor
open Go.RowKit Lay Mk
def fourB (n : Nat) : ByteArray := bs [UInt8.ofNat (n / 16777216), UInt8.ofNat (n / 65536), UInt8.ofNat (n / 256), UInt8.ofNat n]
theorem fourB_size (n : Nat) : (fourB n).size = 4 := by unfold fourB; rw [bs_size]; rfl
set_option maxHeartbeats 2000000 in
theorem impl_fourBytes (w : World) (n : Nat) (hn : n < 4294967296) : Calls Tryz.prog 230 #[.int .u32 n] w fun e w' => e = .returned (.string (fourB n)) ∧ Below w.heap.size w w' := by
  go_enter Tryz.func230, Tryz.ntmps230
  go_wp2_with (refine wpList_bytesAt rfl _ rfl Tryz.underlying5 Tryz.underlying9 [UInt8.ofNat (n / 16777216), UInt8.ofNat (n / 65536), UInt8.ofNat (n / 256), UInt8.ofNat n] rfl rfl (at_lit _ _ _ _ _ (by simp [u8c]; omega)) ?_)
  go_ret; exact ⟨rfl, (Below.refl _ _).alloc (Nat.le_refl _) _⟩
end Go.Proofs.YthgonaodmpegfaaGreatDoor
