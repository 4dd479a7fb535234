/- The hashes beside the way up; the hash of a place; the proof of a name: the program's walks. -/
import Derived.Test.YtojbehmbeoemgaaDoorKNg
import Derived.Test.YtojbehmbeoemgaaDoorKRp
import Derived.Deep.RegionHeld3
set_option linter.unusedVariables false
set_option linter.unusedSimpArgs false
namespace Go.Proofs.YtojbehmbeoemgaaDoor
open Go.RowKit Lay Mk
theorem place_lt {ix k m : Nat} (hix : ix < 256) (hk : k < m) (hm : m ≤ 8) : (ix / 2 ^ k) ^^^ 1 < 2 ^ (8 - k) := by
  refine Nat.xor_lt_two_pow ?_ (Nat.lt_of_lt_of_le (by decide : 1 < 2 ^ 1) (Nat.pow_le_pow_right (by omega) (by omega)))
  rw [Nat.div_lt_iff_lt_mul (Nat.two_pow_pos k), ← Nat.pow_add, show 8 - k + k = 8 by omega]
  exact hix
theorem xor1 {q : Nat} (h : q < 256) : bits .xor .i64 (q : Int) 1 = ((q ^^^ 1 : Nat) : Int) := (show ∀ q : Fin 256, bits .xor .i64 ((q.val : Nat) : Int) 1 = ((q.val ^^^ 1 : Nat) : Int) from by decide +kernel) ⟨q, h⟩
end Go.Proofs.YtojbehmbeoemgaaDoor
