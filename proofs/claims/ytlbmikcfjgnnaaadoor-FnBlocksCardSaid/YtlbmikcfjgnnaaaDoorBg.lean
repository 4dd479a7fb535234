/- Walks: small helpers of the laws: are two lists of numbers the same; is an input too long. -/
import Derived.Test.YtlbmikcfjgnnaaaDoorRd
import Derived.Test.YtlbmikcfjgnnaaaDoorFd
import Derived.BigQuiet
set_option linter.unusedVariables false
set_option linter.unusedSimpArgs false
namespace Go.Proofs.YtlbmikcfjgnnaaaDoor
open Go.RowKit Lay Mk
theorem laws_big (w : World) (n : Nat) (A : Option Addr) (cap : Nat) : Calls Tryd.prog 4 #[.slice A n cap] w fun e w' => e = .returned (.bool (decide ((1048576 : Int) < n))) ∧ w = w' := by
  go_enter Tryd.func4, Tryd.ntmps4
  go_wp2
  go_ret
  exact ⟨rfl, rfl⟩
set_option maxRecDepth 20000 in set_option maxHeartbeats 4000000 in
theorem laws_sameInts (w : World) (xs : List Int) (A : Option Addr) (cap : Nat) (S : Blks) (hx : Row false w A cap xs S) (A2 : Option Addr) (cap2 : Nat) (S2 : Blks) (hy : Row false w A2 cap2 xs S2) (hl : xs.length ≤ 4000000000) : Calls Tryd.prog 13 #[.slice A xs.length cap, .slice A2 xs.length cap2] w fun e w' => e = .returned (.bool true) ∧ Below w.heap.size w w' := by
  go_enter Tryd.func13, Tryd.ntmps13
  go_wp2
  go_loopw [5] (fun i wr => ∃ k : Nat, k ≤ xs.length ∧ i = .int .i64 k ∧ Below w.heap.size w wr) (fun i _ => xs.length - (intOf i).toNat)
  case atStart => exact ⟨0, Nat.zero_le _, rfl, Below.refl _ _⟩
  case round =>
    obtain ⟨k, hk, rfl, hB⟩ := hrel
    have hz := hB.size
    by_cases hlt : k < xs.length
    · obtain ⟨b1, o1, rfl, hl1, f0, -⟩ := Row.int hx hlt
      obtain ⟨b2, o2, rfl, hl2, g0, -⟩ := Row.int hy hlt
      replace f0 := (hB.cell (p := ⟨b1, o1 + k, none⟩) hl1).trans f0
      replace g0 := (hB.cell (p := ⟨b2, o2 + k, none⟩) hl2).trans g0
      obtain ⟨x, hxx⟩ : ∃ x, xs[k] = x := ⟨_, rfl⟩
      rw [hxx] at f0 g0
      clear hxx
      go_wp2
      go_quiet (fail)
      go_wp2
      go_roundw
      case rel => exact ⟨k + 1, by omega, by go_num, Below.drewN hB _⟩
      case measure => simp [intOf]; omega
    · have hke : k = xs.length := by omega
      subst hke
      go_wp2
      go_ret
      exact ⟨rfl, hB⟩
end Go.Proofs.YtlbmikcfjgnnaaaDoor
