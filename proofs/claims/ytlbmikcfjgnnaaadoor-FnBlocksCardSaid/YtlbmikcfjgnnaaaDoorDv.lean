/- Walks: a drawn number below a bound; a drawn text. -/
import Derived.Test.YtlbmikcfjgnnaaaDoorDy
set_option linter.unusedVariables false
set_option linter.unusedSimpArgs false
namespace Go.Proofs.YtlbmikcfjgnnaaaDoor
open Go.RowKit Lay Mk
set_option maxRecDepth 20000 in set_option maxHeartbeats 4000000 in
theorem spec_l01Below (w : World) (g : Nat) (xs : List UInt8) (A : Option Addr) (cap : Nat) (S : Blks) (hc : Cur w g xs A cap) (hx : Row false w A cap xs S) (hS : ¬ S g) (hl : xs.length ≤ 1048576) (n : Int) (h1 : 0 < n) (h2 : n ≤ 256) : Calls Tryd.prog 19 #[.pointer (some ⟨g, 0, none⟩), .int .i64 n] w fun e w' => ∃ x : Int, e = .returned (.int .i64 x) ∧ 0 ≤ x ∧ x < n ∧ Cur w' g xs A cap ∧ Chg (fun b => b = g) w w' := by
  have hn : ¬ n ≤ 0 := by omega
  have hn0 : n ≠ 0 := by omega
  go_enter Tryd.func19, Tryd.ntmps19
  go_wp2_with (fail)
  refine (spec_l01Byte w g xs A cap S hc hx hS hl).mono ?_
  rintro e0 w1 ⟨x, rfl, hx0, hx1, hc1, hch⟩
  obtain ⟨m, rfl⟩ : ∃ m : Nat, n = m := ⟨n.toNat, by omega⟩
  obtain ⟨y, rfl⟩ : ∃ y : Nat, x = y := ⟨x.toNat, by omega⟩
  go_wp2
  go_ret
  exact ⟨((y : Int) % (m : Int)), rfl, Int.emod_nonneg _ (by omega), Int.emod_lt_of_pos _ (by omega), hc1, hch⟩
end Go.Proofs.YtlbmikcfjgnnaaaDoor
