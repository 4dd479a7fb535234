/- Walks: what a law draws from its bytes: some numbers, some texts. -/
import Derived.Test.YtlbmikcfjgnnaaaDoorBy
import Derived.Test.YtlbmikcfjgnnaaaDoorFd
set_option linter.unusedVariables false
set_option linter.unusedSimpArgs false
namespace Go.Proofs.YtlbmikcfjgnnaaaDoor
open Go.RowKit Lay Mk
theorem Row.u8 {m : Bool} {w : World} {A : Option Addr} {cap : Nat} {xs : List UInt8} {S : Blks} (h : Row m w A cap xs S) {i : Nat} (hi : i < xs.length) :
    ∃ b off, A = some ⟨b, off, none⟩ ∧ b < w.heap.size ∧ S b ∧ w.cell? ⟨b, off + i, none⟩ = some (.int .u8 (xs[i].toNat : Int)) := by
  obtain ⟨b, off, cs, T, e, hb, ha, hr, _, hSb⟩ := Row.at_ h hi
  have hr : cs = [.int .u8 (xs[i].toNat : Int)] := by first | exact hr | exact hr.1
  subst hr
  have := ha 0 _ rfl
  exact ⟨b, off, e, hb, hSb, by simpa [show n UInt8 = 1 from rfl] using this⟩
/-- a cursor of the call's own, in block g, over the bytes xs -/
def Cur (w : World) (g : Nat) (xs : List UInt8) (A : Option Addr) (cap : Nat) : Prop :=
  ∃ (i : Nat) (h : Int), i ≤ xs.length ∧ w.heap[g]? = some (.cells #[.slice A xs.length cap, .int .i64 i, .int .i64 h] 51 (0, 0))
set_option maxRecDepth 20000 in set_option maxHeartbeats 4000000 in
theorem spec_l01New (w : World) (xs : List UInt8) (A : Option Addr) (cap : Nat) (S : Blks) (hx : Row false w A cap xs S) (hl : xs.length ≤ 1048576) : Calls Tryd.prog 16 #[.slice A xs.length cap] w fun e w' => ∃ g, e = .returned (.pointer (some ⟨g, 0, none⟩)) ∧ w.heap.size ≤ g ∧ Cur w' g xs A cap ∧ Below w.heap.size w w' := by
  go_enter Tryd.func16, Tryd.ntmps16
  go_wp2
  go_loopw [3, 4] (fun h i wr => ∃ (k : Nat) (z : Int), k ≤ xs.length ∧ i = .int .i64 k ∧ h = .int .i64 z ∧ Below w.heap.size w wr) (fun _ i _ => xs.length - (intOf i).toNat)
  case atStart => exact ⟨0, _, Nat.zero_le _, rfl, rfl, Below.refl _ _⟩
  case round =>
    obtain ⟨k, z, hk, rfl, rfl, hB⟩ := hrel
    have hz := hB.size
    by_cases hlt : k < xs.length
    · by_cases h4 : k < 4000
      · obtain ⟨b1, o1, rfl, hl1, -, f0⟩ := Row.u8 hx hlt
        replace f0 := (hB.cell (p := ⟨b1, o1 + k, none⟩) hl1).trans f0
        have hd : decide ((k : Int) < 4000) = true := by rw [decide_eq_true_iff]; omega
        go_wp2
        go_roundw
        case rel => exact ⟨k + 1, _, by omega, by go_num, rfl, hB⟩
        case measure => simp [intOf]; omega
      · have hd : decide ((k : Int) < 4000) = false := by rw [decide_eq_false_iff_not]; omega
        go_wp2_with (refine wpList_box rfl _ _ rfl rfl ?_)
        go_ret
        exact ⟨wr.heap.size, rfl, hz, ⟨0, z, Nat.zero_le _, heap_alloc_new wr _⟩, hB.alloc hz _⟩
    · have hke : k = xs.length := by omega
      subst hke
      go_wp2_with (refine wpList_box rfl _ _ rfl rfl ?_)
      go_ret
      exact ⟨wr.heap.size, rfl, hz, ⟨0, z, Nat.zero_le _, heap_alloc_new wr _⟩, hB.alloc hz _⟩
end Go.Proofs.YtlbmikcfjgnnaaaDoor
