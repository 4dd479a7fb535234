/- Walks: a change. -/
import Derived.Test.YticdcndpbnbkhaaNm
namespace Go.Proofs.Yticdcndpbnbkhaa
open Go.RowKit Lay Mk

set_option maxRecDepth 20000 in set_option maxHeartbeats 2000000 in
theorem spec_ChangeOk (x : Change) (w : World) (hn : x.name.size ≤ maxLen) (hv : x.value.size ≤ maxLen) : Calls Try.prog 16 #[.agg (Change.cs x).toArray] w fun e w' => e = .returned (.bool (changeOk x)) ∧ Below w.heap.size w w' := by
  obtain ⟨i, n, v⟩ := x
  simp only [Change.cs]
  simp only at hn hv
  go_enter Try.func16, Try.ntmps16
  go_wp2_with (first | (go_at_call 45; refine (spec_in _ _ _ _).mono ?_; rintro e w' ⟨rfl, rfl⟩) | (go_at_call 48; refine (spec_NameOk _ _ hn).mono ?_; rintro e w' ⟨rfl, rfl⟩) | (go_at_call 49; refine (spec_ValueOk _ _ hv).mono ?_; rintro e w' ⟨rfl, rfl⟩))
  all_goals (go_ret; refine ⟨?_, (Below.refl _ _).alloc (Nat.le_refl _) _⟩; congr 2; simp_all [changeOk])

set_option maxRecDepth 20000 in set_option maxHeartbeats 2000000 in
theorem impl_ChangeOk (x : Change) (w : World) (hn : x.name.size ≤ maxLen) (hv : x.value.size ≤ maxLen) : Calls Try.prog 18 #[.agg (Change.cs x).toArray] w fun e w' => e = .returned (.bool (changeOk x)) ∧ Below w.heap.size w w' := by
  obtain ⟨i, n, v⟩ := x
  simp only [Change.cs]
  simp only at hn hv
  go_enter Try.func18, Try.ntmps18
  go_wp2_with (first | (go_at_call 47; refine (impl_in _ _ _ _).mono ?_; rintro e w' ⟨rfl, rfl⟩) | (go_at_call 50; refine (impl_NameOk _ _ hn).mono ?_; rintro e w' ⟨rfl, rfl⟩) | (go_at_call 51; refine (impl_ValueOk _ _ hv).mono ?_; rintro e w' ⟨rfl, rfl⟩))
  all_goals (go_ret; refine ⟨?_, (Below.refl _ _).alloc (Nat.le_refl _) _⟩; congr 2; simp_all [changeOk])
end Go.Proofs.Yticdcndpbnbkhaa
