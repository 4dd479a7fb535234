/- Walks: a move. -/
import Derived.Test.YticdcndpbnbkhaaCh
namespace Go.Proofs.Yticdcndpbnbkhaa
open Go.RowKit Lay Mk
def noChange (u : Change) : Bool := decide (u.id = 0) && u.name.toList.isEmpty && u.value.toList.isEmpty
def moveOk (m : Move) : Bool := inB m.kind 1 10 && inB m.node 0 4 && decide (0 ≤ m.at_) && (if m.kind = 1 then changeOk m.change else noChange m.change)

set_option maxRecDepth 20000 in set_option maxHeartbeats 2000000 in
theorem spec_MoveOk (x : Move) (w : World) (hn : x.change.name.size ≤ maxLen) (hv : x.change.value.size ≤ maxLen) : Calls Try.prog 27 #[.agg (Move.cs x).toArray] w fun e w' => e = .returned (.bool (moveOk x)) ∧ Below w.heap.size w w' := by
  simp only [Move.cs]
  go_enter Try.func27, Try.ntmps27
  go_wp2_with (first | (go_at_call 45; refine (spec_in _ _ _ _).mono ?_; rintro e w' ⟨rfl, rfl⟩) | (go_at_call 16; refine (spec_ChangeOk x.change _ hn hv).mono ?_; rintro e w' ⟨rfl, hb⟩))
  all_goals
    go_ret
    refine ⟨?_, by first | exact (Below.refl _ _).alloc (by simp) _ | exact ((Below.refl _ _).alloc (by simp) _).trans (hb.mono (by simp))⟩
    congr 2
    simp_all [moveOk, noChange]
    try omega

set_option maxRecDepth 20000 in set_option maxHeartbeats 2000000 in
theorem impl_MoveOk (x : Move) (w : World) (hn : x.change.name.size ≤ maxLen) (hv : x.change.value.size ≤ maxLen) : Calls Try.prog 29 #[.agg (Move.cs x).toArray] w fun e w' => e = .returned (.bool (moveOk x)) ∧ Below w.heap.size w w' := by
  simp only [Move.cs]
  go_enter Try.func29, Try.ntmps29
  go_wp2_with (first | (go_at_call 47; refine (impl_in _ _ _ _).mono ?_; rintro e w' ⟨rfl, rfl⟩) | (go_at_call 18; refine (impl_ChangeOk x.change _ hn hv).mono ?_; rintro e w' ⟨rfl, hb⟩))
  all_goals
    go_ret
    refine ⟨?_, by first | exact (Below.refl _ _).alloc (by simp) _ | exact ((Below.refl _ _).alloc (by simp) _).trans (hb.mono (by simp))⟩
    congr 2
    simp_all [moveOk, noChange]
    try omega
end Go.Proofs.Yticdcndpbnbkhaa
