/- Walks: an event. -/
import Derived.Test.YticdcndpbnbkhaaMv
namespace Go.Proofs.Yticdcndpbnbkhaa
open Go.RowKit Lay Mk
def noMove (m : Move) : Bool := decide (m.kind = 0) && decide (m.node = 0) && decide (m.at_ = 0) && noChange m.change
def eventOk (e : Event) : Bool := inB e.kind 1 8 && inB e.house 0 2 && decide (0 ≤ e.at_) && (if e.kind = 1 then moveOk e.move else noMove e.move) &&
  (if e.kind = 5 then decide ((e.text.size : Int) ≤ 700) else if e.kind = 6 then decide ((e.text.size : Int) ≤ 20) else e.text.toList.isEmpty)
theorem impl_isHouse (n : Int) (w : World) : Calls Try.prog 61 #[.int .i64 n] w fun e w' => e = .returned (.bool (inB n 0 2)) ∧ w = w' := by
  go_enter Try.func61, Try.ntmps61
  go_wp2_with (go_at_call 47; refine (impl_in _ _ _ _).mono ?_; rintro e w' ⟨rfl, rfl⟩)
  go_ret; exact ⟨rfl, rfl⟩

set_option maxRecDepth 20000 in set_option maxHeartbeats 4000000 in
theorem impl_EventOk (x : Event) (w : World) (hn : x.move.change.name.size ≤ maxLen) (hv : x.move.change.value.size ≤ maxLen) (ht : x.text.size ≤ maxLen) : Calls Try.prog 44 #[.agg (Event.cs x).toArray] w fun e w' => e = .returned (.bool (eventOk x)) ∧ Below w.heap.size w w' := by
  unfold maxLen at ht
  simp only [Event.cs]
  go_enter Try.func44, Try.ntmps44
  go_wp2_with (first | (go_at_call 47; refine (impl_in _ _ _ _).mono ?_; rintro e w' ⟨rfl, rfl⟩) | (go_at_call 61; refine (impl_isHouse _ _).mono ?_; rintro e w' ⟨rfl, rfl⟩) | (go_at_call 29; refine (impl_MoveOk x.move _ hn hv).mono ?_; rintro e w' ⟨rfl, hb⟩; have hc := fun o => hb.cell (p := ⟨w.heap.size, o, none⟩) (by simp)))
  all_goals
    go_ret
    refine ⟨?_, by first | exact (Below.refl _ _).alloc (by simp) _ | exact ((Below.refl _ _).alloc (by simp) _).trans (hb.mono (by simp))⟩
    congr 2
    simp_all [eventOk, noMove, noChange]
    try omega

set_option maxRecDepth 20000 in set_option maxHeartbeats 4000000 in
theorem spec_EventOk (x : Event) (w : World) (hn : x.move.change.name.size ≤ maxLen) (hv : x.move.change.value.size ≤ maxLen) (ht : x.text.size ≤ maxLen) : Calls Try.prog 42 #[.agg (Event.cs x).toArray] w fun e w' => e = .returned (.bool (eventOk x)) ∧ Below w.heap.size w w' := by
  unfold maxLen at ht
  simp only [Event.cs]
  go_enter Try.func42, Try.ntmps42
  go_wp2_with (first | (go_at_call 45; refine (spec_in _ _ _ _).mono ?_; rintro e w' ⟨rfl, rfl⟩) | (go_at_call 27; refine (spec_MoveOk x.move _ hn hv).mono ?_; rintro e w' ⟨rfl, hb⟩; have hc := fun o => hb.cell (p := ⟨w.heap.size, o, none⟩) (by simp)))
  all_goals
    go_ret
    refine ⟨?_, by first | exact (Below.refl _ _).alloc (by simp) _ | exact ((Below.refl _ _).alloc (by simp) _).trans (hb.mono (by simp))⟩
    congr 2
    simp_all [eventOk, noMove, noChange]
    try omega
end Go.Proofs.Yticdcndpbnbkhaa
