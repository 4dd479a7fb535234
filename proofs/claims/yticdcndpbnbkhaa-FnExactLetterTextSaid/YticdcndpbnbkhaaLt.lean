/- Walks: the tests of a letter. -/
import Derived.Test.YticdcndpbnbkhaaProg
import Derived.Test.YticdcndpbnbkhaaPl
namespace Go.Proofs.Yticdcndpbnbkhaa
open Go.RowKit Lay Mk
theorem impl_in (n lo hi : Int) (w : World) : Calls Try.prog 47 #[.int .i64 n, .int .i64 lo, .int .i64 hi] w fun e w' => e = .returned (.bool (inB n lo hi)) ∧ w = w' := by
  go_enter Try.func47, Try.ntmps47
  go_wp2
  all_goals (go_ret; refine ⟨?_, rfl⟩; simp [inB]; try omega)

theorem spec_in (n lo hi : Int) (w : World) : Calls Try.prog 45 #[.int .i64 n, .int .i64 lo, .int .i64 hi] w fun e w' => e = .returned (.bool (inB n lo hi)) ∧ w = w' := by
  go_enter Try.func45, Try.ntmps45
  go_wp2
  all_goals (go_ret; refine ⟨?_, rfl⟩; simp [inB]; try omega)

theorem impl_isEpoch (n : Int) (w : World) : Calls Try.prog 46 #[.int .i64 n] w fun e w' => e = .returned (.bool (inB n 1 4)) ∧ w = w' := by
  go_enter Try.func46, Try.ntmps46
  go_wp2_with (go_at_call 47; refine (impl_in _ _ _ _).mono ?_; rintro e w' ⟨rfl, rfl⟩)
  go_ret; exact ⟨rfl, rfl⟩

theorem impl_LetterOk (x : Letter) (w : World) : Calls Try.prog 14 #[.agg (Letter.cs x).toArray] w fun e w' => e = .returned (.bool (letterOk x)) ∧ Below w.heap.size w w' := by
  obtain ⟨k, f, t, e, y, r⟩ := x
  simp only [Letter.cs]
  go_enter Try.func14, Try.ntmps14
  go_wp2_with (first | (go_at_call 47; refine (impl_in _ _ _ _).mono ?_; rintro e w' ⟨rfl, rfl⟩) | (go_at_call 46; refine (impl_isEpoch _ _).mono ?_; rintro e w' ⟨rfl, rfl⟩))
  all_goals (go_ret; refine ⟨?_, (Below.refl _ _).alloc (Nat.le_refl _) _⟩; congr 2; simp_all [letterOk])
set_option maxHeartbeats 1000000 in
theorem spec_LetterOk (x : Letter) (w : World) : Calls Try.prog 12 #[.agg (Letter.cs x).toArray] w fun e w' => e = .returned (.bool (letterOk x)) ∧ Below w.heap.size w w' := by
  obtain ⟨k, f, t, e, y, r⟩ := x
  simp only [Letter.cs]
  by_cases hk : k = 1 ∨ k = 3 ∨ k = 4
  · rcases hk with rfl | rfl | rfl
    all_goals
      go_enter Try.func12, Try.ntmps12
      go_wp2_with (first | (go_at_call 45; refine (spec_in _ _ _ _).mono ?_; rintro e w' ⟨rfl, rfl⟩))
      all_goals (go_ret; refine ⟨?_, (Below.refl _ _).alloc (Nat.le_refl _) _⟩; congr 2; simp_all [letterOk])
  · by_cases h2 : k = 2
    · subst h2
      go_enter Try.func12, Try.ntmps12
      go_wp2_with (first | (go_at_call 45; refine (spec_in _ _ _ _).mono ?_; rintro e w' ⟨rfl, rfl⟩))
      all_goals (go_ret; refine ⟨?_, (Below.refl _ _).alloc (Nat.le_refl _) _⟩; congr 2; simp_all [letterOk])
    · by_cases h5 : k = 5
      · subst h5
        go_enter Try.func12, Try.ntmps12
        go_wp2_with (first | (go_at_call 45; refine (spec_in _ _ _ _).mono ?_; rintro e w' ⟨rfl, rfl⟩))
        all_goals (go_ret; refine ⟨?_, (Below.refl _ _).alloc (Nat.le_refl _) _⟩; congr 2; simp_all [letterOk])
      · have hi : inB k 1 5 = false := by simp [inB]; omega
        go_enter Try.func12, Try.ntmps12
        go_wp2_with (first | (go_at_call 45; refine (spec_in _ _ _ _).mono ?_; rintro e w' ⟨rfl, rfl⟩))
        all_goals (go_ret; refine ⟨?_, (Below.refl _ _).alloc (Nat.le_refl _) _⟩; congr 2; simp_all [letterOk])

end Go.Proofs.Yticdcndpbnbkhaa
