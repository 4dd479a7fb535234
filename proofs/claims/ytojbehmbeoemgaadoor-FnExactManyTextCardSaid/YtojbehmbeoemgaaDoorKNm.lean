/- Walks: names and values. -/
import Derived.Test.YtojbehmbeoemgaaDoorB2
import Derived.Lib.Hide
set_option linter.unusedVariables false
set_option linter.unusedSimpArgs false
namespace Go.Proofs.YtojbehmbeoemgaaDoor
open Go.RowKit Lay Mk

set_option maxRecDepth 20000 in set_option maxHeartbeats 2000000 in
theorem spec_NameOk (s : ByteArray) (w : World) (hs : s.size ≤ maxLen) : Calls Tryd.prog 75 #[.string s] w fun e w' => e = .returned (.bool (nameOk s)) ∧ w = w' := by
  unfold maxLen at hs
  go_enter Tryd.func75, Tryd.ntmps75
  go_wp2
  go_loop [3] (fun i => ∃ k : Nat, k ≤ s.size ∧ i = .int .i64 k ∧ Hid (∀ j (h : j < s.size), j < k → nmB s[j].toNat = true)) (fun i => s.size - (intOf i).toNat)
  case atStart => exact ⟨0, Nat.zero_le _, rfl, Lib.hid (fun j _ h => absurd h (Nat.not_lt_zero j))⟩
  case round =>
    obtain ⟨k, hk, rfl, ha⟩ := hrel
    by_cases hlt : k < s.size
    · by_cases hg : nmB s[k].toNat = true
      · have hg2 : (97 ≤ s[k].toNat ∧ s[k].toNat ≤ 122) ∨ (48 ≤ s[k].toNat ∧ s[k].toNat ≤ 57) ∨ s[k].toNat = 64 ∨ s[k].toNat = 46 := by simpa [nmB] using hg
        have hnew := Lib.hid (all_succ hlt ha.out hg); clear hg ha
        rcases hg2 with ⟨g1, g2⟩ | ⟨g1, g2⟩ | g1 | g1
        all_goals
          go_wp2_with (go_at_call 50; refine (spec_in _ _ _ _).mono ?_; rintro e w' ⟨rfl, rfl⟩)
          all_goals
            go_round
            case rel => exact ⟨k + 1, by omega, by go_num, hnew⟩
            case measure => simp [intOf]; omega
      · have hg2 : ((s[k].toNat < 48 ∧ s[k].toNat ≠ 46) ∨ (57 < s[k].toNat ∧ s[k].toNat < 97 ∧ s[k].toNat ≠ 64) ∨ 122 < s[k].toNat) := by simp [nmB] at hg; omega
        have hbad := Lib.hid (nameOk_bad hlt (by simpa using hg)); clear hg ha
        rcases hg2 with ⟨g1, g2⟩ | ⟨g1, g2, g3⟩ | g1
        · have x1 : ((s[k].toNat : Int) != 46) = true := by rw [bne_iff_ne]; omega
          have x2 : ((s[k].toNat : Int) == 46) = false := by rw [beq_eq_false_iff_ne]; omega
          have x3 : ((s[k].toNat : Int) != 64) = true := by rw [bne_iff_ne]; omega
          have x4 : ((s[k].toNat : Int) == 64) = false := by rw [beq_eq_false_iff_ne]; omega
          (go_wp2_with (go_at_call 50; refine (spec_in _ _ _ _).mono ?_; rintro e w' ⟨rfl, rfl⟩)
           all_goals first | (go_ret; exact ⟨by rw [hbad.out]; rfl, rfl⟩) | (exfalso; simp_all; done))
        · have x1 : ((s[k].toNat : Int) != 46) = true := by rw [bne_iff_ne]; omega
          have x2 : ((s[k].toNat : Int) == 46) = false := by rw [beq_eq_false_iff_ne]; omega
          have x3 : ((s[k].toNat : Int) != 64) = true := by rw [bne_iff_ne]; omega
          have x4 : ((s[k].toNat : Int) == 64) = false := by rw [beq_eq_false_iff_ne]; omega
          (go_wp2_with (go_at_call 50; refine (spec_in _ _ _ _).mono ?_; rintro e w' ⟨rfl, rfl⟩)
           all_goals first | (go_ret; exact ⟨by rw [hbad.out]; rfl, rfl⟩) | (exfalso; simp_all; done))
        · have x1 : ((s[k].toNat : Int) != 46) = true := by rw [bne_iff_ne]; omega
          have x2 : ((s[k].toNat : Int) == 46) = false := by rw [beq_eq_false_iff_ne]; omega
          have x3 : ((s[k].toNat : Int) != 64) = true := by rw [bne_iff_ne]; omega
          have x4 : ((s[k].toNat : Int) == 64) = false := by rw [beq_eq_false_iff_ne]; omega
          (go_wp2_with (go_at_call 50; refine (spec_in _ _ _ _).mono ?_; rintro e w' ⟨rfl, rfl⟩)
           all_goals first | (go_ret; exact ⟨by rw [hbad.out]; rfl, rfl⟩) | (exfalso; simp_all; done))
    · have hke : k = s.size := by omega
      have HE := Lib.hid (nameOk_end ha.out (.inl hke) hk)
      have HK := Lib.hid hke; clear hke ha
      have hge : s.size ≤ k := by omega
      go_wp2_with (go_at_call 50; refine (spec_in _ _ _ _).mono ?_; rintro e w' ⟨rfl, rfl⟩)
      go_ret
      exact ⟨by rw [HE.out]; rfl, rfl⟩

set_option maxRecDepth 20000 in set_option maxHeartbeats 2000000 in
theorem impl_NameOk (s : ByteArray) (w : World) (hs : s.size ≤ maxLen) : Calls Tryd.prog 123 #[.string s] w fun e w' => e = .returned (.bool (nameOk s)) ∧ w = w' := by
  unfold maxLen at hs
  go_enter Tryd.func123, Tryd.ntmps123
  go_wp2
  go_loop [3] (fun i => ∃ k : Nat, k ≤ s.size ∧ i = .int .i64 k ∧ Hid (∀ j (h : j < s.size), j < k → nmB s[j].toNat = true)) (fun i => s.size - (intOf i).toNat)
  case atStart => exact ⟨0, Nat.zero_le _, rfl, Lib.hid (fun j _ h => absurd h (Nat.not_lt_zero j))⟩
  case round =>
    obtain ⟨k, hk, rfl, ha⟩ := hrel
    by_cases hlt : k < s.size
    · by_cases h12 : 12 < k
      · have HE := Lib.hid (nameOk_end ha.out (.inr h12) hk)
        go_wp2_with (go_at_call 125; refine (impl_in _ _ _ _).mono ?_; rintro e w' ⟨rfl, rfl⟩)
        go_ret
        exact ⟨by rw [HE.out]; rfl, rfl⟩
      by_cases hg : nmB s[k].toNat = true
      · have hg2 : (97 ≤ s[k].toNat ∧ s[k].toNat ≤ 122) ∨ (48 ≤ s[k].toNat ∧ s[k].toNat ≤ 57) ∨ s[k].toNat = 64 ∨ s[k].toNat = 46 := by simpa [nmB] using hg
        have hnew := Lib.hid (all_succ hlt ha.out hg); clear hg ha
        rcases hg2 with ⟨g1, g2⟩ | ⟨g1, g2⟩ | g1 | g1
        all_goals
          go_wp2_with (go_at_call 125; refine (impl_in _ _ _ _).mono ?_; rintro e w' ⟨rfl, rfl⟩)
          all_goals
            go_round
            case rel => exact ⟨k + 1, by omega, by go_num, hnew⟩
            case measure => simp [intOf]; omega
      · have hg2 : ((s[k].toNat < 48 ∧ s[k].toNat ≠ 46) ∨ (57 < s[k].toNat ∧ s[k].toNat < 97 ∧ s[k].toNat ≠ 64) ∨ 122 < s[k].toNat) := by simp [nmB] at hg; omega
        have hbad := Lib.hid (nameOk_bad hlt (by simpa using hg)); clear hg ha
        rcases hg2 with ⟨g1, g2⟩ | ⟨g1, g2, g3⟩ | g1
        · have x1 : ((s[k].toNat : Int) != 46) = true := by rw [bne_iff_ne]; omega
          have x2 : ((s[k].toNat : Int) == 46) = false := by rw [beq_eq_false_iff_ne]; omega
          have x3 : ((s[k].toNat : Int) != 64) = true := by rw [bne_iff_ne]; omega
          have x4 : ((s[k].toNat : Int) == 64) = false := by rw [beq_eq_false_iff_ne]; omega
          (go_wp2_with (go_at_call 125; refine (impl_in _ _ _ _).mono ?_; rintro e w' ⟨rfl, rfl⟩)
           all_goals first | (go_ret; exact ⟨by rw [hbad.out]; rfl, rfl⟩) | (exfalso; simp_all; done))
        · have x1 : ((s[k].toNat : Int) != 46) = true := by rw [bne_iff_ne]; omega
          have x2 : ((s[k].toNat : Int) == 46) = false := by rw [beq_eq_false_iff_ne]; omega
          have x3 : ((s[k].toNat : Int) != 64) = true := by rw [bne_iff_ne]; omega
          have x4 : ((s[k].toNat : Int) == 64) = false := by rw [beq_eq_false_iff_ne]; omega
          (go_wp2_with (go_at_call 125; refine (impl_in _ _ _ _).mono ?_; rintro e w' ⟨rfl, rfl⟩)
           all_goals first | (go_ret; exact ⟨by rw [hbad.out]; rfl, rfl⟩) | (exfalso; simp_all; done))
        · have x1 : ((s[k].toNat : Int) != 46) = true := by rw [bne_iff_ne]; omega
          have x2 : ((s[k].toNat : Int) == 46) = false := by rw [beq_eq_false_iff_ne]; omega
          have x3 : ((s[k].toNat : Int) != 64) = true := by rw [bne_iff_ne]; omega
          have x4 : ((s[k].toNat : Int) == 64) = false := by rw [beq_eq_false_iff_ne]; omega
          (go_wp2_with (go_at_call 125; refine (impl_in _ _ _ _).mono ?_; rintro e w' ⟨rfl, rfl⟩)
           all_goals first | (go_ret; exact ⟨by rw [hbad.out]; rfl, rfl⟩) | (exfalso; simp_all; done))
    · have hke : k = s.size := by omega
      have HE := Lib.hid (nameOk_end ha.out (.inl hke) hk)
      have HK := Lib.hid hke; clear hke ha
      have hge : s.size ≤ k := by omega
      go_wp2_with (go_at_call 125; refine (impl_in _ _ _ _).mono ?_; rintro e w' ⟨rfl, rfl⟩)
      go_ret
      exact ⟨by rw [HE.out]; rfl, rfl⟩

set_option maxRecDepth 20000 in set_option maxHeartbeats 2000000 in
theorem spec_ValueOk (s : ByteArray) (w : World) (hs : s.size ≤ maxLen) : Calls Tryd.prog 129 #[.string s] w fun e w' => e = .returned (.bool (valueOk s)) ∧ w = w' := by
  unfold maxLen at hs
  go_enter Tryd.func129, Tryd.ntmps129
  go_wp2
  go_loop [3] (fun i => ∃ k : Nat, k ≤ s.size ∧ i = .int .i64 k ∧ Hid (∀ j (h : j < s.size), j < k → vlB s[j].toNat = true)) (fun i => s.size - (intOf i).toNat)
  case atStart => exact ⟨0, Nat.zero_le _, rfl, Lib.hid (fun j _ h => absurd h (Nat.not_lt_zero j))⟩
  case round =>
    obtain ⟨k, hk, rfl, ha⟩ := hrel
    by_cases hlt : k < s.size
    · by_cases hg : vlB s[k].toNat = true
      · have hg2 : 33 ≤ s[k].toNat ∧ s[k].toNat ≤ 126 := by simpa [vlB] using hg
        have hnew := Lib.hid (all_succ hlt ha.out hg); clear hg ha
        obtain ⟨g1, g2⟩ := hg2
        have hi : inB (s[k].toNat : Int) 33 126 = true := by simp [inB]; omega
        all_goals
          go_wp2_with (go_at_call 50; refine (spec_in _ _ _ _).mono ?_; rintro e w' ⟨rfl, rfl⟩)
          all_goals
            go_round
            case rel => exact ⟨k + 1, by omega, by go_num, hnew⟩
            case measure => simp [intOf]; omega
      · have hby : s[k].toNat < 256 := s[k].toNat_lt
        have hg2 : s[k].toNat < 33 ∨ 126 < s[k].toNat := by simp [vlB] at hg; omega
        have hbad := Lib.hid (valueOk_bad hlt (by simpa using hg)); clear hg ha
        have hi : inB (s[k].toNat : Int) 33 126 = false := by simp [inB]; omega
        rcases hg2 with g1 | g1
        · (go_wp2_with (go_at_call 50; refine (spec_in _ _ _ _).mono ?_; rintro e w' ⟨rfl, rfl⟩)
           all_goals first | (go_ret; exact ⟨by rw [hbad.out]; rfl, rfl⟩) | (exfalso; simp_all; done))
        · (go_wp2_with (go_at_call 50; refine (spec_in _ _ _ _).mono ?_; rintro e w' ⟨rfl, rfl⟩)
           all_goals first | (go_ret; exact ⟨by rw [hbad.out]; rfl, rfl⟩) | (exfalso; simp_all; done))
    · have hke : k = s.size := by omega
      have HE := Lib.hid (valueOk_end ha.out (.inl hke) hk)
      have HK := Lib.hid hke; clear hke ha
      have hge : s.size ≤ k := by omega
      go_wp2_with (go_at_call 50; refine (spec_in _ _ _ _).mono ?_; rintro e w' ⟨rfl, rfl⟩)
      go_ret
      exact ⟨by rw [HE.out]; rfl, rfl⟩

set_option maxRecDepth 20000 in set_option maxHeartbeats 2000000 in
theorem impl_ValueOk (s : ByteArray) (w : World) (hs : s.size ≤ maxLen) : Calls Tryd.prog 124 #[.string s] w fun e w' => e = .returned (.bool (valueOk s)) ∧ w = w' := by
  unfold maxLen at hs
  go_enter Tryd.func124, Tryd.ntmps124
  go_wp2
  go_loop [3] (fun i => ∃ k : Nat, k ≤ s.size ∧ i = .int .i64 k ∧ Hid (∀ j (h : j < s.size), j < k → vlB s[j].toNat = true)) (fun i => s.size - (intOf i).toNat)
  case atStart => exact ⟨0, Nat.zero_le _, rfl, Lib.hid (fun j _ h => absurd h (Nat.not_lt_zero j))⟩
  case round =>
    obtain ⟨k, hk, rfl, ha⟩ := hrel
    by_cases hlt : k < s.size
    · by_cases h12 : 12 < k
      · have HE := Lib.hid (valueOk_end ha.out (.inr h12) hk)
        go_wp2_with (go_at_call 125; refine (impl_in _ _ _ _).mono ?_; rintro e w' ⟨rfl, rfl⟩)
        go_ret
        exact ⟨by rw [HE.out]; rfl, rfl⟩
      by_cases hg : vlB s[k].toNat = true
      · have hg2 : 33 ≤ s[k].toNat ∧ s[k].toNat ≤ 126 := by simpa [vlB] using hg
        have hnew := Lib.hid (all_succ hlt ha.out hg); clear hg ha
        obtain ⟨g1, g2⟩ := hg2
        have hi : inB (s[k].toNat : Int) 33 126 = true := by simp [inB]; omega
        all_goals
          go_wp2_with (go_at_call 125; refine (impl_in _ _ _ _).mono ?_; rintro e w' ⟨rfl, rfl⟩)
          all_goals
            go_round
            case rel => exact ⟨k + 1, by omega, by go_num, hnew⟩
            case measure => simp [intOf]; omega
      · have hby : s[k].toNat < 256 := s[k].toNat_lt
        have hg2 : s[k].toNat < 33 ∨ 126 < s[k].toNat := by simp [vlB] at hg; omega
        have hbad := Lib.hid (valueOk_bad hlt (by simpa using hg)); clear hg ha
        have hi : inB (s[k].toNat : Int) 33 126 = false := by simp [inB]; omega
        rcases hg2 with g1 | g1
        · (go_wp2_with (go_at_call 125; refine (impl_in _ _ _ _).mono ?_; rintro e w' ⟨rfl, rfl⟩)
           all_goals first | (go_ret; exact ⟨by rw [hbad.out]; rfl, rfl⟩) | (exfalso; simp_all; done))
        · (go_wp2_with (go_at_call 125; refine (impl_in _ _ _ _).mono ?_; rintro e w' ⟨rfl, rfl⟩)
           all_goals first | (go_ret; exact ⟨by rw [hbad.out]; rfl, rfl⟩) | (exfalso; simp_all; done))
    · have hke : k = s.size := by omega
      have HE := Lib.hid (valueOk_end ha.out (.inl hke) hk)
      have HK := Lib.hid hke; clear hke ha
      have hge : s.size ≤ k := by omega
      go_wp2_with (go_at_call 125; refine (impl_in _ _ _ _).mono ?_; rintro e w' ⟨rfl, rfl⟩)
      go_ret
      exact ⟨by rw [HE.out]; rfl, rfl⟩
end Go.Proofs.YtojbehmbeoemgaaDoor
