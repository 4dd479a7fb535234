/- Are all of a width; both sides. -/
import Derived.Test.YtojbehmbeoemgaaDoorB2
import Derived.Test.YtojbehmbeoemgaaDoorKDx
set_option linter.unusedVariables false
set_option linter.unusedSimpArgs false
namespace Go.Proofs.YtojbehmbeoemgaaDoor
open Go.RowKit Lay Mk
def wideG (l : List ByteArray) (v : Int) : Bool := l.all (fun s => decide ((s.size : Int) = v))
theorem wideG_bad {l : List ByteArray} {v : Int} {k : Nat} (hk : k < l.length) (h : ¬ (l[k].size : Int) = v) : wideG l v = false := by
  unfold wideG; rw [List.all_eq_false]; exact ⟨_, List.getElem_mem hk, by simpa using h⟩
theorem wideG_good {l : List ByteArray} {v : Int} (h : ∀ k (hk : k < l.length), (l[k].size : Int) = v) : wideG l v = true := by
  unfold wideG; rw [List.all_eq_true]; intro s hs
  obtain ⟨k, hk, rfl⟩ := List.getElem_of_mem hs
  simpa using h k hk
set_option maxRecDepth 20000 in set_option maxHeartbeats 2000000 in
theorem impl_haveWidth (w : World) (l : List ByteArray) (A : Option Addr) (cap : Nat) (S : Blks) (hx : Row false w A cap l S) (hl0 : l.length ≤ maxLen) (n : Int) (hn : I64 n) (v : Int) : Calls Tryd.prog 84 #[.slice A l.length cap, .int .i64 n, .int .i64 v] w fun e w' => e = .returned (.bool (wideG l v && decide ((l.length : Int) = n))) ∧ w = w' := by
  have hl : l.length ≤ 9223372036854775807 := hl0
  clear hl0
  go_enter Tryd.func84, Tryd.ntmps84
  go_wp2
  go_loopw [11] (fun i wr => ∃ k : Nat, k ≤ l.length ∧ i = .int .i64 k ∧ Hid (∀ j (h : j < l.length), j < k → (l[j].size : Int) = v) ∧ w = wr) (fun i _ => l.length - (intOf i).toNat)
  case atStart => exact ⟨0, Nat.zero_le _, rfl, Lib.hid (fun j _ h => absurd h (by omega)), rfl⟩
  case round =>
    obtain ⟨k, hk, rfl, HS, rfl⟩ := hrel
    by_cases hlt : k < l.length
    · obtain ⟨b1, o1, rfl, hl1, f0, s0⟩ := Row.str hx hlt
      have HBk := Lib.hid (fun h => wideG_bad (v := v) hlt h)
      have HN : Hid ((l[k].size : Int) = v → ∀ j (h : j < l.length), j < k + 1 → (l[j].size : Int) = v) := Lib.hid (fun h0 j h hj => by rcases Nat.lt_succ_iff_lt_or_eq.1 hj with h1 | h1; exact HS.out j h h1; subst h1; exact h0)
      obtain ⟨x, hxx⟩ : ∃ x, l[k] = x := ⟨_, rfl⟩
      rw [hxx] at f0 s0
      simp only [hxx] at HBk HN
      clear hxx
      by_cases h16 : (x.size : Int) = v
      · have HNx := Lib.hid (HN.out h16)
        have hq : ((x.size : Int) != v) = false := by rw [bne_eq_false_iff_eq]; exact h16
        clear HBk HN h16
        go_wp2
        go_roundw
        case rel => exact ⟨k + 1, by omega, by go_num, HNx, trivial⟩
        case measure => simp [intOf]; omega
      · have HF := Lib.hid (HBk.out h16)
        have hq : ((x.size : Int) != v) = true := by rw [bne_iff_ne]; exact h16
        clear HBk HN h16
        go_wp2
        go_ret
        exact ⟨ret_bool (by rw [HF.out]; rfl), rfl⟩
    · have hke : k = l.length := by omega
      subst hke
      have HF := Lib.hid (wideG_good (v := v) (fun k hk => HS.out k hk hk))
      have HC : Hid (((l.length : Int) == n) = decide ((l.length : Int) = n)) := Lib.hid (by rw [Bool.eq_iff_iff, beq_iff_eq, decide_eq_true_iff])
      clear HS
      go_wp2
      go_ret
      exact ⟨ret_bool (by rw [HF.out, ← HC.out]; rfl), rfl⟩
set_option maxRecDepth 20000 in set_option maxHeartbeats 2000000 in
theorem spec_l11Wide (w : World) (l : List ByteArray) (A : Option Addr) (cap : Nat) (S : Blks) (hx : Row false w A cap l S) (hl0 : l.length ≤ maxLen) (v : Int) : Calls Tryd.prog 135 #[.slice A l.length cap, .int .i64 v] w fun e w' => e = .returned (.bool (wideG l v && inB v 1 32)) ∧ w = w' := by
  have hl : l.length ≤ 9223372036854775807 := hl0
  clear hl0
  go_enter Tryd.func135, Tryd.ntmps135
  go_wp2
  go_loopw [5] (fun i wr => ∃ k : Nat, k ≤ l.length ∧ i = .int .i64 k ∧ Hid (∀ j (h : j < l.length), j < k → (l[j].size : Int) = v) ∧ w = wr) (fun i _ => l.length - (intOf i).toNat)
  case atStart => exact ⟨0, Nat.zero_le _, rfl, Lib.hid (fun j _ h => absurd h (by omega)), rfl⟩
  case round =>
    obtain ⟨k, hk, rfl, HS, rfl⟩ := hrel
    by_cases hlt : k < l.length
    · obtain ⟨b1, o1, rfl, hl1, f0, s0⟩ := Row.str hx hlt
      have HBk := Lib.hid (fun h => wideG_bad (v := v) hlt h)
      have HN : Hid ((l[k].size : Int) = v → ∀ j (h : j < l.length), j < k + 1 → (l[j].size : Int) = v) := Lib.hid (fun h0 j h hj => by rcases Nat.lt_succ_iff_lt_or_eq.1 hj with h1 | h1; exact HS.out j h h1; subst h1; exact h0)
      obtain ⟨x, hxx⟩ : ∃ x, l[k] = x := ⟨_, rfl⟩
      rw [hxx] at f0 s0
      simp only [hxx] at HBk HN
      clear hxx
      by_cases h16 : (x.size : Int) = v
      · have HNx := Lib.hid (HN.out h16)
        have hq : ((x.size : Int) != v) = false := by rw [bne_eq_false_iff_eq]; exact h16
        clear HBk HN h16
        go_wp2
        go_roundw
        case rel => exact ⟨k + 1, by omega, by go_num, HNx, trivial⟩
        case measure => simp [intOf]; omega
      · have HF := Lib.hid (HBk.out h16)
        have hq : ((x.size : Int) != v) = true := by rw [bne_iff_ne]; exact h16
        clear HBk HN h16
        go_wp2
        go_ret
        exact ⟨ret_bool (by rw [HF.out]; rfl), rfl⟩
    · have hke : k = l.length := by omega
      subst hke
      have HF := Lib.hid (wideG_good (v := v) (fun k hk => HS.out k hk hk))
      clear HS
      go_wp2_with (go_at_call 50; refine (spec_in _ _ _ _).mono ?_; rintro e2 w2 ⟨rfl, rfl⟩)
      go_ret
      exact ⟨ret_bool (by rw [HF.out]; rfl), rfl⟩
end Go.Proofs.YtojbehmbeoemgaaDoor
