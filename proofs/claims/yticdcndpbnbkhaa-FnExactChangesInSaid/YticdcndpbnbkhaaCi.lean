/- Walks: where a list of values changes. -/
import Derived.Test.YticdcndpbnbkhaaRd
namespace Go.Proofs.Yticdcndpbnbkhaa
open Go.RowKit Lay Mk
def lastOf (xs : List ByteArray) (k : Nat) : ByteArray := if k = 0 then ⟨#[]⟩ else xs.getD (k - 1) ⟨#[]⟩
def chA (xs : List ByteArray) : Nat → List Int
  | 0 => []
  | k + 1 => if xs.getD k ⟨#[]⟩ = lastOf xs k then chA xs k else chA xs k ++ [(k : Int) + 1]
def changesIn (xs : List ByteArray) : List Int := chA xs xs.length
theorem chA_yes {xs : List ByteArray} {k : Nat} (hk : k < xs.length) (h : ¬ xs[k] = lastOf xs k) : chA xs (k + 1) = chA xs k ++ [(k : Int) + 1] := by
  have : xs.getD k ⟨#[]⟩ = xs[k] := by simp [List.getD, hk]
  simp only [chA, this, h, if_false]
theorem chA_no {xs : List ByteArray} {k : Nat} (hk : k < xs.length) (h : xs[k] = lastOf xs k) : chA xs (k + 1) = chA xs k := by
  have : xs.getD k ⟨#[]⟩ = xs[k] := by simp [List.getD, hk]
  simp only [chA, this, h, if_true]
theorem chA_le (xs : List ByteArray) : ∀ k, (chA xs k).length ≤ k
  | 0 => by simp [chA]
  | k + 1 => by
    have := chA_le xs k
    unfold chA; split
    · omega
    · simp; omega
theorem cnL_int : ∀ xs : List Int, cnL xs = xs.length
  | [] => rfl
  | x :: xs => by have := cnL_int xs; simp only [cnL, List.map_cons, List.sum_cons, List.length_cons] at *; show 1 + _ = _; omega
theorem lastOf_succ {xs : List ByteArray} {k : Nat} (hk : k < xs.length) : lastOf xs (k + 1) = xs[k] := by simp [lastOf, List.getD, hk]
theorem cnb_changesIn (xs : List ByteArray) (h : szL xs ≤ 1048576) : cnL (changesIn xs) ≤ 1000000000000 := by
  have h1 := cnL_int (changesIn xs)
  have := chA_le xs xs.length
  have := szT_le xs 0
  unfold changesIn at *; omega
set_option maxRecDepth 20000 in set_option maxHeartbeats 2000000 in
theorem impl_ChangesIn (w : World) (xs : List ByteArray) (A0 : Option Addr) (cap0 : Nat) (S : Blks) (hx : Row false w A0 cap0 xs S) (hxc : xs.length ≤ cap0) (hcm : cap0 ≤ maxLen) (hz : szL xs ≤ 1048576) :
    Calls Try.prog 33 #[.slice A0 xs.length cap0] w fun e w' => ∃ A' cap', e = .returned (.slice A' (changesIn xs).length cap') ∧ (changesIn xs).length ≤ cap' ∧ cap' ≤ maxLen ∧ Row true w' A' cap' (changesIn xs) (rng w.heap.size w'.heap.size) ∧ Below w.heap.size w w' := by
  have hl : xs.length ≤ 1048576 := by have := szT_le xs 0; omega
  go_enter Try.func33, Try.ntmps33
  go_wp2
  go_loopw [3, 4, 9] (fun u l i wr => ∃ (k : Nat) (ys : List Int) (A : Option Addr) (cap : Nat), k ≤ xs.length ∧ i = .int .i64 k ∧ l = .string (lastOf xs k) ∧ u = .slice A ys.length cap ∧ Hid (ys = chA xs k) ∧ ys.length ≤ k ∧ ys.length ≤ cap ∧ cap ≤ maxLen ∧ Row true wr A cap ys (nw w.heap.size) ∧ Below w.heap.size w wr) (fun _ _ i _ => xs.length - (intOf i).toNat)
  case atStart => exact ⟨0, [], none, 0, Nat.zero_le _, rfl, rfl, rfl, Lib.hid rfl, by simp, by simp, by decide, row_nil _ _, Below.refl _ _⟩
  case round =>
    obtain ⟨k, ys, A, cap, hk, rfl, rfl, rfl, hys, hyk, hle, hcm2, hrow, hb⟩ := hrel
    have hz := hb.size
    by_cases hlt : k < xs.length
    · obtain ⟨b1, o1, rfl, hl1, f0, _⟩ := Row.str hx hlt
      replace f0 := (hb.cell (p := ⟨b1, o1 + k, none⟩) hl1).trans f0
      have hl2 : b1 < wr.heap.size := by omega
      have hls := Lib.hid (lastOf_succ hlt)
      have hz2 : w.heap.size ≤ (wr.alloc (.cells #[.int .i64 ((k : Int) + 1)] 3)).heap.size := by simp; omega
      have hI : I64 ((k : Int) + 1) := by unfold I64; omega
      by_cases hne : xs[k] = lastOf xs k
      rotate_left
      · have hnx := Lib.hid (chA_yes hlt hne)
        have hsb := str_ne hne; clear hne
        go_wp2_with (at_builtin; refine wpList_app (α := Int) rfl _ _ rfl rfl rfl (hrow.allocC _) hle hcm2 rfl rfl (src_new _ ((k : Int) + 1) hI _ _ rfl) (disj_none_ _) (by omega) ?_; intro A' cap' w' h1 h2 h3 h4)
        go_roundw
        case rel => exact ⟨k + 1, ys ++ [(k : Int) + 1], A', cap', by omega, by go_num, by rw [hls.out], by simp, Lib.hid (by rw [hnx.out, hys.out]), by simp; omega, by simpa using h1, h2, row_step h3 hz2, (hb.alloc hz _).trans (h4.nw hz2 (sub_refl _))⟩
        case measure => simp [intOf]; omega
      · have hnx := Lib.hid (chA_no hlt hne)
        have hsb := str_eq hne; clear hne
        go_wp2
        go_roundw
        case rel => exact ⟨k + 1, ys, A, cap, by omega, by go_num, by rw [hls.out], rfl, Lib.hid (by rw [hnx.out, hys.out]), by omega, hle, hcm2, hrow, hb⟩
        case measure => simp [intOf]; omega
    · have hke : k = xs.length := by omega
      subst hke
      obtain rfl := hys.out
      go_wp2
      go_ret
      exact ⟨A, cap, rfl, hle, hcm2, to_rng hrow, hb⟩
set_option maxRecDepth 20000 in set_option maxHeartbeats 2000000 in
theorem spec_ChangesIn (w : World) (xs : List ByteArray) (A0 : Option Addr) (cap0 : Nat) (S : Blks) (hx : Row false w A0 cap0 xs S) (hxc : xs.length ≤ cap0) (hcm : cap0 ≤ maxLen) (hz : szL xs ≤ 1048576) :
    Calls Try.prog 31 #[.slice A0 xs.length cap0] w fun e w' => ∃ A' cap', e = .returned (.slice A' (changesIn xs).length cap') ∧ (changesIn xs).length ≤ cap' ∧ cap' ≤ maxLen ∧ Row true w' A' cap' (changesIn xs) (rng w.heap.size w'.heap.size) ∧ Below w.heap.size w w' := by
  have hl : xs.length ≤ 1048576 := by have := szT_le xs 0; omega
  go_enter Try.func31, Try.ntmps31
  go_wp2
  go_loopw [3, 4, 5] (fun u l i wr => ∃ (k : Nat) (ys : List Int) (A : Option Addr) (cap : Nat), k ≤ xs.length ∧ i = .int .i64 k ∧ l = .string (lastOf xs k) ∧ u = .slice A ys.length cap ∧ Hid (ys = chA xs k) ∧ ys.length ≤ k ∧ ys.length ≤ cap ∧ cap ≤ maxLen ∧ Row true wr A cap ys (nw w.heap.size) ∧ Below w.heap.size w wr) (fun _ _ i _ => xs.length - (intOf i).toNat)
  case atStart => exact ⟨0, [], _, _, Nat.zero_le _, rfl, rfl, rfl, Lib.hid rfl, by simp, by simp, by decide, row_lit0 _ _ _ rfl (Nat.le_refl _), (Below.refl _ _).alloc (Nat.le_refl _) _⟩
  case round =>
    obtain ⟨k, ys, A, cap, hk, rfl, rfl, rfl, hys, hyk, hle, hcm2, hrow, hb⟩ := hrel
    have hz := hb.size
    by_cases hlt : k < xs.length
    · obtain ⟨b1, o1, rfl, hl1, f0, _⟩ := Row.str hx hlt
      replace f0 := (hb.cell (p := ⟨b1, o1 + k, none⟩) hl1).trans f0
      have hl2 : b1 < wr.heap.size := by omega
      have hls := Lib.hid (lastOf_succ hlt)
      have hz2 : w.heap.size ≤ (wr.alloc (.cells #[.int .i64 ((k : Int) + 1)] 3)).heap.size := by simp; omega
      have hI : I64 ((k : Int) + 1) := by unfold I64; omega
      by_cases hne : xs[k] = lastOf xs k
      rotate_left
      · have hnx := Lib.hid (chA_yes hlt hne)
        have hsb := str_ne hne; clear hne
        go_wp2_with (at_builtin; refine wpList_app (α := Int) rfl _ _ rfl rfl rfl (hrow.allocC _) hle hcm2 rfl rfl (src_new _ ((k : Int) + 1) hI _ _ rfl) (disj_none_ _) (by omega) ?_; intro A' cap' w' h1 h2 h3 h4; have hq := ((h4.nw hz2 (sub_refl _)).cell (p := ⟨b1, o1 + k, none⟩) hl1).trans (cell_alloc f0))
        go_roundw
        case rel => exact ⟨k + 1, ys ++ [(k : Int) + 1], A', cap', by omega, by go_num, by rw [hls.out], by simp, Lib.hid (by rw [hnx.out, hys.out]), by simp; omega, by simpa using h1, h2, row_step h3 hz2, (hb.alloc hz _).trans (h4.nw hz2 (sub_refl _))⟩
        case measure => simp [intOf]; omega
      · have hnx := Lib.hid (chA_no hlt hne)
        have hsb := str_eq hne; clear hne
        go_wp2
        go_roundw
        case rel => exact ⟨k + 1, ys, A, cap, by omega, by go_num, by rw [hls.out], rfl, Lib.hid (by rw [hnx.out, hys.out]), by omega, hle, hcm2, hrow, hb⟩
        case measure => simp [intOf]; omega
    · have hke : k = xs.length := by omega
      subst hke
      obtain rfl := hys.out
      go_wp2
      go_ret
      exact ⟨A, cap, rfl, hle, hcm2, to_rng hrow, hb⟩
end Go.Proofs.Yticdcndpbnbkhaa
