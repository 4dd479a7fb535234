/- Walks: the seed of a provider. -/
import Derived.Test.YtbnfkpbaaoknmaaDoorShI
import Derived.Test.YtbnfkpbaaoknmaaDoorBy
import Derived.Test.YtbnfkpbaaoknmaaDoorTg
import Derived.Test.YtbnfkpbaaoknmaaDoorHo
set_option linter.unusedVariables false
set_option linter.unusedSimpArgs false
namespace Go.Proofs.YtbnfkpbaaoknmaaDoor
open Go.RowKit Lay Mk
def figT (v : Nat) : ByteArray := ⟨#[UInt8.ofNat (48 + v)]⟩
def seedOf (n : Int) : ByteArray := if inB n 0 2 then ⟨#[104, 111, 117, 115, 101]⟩ ++ figT n.toNat else ⟨#[]⟩
theorem dec_small {v : Nat} (h : v < 10) : (⟨(Go.Lib.decDigits v).toArray⟩ : ByteArray) = figT v := by
  unfold Go.Lib.decDigits; simp [h, figT]
theorem impl_Decimal (v : Nat) (h : v < 10) (w : World) : Calls Tryd.prog 37 #[.int .i64 v] w fun e w' => e = .returned (.string (figT v)) ∧ Below w.heap.size w w' := by
  have hd := dec_small h
  go_enter Tryd.func37, Tryd.ntmps37
  go_wp2_with (fail)
  refine (Tryd.strconv_Itoa_small v (by omega) _).mono ?_
  rintro e0 w1 ⟨rfl, hw⟩
  subst hw
  rw [hd]
  go_wp2
  go_ret
  exact ⟨rfl, Below.refl _ _⟩
theorem spec_Decimal0 (w : World) : Calls Tryd.prog 35 #[.int .i64 0] w fun e w' => e = .returned (.string (figT 0)) ∧ Below w.heap.size w w' := by
  go_enter Tryd.func35, Tryd.ntmps35
  go_wp2
  go_ret
  exact ⟨rfl, Below.refl _ _⟩
set_option maxRecDepth 20000 in set_option maxHeartbeats 4000000 in
theorem spec_Decimal1 (w : World) : Calls Tryd.prog 35 #[.int .i64 1] w fun e w' => e = .returned (.string (figT 1)) ∧ Below w.heap.size w w' := by
  go_enter Tryd.func35, Tryd.ntmps35
  go_wp2
  go_loopw [0, 4] (fun n s wr => ∃ b : Bool, n = .int .i64 (if b then 0 else 1) ∧ s = .string (if b then figT 1 else ⟨#[]⟩) ∧ Below w.heap.size w wr) (fun n _ _ => (intOf n).toNat)
  case atStart => exact ⟨false, rfl, rfl, Below.refl _ _⟩
  case round =>
    obtain ⟨b, rfl, rfl, hB⟩ := hrel
    have hz := hB.size
    cases b
    · simp only [Bool.false_eq_true, if_false]
      go_wp2_with (first | (refine wpList_strB rfl _ rfl Tryd.underlying5 Tryd.underlying9 rfl rfl (br_lit _ _ _ [49] rfl) ?_) | go_in)
      go_roundw
      case rel => exact ⟨true, rfl, by rfl, hB.alloc hz _⟩
      case measure => simp [intOf]
    · simp only [if_true]
      go_wp2
      go_ret
      exact ⟨rfl, hB⟩
set_option maxRecDepth 20000 in set_option maxHeartbeats 4000000 in
theorem spec_Decimal2 (w : World) : Calls Tryd.prog 35 #[.int .i64 2] w fun e w' => e = .returned (.string (figT 2)) ∧ Below w.heap.size w w' := by
  go_enter Tryd.func35, Tryd.ntmps35
  go_wp2
  go_loopw [0, 4] (fun n s wr => ∃ b : Bool, n = .int .i64 (if b then 0 else 2) ∧ s = .string (if b then figT 2 else ⟨#[]⟩) ∧ Below w.heap.size w wr) (fun n _ _ => (intOf n).toNat)
  case atStart => exact ⟨false, rfl, rfl, Below.refl _ _⟩
  case round =>
    obtain ⟨b, rfl, rfl, hB⟩ := hrel
    have hz := hB.size
    cases b
    · simp only [Bool.false_eq_true, if_false]
      go_wp2_with (first | (refine wpList_strB rfl _ rfl Tryd.underlying5 Tryd.underlying9 rfl rfl (br_lit _ _ _ [50] rfl) ?_) | go_in)
      go_roundw
      case rel => exact ⟨true, rfl, by rfl, hB.alloc hz _⟩
      case measure => simp [intOf]
    · simp only [if_true]
      go_wp2
      go_ret
      exact ⟨rfl, hB⟩
set_option maxRecDepth 20000 in set_option maxHeartbeats 4000000 in
theorem impl_SeedOf (w : World) (n : Int) (_hn : I64 n) : Calls Tryd.prog 8 #[.int .i64 n] w fun e w' => e = .returned (.string (seedOf n)) ∧ Below w.heap.size w w' := by
  cases hi : inB n 0 2
  · have HS : Hid (seedOf n = ⟨#[]⟩) := Lib.hid (by unfold seedOf; rw [hi]; rfl)
    go_enter Tryd.func8, Tryd.ntmps8
    go_wp2_with (go_at_call 36; refine (house_in _ _).mono ?_; rintro e w2 ⟨rfl, rfl⟩)
    go_ret
    exact ⟨by rw [HS.out]; rfl, Below.refl _ _⟩
  · have HS : Hid (seedOf n = ⟨#[104, 111, 117, 115, 101]⟩ ++ figT n.toNat) := Lib.hid (by unfold seedOf; rw [hi]; rfl)
    have hb : n = 0 ∨ n = 1 ∨ n = 2 := by simp [inB] at hi; omega
    have hD : ∀ W, Calls Tryd.prog 37 #[.int .i64 n] W fun e w' => e = .returned (.string (figT n.toNat)) ∧ Below W.heap.size W w' := fun W => by
      rcases hb with rfl | rfl | rfl
      · exact impl_Decimal 0 (by decide) W
      · exact impl_Decimal 1 (by decide) W
      · exact impl_Decimal 2 (by decide) W
    have hsz : (figT n.toNat).size = 1 := rfl
    obtain ⟨f, hf⟩ : ∃ f, figT n.toNat = f := ⟨_, rfl⟩
    rw [hf] at HS hD hsz
    clear hf hb
    go_enter Tryd.func8, Tryd.ntmps8
    go_wp2_with (go_at_call 36; refine (house_in _ _).mono ?_; rintro e w2 ⟨rfl, rfl⟩)
    refine (hD _).mono ?_
    rintro e0 w1 ⟨rfl, hb⟩
    have hc : ¬ 9223372036854775807 < (⟨#[104, 111, 117, 115, 101]⟩ : ByteArray).size + f.size := by rw [hsz]; decide
    go_wp2
    go_ret
    exact ⟨by rw [HS.out]; rfl, hb⟩
set_option maxRecDepth 20000 in set_option maxHeartbeats 4000000 in
theorem spec_SeedOf (w : World) (n : Int) (_hn : I64 n) : Calls Tryd.prog 7 #[.int .i64 n] w fun e w' => e = .returned (.string (seedOf n)) ∧ Below w.heap.size w w' := by
  cases hi : inB n 0 2
  · have HS : Hid (seedOf n = ⟨#[]⟩) := Lib.hid (by unfold seedOf; rw [hi]; rfl)
    go_enter Tryd.func7, Tryd.ntmps7
    go_wp2_with (go_at_call 34; refine (spec_in _ _ _ _).mono ?_; rintro e w2 ⟨rfl, rfl⟩)
    go_ret
    exact ⟨by rw [HS.out]; rfl, Below.refl _ _⟩
  · have HS : Hid (seedOf n = ⟨#[104, 111, 117, 115, 101]⟩ ++ figT n.toNat) := Lib.hid (by unfold seedOf; rw [hi]; rfl)
    have hb : n = 0 ∨ n = 1 ∨ n = 2 := by simp [inB] at hi; omega
    have hD : ∀ W, Calls Tryd.prog 35 #[.int .i64 n] W fun e w' => e = .returned (.string (figT n.toNat)) ∧ Below W.heap.size W w' := fun W => by
      rcases hb with rfl | rfl | rfl
      · exact spec_Decimal0 W
      · exact spec_Decimal1 W
      · exact spec_Decimal2 W
    have hsz : (figT n.toNat).size = 1 := rfl
    obtain ⟨f, hf⟩ : ∃ f, figT n.toNat = f := ⟨_, rfl⟩
    rw [hf] at HS hD hsz
    clear hf hb
    go_enter Tryd.func7, Tryd.ntmps7
    go_wp2_with (go_at_call 34; refine (spec_in _ _ _ _).mono ?_; rintro e w2 ⟨rfl, rfl⟩)
    refine (hD _).mono ?_
    rintro e0 w1 ⟨rfl, hb⟩
    have hc : ¬ 9223372036854775807 < (⟨#[104, 111, 117, 115, 101]⟩ : ByteArray).size + f.size := by rw [hsz]; decide
    go_wp2
    go_ret
    exact ⟨by rw [HS.out]; rfl, hb⟩
end Go.Proofs.YtbnfkpbaaoknmaaDoor
