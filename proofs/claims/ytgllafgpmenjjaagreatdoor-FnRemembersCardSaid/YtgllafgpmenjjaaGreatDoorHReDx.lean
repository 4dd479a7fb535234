/- A part of the proof: what the laws need of it. -/
import Derived.Test.YtgllafgpmenjjaaGreatDoorHReL14xDg
import Derived.Test.YtgllafgpmenjjaaGreatDoorHReDs
import Derived.Test.YtgllafgpmenjjaaGreatDoorHReL6xInf
set_option linter.unusedVariables false
set_option linter.unusedSimpArgs false
set_option linter.unusedVariables false
set_option linter.unusedSimpArgs false
namespace Go.Proofs.YtgllafgpmenjjaaGreatDoor
open Go.RowKit Lay Mk
def cutDigest (t : ByteArray) (n : Int) : ByteArray := if 1 ≤ n ∧ n ≤ 32 then (digest t).extract 0 n.toNat else ⟨#[]⟩
def indexOf (t : ByteArray) : Nat := ((digest t)[0]'(by rw [digest_size]; omega)).toNat
theorem indexOf_lt (t : ByteArray) : indexOf t < 256 := (((digest t)[0]'(by rw [digest_size]; omega))).toNat_lt
theorem cutDigest_size {t : ByteArray} {n : Int} (h : 1 ≤ n ∧ n ≤ 32) : (cutDigest t n).size = n.toNat := by
  unfold cutDigest; rw [if_pos h, ByteArray.size_extract, digest_size]; omega
theorem cutDigest_le (t : ByteArray) (n : Int) : (cutDigest t n).size ≤ 32 := by
  by_cases h : 1 ≤ n ∧ n ≤ 32
  · rw [cutDigest_size h]; omega
  · unfold cutDigest; rw [if_neg h]; decide
theorem cut_yes {t : ByteArray} {n : Int} (h1 : 1 ≤ n) (h2 : n ≤ 32) : cutDigest t n = (digest t).extract 0 n.toNat := by unfold cutDigest; rw [if_pos ⟨h1, h2⟩]
theorem cut_no {t : ByteArray} {n : Int} (h : ¬ (1 ≤ n ∧ n ≤ 32)) : cutDigest t n = ⟨#[]⟩ := by unfold cutDigest; rw [if_neg h]
theorem inB_yes {n lo hi : Int} (h1 : lo ≤ n) (h2 : n ≤ hi) : inB n lo hi = true := by simp [inB, h1, h2]
theorem inB_no {n lo hi : Int} (h : ¬ (lo ≤ n ∧ n ≤ hi)) : inB n lo hi = false := by simp [inB]; omega

theorem impl_isWide (n : Int) (w : World) : Calls Tryz.prog 181 #[.int .i64 n] w fun e w' => e = .returned (.bool (inB n 1 32)) ∧ w = w' := by
  go_enter Tryz.func181, Tryz.ntmps181
  go_wp2_with (go_at_call 98; refine (impl_in _ _ _ _).mono ?_; rintro e w' ⟨rfl, rfl⟩)
  go_ret
  exact ⟨rfl, rfl⟩
set_option maxRecDepth 20000 in
theorem impl_CutDigest (w : World) (t : ByteArray) (ht : t.size ≤ 100000000) (n : Int) (_hn : I64 n) (hT : Tabs w) : Calls Tryz.prog 147 #[.string t, .int .i64 n] w fun e w' => e = .returned (.string (cutDigest t n)) ∧ Below w.heap.size w w' := by
  by_cases h : 1 ≤ n ∧ n ≤ 32
  · obtain ⟨h1, h2⟩ := h
    have HC := Lib.hid (cut_yes (t := t) h1 h2)
    have hi := inB_yes h1 h2
    have hds := Lib.hid (digest_size t)
    go_enter Tryz.func147, Tryz.ntmps147
    go_wp2_with (go_at_call 181; refine (impl_isWide _ _).mono ?_; rintro e w' ⟨rfl, rfl⟩)
    go_wp2_with (fail)
    refine (impl_Digest _ t ht hT).mono ?_
    rintro e1 w1 ⟨rfl, hb⟩
    obtain ⟨d, hd⟩ : ∃ d, digest t = d := ⟨_, rfl⟩
    rw [hd] at HC hds ⊢
    clear hd
    have hn32 : n ≤ (d.size : Int) := by rw [hds.out]; exact h2
    have hn0 : 0 ≤ n := by omega
    go_wp2
    go_ret
    exact ⟨by rw [HC.out]; rfl, hb⟩
  · have HC := Lib.hid (cut_no (t := t) h)
    have hi := inB_no h
    clear h
    go_enter Tryz.func147, Tryz.ntmps147
    go_wp2_with (go_at_call 181; refine (impl_isWide _ _).mono ?_; rintro e w' ⟨rfl, rfl⟩)
    go_ret
    exact ⟨by rw [HC.out]; rfl, Below.refl _ _⟩
set_option maxRecDepth 20000 in
theorem impl_IndexOf (w : World) (t : ByteArray) (ht : t.size ≤ 100000000) (hT : Tabs w) : Calls Tryz.prog 97 #[.string t] w fun e w' => e = .returned (.int .i64 (indexOf t)) ∧ Below w.heap.size w w' := by
  have hds := digest_size t
  have HI : Hid (∀ h, (indexOf t : Int) = ((digest t)[0]'h).toNat) := Lib.hid (fun _ => rfl)
  go_enter Tryz.func97, Tryz.ntmps97
  go_wp2_with (fail)
  refine (impl_Digest _ t ht hT).mono ?_
  rintro e1 w1 ⟨rfl, hb⟩
  go_wp2
  go_ret
  exact ⟨by rw [HI.out (by rw [hds]; omega)]; exact ret_int (IntWalk.wrap64_in _ (by have := ((digest t)[0]'(by rw [hds]; omega)).toNat_lt; omega)), hb⟩
set_option maxRecDepth 20000 in
theorem spec_CutDigest (w : World) (t : ByteArray) (ht : t.size ≤ 100000000) (n : Int) (_hn : I64 n) : Calls Tryz.prog 137 #[.string t, .int .i64 n] w fun e w' => e = .returned (.string (cutDigest t n)) ∧ Below w.heap.size w w' := by
  by_cases h : 1 ≤ n ∧ n ≤ 32
  · obtain ⟨h1, h2⟩ := h
    have HC := Lib.hid (cut_yes (t := t) h1 h2)
    have hi := inB_yes h1 h2
    have hds := Lib.hid (digest_size t)
    go_enter Tryz.func137, Tryz.ntmps137
    go_wp2_with (go_at_call 87; refine (spec_in _ _ _ _).mono ?_; rintro e w' ⟨rfl, rfl⟩)
    go_wp2_with (fail)
    refine (spec_Digest _ t ht).mono ?_
    rintro e1 w1 ⟨rfl, hb⟩
    obtain ⟨d, hd⟩ : ∃ d, digest t = d := ⟨_, rfl⟩
    rw [hd] at HC hds ⊢
    clear hd
    have hn32 : n ≤ (d.size : Int) := by rw [hds.out]; exact h2
    have hn0 : 0 ≤ n := by omega
    go_wp2
    go_ret
    exact ⟨by rw [HC.out]; rfl, hb⟩
  · have HC := Lib.hid (cut_no (t := t) h)
    have hi := inB_no h
    clear h
    go_enter Tryz.func137, Tryz.ntmps137
    go_wp2_with (go_at_call 87; refine (spec_in _ _ _ _).mono ?_; rintro e w' ⟨rfl, rfl⟩)
    go_ret
    exact ⟨by rw [HC.out]; rfl, Below.refl _ _⟩
set_option maxRecDepth 20000 in
theorem spec_IndexOf (w : World) (t : ByteArray) (ht : t.size ≤ 100000000) : Calls Tryz.prog 86 #[.string t] w fun e w' => e = .returned (.int .i64 (indexOf t)) ∧ Below w.heap.size w w' := by
  have hds := digest_size t
  have HI : Hid (∀ h, (indexOf t : Int) = ((digest t)[0]'h).toNat) := Lib.hid (fun _ => rfl)
  go_enter Tryz.func86, Tryz.ntmps86
  go_wp2_with (fail)
  refine (spec_Digest _ t ht).mono ?_
  rintro e1 w1 ⟨rfl, hb⟩
  go_wp2
  go_ret
  exact ⟨by rw [HI.out (by rw [hds]; omega)]; exact ret_int (IntWalk.wrap64_in _ (by have := ((digest t)[0]'(by rw [hds]; omega)).toNat_lt; omega)), hb⟩
end Go.Proofs.YtgllafgpmenjjaaGreatDoor
