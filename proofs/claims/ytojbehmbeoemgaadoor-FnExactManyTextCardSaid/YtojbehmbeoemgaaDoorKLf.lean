/- Walks: entries. -/
import Derived.Test.YtojbehmbeoemgaaDoorKNm
import Derived.Test.YtojbehmbeoemgaaDoorB2


import Derived.Sort.Walk0
set_option linter.unusedVariables false
set_option linter.unusedSimpArgs false
namespace Go.Proofs.YtojbehmbeoemgaaDoor
open Go.RowKit Lay Mk
def bLess (a b : ByteArray) : Bool := Op.bytesLess a.toList b.toList
def prevLess (xs : List Leaf) (k : Nat) (x : Leaf) : Bool := match k with | 0 => true | j + 1 => match xs[j]? with | some y => bLess y.name x.name | none => false
def leafP (xs : List Leaf) (k : Nat) : Bool := match xs[k]? with | none => false | some x => nameOk x.name && valueOk x.value && prevLess xs k x
def leavesOk (xs : List Leaf) : Bool := allN xs.length (leafP xs) && decide (xs.length ≤ 24)
theorem leafP_at {xs : List Leaf} {k : Nat} (h : k < xs.length) : leafP xs k = (nameOk xs[k].name && valueOk xs[k].value && prevLess xs k xs[k]) := by unfold leafP; rw [List.getElem?_eq_getElem h]
theorem prevLess_succ {xs : List Leaf} {k : Nat} (h : k + 1 < xs.length) (x : Leaf) : prevLess xs (k + 1) x = bLess xs[k].name x.name := by simp only [prevLess]; rw [List.getElem?_eq_getElem (by omega)]
theorem leavesOk_bad {xs : List Leaf} {k : Nat} (h : k < xs.length) (hp : leafP xs k = false) : leavesOk xs = false := by unfold leavesOk; rw [allN_bad h hp]; rfl
theorem leavesOk_long {xs : List Leaf} (h : 24 < xs.length) : leavesOk xs = false := by unfold leavesOk; rw [decide_eq_false (by omega)]; simp
theorem leavesOk_end {xs : List Leaf} (h : ∀ k, k < xs.length → leafP xs k = true) : leavesOk xs = decide (xs.length ≤ 24) := by unfold leavesOk; rw [allN_end h]; rfl

set_option maxRecDepth 20000 in set_option maxHeartbeats 8000000 in
theorem impl_LeavesOk (w : World) (xs : List Leaf) (A : Option Addr) (cap : Nat) (S : Blks) (hx : Row false w A cap xs S) (hl : xs.length ≤ 4000000000) : Calls Tryd.prog 67 #[.slice A xs.length cap] w fun e w' => e = .returned (.bool (leavesOk xs)) ∧ Below w.heap.size w w' := by
  go_enter Tryd.func67, Tryd.ntmps67
  go_wp2
  go_loopw [7] (fun i wr => ∃ k : Nat, k ≤ xs.length ∧ i = .int .i64 k ∧ Hid (∀ j, j < k → leafP xs j = true) ∧ k ≤ 24 ∧ Below w.heap.size w wr) (fun i _ => xs.length - (intOf i).toNat)
  case atStart => exact ⟨0, Nat.zero_le _, rfl, Lib.hid upto_zero, by omega, Below.refl _ _⟩
  case round =>
    obtain ⟨k, hk, rfl, hall, hk24, hb⟩ := hrel
    have hz := hb.size
    by_cases hlt : k < xs.length
    · obtain ⟨b1, o1, rfl, hl1, f0, f1, s0, s1⟩ := Row.atLeaf hx hlt
      replace f0 := (hb.cell (p := ⟨b1, o1 + k * 2, none⟩) hl1).trans f0
      replace f1 := (hb.cell (p := ⟨b1, o1 + k * 2 + 1, none⟩) hl1).trans f1
      have hl2 : b1 < wr.heap.size := by omega
      have HP := Lib.hid (leafP_at hlt)
      have HB := Lib.hid (leavesOk_bad hlt)
      have HN := Lib.hid (upto_succ (p := leafP xs) hall.out)
      obtain ⟨x, hxx⟩ : ∃ x, xs[k] = x := ⟨_, rfl⟩
      rw [hxx] at f0 f1 s0 s1 HP
      have HX := Lib.hid hxx; clear hxx
      have hBl : Below w.heap.size w (wr.alloc (.cells #[.string x.name, .string x.value] 110)) := hb.alloc hz _
      by_cases h24 : 24 ≤ k
      · have HL := Lib.hid (leavesOk_long (show 24 < xs.length by omega))
        have d24 : decide ((24 : Int) ≤ (k : Int)) = true := by simp; omega
        go_wp2
        go_quiet (fail)
        go_wp2
        go_ret
        exact ⟨ret_bool (by rw [HL.out]), Below.drewN hBl _⟩
      have d24 : decide ((24 : Int) ≤ (k : Int)) = false := by simp; omega
      cases hn : nameOk x.name
      · have HF : Hid (leavesOk xs = false) := Lib.hid (HB.out (by rw [HP.out, hn]; rfl))
        go_wp2
        go_quiet ((first | (go_at_call 123; exact quiet_w (impl_NameOk _ _ s0)) | (go_at_call 124; exact quiet_w (impl_ValueOk _ _ s1))))
        go_wp2
        go_ret
        exact ⟨ret_bool (by rw [HF.out]), Below.drewN hBl _⟩
      cases hv : valueOk x.value
      · have HF : Hid (leavesOk xs = false) := Lib.hid (HB.out (by rw [HP.out, hn, hv]; rfl))
        go_wp2
        go_quiet ((first | (go_at_call 123; exact quiet_w (impl_NameOk _ _ s0)) | (go_at_call 124; exact quiet_w (impl_ValueOk _ _ s1))))
        go_wp2
        go_ret
        exact ⟨ret_bool (by rw [HF.out]), Below.drewN hBl _⟩
      rcases Nat.eq_zero_or_pos k with h0 | h0
      · subst h0
        simp only [Nat.zero_mul, Nat.add_zero] at f0 f1
        have d0 : decide ((0 : Int) < ((0 : Nat) : Int)) = false := rfl
        have d1 : decide ((0 : Int) < 0) = false := rfl
        · have HF : Hid (∀ q, q < 0 + 1 → leafP xs q = true) := Lib.hid (by exact HN.out (by rw [HP.out, hn, hv]; rfl))
          go_wp2
          go_quiet ((first | (go_at_call 123; exact quiet_w (impl_NameOk _ _ s0)) | (go_at_call 124; exact quiet_w (impl_ValueOk _ _ s1))))
          go_wp2
          go_roundw
          case rel => exact ⟨0 + 1, by omega, by go_num, HF, by omega, Below.drewN hBl _⟩
          case measure => simp [intOf]; omega
      obtain ⟨j, rfl⟩ : ∃ j, k = j + 1 := ⟨k - 1, by omega⟩
      have HPL := Lib.hid (prevLess_succ hlt x)
      obtain ⟨b3, o3, e3, _, g0, _, t0, _⟩ := Row.atLeaf hx (show j < xs.length by omega)
      injection e3 with e3
      injection e3 with e3 e4
      subst e3; subst e4
      replace g0 := (hb.cell (p := ⟨b1, o1 + j * 2, none⟩) hl1).trans g0
      obtain ⟨y, hyy⟩ : ∃ y, xs[j].name = y := ⟨_, rfl⟩
      rw [hyy] at g0 HPL
      have HY := Lib.hid hyy; clear hyy t0
      have d24b : decide ((24 : Int) ≤ (j : Int) + 1) = false := by rw [decide_eq_false_iff_not]; omega
      have d2 : decide ((0 : Int) < (j : Int) + 1) = true := by rw [decide_eq_true_eq]; omega
      cases hp : Op.bytesLess y.toList x.name.toList
      · have HF : Hid (leavesOk xs = false) := Lib.hid (HB.out (by rw [HP.out, hn, hv, HPL.out, show bLess y x.name = false from hp]; rfl))
        go_wp2
        go_quiet ((first | (go_at_call 123; exact quiet_w (impl_NameOk _ _ s0)) | (go_at_call 124; exact quiet_w (impl_ValueOk _ _ s1))))
        go_wp2
        go_ret
        exact ⟨ret_bool (by rw [HF.out]), Below.drewN hBl _⟩
      · have HF : Hid (∀ q, q < j + 1 + 1 → leafP xs q = true) := Lib.hid (by exact HN.out (by rw [HP.out, hn, hv, HPL.out, show bLess y x.name = true from hp]; rfl))
        go_wp2
        go_quiet ((first | (go_at_call 123; exact quiet_w (impl_NameOk _ _ s0)) | (go_at_call 124; exact quiet_w (impl_ValueOk _ _ s1))))
        go_wp2
        go_roundw
        case rel => exact ⟨j + 1 + 1, by omega, by go_num, HF, by omega, Below.drewN hBl _⟩
        case measure => simp [intOf]; omega
    · have hke : k = xs.length := by omega
      subst hke
      have HE := Lib.hid (leavesOk_end hall.out)
      have HD : Hid (decide (xs.length ≤ 24) = true) := Lib.hid (by simpa using hk24)
      go_wp2
      go_ret
      exact ⟨ret_bool (by rw [HE.out, HD.out]), hb⟩
set_option maxRecDepth 20000 in set_option maxHeartbeats 8000000 in
theorem spec_LeavesOk (w : World) (xs : List Leaf) (A : Option Addr) (cap : Nat) (S : Blks) (hx : Row false w A cap xs S) (hl : xs.length ≤ 4000000000) : Calls Tryd.prog 74 #[.slice A xs.length cap] w fun e w' => e = .returned (.bool (leavesOk xs)) ∧ Below w.heap.size w w' := by
  go_enter Tryd.func74, Tryd.ntmps74
  go_wp2
  go_loopw [3] (fun i wr => ∃ k : Nat, k ≤ xs.length ∧ i = .int .i64 k ∧ Hid (∀ j, j < k → leafP xs j = true) ∧ Below w.heap.size w wr) (fun i _ => xs.length - (intOf i).toNat)
  case atStart => exact ⟨0, Nat.zero_le _, rfl, Lib.hid upto_zero, Below.refl _ _⟩
  case round =>
    obtain ⟨k, hk, rfl, hall, hb⟩ := hrel
    have hz := hb.size
    by_cases hlt : k < xs.length
    · obtain ⟨b1, o1, rfl, hl1, f0, f1, s0, s1⟩ := Row.atLeaf hx hlt
      replace f0 := (hb.cell (p := ⟨b1, o1 + k * 2, none⟩) hl1).trans f0
      replace f1 := (hb.cell (p := ⟨b1, o1 + k * 2 + 1, none⟩) hl1).trans f1
      have hl2 : b1 < wr.heap.size := by omega
      have HP := Lib.hid (leafP_at hlt)
      have HB := Lib.hid (leavesOk_bad hlt)
      have HN := Lib.hid (upto_succ (p := leafP xs) hall.out)
      obtain ⟨x, hxx⟩ : ∃ x, xs[k] = x := ⟨_, rfl⟩
      rw [hxx] at f0 f1 s0 s1 HP
      have HX := Lib.hid hxx; clear hxx
      have hBl := hb
      cases hn : nameOk x.name
      · have HF : Hid (leavesOk xs = false) := Lib.hid (HB.out (by rw [HP.out, hn]; rfl))
        go_wp2
        go_quiet ((first | (go_at_call 75; exact quiet_w (spec_NameOk _ _ s0)) | (go_at_call 129; exact quiet_w (spec_ValueOk _ _ s1))))
        go_wp2
        go_ret
        exact ⟨ret_bool (by rw [HF.out]), Below.drewN hBl _⟩
      cases hv : valueOk x.value
      · have HF : Hid (leavesOk xs = false) := Lib.hid (HB.out (by rw [HP.out, hn, hv]; rfl))
        go_wp2
        go_quiet ((first | (go_at_call 75; exact quiet_w (spec_NameOk _ _ s0)) | (go_at_call 129; exact quiet_w (spec_ValueOk _ _ s1))))
        go_wp2
        go_ret
        exact ⟨ret_bool (by rw [HF.out]), Below.drewN hBl _⟩
      rcases Nat.eq_zero_or_pos k with h0 | h0
      · subst h0
        simp only [Nat.zero_mul, Nat.add_zero] at f0 f1
        have d0 : decide ((0 : Int) < ((0 : Nat) : Int)) = false := rfl
        have d1 : decide ((0 : Int) < 0) = false := rfl
        · have HF : Hid (∀ q, q < 0 + 1 → leafP xs q = true) := Lib.hid (by exact HN.out (by rw [HP.out, hn, hv]; rfl))
          go_wp2
          go_quiet ((first | (go_at_call 75; exact quiet_w (spec_NameOk _ _ s0)) | (go_at_call 129; exact quiet_w (spec_ValueOk _ _ s1))))
          go_wp2
          go_roundw
          case rel => exact ⟨0 + 1, by omega, by go_num, HF, Below.drewN hBl _⟩
          case measure => simp [intOf]; omega
      obtain ⟨j, rfl⟩ : ∃ j, k = j + 1 := ⟨k - 1, by omega⟩
      have HPL := Lib.hid (prevLess_succ hlt x)
      obtain ⟨b3, o3, e3, _, g0, _, t0, _⟩ := Row.atLeaf hx (show j < xs.length by omega)
      injection e3 with e3
      injection e3 with e3 e4
      subst e3; subst e4
      replace g0 := (hb.cell (p := ⟨b1, o1 + j * 2, none⟩) hl1).trans g0
      obtain ⟨y, hyy⟩ : ∃ y, xs[j].name = y := ⟨_, rfl⟩
      rw [hyy] at g0 HPL
      have HY := Lib.hid hyy; clear hyy t0
      have d2 : decide ((0 : Int) < (j : Int) + 1) = true := by rw [decide_eq_true_eq]; omega
      cases hp : Op.bytesLess y.toList x.name.toList
      · have HF : Hid (leavesOk xs = false) := Lib.hid (HB.out (by rw [HP.out, hn, hv, HPL.out, show bLess y x.name = false from hp]; rfl))
        go_wp2
        go_quiet ((first | (go_at_call 75; exact quiet_w (spec_NameOk _ _ s0)) | (go_at_call 129; exact quiet_w (spec_ValueOk _ _ s1))))
        go_wp2
        go_ret
        exact ⟨ret_bool (by rw [HF.out]), Below.drewN hBl _⟩
      · have HF : Hid (∀ q, q < j + 1 + 1 → leafP xs q = true) := Lib.hid (by exact HN.out (by rw [HP.out, hn, hv, HPL.out, show bLess y x.name = true from hp]; rfl))
        go_wp2
        go_quiet ((first | (go_at_call 75; exact quiet_w (spec_NameOk _ _ s0)) | (go_at_call 129; exact quiet_w (spec_ValueOk _ _ s1))))
        go_wp2
        go_roundw
        case rel => exact ⟨j + 1 + 1, by omega, by go_num, HF, Below.drewN hBl _⟩
        case measure => simp [intOf]; omega
    · have hke : k = xs.length := by omega
      subst hke
      have HE := Lib.hid (leavesOk_end hall.out)
      go_wp2
      go_ret
      exact ⟨ret_bool (by rw [HE.out]; first | rfl | (congr 1; simp; done) | (apply decide_eq_decide.2; omega)), hb⟩
end Go.Proofs.YtojbehmbeoemgaaDoor
