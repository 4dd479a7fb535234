/- Walks: are two lists of entries the same. -/
import Derived.Test.YtaoefbkfccnenaaNm
import Derived.Test.YtaoefbkfccnenaaFd
import Derived.BigQuiet
set_option linter.unusedVariables false
set_option linter.unusedSimpArgs false
namespace Go.Proofs.Ytaoefbkfccnenaa
open Go.RowKit Lay Mk
theorem leaf_ext {a b : Leaf} (h1 : a.name = b.name) (h2 : a.value = b.value) : a = b := by cases a; cases b; simp_all
instance leafDec : DecidableEq Leaf := fun a b => if h : a.name = b.name ∧ a.value = b.value then isTrue (leaf_ext h.1 h.2) else isFalse (fun e => h (by rw [e]; exact ⟨rfl, rfl⟩))
theorem same_len {xs ys : List Leaf} (h : xs.length ≠ ys.length) : decide (xs = ys) = false := by
  rw [decide_eq_false_iff_not]; rintro rfl; exact h rfl
theorem same_bad {xs ys : List Leaf} {k : Nat} (h : k < xs.length) (h2 : k < ys.length) (hp : xs[k] ≠ ys[k]) : decide (xs = ys) = false := by
  rw [decide_eq_false_iff_not]; rintro rfl; exact hp rfl
theorem same_end {xs ys : List Leaf} (hl : xs.length = ys.length) (h : ∀ j (h : j < xs.length) (h2 : j < ys.length), xs[j] = ys[j]) : decide (xs = ys) = true := by
  rw [decide_eq_true_iff]; exact List.ext_getElem hl h
set_option maxRecDepth 20000 in set_option maxHeartbeats 4000000 in
theorem impl_sameLeaves (w : World) (xs : List Leaf) (A : Option Addr) (cap : Nat) (S : Blks) (hx : Row false w A cap xs S) (ys : List Leaf) (A2 : Option Addr) (cap2 : Nat) (S2 : Blks) (hy : Row false w A2 cap2 ys S2) (hl : xs.length ≤ 4000000000) : Calls Try.prog 21 #[.slice A xs.length cap, .slice A2 ys.length cap2] w fun e w' => e = .returned (.bool (decide (xs = ys))) ∧ Below w.heap.size w w' := by
  by_cases hlen : xs.length = ys.length
  rotate_left
  · have HF := Lib.hid (same_len hlen)
    have hn : ((xs.length : Int) != (ys.length : Int)) = true := by rw [bne_iff_ne]; omega
    clear hlen
    go_enter Try.func21, Try.ntmps21
    go_wp2
    go_ret
    exact ⟨ret_bool (by rw [HF.out]), Below.refl _ _⟩
  have HE := Lib.hid (same_end (xs := xs) (ys := ys) hlen)
  have HBd := Lib.hid (fun k h h2 => same_bad (xs := xs) (ys := ys) (k := k) h h2)
  obtain ⟨L, hL⟩ : ∃ L, ys.length = L := ⟨_, rfl⟩
  rw [hL]
  have HL := Lib.hid (hlen.trans hL); have HL2 := Lib.hid hL
  have hxl : xs.length = L := hlen.trans hL
  rw [hxl] at hl ⊢
  clear hlen hL hxl
  go_enter Try.func21, Try.ntmps21
  go_wp2
  go_loopw [13] (fun i wr => ∃ k : Nat, k ≤ L ∧ i = .int .i64 k ∧ Hid (∀ j (h : j < xs.length) (h2 : j < ys.length), j < k → xs[j] = ys[j]) ∧ Below w.heap.size w wr) (fun i _ => L - (intOf i).toNat)
  case atStart => exact ⟨0, Nat.zero_le _, rfl, Lib.hid (fun j _ _ h => absurd h (by omega)), Below.refl _ _⟩
  case round =>
    obtain ⟨k, hk, rfl, HS, hB⟩ := hrel
    have hz := hB.size
    by_cases hlt : k < L
    · have hkx : k < xs.length := by rw [HL.out]; exact hlt
      have hky : k < ys.length := by rw [HL2.out]; exact hlt
      obtain ⟨b1, o1, rfl, hl1, f0, f1, -, -⟩ := Row.atLeaf hx hkx
      obtain ⟨b2, o2, rfl, hl2, g0, g1, -, -⟩ := Row.atLeaf hy hky
      replace f0 := (hB.cell (p := ⟨b1, o1 + k * 2, none⟩) hl1).trans f0
      replace f1 := (hB.cell (p := ⟨b1, o1 + k * 2 + 1, none⟩) hl1).trans f1
      replace g0 := (hB.cell (p := ⟨b2, o2 + k * 2, none⟩) hl2).trans g0
      replace g1 := (hB.cell (p := ⟨b2, o2 + k * 2 + 1, none⟩) hl2).trans g1
      have HB := Lib.hid (HBd.out k hkx hky)
      have HN : Hid (xs[k] = ys[k] → ∀ j (h : j < xs.length) (h2 : j < ys.length), j < k + 1 → xs[j] = ys[j]) := Lib.hid (fun h0 j h h2 hj => by rcases Nat.lt_succ_iff_lt_or_eq.1 hj with h1 | h1; exact HS.out j h h2 h1; subst h1; exact h0)
      obtain ⟨x, hxx⟩ : ∃ x, xs[k] = x := ⟨_, rfl⟩
      obtain ⟨y, hyy⟩ : ∃ y, ys[k] = y := ⟨_, rfl⟩
      rw [hxx] at f0 f1 HB HN
      rw [hyy] at g0 g1 HB HN
      clear hxx hyy hkx hky
      obtain ⟨xn, xv⟩ := x
      obtain ⟨yn, yv⟩ := y
      dsimp only at f0 f1 g0 g1
      by_cases h1 : xn = yn
      · by_cases h2 : xv = yv
        · subst h1 h2
          have HF := Lib.hid (HN.out rfl)
          go_wp2
          go_quiet (fail)
          go_wp2
          go_roundw
          case rel => exact ⟨k + 1, by omega, by go_num, HF, Below.drewN hB _⟩
          case measure => simp [intOf]; omega
        · subst h1
          have HF := Lib.hid (HB.out (by intro e; injection e with e1 e2; exact h2 e2))
          have hte : (xv.toList = yv.toList) = (xv = yv) := by apply propext; exact ⟨toList_inj, fun h => by rw [h]⟩
          go_wp2
          go_quiet (fail)
          go_wp2
          go_ret
          exact ⟨ret_bool (by rw [HF.out]), Below.drewN hB _⟩
      · have HF := Lib.hid (HB.out (by intro e; injection e with e1 e2; exact h1 e1))
        have hte : (xn.toList = yn.toList) = (xn = yn) := by apply propext; exact ⟨toList_inj, fun h => by rw [h]⟩
        go_wp2
        go_quiet (fail)
        go_wp2
        go_ret
        exact ⟨ret_bool (by rw [HF.out]), Below.drewN hB _⟩
    · have hke : k = L := by omega
      subst hke
      have HF := Lib.hid (HE.out (fun j h h2 => HS.out j h h2 (by rw [← HL.out]; exact h)))
      go_wp2
      go_ret
      exact ⟨ret_bool (by rw [HF.out]), hB⟩
set_option maxRecDepth 20000 in set_option maxHeartbeats 4000000 in
theorem spec_sameLeaves (w : World) (xs : List Leaf) (A : Option Addr) (cap : Nat) (S : Blks) (hx : Row false w A cap xs S) (ys : List Leaf) (A2 : Option Addr) (cap2 : Nat) (S2 : Blks) (hy : Row false w A2 cap2 ys S2) (hl : xs.length ≤ 4000000000) : Calls Try.prog 14 #[.slice A xs.length cap, .slice A2 ys.length cap2] w fun e w' => e = .returned (.bool (decide (xs = ys))) ∧ Below w.heap.size w w' := by
  by_cases hlen : xs.length = ys.length
  rotate_left
  · have HF := Lib.hid (same_len hlen)
    have hn : ((xs.length : Int) != (ys.length : Int)) = true := by rw [bne_iff_ne]; omega
    clear hlen
    go_enter Try.func14, Try.ntmps14
    go_wp2
    go_ret
    exact ⟨ret_bool (by rw [HF.out]), Below.refl _ _⟩
  have HE := Lib.hid (same_end (xs := xs) (ys := ys) hlen)
  have HBd := Lib.hid (fun k h h2 => same_bad (xs := xs) (ys := ys) (k := k) h h2)
  obtain ⟨L, hL⟩ : ∃ L, ys.length = L := ⟨_, rfl⟩
  rw [hL]
  have HL := Lib.hid (hlen.trans hL); have HL2 := Lib.hid hL
  have hxl : xs.length = L := hlen.trans hL
  rw [hxl] at hl ⊢
  clear hlen hL hxl
  go_enter Try.func14, Try.ntmps14
  go_wp2
  go_loopw [5] (fun i wr => ∃ k : Nat, k ≤ L ∧ i = .int .i64 k ∧ Hid (∀ j (h : j < xs.length) (h2 : j < ys.length), j < k → xs[j] = ys[j]) ∧ Below w.heap.size w wr) (fun i _ => L - (intOf i).toNat)
  case atStart => exact ⟨0, Nat.zero_le _, rfl, Lib.hid (fun j _ _ h => absurd h (by omega)), Below.refl _ _⟩
  case round =>
    obtain ⟨k, hk, rfl, HS, hB⟩ := hrel
    have hz := hB.size
    by_cases hlt : k < L
    · have hkx : k < xs.length := by rw [HL.out]; exact hlt
      have hky : k < ys.length := by rw [HL2.out]; exact hlt
      obtain ⟨b1, o1, rfl, hl1, f0, f1, -, -⟩ := Row.atLeaf hx hkx
      obtain ⟨b2, o2, rfl, hl2, g0, g1, -, -⟩ := Row.atLeaf hy hky
      replace f0 := (hB.cell (p := ⟨b1, o1 + k * 2, none⟩) hl1).trans f0
      replace f1 := (hB.cell (p := ⟨b1, o1 + k * 2 + 1, none⟩) hl1).trans f1
      replace g0 := (hB.cell (p := ⟨b2, o2 + k * 2, none⟩) hl2).trans g0
      replace g1 := (hB.cell (p := ⟨b2, o2 + k * 2 + 1, none⟩) hl2).trans g1
      have HB := Lib.hid (HBd.out k hkx hky)
      have HN : Hid (xs[k] = ys[k] → ∀ j (h : j < xs.length) (h2 : j < ys.length), j < k + 1 → xs[j] = ys[j]) := Lib.hid (fun h0 j h h2 hj => by rcases Nat.lt_succ_iff_lt_or_eq.1 hj with h1 | h1; exact HS.out j h h2 h1; subst h1; exact h0)
      obtain ⟨x, hxx⟩ : ∃ x, xs[k] = x := ⟨_, rfl⟩
      obtain ⟨y, hyy⟩ : ∃ y, ys[k] = y := ⟨_, rfl⟩
      rw [hxx] at f0 f1 HB HN
      rw [hyy] at g0 g1 HB HN
      clear hxx hyy hkx hky
      obtain ⟨xn, xv⟩ := x
      obtain ⟨yn, yv⟩ := y
      dsimp only at f0 f1 g0 g1
      by_cases h1 : xn = yn
      · by_cases h2 : xv = yv
        · subst h1 h2
          have HF := Lib.hid (HN.out rfl)
          go_wp2
          go_quiet (fail)
          go_wp2
          go_roundw
          case rel => exact ⟨k + 1, by omega, by go_num, HF, Below.drewN hB _⟩
          case measure => simp [intOf]; omega
        · subst h1
          have HF := Lib.hid (HB.out (by intro e; injection e with e1 e2; exact h2 e2))
          have hte : (xv.toList = yv.toList) = (xv = yv) := by apply propext; exact ⟨toList_inj, fun h => by rw [h]⟩
          go_wp2
          go_quiet (fail)
          go_wp2
          go_ret
          exact ⟨ret_bool (by rw [HF.out]), Below.drewN hB _⟩
      · have HF := Lib.hid (HB.out (by intro e; injection e with e1 e2; exact h1 e1))
        have hte : (xn.toList = yn.toList) = (xn = yn) := by apply propext; exact ⟨toList_inj, fun h => by rw [h]⟩
        go_wp2
        go_quiet (fail)
        go_wp2
        go_ret
        exact ⟨ret_bool (by rw [HF.out]), Below.drewN hB _⟩
    · have hke : k = L := by omega
      subst hke
      have HF := Lib.hid (HE.out (fun j h h2 => HS.out j h h2 (by rw [← HL.out]; exact h)))
      go_wp2
      go_ret
      exact ⟨ret_bool (by rw [HF.out]), hB⟩
end Go.Proofs.Ytaoefbkfccnenaa
