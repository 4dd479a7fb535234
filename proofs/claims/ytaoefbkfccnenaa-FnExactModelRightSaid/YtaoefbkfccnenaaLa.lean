/- Walks: dropping an entry; changes applied. -/
import Derived.Test.YtaoefbkfccnenaaLq
set_option linter.unusedVariables false
set_option linter.unusedSimpArgs false
namespace Go.Proofs.Ytaoefbkfccnenaa
open Go.RowKit Lay Mk

set_option maxRecDepth 20000 in set_option maxHeartbeats 8000000 in
theorem impl_LeafDrop (w : World) (xs : List Leaf) (A0 : Option Addr) (cap0 : Nat) (S : Blks) (hx : Row false w A0 cap0 xs S) (hl : xs.length ≤ 100000000) (nm : ByteArray) (hn : nm.size ≤ maxLen) : Calls Try.prog 53 #[.slice A0 xs.length cap0, .string nm] w fun e w' => ∃ A' cap', e = .returned (.tuple #[.slice A' (leafDrop xs nm).1.length cap', .bool (leafDrop xs nm).2]) ∧ (leafDrop xs nm).1.length ≤ cap' ∧ cap' ≤ maxLen ∧ Row true w' A' cap' (leafDrop xs nm).1 (rng w.heap.size w'.heap.size) ∧ Below w.heap.size w w' := by
  go_enter Try.func53, Try.ntmps53
  go_wp2_with (fail)
  refine (impl_LeafGet _ xs A0 cap0 S hx (by omega) nm hn).mono ?_
  rintro e1 w1 ⟨rfl, hB⟩
  cases hg : (leafGet xs nm).2
  · have HF : Hid (leafDrop xs nm = (xs, false)) := Lib.hid (by simp [leafDrop, hg])
    go_wp2_with (fail)
    refine (impl_copyLeaves _ xs A0 cap0 S (Row.later hx hB) (by omega)).mono ?_
    rintro e5 w5 ⟨A', cap', rfl, h1, h2, h3, hb5⟩
    go_wp2
    go_ret2
    exact ⟨A', cap', ret_sliceb (by rw [HF.out]) (by rw [HF.out]), by rw [HF.out]; exact h1, h2, by rw [HF.out]; exact h3.mono (rngS hB.size (Nat.le_refl _)), Below.step hB hb5⟩
  go_wp2_with (fail)
  refine (impl_LeavesOk _ xs A0 cap0 S (Row.later hx hB) (by omega)).mono ?_
  rintro e2 w2 ⟨rfl, hb2⟩
  replace hB := Below.step hB hb2
  cases ho : leavesOk xs
  · have HF : Hid (leafDrop xs nm = (xs, false)) := Lib.hid (by simp [leafDrop, ho])
    go_wp2_with (fail)
    refine (impl_copyLeaves _ xs A0 cap0 S (Row.later hx hB) (by omega)).mono ?_
    rintro e5 w5 ⟨A', cap', rfl, h1, h2, h3, hb5⟩
    go_wp2
    go_ret2
    exact ⟨A', cap', ret_sliceb (by rw [HF.out]) (by rw [HF.out]), by rw [HF.out]; exact h1, h2, by rw [HF.out]; exact h3.mono (rngS hB.size (Nat.le_refl _)), Below.step hB hb5⟩
  have HF : Hid (leafDrop xs nm = (leafWithout xs nm, true)) := Lib.hid (by simp [leafDrop, ho, hg])
  have hx2 := Row.later hx hB
  clear hg ho
  go_wp2
  go_loopw [8, 28] (fun u i wr => ∃ (k : Nat) (ys : List Leaf) (A : Option Addr) (cap : Nat), k ≤ xs.length ∧ i = .int .i64 k ∧ u = .slice A ys.length cap ∧ Hid (ys = [] ++ foldT (gath (nameNe nm) id) [] xs k) ∧ ys.length ≤ 0 + k ∧ ys.length ≤ cap ∧ cap ≤ maxLen ∧ Row true wr A cap ys (nw w2.heap.size) ∧ Chg (nw w2.heap.size) w2 wr) (fun _ i _ => xs.length - (intOf i).toNat)
  case atStart => exact ⟨0, [], none, 0, Nat.zero_le _, rfl, rfl, Lib.hid (by simp [foldT]), by simp, by simp, by decide, row_nil _ _, Chg.refl _ _⟩
  case round =>
    obtain ⟨k, ys, A, cap, hk, rfl, rfl, hys, hyk, hle, hcm2, hrow, hch⟩ := hrel
    have hz := hch.size
    by_cases hlt : k < xs.length
    · obtain ⟨b1, o1, e1, hl1, hS1, c0, c1, t0, t1⟩ := Row.inLeaf hx2 hlt
      subst e1
      have hnO : ¬ (nw w2.heap.size) b1 := (fun h => by unfold nw at h; omega)
      replace c0 := (hch.cell (o := o1 + k * 2) hl1 hnO).trans c0
      replace c1 := (hch.cell (o := o1 + k * 2 + 1) hl1 hnO).trans c1
      have hl2 : b1 < wr.heap.size := Nat.lt_of_lt_of_le hl1 hz
      have hN := Lib.hid (gathT_no (p := (nameNe nm)) (g := id) hlt)
      have hY := Lib.hid (gathT_yes (p := (nameNe nm)) (g := id) hlt)
      obtain ⟨x, hxx⟩ : ∃ x, xs[k] = x := ⟨_, rfl⟩
      rw [hxx] at c0 c1 t0 t1 hN hY
      clear hxx
      have hok : Flat.ok x := (⟨t0, t1⟩ : x.name.size ≤ maxLen ∧ x.value.size ≤ maxLen)
      have hz2 : w2.heap.size ≤ ((wr.alloc (.cells #[.string x.name, .string x.value] 80)).alloc (.cells #[.string x.name, .string x.value] 80)).heap.size := by simp; omega
      by_cases hc : (nameNe nm) x = true
      · have HY := Lib.hid (hY.out hc)
        have hsb : (x.name.toList == nm.toList) = false := str_ne (by simpa [nameNe] using hc)
        clear hc
        go_wp2_with (at_builtin; refine wpList_app (α := Leaf) rfl _ _ rfl rfl rfl ((hrow.allocC _).allocC _) hle hcm2 rfl rfl (src_newb _ x hok _ _ _ (by first | rfl | simp) rfl) (disj_none_ _) (by omega) ?_; intro A' cap' w' h1 h2 h3 h4)
        go_roundw
        case rel => exact ⟨k + 1, ys ++ [x], A', cap', by omega, by go_num, by simp, Lib.hid (by rw [HY.out, hys.out]; simp), by have := hyk; simp only [List.length_append, List.length_cons, List.length_nil] at this ⊢; omega, by simpa using h1, h2, row_og h3 (fun b hb => (fun _ h => h) b (Nat.le_trans hz2 hb)), ((hch.alloc _).alloc _).trans h4⟩
        case measure => simp [intOf]; omega
      · have hc : (nameNe nm) x = false := by simpa using hc
        have HN := Lib.hid (hN.out hc)
        have hsb : (x.name.toList == nm.toList) = true := str_eq (by simpa [nameNe] using hc)
        clear hc
        go_wp2
        go_roundw
        case rel => exact ⟨k + 1, ys, A, cap, by omega, by go_num, rfl, Lib.hid (by rw [HN.out, hys.out]), by omega, hle, hcm2, hrow.allocC _, hch.alloc _⟩
        case measure => simp [intOf]; omega
    · have hke : k = xs.length := by omega
      subst hke
      have hyy : ys = leafWithout xs nm := by rw [hys.out, without_all]; rfl
      subst hyy
      go_wp2
      go_ret2
      have hb3 : Below w2.heap.size w2 wr := hch.to_below (Nat.le_refl _) (fun b h => h)
      exact ⟨A, cap, ret_sliceb (by rw [HF.out]) (by rw [HF.out]), by rw [HF.out]; exact hle, hcm2, by rw [HF.out]; exact (to_rng hrow).mono (rngS hB.size (Nat.le_refl _)), Below.step hB hb3⟩

set_option maxRecDepth 20000 in set_option maxHeartbeats 8000000 in
theorem spec_LeafDrop (w : World) (xs : List Leaf) (A0 : Option Addr) (cap0 : Nat) (S : Blks) (hx : Row false w A0 cap0 xs S) (hl : xs.length ≤ 100000000) (nm : ByteArray) (hn : nm.size ≤ maxLen) : Calls Try.prog 46 #[.slice A0 xs.length cap0, .string nm] w fun e w' => ∃ A' cap', e = .returned (.tuple #[.slice A' (leafDrop xs nm).1.length cap', .bool (leafDrop xs nm).2]) ∧ (leafDrop xs nm).1.length ≤ cap' ∧ cap' ≤ maxLen ∧ Row true w' A' cap' (leafDrop xs nm).1 (rng w.heap.size w'.heap.size) ∧ Below w.heap.size w w' := by
  go_enter Try.func46, Try.ntmps46
  go_wp2_with (fail)
  refine (spec_LeafGet _ xs A0 cap0 S hx (by omega) nm hn).mono ?_
  rintro e1 w1 ⟨rfl, hB⟩
  go_wp2_with (fail)
  refine (spec_LeavesOk _ xs A0 cap0 S (Row.later hx hB) (by omega)).mono ?_
  rintro e2 w2 ⟨rfl, hb2⟩
  replace hB := Below.step hB hb2
  cases ho : leavesOk xs
  · have HF : Hid (leafDrop xs nm = (xs, false)) := Lib.hid (by simp [leafDrop, ho])
    go_wp2_with (at_builtin; refine wpList_app (α := Leaf) rfl _ _ rfl rfl rfl (row_lit0b _ _ _ (nw w.heap.size) (by first | rfl | simp) rfl hB.size) (by simp) (by decide) rfl rfl (Src.flat2 (Row.allocC (Row.later hx hB) _)) (disj_none_ _) (by simp; omega) ?_; intro A' cap' w' h1 h2 h3 h4)
    go_ret2
    have hzb := hB.size
    exact ⟨A', cap', ret_sliceb (by rw [HF.out] <;> simp) (by rw [HF.out]), by rw [HF.out]; simpa using h1, h2, by rw [HF.out]; simpa using row_up h3 (B := w.heap.size) (fun b h => h) (fun b h => h.elim) (by simp; omega), (hB.alloc hzb _).trans (h4.to_below (by simp; omega) (fun b h => h))⟩
  cases hg : (leafGet xs nm).2
  · have HF : Hid (leafDrop xs nm = (xs, false)) := Lib.hid (by simp [leafDrop, hg])
    go_wp2_with (at_builtin; refine wpList_app (α := Leaf) rfl _ _ rfl rfl rfl (row_lit0b _ _ _ (nw w.heap.size) (by first | rfl | simp) rfl hB.size) (by simp) (by decide) rfl rfl (Src.flat2 (Row.allocC (Row.later hx hB) _)) (disj_none_ _) (by simp; omega) ?_; intro A' cap' w' h1 h2 h3 h4)
    go_ret2
    have hzb := hB.size
    exact ⟨A', cap', ret_sliceb (by rw [HF.out] <;> simp) (by rw [HF.out]), by rw [HF.out]; simpa using h1, h2, by rw [HF.out]; simpa using row_up h3 (B := w.heap.size) (fun b h => h) (fun b h => h.elim) (by simp; omega), (hB.alloc hzb _).trans (h4.to_below (by simp; omega) (fun b h => h))⟩
  have HF : Hid (leafDrop xs nm = (leafWithout xs nm, true)) := Lib.hid (by simp [leafDrop, ho, hg])
  clear hb2
  go_wp2_with (fail)
  refine (spec_l09Without _ xs A0 cap0 S (Row.later hx hB) (by omega) nm hn).mono ?_
  rintro e5 w5 ⟨A', cap', rfl, h1, h2, h3, hb5⟩
  go_wp2
  go_ret2
  exact ⟨A', cap', ret_sliceb (by rw [HF.out]) (by rw [HF.out]), by rw [HF.out]; exact h1, h2, by rw [HF.out]; exact h3.mono (rngS hB.size (Nat.le_refl _)), Below.step hB hb5⟩

set_option maxRecDepth 20000 in set_option maxHeartbeats 4000000 in
theorem impl_ApplyChange0 (w : World) (xs : List Leaf) (A0 : Option Addr) (cap0 : Nat) (S : Blks) (hx : Row false w A0 cap0 xs S) (hl : xs.length ≤ 100000000) (u : Change) (cu : List Value) (Su : Blks) (hu : rd false w cu u Su) : Calls Try.prog 37 #[.slice A0 xs.length cap0, .agg cu.toArray] w fun e w' => ∃ A' cap', e = .returned (.slice A' (applyChange xs u).length cap') ∧ (applyChange xs u).length ≤ cap' ∧ cap' ≤ maxLen ∧ Row true w' A' cap' (applyChange xs u) (rng w.heap.size w'.heap.size) ∧ Below w.heap.size w w' := by
  obtain ⟨rfl, f0, f1, f2⟩ := Change.open hu
  clear hu
  obtain ⟨i, n, v⟩ := u
  simp only [Change.cs]
  simp only at f0 f1 f2
  by_cases he : v = ⟨#[]⟩
  · have HF : Hid (applyChange xs ⟨i, n, v⟩ = (leafDrop xs n).1) := Lib.hid (by simp [applyChange, he])
    have hsb : v.toList.isEmpty = true := by subst he; rw [ByteArray.toList_eq]; rfl
    clear he
    go_enter Try.func37, Try.ntmps37
    go_wp2_with (fail)
    refine (impl_LeafDrop _ xs A0 cap0 S (Row.later hx ((Below.refl _ _).alloc (Nat.le_refl _) _)) (by omega) n f1).mono ?_
    rintro e1 w1 ⟨A', cap', rfl, h1, h2, h3, hb1⟩
    have hB : Below w.heap.size w w1 := Below.via hb1
    go_wp2
    go_ret
    exact ⟨A', cap', ret_slice (by rw [HF.out]), by rw [HF.out]; exact h1, h2, by rw [HF.out]; exact h3.mono (rngS (by simp) (Nat.le_refl _)), hB⟩
  · have HF : Hid (applyChange xs ⟨i, n, v⟩ = (leafPut xs n v).1) := Lib.hid (by simp [applyChange, he])
    have hsb : v.toList.isEmpty = false := by
      cases hv : v.toList with
      | nil => exact absurd (toList_inj (a := v) (b := ⟨#[]⟩) (by rw [hv, ByteArray.toList_eq])) he
      | cons _ _ => rfl
    clear he
    go_enter Try.func37, Try.ntmps37
    go_wp2_with (fail)
    refine (impl_LeafPut _ xs A0 cap0 S (Row.later hx ((Below.refl _ _).alloc (Nat.le_refl _) _)) (by omega) n f1 v f2).mono ?_
    rintro e1 w1 ⟨A', cap', rfl, h1, h2, h3, hb1⟩
    have hB : Below w.heap.size w w1 := Below.via hb1
    go_wp2
    go_ret
    exact ⟨A', cap', ret_slice (by rw [HF.out]), by rw [HF.out]; exact h1, h2, by rw [HF.out]; exact h3.mono (rngS (by simp) (Nat.le_refl _)), hB⟩
theorem impl_ApplyChange (w : World) (xs : List Leaf) (A0 : Option Addr) (cap0 : Nat) (S : Blks) (hx : Row false w A0 cap0 xs S) (_ : xs.length ≤ cap0) (_ : cap0 ≤ maxLen) (hz : szL xs ≤ 1048576) (u : Change) (cu : List Value) (Su : Blks) (hu : rd false w cu u Su) (_ : u.sz ≤ 1048576) : Calls Try.prog 37 #[.slice A0 xs.length cap0, .agg cu.toArray] w fun e w' => ∃ A' cap', e = .returned (.slice A' (applyChange xs u).length cap') ∧ (applyChange xs u).length ≤ cap' ∧ cap' ≤ maxLen ∧ Row true w' A' cap' (applyChange xs u) (rng w.heap.size w'.heap.size) ∧ Below w.heap.size w w' :=
  impl_ApplyChange0 w xs A0 cap0 S hx (by have := szT_le xs 0; omega) u cu Su hu

set_option maxRecDepth 20000 in set_option maxHeartbeats 4000000 in
theorem spec_ApplyChange0 (w : World) (xs : List Leaf) (A0 : Option Addr) (cap0 : Nat) (S : Blks) (hx : Row false w A0 cap0 xs S) (hl : xs.length ≤ 100000000) (u : Change) (cu : List Value) (Su : Blks) (hu : rd false w cu u Su) : Calls Try.prog 31 #[.slice A0 xs.length cap0, .agg cu.toArray] w fun e w' => ∃ A' cap', e = .returned (.slice A' (applyChange xs u).length cap') ∧ (applyChange xs u).length ≤ cap' ∧ cap' ≤ maxLen ∧ Row true w' A' cap' (applyChange xs u) (rng w.heap.size w'.heap.size) ∧ Below w.heap.size w w' := by
  obtain ⟨rfl, f0, f1, f2⟩ := Change.open hu
  clear hu
  obtain ⟨i, n, v⟩ := u
  simp only [Change.cs]
  simp only at f0 f1 f2
  by_cases he : v = ⟨#[]⟩
  · have HF : Hid (applyChange xs ⟨i, n, v⟩ = (leafDrop xs n).1) := Lib.hid (by simp [applyChange, he])
    have hsb : v.toList.isEmpty = true := by subst he; rw [ByteArray.toList_eq]; rfl
    clear he
    go_enter Try.func31, Try.ntmps31
    go_wp2_with (fail)
    refine (spec_LeafDrop _ xs A0 cap0 S (Row.later hx ((Below.refl _ _).alloc (Nat.le_refl _) _)) (by omega) n f1).mono ?_
    rintro e1 w1 ⟨A', cap', rfl, h1, h2, h3, hb1⟩
    have hB : Below w.heap.size w w1 := Below.via hb1
    go_wp2
    go_ret
    exact ⟨A', cap', ret_slice (by rw [HF.out]), by rw [HF.out]; exact h1, h2, by rw [HF.out]; exact h3.mono (rngS (by simp) (Nat.le_refl _)), hB⟩
  · have HF : Hid (applyChange xs ⟨i, n, v⟩ = (leafPut xs n v).1) := Lib.hid (by simp [applyChange, he])
    have hsb : v.toList.isEmpty = false := by
      cases hv : v.toList with
      | nil => exact absurd (toList_inj (a := v) (b := ⟨#[]⟩) (by rw [hv, ByteArray.toList_eq])) he
      | cons _ _ => rfl
    clear he
    go_enter Try.func31, Try.ntmps31
    go_wp2_with (fail)
    refine (spec_LeafPut _ xs A0 cap0 S (Row.later hx ((Below.refl _ _).alloc (Nat.le_refl _) _)) (by omega) n f1 v f2).mono ?_
    rintro e1 w1 ⟨A', cap', rfl, h1, h2, h3, hb1⟩
    have hB : Below w.heap.size w w1 := Below.via hb1
    go_wp2
    go_ret
    exact ⟨A', cap', ret_slice (by rw [HF.out]), by rw [HF.out]; exact h1, h2, by rw [HF.out]; exact h3.mono (rngS (by simp) (Nat.le_refl _)), hB⟩
theorem spec_ApplyChange (w : World) (xs : List Leaf) (A0 : Option Addr) (cap0 : Nat) (S : Blks) (hx : Row false w A0 cap0 xs S) (_ : xs.length ≤ cap0) (_ : cap0 ≤ maxLen) (hz : szL xs ≤ 1048576) (u : Change) (cu : List Value) (Su : Blks) (hu : rd false w cu u Su) (_ : u.sz ≤ 1048576) : Calls Try.prog 31 #[.slice A0 xs.length cap0, .agg cu.toArray] w fun e w' => ∃ A' cap', e = .returned (.slice A' (applyChange xs u).length cap') ∧ (applyChange xs u).length ≤ cap' ∧ cap' ≤ maxLen ∧ Row true w' A' cap' (applyChange xs u) (rng w.heap.size w'.heap.size) ∧ Below w.heap.size w w' :=
  spec_ApplyChange0 w xs A0 cap0 S hx (by have := szT_le xs 0; omega) u cu Su hu

theorem cnL_leaf : ∀ xs : List Leaf, cnL xs = 2 * xs.length
  | [] => rfl
  | x :: xs => by have := cnL_leaf xs; simp only [cnL, List.map_cons, List.sum_cons, List.length_cons] at *; show 2 + _ = _; omega
theorem cnb_applyChange (xs : List Leaf) (u : Change) (hz : szL xs ≤ 1048576) (_ : u.sz ≤ 1048576) : cnL (applyChange xs u) ≤ 1000000000000 := by
  rw [cnL_leaf]
  have := applyChange_len xs u (B := 1048576) (by have := szT_le xs 0; omega) (by omega)
  omega
theorem cnb_applyAll (xs : List Leaf) (us : List Change) (hz : szL xs ≤ 1048576) (_ : szL us ≤ 1048576) : cnL (applyAll xs us) ≤ 1000000000000 := by
  rw [cnL_leaf]
  have := applyAll_len us xs (B := 1048576) (by have := szT_le xs 0; omega) (by omega)
  omega
theorem applyT_len (us : List Change) (xs : List Leaf) (k : Nat) {B : Nat} (h : xs.length ≤ B) (hB : 24 ≤ B) : (foldT applyChange xs us k).length ≤ B := applyAll_len (us.take k) xs h hB
theorem applyT_all (us : List Change) (xs : List Leaf) : foldT applyChange xs us us.length = applyAll xs us := foldT_all _ _ _

set_option maxRecDepth 20000 in set_option maxHeartbeats 8000000 in
theorem impl_ApplyAll (w : World) (xs : List Leaf) (A0 : Option Addr) (cap0 : Nat) (S : Blks) (hx : Row false w A0 cap0 xs S) (_ : xs.length ≤ cap0) (_ : cap0 ≤ maxLen) (hz : szL xs ≤ 1048576) (us : List Change) (Au : Option Addr) (capu : Nat) (Su : Blks) (hu : Row false w Au capu us Su) (_ : us.length ≤ capu) (_ : capu ≤ maxLen) (hzu : szL us ≤ 1048576) : Calls Try.prog 22 #[.slice A0 xs.length cap0, .slice Au us.length capu] w fun e w' => ∃ A' cap', e = .returned (.slice A' (applyAll xs us).length cap') ∧ (applyAll xs us).length ≤ cap' ∧ cap' ≤ maxLen ∧ Row true w' A' cap' (applyAll xs us) (rng w.heap.size w'.heap.size) ∧ Below w.heap.size w w' := by
  have hl : xs.length ≤ 1048576 := by have := szT_le xs 0; omega
  have hlu : us.length ≤ 1048576 := by have := szT_le us 0; omega
  have HE := Lib.hid (applyT_all us xs)
  go_enter Try.func22, Try.ntmps22
  go_wp2_with (fail)
  refine (impl_copyLeaves _ xs A0 cap0 S hx (by omega)).mono ?_
  rintro e1 w1 ⟨A1, cap1, rfl, g1, g2, g3, hB1⟩
  go_wp2
  go_loopw [5, 12] (fun u i wr => ∃ (k : Nat) (ys : List Leaf) (A : Option Addr) (cap : Nat), k ≤ us.length ∧ i = .int .i64 k ∧ u = .slice A ys.length cap ∧ Hid (ys = foldT applyChange xs us k) ∧ ys.length ≤ 1048576 ∧ ys.length ≤ cap ∧ cap ≤ maxLen ∧ Row true wr A cap ys (rng w.heap.size wr.heap.size) ∧ Below w.heap.size w wr) (fun _ i _ => us.length - (intOf i).toNat)
  case atStart => exact ⟨0, xs, A1, cap1, Nat.zero_le _, rfl, rfl, Lib.hid rfl, hl, g1, g2, g3, hB1⟩
  case round =>
    obtain ⟨k, ys, A, cap, hk, rfl, rfl, hys, hyl, hle, hcm2, hrow, hb⟩ := hrel
    have hz0 := hb.size
    by_cases hlt : k < us.length
    · obtain ⟨b1, o1, e1, hl1, c0, c1, c2, t0, t1, t2⟩ := Row.atChange hu hlt
      subst e1
      replace c0 := (hb.cell (p := ⟨b1, o1 + k * 3, none⟩) hl1).trans c0
      replace c1 := (hb.cell (p := ⟨b1, o1 + k * 3 + 1, none⟩) hl1).trans c1
      replace c2 := (hb.cell (p := ⟨b1, o1 + k * 3 + 2, none⟩) hl1).trans c2
      have hl2 : b1 < wr.heap.size := Nat.lt_of_lt_of_le hl1 hz0
      have hF := Lib.hid (foldT_succ (f := applyChange) (s := xs) hlt)
      have hLn := applyT_len us xs (k + 1) hl (by omega)
      obtain ⟨s, hss⟩ : ∃ s, us[k] = s := ⟨_, rfl⟩
      rw [hss] at c0 c1 c2 t0 t1 t2 hF
      clear hss
      have HN : Hid (foldT applyChange xs us (k + 1) = applyChange ys s) := Lib.hid (by rw [hF.out, ← hys.out])
      rw [HN.out] at hLn
      clear hF
      go_wp2_with (fail)
      refine (impl_ApplyChange0 _ ys A cap _ (Row.weak (hrow.allocC _)) (by omega) s (Change.cs s) (fun _ => False) (Change.mk' t0 t1 t2)).mono ?_
      rintro e2 w2 ⟨A', cap', rfl, h1, h2, h3, hb2⟩
      have hb3 : Below wr.heap.size wr w2 := Below.via hb2
      have hB2 : Below w.heap.size w w2 := Below.step hb hb3
      go_wp2
      go_roundw
      case rel => exact ⟨k + 1, applyChange ys s, A', cap', by omega, by go_num, rfl, Lib.hid (by rw [HN.out]), hLn, h1, h2, h3.mono (rngS (by simp; omega) (Nat.le_refl _)), hB2⟩
      case measure => simp [intOf]; omega
    · have hke : k = us.length := by omega
      subst hke
      have hyy : ys = applyAll xs us := by rw [hys.out, HE.out]
      subst hyy
      go_wp2
      go_ret
      exact ⟨A, cap, rfl, hle, hcm2, hrow, hb⟩

set_option maxRecDepth 20000 in set_option maxHeartbeats 8000000 in
theorem spec_ApplyAll (w : World) (xs : List Leaf) (A0 : Option Addr) (cap0 : Nat) (S : Blks) (hx : Row false w A0 cap0 xs S) (_ : xs.length ≤ cap0) (_ : cap0 ≤ maxLen) (hz : szL xs ≤ 1048576) (us : List Change) (Au : Option Addr) (capu : Nat) (Su : Blks) (hu : Row false w Au capu us Su) (_ : us.length ≤ capu) (_ : capu ≤ maxLen) (hzu : szL us ≤ 1048576) : Calls Try.prog 15 #[.slice A0 xs.length cap0, .slice Au us.length capu] w fun e w' => ∃ A' cap', e = .returned (.slice A' (applyAll xs us).length cap') ∧ (applyAll xs us).length ≤ cap' ∧ cap' ≤ maxLen ∧ Row true w' A' cap' (applyAll xs us) (rng w.heap.size w'.heap.size) ∧ Below w.heap.size w w' := by
  have hl : xs.length ≤ 1048576 := by have := szT_le xs 0; omega
  have hlu : us.length ≤ 1048576 := by have := szT_le us 0; omega
  have HE := Lib.hid (applyT_all us xs)
  go_enter Try.func15, Try.ntmps15
  go_wp2_with (at_builtin; refine wpList_app (α := Leaf) rfl _ _ rfl rfl rfl (row_lit0b _ _ _ (nw w.heap.size) (by first | rfl | simp) rfl (Nat.le_refl _)) (by simp) (by decide) rfl rfl (Src.flat2 (Row.allocC hx _)) (disj_none_ _) (by simp; omega) ?_; intro A1 cap1 w1 g1 g2 g3 g4)
  have hB1 : Below w.heap.size w w1 := ((Below.refl _ _).alloc (Nat.le_refl _) _).trans (g4.to_below (by simp) (fun b h => h))
  replace g3 := row_up g3 (B := w.heap.size) (fun b h => h) (fun b h => h.elim) (by simp)
  simp only [List.nil_append] at g3
  simp only [Nat.zero_add] at g1 ⊢
  go_loopw [5, 6] (fun u i wr => ∃ (k : Nat) (ys : List Leaf) (A : Option Addr) (cap : Nat), k ≤ us.length ∧ i = .int .i64 k ∧ u = .slice A ys.length cap ∧ Hid (ys = foldT applyChange xs us k) ∧ ys.length ≤ 1048576 ∧ ys.length ≤ cap ∧ cap ≤ maxLen ∧ Row true wr A cap ys (rng w.heap.size wr.heap.size) ∧ Below w.heap.size w wr) (fun _ i _ => us.length - (intOf i).toNat)
  case atStart => exact ⟨0, xs, A1, cap1, Nat.zero_le _, rfl, rfl, Lib.hid rfl, hl, g1, g2, g3, hB1⟩
  case round =>
    obtain ⟨k, ys, A, cap, hk, rfl, rfl, hys, hyl, hle, hcm2, hrow, hb⟩ := hrel
    have hz0 := hb.size
    by_cases hlt : k < us.length
    · obtain ⟨b1, o1, e1, hl1, c0, c1, c2, t0, t1, t2⟩ := Row.atChange hu hlt
      subst e1
      replace c0 := (hb.cell (p := ⟨b1, o1 + k * 3, none⟩) hl1).trans c0
      replace c1 := (hb.cell (p := ⟨b1, o1 + k * 3 + 1, none⟩) hl1).trans c1
      replace c2 := (hb.cell (p := ⟨b1, o1 + k * 3 + 2, none⟩) hl1).trans c2
      have hl2 : b1 < wr.heap.size := Nat.lt_of_lt_of_le hl1 hz0
      have hF := Lib.hid (foldT_succ (f := applyChange) (s := xs) hlt)
      have hLn := applyT_len us xs (k + 1) hl (by omega)
      obtain ⟨s, hss⟩ : ∃ s, us[k] = s := ⟨_, rfl⟩
      rw [hss] at c0 c1 c2 t0 t1 t2 hF
      clear hss
      have HN : Hid (foldT applyChange xs us (k + 1) = applyChange ys s) := Lib.hid (by rw [hF.out, ← hys.out])
      rw [HN.out] at hLn
      clear hF
      go_wp2_with (fail)
      refine (spec_ApplyChange0 _ ys A cap _ (Row.weak hrow) (by omega) s (Change.cs s) (fun _ => False) (Change.mk' t0 t1 t2)).mono ?_
      rintro e2 w2 ⟨A', cap', rfl, h1, h2, h3, hb2⟩
      have hb3 : Below wr.heap.size wr w2 := hb2
      have hB2 : Below w.heap.size w w2 := Below.step hb hb3
      go_wp2
      go_roundw
      case rel => exact ⟨k + 1, applyChange ys s, A', cap', by omega, by go_num, rfl, Lib.hid (by rw [HN.out]), hLn, h1, h2, h3.mono (rngS (by omega) (Nat.le_refl _)), hB2⟩
      case measure => simp [intOf]; omega
    · have hke : k = us.length := by omega
      subst hke
      have hyy : ys = applyAll xs us := by rw [hys.out, HE.out]
      subst hyy
      go_wp2
      go_ret
      exact ⟨A, cap, rfl, hle, hcm2, hrow, hb⟩

end Go.Proofs.Ytaoefbkfccnenaa
