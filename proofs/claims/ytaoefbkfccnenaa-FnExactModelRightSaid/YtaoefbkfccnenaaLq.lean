/- Walks: entries: putting in, dropping; changes applied. -/
import Derived.Test.YtaoefbkfccnenaaLp
set_option linter.unusedVariables false
set_option linter.unusedSimpArgs false
namespace Go.Proofs.Ytaoefbkfccnenaa
open Go.RowKit Lay Mk
theorem og_ge {g n b B : Nat} (h : og g n b) (h1 : B ≤ g) (h2 : B ≤ n) : B ≤ b := by unfold og at h; omega
theorem og_row {α : Type} [Lay α] {w : World} {A : Option Addr} {cap : Nat} {xs : List α} {g n B : Nat} (h : Row true w A cap xs (og g n)) (h1 : B ≤ g) (h2 : B ≤ n) : Row true w A cap xs (rng B w.heap.size) := h.tight.mono (fun _ x => ⟨og_ge x.1 h1 h2, x.2⟩)
theorem putS_t {n v : ByteArray} {ys : List Leaf} {l : Leaf} (h : ¬ l.name = n) : putS n v (ys, true) l = (ys ++ [l], true) := by simp [putS, h]
theorem putS_te {n v : ByteArray} {ys : List Leaf} {l : Leaf} (h : l.name = n) : putS n v (ys, true) l = (ys, true) := by simp [putS, h]
theorem putS_l {n v : ByteArray} {ys : List Leaf} {l : Leaf} (hb : bLess l.name n = true) (h : ¬ l.name = n) : putS n v (ys, false) l = (ys ++ [l], false) := by simp [putS, h, hb]
theorem putS_le {n v : ByteArray} {ys : List Leaf} {l : Leaf} (hb : bLess l.name n = true) (h : l.name = n) : putS n v (ys, false) l = (ys, false) := by simp [putS, h] at *; simp [hb]
theorem putS_g {n v : ByteArray} {ys : List Leaf} {l : Leaf} (hb : bLess l.name n = false) (h : ¬ l.name = n) : putS n v (ys, false) l = (ys ++ [⟨n, v⟩] ++ [l], true) := by simp [putS, h, hb]
theorem putS_ge {n v : ByteArray} {ys : List Leaf} {l : Leaf} (hb : bLess l.name n = false) (h : l.name = n) : putS n v (ys, false) l = (ys ++ [⟨n, v⟩], true) := by simp [putS, h] at *; simp [hb]

set_option maxRecDepth 20000 in set_option maxHeartbeats 16000000 in
theorem spec_LeafPut (w : World) (xs : List Leaf) (A0 : Option Addr) (cap0 : Nat) (S : Blks) (hx : Row false w A0 cap0 xs S) (hl : xs.length ≤ 100000000) (nm : ByteArray) (hn : nm.size ≤ maxLen) (v : ByteArray) (hv : v.size ≤ maxLen) : Calls Try.prog 47 #[.slice A0 xs.length cap0, .string nm, .string v] w fun e w' => ∃ A' cap', e = .returned (.tuple #[.slice A' (leafPut xs nm v).1.length cap', .bool (leafPut xs nm v).2]) ∧ (leafPut xs nm v).1.length ≤ cap' ∧ cap' ≤ maxLen ∧ Row true w' A' cap' (leafPut xs nm v).1 (rng w.heap.size w'.heap.size) ∧ Below w.heap.size w w' := by
  have hWo := fun W h => spec_l09Without W xs A0 cap0 S h (by omega) nm hn
  have HP : Hid (putSpec xs nm v = (leafWithout xs nm).filter (ltB nm) ++ [⟨nm, v⟩] ++ (leafWithout xs nm).filter (gtB nm)) := Lib.hid rfl
  have hrl : (leafWithout xs nm).length ≤ xs.length := List.length_filter_le _ _
  obtain ⟨rest, hrest⟩ : ∃ r, leafWithout xs nm = r := ⟨_, rfl⟩
  rw [hrest] at HP hrl
  simp only [hrest] at hWo
  clear hrest
  have hokn : Flat.ok (⟨nm, v⟩ : Leaf) := (⟨hn, hv⟩ : nm.size ≤ maxLen ∧ v.size ≤ maxLen)
  go_enter Try.func47, Try.ntmps47
  go_wp2_with (fail)
  refine (hWo _ (Row.later hx ((Below.refl _ _).alloc (Nat.le_refl _) _))).mono ?_
  rintro e1 w1 ⟨Ar, cr, rfl, hr1, hr2, hrr, hb1⟩
  clear hWo
  have hB1 : Below w.heap.size w w1 := Below.via hb1
  have hz1 : w.heap.size + 1 ≤ w1.heap.size := by have := hb1.size; simp at this; omega
  replace hrr := hrr.mono (S' := rng (w.heap.size + 1) w1.heap.size) (fun b h => by unfold rng at h ⊢; simp at h; omega)
  have hR0 : Hid (Row (α := Leaf) true w1 (some ⟨w.heap.size, 0, none⟩) 0 [] (og w.heap.size w1.heap.size)) := Lib.hid (Row.later (row_lit0 w 80 _ rfl (.inl rfl)) hb1)
  clear hb1
  go_wp2
  go_loopw [8, 10] (fun u i wr => ∃ (k : Nat) (ys : List Leaf) (A : Option Addr) (cap : Nat), k ≤ rest.length ∧ i = .int .i64 k ∧ u = .slice A ys.length cap ∧ Hid (ys = [] ++ foldT (gath (ltB nm) id) [] rest k) ∧ ys.length ≤ 0 + k ∧ ys.length ≤ cap ∧ cap ≤ maxLen ∧ Row true wr A cap ys (og w.heap.size w1.heap.size) ∧ Chg (og w.heap.size w1.heap.size) w1 wr) (fun _ i _ => rest.length - (intOf i).toNat)
  case atStart => exact ⟨0, [], _, _, Nat.zero_le _, rfl, rfl, Lib.hid (by simp [foldT]), by simp, by simp, by decide, hR0.out, Chg.refl _ _⟩
  case round =>
    obtain ⟨k, ys, A, cap, hk, rfl, rfl, hys, hyk, hle, hcm2, hrow, hch⟩ := hrel
    have hz := hch.size
    by_cases hlt : k < rest.length
    · obtain ⟨b1, o1, e1, hl1, hS1, c0, c1, t0, t1⟩ := Row.inLeaf hrr hlt
      subst e1
      have hnO : ¬ (og w.heap.size w1.heap.size) b1 := (fun h => by unfold og at h; unfold rng at hS1; omega)
      replace c0 := (hch.cell (o := o1 + k * 2) hl1 hnO).trans c0
      replace c1 := (hch.cell (o := o1 + k * 2 + 1) hl1 hnO).trans c1
      have hl2 : b1 < wr.heap.size := Nat.lt_of_lt_of_le hl1 hz
      have hN := Lib.hid (gathT_no (p := (ltB nm)) (g := id) hlt)
      have hY := Lib.hid (gathT_yes (p := (ltB nm)) (g := id) hlt)
      obtain ⟨x, hxx⟩ : ∃ x, rest[k] = x := ⟨_, rfl⟩
      rw [hxx] at c0 c1 t0 t1 hN hY
      clear hxx
      have hok : Flat.ok x := (⟨t0, t1⟩ : x.name.size ≤ maxLen ∧ x.value.size ≤ maxLen)
      have hz2 : w1.heap.size ≤ (wr.alloc (.cells #[.string x.name, .string x.value] 80)).heap.size := by simp; omega
      by_cases hc : (ltB nm) x = true
      · have HY := Lib.hid (hY.out hc)
        have hd : Op.bytesLess x.name.toList nm.toList = true := hc
        clear hc
        go_wp2_with (at_builtin; refine wpList_app (α := Leaf) rfl _ _ rfl rfl rfl (hrow.allocC _) hle hcm2 rfl rfl (src_newb _ x hok _ _ _ (by first | rfl | simp) rfl) (disj_none_ _) (by omega) ?_; intro A' cap' w' h1 h2 h3 h4)
        go_roundw
        case rel => exact ⟨k + 1, ys ++ [x], A', cap', by omega, by go_num, by simp, Lib.hid (by rw [HY.out, hys.out]; simp), by have := hyk; simp only [List.length_append, List.length_cons, List.length_nil] at this ⊢; omega, by simpa using h1, h2, row_og h3 (fun b hb => (show ∀ q, w1.heap.size ≤ q → og w.heap.size w1.heap.size q from fun _ h => Or.inr h) b (Nat.le_trans hz2 hb)), (hch.alloc _).trans h4⟩
        case measure => simp [intOf]; omega
      · have hc : (ltB nm) x = false := by simpa using hc
        have HN := Lib.hid (hN.out hc)
        have hd : Op.bytesLess x.name.toList nm.toList = false := hc
        clear hc
        go_wp2
        go_roundw
        case rel => exact ⟨k + 1, ys, A, cap, by omega, by go_num, rfl, Lib.hid (by rw [HN.out, hys.out]), by omega, hle, hcm2, hrow, hch⟩
        case measure => simp [intOf]; omega
    · have hke : k = rest.length := by omega
      subst hke
      have hyy : ys = rest.filter (ltB nm) := by rw [hys.out, foldT_all, gath_fold]; simp
      subst hyy
      go_wp2_with (at_builtin; refine wpList_app (α := Leaf) rfl _ _ rfl rfl rfl (hrow.allocC _) hle hcm2 rfl rfl (src_newb _ (⟨nm, v⟩ : Leaf) hokn _ _ _ (by first | rfl | simp) rfl) (disj_none_ _) (by omega) ?_; intro A2 cap2 w2 h1 h2 h3 h4)
      have hrow2 : Row true w2 A2 cap2 (rest.filter (ltB nm) ++ [⟨nm, v⟩]) (og w.heap.size w1.heap.size) := row_og h3 (fun b hb => .inr (by simp at hb; omega))
      have hch2 : Chg (og w.heap.size w1.heap.size) w1 w2 := (hch.alloc _).trans h4
      clear h3 h4 hrow hch
      have hal : (rest.filter (ltB nm) ++ ([⟨nm, v⟩] : List Leaf)).length ≤ rest.length + 1 := by simp; exact List.length_filter_le _ _
      go_loopw [8, 11] (fun u i wr => ∃ (k : Nat) (ys : List Leaf) (A : Option Addr) (cap : Nat), k ≤ rest.length ∧ i = .int .i64 k ∧ u = .slice A ys.length cap ∧ Hid (ys = (rest.filter (ltB nm) ++ ([⟨nm, v⟩] : List Leaf)) ++ foldT (gath (gtB nm) id) [] rest k) ∧ ys.length ≤ (rest.filter (ltB nm) ++ ([⟨nm, v⟩] : List Leaf)).length + k ∧ ys.length ≤ cap ∧ cap ≤ maxLen ∧ Row true wr A cap ys (og w.heap.size w1.heap.size) ∧ Chg (og w.heap.size w1.heap.size) w1 wr) (fun _ i _ => rest.length - (intOf i).toNat)
      case atStart => exact ⟨0, (rest.filter (ltB nm) ++ ([⟨nm, v⟩] : List Leaf)), A2, cap2, Nat.zero_le _, rfl, by simp, Lib.hid (by simp [foldT]), by simp, by simpa using h1, h2, hrow2, hch2⟩
      case round =>
        obtain ⟨k, ys, A, cap, hk, rfl, rfl, hys, hyk, hle, hcm2, hrow, hch⟩ := hrel
        have hz := hch.size
        by_cases hlt : k < rest.length
        · obtain ⟨b1, o1, e1, hl1, hS1, c0, c1, t0, t1⟩ := Row.inLeaf hrr hlt
          subst e1
          have hnO : ¬ (og w.heap.size w1.heap.size) b1 := (fun h => by unfold og at h; unfold rng at hS1; omega)
          replace c0 := (hch.cell (o := o1 + k * 2) hl1 hnO).trans c0
          replace c1 := (hch.cell (o := o1 + k * 2 + 1) hl1 hnO).trans c1
          have hl2 : b1 < wr.heap.size := Nat.lt_of_lt_of_le hl1 hz
          have hN := Lib.hid (gathT_no (p := (gtB nm)) (g := id) hlt)
          have hY := Lib.hid (gathT_yes (p := (gtB nm)) (g := id) hlt)
          obtain ⟨x, hxx⟩ : ∃ x, rest[k] = x := ⟨_, rfl⟩
          rw [hxx] at c0 c1 t0 t1 hN hY
          clear hxx
          have hok : Flat.ok x := (⟨t0, t1⟩ : x.name.size ≤ maxLen ∧ x.value.size ≤ maxLen)
          have hz2 : w1.heap.size ≤ (wr.alloc (.cells #[.string x.name, .string x.value] 80)).heap.size := by simp; omega
          by_cases hc : (gtB nm) x = true
          · have HY := Lib.hid (hY.out hc)
            have hd := gt_yes hc
            clear hc
            go_wp2_with (at_builtin; refine wpList_app (α := Leaf) rfl _ _ rfl rfl rfl (hrow.allocC _) hle hcm2 rfl rfl (src_newb _ x hok _ _ _ (by first | rfl | simp) rfl) (disj_none_ _) (by omega) ?_; intro A' cap' w' h1 h2 h3 h4)
            go_roundw
            case rel => exact ⟨k + 1, ys ++ [x], A', cap', by omega, by go_num, by simp, Lib.hid (by rw [HY.out, hys.out]; simp), by have := hyk; simp only [List.length_append, List.length_cons, List.length_nil] at this ⊢; omega, by simpa using h1, h2, row_og h3 (fun b hb => (show ∀ q, w1.heap.size ≤ q → og w.heap.size w1.heap.size q from fun _ h => Or.inr h) b (Nat.le_trans hz2 hb)), (hch.alloc _).trans h4⟩
            case measure => simp [intOf]; omega
          · have hc : (gtB nm) x = false := by simpa using hc
            have HN := Lib.hid (hN.out hc)
            have hd := gt_no hc
            clear hc
            go_wp2
            go_roundw
            case rel => exact ⟨k + 1, ys, A, cap, by omega, by go_num, rfl, Lib.hid (by rw [HN.out, hys.out]), by omega, hle, hcm2, hrow, hch⟩
            case measure => simp [intOf]; omega
        · have hke : k = rest.length := by omega
          subst hke
          have hyy : ys = putSpec xs nm v := by rw [hys.out, foldT_all, gath_fold, HP.out]; simp
          subst hyy
          have hB : Below w.heap.size w wr := hB1.trans (hch.to_below (by omega) (fun b h => og_ge h (Nat.le_refl _) (by omega)))
          have hpl := putSpec_len xs nm v
          go_wp2_with (fail)
          refine (spec_LeavesOk _ xs A0 cap0 S (Row.later hx hB) (by omega)).mono ?_
          rintro e3 w3 ⟨rfl, hb3⟩
          have hB3 : Below w.heap.size w w3 := Below.step hB hb3
          have hz3 := hB3.size
          replace hrow := Row.later hrow hb3
          cases ho : leavesOk xs
          · have HF : Hid (leafPut xs nm v = (xs, false)) := Lib.hid (by simp [leafPut, ho])
            go_wp2_with (at_builtin; refine wpList_app (α := Leaf) rfl _ _ rfl rfl rfl (row_lit0b _ _ _ (nw w.heap.size) (by first | rfl | simp) rfl hz3) (by simp) (by decide) rfl rfl (Src.flat2 (Row.allocC (Row.later hx hB3) _)) (disj_none_ _) (by first | (simp; done) | (simp; omega)) ?_; intro A' cap' w' h1 h2 h3 h4)
            go_ret2
            exact ⟨A', cap', ret_sliceb (by rw [HF.out] <;> simp) (by rw [HF.out]), by rw [HF.out]; simpa using h1, h2, by rw [HF.out]; simpa using row_up h3 (B := w.heap.size) (fun b h => h) (fun b h => h.elim) (by first | (simp; done) | (simp; omega)), (hB3.alloc hz3 _).trans (h4.to_below (by first | (simp; done) | (simp; omega)) (fun b h => h))⟩
          go_wp2_with (fail)
          refine (spec_LeavesOk _ (putSpec xs nm v) A cap _ (Row.weak hrow) (by omega)).mono ?_
          rintro e4 w4 ⟨rfl, hb4⟩
          have hB4 : Below w.heap.size w w4 := Below.step hB3 hb4
          have hz4 := hB4.size
          replace hrow := Row.later hrow hb4
          cases hp : leavesOk (putSpec xs nm v)
          · have HF : Hid (leafPut xs nm v = (xs, false)) := Lib.hid (by simp [leafPut, hp])
            go_wp2_with (at_builtin; refine wpList_app (α := Leaf) rfl _ _ rfl rfl rfl (row_lit0b _ _ _ (nw w.heap.size) (by first | rfl | simp) rfl hz4) (by simp) (by decide) rfl rfl (Src.flat2 (Row.allocC (Row.later hx hB4) _)) (disj_none_ _) (by first | (simp; done) | (simp; omega)) ?_; intro A' cap' w' h1 h2 h3 h4)
            go_ret2
            exact ⟨A', cap', ret_sliceb (by rw [HF.out] <;> simp) (by rw [HF.out]), by rw [HF.out]; simpa using h1, h2, by rw [HF.out]; simpa using row_up h3 (B := w.heap.size) (fun b h => h) (fun b h => h.elim) (by first | (simp; done) | (simp; omega)), (hB4.alloc hz4 _).trans (h4.to_below (by first | (simp; done) | (simp; omega)) (fun b h => h))⟩
          · have HF : Hid (leafPut xs nm v = (putSpec xs nm v, true)) := Lib.hid (by simp [leafPut, ho, hp])
            go_wp2
            go_ret2
            exact ⟨A, cap, ret_sliceb (by rw [HF.out]) (by rw [HF.out]), by rw [HF.out]; exact hle, hcm2, by rw [HF.out]; exact og_row hrow (Nat.le_refl _) (by omega), hB4⟩

set_option maxRecDepth 20000 in set_option maxHeartbeats 16000000 in
theorem impl_LeafPut (w : World) (xs : List Leaf) (A0 : Option Addr) (cap0 : Nat) (S : Blks) (hx : Row false w A0 cap0 xs S) (hl : xs.length ≤ 100000000) (nm : ByteArray) (hn : nm.size ≤ maxLen) (v : ByteArray) (hv : v.size ≤ maxLen) : Calls Try.prog 54 #[.slice A0 xs.length cap0, .string nm, .string v] w fun e w' => ∃ A' cap', e = .returned (.tuple #[.slice A' (leafPut xs nm v).1.length cap', .bool (leafPut xs nm v).2]) ∧ (leafPut xs nm v).1.length ≤ cap' ∧ cap' ≤ maxLen ∧ Row true w' A' cap' (leafPut xs nm v).1 (rng w.heap.size w'.heap.size) ∧ Below w.heap.size w w' := by
  have hokn : Flat.ok (⟨nm, v⟩ : Leaf) := (⟨hn, hv⟩ : nm.size ≤ maxLen ∧ v.size ≤ maxLen)
  have hpl := putSpec_len xs nm v
  go_enter Try.func54, Try.ntmps54
  go_wp2_with (fail)
  refine (impl_LeavesOk _ xs A0 cap0 S hx (by omega)).mono ?_
  rintro e1 w1 ⟨rfl, hB1⟩
  have hz1 := hB1.size
  cases ho : leavesOk xs
  · have HF : Hid (leafPut xs nm v = (xs, false)) := Lib.hid (by simp [leafPut, ho])
    go_wp2_with (fail)
    refine (impl_copyLeaves _ xs A0 cap0 S (Row.later hx hB1) (by omega)).mono ?_
    rintro e2 w2 ⟨A', cap', rfl, h1, h2, h3, hb2⟩
    go_wp2
    go_ret2
    exact ⟨A', cap', ret_sliceb (by rw [HF.out]) (by rw [HF.out]), by rw [HF.out]; exact h1, h2, by rw [HF.out]; exact h3.mono (rngS hz1 (Nat.le_refl _)), Below.step hB1 hb2⟩
  have HE : Hid (∀ ys p, (ys, p) = foldT (putS nm v) ([], false) xs xs.length → putE nm v (ys, p) = putSpec xs nm v) := Lib.hid (fun ys p h => by rw [h, foldT_all, put_eq nm v xs [] (srt_of ho)]; simp)
  go_wp2
  go_loopw [8, 9, 19] (fun u b i wr => ∃ (k : Nat) (ys : List Leaf) (p : Bool) (A : Option Addr) (cap : Nat), k ≤ xs.length ∧ i = .int .i64 k ∧ b = .bool p ∧ u = .slice A ys.length cap ∧ Hid ((ys, p) = foldT (putS nm v) ([], false) xs k) ∧ ys.length ≤ 2 * k ∧ ys.length ≤ cap ∧ cap ≤ maxLen ∧ Row true wr A cap ys (nw w1.heap.size) ∧ Below w1.heap.size w1 wr) (fun _ _ i _ => xs.length - (intOf i).toNat)
  case atStart => exact ⟨0, [], false, none, 0, Nat.zero_le _, rfl, rfl, rfl, Lib.hid rfl, by simp, by simp, by decide, row_nil _ _, Below.refl _ _⟩
  case round =>
    obtain ⟨k, ys, p, A, cap, hk, rfl, rfl, rfl, hys, hyk, hle, hcm2, hrow, hb⟩ := hrel
    have hz := hb.size
    replace hrow := to_rng hrow
    by_cases hlt : k < xs.length
    · obtain ⟨b1, o1, e1, hl1, c0, c1, t0, t1⟩ := Row.atLeaf (Row.later hx hB1) hlt
      subst e1
      replace c0 := (hb.cell (p := ⟨b1, o1 + k * 2, none⟩) hl1).trans c0
      replace c1 := (hb.cell (p := ⟨b1, o1 + k * 2 + 1, none⟩) hl1).trans c1
      have hl2 : b1 < wr.heap.size := Nat.lt_of_lt_of_le hl1 hz
      have hF := Lib.hid (foldT_succ (f := putS nm v) (s := ([], false)) hlt)
      obtain ⟨x, hxx⟩ : ∃ x, xs[k] = x := ⟨_, rfl⟩
      rw [hxx] at c0 c1 t0 t1 hF
      clear hxx
      have hF : Hid (foldT (putS nm v) ([], false) xs (k + 1) = putS nm v (ys, p) x) := Lib.hid (by rw [hF.out, ← hys.out])
      have hok : Flat.ok x := (⟨t0, t1⟩ : x.name.size ≤ maxLen ∧ x.value.size ≤ maxLen)
      have hz2 : w1.heap.size ≤ ((wr.alloc (.cells #[.string x.name, .string x.value] 80)).alloc (.cells #[.string nm, .string v] 80)).heap.size := by simp; omega
      have hz3 : w1.heap.size ≤ ((wr.alloc (.cells #[.string x.name, .string x.value] 80)).alloc (.cells #[.string x.name, .string x.value] 80)).heap.size := by simp; omega
      have hb2 : Below w1.heap.size w1 (wr.alloc (.cells #[.string x.name, .string x.value] 80)) := hb.alloc hz _
      cases p
      rotate_left
      · by_cases hc : x.name = nm
        · have HS : Hid (foldT (putS nm v) ([], false) xs (k + 1) = (ys, true)) := Lib.hid (by rw [hF.out]; exact putS_te hc)
          have hsb := str_eq hc
          clear hc hF
          go_wp2
          go_roundw
          case rel => exact ⟨k + 1, ys, true, A, cap, by omega, by go_num, rfl, rfl, Lib.hid (by rw [HS.out]), by omega, hle, hcm2, row_rng (hrow.allocC _), hb2⟩
          case measure => simp [intOf]; omega
        · have HS : Hid (foldT (putS nm v) ([], false) xs (k + 1) = ((ys ++ [x]), true)) := Lib.hid (by rw [hF.out]; exact putS_t hc)
          have hsb := str_ne hc
          clear hc hF
          go_wp2_with ((at_builtin; refine wpList_app (α := Leaf) rfl _ _ rfl rfl rfl ((hrow.allocC _).allocC _) hle hcm2 rfl rfl (src_newb _ x hok _ _ _ (by first | rfl | simp) rfl) (disj_none_ _) (by omega) ?_; intro A' cap' w' h1 h2 h3 h4))
          go_roundw
          case rel => exact ⟨k + 1, (ys ++ [x]), true, A', cap', by omega, by go_num, rfl, by simp, Lib.hid (by rw [HS.out]), by simp; omega, by simpa using h1, h2, row_rng (row_up h3 (B := w1.heap.size) (fun b h => h.1) (fun b h => h.elim) hz3), (hb2.alloc (by first | (simp; done) | (simp; omega)) _).trans (h4.to_below hz3 (fun b h => h.1))⟩
          case measure => simp [intOf]; omega
      cases hbl : bLess x.name nm
      · by_cases hc : x.name = nm
        · have HS : Hid (foldT (putS nm v) ([], false) xs (k + 1) = ((ys ++ [⟨nm, v⟩]), true)) := Lib.hid (by rw [hF.out]; exact putS_ge hbl hc)
          have hbb : Op.bytesLess x.name.toList nm.toList = false := hbl
          have hsb := str_eq hc
          clear hc hF
          go_wp2_with ((at_builtin; refine wpList_app (α := Leaf) rfl _ _ rfl rfl rfl ((hrow.allocC _).allocC _) hle hcm2 rfl rfl (src_newb _ (⟨nm, v⟩ : Leaf) hokn _ _ _ (by first | rfl | simp) rfl) (disj_none_ _) (by omega) ?_; intro A3 cap3 w3 g1 g2 g3 g4; have hrow3 := row_up g3 (B := w1.heap.size) (fun b h => h.1) (fun b h => h.elim) hz2; have hb3 : Below w1.heap.size w1 w3 := (hb2.alloc (by first | (simp; done) | (simp; omega)) _).trans (g4.to_below hz2 (fun b h => h.1)); have hz4 := hb3.size; have d0 : w3.cell? ⟨wr.heap.size, 0, none⟩ = some (.string x.name) := (Chg.cell g4 (by first | (simp; done) | (simp; omega)) (by unfold rng; omega)).trans (cell_alloc (box_cell _ _ _ _ _ rfl)); have d1 : w3.cell? ⟨wr.heap.size, 1, none⟩ = some (.string x.value) := (Chg.cell g4 (by first | (simp; done) | (simp; omega)) (by unfold rng; omega)).trans (cell_alloc (box_cell _ _ _ _ _ rfl))))
          go_roundw
          case rel => exact ⟨k + 1, (ys ++ [⟨nm, v⟩]), true, A3, cap3, by omega, by go_num, rfl, by simp, Lib.hid (by rw [HS.out]), by simp; omega, by simpa using g1, g2, row_rng hrow3, hb3⟩
          case measure => simp [intOf]; omega
        · have HS : Hid (foldT (putS nm v) ([], false) xs (k + 1) = ((ys ++ [⟨nm, v⟩] ++ [x]), true)) := Lib.hid (by rw [hF.out]; exact putS_g hbl hc)
          have hbb : Op.bytesLess x.name.toList nm.toList = false := hbl
          have hsb := str_ne hc
          clear hc hF
          go_wp2_with (first | (at_builtin; refine wpList_app (α := Leaf) rfl _ _ rfl rfl rfl ((hrow.allocC _).allocC _) hle hcm2 rfl rfl (src_newb _ (⟨nm, v⟩ : Leaf) hokn _ _ _ (by first | rfl | simp) rfl) (disj_none_ _) (by omega) ?_; intro A3 cap3 w3 g1 g2 g3 g4; have hrow3 := row_up g3 (B := w1.heap.size) (fun b h => h.1) (fun b h => h.elim) hz2; have hb3 : Below w1.heap.size w1 w3 := (hb2.alloc (by first | (simp; done) | (simp; omega)) _).trans (g4.to_below hz2 (fun b h => h.1)); have hz4 := hb3.size; have d0 : w3.cell? ⟨wr.heap.size, 0, none⟩ = some (.string x.name) := (Chg.cell g4 (by first | (simp; done) | (simp; omega)) (by unfold rng; omega)).trans (cell_alloc (box_cell _ _ _ _ _ rfl)); have d1 : w3.cell? ⟨wr.heap.size, 1, none⟩ = some (.string x.value) := (Chg.cell g4 (by first | (simp; done) | (simp; omega)) (by unfold rng; omega)).trans (cell_alloc (box_cell _ _ _ _ _ rfl))) | (at_builtin; refine wpList_app (α := Leaf) rfl _ _ rfl rfl (by simp) (hrow3.allocC _) g1 g2 rfl rfl (src_newb _ x hok _ _ _ (by first | rfl | simp) rfl) (disj_none_ _) (by omega) ?_; intro A' cap' w' h1 h2 h3 h4))
          go_roundw
          case rel => exact ⟨k + 1, (ys ++ [⟨nm, v⟩] ++ [x]), true, A', cap', by omega, by go_num, rfl, by simp, Lib.hid (by rw [HS.out]), by simp; omega, by simpa using h1, h2, row_rng (row_up h3 (B := w1.heap.size) (fun b h => h.1) (fun b h => h.elim) (by first | (simp; done) | (simp; omega))), (hb3.alloc hz4 _).trans (h4.to_below (by first | (simp; done) | (simp; omega)) (fun b h => h.1))⟩
          case measure => simp [intOf]; omega
      · by_cases hc : x.name = nm
        · have HS : Hid (foldT (putS nm v) ([], false) xs (k + 1) = (ys, false)) := Lib.hid (by rw [hF.out]; exact putS_le hbl hc)
          have hbb : Op.bytesLess x.name.toList nm.toList = true := hbl
          have hsb := str_eq hc
          clear hc hF
          go_wp2
          go_roundw
          case rel => exact ⟨k + 1, ys, false, A, cap, by omega, by go_num, rfl, rfl, Lib.hid (by rw [HS.out]), by omega, hle, hcm2, row_rng (hrow.allocC _), hb2⟩
          case measure => simp [intOf]; omega
        · have HS : Hid (foldT (putS nm v) ([], false) xs (k + 1) = ((ys ++ [x]), false)) := Lib.hid (by rw [hF.out]; exact putS_l hbl hc)
          have hbb : Op.bytesLess x.name.toList nm.toList = true := hbl
          have hsb := str_ne hc
          clear hc hF
          go_wp2_with ((at_builtin; refine wpList_app (α := Leaf) rfl _ _ rfl rfl rfl ((hrow.allocC _).allocC _) hle hcm2 rfl rfl (src_newb _ x hok _ _ _ (by first | rfl | simp) rfl) (disj_none_ _) (by omega) ?_; intro A' cap' w' h1 h2 h3 h4))
          go_roundw
          case rel => exact ⟨k + 1, (ys ++ [x]), false, A', cap', by omega, by go_num, rfl, by simp, Lib.hid (by rw [HS.out]), by simp; omega, by simpa using h1, h2, row_rng (row_up h3 (B := w1.heap.size) (fun b h => h.1) (fun b h => h.elim) hz3), (hb2.alloc (by first | (simp; done) | (simp; omega)) _).trans (h4.to_below hz3 (fun b h => h.1))⟩
          case measure => simp [intOf]; omega
    · have hke : k = xs.length := by omega
      subst hke
      have hE := HE.out ys p hys.out
      have hB : Below w.heap.size w wr := Below.step hB1 hb
      cases p
      · have hE : ys ++ [⟨nm, v⟩] = putSpec xs nm v := hE
        have hzn : w1.heap.size ≤ (wr.alloc (.cells #[.string nm, .string v] 80)).heap.size := by simp; omega
        go_wp2_with (at_builtin; refine wpList_app (α := Leaf) rfl _ _ rfl rfl rfl (hrow.allocC _) hle hcm2 rfl rfl (src_newb _ (⟨nm, v⟩ : Leaf) hokn _ _ _ (by first | rfl | simp) rfl) (disj_none_ _) (by omega) ?_; intro A3 cap3 w3 g1 g2 g3 g4)
        have hrow3 := row_up g3 (B := w1.heap.size) (fun b h => h.1) (fun b h => h.elim) hzn
        rw [hE] at hrow3
        have hb3 : Below w1.heap.size w1 w3 := (hb.alloc hz _).trans (g4.to_below hzn (fun b h => h.1))
        have hB3 : Below w.heap.size w w3 := Below.step hB1 hb3
        have hlen : ys.length + 1 = (putSpec xs nm v).length := by rw [← hE]; simp
        rw [hlen] at g1
        simp only [hlen]
        clear hE hlen g3 g4
        go_wp2_with (fail)
        refine (impl_LeavesOk _ (putSpec xs nm v) A3 cap3 _ (Row.weak hrow3) (by omega)).mono ?_
        rintro e4 w4 ⟨rfl, hb4⟩
        have hB4 : Below w.heap.size w w4 := Below.step hB3 hb4
        have hz4 := hB4.size
        cases hp : leavesOk (putSpec xs nm v)
        · have HF : Hid (leafPut xs nm v = (xs, false)) := Lib.hid (by simp [leafPut, hp])
          go_wp2_with (fail)
          refine (impl_copyLeaves _ xs A0 cap0 S (Row.later hx hB4) (by omega)).mono ?_
          rintro e5 w5 ⟨A', cap', rfl, h1, h2, h3, hb5⟩
          go_wp2
          go_ret2
          exact ⟨A', cap', ret_sliceb (by rw [HF.out]) (by rw [HF.out]), by rw [HF.out]; exact h1, h2, by rw [HF.out]; exact h3.mono (rngS hz4 (Nat.le_refl _)), Below.step hB4 hb5⟩
        · have HF : Hid (leafPut xs nm v = (putSpec xs nm v, true)) := Lib.hid (by simp [leafPut, ho, hp])
          go_wp2
          go_ret2
          exact ⟨A3, cap3, ret_sliceb (by rw [HF.out]) (by rw [HF.out]), by rw [HF.out]; exact g1, g2, by rw [HF.out]; exact (Row.later hrow3 hb4).tight.mono (fun _ x => ⟨Nat.le_trans hz1 x.1.1, x.2⟩), hB4⟩
      · have hE : ys = putSpec xs nm v := hE
        subst hE
        go_wp2_with (fail)
        refine (impl_LeavesOk _ (putSpec xs nm v) A cap _ (Row.weak hrow) (by omega)).mono ?_
        rintro e4 w4 ⟨rfl, hb4⟩
        have hB4 : Below w.heap.size w w4 := Below.step hB hb4
        have hz4 := hB4.size
        cases hp : leavesOk (putSpec xs nm v)
        · have HF : Hid (leafPut xs nm v = (xs, false)) := Lib.hid (by simp [leafPut, hp])
          go_wp2_with (fail)
          refine (impl_copyLeaves _ xs A0 cap0 S (Row.later hx hB4) (by omega)).mono ?_
          rintro e5 w5 ⟨A', cap', rfl, h1, h2, h3, hb5⟩
          go_wp2
          go_ret2
          exact ⟨A', cap', ret_sliceb (by rw [HF.out]) (by rw [HF.out]), by rw [HF.out]; exact h1, h2, by rw [HF.out]; exact h3.mono (rngS hz4 (Nat.le_refl _)), Below.step hB4 hb5⟩
        · have HF : Hid (leafPut xs nm v = (putSpec xs nm v, true)) := Lib.hid (by simp [leafPut, ho, hp])
          go_wp2
          go_ret2
          exact ⟨A, cap, ret_sliceb (by rw [HF.out]) (by rw [HF.out]), by rw [HF.out]; exact hle, hcm2, by rw [HF.out]; exact (Row.later hrow hb4).tight.mono (fun _ x => ⟨Nat.le_trans hz1 x.1.1, x.2⟩), hB4⟩

end Go.Proofs.Ytaoefbkfccnenaa
