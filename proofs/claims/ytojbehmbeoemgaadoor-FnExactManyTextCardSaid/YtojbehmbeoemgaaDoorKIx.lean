/- Walk: the indexes of names, each once, in rising order. -/
import Derived.Test.YtojbehmbeoemgaaDoorKSr
import Derived.Test.YtojbehmbeoemgaaDoorKRi
import Derived.Test.YtojbehmbeoemgaaDoorKDx
set_option linter.unusedVariables false
set_option linter.unusedSimpArgs false
namespace Go.Proofs.YtojbehmbeoemgaaDoor
open Go.RowKit Go.Sort Go.Maps Lay Mk
def idxKey (s : ByteArray) : Int := (indexOf s : Int)
def indexesOf (xs : List ByteArray) : List Int := rising idxKey xs
theorem idx_lo (s : ByteArray) : 0 ≤ idxKey s := by unfold idxKey; omega
theorem idx_hi (s : ByteArray) : idxKey s < 256 := by have := indexOf_lt s; unfold idxKey; omega
theorem idx_i64 (s : ByteArray) : I64 (idxKey s) := by have := idx_lo s; have := idx_hi s; unfold I64; omega
theorem wf_idx (s : ByteArray) : (Lit.int .i64 (idxKey s)).wf = true := by have := idx_lo s; have := idx_hi s; exact WalkArith.wf_i64 (by omega)
theorem lawI : Keyed Tryd.prog 3 := int_keyed Tryd.underlying3
theorem zeroI (w : World) : (zeroValue 3).run Tryd.prog w = .ok (.int .i64 0) w := by kernel_rfl
theorem rising_i64 (xs : List ByteArray) : ∀ k, k ≤ xs.length → ∀ x ∈ foldT (insF idxKey) [] xs k, I64 x
  | 0, _ => by simp [foldT]
  | k + 1, h => by
    intro x hx
    rw [foldT_succ (by omega)] at hx
    rcases (ins_mem _ _ _).1 hx with rfl | hx
    · exact idx_i64 _
    · exact rising_i64 xs k (by omega) x hx
theorem indexes_i64 (xs : List ByteArray) : ∀ x ∈ indexesOf xs, I64 x := by
  unfold indexesOf; rw [← rising_all]; exact rising_i64 xs _ (Nat.le_refl _)
theorem indexes_len (xs : List ByteArray) : (indexesOf xs).length ≤ xs.length := rising_len _ xs
theorem ded_len_eq (xs : List ByteArray) : (foldT (dedF idxKey) [] xs xs.length).length = (indexesOf xs).length := by
  unfold indexesOf; rw [← rising_sort idxKey xs, List.length_mergeSort]
theorem put_at {D : DataW Unit} (hD : IsMap D) {ys : List Int} (h : ∀ a : Int, (D.atKey (.int .i64 a) (.lit (.int .i64 0)) = .lit (.int .i64 0) ↔ a ∉ ys)) (x : Int) :
    ∀ a : Int, ((D.put (.int .i64 x) (.lit (.int .i64 1))).atKey (.int .i64 a) (.lit (.int .i64 0)) = .lit (.int .i64 0) ↔ a ∉ ys ++ [x]) := by
  intro a
  by_cases e : a = x
  · subst e
    rw [atKey_put_same hD (by first | exact trivial | simp [WideAt.IsKeyLit])]
    simp
  · rw [atKey_put_other (by intro e2; injection e2 with _ e3; exact e e3), h a]
    simp [e]
theorem row_grown {α : Type} [Lay α] {w w' : World} {A : Option Addr} {cap g : Nat} {xs : List α} {S : Blks} (h : Row true w A cap xs S) (hg : w.grownBy w' (some g)) (hS : ¬ S g) : Row true w' A cap xs S :=
  (h.tight.keep (fun b x => hg.block b x.2 (by intro e; injection e with e; exact hS (e ▸ x.1)))).mono (fun _ x => x.1)
set_option maxRecDepth 20000 in set_option maxHeartbeats 8000000 in
theorem impl_IndexesOf (w : World) (xs : List ByteArray) (A0 : Option Addr) (cap0 : Nat) (S : Blks) (hx : Row false w A0 cap0 xs S) (_ : xs.length ≤ cap0) (_ : cap0 ≤ maxLen) (hz : szL xs ≤ 1048576) (hT : Tabs w) : Calls Tryd.prog 29 #[.slice A0 xs.length cap0] w fun e w' => ∃ A' cap', e = .returned (.slice A' (indexesOf xs).length cap') ∧ (indexesOf xs).length ≤ cap' ∧ cap' ≤ maxLen ∧ Row true w' A' cap' (indexesOf xs) (rng w.heap.size w'.heap.size) ∧ Below w.heap.size w w' := by
  have hlx : xs.length ≤ 1048576 := by have := szT_le xs 0; omega
  have hel : ∀ k (h : k < xs.length), xs[k].size ≤ 1048576 := fun k h => by
    have h1 := sz_le_L xs k h
    have h2 : Mk.sz xs[k] = xs[k].size := rfl
    omega
  have HEl := Lib.hid hel; clear hel
  have hmm := @run_makeMap Tryd.prog
  go_enter Tryd.func29, Tryd.ntmps29
  go_wp2
  clear hmm
  go_loopw [4, 11] (fun u i wr => ∃ (k : Nat) (ys : List Int) (A : Option Addr) (cap : Nat) (D : DataW Unit), k ≤ xs.length ∧ i = .int .i64 k ∧ u = .slice A ys.length cap ∧ Hid (ys = foldT (dedF idxKey) [] xs k) ∧ ys.length ≤ k ∧ ys.length ≤ cap ∧ cap ≤ maxLen ∧ Row true wr A cap ys (nw (w.heap.size + 1)) ∧ wr.ownsMap Tryd.prog 3 (plainElem Tryd.prog 3) w.heap.size k D ∧ Hid (∀ a : Int, (D.atKey (.int .i64 a) (.lit (.int .i64 0)) = .lit (.int .i64 0) ↔ a ∉ ys)) ∧ Below w.heap.size w wr ∧ w.heap.size < wr.heap.size) (fun _ i _ => xs.length - (intOf i).toNat)
  case atStart => exact ⟨0, [], none, 0, .map [], Nat.zero_le _, rfl, rfl, Lib.hid rfl, Nat.le_refl _, Nat.le_refl _, by decide, row_nil _ _, World.ownsMap_made _ _ _ _, Lib.hid (fun a => by simp [DataW.atKey]), (Below.refl _ _).alloc (Nat.le_refl _) _, by simp⟩
  case round =>
    obtain ⟨k, ys, A, cap, D, hk, rfl, rfl, hys, hyk, hle, hcm, hrow, hown, hD, hB, hzw⟩ := hrel
    by_cases hlt : k < xs.length
    · obtain ⟨b1, o1, rfl, hl1, f0, s0⟩ := Row.str hx hlt
      replace f0 := (hB.cell (p := ⟨b1, o1 + k, none⟩) hl1).trans f0
      have hl2 : b1 < wr.heap.size := by omega
      have hsx := HEl.out k hlt
      have HY := Lib.hid (ded_yes idxKey hlt)
      have HN := Lib.hid (ded_no idxKey hlt)
      obtain ⟨x, hxx⟩ : ∃ x, xs[k] = x := ⟨_, rfl⟩
      rw [hxx] at f0 s0 hsx HY HN
      rw [← hys.out] at HY HN
      clear hxx
      go_wp2_with (fail)
      refine (impl_IndexOf _ x (by omega) (hT.later hB)).mono ?_
      rintro e0 w2 ⟨rfl, hb⟩
      have hz2 := hb.size
      have hrow2 := Row.later hrow hb
      have hown2 := own_keep hown (hb.block _ hzw)
      have hB2 := hB.trans (hb.mono hB.size)
      have hki := idx_i64 x
      have HKy := Lib.hid (keyOf_int_mk Tryd.underlying3 (wf_idx x))
      obtain ⟨kx, hkx⟩ : ∃ a, idxKey x = a := ⟨_, rfl⟩
      rw [show ((indexOf x : Nat) : Int) = kx from hkx]
      rw [hkx] at HY HN hki HKy
      clear hkx f0 hrow hown hb
      by_cases hm : kx ∈ ys
      · have HC : Hid (∀ c, D.atKey (.int .i64 kx) (.lit (.int .i64 0)) = .lit (.int .i64 c) → (c == 0) = false) := Lib.hid (fun c hc => by
          rw [beq_eq_false_iff_ne]; rintro rfl; exact ((hD.out kx).1 hc) hm)
        go_wp2_with ((at_lookup; refine wpList_lookup_own_int (H := Unit) _ rfl _ _ 111 rfl 3 3 .i64 lawI Tryd.underlying111 Tryd.underlying3 (zeroI _) w.heap.size k D rfl hown2 _ _ rfl HKy.out ?_; intro c hat hwc; have hc1 := HC.out c hat; clear hat hwc))
        go_roundw
        case rel => exact ⟨k + 1, ys, A, cap, D, by omega, by go_num, rfl, Lib.hid (HY.out hm).symm, by omega, hle, hcm, hrow2, hown2.mono (by omega), hD, hB2, by omega⟩
        case measure => simp [intOf]; omega
      · have HC : Hid (∀ c, D.atKey (.int .i64 kx) (.lit (.int .i64 0)) = .lit (.int .i64 c) → c = 0) := Lib.hid (fun c hc => by
          rw [(hD.out kx).2 hm] at hc; injection hc with hc; injection hc with _ hc; exact hc.symm)
        go_wp2_with (first | (at_lookup; refine wpList_lookup_own_int (H := Unit) _ rfl _ _ 111 rfl 3 3 .i64 lawI Tryd.underlying111 Tryd.underlying3 (zeroI _) w.heap.size k D rfl hown2 _ _ rfl HKy.out ?_; intro c hat hwc; have hc0 := HC.out c hat; subst hc0; clear hat hwc) | (at_mapUpdate; refine wpList_mapUpdate_own (H := Unit) _ rfl _ _ _ 111 rfl 3 3 lawI Tryd.underlying111 _ w.heap.size k D rfl hown2 (by unfold maxLen; omega) _ _ _ rfl rfl HKy.out (.lit (.int .i64 1)) [] (plainElem_int Tryd.underlying3 (by decide)) ?_; intro w3 hown3 hgr; have hz3 := hgr.size; have hrow3 := row_grown hrow2 hgr (by unfold nw; omega); have hB3 : Below w.heap.size w w3 := hB2.trans (below_of_grown hgr (Nat.le_refl _) (by omega))) | (at_builtin; refine wpList_app (α := Int) rfl _ _ rfl rfl rfl (hrow3.allocC _) hle hcm rfl rfl (src_newb _ kx hki _ _ _ (by first | rfl | simp) rfl) (disj_none_ _) (by omega) ?_; intro A' cap' w4 h1 h2 h3 h4))
        have hz3b : w3.heap.size < (w3.alloc (.cells #[.int .i64 kx] 3)).heap.size := by simp
        have hz4 := h4.size
        go_roundw
        case rel => exact ⟨k + 1, ys ++ [kx], A', cap', _, by omega, by go_num, by simp, Lib.hid (HN.out hm).symm, by simp; omega, by simpa using h1, h2, row_og h3 (fun b hb => by unfold nw; omega), own_keep (own_keep hown3 (Below.heap_alloc w3 _ _ (by omega))) (h4.block _ (by omega) (by unfold nw; omega)), Lib.hid (put_at hown2.isMap hD.out kx), (hB3.alloc hB3.size _).trans (h4.to_below (by omega) (fun b hb => by unfold nw at hb; omega)), by omega⟩
        case measure => simp [intOf]; omega
    · have hke : k = xs.length := by omega
      subst hke
      have hsrt : (ys.mergeSort fun x y => decide (x ≤ y)) = indexesOf xs := by rw [hys.out]; exact rising_sort idxKey xs
      have hlen : ys.length = (indexesOf xs).length := by rw [← ded_len_eq, ← hys.out]
      have HSrt := Lib.hid hsrt; have HLen := Lib.hid hlen
      clear hsrt hlen
      by_cases h0 : ys.length = 0
      · have hn : ys = [] := List.eq_nil_of_length_eq_zero h0
        subst hn
        have hi : indexesOf xs = [] := List.eq_nil_of_length_eq_zero HLen.out.symm
        have HI := Lib.hid hi; clear hi
        simp only [List.length_nil]
        go_wp2_with (fail)
        refine (Tryd.sort_Ints_none A cap _).mono ?_
        rintro e0 w5 ⟨rfl, hw5⟩
        subst hw5
        go_wp2
        go_ret
        exact ⟨A, cap, ret_slice (by rw [HI.out]; rfl), by rw [HI.out]; exact hle, hcm, by rw [HI.out]; exact to_rng (hrow.mono (fun b hb => by unfold nw at *; omega)), hB⟩
      · obtain ⟨g, rfl, hgl, hgS, hH, hres⟩ := row_sorted (zs := indexesOf xs) hrow hle (by rintro rfl; exact h0 rfl) HLen.out.symm (indexes_i64 xs)
        have hcl : ys.length ≤ 1048576 := by omega
        go_wp2_with (fail)
        refine (Tryd.sort_Ints g 0 cap ys _ hH hgl (by omega)).mono ?_
        rintro e0 w5 ⟨rfl, n5, os5, hw5⟩
        rw [HSrt.out] at hw5
        subst hw5
        obtain ⟨hr5, hg5⟩ := hres n5 os5
        have hgM : w.heap.size ≤ g := by unfold nw at hgS; omega
        have hB5 := hB.trans (below_of_grown hg5 hgM hgl)
        generalize grow _ os5 = w5 at hr5 hg5 hB5 ⊢
        go_wp2
        go_ret
        exact ⟨some ⟨g, 0, none⟩, cap, ret_slice HLen.out, by rw [← HLen.out]; exact hle, hcm, to_rng (hr5.mono (fun b hb => by unfold nw at *; omega)), hB5⟩
end Go.Proofs.YtojbehmbeoemgaaDoor
