/- A part of the proof: what the laws need of it. -/
import Derived.Test.YtojbehmbeoemgaaDoorHPmL17xTg
import Derived.Test.YtojbehmbeoemgaaDoorHPmL6xOq
set_option linter.unusedVariables false
set_option linter.unusedSimpArgs false
set_option linter.unusedVariables false
set_option linter.unusedSimpArgs false
namespace Go.Proofs.YtojbehmbeoemgaaDoor
open Go.RowKit Lay Mk
theorem row_box {w : World} {b : Nat} (cap : Nat) (l : List ByteArray) (hc : ∀ j (h : j < l.length), w.cell? ⟨b, j, none⟩ = some (.string l[j]) ∧ l[j].size ≤ maxLen) : Row false w (some ⟨b, 0, none⟩) cap l (fun q => q = b) := by
  intro _
  refine ⟨b, 0, rfl, rfl, fun _ => none_, fun _ _ x => x.elim, fun h => by simp at h, fun i hi => ⟨[.string l[i]], fun j u hu => ?_, ⟨rfl, (hc i hi).2⟩⟩⟩
  have hj := (List.getElem?_eq_some_iff.1 hu).1
  have hj : j = 0 := by simpa using hj
  subst hj
  rw [← hu, show 0 + i * n ByteArray + 0 = i by rw [show n ByteArray = 1 from rfl]; omega]
  exact (hc i hi).1
end Go.Proofs.YtojbehmbeoemgaaDoor

set_option linter.unusedVariables false
set_option linter.unusedSimpArgs false
namespace Go.Proofs.YtojbehmbeoemgaaDoor
open Go.RowKit Lay Mk
theorem filt_yes {ys : List Int} {p : Int → Bool} {j : Nat} (h : j < ys.length) (hp : p ys[j] = true) : (ys.take (j + 1)).filter p = (ys.take j).filter p ++ [ys[j]] := by
  rw [List.take_succ_eq_append_getElem h, List.filter_append]; simp [hp]
theorem filt_no {ys : List Int} {p : Int → Bool} {j : Nat} (h : j < ys.length) (hp : p ys[j] = false) : (ys.take (j + 1)).filter p = (ys.take j).filter p := by
  rw [List.take_succ_eq_append_getElem h, List.filter_append]; simp [hp]
theorem row_nw {w' : World} {A : Option Addr} {cap B lo hi : Nat} {xs : List Int} (h : Row true w' A cap xs (fun b => nw B b ∨ none_ b ∨ (lo ≤ b ∧ b < hi))) (hB : B ≤ lo) : Row true w' A cap xs (nw B) :=
  row_og h (fun b hb => Nat.le_trans hB hb)
set_option maxRecDepth 20000 in set_option maxHeartbeats 8000000 in
theorem spec_IndexesOf (w : World) (xs : List ByteArray) (A0 : Option Addr) (cap0 : Nat) (S : Blks) (hx : Row false w A0 cap0 xs S) (_ : xs.length ≤ cap0) (_ : cap0 ≤ maxLen) (hz : szL xs ≤ 1048576) : Calls Tryd.prog 59 #[.slice A0 xs.length cap0] w fun e w' => ∃ A' cap', e = .returned (.slice A' (indexesOf xs).length cap') ∧ (indexesOf xs).length ≤ cap' ∧ cap' ≤ maxLen ∧ Row true w' A' cap' (indexesOf xs) (rng w.heap.size w'.heap.size) ∧ Below w.heap.size w w' := by
  have hlx : xs.length ≤ 1048576 := by have := szT_le xs 0; omega
  have hel : ∀ k (h : k < xs.length), xs[k].size ≤ 1048576 := fun k h => by
    have h1 := sz_le_L xs k h
    have h2 : Mk.sz xs[k] = xs[k].size := rfl
    omega
  have HEl := Lib.hid hel; clear hel
  go_enter Tryd.func59, Tryd.ntmps59
  go_wp2
  go_loopw [3, 4] (fun u i wr => ∃ (k : Nat) (ys : List Int) (A : Option Addr) (cap : Nat), k ≤ xs.length ∧ i = .int .i64 k ∧ u = .slice A ys.length cap ∧ Hid (ys = foldT (insF idxKey) [] xs k) ∧ ys.length ≤ k ∧ ys.length ≤ cap ∧ cap ≤ maxLen ∧ Row true wr A cap ys (nw w.heap.size) ∧ Below w.heap.size w wr) (fun _ i _ => xs.length - (intOf i).toNat)
  case atStart => exact ⟨0, [], _, _, Nat.zero_le _, rfl, rfl, Lib.hid rfl, Nat.le_refl _, Nat.le_refl _, by decide, row_lit0 _ _ _ rfl (Nat.le_refl _), (Below.refl _ _).alloc (Nat.le_refl _) _⟩
  case round =>
    obtain ⟨k, ys, A, cap, hk, rfl, rfl, hys, hyk, hle, hcm, hrow, hB⟩ := hrel
    have hzw := hB.size
    by_cases hlt : k < xs.length
    · obtain ⟨b1, o1, rfl, hl1, f0, s0⟩ := Row.str hx hlt
      replace f0 := (hB.cell (p := ⟨b1, o1 + k, none⟩) hl1).trans f0
      have hl2 : b1 < wr.heap.size := by omega
      have hsx := HEl.out k hlt
      have HSucc := Lib.hid (foldT_succ (f := insF idxKey) (s := []) hlt)
      obtain ⟨x, hxx⟩ : ∃ x, xs[k] = x := ⟨_, rfl⟩
      rw [hxx] at f0 s0 hsx HSucc
      rw [← hys.out] at HSucc
      clear hxx
      go_wp2_with (fail)
      refine (spec_IndexOf _ x (by omega)).mono ?_
      rintro e0 w2 ⟨rfl, hb⟩
      have hz2 := hb.size
      have HRow := Lib.hid (Row.later hrow hb)
      have hB2 := hB.trans (hb.mono hB.size)
      have hki := idx_i64 x
      replace HSucc : Hid (insI ys (idxKey x) = foldT (insF idxKey) [] xs (k + 1)) := Lib.hid HSucc.out.symm
      obtain ⟨kx, hkx⟩ : ∃ a, idxKey x = a := ⟨_, rfl⟩
      rw [show ((indexOf x : Nat) : Int) = kx from hkx]
      rw [hkx] at hki HSucc
      clear hkx f0 hrow hb hsx s0 hys hB hl2 hl1 hzw
      go_wp2
      go_loopw [6, 7] (fun u i wi => ∃ (j : Nat) (ns : List Int) (B : Option Addr) (c : Nat), j ≤ ys.length ∧ i = .int .i64 j ∧ u = .slice B ns.length c ∧ Hid (ns = ([] : List Int) ++ (ys.take j).filter (fun y => decide (y < kx))) ∧ ns.length ≤ 1048578 + j ∧ ns.length ≤ c ∧ c ≤ maxLen ∧ Row true wi B c ns (nw w2.heap.size) ∧ Below w2.heap.size w2 wi) (fun _ i _ => ys.length - (intOf i).toNat)
      case atStart => exact ⟨0, [], _, _, Nat.zero_le _, rfl, rfl, Lib.hid (by simp), by simp, by simp, by decide, row_lit0 _ _ _ rfl (Nat.le_refl _), (Below.refl _ _).alloc (Nat.le_refl _) _⟩
      case round =>
        obtain ⟨j, ns, B, c, hj, rfl, rfl, hns, hnj, hlen, hcn, hrown, hBi⟩ := hrel
        have hzi := hBi.size
        by_cases hltj : j < ys.length
        · obtain ⟨b1, o1, rfl, hl1, f0, i0⟩ := Row.int HRow.out hltj
          replace f0 := (hBi.cell (p := ⟨b1, o1 + j, none⟩) hl1).trans f0
          have hl2 : b1 < wr.heap.size := by omega
          have HYs := Lib.hid (fun h => filt_yes (p := fun y => decide (y < kx)) hltj h)
          have HNs := Lib.hid (fun h => filt_no (p := fun y => decide (y < kx)) hltj h)
          obtain ⟨y, hyy⟩ : ∃ y, ys[j] = y := ⟨_, rfl⟩
          rw [hyy] at f0 i0 HYs HNs
          have hyi := i0
          clear hyy
          by_cases hc : y < kx
          · have HY := Lib.hid (HYs.out (decide_eq_true hc))
            have hd : decide (y < kx) = true := decide_eq_true hc
            have hzz : w2.heap.size ≤ (wr.alloc (.cells #[.int .i64 y] 3)).heap.size := by simp; omega
            clear hc HYs HNs
            go_wp2_with (at_builtin; refine wpList_app (α := Int) rfl _ _ rfl rfl rfl (hrown.allocC _) hlen hcn rfl rfl (src_newb _ y hyi _ _ _ (by first | rfl | simp) rfl) (disj_none_ _) (by omega) ?_; intro A' cap' w4 h1 h2 h3 h4)
            go_roundw
            case rel => exact ⟨j + 1, ns ++ [y], A', cap', by omega, by go_num, by simp, Lib.hid (by rw [HY.out, hns.out, List.append_assoc]), by simp; omega, by simpa using h1, h2, row_nw h3 hzz, (hBi.alloc hzi _).trans (h4.to_below hzz (fun b hb => hb))⟩
            case measure => simp [intOf]; omega
          · have HY := Lib.hid (HNs.out (decide_eq_false hc))
            have hd : decide (y < kx) = false := decide_eq_false hc
            clear hc HYs HNs
            go_wp2
            go_roundw
            case rel => exact ⟨j + 1, ns, B, c, by omega, by go_num, rfl, Lib.hid (by rw [HY.out, hns.out]), by omega, hlen, hcn, hrown, hBi⟩
            case measure => simp [intOf]; omega
        · have hje : j = ys.length := by omega
          subst hje
          rw [List.take_length] at hns
          have HL : Hid (ns = ys.filter (fun y => decide (y < kx))) := Lib.hid (by rw [hns.out]; rfl)
          have hLl : ns.length ≤ ys.length := by rw [HL.out]; exact List.length_filter_le _ _
          have hzz : w2.heap.size ≤ (wr.alloc (.cells #[.int .i64 kx] 3)).heap.size := by simp; omega
          go_wp2_with (at_builtin; refine wpList_app (α := Int) rfl _ _ rfl rfl rfl (hrown.allocC _) hlen hcn rfl rfl (src_newb _ kx hki _ _ _ (by first | rfl | simp) rfl) (disj_none_ _) (by omega) ?_; intro A' cap' w4 h1 h2 h3 h4)
          have q3 := row_nw h3 hzz
          have q4 := (hBi.alloc hzi _).trans (h4.to_below hzz (fun b hb => hb))
          have q1 := h1; have q2 := h2
          clear h1 h2 h3 h4 hzz hrown hBi hns hzi
          obtain ⟨ns0, hns0⟩ : ∃ l, l = ns := ⟨_, rfl⟩
          subst hns0
          go_loopw [6, 8] (fun u i wi => ∃ (j : Nat) (ns : List Int) (B : Option Addr) (c : Nat), j ≤ ys.length ∧ i = .int .i64 j ∧ u = .slice B ns.length c ∧ Hid (ns = (ns0 ++ [kx]) ++ (ys.take j).filter (fun y => decide (kx < y))) ∧ ns.length ≤ 1048578 + j ∧ ns.length ≤ c ∧ c ≤ maxLen ∧ Row true wi B c ns (nw w2.heap.size) ∧ Below w2.heap.size w2 wi) (fun _ i _ => ys.length - (intOf i).toNat)
          case atStart => exact ⟨0, ns0 ++ [kx], A', cap', Nat.zero_le _, rfl, by simp, Lib.hid (by simp), by have := hLl; simp; omega, by simpa using q1, q2, q3, q4⟩
          case round =>
            obtain ⟨j, ns, B, c, hj, rfl, rfl, hns, hnj, hlen, hcn, hrown, hBi⟩ := hrel
            have hzi := hBi.size
            by_cases hltj : j < ys.length
            · obtain ⟨b1, o1, rfl, hl1, f0, i0⟩ := Row.int HRow.out hltj
              replace f0 := (hBi.cell (p := ⟨b1, o1 + j, none⟩) hl1).trans f0
              have hl2 : b1 < wr.heap.size := by omega
              have HYs := Lib.hid (fun h => filt_yes (p := fun y => decide (kx < y)) hltj h)
              have HNs := Lib.hid (fun h => filt_no (p := fun y => decide (kx < y)) hltj h)
              obtain ⟨y, hyy⟩ : ∃ y, ys[j] = y := ⟨_, rfl⟩
              rw [hyy] at f0 i0 HYs HNs
              have hyi := i0
              clear hyy
              by_cases hc : kx < y
              · have HY := Lib.hid (HYs.out (decide_eq_true hc))
                have hd : decide (kx < y) = true := decide_eq_true hc
                have hzz : w2.heap.size ≤ (wr.alloc (.cells #[.int .i64 y] 3)).heap.size := by simp; omega
                clear hc HYs HNs
                go_wp2_with (at_builtin; refine wpList_app (α := Int) rfl _ _ rfl rfl rfl (hrown.allocC _) hlen hcn rfl rfl (src_newb _ y hyi _ _ _ (by first | rfl | simp) rfl) (disj_none_ _) (by omega) ?_; intro A' cap' w4 h1 h2 h3 h4)
                go_roundw
                case rel => exact ⟨j + 1, ns ++ [y], A', cap', by omega, by go_num, by simp, Lib.hid (by rw [HY.out, hns.out, List.append_assoc]), by simp; omega, by simpa using h1, h2, row_nw h3 hzz, (hBi.alloc hzi _).trans (h4.to_below hzz (fun b hb => hb))⟩
                case measure => simp [intOf]; omega
              · have HY := Lib.hid (HNs.out (decide_eq_false hc))
                have hd : decide (kx < y) = false := decide_eq_false hc
                clear hc HYs HNs
                go_wp2
                go_roundw
                case rel => exact ⟨j + 1, ns, B, c, by omega, by go_num, rfl, Lib.hid (by rw [HY.out, hns.out]), by omega, hlen, hcn, hrown, hBi⟩
                case measure => simp [intOf]; omega
            · have hje : j = ys.length := by omega
              subst hje
              rw [List.take_length] at hns
              have HI : Hid (ns = insI ys kx) := Lib.hid (by rw [hns.out, HL.out, List.append_assoc]; unfold insI; rfl)
              have HF : Hid (ns = foldT (insF idxKey) [] xs (k + 1)) := Lib.hid (by rw [HI.out]; exact HSucc.out)
              have hlk : ns.length ≤ k + 1 := by rw [HF.out]; exact insT_len idxKey xs (k + 1) (by omega)
              go_wp2
              go_roundw
              case rel => exact ⟨k + 1, ns, B, c, by omega, by go_num, rfl, HF, hlk, hlen, hcn, hrown.mono (fun b hb => Nat.le_trans hB2.size hb), hB2.trans (hBi.mono hB2.size)⟩
              case measure => simp [intOf]; omega
    · have hke : k = xs.length := by omega
      subst hke
      have HI : Hid (ys = indexesOf xs) := Lib.hid (by rw [hys.out]; exact rising_all idxKey xs)
      go_wp2
      go_ret
      exact ⟨A, cap, ret_slice (by rw [HI.out]), by rw [← HI.out]; exact hle, hcm, by rw [← HI.out]; exact to_rng hrow, hB⟩
end Go.Proofs.YtojbehmbeoemgaaDoor
