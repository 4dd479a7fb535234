/- A part of the proof: what the laws need of it. -/
import Derived.Test.YtgllafgpmenjjaaGreatDoorHReL19xSg
import Derived.Test.YtgllafgpmenjjaaGreatDoorHReL9xBy
set_option linter.unusedVariables false
set_option linter.unusedSimpArgs false
set_option linter.unusedVariables false
set_option linter.unusedSimpArgs false
namespace Go.Proofs.YtgllafgpmenjjaaGreatDoor
open Go.RowKit Lay Mk
def One (w : World) (g : Nat) (t : TypeId) (v : Value) : Prop := w.heap[g]? = some (.cells #[v] t (0, 0))
theorem One.lt {w : World} {g : Nat} {t : TypeId} {v : Value} (h : One w g t v) : g < w.heap.size := heap_lt h
theorem One.cell {w : World} {g : Nat} {t : TypeId} {v : Value} (h : One w g t v) : w.cell? ⟨g, 0, none⟩ = some v := by rw [cell_of_row w g 0 _ _ (0, 0) h]; rfl
theorem One.frozen {w : World} {g : Nat} {t : TypeId} {v : Value} (h : One w g t v) : w.frozen? ⟨g, 0, none⟩ = false := frozen_of_row w g 0 _ _ h
theorem One.set {w : World} {g : Nat} {t : TypeId} {v : Value} (h : One w g t v) (u : Value) : One (w.setCell ⟨g, 0, none⟩ u) g t u := by
  unfold One at *
  simp only [World.setCell, Array.getElem?_modify, h]
  simp
theorem One.keep {w w' : World} {g : Nat} {t : TypeId} {v : Value} (h : One w g t v) (k : w'.heap[g]? = w.heap[g]?) : One w' g t v := k.trans h
theorem One.below {w w' : World} {B g : Nat} {t : TypeId} {v : Value} (h : One w g t v) (hb : Below B w w') (hB : g < B) : One w' g t v := h.keep (hb.block g hB)
theorem One.later {w w' : World} {g : Nat} {t : TypeId} {v : Value} (h : One w g t v) (hb : Below w.heap.size w w') : One w' g t v := h.below hb h.lt
theorem One.chg {w w' : World} {S : Blks} {g : Nat} {t : TypeId} {v : Value} (h : One w g t v) (hb : Chg S w w') (hn : ¬ S g) : One w' g t v := h.keep (hb.block g h.lt hn)
theorem One.alloc {w : World} {g : Nat} {t : TypeId} {v : Value} (h : One w g t v) (o : Obj) : One (w.alloc o) g t v := h.keep (Below.heap_alloc w o g (heap_lt h))
theorem One.new (w : World) (t : TypeId) (v : Value) : One (w.alloc (.cells #[v] t)) w.heap.size t v := heap_alloc_new w _
theorem row_one (w : World) (t : ByteArray) (h : t.size ≤ maxLen) (ty : TypeId) : Row false (w.alloc (.cells #[.string t] ty)) (some ⟨w.heap.size, 0, none⟩) 1 [t] (fun q => q = w.heap.size) := by
  refine row_box 1 [t] ?_
  intro j hj
  have hj : j = 0 := by simpa using hj
  subst hj
  exact ⟨box_cell _ _ _ _ _ rfl, by simpa using h⟩
theorem row_pair (w : World) (s t : ByteArray) (hs : s.size ≤ maxLen) (h : t.size ≤ maxLen) (ty : TypeId) : Row false (w.alloc (.cells #[.string s, .string t] ty)) (some ⟨w.heap.size, 0, none⟩) 2 [s, t] (fun q => q = w.heap.size) := by
  refine row_box 2 [s, t] ?_
  intro j hj
  have hj : j = 0 ∨ j = 1 := by simp at hj; omega
  rcases hj with rfl | rfl
  · exact ⟨box_cell _ _ _ _ _ rfl, by simpa using hs⟩
  · exact ⟨box_cell _ _ _ _ _ rfl, by simpa using h⟩
theorem ml {n k : Nat} (h : n ≤ k) (hk : k ≤ 1000000) : n ≤ maxLen := by unfold maxLen; omega

set_option maxRecDepth 20000 in set_option maxHeartbeats 4000000 in
theorem impl_SignBitsOf (w : World) (t : ByteArray) (ht : t.size ≤ 200) (hT : Tabs w) : Calls Tryz.prog 191 #[.string t] w fun e w' => e = .returned (.int .i64 (signBits t)) ∧ Below w.heap.size w w' := by
  have hok := tag_one (kind := 7) (s := t) (by decide) ht
  have hs := tagHash_size hok
  have HI : Hid (∀ h, (signBits t : Int) = ((tagHash 7 [t] 16)[0]'h).toNat) := Lib.hid (fun h => by rw [signBits_at h])
  have hne : ((tagHash 7 [t] 16).toList == ([] : List UInt8)) = false := by
    rw [empty_eq, decide_eq_false_iff_not]; intro h; rw [h] at hs; exact absurd hs (by decide)
  clear hok
  go_enter Tryz.func191, Tryz.ntmps191
  go_wp2_with (fail)
  refine (impl_hashOf _ 7 (by unfold I64; omega) [t] _ _ _ (row_one w t (ml ht (by omega)) _) (by simp) 16 (by unfold I64; omega) (hT.later ((Below.refl _ _).alloc (Nat.le_refl _) _))).mono ?_
  rintro e1 w1 ⟨rfl, hb⟩
  have hB : Below w.heap.size w w1 := ((Below.refl _ _).alloc (Nat.le_refl _) _).trans (hb.mono (by simp))
  go_wp2
  go_ret
  exact ⟨by rw [HI.out (by rw [hs]; omega)]; exact ret_int (IntWalk.wrap64_in _ (by have := ((tagHash 7 [t] 16)[0]'(by rw [hs]; omega)).toNat_lt; omega)), hB⟩

set_option maxRecDepth 20000 in set_option maxHeartbeats 4000000 in
theorem spec_SignBitsOf (w : World) (t : ByteArray) (ht : t.size ≤ 200) : Calls Tryz.prog 171 #[.string t] w fun e w' => e = .returned (.int .i64 (signBits t)) ∧ Below w.heap.size w w' := by
  have hok := tag_one (kind := 7) (s := t) (by decide) ht
  have hs := tagHash_size hok
  have HI : Hid (∀ h, (signBits t : Int) = ((tagHash 7 [t] 16)[0]'h).toNat) := Lib.hid (fun h => by rw [signBits_at h])
  have hne : ((tagHash 7 [t] 16).toList == ([] : List UInt8)) = false := by
    rw [empty_eq, decide_eq_false_iff_not]; intro h; rw [h] at hs; exact absurd hs (by decide)
  clear hok
  go_enter Tryz.func171, Tryz.ntmps171
  go_wp2_with (fail)
  refine (spec_TagHash _ 7 (by unfold I64; omega) [t] _ _ _ (row_one w t (ml ht (by omega)) _) (by simp) 16 (by unfold I64; omega)).mono ?_
  rintro e1 w1 ⟨rfl, hb⟩
  have hB : Below w.heap.size w w1 := ((Below.refl _ _).alloc (Nat.le_refl _) _).trans (hb.mono (by simp))
  go_wp2
  go_ret
  exact ⟨by rw [HI.out (by rw [hs]; omega)]; exact ret_int (IntWalk.wrap64_in _ (by have := ((tagHash 7 [t] 16)[0]'(by rw [hs]; omega)).toNat_lt; omega)), hB⟩

end Go.Proofs.YtgllafgpmenjjaaGreatDoor

set_option linter.unusedVariables false
set_option linter.unusedSimpArgs false
namespace Go.Proofs.YtgllafgpmenjjaaGreatDoor
open Go.RowKit Lay Mk
set_option maxRecDepth 20000 in set_option maxHeartbeats 8000000 in
theorem spec_ChainOk (w : World) (xs : List Head) (A : Option Addr) (cap : Nat) (S : Blks) (hx : Row false w A cap xs S) (hl : xs.length ≤ 4000000000) (house : Int) : Calls Tryz.prog 89 #[.slice A xs.length cap, .int .i64 house] w fun e w' => e = .returned (.bool (chainOk xs house)) ∧ Below w.heap.size w w' := by
  go_enter Tryz.func89, Tryz.ntmps89
  go_wp2
  go_loopw [5] (fun i wr => ∃ k : Nat, k ≤ xs.length ∧ i = .int .i64 k ∧ Hid (∀ j, j < k → chainP xs house j = true) ∧ Below w.heap.size w wr) (fun i _ => xs.length - (intOf i).toNat)
  case atStart => exact ⟨0, Nat.zero_le _, rfl, Lib.hid upto_zero, Below.refl _ _⟩
  case round =>
    obtain ⟨k, hk, rfl, hall, hB⟩ := hrel
    have hz := hB.size
    by_cases hlt : k < xs.length
    · obtain ⟨b1, o1, rfl, hl1, f0, f1, f2, f3, -, -, -, -⟩ := Row.atHead hx hlt
      have c0 := Grown.cell ((hB.cell (p := ⟨b1, o1 + k * 4, none⟩) hl1).trans f0)
      have c1 := Grown.cell ((hB.cell (p := ⟨b1, o1 + k * 4 + 1, none⟩) hl1).trans f1)
      have c2 := Grown.cell ((hB.cell (p := ⟨b1, o1 + k * 4 + 2, none⟩) hl1).trans f2)
      have c3 := Grown.cell ((hB.cell (p := ⟨b1, o1 + k * 4 + 3, none⟩) hl1).trans f3)
      have HP := Lib.hid (chainP_at (house := house) hlt)
      have HBd := Lib.hid (chainOk_bad (house := house) hlt)
      have HN := Lib.hid (upto_succ (p := chainP xs house) hall.out)
      have htk : (xs.take k).length = k := by rw [List.length_take]; omega
      have HL : Hid (∀ j (h : j < xs.length), k = j + 1 → lastHash (xs.take k) = headHash xs[j]) := Lib.hid (fun j h e => by subst e; exact last_take h)
      have HL0 : Hid (k = 0 → lastHash (xs.take k) = ⟨#[]⟩) := Lib.hid (fun e => by subst e; rfl)
      obtain ⟨x, hxx⟩ : ∃ x, xs[k] = x := ⟨_, rfl⟩
      rw [hxx] at c0 c1 c2 c3 HP
      have HC0 := Lib.hid (chain_prev0 (x := x))
      clear hxx f0 f1 f2 f3
      obtain ⟨lh, hlh⟩ : ∃ l, lastHash (xs.take k) = l := ⟨_, rfl⟩
      rw [hlh] at HP HL HL0
      clear hlh htk
      obtain ⟨xh, xe, xr, xp⟩ := x
      dsimp only at HP c0 c1 c2 c3 HC0
      have hBz : Hid (Below w.heap.size w wr ∧ w.heap.size ≤ wr.heap.size) := Lib.hid ⟨hB, hz⟩
      have hkx : k < xs.length := hlt
      clear hB hz
      have HOK : Hid (∀ W', Calls Tryz.prog 132 #[.agg (Head.cs ⟨xh, xe, xr, xp⟩).toArray] W' fun e w' => e = .returned (.bool (headOk ⟨xh, xe, xr, xp⟩)) ∧ Below W'.heap.size W' w') := Lib.hid (fun W' => spec_HeadOk ⟨xh, xe, xr, xp⟩ W')
      cases hok : headOk ⟨xh, xe, xr, xp⟩
      · have HF : Hid (chainOk xs house = false) := Lib.hid (HBd.out (by rw [HP.out, hok]; rfl))
        rw [hok] at HOK
        go_wp2
        refine wp_region_grown (by kernel_rfl) (by kernel_rfl) ?_
        repeat (go_big_quiet_step (first | (go_at_call 132; exact grown_call (HOK.out _)) | (go_at_call 77; exact grown_call (HHH.out _))))
        refine wpQuiet_nil ?_
        intro w2 hw2
        have hR := grown_below hw2
        clear hw2
        go_wp2
        go_ret
        exact ⟨ret_bool (by rw [HF.out]), hBz.out.1.trans (hR.mono hBz.out.2)⟩
      rw [hok] at HOK
      have HG : Hid (chainP xs house k = (decide (xh = house) && decide (xe = k + 1) && decide (xp = lh))) := Lib.hid (by rw [HP.out, hok]; simp)
      have hte : (xp.toList = lh.toList) = (xp = lh) := by apply propext; exact ⟨toList_inj, fun h => by rw [h]⟩
      by_cases h1 : xh = house
      · subst h1
        by_cases h2 : xe = k + 1
        · subst h2
          rcases Nat.eq_zero_or_pos k with h0 | h0
          · have hp0 : xp = lh := by
              rw [HL0.out h0]; exact HC0.out hok (by rw [h0]; rfl)
            have HF : Hid (∀ q, q < k + 1 → chainP xs xh q = true) := Lib.hid (HN.out (by rw [HG.out, decide_eq_true hp0]; simp))
            subst h0
            simp only [Nat.zero_mul, Nat.add_zero] at c0 c1 c2 c3
            clear hp0 hte
            go_wp2
            refine wp_region_grown (by kernel_rfl) (by kernel_rfl) ?_
            repeat (go_big_quiet_step (first | (go_at_call 132; exact grown_call (HOK.out _)) | (go_at_call 77; exact grown_call (HHH.out _))))
            refine wpQuiet_nil ?_
            intro w2 hw2
            have hR := grown_below hw2
            clear hw2
            go_wp2
            go_roundw
            case rel => exact ⟨0 + 1, by omega, by go_num, HF, hBz.out.1.trans (hR.mono hBz.out.2)⟩
            case measure => simp [intOf]; omega
          · obtain ⟨j, rfl⟩ : ∃ j, k = j + 1 := ⟨k - 1, by omega⟩
            have hj : j < xs.length := by omega
            obtain ⟨b2, o2, hbe, hl3, g0, g1, g2, g3, -, -, -, -⟩ := Row.atHead hx hj
            injection hbe with hbe
            injection hbe with hb1 hb2
            subst hb1 hb2
            have d0 := Grown.cell ((hBz.out.1.cell (p := ⟨b1, o1 + j * 4, none⟩) hl3).trans g0)
            have d1 := Grown.cell ((hBz.out.1.cell (p := ⟨b1, o1 + j * 4 + 1, none⟩) hl3).trans g1)
            have d2 := Grown.cell ((hBz.out.1.cell (p := ⟨b1, o1 + j * 4 + 2, none⟩) hl3).trans g2)
            have d3 := Grown.cell ((hBz.out.1.cell (p := ⟨b1, o1 + j * 4 + 3, none⟩) hl3).trans g3)
            obtain ⟨y, hy⟩ : ∃ y, xs[j] = y := ⟨_, rfl⟩
            have HHH : Hid (∀ W', Calls Tryz.prog 77 #[.agg (Head.cs y).toArray] W' fun e w' => e = .returned (.string lh) ∧ Below W'.heap.size W' w') := Lib.hid (fun W' => by
              rw [HL.out j hj rfl, hy]; exact spec_HeadHash y W')
            rw [hy] at d0 d1 d2 d3
            clear hy g0 g1 g2 g3 h0
            have hjj : (((j + 1 : Nat) : Int) - 1) = j := by omega
            by_cases h3 : xp = lh
            · have HF : Hid (∀ q, q < j + 1 + 1 → chainP xs xh q = true) := Lib.hid (HN.out (by rw [HG.out, decide_eq_true h3]; simp))
              subst h3
              clear hte
              go_wp2
              refine wp_region_grown (by kernel_rfl) (by kernel_rfl) ?_
              repeat (go_big_quiet_step (first | (go_at_call 132; exact grown_call (HOK.out _)) | (go_at_call 77; exact grown_call (HHH.out _))))
              refine wpQuiet_nil ?_
              intro w2 hw2
              have hR := grown_below hw2
              clear hw2
              go_wp2
              go_roundw
              case rel => exact ⟨j + 1 + 1, by omega, by go_num, HF, hBz.out.1.trans (hR.mono hBz.out.2)⟩
              case measure => simp [intOf]; omega
            · have HF : Hid (chainOk xs xh = false) := Lib.hid (HBd.out (by rw [HG.out, decide_eq_false h3]; simp))
              have hn := str_ne h3
              clear hte
              go_wp2
              refine wp_region_grown (by kernel_rfl) (by kernel_rfl) ?_
              repeat (go_big_quiet_step (first | (go_at_call 132; exact grown_call (HOK.out _)) | (go_at_call 77; exact grown_call (HHH.out _))))
              refine wpQuiet_nil ?_
              intro w2 hw2
              have hR := grown_below hw2
              clear hw2
              go_wp2
              go_ret
              exact ⟨ret_bool (by rw [HF.out]), hBz.out.1.trans (hR.mono hBz.out.2)⟩
        · have HF : Hid (chainOk xs xh = false) := Lib.hid (HBd.out (by rw [HG.out, decide_eq_false h2]; simp))
          have hn : (xe != (k : Int) + 1) = true := by rw [bne_iff_ne]; exact h2
          go_wp2
          refine wp_region_grown (by kernel_rfl) (by kernel_rfl) ?_
          repeat (go_big_quiet_step (first | (go_at_call 132; exact grown_call (HOK.out _)) | (go_at_call 77; exact grown_call (HHH.out _))))
          refine wpQuiet_nil ?_
          intro w2 hw2
          have hR := grown_below hw2
          clear hw2
          go_wp2
          go_ret
          exact ⟨ret_bool (by rw [HF.out]), hBz.out.1.trans (hR.mono hBz.out.2)⟩
      · have HF : Hid (chainOk xs house = false) := Lib.hid (HBd.out (by rw [HG.out, decide_eq_false h1]; simp))
        have hn : (xh != house) = true := by rw [bne_iff_ne]; exact h1
        go_wp2
        refine wp_region_grown (by kernel_rfl) (by kernel_rfl) ?_
        repeat (go_big_quiet_step (first | (go_at_call 132; exact grown_call (HOK.out _)) | (go_at_call 77; exact grown_call (HHH.out _))))
        refine wpQuiet_nil ?_
        intro w2 hw2
        have hR := grown_below hw2
        clear hw2
        go_wp2
        go_ret
        exact ⟨ret_bool (by rw [HF.out]), hBz.out.1.trans (hR.mono hBz.out.2)⟩
    · have hke : k = xs.length := by omega
      subst hke
      have HE := Lib.hid (chainOk_end hall.out)
      go_wp2
      go_ret
      exact ⟨ret_bool (by rw [HE.out]), hB⟩
end Go.Proofs.YtgllafgpmenjjaaGreatDoor
