/- Walk: is a list of heads a chain (the reference). -/
import Derived.Test.YthgonaodmpegfaaGreatDoorHc
set_option linter.unusedVariables false
set_option linter.unusedSimpArgs false
namespace Go.Proofs.YthgonaodmpegfaaGreatDoor
open Go.RowKit Lay Mk
set_option maxRecDepth 20000 in set_option maxHeartbeats 8000000 in
theorem spec_ChainOk (w : World) (xs : List Head) (A : Option Addr) (cap : Nat) (S : Blks) (hx : Row false w A cap xs S) (hl : xs.length ≤ 4000000000) (house : Int) : Calls Tryz.prog 40 #[.slice A xs.length cap, .int .i64 house] w fun e w' => e = .returned (.bool (chainOk xs house)) ∧ Below w.heap.size w w' := by
  go_enter Tryz.func40, Tryz.ntmps40
  go_wp2
  go_loopw [5] (fun i wr => ∃ k : Nat, k ≤ xs.length ∧ i = .int .i64 k ∧ Hid (∀ j, j < k → chainP xs house j = true) ∧ Below w.heap.size w wr) (fun i _ => xs.length - (intOf i).toNat)
  case atStart => exact ⟨0, Nat.zero_le _, rfl, Lib.hid upto_zero, Below.refl _ _⟩
  case round =>
    obtain ⟨k, hk, rfl, hall, hB⟩ := hrel
    have hz := hB.size
    by_cases hlt : k < xs.length
    · obtain ⟨b1, o1, rfl, hl1, f0, f1, f2, f3, -, -, -, -⟩ := Row.atHead hx hlt
      have c0 := Grown.cell ((hB.cell (p := ⟨b1, o1 + k * 4, none⟩) hl1).trans f0)
      have c1 := Grown.cell ((hB.cell (p := ⟨b1, o1 + k * 4 + 1, none⟩) hl1).trans f1)
      have c2 := Grown.cell ((hB.cell (p := ⟨b1, o1 + k * 4 + 2, none⟩) hl1).trans f2)
      have c3 := Grown.cell ((hB.cell (p := ⟨b1, o1 + k * 4 + 3, none⟩) hl1).trans f3)
      have HP := Lib.hid (chainP_at (house := house) hlt)
      have HBd := Lib.hid (chainOk_bad (house := house) hlt)
      have HN := Lib.hid (upto_succ (p := chainP xs house) hall.out)
      have htk : (xs.take k).length = k := by rw [List.length_take]; omega
      have HL : Hid (∀ j (h : j < xs.length), k = j + 1 → lastHash (xs.take k) = headHash xs[j]) := Lib.hid (fun j h e => by subst e; exact last_take h)
      have HL0 : Hid (k = 0 → lastHash (xs.take k) = ⟨#[]⟩) := Lib.hid (fun e => by subst e; rfl)
      obtain ⟨x, hxx⟩ : ∃ x, xs[k] = x := ⟨_, rfl⟩
      rw [hxx] at c0 c1 c2 c3 HP
      have HC0 := Lib.hid (chain_prev0 (x := x))
      clear hxx f0 f1 f2 f3
      obtain ⟨lh, hlh⟩ : ∃ l, lastHash (xs.take k) = l := ⟨_, rfl⟩
      rw [hlh] at HP HL HL0
      clear hlh htk
      obtain ⟨xh, xe, xr, xp⟩ := x
      dsimp only at HP c0 c1 c2 c3 HC0
      have hBz : Hid (Below w.heap.size w wr ∧ w.heap.size ≤ wr.heap.size) := Lib.hid ⟨hB, hz⟩
      have hkx : k < xs.length := hlt
      clear hB hz
      have HOK : Hid (∀ W', Calls Tryz.prog 87 #[.agg (Head.cs ⟨xh, xe, xr, xp⟩).toArray] W' fun e w' => e = .returned (.bool (headOk ⟨xh, xe, xr, xp⟩)) ∧ Below W'.heap.size W' w') := Lib.hid (fun W' => spec_HeadOk ⟨xh, xe, xr, xp⟩ W')
      cases hok : headOk ⟨xh, xe, xr, xp⟩
      · have HF : Hid (chainOk xs house = false) := Lib.hid (HBd.out (by rw [HP.out, hok]; rfl))
        rw [hok] at HOK
        go_wp2
        refine wp_region_grown (by kernel_rfl) (by kernel_rfl) ?_
        repeat (go_big_quiet_step (first | (go_at_call 87; exact grown_call (HOK.out _)) | (go_at_call 55; exact grown_call (HHH.out _))))
        refine wpQuiet_nil ?_
        intro w2 hw2
        have hR := grown_below hw2
        clear hw2
        go_wp2
        go_ret
        exact ⟨ret_bool (by rw [HF.out]), hBz.out.1.trans (hR.mono hBz.out.2)⟩
      rw [hok] at HOK
      have HG : Hid (chainP xs house k = (decide (xh = house) && decide (xe = k + 1) && decide (xp = lh))) := Lib.hid (by rw [HP.out, hok]; simp)
      have hte : (xp.toList = lh.toList) = (xp = lh) := by apply propext; exact ⟨toList_inj, fun h => by rw [h]⟩
      by_cases h1 : xh = house
      · subst h1
        by_cases h2 : xe = k + 1
        · subst h2
          rcases Nat.eq_zero_or_pos k with h0 | h0
          · have hp0 : xp = lh := by
              rw [HL0.out h0]; exact HC0.out hok (by rw [h0]; rfl)
            have HF : Hid (∀ q, q < k + 1 → chainP xs xh q = true) := Lib.hid (HN.out (by rw [HG.out, decide_eq_true hp0]; simp))
            subst h0
            simp only [Nat.zero_mul, Nat.add_zero] at c0 c1 c2 c3
            clear hp0 hte
            go_wp2
            refine wp_region_grown (by kernel_rfl) (by kernel_rfl) ?_
            repeat (go_big_quiet_step (first | (go_at_call 87; exact grown_call (HOK.out _)) | (go_at_call 55; exact grown_call (HHH.out _))))
            refine wpQuiet_nil ?_
            intro w2 hw2
            have hR := grown_below hw2
            clear hw2
            go_wp2
            go_roundw
            case rel => exact ⟨0 + 1, by omega, by go_num, HF, hBz.out.1.trans (hR.mono hBz.out.2)⟩
            case measure => simp [intOf]; omega
          · obtain ⟨j, rfl⟩ : ∃ j, k = j + 1 := ⟨k - 1, by omega⟩
            have hj : j < xs.length := by omega
            obtain ⟨b2, o2, hbe, hl3, g0, g1, g2, g3, -, -, -, -⟩ := Row.atHead hx hj
            injection hbe with hbe
            injection hbe with hb1 hb2
            subst hb1 hb2
            have d0 := Grown.cell ((hBz.out.1.cell (p := ⟨b1, o1 + j * 4, none⟩) hl3).trans g0)
            have d1 := Grown.cell ((hBz.out.1.cell (p := ⟨b1, o1 + j * 4 + 1, none⟩) hl3).trans g1)
            have d2 := Grown.cell ((hBz.out.1.cell (p := ⟨b1, o1 + j * 4 + 2, none⟩) hl3).trans g2)
            have d3 := Grown.cell ((hBz.out.1.cell (p := ⟨b1, o1 + j * 4 + 3, none⟩) hl3).trans g3)
            obtain ⟨y, hy⟩ : ∃ y, xs[j] = y := ⟨_, rfl⟩
            have HHH : Hid (∀ W', Calls Tryz.prog 55 #[.agg (Head.cs y).toArray] W' fun e w' => e = .returned (.string lh) ∧ Below W'.heap.size W' w') := Lib.hid (fun W' => by
              rw [HL.out j hj rfl, hy]; exact spec_HeadHash y W')
            rw [hy] at d0 d1 d2 d3
            clear hy g0 g1 g2 g3 h0
            have hjj : (((j + 1 : Nat) : Int) - 1) = j := by omega
            by_cases h3 : xp = lh
            · have HF : Hid (∀ q, q < j + 1 + 1 → chainP xs xh q = true) := Lib.hid (HN.out (by rw [HG.out, decide_eq_true h3]; simp))
              subst h3
              clear hte
              go_wp2
              refine wp_region_grown (by kernel_rfl) (by kernel_rfl) ?_
              repeat (go_big_quiet_step (first | (go_at_call 87; exact grown_call (HOK.out _)) | (go_at_call 55; exact grown_call (HHH.out _))))
              refine wpQuiet_nil ?_
              intro w2 hw2
              have hR := grown_below hw2
              clear hw2
              go_wp2
              go_roundw
              case rel => exact ⟨j + 1 + 1, by omega, by go_num, HF, hBz.out.1.trans (hR.mono hBz.out.2)⟩
              case measure => simp [intOf]; omega
            · have HF : Hid (chainOk xs xh = false) := Lib.hid (HBd.out (by rw [HG.out, decide_eq_false h3]; simp))
              have hn := str_ne h3
              clear hte
              go_wp2
              refine wp_region_grown (by kernel_rfl) (by kernel_rfl) ?_
              repeat (go_big_quiet_step (first | (go_at_call 87; exact grown_call (HOK.out _)) | (go_at_call 55; exact grown_call (HHH.out _))))
              refine wpQuiet_nil ?_
              intro w2 hw2
              have hR := grown_below hw2
              clear hw2
              go_wp2
              go_ret
              exact ⟨ret_bool (by rw [HF.out]), hBz.out.1.trans (hR.mono hBz.out.2)⟩
        · have HF : Hid (chainOk xs xh = false) := Lib.hid (HBd.out (by rw [HG.out, decide_eq_false h2]; simp))
          have hn : (xe != (k : Int) + 1) = true := by rw [bne_iff_ne]; exact h2
          go_wp2
          refine wp_region_grown (by kernel_rfl) (by kernel_rfl) ?_
          repeat (go_big_quiet_step (first | (go_at_call 87; exact grown_call (HOK.out _)) | (go_at_call 55; exact grown_call (HHH.out _))))
          refine wpQuiet_nil ?_
          intro w2 hw2
          have hR := grown_below hw2
          clear hw2
          go_wp2
          go_ret
          exact ⟨ret_bool (by rw [HF.out]), hBz.out.1.trans (hR.mono hBz.out.2)⟩
      · have HF : Hid (chainOk xs house = false) := Lib.hid (HBd.out (by rw [HG.out, decide_eq_false h1]; simp))
        have hn : (xh != house) = true := by rw [bne_iff_ne]; exact h1
        go_wp2
        refine wp_region_grown (by kernel_rfl) (by kernel_rfl) ?_
        repeat (go_big_quiet_step (first | (go_at_call 87; exact grown_call (HOK.out _)) | (go_at_call 55; exact grown_call (HHH.out _))))
        refine wpQuiet_nil ?_
        intro w2 hw2
        have hR := grown_below hw2
        clear hw2
        go_wp2
        go_ret
        exact ⟨ret_bool (by rw [HF.out]), hBz.out.1.trans (hR.mono hBz.out.2)⟩
    · have hke : k = xs.length := by omega
      subst hke
      have HE := Lib.hid (chainOk_end hall.out)
      go_wp2
      go_ret
      exact ⟨ret_bool (by rw [HE.out]), hB⟩
end Go.Proofs.YthgonaodmpegfaaGreatDoor
