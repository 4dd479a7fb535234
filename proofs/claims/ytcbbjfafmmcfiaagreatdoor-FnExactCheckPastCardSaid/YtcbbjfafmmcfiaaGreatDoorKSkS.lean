/- Is a signature right (the reference). -/
import Derived.Test.YtcbbjfafmmcfiaaGreatDoorKSn
set_option linter.unusedVariables false
set_option linter.unusedSimpArgs false
namespace Go.Proofs.YtcbbjfafmmcfiaaGreatDoor
open Go.RowKit Lay Mk
set_option maxRecDepth 20000 in set_option maxHeartbeats 4000000 in
theorem spec_LockOf (w : World) (s : ByteArray) (hs : s.size ≤ 200) : Calls Tryz.prog 290 #[.string s] w fun e w' => e = .returned (.string (lockOf s)) ∧ Below w.heap.size w w' := by
  go_enter Tryz.func290, Tryz.ntmps290
  go_wp2_with (fail)
  refine (spec_TagHash _ 6 (by unfold I64; omega) [s] _ _ _ (row_one w s (ml hs (by omega)) _) (by simp) 16 (by unfold I64; omega)).mono ?_
  rintro e5 w5 ⟨rfl, hb5⟩
  go_wp2
  go_ret
  exact ⟨rfl, Below.via hb5⟩
set_option maxRecDepth 20000 in set_option maxHeartbeats 8000000 in
theorem spec_SigOk (w : World) (root t : ByteArray) (x : Sig) (cs : List Value) (S : Blks) (hx : rd false w cs x S) : Calls Tryz.prog 248 #[.string root, .string t, .agg cs.toArray] w fun e w' => e = .returned (.bool (sigOk root t x)) ∧ Below w.heap.size w w' := by
  have HForm := Lib.hid (fun W h => spec_form W x cs S (Lay.later hx h))
  have HOK : Hid (sigOk root t x = ((sigForm x && decide (t.size ≤ 200)) && decide (sigRoot t x = root))) := Lib.hid rfl
  obtain ⟨A0, k0, S0, A1, k1, S1, A2, k2, S2, rfl, ha, l0, m0, r0, _, l1, m1, r1, _, l2, m2, r2, _⟩ := Sig.open hx
  clear hx
  cases hok : (sigForm x && decide (t.size ≤ 200))
  · rw [hok] at HOK
    cases hf : sigForm x
    · rw [hf] at HForm
      simp only [Sig.cs]
      simp only [Sig.cs] at HForm
      go_enter Tryz.func248, Tryz.ntmps248
      go_wp2_with (fail)
      refine (HForm.out _ ((Below.refl _ _).alloc (Nat.le_refl _) _)).mono ?_
      rintro e1 w1 ⟨rfl, hb1⟩
      go_wp2
      go_ret
      exact ⟨ret_bool (by rw [HOK.out]; rfl), Below.via hb1⟩
    · rw [hf] at HForm hok
      have h200 : 200 < t.size := by simpa using hok
      simp only [Sig.cs]
      simp only [Sig.cs] at HForm
      go_enter Tryz.func248, Tryz.ntmps248
      go_wp2_with (fail)
      refine (HForm.out _ ((Below.refl _ _).alloc (Nat.le_refl _) _)).mono ?_
      rintro e1 w1 ⟨rfl, hb1⟩
      go_wp2
      go_ret
      exact ⟨ret_bool (by rw [HOK.out]; rfl), Below.via hb1⟩
  rw [hok] at HOK
  have hf : sigForm x = true := by rw [Bool.and_eq_true] at hok; exact hok.1
  have h200 : t.size ≤ 200 := by rw [Bool.and_eq_true] at hok; simpa using hok.2
  rw [hf] at HForm
  obtain ⟨⟨ha0, ha1⟩, hw0, hw1, hw2⟩ := form_parts hf
  obtain ⟨n0, z0⟩ := wide_at hw0
  obtain ⟨n1, z1⟩ := wide_at hw1
  obtain ⟨n2, z2⟩ := wide_at hw2
  have HRoot : Hid (sigRoot t x = climb (tagHash 6 (locksTo (signBits t) x 8) 16) x.at_.toNat x.sides) := Lib.hid rfl
  have hbl := signBits_lt t
  obtain ⟨at_, op, sh, si⟩ := x
  obtain ⟨a, rfl⟩ : ∃ a : Nat, at_ = a := ⟨at_.toNat, by simp only at ha0; omega⟩
  simp only at ha l0 m0 r0 l1 m1 r1 l2 m2 r2 ha0 ha1 hw0 hw1 hw2 n0 z0 n1 z1 n2 z2
  simp only [Sig.cs]
  simp only [Sig.cs] at HForm
  rw [n0, n1, n2] at HForm
  rw [n0, n1, n2]
  go_enter Tryz.func248, Tryz.ntmps248
  have hV : ∀ v, v = w.alloc (.cells #[.int .i64 (a : Int), .slice A0 8 k0, .slice A1 8 k1, .slice A2 4 k2] 103) → Below w.heap.size w v ∧ v.cell? ⟨w.heap.size, 0, none⟩ = some (.int .i64 (a : Int)) ∧ v.cell? ⟨w.heap.size, 1, none⟩ = some (.slice A0 8 k0) ∧ v.cell? ⟨w.heap.size, 2, none⟩ = some (.slice A1 8 k1) ∧ v.cell? ⟨w.heap.size, 3, none⟩ = some (.slice A2 4 k2) ∧ w.heap.size < v.heap.size := by
    rintro v rfl
    exact ⟨(Below.refl _ _).alloc (Nat.le_refl _) _, box_cell _ _ _ _ _ rfl, box_cell _ _ _ _ _ rfl, box_cell _ _ _ _ _ rfl, box_cell _ _ _ _ _ rfl, by simp⟩
  go_wp2_with (fail)
  refine (HForm.out _ ((Below.refl _ _).alloc (Nat.le_refl _) _)).mono ?_
  rintro e1 w1 ⟨rfl, hb1⟩
  obtain ⟨hBv, c0, c1, c2, c3, hsz⟩ := hV _ rfl
  obtain ⟨v, hv⟩ : ∃ v, w.alloc (.cells #[.int .i64 (a : Int), .slice A0 8 k0, .slice A1 8 k1, .slice A2 4 k2] 103) = v := ⟨_, rfl⟩
  rw [hv] at hBv c0 c1 c2 c3 hsz hb1
  clear hv hV HForm
  replace c0 := (hb1.cell (p := ⟨w.heap.size, 0, none⟩) hsz).trans c0
  replace c1 := (hb1.cell (p := ⟨w.heap.size, 1, none⟩) hsz).trans c1
  replace c2 := (hb1.cell (p := ⟨w.heap.size, 2, none⟩) hsz).trans c2
  replace c3 := (hb1.cell (p := ⟨w.heap.size, 3, none⟩) hsz).trans c3
  have hB1 : Below w.heap.size w w1 := hBv.trans (hb1.mono (Nat.le_of_lt hsz))
  have hs1 : w.heap.size < w1.heap.size := Nat.lt_of_lt_of_le hsz hb1.size
  clear hBv hb1 hsz
  have q0 : Row false w1 A0 k0 op S0 := Row.later r0 hB1
  have q1 : Row false w1 A1 k1 sh S1 := Row.later r1 hB1
  have q2 : Row false w1 A2 k2 si S2 := Row.later r2 hB1
  clear r0 r1 r2 l0 l1 l2 m0 m1 m2 hw0 hw1 hw2
  go_wp2_with (fail)
  refine (spec_SignBitsOf _ t h200).mono ?_
  rintro e2 w2 ⟨rfl, hb2⟩
  obtain ⟨bits, hbits⟩ : ∃ b, signBits t = b := ⟨_, rfl⟩
  rw [hbits] at hbl HRoot ⊢
  clear hbits
  have hz2 := hb2.size
  obtain ⟨g, hg⟩ : ∃ g, w1.heap.size = g := ⟨_, rfl⟩
  simp only [hg] at hb2 hz2 hs1 ⊢
  have H2 := Lib.hid (hb2.alloc hz2 (.cells #[] 9)); have H1 := Lib.hid hB1; have HG := Lib.hid hg
  have hr0 := Lib.hid (row_lit0 (α := ByteArray) w2 9 (fun b => g ≤ b) rfl hz2)
  have hgw : w.heap.size ≤ g := Nat.le_of_lt hs1
  clear hb2 hB1 hg
  go_wp2
  go_loopw [8, 9] (fun u i wr => ∃ (k : Nat) (L : List ByteArray) (A : Option Addr) (c : Nat), k ≤ 8 ∧ i = .int .i64 k ∧ u = .slice A L.length c ∧ Hid (L = locksTo bits ⟨(a : Int), op, sh, si⟩ k) ∧ L.length ≤ 2 * k ∧ L.length ≤ c ∧ c ≤ maxLen ∧ Hid (Row true wr A c L (fun b => g ≤ b)) ∧ Hid (Below g w1 wr) ∧ g ≤ wr.heap.size) (fun _ i _ => 8 - (intOf i).toNat)
  case atStart => exact ⟨0, [], some ⟨w2.heap.size, 0, none⟩, 0, by omega, rfl, rfl, Lib.hid rfl, by simp, by simp, by decide, hr0, H2, by simp; omega⟩
  case round =>
    clear hr0 H2 hz2
    obtain ⟨k, L, A, c, hk, rfl, rfl, HL, hLk, hLc, hcm, HRa, HB, hgz⟩ := hrel
    by_cases hlt : k < 8
    · obtain ⟨b1, o1, rfl, hl1, f0, s0⟩ := Row.str q0 (i := k) (by rw [n0]; exact hlt)
      obtain ⟨b2, o2, rfl, hl2, f1, s1⟩ := Row.str q1 (i := k) (by rw [n1]; exact hlt)
      have g0 := HB.out.cell (p := ⟨b1, o1 + k, none⟩) (by rw [← HG.out]; exact hl1)
      have g1 := HB.out.cell (p := ⟨w.heap.size, 1, none⟩) hs1
      rw [f0] at g0
      rw [c1] at g1
      have hosz := z0 _ (List.getElem_mem (show k < op.length by rw [n0]; exact hlt))
      have hssz := z1 _ (List.getElem_mem (show k < sh.length by rw [n1]; exact hlt))
      have HP0 : Hid (bitOf bits k = 0 → locksTo bits ⟨(a : Int), op, sh, si⟩ (k + 1) = L ++ [lockOf (op[k]'(show k < op.length by rw [n0]; exact hlt)), sh[k]'(show k < sh.length by rw [n1]; exact hlt)]) := Lib.hid (fun e => by rw [locksTo, ← HL.out, pair_zero e, getD_at (show k < op.length by rw [n0]; exact hlt), getD_at (show k < sh.length by rw [n1]; exact hlt)])
      have HP1 : Hid (bitOf bits k ≠ 0 → locksTo bits ⟨(a : Int), op, sh, si⟩ (k + 1) = L ++ [sh[k]'(show k < sh.length by rw [n1]; exact hlt), lockOf (op[k]'(show k < op.length by rw [n0]; exact hlt))]) := Lib.hid (fun e => by rw [locksTo, ← HL.out, pair_one e, getD_at (show k < op.length by rw [n0]; exact hlt), getD_at (show k < sh.length by rw [n1]; exact hlt)])
      obtain ⟨y, hy⟩ : ∃ y, op[k]'(show k < op.length by rw [n0]; exact hlt) = y := ⟨_, rfl⟩
      obtain ⟨z, hz⟩ : ∃ z, sh[k]'(show k < sh.length by rw [n1]; exact hlt) = z := ⟨_, rfl⟩
      rw [hy] at hosz HP0 HP1
      simp only [hy] at g0
      rw [hz] at hssz HP0 HP1
      simp only [hz] at f1
      have HF1 := Lib.hid f1
      clear hy hz f0 f1 s0 s1 hl1
      have hym : y.size ≤ maxLen := ml (Nat.le_of_eq hosz) (by omega)
      have hzm : z.size ≤ maxLen := ml (Nat.le_of_eq hssz) (by omega)
      have hlk : (lockOf y).size = 16 := lockOf_size (by omega)
      go_wp2_with (fail)
      refine (spec_LockOf _ y (by omega)).mono ?_
      rintro e5 w5 ⟨rfl, hb5⟩
      obtain ⟨lk, hlkk⟩ : ∃ l, lockOf y = l := ⟨_, rfl⟩
      rw [hlkk] at HP0 HP1 hlk ⊢
      have hlm : lk.size ≤ maxLen := ml (Nat.le_of_eq hlk) (by omega)
      clear hlkk g0 g1
      have hz5 := hb5.size
      have HR5 := Lib.hid (Row.later HRa.out hb5)
      have HB5 := Lib.hid (HB.out.trans (hb5.mono (by rw [← HG.out]; exact HB.out.size)))
      have d1 := HB5.out.cell (p := ⟨w.heap.size, 2, none⟩) hs1
      rw [c2] at d1
      have d2 := (HB5.out.cell (p := ⟨b2, o2 + k, none⟩) (by rw [← HG.out]; exact hl2)).trans HF1.out
      clear hb5 HF1
      by_cases hbit : bitOf bits k = 0
      · have hbz : ((bitOf bits k : Int) == 0) = true := by rw [beq_iff_eq]; omega
        have HN := Lib.hid (HP0.out hbit)
        go_wp2_with (first | (go_at_call 249; refine (spec_BitOf _ bits hbl k hlt).mono ?_; rintro e9 w9 ⟨rfl, rfl⟩) | (at_builtin; refine wpList_app (α := ByteArray) (xs := L) rfl _ _ rfl rfl rfl (Row.allocC HR5.out _) hLc hcm rfl rfl (Src.flat (row_pair w5 lk z hlm hzm _)) (disj_none_ _) (by omega) ?_; intro A6 c6 w6 p1 p2 p3 p4))
        have hz6 := p4.size
        rw [World.size_alloc] at hz6
        go_roundw
        case rel =>
          exact ⟨k + 1, L ++ [lk, z], A6, c6, by omega, by go_num, by rw [List.length_append]; rfl, Lib.hid HN.out.symm, by rw [List.length_append]; simp; omega, by rw [List.length_append]; exact p1, p2, Lib.hid (p3.mono (fun b hb => by
            rw [World.size_alloc] at hb
            rcases hb with hb | hb | hb
            · exact hb
            · exact hb.elim
            · show g ≤ b; omega)), Lib.hid ((HB5.out.alloc (by rw [← HG.out]; exact HB5.out.size) _).trans (p4.to_below (by rw [World.size_alloc]; omega) (fun b hb => hb))), by omega⟩
        case measure => simp [intOf]; omega
      · have hbz : ((bitOf bits k : Int) == 0) = false := by rw [beq_eq_false_iff_ne]; omega
        have HN := Lib.hid (HP1.out hbit)
        go_wp2_with (first | (go_at_call 249; refine (spec_BitOf _ bits hbl k hlt).mono ?_; rintro e9 w9 ⟨rfl, rfl⟩) | (at_builtin; refine wpList_app (α := ByteArray) (xs := L) rfl _ _ rfl rfl rfl (Row.allocC HR5.out _) hLc hcm rfl rfl (Src.flat (row_pair w5 z lk hzm hlm _)) (disj_none_ _) (by omega) ?_; intro A6 c6 w6 p1 p2 p3 p4))
        have hz6 := p4.size
        rw [World.size_alloc] at hz6
        go_roundw
        case rel =>
          exact ⟨k + 1, L ++ [z, lk], A6, c6, by omega, by go_num, by rw [List.length_append]; rfl, Lib.hid HN.out.symm, by rw [List.length_append]; simp; omega, by rw [List.length_append]; exact p1, p2, Lib.hid (p3.mono (fun b hb => by
            rw [World.size_alloc] at hb
            rcases hb with hb | hb | hb
            · exact hb
            · exact hb.elim
            · show g ≤ b; omega)), Lib.hid ((HB5.out.alloc (by rw [← HG.out]; exact HB5.out.size) _).trans (p4.to_below (by rw [World.size_alloc]; omega) (fun b hb => hb))), by omega⟩
        case measure => simp [intOf]; omega
    · have hke : k = 8 := by omega
      subst hke
      have HR2 : Hid (sigRoot t ⟨(a : Int), op, sh, si⟩ = climb (tagHash 6 L 16) a si) := Lib.hid (by rw [HRoot.out, HL.out]; rfl)
      have HTk : Hid (tagOk 6 L = true) := Lib.hid (by rw [HL.out]; exact locks_ok hf)
      have hh := tagHash_size HTk.out
      go_wp2_with (fail)
      refine (spec_TagHash _ 6 (by unfold I64; omega) L A c _ (HRa.out.weak) (by omega) 16 (by unfold I64; omega)).mono ?_
      rintro e5 w5 ⟨rfl, hb5⟩
      obtain ⟨h, hhe⟩ : ∃ h, tagHash 6 L 16 = h := ⟨_, rfl⟩
      rw [hhe] at HR2 hh ⊢
      have HB5 := Lib.hid (HB.out.trans (hb5.mono (by rw [← HG.out]; exact HB.out.size)))
      have g1 := HB5.out.cell (p := ⟨w.heap.size, 0, none⟩) hs1
      rw [c0] at g1
      clear hhe hb5 HTk
      go_wp2
      go_loopw [11, 12, 13] (fun u v i wr => ∃ (k a' : Nat) (h : ByteArray), k ≤ 4 ∧ i = .int .i64 k ∧ u = .string h ∧ v = .int .i64 a' ∧ a' ≤ 15 ∧ h.size = 16 ∧ Hid (sigRoot t ⟨(a : Int), op, sh, si⟩ = climb h a' (si.drop k)) ∧ Hid (Below g w1 wr)) (fun _ _ i _ => 4 - (intOf i).toNat)
      case atStart => exact ⟨0, a, h, by omega, rfl, rfl, rfl, by omega, hh, Lib.hid (by rw [HR2.out]; simp), HB5⟩
      case round =>
        clear HR2 HB5 g1 HRa HB hh
        obtain ⟨k, a', h, hk, rfl, rfl, rfl, ha', hh, HR2, HB⟩ := hrel
        have d3 := HB.out.cell (p := ⟨w.heap.size, 3, none⟩) hs1
        rw [c3] at d3
        by_cases hlt : k < 4
        · obtain ⟨b1, o1, rfl, hl1, f0, s0⟩ := Row.str q2 (i := k) (by rw [n2]; exact hlt)
          have g0 := HB.out.cell (p := ⟨b1, o1 + k, none⟩) (by rw [← HG.out]; exact hl1)
          rw [f0] at g0
          have hsz := z2 _ (List.getElem_mem (show k < si.length by rw [n2]; exact hlt))
          have HD : Hid (si.drop k = si[k]'(show k < si.length by rw [n2]; exact hlt) :: si.drop (k + 1)) := Lib.hid (List.drop_eq_getElem_cons (show k < si.length by rw [n2]; exact hlt))
          obtain ⟨y, hy⟩ : ∃ y, si[k]'(show k < si.length by rw [n2]; exact hlt) = y := ⟨_, rfl⟩
          rw [hy] at hsz HD
          simp only [hy] at g0
          clear hy f0 s0
          have hym : y.size ≤ maxLen := ml (Nat.le_of_eq hsz) (by omega)
          have hhm : h.size ≤ maxLen := ml (Nat.le_of_eq hh) (by omega)
          by_cases hpar : a' % 2 = 0
          · have HTok := Lib.hid (tag_two (kind := 3) (s := h) (t := y) (by decide) (by omega) (by omega))
            have hh2s := tagHash_size HTok.out
            have HR3 : Hid (sigRoot t ⟨(a : Int), op, sh, si⟩ = climb (tagHash 3 [h, y] 16) (a' / 2) (si.drop (k + 1))) := Lib.hid (by rw [HR2.out, HD.out, climb_even hpar])
            have hp1 : ((a' : Int) % 2 == 0) = true := by rw [beq_iff_eq]; omega
            have hp2 : ((a' : Int).tmod 2 == 0) = true := by rw [Int.tmod_eq_emod_of_nonneg (by omega)]; exact hp1
            have hdv : (a' : Int).tdiv 2 = (a' : Int) / 2 := Int.tdiv_eq_ediv_of_nonneg (by omega)
            clear HR2 HD hpar
            go_wp2_with (fail)
            refine (spec_TagHash _ 3 (by unfold I64; omega) [h, y] _ _ _ (row_pair wr h y hhm hym _) (by simp) 16 (by unfold I64; omega)).mono ?_
            rintro e5 w5 ⟨rfl, hb5⟩
            obtain ⟨h2, hh2⟩ : ∃ h2, tagHash 3 [h, y] 16 = h2 := ⟨_, rfl⟩
            rw [hh2] at hh2s HR3 ⊢
            have HB5 := Lib.hid (HB.out.trans ((Below.via hb5).mono (by rw [← HG.out]; exact HB.out.size)))
            clear hh2 hb5
            go_wp2
            go_roundw
            case rel => exact ⟨k + 1, a' / 2, h2, by omega, by go_num, rfl, by first | (congr 1; omega) | (simp; done), by omega, hh2s, HR3, HB5⟩
            case measure => simp [intOf]; omega
          · have HTok := Lib.hid (tag_two (kind := 3) (s := y) (t := h) (by decide) (by omega) (by omega))
            have hh2s := tagHash_size HTok.out
            have HR3 : Hid (sigRoot t ⟨(a : Int), op, sh, si⟩ = climb (tagHash 3 [y, h] 16) (a' / 2) (si.drop (k + 1))) := Lib.hid (by rw [HR2.out, HD.out, climb_odd hpar])
            have hp1 : ((a' : Int) % 2 == 0) = false := by rw [beq_eq_false_iff_ne]; omega
            have hp2 : ((a' : Int).tmod 2 == 0) = false := by rw [Int.tmod_eq_emod_of_nonneg (by omega)]; exact hp1
            have hdv : (a' : Int).tdiv 2 = (a' : Int) / 2 := Int.tdiv_eq_ediv_of_nonneg (by omega)
            clear HR2 HD hpar
            go_wp2_with (fail)
            refine (spec_TagHash _ 3 (by unfold I64; omega) [y, h] _ _ _ (row_pair wr y h hym hhm _) (by simp) 16 (by unfold I64; omega)).mono ?_
            rintro e5 w5 ⟨rfl, hb5⟩
            obtain ⟨h2, hh2⟩ : ∃ h2, tagHash 3 [y, h] 16 = h2 := ⟨_, rfl⟩
            rw [hh2] at hh2s HR3 ⊢
            have HB5 := Lib.hid (HB.out.trans ((Below.via hb5).mono (by rw [← HG.out]; exact HB.out.size)))
            clear hh2 hb5
            go_wp2
            go_roundw
            case rel => exact ⟨k + 1, a' / 2, h2, by omega, by go_num, rfl, by first | (congr 1; omega) | (simp; done), by omega, hh2s, HR3, HB5⟩
            case measure => simp [intOf]; omega
        · have hke : k = 4 := by omega
          subst hke
          have HE : Hid (sigRoot t ⟨(a : Int), op, sh, si⟩ = h) := Lib.hid (by rw [HR2.out, List.drop_of_length_le (by omega)]; rfl)
          have HW0 := Lib.hid ((H1.out.trans (HB.out.mono hgw)))
          by_cases hroot : h = root
          · have hse := str_eq hroot
            rw [HE.out, decide_eq_true hroot] at HOK
            clear hroot
            go_wp2
            go_ret
            exact ⟨ret_bool (by rw [HOK.out]; rfl), HW0.out⟩
          · have hse := str_ne hroot
            rw [HE.out, decide_eq_false hroot] at HOK
            clear hroot
            go_wp2
            go_ret
            exact ⟨ret_bool (by rw [HOK.out]; rfl), HW0.out⟩
end Go.Proofs.YtcbbjfafmmcfiaaGreatDoor
