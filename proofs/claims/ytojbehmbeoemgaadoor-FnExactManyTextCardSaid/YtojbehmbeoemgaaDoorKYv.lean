/- The text of a proof of several names, both sides. -/
import Derived.Test.YtojbehmbeoemgaaDoorKYt
import Derived.Test.YtojbehmbeoemgaaDoorKYu
set_option linter.unusedVariables false
set_option linter.unusedSimpArgs false
namespace Go.Proofs.YtojbehmbeoemgaaDoor
open Go.RowKit Lay Mk
def bText (b : List Leaf) : ByteArray := shT (leavesT b)
def textA (m : Many) : ByteArray := varT m.names.length ++ catAll (m.names.map shT)
def textB (m : Many) : ByteArray := textA m ++ varT m.buckets.length ++ catAll (m.buckets.map bText)
def manyT (m : Many) : ByteArray := textB m ++ varT m.sides.length ++ catAll (m.sides.map id)
def manyText (m : Many) (n : Int) : ByteArray × Bool := if (manyRoot m n).2 = true then (manyT m, true) else (nilB, false)
theorem mt_no {m : Many} {n : Int} (h : (manyRoot m n).2 = false) : manyText m n = (nilB, false) := by unfold manyText; rw [if_neg (by simp [h])]
theorem mt_yes {m : Many} {n : Int} (h : (manyRoot m n).2 = true) : manyText m n = (manyT m, true) := by unfold manyText; rw [if_pos h]
theorem mt_form {m : Many} {n : Int} (h : (manyRoot m n).2 = true) : manyForm m n = true := by
  cases hf : manyForm m n
  · rw [many_no hf] at h; cases h
  · rfl
theorem mt_facts {m : Many} {n : Int} (h : (manyRoot m n).2 = true) : m.names.length ≤ 8 ∧ (∀ s ∈ m.names, s.size ≤ 12) ∧ (∀ b ∈ m.buckets, leavesOk b = true) ∧ (∀ s ∈ m.sides, s.size ≤ 32) := by
  obtain ⟨h1, h2, h3, h4, h5⟩ := form_facts_many (mt_form h)
  unfold namesFit at h1
  simp only [Bool.and_eq_true, List.all_eq_true] at h1
  have h6 : 1 ≤ (m.names.length : Int) ∧ (m.names.length : Int) ≤ 8 := by simpa [inB] using h1.2
  have h7 : 1 ≤ n ∧ n ≤ 32 := by simpa [inB] using h3
  refine ⟨by omega, fun s hs => name_size (h1.1 s hs), fun b hb => ?_, fun s hs => ?_⟩
  · obtain ⟨k, hk, rfl⟩ := List.getElem_of_mem hb
    exact fit_leaves (h5 k hk)
  · unfold wideG at h4
    have h8 := List.all_eq_true.1 h4 s hs
    have h9 : (s.size : Int) = n := by simpa using h8
    omega
theorem bText_le {b : List Leaf} (h : leavesOk b = true) : (bText b).size ≤ 826 := by
  have h1 := leavesT_le h
  have := shT_size (s := leavesT b) (by omega)
  unfold bText; omega
set_option maxRecDepth 20000 in set_option maxHeartbeats 8000000 in
theorem impl_ManyText (w : World) (m : Many) (cs : List Value) (S : Blks) (hx : rd false w cs m S) (hz : m.sz ≤ 1048576) (n : Int) (hn : I64 n) (hT : Tabs w) : Calls Tryd.prog 45 #[.agg cs.toArray, .int .i64 n] w (MrRes (manyText m n) w) := by
  have HX1 := Lib.hid hx
  obtain ⟨hz0, hz1, hz2⟩ := many_parts hz
  obtain ⟨A0, k0, S0, A1, k1, S1, A2, k2, S2, rfl, -, -, r0, -, -, -, r1, -, -, -, r2, -⟩ := Many.open hx
  simp only [Many.cs] at HX1 ⊢
  clear hx
  have hnl : m.names.length ≤ 1048576 := by have := szT_le m.names 0; omega
  have hbl : m.buckets.length ≤ 1048576 := by have := szT_le m.buckets 0; omega
  have hsl : m.sides.length ≤ 1048576 := by have := szT_le m.sides 0; omega
  have HRT := Lib.hid (fun W (h : Below w.heap.size w W) => impl_ManyRoot W m _ S (Lay.later HX1.out h) hz n hn (hT.later h))
  have HNO := Lib.hid (fun h => mt_no (m := m) (n := n) h)
  have HYE := Lib.hid (fun h => mt_yes (m := m) (n := n) h)
  have HFC := Lib.hid (fun h => mt_facts (m := m) (n := n) h)
  obtain ⟨R, hR⟩ : ∃ R, manyText m n = R := ⟨_, rfl⟩
  rw [hR] at HNO HYE ⊢
  clear hR hz
  obtain ⟨Q, hQ⟩ : ∃ Q, manyRoot m n = Q := ⟨_, rfl⟩
  rw [hQ] at HRT HNO HYE HFC
  clear hQ
  obtain ⟨rt, z⟩ := Q
  simp only at HNO HYE HFC
  have HV1 := Lib.hid (fun W => impl_varText m.names.length W (by omega))
  have HV2 := Lib.hid (fun W => impl_varText m.buckets.length W (by omega))
  have HV3 := Lib.hid (fun W => impl_varText m.sides.length W (by omega))
  have hv1 := varT_le (n := m.names.length) (by omega)
  have hv2 := varT_le (n := m.buckets.length) (by omega)
  have hv3 := varT_le (n := m.sides.length) (by omega)
  have HTA : Hid (textA m = varT m.names.length ++ catAll (m.names.map shT)) := Lib.hid rfl
  have HTB : Hid (textB m = textA m ++ varT m.buckets.length ++ catAll (m.buckets.map bText)) := Lib.hid rfl
  have HTC : Hid (manyT m = textB m ++ varT m.sides.length ++ catAll (m.sides.map id)) := Lib.hid rfl
  obtain ⟨V1, hV1⟩ : ∃ v, varT m.names.length = v := ⟨_, rfl⟩
  rw [hV1] at HV1 hv1 HTA
  obtain ⟨V2, hV2⟩ : ∃ v, varT m.buckets.length = v := ⟨_, rfl⟩
  rw [hV2] at HV2 hv2 HTB
  obtain ⟨V3, hV3⟩ : ∃ v, varT m.sides.length = v := ⟨_, rfl⟩
  rw [hV3] at HV3 hv3 HTC
  clear hV1 hV2 hV3
  obtain ⟨W, hW⟩ : ∃ W, w.alloc (.cells #[.slice A0 m.names.length k0, .slice A1 m.buckets.length k1, .slice A2 m.sides.length k2] 51) = W := ⟨_, rfl⟩
  have hWf : Below w.heap.size w W ∧ w.heap.size < W.heap.size ∧ W.cell? ⟨w.heap.size, 0, none⟩ = some (.slice A0 m.names.length k0) ∧ W.cell? ⟨w.heap.size, 1, none⟩ = some (.slice A1 m.buckets.length k1) ∧ W.cell? ⟨w.heap.size, 2, none⟩ = some (.slice A2 m.sides.length k2) := by
    rw [← hW]; exact ⟨(Below.refl _ _).alloc (Nat.le_refl _) _, by simp, box_cell _ _ _ _ _ rfl, box_cell _ _ _ _ _ rfl, box_cell _ _ _ _ _ rfl⟩
  obtain ⟨hBW, hlW, c0, c1, c2⟩ := hWf
  have HBW := Lib.hid hBW
  have HALL := Lib.hid (fun (w' : World) (h : Below W.heap.size W w') => (⟨(h.cell (p := ⟨w.heap.size, 0, none⟩) hlW).trans c0, (h.cell (p := ⟨w.heap.size, 1, none⟩) hlW).trans c1, (h.cell (p := ⟨w.heap.size, 2, none⟩) hlW).trans c2⟩ : w'.cell? ⟨w.heap.size, 0, none⟩ = some (.slice A0 m.names.length k0) ∧ w'.cell? ⟨w.heap.size, 1, none⟩ = some (.slice A1 m.buckets.length k1) ∧ w'.cell? ⟨w.heap.size, 2, none⟩ = some (.slice A2 m.sides.length k2)))
  have RN := Lib.hid r0
  have RB := Lib.hid r1
  have RS := Lib.hid r2
  clear hBW r0 r1 r2
  go_enter Tryd.func45, Tryd.ntmps45
  go_wp2_with (fail)
  clear hW
  refine (HRT.out _ HBW.out).mono ?_
  rintro e1 w1 ⟨rfl, hb1⟩
  have HB1 := Lib.hid hb1
  have HB1w := Lib.hid (HBW.out.trans (hb1.mono HBW.out.size))
  clear c0 c1 c2 hb1 HRT
  obtain ⟨c0, c1, c2⟩ := HALL.out w1 HB1.out
  cases z
  · have HE := Lib.hid (HNO.out (by first | rfl | trivial))
    go_wp2
    go_ret2
    exact MrRes.mk HE.out HB1w.out
  have HE := Lib.hid (HYE.out (by first | rfl | trivial))
  obtain ⟨hn8, hns, hbo, hss⟩ := HFC.out (by first | rfl | trivial)
  have HNS := Lib.hid hns
  have HBO := Lib.hid hbo
  have HCN := Lib.hid (fun k => cat_bound shT 17 (fun s hs => by have h1 := hns s hs; have h2 := shT_size (s := s) (by omega); omega) k)
  have HCB := Lib.hid (fun k => cat_bound bText 826 (fun b hb => bText_le (hbo b hb)) k)
  have HCS := Lib.hid (fun k => cat_bound (id : ByteArray → ByteArray) 32 hss k)
  have HSS := Lib.hid hss
  clear hns hbo hss HNO HYE HFC
  go_wp2_with (fail)
  refine (HV1.out _).mono ?_
  rintro e2 w2 ⟨rfl, hb2⟩
  have HB2 := Lib.hid (HB1.out.trans (hb2.mono HB1.out.size))
  clear c0 c1 c2 hb2
  obtain ⟨c0, c1, c2⟩ := HALL.out w2 HB2.out
  go_wp2_with (fail)
  go_loopw [8, 28] (fun u i wr => ∃ k : Nat, k ≤ m.names.length ∧ i = .int .i64 k ∧ u = .string (V1 ++ catAll ((m.names.take k).map shT)) ∧ Below W.heap.size W wr) (fun _ i _ => m.names.length - (intOf i).toNat)
  case atStart => exact ⟨0, Nat.zero_le _, rfl, by rw [show (m.names.take 0).map shT = [] from rfl]; exact congrArg Value.string (cat_nil (V1)).symm, HB2.out⟩
  case round =>
    clear c0 c1 c2
    obtain ⟨k, hk, rfl, rfl, hb⟩ := hrel
    have HBr := Lib.hid hb
    have HBw := Lib.hid (HBW.out.trans (hb.mono HBW.out.size))
    have hlr : W.heap.size ≤ wr.heap.size := hb.size
    have hlx : w.heap.size < wr.heap.size := by omega
    clear hb
    obtain ⟨c0, c1, c2⟩ := HALL.out wr HBr.out
    by_cases hlt : k < m.names.length
    · have hki : (k : Int) < (m.names.length : Int) := by omega
      have hk0 : (0 : Int) ≤ (k : Int) := by omega
      have HST := Lib.hid (cat_step shT hlt)
      have hck := HCN.out k
      have hcb : m.names.length * 17 ≤ 1048576 * 1000 := Nat.mul_le_mul (by omega) (by omega)
      obtain ⟨C, hC⟩ : ∃ c, catAll ((m.names.take k).map shT) = c := ⟨_, rfl⟩
      rw [hC] at HST hck ⊢
      clear hC
      obtain ⟨b1, o1, rfl, hl1', f0, s0⟩ := Row.str RN.out hlt
      replace f0 := (HBw.out.cell (p := ⟨b1, o1 + k, none⟩) hl1').trans f0
      have hl2 : b1 < wr.heap.size := Nat.lt_of_lt_of_le hl1' HBw.out.size
      have hx12 := HNS.out m.names[k] (List.getElem_mem hlt)
      obtain ⟨x, hxx⟩ : ∃ x, m.names[k] = x := ⟨_, rfl⟩
      rw [hxx] at f0 s0 HST hx12
      clear hxx
      have HSH := Lib.hid (impl_shText wr x (by omega))
      have hz1 := shT_size (s := x) (by omega)
      obtain ⟨t1, ht1⟩ : ∃ t, shT x = t := ⟨_, rfl⟩
      rw [ht1] at HSH hz1 HST
      clear ht1
      have q1 : ¬ 9223372036854775807 < (V1 ++ C).size + t1.size := by rw [ByteArray.size_append]; omega
      have q1b : ¬ 9223372036854775807 < V1.size + C.size + t1.size := by omega
      go_wp2_with (fail)
      refine HSH.out.mono ?_
      rintro e5 w5 ⟨rfl, hb5⟩
      have HB5 := Lib.hid (HBr.out.trans (hb5.mono hlr))
      clear hb5
      go_wp2
      go_roundw
      case rel => exact ⟨k + 1, hlt, by go_num, by rw [HST.out]; simp only [cat_assoc], HB5.out⟩
      case measure => simp [intOf]; omega
    · have hke : k = m.names.length := by omega
      subst hke
      simp only [List.take_length]
      rw [← HTA.out]
      have hta : (textA m).size ≤ 2000000 := by rw [HTA.out, ByteArray.size_append]; have h9 := HCN.out m.names.length; rw [List.take_length] at h9; omega
      obtain ⟨TA, hTA⟩ : ∃ t, textA m = t := ⟨_, rfl⟩
      rw [hTA] at hta HTB ⊢
      clear hTA HTA
      have q1 : ¬ 9223372036854775807 < TA.size + V2.size := by omega
      go_wp2_with (fail)
      refine (HV2.out _).mono ?_
      rintro e6 w6 ⟨rfl, hb6⟩
      have HB6 := Lib.hid (HBr.out.trans (hb6.mono hlr))
      clear c0 c1 c2 hb6
      obtain ⟨c0, c1, c2⟩ := HALL.out w6 HB6.out
      go_wp2_with (fail)
      go_loopw [8, 46] (fun u i wr => ∃ k : Nat, k ≤ m.buckets.length ∧ i = .int .i64 k ∧ u = .string (TA ++ V2 ++ catAll ((m.buckets.take k).map bText)) ∧ Below W.heap.size W wr) (fun _ i _ => m.buckets.length - (intOf i).toNat)
      case atStart => exact ⟨0, Nat.zero_le _, rfl, by rw [show (m.buckets.take 0).map bText = [] from rfl]; exact congrArg Value.string (cat_nil (TA ++ V2)).symm, HB6.out⟩
      case round =>
        clear c0 c1 c2
        obtain ⟨k, hk, rfl, rfl, hb⟩ := hrel
        have HBr := Lib.hid hb
        have HBw := Lib.hid (HBW.out.trans (hb.mono HBW.out.size))
        have hlr : W.heap.size ≤ wr.heap.size := hb.size
        have hlx : w.heap.size < wr.heap.size := by omega
        clear hb
        obtain ⟨c0, c1, c2⟩ := HALL.out wr HBr.out
        by_cases hlt : k < m.buckets.length
        · have hki : (k : Int) < (m.buckets.length : Int) := by omega
          have hk0 : (0 : Int) ≤ (k : Int) := by omega
          have HST := Lib.hid (cat_step bText hlt)
          have hck := HCB.out k
          have hcb : m.buckets.length * 826 ≤ 1048576 * 1000 := Nat.mul_le_mul (by omega) (by omega)
          obtain ⟨C, hC⟩ : ∃ c, catAll ((m.buckets.take k).map bText) = c := ⟨_, rfl⟩
          rw [hC] at HST hck ⊢
          clear hC
          obtain ⟨b1, o1, cc, TL, rfl, hl1', ha, hr, -, -⟩ := Row.at_ RB.out hlt
          obtain ⟨AL, kL, rfl, lL, mL, rL⟩ := open_list hr
          have q0 := ha 0 _ rfl
          simp only [show Lay.n (List Leaf) = 1 from rfl, Nat.mul_one, Nat.add_zero] at q0
          clear ha hr
          have hok := HBO.out m.buckets[k] (List.getElem_mem hlt)
          obtain ⟨b, hb_⟩ : ∃ b, m.buckets[k] = b := ⟨_, rfl⟩
          rw [hb_] at rL lL HST hok
          simp only [hb_] at q0
          replace q0 := (HBw.out.cell (p := ⟨b1, o1 + k, none⟩) hl1').trans q0
          have hl2 : b1 < wr.heap.size := Nat.lt_of_lt_of_le hl1' HBw.out.size
          have HLT := Lib.hid (impl_leavesText wr b AL kL TL (Row.later rL HBw.out) hok)
          have hlt8 := leavesT_le hok
          have HBT : Hid (bText b = varT (leavesT b).size ++ leavesT b) := Lib.hid rfl
          obtain ⟨tb, htb⟩ : ∃ t, leavesT b = t := ⟨_, rfl⟩
          rw [htb] at HLT hlt8 HBT
          clear hb_ htb rL lL mL hok
          have HSH := Lib.hid (fun W => impl_shText W tb (by omega))
          have HST2 : Hid (bText b = shT tb) := Lib.hid HBT.out
          have hz1 := shT_size (s := tb) (by omega)
          obtain ⟨t1, ht1⟩ : ∃ t, shT tb = t := ⟨_, rfl⟩
          rw [ht1] at HSH hz1 HST2
          rw [HST2.out] at HST
          clear ht1
          have q1 : ¬ 9223372036854775807 < (TA ++ V2 ++ C).size + t1.size := by rw [ByteArray.size_append, ByteArray.size_append]; omega
          have q1b : ¬ 9223372036854775807 < TA.size + V2.size + C.size + t1.size := by omega
          go_wp2_with (fail)
          refine HLT.out.mono ?_
          rintro e5 w5 ⟨rfl, hb5⟩
          have HB5 := Lib.hid (HBr.out.trans (hb5.mono hlr))
          clear hb5
          go_wp2_with (fail)
          refine (HSH.out _).mono ?_
          rintro e6 w6 ⟨rfl, hb6⟩
          have HB6 := Lib.hid (HB5.out.trans (hb6.mono HB5.out.size))
          clear hb6
          go_wp2
          go_roundw
          case rel => exact ⟨k + 1, hlt, by go_num, by rw [HST.out]; simp only [cat_assoc], HB6.out⟩
          case measure => simp [intOf]; omega
        · have hke : k = m.buckets.length := by omega
          subst hke
          simp only [List.take_length]
          rw [← HTB.out]
          have htb : (textB m).size ≤ 2000000000 := by rw [HTB.out, ByteArray.size_append, ByteArray.size_append]; have h9 := HCB.out m.buckets.length; rw [List.take_length] at h9; omega
          obtain ⟨TB, hTB⟩ : ∃ t, textB m = t := ⟨_, rfl⟩
          rw [hTB] at htb HTC ⊢
          clear hTB HTB
          have q1 : ¬ 9223372036854775807 < TB.size + V3.size := by omega
          have hcs := HCS.out m.sides.length
          rw [List.take_length] at hcs
          have HJN := Lib.hid (fun W' (h : Below w.heap.size w W') => impl_joined W' m.sides A2 k2 S2 (Row.later RS.out h) hsl HSS.out)
          obtain ⟨CJ, hCJ⟩ : ∃ c, catAll (m.sides.map id) = c := ⟨_, rfl⟩
          rw [hCJ] at hcs HJN HTC
          clear hCJ
          have q2 : ¬ 9223372036854775807 < (TB ++ V3).size + CJ.size := by rw [ByteArray.size_append]; omega
          have q2b : ¬ 9223372036854775807 < TB.size + V3.size + CJ.size := by omega
          have hwi := HBw.out.size
          go_wp2_with (fail)
          have Gc2 := Grown.cell c2
          clear c0 c1 c2
          refine wp_region_grown (by kernel_rfl) (by kernel_rfl) ?_
          repeat (go_big_quiet_step (first | (go_at_call 101; with_reducible exact grown_call (HV3.out _)) | (go_at_call 104; exact grown_same (HJN.out _ (HBw.out.trans ((Grown.ok _).mono hwi))))))
          refine wpQuiet_nil ?_
          intro w7 hw_
          have hB7 := grown_below hw_
          clear hw_ Gc2
          go_wp2
          go_ret2
          exact MrRes.mk (by rw [HE.out, HTC.out]) (HBw.out.trans (hB7.mono hwi))
set_option maxRecDepth 20000 in set_option maxHeartbeats 8000000 in
theorem spec_ManyText (w : World) (m : Many) (cs : List Value) (S : Blks) (hx : rd false w cs m S) (hz : m.sz ≤ 1048576) (n : Int) (hn : I64 n) : Calls Tryd.prog 44 #[.agg cs.toArray, .int .i64 n] w (MrRes (manyText m n) w) := by
  have HX1 := Lib.hid hx
  obtain ⟨hz0, hz1, hz2⟩ := many_parts hz
  obtain ⟨A0, k0, S0, A1, k1, S1, A2, k2, S2, rfl, -, -, r0, -, -, -, r1, -, -, -, r2, -⟩ := Many.open hx
  simp only [Many.cs] at HX1 ⊢
  clear hx
  have hnl : m.names.length ≤ 1048576 := by have := szT_le m.names 0; omega
  have hbl : m.buckets.length ≤ 1048576 := by have := szT_le m.buckets 0; omega
  have hsl : m.sides.length ≤ 1048576 := by have := szT_le m.sides 0; omega
  have HRT := Lib.hid (fun W (h : Below w.heap.size w W) => spec_ManyRoot W m _ S (Lay.later HX1.out h) hz n hn)
  have HNO := Lib.hid (fun h => mt_no (m := m) (n := n) h)
  have HYE := Lib.hid (fun h => mt_yes (m := m) (n := n) h)
  have HFC := Lib.hid (fun h => mt_facts (m := m) (n := n) h)
  obtain ⟨R, hR⟩ : ∃ R, manyText m n = R := ⟨_, rfl⟩
  rw [hR] at HNO HYE ⊢
  clear hR hz
  obtain ⟨Q, hQ⟩ : ∃ Q, manyRoot m n = Q := ⟨_, rfl⟩
  rw [hQ] at HRT HNO HYE HFC
  clear hQ
  obtain ⟨rt, z⟩ := Q
  simp only at HNO HYE HFC
  have HV1 := Lib.hid (fun W => spec_l01Var m.names.length W (by omega))
  have HV2 := Lib.hid (fun W => spec_l01Var m.buckets.length W (by omega))
  have HV3 := Lib.hid (fun W => spec_l01Var m.sides.length W (by omega))
  have hv1 := varT_le (n := m.names.length) (by omega)
  have hv2 := varT_le (n := m.buckets.length) (by omega)
  have hv3 := varT_le (n := m.sides.length) (by omega)
  have HTA : Hid (textA m = varT m.names.length ++ catAll (m.names.map shT)) := Lib.hid rfl
  have HTB : Hid (textB m = textA m ++ varT m.buckets.length ++ catAll (m.buckets.map bText)) := Lib.hid rfl
  have HTC : Hid (manyT m = textB m ++ varT m.sides.length ++ catAll (m.sides.map id)) := Lib.hid rfl
  obtain ⟨V1, hV1⟩ : ∃ v, varT m.names.length = v := ⟨_, rfl⟩
  rw [hV1] at HV1 hv1 HTA
  obtain ⟨V2, hV2⟩ : ∃ v, varT m.buckets.length = v := ⟨_, rfl⟩
  rw [hV2] at HV2 hv2 HTB
  obtain ⟨V3, hV3⟩ : ∃ v, varT m.sides.length = v := ⟨_, rfl⟩
  rw [hV3] at HV3 hv3 HTC
  clear hV1 hV2 hV3
  obtain ⟨W, hW⟩ : ∃ W, w.alloc (.cells #[.slice A0 m.names.length k0, .slice A1 m.buckets.length k1, .slice A2 m.sides.length k2] 51) = W := ⟨_, rfl⟩
  have hWf : Below w.heap.size w W ∧ w.heap.size < W.heap.size ∧ W.cell? ⟨w.heap.size, 0, none⟩ = some (.slice A0 m.names.length k0) ∧ W.cell? ⟨w.heap.size, 1, none⟩ = some (.slice A1 m.buckets.length k1) ∧ W.cell? ⟨w.heap.size, 2, none⟩ = some (.slice A2 m.sides.length k2) := by
    rw [← hW]; exact ⟨(Below.refl _ _).alloc (Nat.le_refl _) _, by simp, box_cell _ _ _ _ _ rfl, box_cell _ _ _ _ _ rfl, box_cell _ _ _ _ _ rfl⟩
  obtain ⟨hBW, hlW, c0, c1, c2⟩ := hWf
  have HBW := Lib.hid hBW
  have HALL := Lib.hid (fun (w' : World) (h : Below W.heap.size W w') => (⟨(h.cell (p := ⟨w.heap.size, 0, none⟩) hlW).trans c0, (h.cell (p := ⟨w.heap.size, 1, none⟩) hlW).trans c1, (h.cell (p := ⟨w.heap.size, 2, none⟩) hlW).trans c2⟩ : w'.cell? ⟨w.heap.size, 0, none⟩ = some (.slice A0 m.names.length k0) ∧ w'.cell? ⟨w.heap.size, 1, none⟩ = some (.slice A1 m.buckets.length k1) ∧ w'.cell? ⟨w.heap.size, 2, none⟩ = some (.slice A2 m.sides.length k2)))
  have RN := Lib.hid r0
  have RB := Lib.hid r1
  have RS := Lib.hid r2
  clear hBW r0 r1 r2
  go_enter Tryd.func44, Tryd.ntmps44
  go_wp2_with (fail)
  clear hW
  refine (HRT.out _ HBW.out).mono ?_
  rintro e1 w1 ⟨rfl, hb1⟩
  have HB1 := Lib.hid hb1
  have HB1w := Lib.hid (HBW.out.trans (hb1.mono HBW.out.size))
  clear c0 c1 c2 hb1 HRT
  obtain ⟨c0, c1, c2⟩ := HALL.out w1 HB1.out
  cases z
  · have HE := Lib.hid (HNO.out (by first | rfl | trivial))
    go_wp2
    go_ret2
    exact MrRes.mk HE.out HB1w.out
  have HE := Lib.hid (HYE.out (by first | rfl | trivial))
  obtain ⟨hn8, hns, hbo, hss⟩ := HFC.out (by first | rfl | trivial)
  have HNS := Lib.hid hns
  have HBO := Lib.hid hbo
  have HCN := Lib.hid (fun k => cat_bound shT 17 (fun s hs => by have h1 := hns s hs; have h2 := shT_size (s := s) (by omega); omega) k)
  have HCB := Lib.hid (fun k => cat_bound bText 826 (fun b hb => bText_le (hbo b hb)) k)
  have HCS := Lib.hid (fun k => cat_bound (id : ByteArray → ByteArray) 32 hss k)
  have HSS := Lib.hid hss
  clear hns hbo hss HNO HYE HFC
  go_wp2_with (fail)
  refine (HV1.out _).mono ?_
  rintro e2 w2 ⟨rfl, hb2⟩
  have HB2 := Lib.hid (HB1.out.trans (hb2.mono HB1.out.size))
  clear c0 c1 c2 hb2
  obtain ⟨c0, c1, c2⟩ := HALL.out w2 HB2.out
  go_wp2_with (fail)
  go_loopw [8, 9] (fun u i wr => ∃ k : Nat, k ≤ m.names.length ∧ i = .int .i64 k ∧ u = .string (V1 ++ catAll ((m.names.take k).map shT)) ∧ Below W.heap.size W wr) (fun _ i _ => m.names.length - (intOf i).toNat)
  case atStart => exact ⟨0, Nat.zero_le _, rfl, by rw [show (m.names.take 0).map shT = [] from rfl]; exact congrArg Value.string (cat_nil (V1)).symm, HB2.out⟩
  case round =>
    clear c0 c1 c2
    obtain ⟨k, hk, rfl, rfl, hb⟩ := hrel
    have HBr := Lib.hid hb
    have HBw := Lib.hid (HBW.out.trans (hb.mono HBW.out.size))
    have hlr : W.heap.size ≤ wr.heap.size := hb.size
    have hlx : w.heap.size < wr.heap.size := by omega
    clear hb
    obtain ⟨c0, c1, c2⟩ := HALL.out wr HBr.out
    by_cases hlt : k < m.names.length
    · have hki : (k : Int) < (m.names.length : Int) := by omega
      have hk0 : (0 : Int) ≤ (k : Int) := by omega
      have HST := Lib.hid (cat_step shT hlt)
      have hck := HCN.out k
      have hcb : m.names.length * 17 ≤ 1048576 * 1000 := Nat.mul_le_mul (by omega) (by omega)
      obtain ⟨C, hC⟩ : ∃ c, catAll ((m.names.take k).map shT) = c := ⟨_, rfl⟩
      rw [hC] at HST hck ⊢
      clear hC
      obtain ⟨b1, o1, rfl, hl1', f0, s0⟩ := Row.str RN.out hlt
      replace f0 := (HBw.out.cell (p := ⟨b1, o1 + k, none⟩) hl1').trans f0
      have hl2 : b1 < wr.heap.size := Nat.lt_of_lt_of_le hl1' HBw.out.size
      have hx12 := HNS.out m.names[k] (List.getElem_mem hlt)
      obtain ⟨x, hxx⟩ : ∃ x, m.names[k] = x := ⟨_, rfl⟩
      rw [hxx] at f0 s0 HST hx12
      clear hxx
      have HSH := Lib.hid (fun W => spec_l01Var x.size W (by omega))
      have hz1 := varT_le (n := x.size) (by omega)
      have HSX : Hid (shT x = varT x.size ++ x) := Lib.hid rfl
      obtain ⟨t1, ht1⟩ : ∃ t, varT x.size = t := ⟨_, rfl⟩
      rw [ht1] at HSH hz1 HSX
      clear ht1
      obtain ⟨C2, hC2⟩ : ∃ c, V1 ++ C = c := ⟨_, rfl⟩
      have hc2 : C2.size ≤ 2000000000 := by rw [← hC2, ByteArray.size_append]; omega
      rw [hC2]
      have HC2 := Lib.hid hC2
      clear hC2
      have q1 : ¬ 9223372036854775807 < C2.size + t1.size := by omega
      have q2 : ¬ 9223372036854775807 < (C2 ++ t1).size + x.size := by rw [ByteArray.size_append]; omega
      have q2b : ¬ 9223372036854775807 < C2.size + t1.size + x.size := by omega
      go_wp2_with (fail)
      have Gf0 := Grown.cell f0
      have Gc0 := Grown.cell c0
      clear f0 c0 c1 c2
      refine wp_region_grown (by kernel_rfl) (by kernel_rfl) ?_
      repeat (go_big_quiet_step (first | (go_at_call 99; with_reducible exact grown_call (HSH.out _))))
      refine wpQuiet_nil ?_
      intro w7 hw_
      have hB7 := grown_below hw_
      clear hw_ Gf0 Gc0
      go_wp2
      go_roundw
      case rel => exact ⟨k + 1, hlt, by go_num, by rw [HST.out, HSX.out, ← HC2.out]; simp only [cat_assoc], HBr.out.trans (hB7.mono hlr)⟩
      case measure => simp [intOf]; omega
    · have hke : k = m.names.length := by omega
      subst hke
      simp only [List.take_length]
      rw [← HTA.out]
      have hta : (textA m).size ≤ 2000000 := by rw [HTA.out, ByteArray.size_append]; have h9 := HCN.out m.names.length; rw [List.take_length] at h9; omega
      obtain ⟨TA, hTA⟩ : ∃ t, textA m = t := ⟨_, rfl⟩
      rw [hTA] at hta HTB ⊢
      clear hTA HTA
      have q1 : ¬ 9223372036854775807 < TA.size + V2.size := by omega
      go_wp2_with (fail)
      refine (HV2.out _).mono ?_
      rintro e6 w6 ⟨rfl, hb6⟩
      have HB6 := Lib.hid (HBr.out.trans (hb6.mono hlr))
      clear c0 c1 c2 hb6
      obtain ⟨c0, c1, c2⟩ := HALL.out w6 HB6.out
      go_wp2_with (fail)
      go_loopw [8, 10] (fun u i wr => ∃ k : Nat, k ≤ m.buckets.length ∧ i = .int .i64 k ∧ u = .string (TA ++ V2 ++ catAll ((m.buckets.take k).map bText)) ∧ Below W.heap.size W wr) (fun _ i _ => m.buckets.length - (intOf i).toNat)
      case atStart => exact ⟨0, Nat.zero_le _, rfl, by rw [show (m.buckets.take 0).map bText = [] from rfl]; exact congrArg Value.string (cat_nil (TA ++ V2)).symm, HB6.out⟩
      case round =>
        clear c0 c1 c2
        obtain ⟨k, hk, rfl, rfl, hb⟩ := hrel
        have HBr := Lib.hid hb
        have HBw := Lib.hid (HBW.out.trans (hb.mono HBW.out.size))
        have hlr : W.heap.size ≤ wr.heap.size := hb.size
        have hlx : w.heap.size < wr.heap.size := by omega
        clear hb
        obtain ⟨c0, c1, c2⟩ := HALL.out wr HBr.out
        by_cases hlt : k < m.buckets.length
        · have hki : (k : Int) < (m.buckets.length : Int) := by omega
          have hk0 : (0 : Int) ≤ (k : Int) := by omega
          have HST := Lib.hid (cat_step bText hlt)
          have hck := HCB.out k
          have hcb : m.buckets.length * 826 ≤ 1048576 * 1000 := Nat.mul_le_mul (by omega) (by omega)
          obtain ⟨C, hC⟩ : ∃ c, catAll ((m.buckets.take k).map bText) = c := ⟨_, rfl⟩
          rw [hC] at HST hck ⊢
          clear hC
          obtain ⟨b1, o1, cc, TL, rfl, hl1', ha, hr, -, -⟩ := Row.at_ RB.out hlt
          obtain ⟨AL, kL, rfl, lL, mL, rL⟩ := open_list hr
          have q0 := ha 0 _ rfl
          simp only [show Lay.n (List Leaf) = 1 from rfl, Nat.mul_one, Nat.add_zero] at q0
          clear ha hr
          have hok := HBO.out m.buckets[k] (List.getElem_mem hlt)
          obtain ⟨b, hb_⟩ : ∃ b, m.buckets[k] = b := ⟨_, rfl⟩
          rw [hb_] at rL lL HST hok
          simp only [hb_] at q0
          replace q0 := (HBw.out.cell (p := ⟨b1, o1 + k, none⟩) hl1').trans q0
          have hl2 : b1 < wr.heap.size := Nat.lt_of_lt_of_le hl1' HBw.out.size
          have HLT := Lib.hid (spec_l09Text wr b AL kL TL (Row.later rL HBw.out) hok)
          have hlt8 := leavesT_le hok
          have HBT : Hid (bText b = varT (leavesT b).size ++ leavesT b) := Lib.hid rfl
          obtain ⟨tb, htb⟩ : ∃ t, leavesT b = t := ⟨_, rfl⟩
          rw [htb] at HLT hlt8 HBT
          clear hb_ htb rL lL mL hok
          have HSH := Lib.hid (fun W => spec_l01Var tb.size W (by omega))
          have hz1 := varT_le (n := tb.size) (by omega)
          obtain ⟨t1, ht1⟩ : ∃ t, varT tb.size = t := ⟨_, rfl⟩
          rw [ht1] at HSH hz1 HBT
          rw [HBT.out] at HST
          clear ht1
          obtain ⟨C2, hC2⟩ : ∃ c, TA ++ V2 ++ C = c := ⟨_, rfl⟩
          have hc2 : C2.size ≤ 2000000000 := by rw [← hC2, ByteArray.size_append, ByteArray.size_append]; omega
          rw [hC2]
          have HC2 := Lib.hid hC2
          clear hC2
          have q1 : ¬ 9223372036854775807 < C2.size + t1.size := by omega
          have q2 : ¬ 9223372036854775807 < (C2 ++ t1).size + tb.size := by rw [ByteArray.size_append]; omega
          have q2b : ¬ 9223372036854775807 < C2.size + t1.size + tb.size := by omega
          go_wp2_with (fail)
          refine HLT.out.mono ?_
          rintro e5 w5 ⟨rfl, hb5⟩
          have HB5 := Lib.hid (HBr.out.trans (hb5.mono hlr))
          clear hb5
          go_wp2_with (fail)
          refine (HSH.out _).mono ?_
          rintro e6 w6 ⟨rfl, hb6⟩
          have HB6 := Lib.hid (HB5.out.trans (hb6.mono HB5.out.size))
          clear hb6
          go_wp2
          go_roundw
          case rel => exact ⟨k + 1, hlt, by go_num, by rw [HST.out, ← HC2.out]; simp only [cat_assoc], HB6.out⟩
          case measure => simp [intOf]; omega
        · have hke : k = m.buckets.length := by omega
          subst hke
          simp only [List.take_length]
          rw [← HTB.out]
          have htb : (textB m).size ≤ 2000000000 := by rw [HTB.out, ByteArray.size_append, ByteArray.size_append]; have h9 := HCB.out m.buckets.length; rw [List.take_length] at h9; omega
          obtain ⟨TB, hTB⟩ : ∃ t, textB m = t := ⟨_, rfl⟩
          rw [hTB] at htb HTC ⊢
          clear hTB HTB
          have q1 : ¬ 9223372036854775807 < TB.size + V3.size := by omega
          go_wp2_with (fail)
          refine (HV3.out _).mono ?_
          rintro e6 w6 ⟨rfl, hb6⟩
          have HB6 := Lib.hid (HBr.out.trans (hb6.mono hlr))
          clear c0 c1 c2 hb6
          obtain ⟨c0, c1, c2⟩ := HALL.out w6 HB6.out
          go_wp2_with (fail)
          go_loopw [8, 12] (fun u i wr => ∃ k : Nat, k ≤ m.sides.length ∧ i = .int .i64 k ∧ u = .string (TB ++ V3 ++ catAll ((m.sides.take k).map id)) ∧ Below W.heap.size W wr) (fun _ i _ => m.sides.length - (intOf i).toNat)
          case atStart => exact ⟨0, Nat.zero_le _, rfl, by rw [show (m.sides.take 0).map id = [] from rfl]; exact congrArg Value.string (cat_nil (TB ++ V3)).symm, HB6.out⟩
          case round =>
            clear c0 c1 c2
            obtain ⟨k, hk, rfl, rfl, hb⟩ := hrel
            have HBr := Lib.hid hb
            have HBw := Lib.hid (HBW.out.trans (hb.mono HBW.out.size))
            have hlr : W.heap.size ≤ wr.heap.size := hb.size
            have hlx : w.heap.size < wr.heap.size := by omega
            clear hb
            obtain ⟨c0, c1, c2⟩ := HALL.out wr HBr.out
            by_cases hlt : k < m.sides.length
            · have hki : (k : Int) < (m.sides.length : Int) := by omega
              have hk0 : (0 : Int) ≤ (k : Int) := by omega
              have HST := Lib.hid (cat_step id hlt)
              have hck := HCS.out k
              have hcb : m.sides.length * 32 ≤ 1048576 * 1000 := Nat.mul_le_mul (by omega) (by omega)
              obtain ⟨C, hC⟩ : ∃ c, catAll ((m.sides.take k).map id) = c := ⟨_, rfl⟩
              rw [hC] at HST hck ⊢
              clear hC
              obtain ⟨b1, o1, rfl, hl1', f0, s0⟩ := Row.str RS.out hlt
              replace f0 := (HBw.out.cell (p := ⟨b1, o1 + k, none⟩) hl1').trans f0
              have hl2 : b1 < wr.heap.size := Nat.lt_of_lt_of_le hl1' HBw.out.size
              have hx12 := HSS.out m.sides[k] (List.getElem_mem hlt)
              obtain ⟨x, hxx⟩ : ∃ x, m.sides[k] = x := ⟨_, rfl⟩
              rw [hxx] at f0 s0 HST hx12
              clear hxx
              have q1 : ¬ 9223372036854775807 < (TB ++ V3 ++ C).size + x.size := by rw [ByteArray.size_append, ByteArray.size_append]; omega
              have q1b : ¬ 9223372036854775807 < TB.size + V3.size + C.size + x.size := by omega
              go_wp2
              go_roundw
              case rel => exact ⟨k + 1, hlt, by go_num, by rw [HST.out]; simp only [cat_assoc, id], HBr.out⟩
              case measure => simp [intOf]; omega
            · have hke : k = m.sides.length := by omega
              subst hke
              simp only [List.take_length]
              rw [← HTC.out]
              go_wp2
              go_ret2
              exact MrRes.mk HE.out HBw.out
end Go.Proofs.YtojbehmbeoemgaaDoor
