/- A part of the proof: what the laws need of it. -/
import Derived.Deep.RegionHeld3
import Derived.BigQuiet
import Derived.Test.YtgllafgpmenjjaaGreatDoorHPaXw
import Derived.Test.YtgllafgpmenjjaaGreatDoorHPaL10xDt
import Derived.Test.YtgllafgpmenjjaaGreatDoorHPaPw
import Derived.Test.YtgllafgpmenjjaaGreatDoorHPaL7xLw
set_option linter.unusedVariables false
set_option linter.unusedSimpArgs false
set_option linter.unusedVariables false
set_option linter.unusedSimpArgs false
namespace Go.Proofs.YtgllafgpmenjjaaGreatDoor
open Go.RowKit Lay Mk
theorem trust_past (k : Int) (hk : 0 ≤ k ∧ k ≤ 2) {W : World} {A1 : Option Addr} {c1 : Nat} {U : Blks} (l1 : 3 ≤ c1) (q1 : c1 ≤ maxLen) (r : Row false W A1 c1 pastRoots U) : rd false W [.slice A1 3 c1, .int .i64 k, .int .i64 0] (pastTrust k) All :=
  Trust.mk' (x := ⟨pastRoots, k, 0⟩) (A0 := A1) (k0 := c1) l1 q1 r (fun _ _ => trivial) (by show I64 k; unfold I64; omega) (by show I64 0; unfold I64; omega)
theorem past_rd {W : World} {Ap : Option Addr} {c n : Nat} {X : List Whole} {U : Blks} (hn : n = X.length) (hl : X.length ≤ c) (hm : c ≤ maxLen) (r : Row false W Ap c X U) : rd false W [.slice Ap n c] (⟨X⟩ : Past) All := by
  subst hn
  exact Past.mk' (x := ⟨X⟩) hl hm r (fun _ _ => trivial)
theorem valL_len (t : Trust) (house : Int) (name : ByteArray) (X : List Whole) : (pastV t house name X X.length).length = X.length := by unfold pastV; simp
theorem leafGet_size {xs : List Leaf} (h : leavesOk xs = true) (n : ByteArray) : (leafGet xs n).1.size ≤ 12 := by
  unfold leafGet
  split
  · rename_i x hx
    exact valueOk_12 (leavesOk_all h x (List.mem_of_find?_eq_some hx)).2
  · decide
theorem made_bucket {k house : Int} {name : ByteArray} {xs : List Whole} {hs : List Head} (h : Made k house name xs hs) {i : Nat} (hi : i < xs.length) : leavesOk xs[i].proof.bucket = true := by
  obtain ⟨l, h4, h5, -⟩ := h.at_ i hi (by rw [h.len]; exact hi)
  rw [h5]
  exact leavesOk_filter h4 _
theorem made_vals {k house : Int} {name : ByteArray} {xs : List Whole} {hs : List Head} (h : Made k house name xs hs) (hk : 0 ≤ k ∧ k ≤ 2) (hh : 0 ≤ house ∧ house ≤ 2) (hn : nameOk name = true) : szL (pastV (pastTrust k) house name xs xs.length) ≤ 100 := by
  have hl := valL_len (pastTrust k) house name xs
  have h1 := szL_bytes (l := pastV (pastTrust k) house name xs xs.length) (m := 12) (fun s hs => by
    obtain ⟨i, hi, rfl⟩ := List.getElem_of_mem hs
    rw [hl] at hi
    have := h.value hk hh hn hi (m := xs.length) hi
    rw [List.getD_eq_getElem?_getD, List.getElem?_eq_getElem (by rw [hl]; exact hi)] at this
    rw [show (pastV (pastTrust k) house name xs xs.length)[i]'(by rw [hl]; exact hi) = _ from this]
    exact leafGet_size (made_bucket h hi) name)
  rw [hl] at h1
  have h2 := h.most
  have h3 := h.len
  have : xs.length * 13 ≤ 4 * 13 := Nat.mul_le_mul_right _ (by omega)
  omega
set_option maxRecDepth 100000 in set_option maxHeartbeats 16000000 in
theorem law_FnPasts (w : World) (p0 : List UInt8) (A0 : Option Addr) (k0 : Nat) (S0 : Blks) (hp0 : Row false w A0 k0 p0 S0) (lp0 : p0.length ≤ k0) (mp0 : k0 ≤ maxLen) (hT : Tabs w) : Calls Tryz.prog 5 #[.slice A0 p0.length k0] w fun e w' => e = .returned (.bool true) ∧ Below w.heap.size w w' := by
  have HT := Lib.hid hT; clear hT
  replace hp0 := old_rngR hp0
  by_cases hbig : (1048576 : Int) < p0.length
  · have hd := decide_eq_true hbig
    go_enter Tryz.func5, Tryz.ntmps5
    go_wp2_with (go_at_call 25; refine (laws_big _ _ _ _).mono ?_; rintro e w' ⟨rfl, rfl⟩)
    go_ret; exact ⟨rfl, Below.refl _ _⟩
  have hd := decide_eq_false hbig
  have hlen : p0.length ≤ 1048576 := by omega
  clear hbig
  go_enter Tryz.func5, Tryz.ntmps5
  go_wp2_with (go_at_call 25; refine (laws_big _ _ _ _).mono ?_; rintro e w' ⟨rfl, rfl⟩)
  refine (spec_DrawPast _ p0 _ _ _ hp0 (fun b hb => hb.2) hlen).mono ?_
  rintro e1 w1 ⟨⟨k, hn, nm, X, hs, A1, c1, Ap, cp, m, rfl, hk, hh, hnm, hM, h1, l1, q1, hl2, hcm, hm, r1, rX⟩, hb1⟩
  have hno := drawnNames_ok nm hnm
  obtain ⟨gX, rfl⟩ : ∃ b, Ap = some ⟨b, 0, none⟩ := by
    rcases rX with ⟨_, h, _⟩ | ⟨g1, cur, e, _⟩
    · rw [show X = ([] : List Whole) from h] at h1; exact absurd h1 (by decide)
    · exact ⟨g1, e⟩
  go_upto_region 4 with (fail)
  obtain ⟨V2, hV2⟩ : ∃ W, (w1.alloc (.cells #[.slice A1 3 c1, .int .i64 k, .int .i64 0] 51)).alloc (.cells #[.slice (some ⟨gX, 0, none⟩) X.length cp] 79) = W := ⟨_, rfl⟩
  have hV2f : Below w1.heap.size w1 V2 ∧ V2.heap.size = w1.heap.size + 1 + 1 ∧ V2.heap[w1.heap.size]? = some (.cells #[.slice A1 3 c1, .int .i64 k, .int .i64 0] 51 (0, 0)) ∧ V2.heap[w1.heap.size + 1]? = some (.cells #[.slice (some ⟨gX, 0, none⟩) X.length cp] 79 (0, 0)) := by
    rw [← hV2]
    refine ⟨((Below.refl _ _).alloc (Nat.le_refl _) _).alloc (by simp) _, by simp, ?_, ?_⟩
    · rw [Below.heap_alloc _ _ _ (by simp)]; exact heap_alloc_new w1 _
    · have := heap_alloc_new (w1.alloc (.cells #[.slice A1 3 c1, .int .i64 k, .int .i64 0] 51)) (.cells #[.slice (some ⟨gX, 0, none⟩) X.length cp] 79)
      rw [World.size_alloc] at this; exact this
  rw [hV2]
  clear hV2
  obtain ⟨b2, s2, y8, y11⟩ := hV2f
  have hwV : Below w.heap.size w V2 := hb1.trans (b2.mono hb1.size)
  have HWV := Lib.hid hwV
  have HTV := Lib.hid (HT.out.later hwV)
  have HMD := Lib.hid hM
  have HXR := Lib.hid (Row.later (Row.lent rX) b2)
  have HTR := Lib.hid (fun W (h : Below V2.heap.size V2 W) => trust_past k hk l1 q1 (Row.later (Row.later r1 b2) h))
  have HPR := Lib.hid (fun W (h : Below V2.heap.size V2 W) => past_rd rfl hl2 hcm (Row.later HXR.out h))
  have HBX := Lib.hid (fun (W : World) (h : Below V2.heap.size V2 W) => (⟨(h.cell (p := ⟨w1.heap.size, 0, none⟩) (by show w1.heap.size < _; omega)).trans (box_at (i := 0) y8 rfl), (h.cell (p := ⟨w1.heap.size, 1, none⟩) (by show w1.heap.size < _; omega)).trans (box_at (i := 1) y8 rfl), (h.cell (p := ⟨w1.heap.size, 2, none⟩) (by show w1.heap.size < _; omega)).trans (box_at (i := 2) y8 rfl), (h.cell (p := ⟨w1.heap.size + 1, 0, none⟩) (by show w1.heap.size + 1 < _; omega)).trans (box_at (i := 0) y11 rfl)⟩ : W.cell? ⟨w1.heap.size, 0, none⟩ = some (.slice A1 3 c1) ∧ W.cell? ⟨w1.heap.size, 1, none⟩ = some (.int .i64 k) ∧ W.cell? ⟨w1.heap.size, 2, none⟩ = some (.int .i64 0) ∧ W.cell? ⟨w1.heap.size + 1, 0, none⟩ = some (.slice (some ⟨gX, 0, none⟩) X.length cp)))
  have hI : I64 hn := by unfold I64; omega
  have hnz : nm.size ≤ 1048576 := by omega
  have htz := trust_sz_past k
  have hxz := made_szL hM hh
  obtain ⟨VL, hVL⟩ : ∃ v, pastV (pastTrust k) hn nm X X.length = v := ⟨_, rfl⟩
  have HVL := Lib.hid (show VL.length = X.length by rw [← hVL]; exact valL_len _ _ _ _)
  have HVZ := Lib.hid (show szL VL ≤ 100 by rw [← hVL]; exact made_vals hM hk hh hno.1)
  have HCK : Hid (∀ W, Below V2.heap.size V2 W → Calls Tryz.prog 33 #[.agg #[.slice A1 3 c1, .int .i64 k, .int .i64 0], .int .i64 hn, .string nm, .agg #[.slice (some ⟨gX, 0, none⟩) X.length cp]] W fun e w' => ∃ A' cap', e = .returned (.tuple #[.slice A' X.length cap', .int .i64 0]) ∧ X.length ≤ cap' ∧ cap' ≤ maxLen ∧ Row true w' A' cap' VL (rng W.heap.size w'.heap.size) ∧ Below W.heap.size W w') := Lib.hid (fun W h => by
    have h3 := impl_CheckPast W (pastTrust k) _ _ (HTR.out W h) (by omega) hn hI nm hnz ⟨X⟩ _ _ (HPR.out W h) (by show szL X ≤ _; omega) (HTV.out.later h)
    refine h3.mono ?_
    rintro e w' ⟨A', c', he, hl, hm', hr, hb⟩
    have h4 : checkPast (pastTrust k) hn nm (⟨X⟩ : Past).wholes = (VL, 0) := by rw [← hVL]; exact HMD.out.past hk hh hno.1 (by omega)
    rw [h4] at he hl hr
    have h5 := HVL.out
    rw [show ((VL, (0 : Int)) : List ByteArray × Int).1 = VL from rfl] at he hl hr
    rw [h5] at he hl
    exact ⟨A', c', he, hl, hm', hr, hb⟩)
  have HVA : Hid (∀ i (hi : i < X.length) (hv : i < VL.length), VL[i] = (leafGet X[i].proof.bucket nm).1) := Lib.hid (fun i hi hv => by
    have h4 := HMD.out.value hk hh hno.1 hi (m := X.length) hi
    rw [hVL, List.getD_eq_getElem?_getD, List.getElem?_eq_getElem hv] at h4
    exact h4)
  have HNO := Lib.hid hno
  obtain ⟨c0, c1_, c2_, d0⟩ := HBX.out V2 (Below.refl _ _)
  clear hVL hM r1 rX b2 y8 y11 hb1 hwV hno hnm
  go_wp2_with (fail)
  refine (HCK.out V2 (Below.refl _ _)).mono ?_
  rintro e3 w3 ⟨A3, c3, rfl, l3, m3, r3, hb3⟩
  have HB3 := Lib.hid hb3
  have HR3 := Lib.hid (Row.weak r3)
  have hz3 := hb3.size
  clear hb3 r3 c0 c1_ c2_ d0
  go_wp2_with (fail)
  have HC0 : Hid (∀ W, Below V2.heap.size V2 W → Calls Tryz.prog 33 #[.agg #[.slice A1 3 c1, .int .i64 k, .int .i64 0], .int .i64 hn, .string nm, .agg #[.slice none 0 0]] W fun e w' => ∃ A' c', e = .returned (.tuple #[.slice A' 0 c', .int .i64 6]) ∧ Below W.heap.size W w') := Lib.hid (fun W h => by
    have h3 := impl_CheckPast W (pastTrust k) _ _ (HTR.out W h) (by omega) hn hI nm hnz ⟨[]⟩ _ _ (past_rd (W := W) (Ap := none) (c := 0) (n := 0) (U := none_) rfl (Nat.le_refl _) (by decide) (row_none rfl)) (by simp [Past.sz, szL]) (HTV.out.later h)
    refine h3.mono ?_
    rintro e w' ⟨A', c', he, _, _, _, hb⟩
    rw [cp_empty (show ([] : List Whole).length = 0 from rfl)] at he
    exact ⟨A', c', he, hb⟩)
  have HCT : Hid (1 < X.length → ∀ W, Below V2.heap.size V2 W → Calls Tryz.prog 33 #[.agg #[.slice A1 3 c1, .int .i64 k, .int .i64 0], .int .i64 hn, .string nm, .agg #[.slice (some ⟨gX, 12, none⟩) (X.length - 1) (cp - 1)]] W fun e w' => ∃ A' n' c' z, e = .returned (.tuple #[.slice A' n' c', .int .i64 z]) ∧ z ≠ 0 ∧ Below W.heap.size W w') := Lib.hid (fun hX W h => by
    have hd := row_dropF (α := Whole) (Row.later HXR.out h) 1 (cp - 1)
    have h3 := impl_CheckPast W (pastTrust k) _ _ (HTR.out W h) (by omega) hn hI nm hnz ⟨X.drop 1⟩ _ _ (past_rd (n := X.length - 1) (by rw [List.length_drop]) (by rw [List.length_drop]; omega) (by omega) hd) (Nat.le_trans (szL_drop_le X 1) (by omega)) (HTV.out.later h)
    refine h3.mono ?_
    rintro e w' ⟨A', c', he, _, _, _, hb⟩
    exact ⟨A', _, c', _, he, HMD.out.tail hX, hb⟩)
  clear htz
  have hX4 : X.length ≤ 4 := by have := HMD.out.most; have := HMD.out.len; omega
  go_loopw [9] (fun i wr => ∃ j : Nat, j ≤ X.length ∧ i = .int .i64 j ∧ Hid (Below w3.heap.size w3 wr)) (fun i _ => X.length - (intOf i).toNat)
  case atStart => exact ⟨0, Nat.zero_le _, rfl, Lib.hid (Below.refl _ _)⟩
  case round =>
    obtain ⟨j, hj, rfl, HBr⟩ := hrel
    have hzr := HBr.out.size
    have HBv : Hid (Below V2.heap.size V2 wr) := Lib.hid (HB3.out.trans (HBr.out.mono hz3))
    obtain ⟨c0, c1_, c2_, d0⟩ := HBX.out wr HBv.out
    by_cases hlt : j < X.length
    · have hv : j < VL.length := by have := HVL.out; omega
      obtain ⟨b5, o5, c5, T5, e5, hl5, ha5, hr5, -, -⟩ := Row.at_ HXR.out hlt
      injection e5 with e5
      injection e5 with eb eo
      subst eb; subst eo
      obtain ⟨P0, n0, T0, P1, n1, T1, P2, n2, T2, P3, n3, T3, P4, n4, T4, P5, n5, T5', P6, n6, T6, rfl, -, -, -, -, -, p0a, p0b, p0r, p0s, p1a, p1b, p1r, p1s, -⟩ := Whole.open (x := X[j]) hr5
      rw [show Lay.n Whole = 12 from rfl] at ha5
      have g0 := ha5 0 _ rfl
      have g1 := ha5 1 _ rfl
      simp only [Nat.zero_add, Nat.add_zero] at g0 g1
      have g0 := (HBv.out.cell (p := ⟨gX, j * 12, none⟩) hl5).trans g0
      have g1 := (HBv.out.cell (p := ⟨gX, j * 12 + 1, none⟩) hl5).trans g1
      have hva := HVA.out j hlt hv
      have hpz : X[j].proof.sz ≤ 1048576 := by
        have h9 := made_sz HMD.out hh hlt
        have h10 : sz X[j] = X[j].sz := rfl
        rw [h10] at h9
        simp only [Whole.sz] at h9
        omega
      have HSY := Lib.hid (fun W (h : Below V2.heap.size V2 W) => spec_ProofSays W nm (by unfold maxLen; omega) X[j].proof _ _ (Proof.mk' (m := false) (S := All) (x := X[j].proof) p0a p0b (Row.later p0r h) (fun _ _ => trivial) p1a p1b (Row.later p1r h) (fun _ _ => trivial) (fun hm => by cases hm)) hpz)
      simp only [Proof.cs] at HSY
      obtain ⟨pf, hpf⟩ : ∃ p, X[j].proof = p := ⟨_, rfl⟩
      rw [hpf] at hva g0 g1
      simp only [hpf] at HSY
      obtain ⟨z, hz⟩ : ∃ z, (leafGet pf.bucket nm).1 = z := ⟨_, rfl⟩
      rw [hz] at hva
      simp only [hz] at HSY
      obtain ⟨b6, o6, rfl, hl6, f6, -⟩ := Row.str HR3.out (i := j) hv
      have hl6r : b6 < wr.heap.size := by omega
      have f6 := (HBr.out.cell (p := ⟨b6, o6 + j, none⟩) hl6).trans f6
      rw [hva] at f6
      have hgl : gX < wr.heap.size := by have := HBv.out.size; omega
      clear hpf hva hz ha5 hr5 p0a p0b p0r p0s p1a p1b p1r p1s hpz
      go_wp2_with (fail)
      refine (HSY.out wr HBv.out).mono ?_
      rintro e8 w8 ⟨rfl, hb8⟩
      have f6 := (hb8.cell (p := ⟨b6, o6 + j, none⟩) hl6r).trans f6
      have HB8 := Lib.hid (HBr.out.trans (hb8.mono hzr))
      clear hb8 g0 g1 HSY c0 c1_ c2_ d0
      go_wp2_with (fail)
      go_roundw
      case rel => exact ⟨j + 1, by omega, by go_num, HB8⟩
      case measure => simp [intOf]; omega
    · have hje : j = X.length := by omega
      subst hje
      go_wp2_with (fail)
      refine (HC0.out wr HBv.out).mono ?_
      rintro e9 w9 ⟨A9, c9, rfl, hb9⟩
      have HB9 := Lib.hid (HBv.out.trans (hb9.mono HBv.out.size))
      have HB39 := Lib.hid (HBr.out.trans (hb9.mono hzr))
      obtain ⟨c0, c1_, c2_, d0⟩ := HBX.out w9 HB9.out
      clear hb9
      go_upto_if 77 with (fail)
      go_cut [] (fun wx => Hid (Below V2.heap.size V2 wx) ∧ Hid (Below w3.heap.size w3 wx))
      case first =>
        by_cases hX1 : 1 < X.length
        · have hXi : (1 : Int) < X.length := by omega
          have hXd := decide_eq_true hXi
          have hXc : X.length ≤ cp := hl2
          have hs1 : (1 : Int) ≤ X.length := by omega
          have hs3 : (X.length : Int) ≤ cp := by omega
          have hs4 : (0 : Int) ≤ X.length := by omega
          have hs5 : ¬ (X.length : Int) < 1 := by omega
          have hs6 : ¬ (cp : Int) < X.length := by omega
          have hs7 : (1 : Int) ≤ cp := by omega
          have hs8 : 1 ≤ cp := by omega
          have hs9 : ¬ cp = 1 := by omega
          have HC13 := Lib.hid (HCT.out hX1)
          have hB := Below.refl w9.heap.size w9
          have HM := Lib.hid (fun (w' : World) (h : Below w9.heap.size w9 w') => (⟨(HBX.out w' (HB9.out.trans (h.mono HB9.out.size))).1, (HBX.out w' (HB9.out.trans (h.mono HB9.out.size))).2.1, (HBX.out w' (HB9.out.trans (h.mono HB9.out.size))).2.2.1, (HBX.out w' (HB9.out.trans (h.mono HB9.out.size))).2.2.2, h⟩ : w'.cell? ⟨w1.heap.size, 0, none⟩ = some (.slice A1 3 c1) ∧ w'.cell? ⟨w1.heap.size, 1, none⟩ = some (.int .i64 k) ∧ w'.cell? ⟨w1.heap.size, 2, none⟩ = some (.int .i64 0) ∧ w'.cell? ⟨w1.heap.size + 1, 0, none⟩ = some (.slice (some ⟨gX, 0, none⟩) X.length cp) ∧ Below w9.heap.size w9 w'))
          clear c0 c1_ c2_ d0
          go_wp2_with (fail)
          go_region_held3 (fun w' => w'.cell? ⟨w1.heap.size, 0, none⟩ = some (.slice A1 3 c1) ∧ w'.cell? ⟨w1.heap.size, 1, none⟩ = some (.int .i64 k) ∧ w'.cell? ⟨w1.heap.size, 2, none⟩ = some (.int .i64 0) ∧ w'.cell? ⟨w1.heap.size + 1, 0, none⟩ = some (.slice (some ⟨gX, 0, none⟩) X.length cp) ∧ Below w9.heap.size w9 w')
            (first | exact HM.out _ (by (repeat (first | with_reducible exact hB | with_reducible apply Below.drew | with_reducible refine Below.alloc ?_ ?_ _)); all_goals (first | omega | (simp; done) | (simp; omega))))
            (first | (go_at_call 33; refine (HC13.out _ (HB9.out.trans (Below.mono (w := w9) (by (repeat (first | with_reducible exact hB | with_reducible apply Below.drew | with_reducible refine Below.alloc ?_ ?_ _)); all_goals (first | omega | (simp; done) | (simp; omega))) HB9.out.size))).mono ?_; rintro e13 w13 ⟨A13, n13, c13, z13, rfl, hz13, hb13⟩; have hzf : (z13 == 0) = false := (beq_eq_false_iff_ne.2 hz13); have hB := Below.step (a := w9) (by (repeat (first | with_reducible exact hB | with_reducible apply Below.drew | with_reducible refine Below.alloc ?_ ?_ _)); all_goals (first | omega | (simp; done) | (simp; omega))) hb13) | fail)
          have HB13 := Lib.hid hB
          clear hB
          go_wp2_with (fail)
          go_meet
          exact ⟨Lib.hid (HB9.out.trans (HB13.out.mono HB9.out.size)), Lib.hid (HB39.out.trans (HB13.out.mono HB39.out.size))⟩
        · have hXi : ¬ (1 : Int) < X.length := by omega
          have hXd := decide_eq_false hXi
          go_wp2_with (fail)
          go_meet
          exact ⟨HB9, HB39⟩
      case rest =>
        obtain ⟨HBc, HB3c⟩ := hcut
        have hvl := HVL.out
        obtain ⟨CH, hCH⟩ : ∃ c, changesIn VL = c := ⟨_, rfl⟩
        have HC16 : Hid (Calls Tryz.prog 34 #[.slice A3 X.length c3] wc fun e w' => ∃ A' cap', e = .returned (.slice A' CH.length cap') ∧ Row false w' A' cap' CH All ∧ Below wc.heap.size wc w') := Lib.hid (by
          have h := impl_ChangesIn wc VL A3 c3 _ (Row.later HR3.out HB3c.out) (by rw [hvl]; exact l3) m3 (by have := HVZ.out; omega)
          rw [hvl, hCH] at h
          refine h.mono ?_
          rintro e w' ⟨A', c', rfl, h1, h2, h3, h4⟩
          exact ⟨A', c', rfl, Row.mono (Row.weak h3) (fun _ _ => trivial), h4⟩)
        have HCL : Hid (CH.length ≤ 4000000000) := Lib.hid (by
          have h := chA_le VL VL.length
          have := HVL.out
          rw [← hCH]; show (chA VL VL.length).length ≤ _; omega)
        have HIC : Hid (∀ i (h : i + 1 < VL.length), decide (((i + 1 : Nat) : Int) + 1 ∈ CH) = !decide (VL[i + 1] = VL[i]'(by omega))) := Lib.hid (fun i h => by rw [← hCH]; exact in_ch h)
        clear hCH c0 c1_ c2_ d0 hvl HB9 HB39
        go_wp2_with (fail)
        refine HC16.out.mono ?_
        rintro e16 w16 ⟨A16, c16, rfl, r16, hb16⟩
        have HBg := Lib.hid (HBc.out.trans (hb16.mono HBc.out.size))
        have HB3g := Lib.hid (HB3c.out.trans (hb16.mono HB3c.out.size))
        have HIW : Hid (∀ (x : Int) (bv : Bool), decide (x ∈ CH) = bv → ∀ W, Below w16.heap.size w16 W → Calls Tryz.prog 35 #[.slice A16 CH.length c16, .int .i64 x] W fun e w' => e = .returned (.bool bv) ∧ W = w') := Lib.hid (fun x bv hx W h => by
          have h1 := laws_in W CH A16 c16 _ (Row.later r16 h) HCL.out x
          rw [hx] at h1
          exact h1)
        clear hb16 r16 HCT HCK HPR HTR HC16 HC0
        go_wp2_with (fail)
        go_loopw [17] (fun i wr => ∃ j : Nat, 1 ≤ j ∧ j ≤ X.length ∧ i = .int .i64 j ∧ Hid (Below w16.heap.size w16 wr)) (fun i _ => X.length - (intOf i).toNat)
        case atStart => exact ⟨1, Nat.le_refl _, h1, rfl, Lib.hid (Below.refl _ _)⟩
        case round =>
          obtain ⟨j, hj1, hj, rfl, HBr⟩ := hrel
          have HB3r := Lib.hid (HB3g.out.trans (HBr.out.mono HB3g.out.size))
          by_cases hlt : j < X.length
          · obtain ⟨i, hi⟩ : ∃ i, j = i + 1 := ⟨j - 1, by omega⟩
            have hvl := HVL.out
            have hvj : j < VL.length := by omega
            have hvi : i < VL.length := by omega
            have HIN : Hid (decide ((j : Int) + 1 ∈ CH) = !decide (VL[j] = VL[i])) := Lib.hid (by subst hi; exact HIC.out i hvj)
            obtain ⟨b6, o6, hA6, hl6, f6, -⟩ := Row.str HR3.out (i := j) hvj
            obtain ⟨b7, o7, hA7, hl7, f7, -⟩ := Row.str HR3.out (i := i) hvi
            rw [hA6] at hA7
            cases hA7
            subst hA6
            replace f6 := (HB3r.out.cell (p := ⟨b6, o6 + j, none⟩) hl6).trans f6
            replace f7 := (HB3r.out.cell (p := ⟨b6, o6 + i, none⟩) hl6).trans f7
            have hw1 : IntKind.i64.wrap ((j : Int) - 1) = (i : Int) := by rw [IntWalk.i64_in] <;> omega
            have hw2 : (j : Int) - 1 = (i : Int) := by omega
            have hw3 : IntKind.i64.wrap ((j : Int) + 1) = (j : Int) + 1 := by rw [IntWalk.i64_in] <;> omega
            have hji : (j : Int) < (X.length : Int) := by omega
            have hj0 : (0 : Int) ≤ (j : Int) := by omega
            have hii : (i : Int) < (X.length : Int) := by omega
            have hi0 : (0 : Int) ≤ (i : Int) := by omega
            obtain ⟨a, ha⟩ : ∃ a, VL[j] = a := ⟨_, rfl⟩
            obtain ⟨b, hb⟩ : ∃ a, VL[i] = a := ⟨_, rfl⟩
            rw [ha] at f6 HIN
            rw [hb] at f7 HIN
            clear ha hb hi hvl hvj hvi hl7
            go_wp2_with (fail)
            by_cases hab : a = b
            · have hdv : decide ((j : Int) + 1 ∈ CH) = false := by rw [HIN.out, decide_eq_true hab]; rfl
              have HI1 := Lib.hid (HIW.out _ _ hdv)
              have hq5 : (a.toList == b.toList) = true := str_eq hab
              clear hdv
              go_quiet ((go_at_call 35; exact quiet_w (HI1.out _ (Below.drewN HBr.out _))))
              go_wp2
              go_roundw
              case rel => exact ⟨j + 1, by omega, by omega, by go_num, Lib.hid (Below.drewN HBr.out _)⟩
              case measure => simp [intOf]; omega
            · have hdv : decide ((j : Int) + 1 ∈ CH) = true := by rw [HIN.out, decide_eq_false hab]; rfl
              have HI1 := Lib.hid (HIW.out _ _ hdv)
              have hq5 : (a.toList == b.toList) = false := str_ne hab
              clear hdv
              go_quiet ((go_at_call 35; exact quiet_w (HI1.out _ (Below.drewN HBr.out _))))
              go_wp2
              go_roundw
              case rel => exact ⟨j + 1, by omega, by omega, by go_num, Lib.hid (Below.drewN HBr.out _)⟩
              case measure => simp [intOf]; omega
          · have hje : j = X.length := by omega
            subst hje
            have HBz := Lib.hid (HBg.out.trans (HBr.out.mono HBg.out.size))
            have HBw := Lib.hid (HWV.out.trans (HBz.out.mono HWV.out.size))
            clear hlt hj1 hj HIW HIC HB3r hxz
            go_wp2_with (fail)
            refine (spec_DrawCheckPast _ p0 _ _ _ (Row.later hp0 HBw.out) (fun b hb => Nat.lt_of_lt_of_le hb.2 HBw.out.size) hlen).mono ?_
            rintro e22 w22 ⟨⟨t, hd2, nm2, pp, ct, cq, rfl, rt, zt, hI2, hn2, rp, zp⟩, hb22⟩
            have RT := Lib.hid rt
            have RP := Lib.hid rp
            obtain ⟨B0, j0, U0, rfl, -⟩ := Trust.open rt
            obtain ⟨B1, j1, U1, rfl, -⟩ := Past.open rp
            clear rt rp
            simp only [Trust.cs, Past.cs] at RT RP ⊢
            have HBh := Lib.hid (HBz.out.trans (hb22.mono HBz.out.size))
            clear hb22
            go_upto_region 23 with (fail)
            obtain ⟨V5, hV5⟩ : ∃ W, (w22.alloc (.cells #[.slice B0 t.roots.length j0, .int .i64 t.k, .int .i64 t.need] 51)).alloc (.cells #[.slice B1 pp.wholes.length j1] 79) = W := ⟨_, rfl⟩
            have hV5f : Below w22.heap.size w22 V5 ∧ V5.heap.size = w22.heap.size + 1 + 1 ∧ V5.heap[w22.heap.size]? = some (.cells #[.slice B0 t.roots.length j0, .int .i64 t.k, .int .i64 t.need] 51 (0, 0)) ∧ V5.heap[w22.heap.size + 1]? = some (.cells #[.slice B1 pp.wholes.length j1] 79 (0, 0)) := by
              rw [← hV5]
              refine ⟨((Below.refl _ _).alloc (Nat.le_refl _) _).alloc (by simp) _, by simp, ?_, ?_⟩
              · rw [Below.heap_alloc _ _ _ (by simp)]; exact heap_alloc_new w22 _
              · have := heap_alloc_new (w22.alloc (.cells #[.slice B0 t.roots.length j0, .int .i64 t.k, .int .i64 t.need] 51)) (.cells #[.slice B1 pp.wholes.length j1] 79)
                rw [World.size_alloc] at this; exact this
            rw [hV5]
            clear hV5
            obtain ⟨b5, s5, y18, y21⟩ := hV5f
            have HB5 := Lib.hid (HBh.out.trans (b5.mono HBh.out.size))
            have HC23 := Lib.hid (fun (W : World) (h : Below V5.heap.size V5 W) => impl_CheckPast W t _ _ (Lay.later (Lay.later RT.out b5) h) zt hd2 hI2 nm2 hn2 pp _ _ (Lay.later (Lay.later RP.out b5) h) zp (HTV.out.later (HB5.out.trans (h.mono HB5.out.size))))
            have HC24 := Lib.hid (fun (W : World) (h : Below V5.heap.size V5 W) => spec_CheckPast W t _ _ (Lay.later (Lay.later RT.out b5) h) zt hd2 hI2 nm2 hn2 pp _ _ (Lay.later (Lay.later RP.out b5) h) zp)
            have hcl := cp_len t hd2 nm2 pp.wholes
            have hpl := (past_sz zp).2
            obtain ⟨RR, hRR⟩ : ∃ R, checkPast t hd2 nm2 pp.wholes = R := ⟨_, rfl⟩
            rw [hRR] at HC23 HC24 hcl
            clear hRR
            obtain ⟨LL, zz⟩ := RR
            simp only [CpRes] at HC23 HC24 hcl
            have HLL : Hid (LL.length ≤ 4000000000) := Lib.hid (by omega)
            have HBY := Lib.hid (fun (W : World) (h : Below V5.heap.size V5 W) => (⟨(h.cell (p := ⟨w22.heap.size, 0, none⟩) (by show w22.heap.size < _; omega)).trans (box_at (i := 0) y18 rfl), (h.cell (p := ⟨w22.heap.size, 1, none⟩) (by show w22.heap.size < _; omega)).trans (box_at (i := 1) y18 rfl), (h.cell (p := ⟨w22.heap.size, 2, none⟩) (by show w22.heap.size < _; omega)).trans (box_at (i := 2) y18 rfl), (h.cell (p := ⟨w22.heap.size + 1, 0, none⟩) (by show w22.heap.size + 1 < _; omega)).trans (box_at (i := 0) y21 rfl)⟩ : W.cell? ⟨w22.heap.size, 0, none⟩ = some (.slice B0 t.roots.length j0) ∧ W.cell? ⟨w22.heap.size, 1, none⟩ = some (.int .i64 t.k) ∧ W.cell? ⟨w22.heap.size, 2, none⟩ = some (.int .i64 t.need) ∧ W.cell? ⟨w22.heap.size + 1, 0, none⟩ = some (.slice B1 pp.wholes.length j1)))
            obtain ⟨f0, f1, f2, f3⟩ := HBY.out V5 (Below.refl _ _)
            clear hcl hpl zt zp b5 y18 y21 RT RP
            go_wp2_with (fail)
            refine (HC23.out V5 (Below.refl _ _)).mono ?_
            rintro e23 w23 ⟨A23, c23, rfl, -, -, r23, hb23⟩
            have HB23 := Lib.hid hb23
            have HR23 := Lib.hid (Row.weak r23)
            obtain ⟨g0, g1, g2, g3⟩ := HBY.out w23 HB23.out
            clear hb23 r23 f0 f1 f2 f3 HC23
            go_wp2_with (fail)
            refine (HC24.out w23 HB23.out).mono ?_
            rintro e24 w24 ⟨A24, c24, rfl, -, -, r24, hb24⟩
            have HB24 := Lib.hid hb24
            have HR24 := Lib.hid (Row.weak r24)
            have HB5x := Lib.hid (HB5.out.trans ((HB23.out.trans (hb24.mono HB23.out.size)).mono HB5.out.size))
            obtain ⟨i0, i1, i2, i3⟩ := HBX.out w24 HB5x.out
            clear hb24 r24 g0 g1 g2 g3 HC24 i0 i1 i2 HBY
            have HST := Lib.hid (laws_sameTexts w24 LL A23 c23 _ (Row.later HR23.out HB24.out) A24 c24 _ HR24.out HLL.out)
            go_wp2_with (fail)
            refine HST.out.mono ?_
            rintro e25 w25 ⟨rfl, hb25⟩
            have HBf := Lib.hid (HWV.out.trans ((HB5x.out.trans (hb25.mono HB5x.out.size)).mono HWV.out.size))
            clear hb25
            go_wp2_with (fail)
            go_ret
            exact ⟨rfl, HBf.out⟩
end Go.Proofs.YtgllafgpmenjjaaGreatDoor
