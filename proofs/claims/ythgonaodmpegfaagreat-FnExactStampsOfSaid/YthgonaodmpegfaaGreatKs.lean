/- The stamps of a head: what is computed, and the walks. -/
import Derived.Test.YthgonaodmpegfaaGreatOw
import Derived.Test.YthgonaodmpegfaaGreatCy
import Derived.Test.YthgonaodmpegfaaGreatCb
set_option linter.unusedVariables false
set_option linter.unusedSimpArgs false
namespace Go.Proofs.YthgonaodmpegfaaGreat
open Go.RowKit Lay Mk
def givenAt (h e b : Int) (g : Given) : Bool := decide (g.house = h) && decide (g.epoch = e) && decide (g.stamp.by_ = b)
def stampAt (gs : List Given) (h e : Int) (b : Nat) : List Stamp := match gs.find? (givenAt h e b) with
  | some g => [⟨b, g.stamp.sig⟩]
  | none => []
def stampTo (gs : List Given) (h e : Int) : Nat → List Stamp
  | 0 => []
  | k + 1 => stampTo gs h e k ++ stampAt gs h e k
def stampsOf (x : Wrld) (h e : Int) : List Stamp := stampTo x.given h e 3
theorem stamp_none {gs : List Given} {h e : Int} {b : Nat} (hn : ∀ i (hi : i < gs.length), givenAt h e b gs[i] = false) : stampAt gs h e b = [] := by
  unfold stampAt
  have : gs.find? (givenAt h e b) = none := by
    rw [List.find?_eq_none]; intro g hg
    obtain ⟨i, hi, rfl⟩ := List.getElem_of_mem hg
    simp [hn i hi]
  rw [this]
theorem stamp_some {gs : List Given} {h e : Int} {b j : Nat} (hj : j < gs.length) (hn : ∀ i (hi : i < gs.length), i < j → givenAt h e b gs[i] = false) (hy : givenAt h e b gs[j] = true) : stampAt gs h e b = [⟨b, gs[j].stamp.sig⟩] := by
  unfold stampAt
  have : gs.find? (givenAt h e b) = some gs[j] := by
    rw [List.find?_eq_some_iff_getElem]
    refine ⟨hy, j, hj, rfl, fun i hi => ?_⟩
    simp [hn i (by omega) hi]
  rw [this]
theorem stampAt_len (gs : List Given) (h e : Int) (b : Nat) : (stampAt gs h e b).length ≤ 1 := by unfold stampAt; split <;> simp
theorem stampTo_len (gs : List Given) (h e : Int) : ∀ k, (stampTo gs h e k).length ≤ k
  | 0 => by simp [stampTo]
  | k + 1 => by have h1 := stampTo_len gs h e k; have h2 := stampAt_len gs h e k; unfold stampTo; rw [List.length_append]; omega
theorem given_lens {gs : List Given} {j : Nat} (hj : j < gs.length) (hz : szL gs ≤ 1048576) : gs[j].stamp.sig.open_.length ≤ 1048576 ∧ gs[j].stamp.sig.shut.length ≤ 1048576 ∧ gs[j].stamp.sig.sides.length ≤ 1048576 := by
  have h1 := sz_le_L gs j hj
  have h2 : Mk.sz gs[j] = gs[j].sz := rfl
  have h3 : gs[j].sz = gs[j].stamp.sig.sz := rfl
  simp only [Sig.sz] at h3
  have := szT_le gs[j].stamp.sig.open_ 0
  have := szT_le gs[j].stamp.sig.shut 0
  have := szT_le gs[j].stamp.sig.sides 0
  omega
theorem stamp_rd {w : World} {b : Int} (hb : I64 b) {s : Sig} {c : List Value} {T : Blks} (h : rd true w c s T) : rd true w (.int .i64 b :: c) (⟨b, s⟩ : Stamp) T :=
  ⟨[.int .i64 b], c, none_, T, rfl, none_sub _, sub_refl _, fun _ => disj_symm (disj_none_ _), ⟨rfl, hb⟩, h⟩
theorem stamp_cn (gs : List Given) (h e : Int) (hz : szL gs ≤ 1048576) (b : Nat) : cnL (stampAt gs h e b) ≤ 6000000 := by
  unfold stampAt
  split
  · rename_i g hg
    obtain ⟨hp, j, hj, hgj, hn⟩ := List.find?_eq_some_iff_getElem.1 hg
    have h1 := sz_le_L gs j hj
    rw [hgj] at h1
    have h2 : Mk.sz g = g.stamp.sig.sz := rfl
    have h3 := cnb_Stamp ⟨b, g.stamp.sig⟩
    have h4 : Mk.sz (⟨b, g.stamp.sig⟩ : Stamp) = g.stamp.sig.sz := rfl
    simp only [cnL, List.map_cons, List.map_nil, List.sum_cons, List.sum_nil]
    omega
  · simp [cnL]
theorem cnb_stampsOf (x : Wrld) (h e : Int) (hx : x.sz ≤ 1048576) : cnL (stampsOf x h e) ≤ 1000000000000 := by
  have hz : szL x.given ≤ 1048576 := by simp only [Wrld.sz] at hx; omega
  have h0 := stamp_cn x.given h e hz 0
  have h1 := stamp_cn x.given h e hz 1
  have h2 := stamp_cn x.given h e hz 2
  unfold stampsOf stampTo stampTo stampTo stampTo
  simp only [cnL, List.map_append, List.sum_append, List.nil_append] at *
  omega
set_option maxRecDepth 20000 in set_option maxHeartbeats 8000000 in
theorem impl_StampsOf (w : World) (x : Wrld) (cs : List Value) (S : Blks) (hx : rd false w cs x S) (hz : x.sz ≤ 1048576) (hh : Int) (hhh : I64 hh) (ee : Int) (hee : I64 ee) : Calls Tryz.prog 8 #[.agg cs.toArray, .int .i64 hh, .int .i64 ee] w fun e w' => ∃ A' cap', e = .returned (.slice A' (stampsOf x hh ee).length cap') ∧ (stampsOf x hh ee).length ≤ cap' ∧ cap' ≤ maxLen ∧ Row true w' A' cap' (stampsOf x hh ee) (rng w.heap.size w'.heap.size) ∧ Below w.heap.size w w' := by
  have hml : szL x.given ≤ 1048576 := by simp only [Wrld.sz] at hz; omega
  have hl0 := szT_le x.given 0
  have hgl : x.given.length ≤ 1048576 := by omega
  obtain ⟨A0, k0, S0, A1, k1, S1, A2, k2, S2, A3, k3, S3, A4, k4, S4, A5, k5, S5, rfl, -, -, -, -, -, -, -, -, -, -, -, -, -, -, r3, -⟩ := Wrld.open hx
  clear hx hz hhh hee hl0
  have HF : Hid (stampsOf x hh ee = stampTo x.given hh ee 3) := Lib.hid rfl
  obtain ⟨R, hR⟩ : ∃ R, stampsOf x hh ee = R := ⟨_, rfl⟩
  rw [hR] at HF ⊢
  clear hR
  simp only [Wrld.cs]
  have hWd : ∀ W, W = w.alloc (.cells #[.slice A0 x.houses.length k0, .slice A1 x.auditors.length k1, .slice A2 x.notes.length k2, .slice A3 x.given.length k3, .slice A4 x.evil.length k4, .slice A5 x.codes.length k5] 38) → Below w.heap.size w W ∧ W.cell? ⟨w.heap.size, 3, none⟩ = some (.slice A3 x.given.length k3) ∧ W.heap.size = w.heap.size + 1 := by
    rintro W rfl
    exact ⟨(Below.refl _ _).alloc (Nat.le_refl _) _, box_cell _ _ _ _ _ rfl, by simp⟩
  obtain ⟨gs, hgs⟩ : ∃ gs, x.given = gs := ⟨_, rfl⟩
  simp only [hgs] at *
  clear hgs
  go_enter Tryz.func8, Tryz.ntmps8
  go_wp2_with (fail)
  obtain ⟨W, hW⟩ : ∃ W, w.alloc (.cells #[.slice A0 x.houses.length k0, .slice A1 x.auditors.length k1, .slice A2 x.notes.length k2, .slice A3 gs.length k3, .slice A4 x.evil.length k4, .slice A5 x.codes.length k5] 38) = W := ⟨_, rfl⟩
  rw [hW]
  obtain ⟨hBW, c3, hsz⟩ := hWd W hW.symm
  have HO := Lib.hid (Own.start (α := Stamp) (Below.refl W.heap.size W))
  clear hW hWd
  have HBW := Lib.hid hBW
  have C3 := Lib.hid c3
  have hlW : w.heap.size < W.heap.size := by omega
  have rW := Lib.hid (Row.later r3 hBW)
  clear hBW c3 r3
  go_loopw [7, 11] (fun u i wr => ∃ (b : Nat) (L : List Stamp) (A : Option Addr) (c : Nat), b ≤ 3 ∧ i = .int .i64 b ∧ u = .slice A L.length c ∧ Hid (L = stampTo gs hh ee b) ∧ L.length ≤ b ∧ Own W wr A c L) (fun _ i _ => 3 - (intOf i).toNat)
  case atStart => exact ⟨0, [], none, 0, by omega, rfl, rfl, Lib.hid rfl, by simp, HO.out⟩
  case round =>
    clear HO
    obtain ⟨b, L, A, c, hb3, rfl, rfl, HL, hLb, hown⟩ := hrel
    by_cases hlt : b < 3
    · have HN : Hid (stampTo gs hh ee (b + 1) = L ++ stampAt gs hh ee b) := Lib.hid (by rw [HL.out]; rfl)
      have hb0 := hown.bl
      have HOW := Lib.hid hown
      have c3 := (hb0.cell (p := ⟨w.heap.size, 3, none⟩) (by show w.heap.size < W.heap.size; omega)).trans C3.out
      clear hown hb0
      go_wp2_with (fail)
      go_loopw [7, 17] (fun u i wr => ∃ (j : Nat), j ≤ gs.length ∧ i = .int .i64 j ∧ u = .slice A L.length c ∧ Hid (∀ i (hi : i < gs.length), i < j → givenAt hh ee b gs[i] = false) ∧ Own W wr A c L) (fun _ i _ => gs.length - (intOf i).toNat)
      case atStart => exact ⟨0, Nat.zero_le _, rfl, rfl, Lib.hid (fun i _ h => absurd h (by omega)), HOW.out⟩
      case round =>
        clear HOW c3
        obtain ⟨j, hj, rfl, rfl, HA, hown⟩ := hrel
        have hb := hown.bl
        have HOW := Lib.hid hown
        have c3 := (hb.cell (p := ⟨w.heap.size, 3, none⟩) (by show w.heap.size < W.heap.size; omega)).trans C3.out
        by_cases hlt2 : j < gs.length
        · obtain ⟨b2, o2, cc, T2, rfl, hl2, ha, hr, _, _⟩ := Row.at_ rW.out hlt2
          replace ha := ha.keep (hb.block b2 hl2)
          replace hr := Lay.later hr hb
          have hbd := given_lens hlt2 hml
          have HY := Lib.hid (fun hy => stamp_some hlt2 HA.out hy)
          have HA2 : Hid (givenAt hh ee b gs[j] = false → ∀ i (hi : i < gs.length), i < j + 1 → givenAt hh ee b gs[i] = false) := Lib.hid (fun h0 i hi h => by rcases Nat.lt_succ_iff_lt_or_eq.1 h with h1 | h1; exact HA.out i hi h1; subst h1; exact h0)
          obtain ⟨g, hg⟩ : ∃ g, gs[j] = g := ⟨_, rfl⟩
          rw [hg] at hr HY HA2 hbd
          have HG : Hid (givenAt hh ee b g = (decide (g.house = hh) && decide (g.epoch = ee) && decide (g.stamp.by_ = (b : Int)))) := Lib.hid rfl
          clear hg
          obtain ⟨D0, m0, U0, D1, m1, U1, D2, m2, U2, rfl, -, -, -, f3, l0, n0, q0, s0, l1, n1, q1, s1, l2, n2, q2, s2, -⟩ := Given.open hr
          have HSg := Lib.hid (Sig.mk' (x := g.stamp.sig) f3 l0 n0 q0 s0 l1 n1 q1 s1 l2 n2 q2 s2 (fun h => by simp at h))
          clear hr f3 q0 q1 q2 s0 s1 s2
          rw [show Lay.n Given = 7 from rfl] at ha
          have e0 := ha 0 _ rfl
          have e1 := ha 1 _ rfl
          have e2 := ha 2 _ rfl
          have e3 := ha 3 _ rfl
          have e4 := ha 4 _ rfl
          have e5 := ha 5 _ rfl
          have e6 := ha 6 _ rfl
          simp only [Nat.add_zero] at e0
          clear ha hown
          have hlr : w.heap.size < wr.heap.size := Nat.lt_of_lt_of_le hlW hb.size
          have hl3 : b2 < wr.heap.size := Nat.lt_of_lt_of_le hl2 hb.size
          by_cases q0 : g.house = hh
          rotate_left
          · have hq : (g.house == hh) = false := beq_eq_false_iff_ne.2 q0
            have HF0 := Lib.hid (HA2.out (by rw [HG.out]; simp [q0]))
            clear q0 hbd HY HA2 HG HSg
            go_wp2
            go_roundw
            case rel => exact ⟨j + 1, by omega, by go_num, rfl, HF0, HOW.out.alloc _⟩
            case measure => simp [intOf]; omega
          have hq0 : (g.house == hh) = true := beq_iff_eq.2 q0
          by_cases q1 : g.epoch = ee
          rotate_left
          · have hq : (g.epoch == ee) = false := beq_eq_false_iff_ne.2 q1
            have HF0 := Lib.hid (HA2.out (by rw [HG.out]; simp [q1]))
            clear q1 hbd HY HA2 HG HSg
            go_wp2
            go_roundw
            case rel => exact ⟨j + 1, by omega, by go_num, rfl, HF0, HOW.out.alloc _⟩
            case measure => simp [intOf]; omega
          have hq1 : (g.epoch == ee) = true := beq_iff_eq.2 q1
          by_cases q2 : g.stamp.by_ = (b : Int)
          rotate_left
          · have hq : (g.stamp.by_ == (b : Int)) = false := beq_eq_false_iff_ne.2 q2
            have HF0 := Lib.hid (HA2.out (by rw [HG.out]; simp [q2]))
            clear q2 hbd HY HA2 HG HSg
            go_wp2
            go_roundw
            case rel => exact ⟨j + 1, by omega, by go_num, rfl, HF0, HOW.out.alloc _⟩
            case measure => simp [intOf]; omega
          have hq2 : (g.stamp.by_ == (b : Int)) = true := beq_iff_eq.2 q2
          have HF0 := Lib.hid (HY.out (by rw [HG.out, decide_eq_true q0, decide_eq_true q1, decide_eq_true q2]; rfl))
          clear q0 q1 q2 HY HA2 HG
          obtain ⟨ls0, ls1, ls2⟩ := hbd
          have hib : I64 (b : Int) := by unfold I64; omega
          go_wp2_with (fail)
          refine (impl_copySig _ g.stamp.sig _ _ (Lay.later HSg.out ((Below.refl _ _).alloc (Nat.le_refl _) _)) ls0 ls1 ls2).mono ?_
          rintro e9 w9 ⟨G0, g0, G1, g1, G2, g2, rfl, hq9, hb9⟩
          go_wp2_with (at_builtin; refine wpList_pushR (α := Stamp) rfl _ _ rfl rfl rfl (HOW.out.alloc _) hb9 (stamp_rd hib hq9) (fun q hq => hq.1) rfl rfl (by omega) ?_; intro A5 c5 w5 o5 z5)
          go_roundw
          case rel => exact ⟨b + 1, L ++ [⟨b, g.stamp.sig⟩], A5, c5, by omega, by go_num, by simp, Lib.hid (by rw [HN.out, HF0.out]), by simp; omega, o5⟩
          case measure => simp [intOf]; omega
        · have hje : j = gs.length := by omega
          have HF0 := Lib.hid (stamp_none (fun i hi => HA.out i hi (by omega)))
          subst hje
          go_wp2
          go_roundw
          case rel => exact ⟨b + 1, L, A, c, by omega, by go_num, rfl, Lib.hid (by rw [HN.out, HF0.out, List.append_nil]), by omega, HOW.out⟩
          case measure => simp [intOf]; omega
    · have hbe : b = 3 := by omega
      subst hbe
      have HE : Hid (R = L) := Lib.hid (by rw [HF.out, HL.out])
      have HOW := Lib.hid (hown.from HBW.out)
      clear hown
      go_wp2
      go_ret
      exact ⟨A, c, by rw [HE.out]; rfl, by rw [HE.out]; exact HOW.out.le, HOW.out.cm, by rw [HE.out]; exact HOW.out.rng, HOW.out.bl⟩
set_option maxRecDepth 20000 in set_option maxHeartbeats 8000000 in
theorem spec_StampsOf (w : World) (x : Wrld) (cs : List Value) (S : Blks) (hx : rd false w cs x S) (hz : x.sz ≤ 1048576) (hh : Int) (hhh : I64 hh) (ee : Int) (hee : I64 ee) : Calls Tryz.prog 6 #[.agg cs.toArray, .int .i64 hh, .int .i64 ee] w fun e w' => ∃ A' cap', e = .returned (.slice A' (stampsOf x hh ee).length cap') ∧ (stampsOf x hh ee).length ≤ cap' ∧ cap' ≤ maxLen ∧ Row true w' A' cap' (stampsOf x hh ee) (rng w.heap.size w'.heap.size) ∧ Below w.heap.size w w' := by
  have hml : szL x.given ≤ 1048576 := by simp only [Wrld.sz] at hz; omega
  have hl0 := szT_le x.given 0
  have hgl : x.given.length ≤ 1048576 := by omega
  obtain ⟨A0, k0, S0, A1, k1, S1, A2, k2, S2, A3, k3, S3, A4, k4, S4, A5, k5, S5, rfl, -, -, -, -, -, -, -, -, -, -, -, -, -, -, r3, -⟩ := Wrld.open hx
  clear hx hz hhh hee hl0
  have HF : Hid (stampsOf x hh ee = stampTo x.given hh ee 3) := Lib.hid rfl
  obtain ⟨R, hR⟩ : ∃ R, stampsOf x hh ee = R := ⟨_, rfl⟩
  rw [hR] at HF ⊢
  clear hR
  simp only [Wrld.cs]
  have hWd : ∀ W, W = w.alloc (.cells #[.slice A0 x.houses.length k0, .slice A1 x.auditors.length k1, .slice A2 x.notes.length k2, .slice A3 x.given.length k3, .slice A4 x.evil.length k4, .slice A5 x.codes.length k5] 38) → Below w.heap.size w W ∧ W.cell? ⟨w.heap.size, 3, none⟩ = some (.slice A3 x.given.length k3) ∧ W.heap.size = w.heap.size + 1 := by
    rintro W rfl
    exact ⟨(Below.refl _ _).alloc (Nat.le_refl _) _, box_cell _ _ _ _ _ rfl, by simp⟩
  obtain ⟨gs, hgs⟩ : ∃ gs, x.given = gs := ⟨_, rfl⟩
  simp only [hgs] at *
  clear hgs
  go_enter Tryz.func6, Tryz.ntmps6
  go_wp2
  obtain ⟨W, hW⟩ : ∃ W, w.alloc (.cells #[.slice A0 x.houses.length k0, .slice A1 x.auditors.length k1, .slice A2 x.notes.length k2, .slice A3 gs.length k3, .slice A4 x.evil.length k4, .slice A5 x.codes.length k5] 38) = W := ⟨_, rfl⟩
  rw [hW]
  obtain ⟨hBW, c3, hsz⟩ := hWd W hW.symm
  have HO := Lib.hid (Own.litAt (α := Stamp) (Below.refl W.heap.size W) 70 rfl (b := w.heap.size + 1) hsz.symm)
  clear hW hWd
  have HBW := Lib.hid hBW
  have C3 := Lib.hid c3
  have hlW : w.heap.size < W.heap.size := by omega
  have rW := Lib.hid (Row.later r3 hBW)
  clear hBW c3 r3
  go_loopw [7, 8] (fun u i wr => ∃ (b : Nat) (L : List Stamp) (A : Option Addr) (c : Nat), b ≤ 3 ∧ i = .int .i64 b ∧ u = .slice A L.length c ∧ Hid (L = stampTo gs hh ee b) ∧ L.length ≤ b ∧ Own W wr A c L) (fun _ i _ => 3 - (intOf i).toNat)
  case atStart => exact ⟨0, [], some ⟨w.heap.size + 1, 0, none⟩, 0, by omega, rfl, rfl, Lib.hid rfl, by simp, HO.out⟩
  case round =>
    clear HO
    obtain ⟨b, L, A, c, hb3, rfl, rfl, HL, hLb, hown⟩ := hrel
    by_cases hlt : b < 3
    · have HN : Hid (stampTo gs hh ee (b + 1) = L ++ stampAt gs hh ee b) := Lib.hid (by rw [HL.out]; rfl)
      have hb0 := hown.bl
      have HOW := Lib.hid hown
      have c3 := (hb0.cell (p := ⟨w.heap.size, 3, none⟩) (by show w.heap.size < W.heap.size; omega)).trans C3.out
      clear hown hb0
      go_wp2_with (fail)
      go_loopw [7, 9] (fun u i wr => ∃ (j : Nat), j ≤ gs.length ∧ i = .int .i64 j ∧ u = .slice A L.length c ∧ Hid (∀ i (hi : i < gs.length), i < j → givenAt hh ee b gs[i] = false) ∧ Own W wr A c L) (fun _ i _ => gs.length - (intOf i).toNat)
      case atStart => exact ⟨0, Nat.zero_le _, rfl, rfl, Lib.hid (fun i _ h => absurd h (by omega)), HOW.out⟩
      case round =>
        clear HOW c3
        obtain ⟨j, hj, rfl, rfl, HA, hown⟩ := hrel
        have hb := hown.bl
        have HOW := Lib.hid hown
        have c3 := (hb.cell (p := ⟨w.heap.size, 3, none⟩) (by show w.heap.size < W.heap.size; omega)).trans C3.out
        by_cases hlt2 : j < gs.length
        · obtain ⟨b2, o2, cc, T2, rfl, hl2, ha, hr, _, _⟩ := Row.at_ rW.out hlt2
          replace ha := ha.keep (hb.block b2 hl2)
          replace hr := Lay.later hr hb
          have hbd := given_lens hlt2 hml
          have HY := Lib.hid (fun hy => stamp_some hlt2 HA.out hy)
          have HA2 : Hid (givenAt hh ee b gs[j] = false → ∀ i (hi : i < gs.length), i < j + 1 → givenAt hh ee b gs[i] = false) := Lib.hid (fun h0 i hi h => by rcases Nat.lt_succ_iff_lt_or_eq.1 h with h1 | h1; exact HA.out i hi h1; subst h1; exact h0)
          obtain ⟨g, hg⟩ : ∃ g, gs[j] = g := ⟨_, rfl⟩
          rw [hg] at hr HY HA2 hbd
          have HG : Hid (givenAt hh ee b g = (decide (g.house = hh) && decide (g.epoch = ee) && decide (g.stamp.by_ = (b : Int)))) := Lib.hid rfl
          clear hg
          obtain ⟨D0, m0, U0, D1, m1, U1, D2, m2, U2, rfl, -, -, -, f3, l0, n0, q0, s0, l1, n1, q1, s1, l2, n2, q2, s2, -⟩ := Given.open hr
          have HSg := Lib.hid (Sig.mk' (x := g.stamp.sig) f3 l0 n0 q0 s0 l1 n1 q1 s1 l2 n2 q2 s2 (fun h => by simp at h))
          clear hr f3 q0 q1 q2 s0 s1 s2
          rw [show Lay.n Given = 7 from rfl] at ha
          have e0 := ha 0 _ rfl
          have e1 := ha 1 _ rfl
          have e2 := ha 2 _ rfl
          have e3 := ha 3 _ rfl
          have e4 := ha 4 _ rfl
          have e5 := ha 5 _ rfl
          have e6 := ha 6 _ rfl
          simp only [Nat.add_zero] at e0
          clear ha hown
          have hlr : w.heap.size < wr.heap.size := Nat.lt_of_lt_of_le hlW hb.size
          have hl3 : b2 < wr.heap.size := Nat.lt_of_lt_of_le hl2 hb.size
          by_cases q0 : g.house = hh
          rotate_left
          · have hq : (g.house == hh) = false := beq_eq_false_iff_ne.2 q0
            have HF0 := Lib.hid (HA2.out (by rw [HG.out]; simp [q0]))
            clear q0 hbd HY HA2 HG HSg
            go_wp2
            go_roundw
            case rel => exact ⟨j + 1, by omega, by go_num, rfl, HF0, HOW.out.alloc _⟩
            case measure => simp [intOf]; omega
          have hq0 : (g.house == hh) = true := beq_iff_eq.2 q0
          by_cases q1 : g.epoch = ee
          rotate_left
          · have hq : (g.epoch == ee) = false := beq_eq_false_iff_ne.2 q1
            have HF0 := Lib.hid (HA2.out (by rw [HG.out]; simp [q1]))
            clear q1 hbd HY HA2 HG HSg
            go_wp2
            go_roundw
            case rel => exact ⟨j + 1, by omega, by go_num, rfl, HF0, HOW.out.alloc _⟩
            case measure => simp [intOf]; omega
          have hq1 : (g.epoch == ee) = true := beq_iff_eq.2 q1
          by_cases q2 : g.stamp.by_ = (b : Int)
          rotate_left
          · have hq : (g.stamp.by_ == (b : Int)) = false := beq_eq_false_iff_ne.2 q2
            have HF0 := Lib.hid (HA2.out (by rw [HG.out]; simp [q2]))
            clear q2 hbd HY HA2 HG HSg
            go_wp2
            go_roundw
            case rel => exact ⟨j + 1, by omega, by go_num, rfl, HF0, HOW.out.alloc _⟩
            case measure => simp [intOf]; omega
          have hq2 : (g.stamp.by_ == (b : Int)) = true := beq_iff_eq.2 q2
          have HF0 := Lib.hid (HY.out (by rw [HG.out, decide_eq_true q0, decide_eq_true q1, decide_eq_true q2]; rfl))
          clear q0 q1 q2 HY HA2 HG
          obtain ⟨ls0, ls1, ls2⟩ := hbd
          have hib : I64 (b : Int) := by unfold I64; omega
          go_wp2_with (fail)
          refine (spec_l05Copy _ g.stamp.sig _ _ (Lay.later HSg.out ((Below.refl _ _).alloc (Nat.le_refl _) _)) ls0 ls1 ls2).mono ?_
          rintro e9 w9 ⟨G0, g0, G1, g1, G2, g2, rfl, hq9, hb9⟩
          go_wp2_with (at_builtin; refine wpList_pushR (α := Stamp) rfl _ _ rfl rfl rfl (HOW.out.alloc _) hb9 (stamp_rd hib hq9) (fun q hq => hq.1) rfl rfl (by omega) ?_; intro A5 c5 w5 o5 z5)
          go_roundw
          case rel => exact ⟨b + 1, L ++ [⟨b, g.stamp.sig⟩], A5, c5, by omega, by go_num, by simp, Lib.hid (by rw [HN.out, HF0.out]), by simp; omega, o5⟩
          case measure => simp [intOf]; omega
        · have hje : j = gs.length := by omega
          have HF0 := Lib.hid (stamp_none (fun i hi => HA.out i hi (by omega)))
          subst hje
          go_wp2
          go_roundw
          case rel => exact ⟨b + 1, L, A, c, by omega, by go_num, rfl, Lib.hid (by rw [HN.out, HF0.out, List.append_nil]), by omega, HOW.out⟩
          case measure => simp [intOf]; omega
    · have hbe : b = 3 := by omega
      subst hbe
      have HE : Hid (R = L) := Lib.hid (by rw [HF.out, HL.out])
      have HOW := Lib.hid (hown.from HBW.out)
      clear hown
      go_wp2
      go_ret
      exact ⟨A, c, by rw [HE.out]; rfl, by rw [HE.out]; exact HOW.out.le, HOW.out.cm, by rw [HE.out]; exact HOW.out.rng, HOW.out.bl⟩
end Go.Proofs.YthgonaodmpegfaaGreat
