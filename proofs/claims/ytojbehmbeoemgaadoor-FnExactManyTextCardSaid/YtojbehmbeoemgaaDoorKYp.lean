/- What a proof of several names says of one, both sides. -/
import Derived.Test.YtojbehmbeoemgaaDoorKYn
import Derived.Test.YtojbehmbeoemgaaDoorKIy
import Derived.Test.YtojbehmbeoemgaaDoorKLg
import Derived.Deep.RegionHeld3
set_option linter.unusedVariables false
set_option linter.unusedSimpArgs false
namespace Go.Proofs.YtojbehmbeoemgaaDoor
open Go.RowKit Lay Mk
def SyRes (R : ByteArray × Bool × Bool) (w : World) (e : Ending) (w' : World) : Prop := e = .returned (.tuple #[.string R.1, .bool R.2.1, .bool R.2.2]) ∧ Below w.heap.size w w'
theorem SyRes.mk {R : ByteArray × Bool × Bool} {s : ByteArray} {b c : Bool} {w w' : World} (hR : R = (s, b, c)) (hb : Below w.heap.size w w') : SyRes R w (.returned (.tuple #[.string s, .bool b, .bool c])) w' := by
  subst hR; exact ⟨rfl, hb⟩
theorem many_parts {m : Many} (h : m.sz ≤ 1048576) : szL m.names ≤ 1048576 ∧ szL m.buckets ≤ 1048576 ∧ szL m.sides ≤ 1048576 := by
  simp only [Many.sz] at h; omega
theorem leafs_at {vs : List (List Leaf)} {k : Nat} (hk : k < vs.length) (hz : szL vs ≤ 1048576) : szL vs[k] ≤ 1048576 ∧ vs[k].length ≤ 1048576 := by
  have h1 := sz_le_L vs k hk
  have h2 : Mk.sz vs[k] = szL vs[k] := rfl
  have h3 := szT_le vs[k] 0
  omega
theorem says_yes {m : Many} {name : ByteArray} {k : Nat} (h : k < (idxN m.names).length) (e : (idxN m.names).getD k 0 = indexOf name) : saysP m name k = true := by unfold saysP; rw [decide_eq_true h, decide_eq_true e]; rfl
theorem says_not {m : Many} {name : ByteArray} {k : Nat} (e : ¬ (idxN m.names).getD k 0 = indexOf name) : saysP m name k = false := by unfold saysP; rw [decide_eq_false e]; simp
theorem says_out {m : Many} {name : ByteArray} {k : Nat} (e : (idxN m.names).length ≤ k) : saysP m name k = false := by unfold saysP; rw [decide_eq_false (by omega)]; rfl
theorem any_succ {xs : List ByteArray} {k : Nat} {n : ByteArray} (h : k < xs.length) : (n ∈ xs.take (k + 1)) ↔ (n ∈ xs.take k ∨ n = xs[k]) := by
  rw [List.take_succ_eq_append_getElem h, List.mem_append]; simp
set_option maxRecDepth 20000 in set_option maxHeartbeats 8000000 in
theorem impl_ManySays (w : World) (m : Many) (cs : List Value) (S : Blks) (hx : rd false w cs m S) (hz : m.sz ≤ 1048576) (name : ByteArray) (hn : name.size ≤ 1048576) (hT : Tabs w) : Calls Tryd.prog 20 #[.agg cs.toArray, .string name] w (SyRes (manySays m name) w) := by
  have HT := Lib.hid hT
  clear hT
  obtain ⟨hz0, hz1, -⟩ := many_parts hz
  obtain ⟨A0, k0, S0, A1, k1, S1, A2, k2, S2, rfl, l0, m0, r0, -, -, -, r1, -⟩ := Many.open hx
  clear hx hz
  simp only [Many.cs]
  have hnl : m.names.length ≤ 1048576 := by have := szT_le m.names 0; omega
  have hbl : m.buckets.length ≤ 1048576 := by have := szT_le m.buckets 0; omega
  have hnm : name.size ≤ maxLen := by unfold maxLen; omega
  have HNO := Lib.hid (fun h => says_no (m := m) (name := name) h)
  have HAT := Lib.hid (fun (h : name ∈ m.names) i hi hp hb => says_at (m := m) (name := name) h (i := i) hi hp hb)
  have HNN := Lib.hid (fun hb => says_none (m := m) (name := name) hb)
  have HYS := Lib.hid (fun k h e => says_yes (m := m) (name := name) (k := k) h e)
  have HYN := Lib.hid (fun k e => says_not (m := m) (name := name) (k := k) e)
  have HYO := Lib.hid (fun k e => says_out (m := m) (name := name) (k := k) e)
  obtain ⟨R, hR⟩ : ∃ R, manySays m name = R := ⟨_, rfl⟩
  rw [hR] at HNO HNN ⊢
  simp only [hR] at HAT
  clear hR
  obtain ⟨p, hp⟩ : ∃ p, saysP m name = p := ⟨_, rfl⟩
  rw [hp] at HAT HNN HYS HYN HYO
  clear hp
  have HIX := Lib.hid (fun W (h : Below w.heap.size w W) => impl_IndexOf W name (by omega) (HT.out.later h))
  have hix : indexOf name < 256 := indexOf_lt name
  obtain ⟨ix, hixe⟩ : ∃ i, indexOf name = i := ⟨_, rfl⟩
  rw [hixe] at HIX HYS HYN hix
  clear hixe
  have HXS := Lib.hid (fun W (h : Below w.heap.size w W) => impl_IndexesOf W m.names A0 k0 S0 (Row.later r0 h) l0 m0 hz0 (HT.out.later h))
  rw [idx_cast, castL_len] at HXS
  have hk256 := idxN_lt m.names
  have hil := idxN_le m.names
  obtain ⟨ks, hks⟩ : ∃ l, idxN m.names = l := ⟨_, rfl⟩
  rw [hks] at HXS HYS HYO hk256 hil
  simp only [hks] at HYN
  clear hks
  have HK := Lib.hid hk256
  clear hk256
  obtain ⟨W, hW⟩ : ∃ W, w.alloc (.cells #[.slice A0 m.names.length k0, .slice A1 m.buckets.length k1, .slice A2 m.sides.length k2] 51) = W := ⟨_, rfl⟩
  have hWf : Below w.heap.size w W ∧ w.heap.size < W.heap.size ∧ W.cell? ⟨w.heap.size, 0, none⟩ = some (.slice A0 m.names.length k0) ∧ W.cell? ⟨w.heap.size, 1, none⟩ = some (.slice A1 m.buckets.length k1) := by
    rw [← hW]; exact ⟨(Below.refl _ _).alloc (Nat.le_refl _) _, by simp, box_cell _ _ _ _ _ rfl, box_cell _ _ _ _ _ rfl⟩
  obtain ⟨hBW, hlW, c0, c1⟩ := hWf
  have HBW := Lib.hid hBW
  have HALL := Lib.hid (fun (w' : World) (h : Below W.heap.size W w') => (⟨(h.cell (p := ⟨w.heap.size, 0, none⟩) hlW).trans c0, (h.cell (p := ⟨w.heap.size, 1, none⟩) hlW).trans c1⟩ : w'.cell? ⟨w.heap.size, 0, none⟩ = some (.slice A0 m.names.length k0) ∧ w'.cell? ⟨w.heap.size, 1, none⟩ = some (.slice A1 m.buckets.length k1)))
  have RN := Lib.hid r0
  have RB := Lib.hid r1
  clear hBW r0 r1 l0 m0
  go_enter Tryd.func20, Tryd.ntmps20
  go_wp2_with (fail)
  clear hW
  refine (HIX.out _ HBW.out).mono ?_
  rintro e1 w1 ⟨rfl, hb1⟩
  have hl1s := hb1.size
  have HB1 := Lib.hid hb1
  clear hb1 c0 c1
  obtain ⟨c0, c1⟩ := HALL.out w1 HB1.out
  go_wp2_with (fail)
  go_loopw [19] (fun i wr => ∃ j : Nat, j ≤ m.names.length ∧ i = .int .i64 j ∧ Hid (name ∈ m.names.take j → ∀ q, q < m.buckets.length → p q = false) ∧ Below w1.heap.size w1 wr) (fun i _ => m.names.length - (intOf i).toNat)
  case atStart => exact ⟨0, Nat.zero_le _, rfl, Lib.hid (fun h => by simp at h), Below.refl _ _⟩
  case round =>
    clear c0 c1
    obtain ⟨j, hj, rfl, HA, hb⟩ := hrel
    have hbs := hb.size
    have HBr := Lib.hid (HB1.out.trans (hb.mono HB1.out.size))
    have HBw := Lib.hid (HBW.out.trans (HBr.out.mono HBW.out.size))
    have HB1r := Lib.hid hb
    obtain ⟨c0, c1⟩ := HALL.out wr HBr.out
    clear hb
    by_cases hlt : j < m.names.length
    · obtain ⟨b1, o1, rfl, hl1, f0, s0⟩ := Row.str RN.out hlt
      replace f0 := (HBw.out.cell (p := ⟨b1, o1 + j, none⟩) hl1).trans f0
      have hl2 : b1 < wr.heap.size := Nat.lt_of_lt_of_le hl1 HBw.out.size
      have HAS := Lib.hid (any_succ (n := name) hlt)
      have HMM : Hid (m.names[j] = name → name ∈ m.names) := Lib.hid (fun h => by rw [← h]; exact List.getElem_mem hlt)
      obtain ⟨s, hs⟩ : ∃ s, m.names[j] = s := ⟨_, rfl⟩
      rw [hs] at f0 s0 HAS
      rw [hs] at HMM
      clear hs
      by_cases e : s = name
      rotate_left
      · have HF : Hid (name ∈ m.names.take (j + 1) → ∀ q, q < m.buckets.length → p q = false) := Lib.hid (fun h => HA.out ((HAS.out.1 h).resolve_right (fun h2 => e h2.symm)))
        have hq : (s.toList == name.toList) = false := str_ne e
        have hq2 : (s.toList != name.toList) = true := by rw [bne, hq]; rfl
        have HNE := Lib.hid e
        clear e HAS HMM
        go_wp2
        go_roundw
        case rel => exact ⟨j + 1, by omega, by go_num, HF, HB1r.out⟩
        case measure => simp [intOf]; omega
      have e2 := e.symm
      clear e
      subst e2
      have hmem := HMM.out rfl
      have HMEM := Lib.hid hmem
      have hq : (name.toList == name.toList) = true := str_eq rfl
      have hq2 : (name.toList != name.toList) = false := by rw [bne, hq]; rfl
      clear hmem HMM HAS
      go_wp2_with (fail)
      refine (HXS.out _ HBw.out).mono ?_
      rintro e2 w2 ⟨AX, kX, rfl, lX, mX, rX, hb2⟩
      have RX := Lib.hid rX
      have hw2s := hb2.size
      have HB2r := Lib.hid hb2
      have HB2 := Lib.hid (HBr.out.trans (hb2.mono HBr.out.size))
      have HB2w := Lib.hid (HBw.out.trans (hb2.mono HBw.out.size))
      clear hb2 rX c0 c1 f0
      obtain ⟨c0, c1⟩ := HALL.out w2 HB2.out
      go_wp2_with (fail)
      go_loopw [30] (fun i wi => ∃ k : Nat, k ≤ ks.length ∧ i = .int .i64 k ∧ Hid (∀ q, q < k → q < m.buckets.length → p q = false) ∧ Below w2.heap.size w2 wi) (fun i _ => ks.length - (intOf i).toNat)
      case atStart => exact ⟨0, Nat.zero_le _, rfl, Lib.hid (fun q h => absurd h (Nat.not_lt_zero _)), Below.refl _ _⟩
      case round =>
        clear c0 c1
        obtain ⟨k, hk, rfl, HQ, hb⟩ := hrel
        have hbs2 := hb.size
        have HBi := Lib.hid (HB2.out.trans (hb.mono HB2.out.size))
        have HBiw := Lib.hid (HB2w.out.trans (hb.mono HB2w.out.size))
        have HB2i := Lib.hid hb
        obtain ⟨c0, c1⟩ := HALL.out wr HBi.out
        clear hb
        by_cases hlk : k < ks.length
        · obtain ⟨b3, o3, rfl, hl3, f0, i0⟩ := Row.int RX.out (i := k) (by rw [castL_len]; exact hlk)
          rw [castL_at hlk] at f0 i0
          replace f0 := (HB2i.out.cell (p := ⟨b3, o3 + k, none⟩) hl3).trans f0
          have hl4 : b3 < wr.heap.size := Nat.lt_of_lt_of_le hl3 hbs2
          have HY1 := Lib.hid (HYS.out k hlk)
          have HY2 := Lib.hid (HYN.out k)
          obtain ⟨v, hv⟩ : ∃ v, ks.getD k 0 = v := ⟨_, rfl⟩
          rw [hv] at f0 i0 HY1 HY2
          clear hv
          have HSS : Hid (p k = false → ∀ q, q < k + 1 → q < m.buckets.length → p q = false) := Lib.hid (fun h0 q hq hb => by rcases Nat.lt_succ_iff_lt_or_eq.1 hq with h1 | h1; exact HQ.out q h1 hb; subst h1; exact h0)
          by_cases e : v = ix
          rotate_left
          · have HF := Lib.hid (HSS.out (HY2.out e))
            have hq3 : ((v : Int) == (ix : Int)) = false := by rw [beq_eq_false_iff_ne]; omega
            have hq4 : (v == ix) = false := by rw [beq_eq_false_iff_ne]; exact e
            clear e HY1 HY2 HSS
            go_wp2
            go_roundw
            case rel => exact ⟨k + 1, hlk, by go_num, HF, HB2i.out⟩
            case measure => simp [intOf]; omega
          subst e
          by_cases hkb : k < m.buckets.length
          rotate_left
          · have HF : Hid (∀ q, q < k + 1 → q < m.buckets.length → p q = false) := Lib.hid (fun q hq hb => by rcases Nat.lt_succ_iff_lt_or_eq.1 hq with h1 | h1; exact HQ.out q h1 hb; omega)
            have hq5 : decide ((k : Int) < (m.buckets.length : Int)) = false := decide_eq_false (by omega)
            clear HY1 HY2 HSS
            go_wp2
            go_roundw
            case rel => exact ⟨k + 1, hlk, by go_num, HF, HB2i.out⟩
            case measure => simp [intOf]; omega
          have HE := Lib.hid (HAT.out HMEM.out k hkb (HY1.out rfl) (fun q hq => HQ.out q hq (by omega)))
          clear HY1 HY2 HSS
          obtain ⟨b1, o1, cc, TL, rfl, hl1, ha, hr, -, -⟩ := Row.at_ RB.out hkb
          obtain ⟨AL, kL, rfl, lL, mL, rL⟩ := open_list hr
          have q0 := ha 0 _ rfl
          simp only [show Lay.n (List Leaf) = 1 from rfl, Nat.mul_one, Nat.add_zero] at q0
          clear ha hr
          obtain ⟨hzl, hll⟩ := leafs_at hkb hz1
          obtain ⟨b, hb_⟩ : ∃ b, m.buckets[k] = b := ⟨_, rfl⟩
          rw [hb_] at HE rL lL
          simp only [hb_] at q0 hzl hll
          replace q0 := (HBiw.out.cell (p := ⟨b1, o1 + k, none⟩) hl1).trans q0
          have hl2 : b1 < wr.heap.size := Nat.lt_of_lt_of_le hl1 HBiw.out.size
          have hki : (k : Int) < (m.buckets.length : Int) := by omega
          have hk0 : (0 : Int) ≤ (k : Int) := by omega
          clear hb_ lL mL
          have HLG := Lib.hid (fun W (h : Below w.heap.size w W) => impl_LeafGet W b AL kL TL (Row.later rL h) (by omega) name hnm)
          obtain ⟨g, hg⟩ : ∃ g, leafGet b name = g := ⟨_, rfl⟩
          rw [hg] at HLG HE
          clear hg rL hzl hll
          obtain ⟨g1, g2⟩ := g
          simp only at HLG HE
          go_wp2_with (fail)
          refine (HLG.out _ HBiw.out).mono ?_
          rintro e8 w8 ⟨rfl, hb8⟩
          have HB8 := Lib.hid (HBiw.out.trans (hb8.mono HBiw.out.size))
          clear hb8
          go_wp2
          go_ret3
          exact SyRes.mk HE.out HB8.out
        · have HF : Hid (name ∈ m.names.take (j + 1) → ∀ q, q < m.buckets.length → p q = false) := Lib.hid (fun _ q hq => by
            by_cases h1 : q < k
            · exact HQ.out q h1 hq
            · exact HYO.out q (by omega))
          go_wp2
          go_roundw
          case rel => exact ⟨j + 1, hlt, by go_num, HF, HB1r.out.trans ((HB2r.out.trans (HB2i.out.mono hw2s)).mono hbs)⟩
          case measure => simp [intOf]; omega
    · have hke : j = m.names.length := by omega
      subst hke
      have HE := Lib.hid (HNN.out (fun h => HA.out (by rw [List.take_length]; exact h)))
      go_wp2
      go_ret3
      exact SyRes.mk HE.out HBw.out
set_option maxRecDepth 20000 in set_option maxHeartbeats 8000000 in
theorem spec_ManySays (w : World) (m : Many) (cs : List Value) (S : Blks) (hx : rd false w cs m S) (hz : m.sz ≤ 1048576) (name : ByteArray) (hn : name.size ≤ 1048576) : Calls Tryd.prog 18 #[.agg cs.toArray, .string name] w (SyRes (manySays m name) w) := by
  obtain ⟨hz0, hz1, -⟩ := many_parts hz
  obtain ⟨A0, k0, S0, A1, k1, S1, A2, k2, S2, rfl, l0, m0, r0, -, -, -, r1, -⟩ := Many.open hx
  clear hx hz
  simp only [Many.cs]
  have hnl : m.names.length ≤ 1048576 := by have := szT_le m.names 0; omega
  have hbl : m.buckets.length ≤ 1048576 := by have := szT_le m.buckets 0; omega
  have hnm : name.size ≤ maxLen := by unfold maxLen; omega
  have HNO := Lib.hid (fun h => says_no (m := m) (name := name) h)
  have HAT := Lib.hid (fun (h : name ∈ m.names) i hi hp hb => says_at (m := m) (name := name) h (i := i) hi hp hb)
  have HNN := Lib.hid (fun hb => says_none (m := m) (name := name) hb)
  have HYS := Lib.hid (fun k h e => says_yes (m := m) (name := name) (k := k) h e)
  have HYN := Lib.hid (fun k e => says_not (m := m) (name := name) (k := k) e)
  have HYO := Lib.hid (fun k e => says_out (m := m) (name := name) (k := k) e)
  obtain ⟨R, hR⟩ : ∃ R, manySays m name = R := ⟨_, rfl⟩
  rw [hR] at HNO HNN ⊢
  simp only [hR] at HAT
  clear hR
  obtain ⟨p, hp⟩ : ∃ p, saysP m name = p := ⟨_, rfl⟩
  rw [hp] at HAT HNN HYS HYN HYO
  clear hp
  have HIX := Lib.hid (fun W (h : Below w.heap.size w W) => spec_IndexOf W name (by omega))
  have hix : indexOf name < 256 := indexOf_lt name
  obtain ⟨ix, hixe⟩ : ∃ i, indexOf name = i := ⟨_, rfl⟩
  rw [hixe] at HIX HYS HYN hix
  clear hixe
  have HXS := Lib.hid (fun W (h : Below w.heap.size w W) => spec_IndexesOf W m.names A0 k0 S0 (Row.later r0 h) l0 m0 hz0)
  rw [idx_cast, castL_len] at HXS
  have hk256 := idxN_lt m.names
  have hil := idxN_le m.names
  obtain ⟨ks, hks⟩ : ∃ l, idxN m.names = l := ⟨_, rfl⟩
  rw [hks] at HXS HYS HYO hk256 hil
  simp only [hks] at HYN
  clear hks
  have HK := Lib.hid hk256
  clear hk256
  obtain ⟨W, hW⟩ : ∃ W, w.alloc (.cells #[.slice A0 m.names.length k0, .slice A1 m.buckets.length k1, .slice A2 m.sides.length k2] 51) = W := ⟨_, rfl⟩
  have hWf : Below w.heap.size w W ∧ w.heap.size < W.heap.size ∧ W.cell? ⟨w.heap.size, 0, none⟩ = some (.slice A0 m.names.length k0) ∧ W.cell? ⟨w.heap.size, 1, none⟩ = some (.slice A1 m.buckets.length k1) := by
    rw [← hW]; exact ⟨(Below.refl _ _).alloc (Nat.le_refl _) _, by simp, box_cell _ _ _ _ _ rfl, box_cell _ _ _ _ _ rfl⟩
  obtain ⟨hBW, hlW, c0, c1⟩ := hWf
  have HBW := Lib.hid hBW
  have HALL := Lib.hid (fun (w' : World) (h : Below W.heap.size W w') => (⟨(h.cell (p := ⟨w.heap.size, 0, none⟩) hlW).trans c0, (h.cell (p := ⟨w.heap.size, 1, none⟩) hlW).trans c1⟩ : w'.cell? ⟨w.heap.size, 0, none⟩ = some (.slice A0 m.names.length k0) ∧ w'.cell? ⟨w.heap.size, 1, none⟩ = some (.slice A1 m.buckets.length k1)))
  have RN := Lib.hid r0
  have RB := Lib.hid r1
  clear hBW r0 r1 l0 m0
  go_enter Tryd.func18, Tryd.ntmps18
  go_wp2_with (fail)
  clear hW
  go_loopw [7, 8] (fun kn i wr => ∃ j : Nat, j ≤ m.names.length ∧ i = .int .i64 j ∧ kn = .bool (decide (name ∈ m.names.take j)) ∧ Below W.heap.size W wr) (fun _ i _ => m.names.length - (intOf i).toNat)
  case atStart => exact ⟨0, Nat.zero_le _, rfl, rfl, Below.refl _ _⟩
  case round =>
    clear c0 c1
    obtain ⟨j, hj, rfl, rfl, hb⟩ := hrel
    have hbs := hb.size
    have HBr := Lib.hid hb
    have HBw := Lib.hid (HBW.out.trans (HBr.out.mono HBW.out.size))
    obtain ⟨c0, c1⟩ := HALL.out wr HBr.out
    clear hb
    by_cases hlt : j < m.names.length
    · obtain ⟨b1, o1, rfl, hl1, f0, s0⟩ := Row.str RN.out hlt
      replace f0 := (HBw.out.cell (p := ⟨b1, o1 + j, none⟩) hl1).trans f0
      have hl2 : b1 < wr.heap.size := Nat.lt_of_lt_of_le hl1 HBw.out.size
      have HAS := Lib.hid (any_succ (n := name) hlt)
      obtain ⟨s, hs⟩ : ∃ s, m.names[j] = s := ⟨_, rfl⟩
      rw [hs] at f0 s0 HAS
      clear hs
      have HDD : Hid (decide (name ∈ m.names.take (j + 1)) = (decide (name ∈ m.names.take j) || decide (s = name))) := Lib.hid (by rw [decide_eq_decide.2 HAS.out, Bool.decide_or]; congr 1; exact decide_eq_decide.2 eq_comm)
      obtain ⟨kb, hkb⟩ : ∃ b, decide (name ∈ m.names.take j) = b := ⟨_, rfl⟩
      rw [hkb] at HDD
      simp only [hkb]
      clear hkb HAS
      have hqd : (s.toList == name.toList) = decide (s = name) := str_dec s name
      obtain ⟨sb, hsb⟩ : ∃ b, decide (s = name) = b := ⟨_, rfl⟩
      rw [hsb] at HDD hqd
      clear hsb
      cases kb
      all_goals (
        go_wp2
        go_roundw
        case rel => exact ⟨j + 1, hlt, by go_num, by rw [HDD.out]; simp, HBr.out⟩
        case measure => simp [intOf]; omega)
    · have hke : j = m.names.length := by omega
      subst hke
      simp only [List.take_length]
      have HXR := Lib.hid (HXS.out _ HBw.out)
      go_wp2_with (fail)
      refine HXR.out.mono ?_
      rintro e2 w2 ⟨AX, kX, rfl, lX, mX, rX, hb2⟩
      have RX := Lib.hid rX
      have hw2s := hb2.size
      have HB2 := Lib.hid (HBr.out.trans (hb2.mono HBr.out.size))
      have HB2w := Lib.hid (HBw.out.trans (hb2.mono HBw.out.size))
      clear hb2 rX c0 c1 HXR
      obtain ⟨c0, c1⟩ := HALL.out w2 HB2.out
      by_cases hmem : name ∈ m.names
      rotate_left
      · have HE := Lib.hid (HNO.out hmem)
        have hmd : decide (name ∈ m.names) = false := decide_eq_false hmem
        simp only [hmd]
        clear hmem hmd
        go_wp2
        go_loopw [10] (fun i wr => i = .int .i64 0 ∧ wr = w2) (fun i _ => 0)
        case atStart => exact ⟨rfl, rfl⟩
        case round =>
          obtain ⟨rfl, rfl⟩ := hrel
          by_cases a1 : 0 < ks.length
          · by_cases a2 : 0 < m.buckets.length
            · go_wp2
              go_ret3
              exact SyRes.mk HE.out HB2w.out
            · go_wp2
              go_ret3
              exact SyRes.mk HE.out HB2w.out
          · go_wp2
            go_ret3
            exact SyRes.mk HE.out HB2w.out
      have HMEM := Lib.hid hmem
      have hmd : decide (name ∈ m.names) = true := decide_eq_true hmem
      simp only [hmd]
      clear hmem hmd
      go_wp2
      go_loopw [10] (fun i wi => ∃ k : Nat, k ≤ ks.length ∧ k ≤ m.buckets.length ∧ i = .int .i64 k ∧ Hid (∀ q, q < k → p q = false) ∧ Below w2.heap.size w2 wi) (fun i _ => ks.length - (intOf i).toNat)
      case atStart => exact ⟨0, Nat.zero_le _, Nat.zero_le _, rfl, Lib.hid (fun q h => absurd h (Nat.not_lt_zero _)), Below.refl _ _⟩
      case round =>
        clear c0 c1
        obtain ⟨k, hk, hkb0, rfl, HQ, hb⟩ := hrel
        have hbs2 := hb.size
        have HBi := Lib.hid (HB2.out.trans (hb.mono HB2.out.size))
        have HBiw := Lib.hid (HB2w.out.trans (hb.mono HB2w.out.size))
        have HB2i := Lib.hid hb
        obtain ⟨c0, c1⟩ := HALL.out wr HBi.out
        clear hb
        by_cases hlk : k < ks.length
        rotate_left
        · have HE := Lib.hid (HNN.out (fun _ q hq => by
            by_cases h1 : q < k
            · exact HQ.out q h1
            · exact HYO.out q (by omega)))
          have hd1 : decide ((k : Int) < (ks.length : Int)) = false := decide_eq_false (by omega)
          go_wp2
          go_ret3
          exact SyRes.mk HE.out HBiw.out
        by_cases hkb : k < m.buckets.length
        rotate_left
        · have HE := Lib.hid (HNN.out (fun _ q hq => HQ.out q (by omega)))
          have hd1 : decide ((k : Int) < (m.buckets.length : Int)) = false := decide_eq_false (by omega)
          go_wp2
          go_ret3
          exact SyRes.mk HE.out HBiw.out
        obtain ⟨b3, o3, rfl, hl3, f0, i0⟩ := Row.int RX.out (i := k) (by rw [castL_len]; exact hlk)
        rw [castL_at hlk] at f0 i0
        replace f0 := (HB2i.out.cell (p := ⟨b3, o3 + k, none⟩) hl3).trans f0
        have hl4 : b3 < wr.heap.size := Nat.lt_of_lt_of_le hl3 hbs2
        have HY1 := Lib.hid (HYS.out k hlk)
        have HY2 := Lib.hid (HYN.out k)
        obtain ⟨v, hv⟩ : ∃ v, ks.getD k 0 = v := ⟨_, rfl⟩
        rw [hv] at f0 i0 HY1 HY2
        clear hv
        have HSS : Hid (p k = false → ∀ q, q < k + 1 → p q = false) := Lib.hid (fun h0 q hq => by rcases Nat.lt_succ_iff_lt_or_eq.1 hq with h1 | h1; exact HQ.out q h1; subst h1; exact h0)
        have hwi := HBiw.out.size
        have HM := Lib.hid (fun (w' : World) (h' : Below wr.heap.size wr w') => (⟨(h'.cell (p := ⟨b3, o3 + k, none⟩) hl4).trans f0, h'⟩ : w'.cell? ⟨b3, o3 + k, none⟩ = some (.int .i64 v) ∧ Below wr.heap.size wr w'))
        have hB := Below.refl wr.heap.size wr
        have hki2 : (k : Int) < (ks.length : Int) := by omega
        have hk02 : (0 : Int) ≤ (k : Int) := by omega
        clear f0
        by_cases e : v = ix
        rotate_left
        · have HF := Lib.hid (HSS.out (HY2.out e))
          have hq3 : ((v : Int) == (ix : Int)) = false := by rw [beq_eq_false_iff_ne]; omega
          have hq4 : (v == ix) = false := by rw [beq_eq_false_iff_ne]; exact e
          clear e HY1 HY2 HSS
          go_wp2_with (fail)
          go_region_held3 (fun w' => w'.cell? ⟨b3, o3 + k, none⟩ = some (.int .i64 v) ∧ Below wr.heap.size wr w')
            (first | exact HM.out _ (by (repeat (first | with_reducible exact hB | with_reducible apply Below.drew | with_reducible refine Below.alloc ?_ ?_ _)); all_goals (first | omega | (simp; done) | (simp; omega))))
            (first | (go_at_call 30; with_reducible refine (HIX.out _ ?_).mono ?_; (exact HBiw.out.trans (Below.mono (w := wr) (by (repeat (first | with_reducible exact hB | with_reducible apply Below.drew | with_reducible refine Below.alloc ?_ ?_ _)); all_goals (first | omega | (simp; done) | (simp; omega))) hwi)); rintro e5 w5 ⟨rfl, hb5⟩; have hB := Below.step (a := wr) (by (repeat (first | with_reducible exact hB | with_reducible apply Below.drew | with_reducible refine Below.alloc ?_ ?_ _)); all_goals (first | omega | (simp; done) | (simp; omega))) hb5; have hs5 := hB.size))
          go_wp2
          go_roundw
          case rel => exact ⟨k + 1, hlk, hkb, by go_num, HF, HB2i.out.trans (hB.mono hbs2)⟩
          case measure => simp [intOf]; omega
        subst e
        have HE := Lib.hid (HAT.out HMEM.out k hkb (HY1.out rfl) HQ.out)
        clear HY1 HY2 HSS
        go_wp2_with (fail)
        go_region_held3 (fun w' => w'.cell? ⟨b3, o3 + k, none⟩ = some (.int .i64 v) ∧ Below wr.heap.size wr w')
          (first | exact HM.out _ (by (repeat (first | with_reducible exact hB | with_reducible apply Below.drew | with_reducible refine Below.alloc ?_ ?_ _)); all_goals (first | omega | (simp; done) | (simp; omega))))
          (first | (go_at_call 30; with_reducible refine (HIX.out _ ?_).mono ?_; (exact HBiw.out.trans (Below.mono (w := wr) (by (repeat (first | with_reducible exact hB | with_reducible apply Below.drew | with_reducible refine Below.alloc ?_ ?_ _)); all_goals (first | omega | (simp; done) | (simp; omega))) hwi)); rintro e5 w5 ⟨rfl, hb5⟩; have hB := Below.step (a := wr) (by (repeat (first | with_reducible exact hB | with_reducible apply Below.drew | with_reducible refine Below.alloc ?_ ?_ _)); all_goals (first | omega | (simp; done) | (simp; omega))) hb5; have hs5 := hB.size))
        have HB5 := Lib.hid hB
        have HB5i := Lib.hid (HBi.out.trans (hB.mono HBi.out.size))
        have HB5w := Lib.hid (HBiw.out.trans (hB.mono HBiw.out.size))
        clear c0 c1 hB
        obtain ⟨c0, c1⟩ := HALL.out w5 HB5i.out
        obtain ⟨b1, o1, cc, TL, rfl, hl1, ha, hr, -, -⟩ := Row.at_ RB.out hkb
        obtain ⟨AL, kL, rfl, lL, mL, rL⟩ := open_list hr
        have q0 := ha 0 _ rfl
        simp only [show Lay.n (List Leaf) = 1 from rfl, Nat.mul_one, Nat.add_zero] at q0
        clear ha hr
        obtain ⟨hzl, hll⟩ := leafs_at hkb hz1
        obtain ⟨b, hb_⟩ : ∃ b, m.buckets[k] = b := ⟨_, rfl⟩
        rw [hb_] at HE rL lL
        simp only [hb_] at q0 hzl hll
        replace q0 := (HB5w.out.cell (p := ⟨b1, o1 + k, none⟩) hl1).trans q0
        have hl2 : b1 < w5.heap.size := Nat.lt_of_lt_of_le hl1 HB5w.out.size
        have hki : (k : Int) < (m.buckets.length : Int) := by omega
        have hk0 : (0 : Int) ≤ (k : Int) := by omega
        clear hb_ lL mL
        have HLG := Lib.hid (fun W (h : Below w.heap.size w W) => spec_LeafGet W b AL kL TL (Row.later rL h) (by omega) name hnm)
        obtain ⟨g, hg⟩ : ∃ g, leafGet b name = g := ⟨_, rfl⟩
        rw [hg] at HLG HE
        clear hg rL hzl hll
        obtain ⟨g1, g2⟩ := g
        simp only at HLG HE
        go_wp2_with (fail)
        refine (HLG.out _ HB5w.out).mono ?_
        rintro e8 w8 ⟨rfl, hb8⟩
        have HB8 := Lib.hid (HB5w.out.trans (hb8.mono HB5w.out.size))
        clear hb8
        go_wp2
        go_ret3
        exact SyRes.mk HE.out HB8.out
end Go.Proofs.YtojbehmbeoemgaaDoor
