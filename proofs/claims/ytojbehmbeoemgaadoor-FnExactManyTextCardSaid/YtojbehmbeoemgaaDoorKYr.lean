/- The root of a proof of several names: the reference's walk. -/
import Derived.Test.YtojbehmbeoemgaaDoorKYq
set_option linter.unusedVariables false
set_option linter.unusedSimpArgs false
namespace Go.Proofs.YtojbehmbeoemgaaDoor
open Go.RowKit Lay Mk
def MrRes (R : ByteArray × Bool) (w : World) (e : Ending) (w' : World) : Prop := e = .returned (.tuple #[.string R.1, .bool R.2]) ∧ Below w.heap.size w w'
theorem MrRes.mk {R : ByteArray × Bool} {s : ByteArray} {b : Bool} {w w' : World} (hR : R = (s, b)) (hb : Below w.heap.size w w') : MrRes R w (.returned (.tuple #[.string s, .bool b])) w' := by subst hR; exact ⟨rfl, hb⟩
theorem hashes_snoc {bs : List (List Leaf)} {n : Int} {k : Nat} (h : k < bs.length) : manyHashes (bs.take (k + 1)) n = manyHashes (bs.take k) n ++ [bucketHash bs[k] n] := by
  unfold manyHashes; rw [List.take_succ_eq_append_getElem h, List.map_append]; rfl
theorem hashes_len (bs : List (List Leaf)) (n : Int) : (manyHashes bs n).length = bs.length := by unfold manyHashes; simp
theorem bucketHash_le (b : List Leaf) (n : Int) : (bucketHash b n).size ≤ 32 := by
  have := node_le n 0 0 (belowL 0 0 b)
  unfold bucketHash cutDigest
  split
  · rw [ByteArray.size_extract]; omega
  · exact Nat.zero_le _
theorem lv_len (nd : Nat → ByteArray → ByteArray → ByteArray) (ks : List Nat) (hs : List ByteArray) : ∀ (m k : Nat) (ss : List ByteArray) (up : List Nat) (nx : List ByteArray) (x : List Nat × List ByteArray × List ByteArray), up.length = nx.length → lvF nd ks hs m k ss up nx = some x → x.1.length = x.2.1.length
  | 0, k, ss, up, nx, x, hl, h => by cases (show some (up, nx, ss) = some x from h); exact hl
  | m + 1, k, ss, up, nx, x, hl, h => by
    rw [lvF] at h
    split at h
    · split at h
      · exact lv_len nd ks hs m _ _ _ _ x (by simp [hl]) h
      · split at h
        · cases h
        · exact lv_len nd ks hs m _ _ _ _ x (by simp [hl]) h
    · cases h; exact hl
theorem sv_len (nd : Nat → ByteArray → ByteArray → ByteArray) {ks : List Nat} (hi : Inc ks) (hs sd : List ByteArray) {u : Nat} (hu : u ≤ sd.length) {nx : List ByteArray} {v : Nat} (h : svF nd ks hs sd ks.length 0 u [] = some (nx, v)) : nx.length = (aboveU ks).length := by
  have h1 := sv_eq nd hi hs sd ks.length 0 (by omega) (Nat.zero_le _) (fun _ => by unfold oddAt; simp) ks.length ks.length (by omega) (by omega) u [] hu
  rw [show aboveU (ks.take 0) = [] from rfl, h] at h1
  cases hl : lvF nd ks hs ks.length 0 (sd.drop u) [] [] with
  | none => rw [hl] at h1; cases h1
  | some z =>
    obtain ⟨a, b, r⟩ := z
    have h3 := lv_len nd ks hs _ _ _ _ _ _ rfl hl
    rw [hl] at h1
    have h2 : (a, b, r) = (aboveU ks, nx, sd.drop v) := Option.some.inj h1
    cases h2
    exact h3.symm
theorem above_pos {ks : List Nat} (h : 0 < ks.length) : 0 < (aboveU ks).length := by
  have h1 : ks[0] / 2 ∈ aboveU ks := mem_above.2 ⟨ks[0], List.getElem_mem h, rfl⟩
  exact List.length_pos_of_mem h1
theorem above_len (ks : List Nat) : (aboveU ks).length ≤ ks.length := by have := above_take_len ks ks.length (Nat.le_refl _); rw [List.take_length] at this; exact this
theorem rootS_none {nd : Nat → ByteArray → ByteArray → ByteArray} {sd : List ByteArray} {d : Nat} {ks : List Nat} {hs : List ByteArray} {u : Nat} (h : svF nd ks hs sd ks.length 0 u [] = none) : rootS nd sd (d + 1) ks hs u = none := by rw [rootS, h]
theorem rootS_some {nd : Nat → ByteArray → ByteArray → ByteArray} {sd : List ByteArray} {d : Nat} {ks : List Nat} {hs nx : List ByteArray} {u v : Nat} (h : svF nd ks hs sd ks.length 0 u [] = some (nx, v)) : rootS nd sd (d + 1) ks hs u = rootS nd sd d (aboveU ks) nx v := by rw [rootS, h]
set_option maxRecDepth 20000 in set_option maxHeartbeats 16000000 in
theorem spec_ManyRoot (w : World) (m : Many) (cs : List Value) (S : Blks) (hx : rd false w cs m S) (hz : m.sz ≤ 1048576) (n : Int) (hn : I64 n) : Calls Tryd.prog 31 #[.agg cs.toArray, .int .i64 n] w (MrRes (manyRoot m n) w) := by
  have HX1 := Lib.hid hx
  obtain ⟨hz0, hz1, hz2⟩ := many_parts hz
  obtain ⟨A0, k0, S0, A1, k1, S1, A2, k2, S2, rfl, l0, m0, r0, -, -, -, r1, -, l2, m2, r2, -⟩ := Many.open hx
  simp only [Many.cs] at HX1 ⊢
  clear hx
  have hnl : m.names.length ≤ 1048576 := by have := szT_le m.names 0; omega
  have hbl : m.buckets.length ≤ 1048576 := by have := szT_le m.buckets 0; omega
  have hsl : m.sides.length ≤ 1048576 := by have := szT_le m.sides 0; omega
  have HFM := Lib.hid (fun W (h : Below w.heap.size w W) => spec_l26Form W m _ S (Lay.later HX1.out h) hz n)
  have HNO := Lib.hid (fun h => many_no (m := m) (n := n) h)
  have HYE := Lib.hid (fun h => many_spec (m := m) (n := n) h)
  have HFF := Lib.hid (fun h => form_facts_many (m := m) (n := n) h)
  obtain ⟨R, hR⟩ : ∃ R, manyRoot m n = R := ⟨_, rfl⟩
  rw [hR] at HNO HYE ⊢
  clear hR
  obtain ⟨z, hz'⟩ : ∃ b, manyForm m n = b := ⟨_, rfl⟩
  rw [hz'] at HFM HNO HYE HFF
  clear hz' hz
  have HXS := Lib.hid (fun W (h : Below w.heap.size w W) => spec_IndexesOf W m.names A0 k0 S0 (Row.later r0 h) l0 m0 hz0)
  rw [idx_cast, castL_len] at HXS
  have HKI := Lib.hid (idxN_inc m.names)
  have HK2 := Lib.hid (idxN_lt m.names)
  have hkl := idxN_le m.names
  have HKP := Lib.hid (fun h => idxN_pos (xs := m.names) h)
  obtain ⟨ks, hks⟩ : ∃ l, idxN m.names = l := ⟨_, rfl⟩
  rw [hks] at HXS HYE HFF HKI HK2 hkl HKP
  clear hks
  obtain ⟨W, hW⟩ : ∃ W, w.alloc (.cells #[.slice A0 m.names.length k0, .slice A1 m.buckets.length k1, .slice A2 m.sides.length k2] 51) = W := ⟨_, rfl⟩
  have hWf : Below w.heap.size w W ∧ w.heap.size < W.heap.size ∧ W.cell? ⟨w.heap.size, 0, none⟩ = some (.slice A0 m.names.length k0) ∧ W.cell? ⟨w.heap.size, 1, none⟩ = some (.slice A1 m.buckets.length k1) ∧ W.cell? ⟨w.heap.size, 2, none⟩ = some (.slice A2 m.sides.length k2) := by
    rw [← hW]; exact ⟨(Below.refl _ _).alloc (Nat.le_refl _) _, by simp, box_cell _ _ _ _ _ rfl, box_cell _ _ _ _ _ rfl, box_cell _ _ _ _ _ rfl⟩
  obtain ⟨hBW, hlW, c0, c1, c2⟩ := hWf
  have HBW := Lib.hid hBW
  have HALL := Lib.hid (fun (w' : World) (h : Below W.heap.size W w') => (⟨(h.cell (p := ⟨w.heap.size, 0, none⟩) hlW).trans c0, (h.cell (p := ⟨w.heap.size, 1, none⟩) hlW).trans c1, (h.cell (p := ⟨w.heap.size, 2, none⟩) hlW).trans c2⟩ : w'.cell? ⟨w.heap.size, 0, none⟩ = some (.slice A0 m.names.length k0) ∧ w'.cell? ⟨w.heap.size, 1, none⟩ = some (.slice A1 m.buckets.length k1) ∧ w'.cell? ⟨w.heap.size, 2, none⟩ = some (.slice A2 m.sides.length k2)))
  have RB := Lib.hid r1
  have RS := Lib.hid r2
  clear hBW r0 r1 r2 l0 m0 l2 m2
  go_enter Tryd.func31, Tryd.ntmps31
  go_wp2_with (fail)
  clear hW
  refine (HFM.out _ HBW.out).mono ?_
  rintro e1 w1 ⟨rfl, hb1⟩
  have HB1 := Lib.hid hb1
  have HB1w := Lib.hid (HBW.out.trans (hb1.mono HBW.out.size))
  have hl1 := hb1.size
  clear c0 c1 c2 hb1
  cases z
  · have HE := Lib.hid (HNO.out (by first | rfl | trivial))
    go_wp2
    go_ret2
    exact MrRes.mk HE.out HB1w.out
  obtain ⟨hf1, hf2, hf3, hf4, hf5⟩ := HFF.out (by first | rfl | trivial)
  have HRR := Lib.hid (HYE.out (by first | rfl | trivial))
  have hnp : 0 < m.names.length := by
    unfold namesFit at hf1; simp only [Bool.and_eq_true] at hf1
    have h9 : 1 ≤ (m.names.length : Int) ∧ (m.names.length : Int) ≤ 8 := by simpa [inB] using hf1.2
    omega
  have hkp := HKP.out hnp
  have HLO := Lib.hid (fun k (hk : k < m.buckets.length) => fit_leaves (hf5 k hk))
  have HBL := Lib.hid hf2
  clear hf1 hf2 hf3 hf4 hf5 HFF HYE HNO HKP hnp
  obtain ⟨c0, c1, c2⟩ := HALL.out w1 HB1.out
  go_wp2_with (fail)
  refine (HXS.out _ HB1w.out).mono ?_
  rintro e3 w3 ⟨AX, kX, rfl, lX, mX, rX, hb3⟩
  have RX := Lib.hid rX
  have hw3 := hb3.size
  have HB3 := Lib.hid (HB1.out.trans (hb3.mono hl1))
  have HB3w := Lib.hid (HBW.out.trans (HB3.out.mono HBW.out.size))
  clear c0 c1 c2 rX hb3
  go_wp2_with (fail)
  have HO := Lib.hid (Own.litAt (α := ByteArray) (Below.refl w3.heap.size w3) 9 rfl (b := w3.heap.size) rfl)
  go_loopw [7, 8] (fun u i wr => ∃ (k : Nat) (A : Option Addr) (c : Nat), k ≤ ks.length ∧ i = .int .i64 k ∧ u = .slice A k c ∧ Own w3 wr A c (manyHashes (m.buckets.take k) n)) (fun _ i _ => ks.length - (intOf i).toNat)
  case atStart => exact ⟨0, _, _, Nat.zero_le _, rfl, rfl, HO.out⟩
  case round =>
    clear HO
    obtain ⟨k, A, c, hk, rfl, rfl, hown⟩ := hrel
    have HOW := Lib.hid hown
    have HBr := Lib.hid (HB3.out.trans (hown.bl.mono HB3.out.size))
    have HBw := Lib.hid (HBW.out.trans (HBr.out.mono HBW.out.size))
    have hw3r := hown.bl.size
    clear hown
    obtain ⟨c0, c1, c2⟩ := HALL.out wr HBr.out
    by_cases hlt : k < ks.length
    · have hkb : k < m.buckets.length := by have := HBL.out; omega
      obtain ⟨b1, o1, cc, TL, rfl, hl1', ha, hr, -, -⟩ := Row.at_ RB.out hkb
      obtain ⟨AL, kL, rfl, lL, mL, rL⟩ := open_list hr
      have q0 := ha 0 _ rfl
      simp only [show Lay.n (List Leaf) = 1 from rfl, Nat.mul_one, Nat.add_zero] at q0
      clear ha hr
      have HOK := Lib.hid (HLO.out k hkb)
      have HSN := Lib.hid (hashes_snoc (n := n) hkb)
      obtain ⟨b, hb_⟩ : ∃ b, m.buckets[k] = b := ⟨_, rfl⟩
      rw [hb_] at rL lL HOK HSN
      simp only [hb_] at q0
      replace q0 := (HBw.out.cell (p := ⟨b1, o1 + k, none⟩) hl1').trans q0
      have hl2 : b1 < wr.heap.size := Nat.lt_of_lt_of_le hl1' HBw.out.size
      have hlx : w.heap.size < wr.heap.size := by have := HBr.out.size; omega
      have hki : (k : Int) < (m.buckets.length : Int) := by omega
      have hk0 : (0 : Int) ≤ (k : Int) := by omega
      have HBH := Lib.hid (spec_BucketHash wr b AL kL TL (Row.later rL HBw.out) HOK.out n hn)
      have hhm : (bucketHash b n).size ≤ maxLen := by have := bucketHash_le b n; unfold maxLen; omega
      obtain ⟨h, hh⟩ : ∃ h, bucketHash b n = h := ⟨_, rfl⟩
      rw [hh] at HBH HSN hhm
      have HNL : Hid (k = (manyHashes (m.buckets.take k) n).length) := Lib.hid (by rw [hashes_len, List.length_take]; omega)
      clear hh hb_ rL lL mL
      go_wp2_with (fail)
      refine HBH.out.mono ?_
      rintro e5 w5 ⟨rfl, hb5⟩
      have HOW5 := Lib.hid (HOW.out.later hb5)
      clear hb5 c0 c1 c2 q0
      go_wp2_with (at_builtin; refine wpList_push (α := ByteArray) (w0 := w3) (ys := [h]) rfl _ _ rfl rfl HNL.out (HOW5.out.alloc _) rfl rfl (src1 hhm (by first | rfl | simp) rfl) (by omega) ?_; intro A6 c6 w6 o6 z6)
      go_roundw
      case rel => exact ⟨k + 1, A6, c6, hlt, by go_num, rfl, by rw [HSN.out]; exact o6⟩
      case measure => simp [intOf]; omega
    have hke : k = ks.length := by omega
    subst hke
    have HHS : Hid (manyHashes (m.buckets.take ks.length) n = manyHashes m.buckets n) := Lib.hid (by rw [← HBL.out, List.take_length])
    rw [HHS.out] at HOW
    have HHL := Lib.hid ((hashes_len m.buckets n).trans HBL.out)
    obtain ⟨hs, hhs⟩ : ∃ l, manyHashes m.buckets n = l := ⟨_, rfl⟩
    rw [hhs] at HOW HRR HHL
    clear hhs HHS hlt hk HLO HXS
    have HRX := Lib.hid (Row.weak (Row.later RX.out HOW.out.bl))
    have hk8 : ks.length ≤ 1048576 := by omega
    have hkp8 := hkp
    clear hkp hkl
    go_wp2_with (fail)
    go_loopw [6, 7, 9, 10] (fun pl hv uv lv wl => ∃ (d u : Nat) (kj : List Nat) (hj : List ByteArray) (AP AH : Option Addr) (cP cH : Nat) (SP SH : Blks), lv = .int .i64 d ∧ uv = .int .i64 u ∧ pl = .slice AP kj.length cP ∧ hv = .slice AH kj.length cH ∧ d ≤ 8 ∧ u ≤ m.sides.length ∧ kj.length ≤ 1048576 ∧ 0 < kj.length ∧ Hid (hj.length = kj.length) ∧ Hid (Inc kj) ∧ Hid (∀ q ∈ kj, q < 256) ∧ Hid (Row false wl AP cP (castL kj) SP) ∧ Hid (Row false wl AH cH hj SH) ∧ Hid (rootS (node2 n) m.sides d kj hj u = rootS (node2 n) m.sides 8 ks hs 0) ∧ Hid (Below W.heap.size W wl)) (fun _ _ _ lv _ => (intOf lv).toNat)
    case atStart => exact ⟨8, 0, ks, hs, _, _, _, _, _, _, rfl, rfl, rfl, rfl, Nat.le_refl _, Nat.zero_le _, hk8, hkp8, HHL, HKI, HK2, HRX, Lib.hid HOW.out.weak, Lib.hid rfl, HBr⟩
    case round =>
      clear c0 c1 c2
      obtain ⟨d, u, kj, hj, AP, AH, cP, cH, SP, SH, rfl, rfl, rfl, rfl, hd8, hus, hkj, hkj0, HLJ, HIJ, HJ2, HRP, HRH, HRO, HBl⟩ := hrel
      have HBlw := Lib.hid (HBW.out.trans (HBl.out.mono HBW.out.size))
      obtain ⟨c0, c1, c2⟩ := HALL.out wr HBl.out
      rcases d with _ | d
      · have hlv : ((0 : Nat) : Int) = 0 := rfl
        obtain ⟨b1, o1, rfl, hl1', f0, s0⟩ := Row.str HRH.out (i := 0) (by have := HLJ.out; omega)
        have HH0 : Hid (hj.getD 0 nilB = hj[0]'(by have := HLJ.out; omega)) := Lib.hid (getD_ (by have := HLJ.out; omega))
        obtain ⟨h0, hh0⟩ : ∃ h, hj[0]'(by have := HLJ.out; omega) = h := ⟨_, rfl⟩
        rw [hh0] at f0 s0 HH0
        have HEN : Hid (R = endS m.sides.length (some (hj, u))) := Lib.hid (by rw [HRR.out, ← HRO.out]; rfl)
        simp only [Nat.add_zero] at f0
        have hkj1 : (0 : Int) < (kj.length : Int) := by omega
        clear hh0
        by_cases hu : u < m.sides.length
        · have HE : Hid (R = (nilB, false)) := Lib.hid (by rw [HEN.out]; simp only [endS]; rw [if_pos hu])
          have hud : decide ((u : Int) < (m.sides.length : Int)) = true := decide_eq_true (by omega)
          go_wp2
          go_ret2
          exact MrRes.mk HE.out HBlw.out
        · have HE : Hid (R = (h0, true)) := Lib.hid (by rw [HEN.out]; simp only [endS]; rw [if_neg hu, HH0.out])
          have hud : decide ((u : Int) < (m.sides.length : Int)) = false := decide_eq_false (by omega)
          go_wp2
          go_ret2
          exact MrRes.mk HE.out HBlw.out
      have hdd : ((d + 1 : Nat) : Int) > 0 := by omega
      obtain ⟨X, hX⟩ : ∃ X, svF (node2 n) kj hj m.sides kj.length 0 u [] = X := ⟨_, rfl⟩
      have HXN : Hid (X = none → R = (nilB, false)) := Lib.hid (fun h => by rw [HRR.out, ← HRO.out, rootS_none (hX.trans h)]; rfl)
      have HXS2 : Hid (∀ nx v, X = some (nx, v) → nx.length = (aboveU kj).length ∧ v ≤ m.sides.length ∧ rootS (node2 n) m.sides d (aboveU kj) nx v = rootS (node2 n) m.sides 8 ks hs 0) := Lib.hid (fun nx v h => ⟨sv_len _ HIJ.out hj m.sides hus (hX.trans h), sv_le (node2 n) kj hj m.sides _ _ _ _ _ hus (hX.trans h), (rootS_some (hX.trans h)).symm.trans HRO.out⟩)
      have HX0 := Lib.hid hX
      have HAB := Lib.hid (fun W' (h : Below wr.heap.size wr W') => spec_l26Above W' kj HJ2.out AP cP SP (Row.later HRP.out h) hkj)
      have hwlx : w.heap.size < wr.heap.size := by have := HBl.out.size; omega
      have hwls := HBlw.out.size
      clear hX HRO
      go_wp2_with (fail)
      have HO2 := Lib.hid (Own.litAt (α := ByteArray) (Below.refl wr.heap.size wr) 9 rfl (b := wr.heap.size) rfl)
      go_loopw [9, 11, 12] (fun uv nv iv wi => ∃ (i v : Nat) (nx : List ByteArray) (AN : Option Addr) (cN : Nat), iv = .int .i64 i ∧ uv = .int .i64 v ∧ nv = .slice AN nx.length cN ∧ i ≤ kj.length ∧ nx.length ≤ i ∧ v ≤ m.sides.length ∧ Hid (svF (node2 n) kj hj m.sides (kj.length - i) i v nx = X) ∧ Own wr wi AN cN nx) (fun _ _ iv _ => kj.length - (intOf iv).toNat)
      case atStart => exact ⟨0, u, [], _, _, rfl, rfl, rfl, Nat.zero_le _, Nat.le_refl _, hus, Lib.hid HX0.out, HO2.out⟩
      case round =>
        clear HO2 c0 c1 c2
        obtain ⟨i, v, nx, AN, cN, rfl, rfl, rfl, hik, hni, hvs, HSV, hown⟩ := hrel
        have HOW2 := Lib.hid hown
        have hbi := hown.bl
        have HBi := Lib.hid (HBl.out.trans (hbi.mono HBl.out.size))
        have HBiw := Lib.hid (HBlw.out.trans (hbi.mono HBlw.out.size))
        have HB2i := Lib.hid hbi
        have hwli := hbi.size
        clear hown hbi
        obtain ⟨c0, c1, c2⟩ := HALL.out _ HBi.out
        by_cases hlt : i < kj.length
        · obtain ⟨t, ht⟩ : ∃ t, kj.length - i = t + 1 := ⟨kj.length - i - 1, by omega⟩
          have HT2 : Hid (kj.length - (i + 1) = t) := Lib.hid (by omega)
          have HSV2 := Lib.hid (ht ▸ HSV.out)
          obtain ⟨b1, o1, rfl, hl1', f0, i0⟩ := Row.int HRP.out (i := i) (by rw [castL_len]; exact hlt)
          rw [castL_at hlt] at f0 i0
          replace f0 := (HB2i.out.cell (p := ⟨b1, o1 + i, none⟩) hl1').trans f0
          have hlb1 := Nat.lt_of_lt_of_le hl1' hwli
          obtain ⟨b2, o2, rfl, hl2', g0, s0⟩ := Row.str HRH.out (i := i) (by rw [HLJ.out]; exact hlt)
          have HAE : Hid (hj.getD i nilB = hj[i]'(by rw [HLJ.out]; exact hlt)) := Lib.hid (getD_ (by rw [HLJ.out]; exact hlt))
          obtain ⟨a, ha⟩ : ∃ a, hj[i]'(by rw [HLJ.out]; exact hlt) = a := ⟨_, rfl⟩
          rw [ha] at g0 s0 HAE
          replace g0 := (HB2i.out.cell (p := ⟨b2, o2 + i, none⟩) hl2').trans g0
          have hlb2 := Nat.lt_of_lt_of_le hl2' hwli
          have hp256 : kj.getD i 0 < 256 := HJ2.out _ (by rw [getD_ hlt]; exact List.getElem_mem hlt)
          have HS1 : Hid (evenAt kj i = true → svF (node2 n) kj hj m.sides t (i + 1) v (nx ++ [node2 n (kj.getD i 0) a (hj.getD (i + 1) nilB)]) = X) := Lib.hid (fun h => by have h9 := HSV2.out; rw [svF, if_pos hlt, if_pos h, HAE.out] at h9; exact h9)
          have HS2 : Hid (evenAt kj i = false → oddAt kj i = true → svF (node2 n) kj hj m.sides t (i + 1) v nx = X) := Lib.hid (fun h h2 => by have h9 := HSV2.out; rw [svF, if_pos hlt, if_neg (by simp [h]), if_pos h2] at h9; exact h9)
          have HS3 : Hid (evenAt kj i = false → oddAt kj i = false → v < m.sides.length → svF (node2 n) kj hj m.sides t (i + 1) (v + 1) (nx ++ [node2 n (kj.getD i 0) a (m.sides.getD v nilB)]) = X) := Lib.hid (fun h h2 h3 => by have h9 := HSV2.out; rw [svF, if_pos hlt, if_neg (by simp [h]), if_neg (by simp [h2]), if_pos h3, HAE.out] at h9; exact h9)
          have HS4 : Hid (evenAt kj i = false → oddAt kj i = false → ¬ v < m.sides.length → X = none) := Lib.hid (fun h h2 h3 => by have h9 := HSV2.out; rw [svF, if_pos hlt, if_neg (by simp [h]), if_neg (by simp [h2]), if_neg h3] at h9; exact h9.symm)
          have HEV : Hid (evenAt kj i = (decide (kj.getD i 0 % 2 = 0) && (decide (i + 1 < kj.length) && decide (kj.getD (i + 1) 0 = kj.getD i 0 + 1)))) := Lib.hid rfl
          have HOD : Hid (oddAt kj i = (decide (kj.getD i 0 % 2 = 1) && (decide (0 < i) && decide (kj.getD (i - 1) 0 + 1 = kj.getD i 0)))) := Lib.hid rfl
          obtain ⟨p, hp⟩ : ∃ p, kj.getD i 0 = p := ⟨_, rfl⟩
          rw [hp] at f0 i0 hp256 HS1 HS3 HEV HOD
          obtain ⟨ev, hev⟩ : ∃ b, evenAt kj i = b := ⟨_, rfl⟩
          rw [hev] at HS1 HS2 HS3 HS4 HEV
          obtain ⟨od, hod⟩ : ∃ b, oddAt kj i = b := ⟨_, rfl⟩
          rw [hod] at HS2 HS3 HS4 HOD
          have hii : (i : Int) < (kj.length : Int) := by omega
          have hi00 : (0 : Int) ≤ (i : Int) := by omega
          have hi1 : IntKind.i64.wrap ((i : Int) + 1) = (i : Int) + 1 := IntWalk.i64_in _ (by omega)
          clear hp ha hev hod ht HSV HSV2
          have hp1 : IntKind.i64.wrap ((p : Int) + 1) = (p : Int) + 1 := IntWalk.i64_in _ (by omega)
          have hpn1 : IntKind.i64.wrap ((p : Int) - 1) = (p : Int) - 1 := IntWalk.i64_in _ (by omega)
          go_wp2_with (fail)
          by_cases hpm : p % 2 = 0
          · have hpm1 : (p : Int) % 2 = 0 := by omega
            have hpt : Int.tmod (p : Int) 2 = 0 := by rw [Int.tmod_eq_emod_of_nonneg (by omega)]; omega
            have HPM := Lib.hid hpm
            by_cases hn1 : i + 1 < kj.length
            rotate_left
            · have hnd : decide ((i : Int) + 1 < (kj.length : Int)) = false := decide_eq_false (by omega)
              obtain rfl : ev = false := by rw [HEV.out, decide_eq_false hn1]; simp
              obtain rfl : od = false := by rw [HOD.out, decide_eq_false (by omega)]; rfl
              clear hpm hn1
              go_quiet (fail)
              go_wp2_with (fail)
              go_quiet (fail)
              by_cases hv : v < m.sides.length
              rotate_left
              · have HE := Lib.hid (HXN.out (HS4.out (by first | rfl | trivial) (by first | rfl | trivial) hv))
                have hvd : decide ((m.sides.length : Int) ≤ (v : Int)) = true := decide_eq_true (by omega)
                have hvd2 : decide ((v : Int) ≥ (m.sides.length : Int)) = true := decide_eq_true (by omega)
                have hvn : m.sides.length ≤ v := by omega
                go_wp2
                go_ret2
                exact MrRes.mk HE.out (by have hB := HBiw.out; exact (by (repeat (first | with_reducible exact hB | with_reducible apply Below.drewN | with_reducible apply Below.drew | with_reducible refine Below.alloc ?_ ?_ _)); all_goals (first | omega | (simp; done) | (simp; omega))))
              have hvd : decide ((m.sides.length : Int) ≤ (v : Int)) = false := decide_eq_false (by omega)
              have hvn : ¬ m.sides.length ≤ v := by omega
              obtain ⟨b4, o4, rfl, hl4', q4, s1⟩ := Row.str RS.out hv
              have HBE : Hid (m.sides.getD v nilB = m.sides[v]) := Lib.hid (getD_ hv)
              have HSN0 := Lib.hid (HS3.out (by first | rfl | trivial) (by first | rfl | trivial) hv)
              rw [HBE.out] at HSN0
              obtain ⟨b, hb_⟩ : ∃ b, m.sides[v] = b := ⟨_, rfl⟩
              rw [hb_] at q4 s1 HSN0
              replace q4 := (HBiw.out.cell (p := ⟨b4, o4 + v, none⟩) hl4').trans q4
              have hl4 : b4 < wr.heap.size := Nat.lt_of_lt_of_le hl4' HBiw.out.size
              have hvi : (v : Int) < (m.sides.length : Int) := by omega
              have hv0 : (0 : Int) ≤ (v : Int) := by omega
              have hvw : IntKind.i64.wrap ((v : Int) + 1) = (v : Int) + 1 := IntWalk.i64_in _ (by omega)
              have HSN : Hid (svF (node2 n) kj hj m.sides t (i + 1) (v + 1) (nx ++ [tagHash 3 [a, b] n]) = X) := Lib.hid (by have h9 := HSN0.out; unfold node2 at h9; rw [if_pos HPM.out] at h9; exact h9)
              clear hb_ HBE HSN0 HS1 HS2 HS3 HS4
              have hB := Below.refl wr.heap.size wr
              go_wp2_with (first | (go_at_call 82; refine (spec_TagHash _ 3 (by unfold I64; omega) [a, b] _ _ _ (row_pairAt _ a b s0 s1 _ _ (by first | rfl | simp)) (by simp) n hn).mono ?_; rintro e5 w5 ⟨rfl, hb5⟩; have hB5 := Below.step (a := wr) (by (repeat (first | with_reducible exact hB | with_reducible apply Below.drewN | with_reducible apply Below.drew | with_reducible refine Below.alloc ?_ ?_ _)); all_goals (first | omega | (simp; done) | (simp; omega))) hb5; have HOW5 := Lib.hid (HOW2.out.later hB5)) | (at_builtin; refine wpList_push (α := ByteArray) (ys := [tagHash 3 [a, b] n]) rfl _ _ rfl rfl rfl (HOW5.out.alloc _) rfl rfl (src1 (hash_max 3 [a, b] n) (by first | rfl | simp) rfl) (by omega) ?_; intro A6 c6 w6 o6 z6))
              go_roundw
              case rel => first | exact ⟨i + 1, v + 1, nx ++ [tagHash 3 [a, b] n], A6, c6, by go_num, by go_num, by simp, hlt, by simp; omega, hv, Lib.hid (by rw [HT2.out]; exact HSN.out), o6⟩ | ((repeat apply Exists.intro); exact ⟨⟨i + 1, v + 1, nx ++ [tagHash 3 [a, b] n], A6, c6, by go_num, by go_num, by simp, hlt, by simp; omega, hv, Lib.hid (by rw [HT2.out]; exact HSN.out), o6⟩, rfl⟩)
              case measure => simp [intOf]; omega
            have hnd : decide ((i : Int) + 1 < (kj.length : Int)) = true := decide_eq_true (by omega)
            have hnd2 : (i : Int) + 1 < (kj.length : Int) := by omega
            have hi10 : (0 : Int) ≤ (i : Int) + 1 := by omega
            obtain ⟨b5, o5, e5, hl5', f1, i1⟩ := Row.int HRP.out (i := i + 1) (by rw [castL_len]; exact hn1)
            cases e5
            rw [castL_at hn1] at f1 i1
            replace f1 := (HB2i.out.cell (p := ⟨b1, o1 + (i + 1), none⟩) hl1').trans f1
            have hi1n : ((i : Int) + 1).toNat = i + 1 := by omega
            obtain ⟨q, hq⟩ : ∃ q, kj.getD (i + 1) 0 = q := ⟨_, rfl⟩
            rw [hq] at f1 i1 HEV
            clear hq
            by_cases hqp : q = p + 1
            rotate_left
            · have hqd : ((q : Int) == (p : Int) + 1) = false := by rw [beq_eq_false_iff_ne]; omega
              obtain rfl : ev = false := by rw [HEV.out, decide_eq_false hqp]; simp
              obtain rfl : od = false := by rw [HOD.out, decide_eq_false (by omega)]; rfl
              clear hpm hn1 hqp
              go_quiet (fail)
              go_wp2_with (fail)
              go_quiet (fail)
              by_cases hv : v < m.sides.length
              rotate_left
              · have HE := Lib.hid (HXN.out (HS4.out (by first | rfl | trivial) (by first | rfl | trivial) hv))
                have hvd : decide ((m.sides.length : Int) ≤ (v : Int)) = true := decide_eq_true (by omega)
                have hvd2 : decide ((v : Int) ≥ (m.sides.length : Int)) = true := decide_eq_true (by omega)
                have hvn : m.sides.length ≤ v := by omega
                go_wp2
                go_ret2
                exact MrRes.mk HE.out (by have hB := HBiw.out; exact (by (repeat (first | with_reducible exact hB | with_reducible apply Below.drewN | with_reducible apply Below.drew | with_reducible refine Below.alloc ?_ ?_ _)); all_goals (first | omega | (simp; done) | (simp; omega))))
              have hvd : decide ((m.sides.length : Int) ≤ (v : Int)) = false := decide_eq_false (by omega)
              have hvn : ¬ m.sides.length ≤ v := by omega
              obtain ⟨b4, o4, rfl, hl4', q4, s1⟩ := Row.str RS.out hv
              have HBE : Hid (m.sides.getD v nilB = m.sides[v]) := Lib.hid (getD_ hv)
              have HSN0 := Lib.hid (HS3.out (by first | rfl | trivial) (by first | rfl | trivial) hv)
              rw [HBE.out] at HSN0
              obtain ⟨b, hb_⟩ : ∃ b, m.sides[v] = b := ⟨_, rfl⟩
              rw [hb_] at q4 s1 HSN0
              replace q4 := (HBiw.out.cell (p := ⟨b4, o4 + v, none⟩) hl4').trans q4
              have hl4 : b4 < wr.heap.size := Nat.lt_of_lt_of_le hl4' HBiw.out.size
              have hvi : (v : Int) < (m.sides.length : Int) := by omega
              have hv0 : (0 : Int) ≤ (v : Int) := by omega
              have hvw : IntKind.i64.wrap ((v : Int) + 1) = (v : Int) + 1 := IntWalk.i64_in _ (by omega)
              have HSN : Hid (svF (node2 n) kj hj m.sides t (i + 1) (v + 1) (nx ++ [tagHash 3 [a, b] n]) = X) := Lib.hid (by have h9 := HSN0.out; unfold node2 at h9; rw [if_pos HPM.out] at h9; exact h9)
              clear hb_ HBE HSN0 HS1 HS2 HS3 HS4
              have hB := Below.refl wr.heap.size wr
              go_wp2_with (first | (go_at_call 82; refine (spec_TagHash _ 3 (by unfold I64; omega) [a, b] _ _ _ (row_pairAt _ a b s0 s1 _ _ (by first | rfl | simp)) (by simp) n hn).mono ?_; rintro e5 w5 ⟨rfl, hb5⟩; have hB5 := Below.step (a := wr) (by (repeat (first | with_reducible exact hB | with_reducible apply Below.drewN | with_reducible apply Below.drew | with_reducible refine Below.alloc ?_ ?_ _)); all_goals (first | omega | (simp; done) | (simp; omega))) hb5; have HOW5 := Lib.hid (HOW2.out.later hB5)) | (at_builtin; refine wpList_push (α := ByteArray) (ys := [tagHash 3 [a, b] n]) rfl _ _ rfl rfl rfl (HOW5.out.alloc _) rfl rfl (src1 (hash_max 3 [a, b] n) (by first | rfl | simp) rfl) (by omega) ?_; intro A6 c6 w6 o6 z6))
              go_roundw
              case rel => first | exact ⟨i + 1, v + 1, nx ++ [tagHash 3 [a, b] n], A6, c6, by go_num, by go_num, by simp, hlt, by simp; omega, hv, Lib.hid (by rw [HT2.out]; exact HSN.out), o6⟩ | ((repeat apply Exists.intro); exact ⟨⟨i + 1, v + 1, nx ++ [tagHash 3 [a, b] n], A6, c6, by go_num, by go_num, by simp, hlt, by simp; omega, hv, Lib.hid (by rw [HT2.out]; exact HSN.out), o6⟩, rfl⟩)
              case measure => simp [intOf]; omega
            have hqd : ((q : Int) == (p : Int) + 1) = true := by rw [beq_iff_eq]; omega
            obtain rfl : ev = true := by rw [HEV.out, decide_eq_true hpm, decide_eq_true hn1, decide_eq_true hqp]; rfl
            obtain ⟨b6, o6, e6, hl6', g1, s1⟩ := Row.str HRH.out (i := i + 1) (by rw [HLJ.out]; exact hn1)
            cases e6
            have HBE : Hid (hj.getD (i + 1) nilB = hj[i + 1]'(by rw [HLJ.out]; exact hn1)) := Lib.hid (getD_ (by rw [HLJ.out]; exact hn1))
            obtain ⟨b, hb_⟩ : ∃ b, hj[i + 1]'(by rw [HLJ.out]; exact hn1) = b := ⟨_, rfl⟩
            rw [hb_] at g1 s1 HBE
            replace g1 := (HB2i.out.cell (p := ⟨b2, o2 + (i + 1), none⟩) hl2').trans g1
            have HSN : Hid (svF (node2 n) kj hj m.sides t (i + 1) v (nx ++ [tagHash 3 [a, b] n]) = X) := Lib.hid (by have h9 := HS1.out (by first | rfl | trivial); rw [HBE.out] at h9; unfold node2 at h9; rw [if_pos HPM.out] at h9; exact h9)
            clear hb_ HBE HS1 HS2 HS3 HS4 hpm hn1 hqp
            go_quiet (fail)
            go_wp2_with (fail)
            have hB := Below.refl wr.heap.size wr
            go_wp2_with (first | (go_at_call 82; refine (spec_TagHash _ 3 (by unfold I64; omega) [a, b] _ _ _ (row_pairAt _ a b s0 s1 _ _ (by first | rfl | simp)) (by simp) n hn).mono ?_; rintro e5 w5 ⟨rfl, hb5⟩; have hB5 := Below.step (a := wr) (by (repeat (first | with_reducible exact hB | with_reducible apply Below.drewN | with_reducible apply Below.drew | with_reducible refine Below.alloc ?_ ?_ _)); all_goals (first | omega | (simp; done) | (simp; omega))) hb5; have HOW5 := Lib.hid (HOW2.out.later hB5)) | (at_builtin; refine wpList_push (α := ByteArray) (ys := [tagHash 3 [a, b] n]) rfl _ _ rfl rfl rfl (HOW5.out.alloc _) rfl rfl (src1 (hash_max 3 [a, b] n) (by first | rfl | simp) rfl) (by omega) ?_; intro A6 c6 w6 o6 z6))
            go_roundw
            case rel => first | exact ⟨i + 1, v, nx ++ [tagHash 3 [a, b] n], A6, c6, by go_num, rfl, by simp, hlt, by simp; omega, hvs, Lib.hid (by rw [HT2.out]; exact HSN.out), o6⟩ | ((repeat apply Exists.intro); exact ⟨⟨i + 1, v, nx ++ [tagHash 3 [a, b] n], A6, c6, by go_num, rfl, by simp, hlt, by simp; omega, hvs, Lib.hid (by rw [HT2.out]; exact HSN.out), o6⟩, rfl⟩)
            case measure => simp [intOf]; omega
          have hpm1 : (p : Int) % 2 = 1 := by omega
          have hpt : Int.tmod (p : Int) 2 = 1 := by rw [Int.tmod_eq_emod_of_nonneg (by omega)]; omega
          have HPM : Hid (p % 2 = 1) := Lib.hid (by omega)
          obtain rfl : ev = false := by rw [HEV.out, decide_eq_false hpm]; rfl
          by_cases h0 : 0 < i
          rotate_left
          · have hid0 : decide ((0 : Int) < (i : Int)) = false := decide_eq_false (by omega)
            have hid1 : decide ((i : Int) > 0) = false := decide_eq_false (by omega)
            obtain rfl : od = false := by rw [HOD.out, decide_eq_false h0]; simp
            have hid5 : decide (0 < i) = false := decide_eq_false h0
            have hid6 : i ≤ 0 := by omega
            clear hpm h0 hid6
            go_quiet (fail)
            go_wp2_with (fail)
            go_quiet (fail)
            by_cases hv : v < m.sides.length
            rotate_left
            · have HE := Lib.hid (HXN.out (HS4.out (by first | rfl | trivial) (by first | rfl | trivial) hv))
              have hvd : decide ((m.sides.length : Int) ≤ (v : Int)) = true := decide_eq_true (by omega)
              have hvd2 : decide ((v : Int) ≥ (m.sides.length : Int)) = true := decide_eq_true (by omega)
              have hvn : m.sides.length ≤ v := by omega
              go_wp2
              go_ret2
              exact MrRes.mk HE.out (by have hB := HBiw.out; exact (by (repeat (first | with_reducible exact hB | with_reducible apply Below.drewN | with_reducible apply Below.drew | with_reducible refine Below.alloc ?_ ?_ _)); all_goals (first | omega | (simp; done) | (simp; omega))))
            have hvd : decide ((m.sides.length : Int) ≤ (v : Int)) = false := decide_eq_false (by omega)
            have hvn : ¬ m.sides.length ≤ v := by omega
            obtain ⟨b4, o4, rfl, hl4', q4, s1⟩ := Row.str RS.out hv
            have HBE : Hid (m.sides.getD v nilB = m.sides[v]) := Lib.hid (getD_ hv)
            have HSN0 := Lib.hid (HS3.out (by first | rfl | trivial) (by first | rfl | trivial) hv)
            rw [HBE.out] at HSN0
            obtain ⟨b, hb_⟩ : ∃ b, m.sides[v] = b := ⟨_, rfl⟩
            rw [hb_] at q4 s1 HSN0
            replace q4 := (HBiw.out.cell (p := ⟨b4, o4 + v, none⟩) hl4').trans q4
            have hl4 : b4 < wr.heap.size := Nat.lt_of_lt_of_le hl4' HBiw.out.size
            have hvi : (v : Int) < (m.sides.length : Int) := by omega
            have hv0 : (0 : Int) ≤ (v : Int) := by omega
            have hvw : IntKind.i64.wrap ((v : Int) + 1) = (v : Int) + 1 := IntWalk.i64_in _ (by omega)
            have HSN : Hid (svF (node2 n) kj hj m.sides t (i + 1) (v + 1) (nx ++ [tagHash 3 [b, a] n]) = X) := Lib.hid (by have h9 := HSN0.out; unfold node2 at h9; rw [if_neg (by have := HPM.out; omega)] at h9; exact h9)
            clear hb_ HBE HSN0 HS1 HS2 HS3 HS4
            have hB := Below.refl wr.heap.size wr
            go_wp2_with (first | (go_at_call 82; refine (spec_TagHash _ 3 (by unfold I64; omega) [b, a] _ _ _ (row_pairAt _ b a s1 s0 _ _ (by first | rfl | simp)) (by simp) n hn).mono ?_; rintro e5 w5 ⟨rfl, hb5⟩; have hB5 := Below.step (a := wr) (by (repeat (first | with_reducible exact hB | with_reducible apply Below.drewN | with_reducible apply Below.drew | with_reducible refine Below.alloc ?_ ?_ _)); all_goals (first | omega | (simp; done) | (simp; omega))) hb5; have HOW5 := Lib.hid (HOW2.out.later hB5)) | (at_builtin; refine wpList_push (α := ByteArray) (ys := [tagHash 3 [b, a] n]) rfl _ _ rfl rfl rfl (HOW5.out.alloc _) rfl rfl (src1 (hash_max 3 [b, a] n) (by first | rfl | simp) rfl) (by omega) ?_; intro A6 c6 w6 o6 z6))
            go_roundw
            case rel => first | exact ⟨i + 1, v + 1, nx ++ [tagHash 3 [b, a] n], A6, c6, by go_num, by go_num, by simp, hlt, by simp; omega, hv, Lib.hid (by rw [HT2.out]; exact HSN.out), o6⟩ | ((repeat apply Exists.intro); exact ⟨⟨i + 1, v + 1, nx ++ [tagHash 3 [b, a] n], A6, c6, by go_num, by go_num, by simp, hlt, by simp; omega, hv, Lib.hid (by rw [HT2.out]; exact HSN.out), o6⟩, rfl⟩)
            case measure => simp [intOf]; omega
          obtain ⟨j, hj1⟩ : ∃ j, i = j + 1 := ⟨i - 1, by omega⟩
          have hid0 : decide ((0 : Int) < (i : Int)) = true := decide_eq_true (by omega)
          have hid2 : (0 : Int) < (i : Int) := by omega
          have hid3 : decide (0 < i) = true := decide_eq_true h0
          have hid4 : 0 < i := h0
          have hjw : IntKind.i64.wrap ((i : Int) - 1) = (j : Int) := by rw [IntWalk.i64_in] <;> omega
          have hji : (j : Int) < (kj.length : Int) := by omega
          have hj0 : (0 : Int) ≤ (j : Int) := by omega
          have hjl : j < kj.length := by omega
          obtain ⟨b5, o5, e5, hl5', f1, i1⟩ := Row.int HRP.out (i := j) (by rw [castL_len]; exact hjl)
          cases e5
          rw [castL_at hjl] at f1 i1
          replace f1 := (HB2i.out.cell (p := ⟨b1, o1 + j, none⟩) hl1').trans f1
          rw [show i - 1 = j by omega] at HOD
          obtain ⟨q, hq⟩ : ∃ q, kj.getD j 0 = q := ⟨_, rfl⟩
          rw [hq] at f1 i1 HOD
          clear hq
          by_cases hqp : q + 1 = p
          · have hqd : ((q : Int) == (p : Int) - 1) = true := by rw [beq_iff_eq]; omega
            obtain rfl : od = true := by rw [HOD.out, decide_eq_true h0, decide_eq_true hqp, decide_eq_true HPM.out]; rfl
            have HSN := Lib.hid (HS2.out (by first | rfl | trivial) (by first | rfl | trivial))
            clear hpm h0 hqp hj1 HS1 HS2 HS3 HS4
            go_quiet (fail)
            go_wp2_with (fail)
            go_quiet (fail)
            go_wp2
            go_roundw
            case rel => exact ⟨i + 1, v, nx, AN, cN, by go_num, rfl, rfl, hlt, by omega, hvs, Lib.hid (by rw [HT2.out]; exact HSN.out), HOW2.out.later (by have hB := Below.refl wr.heap.size wr; exact (by (repeat (first | with_reducible exact hB | with_reducible apply Below.drewN | with_reducible apply Below.drew | with_reducible refine Below.alloc ?_ ?_ _)); all_goals (first | omega | (simp; done) | (simp; omega))))⟩
            case measure => simp [intOf]; omega
          · have hqd : ((q : Int) == (p : Int) - 1) = false := by rw [beq_eq_false_iff_ne]; omega
            obtain rfl : od = false := by rw [HOD.out, decide_eq_false hqp]; simp
            clear hpm h0 hqp hj1
            go_quiet (fail)
            go_wp2_with (fail)
            go_quiet (fail)
            by_cases hv : v < m.sides.length
            rotate_left
            · have HE := Lib.hid (HXN.out (HS4.out (by first | rfl | trivial) (by first | rfl | trivial) hv))
              have hvd : decide ((m.sides.length : Int) ≤ (v : Int)) = true := decide_eq_true (by omega)
              have hvd2 : decide ((v : Int) ≥ (m.sides.length : Int)) = true := decide_eq_true (by omega)
              have hvn : m.sides.length ≤ v := by omega
              go_wp2
              go_ret2
              exact MrRes.mk HE.out (by have hB := HBiw.out; exact (by (repeat (first | with_reducible exact hB | with_reducible apply Below.drewN | with_reducible apply Below.drew | with_reducible refine Below.alloc ?_ ?_ _)); all_goals (first | omega | (simp; done) | (simp; omega))))
            have hvd : decide ((m.sides.length : Int) ≤ (v : Int)) = false := decide_eq_false (by omega)
            have hvn : ¬ m.sides.length ≤ v := by omega
            obtain ⟨b4, o4, rfl, hl4', q4, s1⟩ := Row.str RS.out hv
            have HBE : Hid (m.sides.getD v nilB = m.sides[v]) := Lib.hid (getD_ hv)
            have HSN0 := Lib.hid (HS3.out (by first | rfl | trivial) (by first | rfl | trivial) hv)
            rw [HBE.out] at HSN0
            obtain ⟨b, hb_⟩ : ∃ b, m.sides[v] = b := ⟨_, rfl⟩
            rw [hb_] at q4 s1 HSN0
            replace q4 := (HBiw.out.cell (p := ⟨b4, o4 + v, none⟩) hl4').trans q4
            have hl4 : b4 < wr.heap.size := Nat.lt_of_lt_of_le hl4' HBiw.out.size
            have hvi : (v : Int) < (m.sides.length : Int) := by omega
            have hv0 : (0 : Int) ≤ (v : Int) := by omega
            have hvw : IntKind.i64.wrap ((v : Int) + 1) = (v : Int) + 1 := IntWalk.i64_in _ (by omega)
            have HSN : Hid (svF (node2 n) kj hj m.sides t (i + 1) (v + 1) (nx ++ [tagHash 3 [b, a] n]) = X) := Lib.hid (by have h9 := HSN0.out; unfold node2 at h9; rw [if_neg (by have := HPM.out; omega)] at h9; exact h9)
            clear hb_ HBE HSN0 HS1 HS2 HS3 HS4
            have hB := Below.refl wr.heap.size wr
            go_wp2_with (first | (go_at_call 82; refine (spec_TagHash _ 3 (by unfold I64; omega) [b, a] _ _ _ (row_pairAt _ b a s1 s0 _ _ (by first | rfl | simp)) (by simp) n hn).mono ?_; rintro e5 w5 ⟨rfl, hb5⟩; have hB5 := Below.step (a := wr) (by (repeat (first | with_reducible exact hB | with_reducible apply Below.drewN | with_reducible apply Below.drew | with_reducible refine Below.alloc ?_ ?_ _)); all_goals (first | omega | (simp; done) | (simp; omega))) hb5; have HOW5 := Lib.hid (HOW2.out.later hB5)) | (at_builtin; refine wpList_push (α := ByteArray) (ys := [tagHash 3 [b, a] n]) rfl _ _ rfl rfl rfl (HOW5.out.alloc _) rfl rfl (src1 (hash_max 3 [b, a] n) (by first | rfl | simp) rfl) (by omega) ?_; intro A6 c6 w6 o6 z6))
            go_roundw
            case rel => first | exact ⟨i + 1, v + 1, nx ++ [tagHash 3 [b, a] n], A6, c6, by go_num, by go_num, by simp, hlt, by simp; omega, hv, Lib.hid (by rw [HT2.out]; exact HSN.out), o6⟩ | ((repeat apply Exists.intro); exact ⟨⟨i + 1, v + 1, nx ++ [tagHash 3 [b, a] n], A6, c6, by go_num, by go_num, by simp, hlt, by simp; omega, hv, Lib.hid (by rw [HT2.out]; exact HSN.out), o6⟩, rfl⟩)
            case measure => simp [intOf]; omega
        · have hie : i = kj.length := by omega
          subst hie
          have HXE : Hid (X = some (nx, v)) := Lib.hid (by have h9 := HSV.out; rw [Nat.sub_self] at h9; exact h9.symm)
          have HXT := Lib.hid (HXS2.out nx v HXE.out)
          clear HSV HXE hni hvs c0 c1 c2
          go_wp2_with (fail)
          refine (HAB.out _ HB2i.out).mono ?_
          rintro e7 w7 ⟨A7, c7, rfl, o7⟩
          have HB7 := Lib.hid (HBi.out.trans (o7.bl.mono HBi.out.size))
          have HR7 := Lib.hid o7.weak
          have HN7 := Lib.hid (HOW2.out.later o7.bl).weak
          clear o7
          go_wp2
          go_roundw
          case rel => exact ⟨d, v, aboveU kj, nx, A7, AN, c7, cN, _, _, by simp, rfl, by rw [castL_len], by rw [HXT.out.1], by omega, HXT.out.2.1, by have := above_len kj; omega, above_pos hkj0, Lib.hid HXT.out.1, Lib.hid (above_inc HIJ.out), Lib.hid (above_lt HJ2.out), HR7, HN7, Lib.hid HXT.out.2.2, HB7⟩
          case measure => first | (simp [intOf]; done) | (simp [intOf]; omega)
end Go.Proofs.YtojbehmbeoemgaaDoor
