/- A part of the proof: what the laws need of it. -/
import Derived.Test.YtgllafgpmenjjaaGreatDoorHReSn
import Derived.Test.YtgllafgpmenjjaaGreatDoorHReL22xNd
import Derived.Test.YtgllafgpmenjjaaGreatDoorHReL21xPr
import Derived.Test.YtgllafgpmenjjaaGreatDoorHReL18xHo
import Derived.Deep.RegionHeld3
set_option linter.unusedVariables false
set_option linter.unusedSimpArgs false
set_option linter.unusedVariables false
set_option linter.unusedSimpArgs false
namespace Go.Proofs.YtgllafgpmenjjaaGreatDoor
open Go.RowKit Lay Mk
set_option maxRecDepth 20000 in set_option maxHeartbeats 4000000 in
theorem spec_LockOf (w : World) (s : ByteArray) (hs : s.size ≤ 200) : Calls Tryz.prog 172 #[.string s] w fun e w' => e = .returned (.string (lockOf s)) ∧ Below w.heap.size w w' := by
  go_enter Tryz.func172, Tryz.ntmps172
  go_wp2_with (fail)
  refine (spec_TagHash _ 6 (by unfold I64; omega) [s] _ _ _ (row_one w s (ml hs (by omega)) _) (by simp) 16 (by unfold I64; omega)).mono ?_
  rintro e5 w5 ⟨rfl, hb5⟩
  go_wp2
  go_ret
  exact ⟨rfl, Below.via hb5⟩
end Go.Proofs.YtgllafgpmenjjaaGreatDoor

set_option linter.unusedVariables false
set_option linter.unusedSimpArgs false
namespace Go.Proofs.YtgllafgpmenjjaaGreatDoor
open Go.RowKit Lay Mk
set_option maxRecDepth 20000 in set_option maxHeartbeats 8000000 in
theorem impl_SigOk (w : World) (root t : ByteArray) (x : Sig) (cs : List Value) (S : Blks) (hx : rd false w cs x S) (hT : Tabs w) : Calls Tryz.prog 103 #[.string root, .string t, .agg cs.toArray] w fun e w' => e = .returned (.bool (sigOk root t x)) ∧ Below w.heap.size w w' := by
  have HTx := Lib.hid (fun W h h2 => impl_SigTexts W t x cs S (Lay.later hx h) h2)
  have HT := Lib.hid hT; clear hT
  have HOK : Hid (sigOk root t x = ((sigForm x && decide (t.size ≤ 200)) && decide (sigRoot t x = root))) := Lib.hid rfl
  obtain ⟨A0, k0, S0, A1, k1, S1, A2, k2, S2, rfl, -⟩ := Sig.open hx
  clear hx
  simp only [Sig.cs] at HTx ⊢
  go_enter Tryz.func103, Tryz.ntmps103
  go_wp2_with (fail)
  refine (HTx.out _ ((Below.refl _ _).alloc (Nat.le_refl _) _) (HT.out.later ((Below.refl _ _).alloc (Nat.le_refl _) _))).mono ?_
  rintro e1 w1 ⟨A, c, l, S', rfl, hlen, hr, hN, hY, hb⟩
  have HB : Hid (Below w.heap.size w w1) := Lib.hid (Below.via hb)
  cases hok : (sigForm x && decide (t.size ≤ 200))
  · have hl := hN hok
    subst hl
    rw [hok] at HOK
    clear hN hY hr hb
    go_wp2
    go_ret
    exact ⟨ret_bool (by rw [HOK.out]; rfl), HB.out⟩
  · obtain ⟨pre, tl, rfl, htl, hcut⟩ := hY hok
    rw [hok] at HOK
    clear hN hY
    obtain ⟨b1, o1, rfl, hl1, f0, s0⟩ := Row.str hr (i := pre.length) (by simp)
    rw [List.getElem_concat_length (rfl)] at f0
    have hln : (pre ++ [tl]).length = pre.length + 1 := by simp
    obtain ⟨n, hn⟩ : ∃ n, pre.length = n := ⟨_, rfl⟩
    rw [hn] at hln f0
    rw [hln] at hlen ⊢
    have hw1 : IntKind.i64.wrap (((n + 1 : Nat) : Int) - 1) = (n : Int) := by rw [IntWalk.i64_in _ (by omega)]; omega
    have hp : (0 : Int) < ((n + 1 : Nat) : Int) := by omega
    have hq : ((n + 1 : Nat) : Int) - 1 = (n : Int) := by omega
    have hpp : (0 : Int) < (n : Int) + 1 := by omega
    have hlt2 : (n : Int) < ((n + 1 : Nat) : Int) := by omega
    have hlt3 : (n : Int) < (n : Int) + 1 := by omega
    have hqq : (n : Int) + 1 - 1 = (n : Int) := by omega
    have hw2 : IntKind.i64.wrap (n : Int) = (n : Int) := IntWalk.i64_in _ (by omega)
    have HC := Lib.hid hcut
    clear hb hr hln hcut hn s0
    go_wp2_with (fail)
    refine (impl_CutDigest _ tl (by omega) 16 (by unfold I64; omega) (HT.out.later HB.out)).mono ?_
    rintro e2 w2 ⟨rfl, hb2⟩
    rw [HC.out]
    have HB2 := Lib.hid (HB.out.trans (hb2.mono HB.out.size))
    clear hb2
    by_cases hroot : sigRoot t x = root
    · have hse := str_eq hroot
      rw [decide_eq_true hroot] at HOK
      clear hroot
      go_wp2
      go_ret
      exact ⟨ret_bool (by rw [HOK.out]; rfl), HB2.out⟩
    · have hse := str_ne hroot
      rw [decide_eq_false hroot] at HOK
      clear hroot
      go_wp2
      go_ret
      exact ⟨ret_bool (by rw [HOK.out]; rfl), HB2.out⟩
end Go.Proofs.YtgllafgpmenjjaaGreatDoor


set_option linter.unusedVariables false
set_option linter.unusedSimpArgs false
namespace Go.Proofs.YtgllafgpmenjjaaGreatDoor
open Go.RowKit Lay Mk
def nodeHash (xs : List Leaf) (lv pl n : Int) : ByteArray := if (leavesOk xs && (inB lv 0 8 && (inB pl 0 (2 ^ lv.toNat - 1) && inB n 1 32))) = true then nodeD n (8 - lv.toNat) pl.toNat xs else ⟨#[]⟩
def sideAt (n : Int) (ix : Nat) (l : List Leaf) (j : Nat) : ByteArray := nodeD n j ((ix / 2 ^ j) ^^^ 1) l
def sidesD (n : Int) (ix : Nat) (l : List Leaf) : Nat → List ByteArray
  | 0 => []
  | j + 1 => sidesD n ix l j ++ [sideAt n ix l j]
theorem sidesD_len (n : Int) (ix : Nat) (l : List Leaf) : ∀ j, (sidesD n ix l j).length = j
  | 0 => rfl
  | j + 1 => by unfold sidesD; rw [List.length_append, sidesD_len n ix l j]; rfl
def proveLeaf (xs : List Leaf) (name : ByteArray) (lv n : Int) : Proof × Bool := if (leavesOk xs && (nameOk name && (inB lv 0 8 && inB n 1 32))) = true then (⟨bucketOf xs (indexOf name), sidesD n (indexOf name) xs (8 - lv.toNat)⟩, true) else (⟨[], []⟩, false)
end Go.Proofs.YtgllafgpmenjjaaGreatDoor

set_option linter.unusedVariables false
set_option linter.unusedSimpArgs false
namespace Go.Proofs.YtgllafgpmenjjaaGreatDoor
open Go.RowKit Lay Mk
def risAt (xs : List Stamp) (i : Nat) : Bool := match xs[i - 1]?, xs[i]? with
  | some a, some b => decide (i = 0) || decide (a.by_ < b.by_)
  | _, _ => true
def rising (xs : List Stamp) : Bool := (List.range xs.length).all (risAt xs)
theorem risAt_eq {xs : List Stamp} {i : Nat} (h : i + 1 < xs.length) : risAt xs (i + 1) = decide (xs[i].by_ < xs[i + 1].by_) := by
  unfold risAt
  rw [Nat.add_sub_cancel, List.getElem?_eq_getElem (by omega), List.getElem?_eq_getElem h]
  simp
theorem rising_bad {xs : List Stamp} {i : Nat} (h : i + 1 < xs.length) (hb : ¬ xs[i].by_ < xs[i + 1].by_) : rising xs = false := by
  unfold rising; rw [List.all_eq_false]
  exact ⟨i + 1, List.mem_range.2 h, by rw [risAt_eq h]; simpa using hb⟩
theorem rising_good {xs : List Stamp} (h : ∀ i (hi : i + 1 < xs.length), xs[i].by_ < xs[i + 1].by_) : rising xs = true := by
  unfold rising; rw [List.all_eq_true]
  intro i hi
  have hi := List.mem_range.1 hi
  cases i with
  | zero => unfold risAt; split <;> simp
  | succ j => rw [risAt_eq hi]; simpa using h j hi
def wholeForm (t : Trust) (house : Int) (name : ByteArray) (x : Whole) : Bool := trustOk t && (inB house 0 ((t.roots.length : Int) - 1) && (proofOk name x.proof 16 && (decide ((x.proof.sides.length : Int) = 8 - t.k) && ((decide ((x.tops.length : Int) = t.k) && wideG x.tops 16) && rising x.stamps))))
def WSmall (x : Whole) : Prop := x.proof.sz ≤ 1048576 ∧ x.tops.length ≤ 1048576 ∧ x.stamps.length ≤ 1048576 ∧ x.stamps.length ≤ 1048576
theorem whole_sz {x : Whole} (h : x.sz ≤ 1048576) : WSmall x := by
  unfold WSmall
  simp only [Whole.sz] at h
  have := szT_le x.tops 0
  have := szT_le x.stamps 0
  omega
theorem stamp_by_at {m : Bool} {w : World} {A : Option Addr} {cap : Nat} {xs : List Stamp} {S : Blks} (h : Row m w A cap xs S) {i : Nat} (hi : i < xs.length) :
    ∃ b off, A = some ⟨b, off, none⟩ ∧ b < w.heap.size ∧ w.cell? ⟨b, off + i * 5, none⟩ = some (.int .i64 (xs[i]).by_) ∧ I64 (xs[i]).by_ := by
  obtain ⟨b, off, cs, T, e, hb, ha, hr, _, _⟩ := Row.at_ h hi
  obtain ⟨_, _, _, _, _, _, _, _, _, rfl, f0, -⟩ := Stamp.open hr
  rw [show Lay.n Stamp = 5 from rfl] at ha
  exact ⟨b, off, e, hb, ha 0 _ rfl, f0⟩
set_option maxRecDepth 20000 in set_option maxHeartbeats 8000000 in
theorem impl_wholeForm (w : World) (t : Trust) (cs : List Value) (S : Blks) (hx : rd false w cs t S) (hz : t.sz ≤ 1048576) (house : Int) (hh : I64 house) (name : ByteArray) (hn : name.size ≤ 1048576) (x : Whole) (ct : List Value) (S2 : Blks) (hy : rd false w ct x S2) (hzx : WSmall x) (hT : Tabs w) : Calls Tryz.prog 94 #[.agg cs.toArray, .int .i64 house, .string name, .agg ct.toArray] w fun e w' => e = .returned (.bool (wholeForm t house name x)) ∧ Below w.heap.size w w' := by
  have HT := Lib.hid hT
  clear hT
  have hl := trust_sz hz
  obtain ⟨hzp, hlt, hzs, hls⟩ := id hzx
  have HTK := Lib.hid (fun W (h : Below w.heap.size w W) => impl_TrustOk W t cs S (Lay.later hx h) hz)
  obtain ⟨A0, k0, S0, rfl, fk, -, -, -, r0, -⟩ := Trust.open hx
  obtain ⟨B0, j0, U0, B1, j1, U1, B2, j2, U2, B3, j3, U3, B4, j4, U4, B5, j5, U5, B6, j6, U6, rfl, -, -, -, -, -, y0, y1, q0, y2, y3, y4, q1, y5, -, -, q2, -, -, -, -, -, -, -, -, -, -, -, -, -, -, -, q6, -⟩ := Whole.open hy
  have HPO := Lib.hid (fun W (h : Below w.heap.size w W) => impl_ProofOk W name hn x.proof _ S2 (Lay.later (Proof.mk' (x := x.proof) y0 y1 q0 y2 y3 y4 q1 y5 (fun h => by simp at h)) h) hzp 16 (by unfold I64; omega) (HT.out.later h))
  have HW := Lib.hid (fun W (h : Below w.heap.size w W) => impl_haveWidth W x.tops B2 j2 U2 (Row.later q2 h) (by unfold maxLen; omega) t.k fk 16)
  clear hx hy hz hzx y0 y1 y2 y3 y4 y5 q0 q1 q2
  have HF : Hid (wholeForm t house name x = (trustOk t && (inB house 0 ((t.roots.length : Int) - 1) && (proofOk name x.proof 16 && (decide ((x.proof.sides.length : Int) = 8 - t.k) && ((decide ((x.tops.length : Int) = t.k) && wideG x.tops 16) && rising x.stamps)))))) := Lib.hid rfl
  have HTB : Hid (trustOk t = true → 0 ≤ t.k ∧ t.k ≤ 2) := Lib.hid (fun h => by
    unfold trustOk at h
    simp only [Bool.and_eq_true] at h
    simpa [inB] using h.2.2.1)
  obtain ⟨R, hR⟩ : ∃ R, wholeForm t house name x = R := ⟨_, rfl⟩
  rw [hR] at HF ⊢
  clear hR
  simp only [Trust.cs, Whole.cs, Proof.cs] at HTK HPO ⊢
  have hw1 : IntKind.i64.wrap ((t.roots.length : Int) - 1) = (t.roots.length : Int) - 1 := IntWalk.i64_in _ (by omega)
  have HIN := Lib.hid (fun W => impl_in house 0 ((t.roots.length : Int) - 1) W)
  obtain ⟨z1, hz1⟩ : ∃ z, trustOk t = z := ⟨_, rfl⟩
  rw [hz1] at HTK HF
  simp only [hz1] at HTB
  obtain ⟨z2, hz2⟩ : ∃ z, inB house 0 ((t.roots.length : Int) - 1) = z := ⟨_, rfl⟩
  rw [hz2] at HIN HF
  obtain ⟨z3, hz3⟩ : ∃ z, proofOk name x.proof 16 = z := ⟨_, rfl⟩
  rw [hz3] at HPO HF
  obtain ⟨z4, hz4⟩ : ∃ z, wideG x.tops 16 = z := ⟨_, rfl⟩
  rw [hz4] at HW HF
  clear hz1 hz2 hz3 hz4
  have hWd : ∀ W, W = (w.alloc (.cells #[.slice A0 t.roots.length k0, .int .i64 t.k, .int .i64 t.need] 51)).alloc (.cells #[.slice B0 x.proof.bucket.length j0, .slice B1 x.proof.sides.length j1, .slice B2 x.tops.length j2, .int .i64 x.seal_.head.house, .int .i64 x.seal_.head.epoch, .string x.seal_.head.root, .string x.seal_.head.prev, .int .i64 x.seal_.sig.at_, .slice B3 x.seal_.sig.open_.length j3, .slice B4 x.seal_.sig.shut.length j4, .slice B5 x.seal_.sig.sides.length j5, .slice B6 x.stamps.length j6] 64) → Below w.heap.size w W ∧ W.cell? ⟨w.heap.size, 0, none⟩ = some (.slice A0 t.roots.length k0) ∧ W.cell? ⟨w.heap.size, 1, none⟩ = some (.int .i64 t.k) ∧ W.cell? ⟨w.heap.size + 1, 0, none⟩ = some (.slice B0 x.proof.bucket.length j0) ∧ W.cell? ⟨w.heap.size + 1, 1, none⟩ = some (.slice B1 x.proof.sides.length j1) ∧ W.cell? ⟨w.heap.size + 1, 2, none⟩ = some (.slice B2 x.tops.length j2) ∧ W.cell? ⟨w.heap.size + 1, 11, none⟩ = some (.slice B6 x.stamps.length j6) ∧ w.heap.size + 1 < W.heap.size := by
    rintro W rfl
    refine ⟨((Below.refl _ _).alloc (Nat.le_refl _) _).alloc (by simp) _, cell_alloc (box_cell _ _ _ _ _ rfl), cell_alloc (box_cell _ _ _ _ _ rfl), ?_, ?_, ?_, ?_, by simp⟩
    all_goals (rw [show w.heap.size + 1 = (w.alloc (.cells #[.slice A0 t.roots.length k0, .int .i64 t.k, .int .i64 t.need] 51)).heap.size from by simp]; exact box_cell _ _ _ _ _ rfl)
  go_enter Tryz.func94, Tryz.ntmps94
  go_wp2_with (fail)
  obtain ⟨W, hW⟩ : ∃ W, (w.alloc (.cells #[.slice A0 t.roots.length k0, .int .i64 t.k, .int .i64 t.need] 51)).alloc (.cells #[.slice B0 x.proof.bucket.length j0, .slice B1 x.proof.sides.length j1, .slice B2 x.tops.length j2, .int .i64 x.seal_.head.house, .int .i64 x.seal_.head.epoch, .string x.seal_.head.root, .string x.seal_.head.prev, .int .i64 x.seal_.sig.at_, .slice B3 x.seal_.sig.open_.length j3, .slice B4 x.seal_.sig.shut.length j4, .slice B5 x.seal_.sig.sides.length j5, .slice B6 x.stamps.length j6] 64) = W := ⟨_, rfl⟩
  rw [hW]
  obtain ⟨hBW, c0, c1, d0, d1, d2, d6, hsz⟩ := hWd W hW.symm
  have HBW := Lib.hid hBW
  clear hW hWd
  refine (HTK.out _ hBW).mono ?_
  rintro e1 w1 ⟨rfl, hb1⟩
  have HB1 := Lib.hid (hBW.trans (hb1.mono hBW.size))
  replace c0 := (hb1.cell (p := ⟨w.heap.size, 0, none⟩) (by show w.heap.size < W.heap.size; omega)).trans c0
  replace c1 := (hb1.cell (p := ⟨w.heap.size, 1, none⟩) (by show w.heap.size < W.heap.size; omega)).trans c1
  replace d0 := (hb1.cell (p := ⟨w.heap.size + 1, 0, none⟩) hsz).trans d0
  replace d1 := (hb1.cell (p := ⟨w.heap.size + 1, 1, none⟩) hsz).trans d1
  replace d2 := (hb1.cell (p := ⟨w.heap.size + 1, 2, none⟩) hsz).trans d2
  replace d6 := (hb1.cell (p := ⟨w.heap.size + 1, 11, none⟩) hsz).trans d6
  replace hsz := Nat.lt_of_lt_of_le hsz hb1.size
  clear hb1 hBW HTK
  cases z1
  · go_wp2
    go_ret
    exact ⟨ret_bool (by rw [HF.out]; rfl), HB1.out⟩
  obtain ⟨hk0, hk2⟩ := HTB.out rfl
  go_wp2_with (fail)
  refine (HIN.out _).mono ?_
  rintro e2 w2 ⟨rfl, rfl⟩
  cases z2
  · go_wp2
    go_ret
    exact ⟨ret_bool (by rw [HF.out]; rfl), HB1.out⟩
  go_wp2_with (fail)
  refine (HPO.out _ HB1.out).mono ?_
  rintro e3 w3 ⟨rfl, hb3⟩
  have HB3 := Lib.hid (HB1.out.trans (hb3.mono HB1.out.size))
  replace c1 := (hb3.cell (p := ⟨w.heap.size, 1, none⟩) (by show w.heap.size < w1.heap.size; omega)).trans c1
  replace d1 := (hb3.cell (p := ⟨w.heap.size + 1, 1, none⟩) hsz).trans d1
  replace d2 := (hb3.cell (p := ⟨w.heap.size + 1, 2, none⟩) hsz).trans d2
  replace d6 := (hb3.cell (p := ⟨w.heap.size + 1, 11, none⟩) hsz).trans d6
  replace hsz := Nat.lt_of_lt_of_le hsz hb3.size
  clear hb3 HPO c0 d0 hw1
  cases z3
  · go_wp2
    go_ret
    exact ⟨ret_bool (by rw [HF.out]; rfl), HB3.out⟩
  obtain ⟨kk, hkk⟩ : ∃ kk, t.k = kk := ⟨_, rfl⟩
  rw [hkk] at HF c1 hk0 hk2 HW
  clear HTB
  by_cases hsd : (x.proof.sides.length : Int) = 8 - kk
  rotate_left
  · have HSD : Hid (decide ((x.proof.sides.length : Int) = 8 - kk) = false) := Lib.hid (decide_eq_false hsd)
    have hq : ((x.proof.sides.length : Int) != 8 - kk) = true := by rw [bne_iff_ne]; exact hsd
    clear hsd
    go_wp2
    go_ret
    exact ⟨ret_bool (by rw [HF.out, HSD.out]; rfl), HB3.out⟩
  have HSD : Hid (decide ((x.proof.sides.length : Int) = 8 - kk) = true) := Lib.hid (decide_eq_true hsd)
  have hq : ((x.proof.sides.length : Int) != 8 - kk) = false := by rw [bne_eq_false_iff_eq]; exact hsd
  clear hsd
  obtain ⟨z5, hz5⟩ : ∃ z, (z4 && decide ((x.tops.length : Int) = kk)) = z := ⟨_, rfl⟩
  rw [hz5] at HW
  have HT5 : Hid ((decide ((x.tops.length : Int) = kk) && z4) = z5) := Lib.hid (by rw [← hz5, Bool.and_comm])
  clear hz5
  go_wp2_with (fail)
  refine (HW.out _ HB3.out).mono ?_
  rintro e4 w4 ⟨rfl, rfl⟩
  cases z5
  · go_wp2
    go_ret
    exact ⟨ret_bool (by rw [HF.out, HSD.out, HT5.out]; rfl), HB3.out⟩
  have HFF : Hid (R = rising x.stamps) := Lib.hid (by rw [HF.out, HSD.out, HT5.out]; rfl)
  obtain ⟨xs, hxs⟩ : ∃ xs, x.stamps = xs := ⟨_, rfl⟩
  rw [hxs] at HFF d6 hls q6
  have HBAD := Lib.hid (fun i (h : i + 1 < xs.length) hb => rising_bad h hb)
  have HGOOD := Lib.hid (fun h => rising_good (xs := xs) h)
  have D6 := Lib.hid d6
  have rV := Lib.hid (Row.later q6 HB3.out)
  clear HF HSD HT5 HW hxs hzs q6 c1 d1 d2
  go_wp2_with (fail)
  go_loopw [9] (fun i wr => ∃ k : Nat, k + 1 ≤ xs.length + 1 ∧ i = .int .i64 ((k + 1 : Nat) : Int) ∧ Hid (∀ j (h : j + 1 < xs.length), j < k → xs[j].by_ < xs[j + 1].by_) ∧ Below w3.heap.size w3 wr) (fun i _ => xs.length + 1 - (intOf i).toNat)
  case atStart => exact ⟨0, by omega, rfl, Lib.hid (fun j _ h => absurd h (by omega)), Below.refl _ _⟩
  case round =>
    clear d6
    obtain ⟨k, hk, rfl, HS, hb⟩ := hrel
    have d6 := (hb.cell (p := ⟨w.heap.size + 1, 11, none⟩) hsz).trans D6.out
    have HBr := Lib.hid (HB3.out.trans (hb.mono HB3.out.size))
    have HBl := Lib.hid hb
    by_cases hlt : k + 1 < xs.length
    · obtain ⟨b1, o1, rfl, hl1, e0, -⟩ := stamp_by_at rV.out (i := k) (by omega)
      obtain ⟨b2, o2, e2, hl2, e1, -⟩ := stamp_by_at rV.out (i := k + 1) hlt
      cases e2
      replace e0 := (hb.cell (p := ⟨b1, o1 + k * 5, none⟩) hl1).trans e0
      replace e1 := (hb.cell (p := ⟨b1, o1 + (k + 1) * 5, none⟩) hl1).trans e1
      have HBk := Lib.hid (HBAD.out k hlt)
      have HN : Hid (xs[k].by_ < xs[k + 1].by_ → ∀ j (h : j + 1 < xs.length), j < k + 1 → xs[j].by_ < xs[j + 1].by_) := Lib.hid (fun h0 j h hj => by rcases Nat.lt_succ_iff_lt_or_eq.1 hj with h1 | h1; exact HS.out j h h1; subst h1; exact h0)
      obtain ⟨p, hp⟩ : ∃ p, xs[k].by_ = p := ⟨_, rfl⟩
      obtain ⟨q, hq_⟩ : ∃ q, xs[k + 1].by_ = q := ⟨_, rfl⟩
      simp only [hp, hq_] at e0 e1 HBk HN
      have i1 : IntKind.i64.wrap (((k + 1 : Nat) : Int) - 1) = (k : Int) := by rw [IntWalk.i64_in _ (by omega)]; omega
      have i1b : IntKind.i64.wrap ((k : Int) + 1 - 1) = (k : Int) := by rw [IntWalk.i64_in _ (by omega)]; omega
      have i2 : (k : Int) < (xs.length : Int) := by omega
      have i3 : ((k + 1 : Nat) : Int) < (xs.length : Int) := by omega
      have i3b : (k : Int) + 1 < (xs.length : Int) := by omega
      have i4 : (0 : Int) ≤ (k : Int) := by omega
      have i5 : (0 : Int) ≤ (k : Int) + 1 := by omega
      have i6 : ((k : Int) + 1).toNat = k + 1 := by omega
      clear hp hq_ hb
      go_wp2_with (fail)
      have g0 := Grown.cell e0
      have g1 := Grown.cell e1
      have g2 := Grown.cell d6
      clear e0 e1
      by_cases hc : p < q
      · have HNx := Lib.hid (HN.out hc)
        have hq3 : decide (q ≤ p) = false := decide_eq_false (by omega)
        have hq4 : ¬ q ≤ p := by omega
        clear hc HBk HN
        refine wp_region_grown (by kernel_rfl) (by kernel_rfl) ?_
        repeat (go_big_quiet_step (fail))
        refine wpQuiet_nil ?_
        intro w5 hw5
        have hB5 := Lib.hid (grown_below hw5)
        clear hw5 i1 i1b i3 i5 i6 g0 g1 g2
        go_wp2
        go_roundw
        case rel => exact ⟨k + 1, by omega, by go_num, HNx, HBl.out.trans (hB5.out.mono HBl.out.size)⟩
        case measure => simp [intOf]; omega
      · have HE := Lib.hid (HBk.out (by omega))
        have hq3 : decide (q ≤ p) = true := decide_eq_true (by omega)
        have hq4 : q ≤ p := by omega
        clear hc HBk HN
        refine wp_region_grown (by kernel_rfl) (by kernel_rfl) ?_
        repeat (go_big_quiet_step (fail))
        refine wpQuiet_nil ?_
        intro w5 hw5
        have hB5 := Lib.hid (grown_below hw5)
        clear hw5 i1 i1b i3 i5 i6 g0 g1 g2
        go_wp2
        go_ret
        exact ⟨ret_bool (by rw [HFF.out, HE.out]), HBr.out.trans (hB5.out.mono HBr.out.size)⟩
    · have HE := Lib.hid (HGOOD.out (fun j hj => HS.out j hj (by omega)))
      have hnl : ¬ ((k + 1 : Nat) : Int) < (xs.length : Int) := by omega
      clear hb
      go_wp2
      go_ret
      exact ⟨ret_bool (by rw [HFF.out, HE.out]), HBr.out⟩
end Go.Proofs.YtgllafgpmenjjaaGreatDoor

set_option linter.unusedVariables false
set_option linter.unusedSimpArgs false
namespace Go.Proofs.YtgllafgpmenjjaaGreatDoor
open Go.RowKit Lay Mk
theorem emptyD_max (n : Int) (d : Nat) : (emptyD n d).size ≤ maxLen := ml (emptyD_le n d) (by omega)
theorem nodeD_max (n : Int) (d p : Nat) (l : List Leaf) : (nodeD n d p l).size ≤ maxLen := ml (node_le n d p l) (by omega)
end Go.Proofs.YtgllafgpmenjjaaGreatDoor
