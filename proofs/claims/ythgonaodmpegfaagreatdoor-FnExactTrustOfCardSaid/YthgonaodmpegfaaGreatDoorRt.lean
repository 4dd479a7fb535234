/- The roots of all providers: what is computed, and the walks. -/
import Derived.Test.YthgonaodmpegfaaGreatDoorPr
import Derived.Test.YthgonaodmpegfaaGreatDoorCb
set_option linter.unusedVariables false
set_option linter.unusedSimpArgs false
namespace Go.Proofs.YthgonaodmpegfaaGreatDoor
open Go.RowKit Lay Mk
def rootsOf (x : Wrld) : List ByteArray := x.houses.map (fun h => poolRoot h.coord.pool)
theorem map_take_snoc {α β : Type} (g : α → β) {l : List α} {k : Nat} (h : k < l.length) : (l.take (k + 1)).map g = (l.take k).map g ++ [g l[k]] := by
  rw [List.take_succ_eq_append_getElem h, List.map_append]; rfl
theorem house_pool {h : House} (hz : h.sz ≤ 1048576) : h.coord.pool.length ≤ 1048576 := by
  simp only [House.sz, Coord.sz] at hz
  have := szT_le h.coord.pool 0
  omega
theorem sz_gets {α : Type} [Lay α] [Mk α] {xs : List α} {k : Nat} (hk : k < xs.length) {n : Nat} (hz : szL xs ≤ n) : sz xs[k] ≤ n := by have := sz_le_L xs k hk; omega
theorem cnL_str (xs : List ByteArray) : cnL xs = xs.length := by
  induction xs with
  | nil => rfl
  | cons x r ih => simp only [cnL, List.map_cons, List.sum_cons, List.length_cons] at *; rw [ih]; have : cn x = 1 := rfl; omega
theorem cnb_rootsOf (x : Wrld) (hx : x.sz ≤ 1048576) : cnL (rootsOf x) ≤ 1000000000000 := by
  rw [cnL_str]; unfold rootsOf; rw [List.length_map]
  simp only [Wrld.sz] at hx
  have := szT_le x.houses 0
  omega
theorem topOf_le (n : Int) : ∀ d (l : List ByteArray), (∀ s ∈ l, s.size ≤ maxLen) → (topOf n d l).size ≤ maxLen
  | 0, l, h => by
    unfold topOf; rw [List.getD_eq_getElem?_getD]
    cases hg : l[0]? with
    | none => exact Nat.zero_le _
    | some s => exact h s (List.mem_of_getElem? hg)
  | d + 1, l, h => by
    unfold topOf
    refine topOf_le n d _ (fun s hs => ?_)
    unfold aboveL at hs
    generalize l.length / 2 = k at hs
    induction k with
    | zero => cases hs
    | succ k ih =>
      unfold aboveT at hs
      rcases List.mem_append.1 hs with h1 | h1
      · exact ih h1
      · simp at h1; subst h1; exact hash_max _ _ _
theorem poolRoot_le (l : List ByteArray) (h : ∀ s ∈ l, s.size ≤ maxLen) : (poolRoot l).size ≤ maxLen := by
  unfold poolRoot; split
  · exact topOf_le _ _ _ h
  · show 0 ≤ maxLen; exact Nat.zero_le _
theorem row_strs {m : Bool} {w : World} {A : Option Addr} {cap : Nat} {xs : List ByteArray} {S : Blks} (h : Row m w A cap xs S) : ∀ s ∈ xs, s.size ≤ maxLen := by
  intro s hs
  obtain ⟨i, hi, rfl⟩ := List.getElem_of_mem hs
  obtain ⟨_, _, _, _, _, h2⟩ := Row.str h hi
  exact h2
theorem house_pool_at {m : Bool} {w : World} {A : Option Addr} {cap : Nat} {xs : List House} {S : Blks} (h : Row m w A cap xs S) {i : Nat} (hi : i < xs.length) :
    ∃ b off A0 k0 S0, A = some ⟨b, off, none⟩ ∧ b < w.heap.size ∧ w.cell? ⟨b, off + i * 14 + 4, none⟩ = some (.slice A0 (xs[i]).coord.pool.length k0) ∧ (xs[i]).coord.pool.length ≤ k0 ∧ k0 ≤ maxLen ∧ Row m w A0 k0 (xs[i]).coord.pool S0 := by
  obtain ⟨b, off, cs, T, e, hb, ha, hr, _, _⟩ := Row.at_ h hi
  obtain ⟨_, _, _, A0, k0, S0, _, _, _, _, _, _, _, _, _, _, _, _, _, _, _, _, _, _, _, _, _, rfl, -, -, -, -, -, -, -, l0, m0, r0, -⟩ := House.open hr
  rw [show Lay.n House = 14 from rfl] at ha
  exact ⟨b, off, _, _, _, e, hb, ha 4 _ rfl, l0, m0, r0⟩
set_option maxRecDepth 20000 in set_option maxHeartbeats 8000000 in
theorem impl_RootsOf (w : World) (x : Wrld) (cs : List Value) (S : Blks) (hx : rd false w cs x S) (hz : x.sz ≤ 1048576) (hT : Tabs w) : Calls Tryz.prog 33 #[.agg cs.toArray] w fun e w' => ∃ A' cap', e = .returned (.slice A' (rootsOf x).length cap') ∧ (rootsOf x).length ≤ cap' ∧ cap' ≤ maxLen ∧ Row true w' A' cap' (rootsOf x) (rng w.heap.size w'.heap.size) ∧ Below w.heap.size w w' := by
  have HT := Lib.hid hT
  clear hT
  have hml : szL x.houses ≤ 1048576 := by simp only [Wrld.sz] at hz; omega
  have hl0 := szT_le x.houses 0
  have hgl : x.houses.length ≤ 1048576 := by omega
  obtain ⟨A0, k0, S0, A1, k1, S1, A2, k2, S2, A3, k3, S3, A4, k4, S4, A5, k5, S5, rfl, -, -, r0, -⟩ := Wrld.open hx
  clear hx hz hl0
  have HF : Hid (rootsOf x = x.houses.map (fun h => poolRoot h.coord.pool)) := Lib.hid rfl
  obtain ⟨R, hR⟩ : ∃ R, rootsOf x = R := ⟨_, rfl⟩
  rw [hR] at HF ⊢
  clear hR
  simp only [Wrld.cs]
  have hWd : ∀ W, W = w.alloc (.cells #[.slice A0 x.houses.length k0, .slice A1 x.auditors.length k1, .slice A2 x.notes.length k2, .slice A3 x.given.length k3, .slice A4 x.evil.length k4, .slice A5 x.codes.length k5] 83) → Below w.heap.size w W ∧ W.cell? ⟨w.heap.size, 0, none⟩ = some (.slice A0 x.houses.length k0) ∧ W.heap.size = w.heap.size + 1 := by
    rintro W rfl
    exact ⟨(Below.refl _ _).alloc (Nat.le_refl _) _, box_cell _ _ _ _ _ rfl, by simp⟩
  obtain ⟨hs, hhs⟩ : ∃ hs, x.houses = hs := ⟨_, rfl⟩
  simp only [hhs] at *
  clear hhs
  go_enter Tryz.func33, Tryz.ntmps33
  go_wp2_with (fail)
  obtain ⟨W, hW⟩ : ∃ W, w.alloc (.cells #[.slice A0 hs.length k0, .slice A1 x.auditors.length k1, .slice A2 x.notes.length k2, .slice A3 x.given.length k3, .slice A4 x.evil.length k4, .slice A5 x.codes.length k5] 83) = W := ⟨_, rfl⟩
  rw [hW]
  obtain ⟨hBW, c0, hsz⟩ := hWd W hW.symm
  have HO := Lib.hid (Own.start (α := ByteArray) (Below.refl W.heap.size W))
  clear hW hWd
  have HBW := Lib.hid hBW
  have C0 := Lib.hid c0
  have hlW : w.heap.size < W.heap.size := by omega
  have rW := Lib.hid (Row.later r0 hBW)
  clear hBW r0
  go_wp2_with (fail)
  go_loopw [3, 9] (fun u i wr => ∃ (k : Nat) (L : List ByteArray) (A : Option Addr) (c : Nat), k ≤ hs.length ∧ i = .int .i64 k ∧ u = .slice A L.length c ∧ Hid (L = (hs.take k).map (fun h => poolRoot h.coord.pool)) ∧ L.length ≤ k ∧ Own W wr A c L) (fun _ i _ => hs.length - (intOf i).toNat)
  case atStart => exact ⟨0, [], none, 0, by omega, rfl, rfl, Lib.hid rfl, by simp, HO.out⟩
  case round =>
    clear HO c0
    obtain ⟨k, L, A, c, hk, rfl, rfl, HL, hLk, hown⟩ := hrel
    have hb := hown.bl
    have HOW := Lib.hid hown
    have c0 := (hb.cell (p := ⟨w.heap.size, 0, none⟩) hlW).trans C0.out
    by_cases hlt : k < hs.length
    · have HN : Hid ((hs.take (k + 1)).map (fun h => poolRoot h.coord.pool) = L ++ [poolRoot (hs[k]).coord.pool]) := Lib.hid (by rw [map_take_snoc _ hlt, HL.out])
      have hbd := house_pool (sz_gets hlt hml)
      obtain ⟨b1, o1, cc, T, rfl, hl1, ha, hr, _, _⟩ := Row.at_ rW.out hlt
      replace ha := ha.keep (hb.block b1 hl1)
      replace hr := Lay.later hr hb
      obtain ⟨h, hh⟩ : ∃ h, hs[k] = h := ⟨_, rfl⟩
      rw [hh] at hr HN
      simp only [hh] at hbd
      clear hh
      obtain ⟨H0, g0, T0, H1, g1, T1, H2, g2, T2, H3, g3, T3, H4, g4, T4, H5, g5, T5, H6, g6, T6, H7, g7, T7, H8, g8, T8, rfl, -, -, -, -, -, -, -, -, -, r1, -⟩ := House.open hr
      clear hr
      rw [show Lay.n House = 14 from rfl] at ha
      have e0 := ha 0 _ rfl
      have e1 := ha 1 _ rfl
      have e2 := ha 2 _ rfl
      have e3 := ha 3 _ rfl
      have e4 := ha 4 _ rfl
      have e5 := ha 5 _ rfl
      have e6 := ha 6 _ rfl
      have e7 := ha 7 _ rfl
      have e8 := ha 8 _ rfl
      have e9 := ha 9 _ rfl
      have e10 := ha 10 _ rfl
      have e11 := ha 11 _ rfl
      have e12 := ha 12 _ rfl
      have e13 := ha 13 _ rfl
      simp only [Nat.add_zero] at e0
      clear ha
      have hmx := poolRoot_le _ (row_strs r1)
      obtain ⟨p, hp⟩ : ∃ p, poolRoot h.coord.pool = p := ⟨_, rfl⟩
      rw [hp] at HN hmx
      have HP := Lib.hid (fun W' (h' : Below wr.heap.size wr W') => impl_PoolRoot W' h.coord.pool H1 g1 _ (Row.later r1 h') hbd (HT.out.later ((HBW.out.trans (hb.mono HBW.out.size)).trans (h'.mono (Nat.le_trans HBW.out.size hb.size)))))
      rw [hp] at HP
      have HBl := Lib.hid hb
      have hlr : w.heap.size < wr.heap.size := Nat.lt_of_lt_of_le hlW hb.size
      have hl3 : b1 < wr.heap.size := Nat.lt_of_lt_of_le hl1 hb.size
      clear hp hown hb r1
      go_wp2_with (fail)
      refine (HP.out _ ((Below.refl _ _).alloc (Nat.le_refl _) _)).mono ?_
      rintro e9 w9 ⟨rfl, hb9⟩
      go_wp2_with (at_builtin; refine wpList_push (α := ByteArray) rfl _ _ rfl rfl rfl (((HOW.out.alloc _).later hb9).alloc _) rfl rfl (src1 hmx rfl rfl) (by omega) ?_; intro A6 c6 w6 o6 z6)
      go_roundw
      case rel => exact ⟨k + 1, L ++ [p], A6, c6, hlt, by go_num, by simp, Lib.hid HN.out.symm, by simp; omega, o6⟩
      case measure => simp [intOf]; omega
    · have HE : Hid (R = L) := Lib.hid (by rw [HF.out, HL.out, List.take_of_length_le (by omega)])
      have HOF := Lib.hid (HOW.out.from HBW.out)
      clear hown hb
      go_wp2
      go_ret
      exact ⟨A, c, by rw [HE.out]; rfl, by rw [HE.out]; exact HOF.out.le, HOF.out.cm, by rw [HE.out]; exact HOF.out.rng, HOF.out.bl⟩
set_option maxRecDepth 20000 in set_option maxHeartbeats 8000000 in
theorem spec_RootsOf (w : World) (x : Wrld) (cs : List Value) (S : Blks) (hx : rd false w cs x S) (hz : x.sz ≤ 1048576) : Calls Tryz.prog 32 #[.agg cs.toArray] w fun e w' => ∃ A' cap', e = .returned (.slice A' (rootsOf x).length cap') ∧ (rootsOf x).length ≤ cap' ∧ cap' ≤ maxLen ∧ Row true w' A' cap' (rootsOf x) (rng w.heap.size w'.heap.size) ∧ Below w.heap.size w w' := by
  have hml : szL x.houses ≤ 1048576 := by simp only [Wrld.sz] at hz; omega
  have hl0 := szT_le x.houses 0
  have hgl : x.houses.length ≤ 1048576 := by omega
  obtain ⟨A0, k0, S0, A1, k1, S1, A2, k2, S2, A3, k3, S3, A4, k4, S4, A5, k5, S5, rfl, -, -, r0, -⟩ := Wrld.open hx
  clear hx hz hl0
  have HF : Hid (rootsOf x = x.houses.map (fun h => poolRoot h.coord.pool)) := Lib.hid rfl
  obtain ⟨R, hR⟩ : ∃ R, rootsOf x = R := ⟨_, rfl⟩
  rw [hR] at HF ⊢
  clear hR
  simp only [Wrld.cs]
  have hWd : ∀ W, W = w.alloc (.cells #[.slice A0 x.houses.length k0, .slice A1 x.auditors.length k1, .slice A2 x.notes.length k2, .slice A3 x.given.length k3, .slice A4 x.evil.length k4, .slice A5 x.codes.length k5] 83) → Below w.heap.size w W ∧ W.cell? ⟨w.heap.size, 0, none⟩ = some (.slice A0 x.houses.length k0) ∧ W.heap.size = w.heap.size + 1 := by
    rintro W rfl
    exact ⟨(Below.refl _ _).alloc (Nat.le_refl _) _, box_cell _ _ _ _ _ rfl, by simp⟩
  obtain ⟨hs, hhs⟩ : ∃ hs, x.houses = hs := ⟨_, rfl⟩
  simp only [hhs] at *
  clear hhs
  go_enter Tryz.func32, Tryz.ntmps32
  go_wp2
  obtain ⟨W, hW⟩ : ∃ W, w.alloc (.cells #[.slice A0 hs.length k0, .slice A1 x.auditors.length k1, .slice A2 x.notes.length k2, .slice A3 x.given.length k3, .slice A4 x.evil.length k4, .slice A5 x.codes.length k5] 83) = W := ⟨_, rfl⟩
  rw [hW]
  obtain ⟨hBW, c0, hsz⟩ := hWd W hW.symm
  have HO := Lib.hid (Own.litAt (α := ByteArray) (Below.refl W.heap.size W) 9 rfl (b := w.heap.size + 1) hsz.symm)
  clear hW hWd
  have HBW := Lib.hid hBW
  have C0 := Lib.hid c0
  have hlW : w.heap.size < W.heap.size := by omega
  have rW := Lib.hid (Row.later r0 hBW)
  clear hBW r0
  go_loopw [3, 4] (fun u i wr => ∃ (k : Nat) (L : List ByteArray) (A : Option Addr) (c : Nat), k ≤ hs.length ∧ i = .int .i64 k ∧ u = .slice A L.length c ∧ Hid (L = (hs.take k).map (fun h => poolRoot h.coord.pool)) ∧ L.length ≤ k ∧ Own W wr A c L) (fun _ i _ => hs.length - (intOf i).toNat)
  case atStart => exact ⟨0, [], some ⟨w.heap.size + 1, 0, none⟩, 0, by omega, rfl, rfl, Lib.hid rfl, by simp, HO.out⟩
  case round =>
    clear HO c0
    obtain ⟨k, L, A, c, hk, rfl, rfl, HL, hLk, hown⟩ := hrel
    have hb := hown.bl
    have HOW := Lib.hid hown
    have c0 := (hb.cell (p := ⟨w.heap.size, 0, none⟩) hlW).trans C0.out
    by_cases hlt : k < hs.length
    · have HN : Hid ((hs.take (k + 1)).map (fun h => poolRoot h.coord.pool) = L ++ [poolRoot (hs[k]).coord.pool]) := Lib.hid (by rw [map_take_snoc _ hlt, HL.out])
      have hbd := house_pool (sz_gets hlt hml)
      obtain ⟨b1, o1, H1, g1, T1, rfl, hl1, q4, -, -, r1⟩ := house_pool_at rW.out hlt
      replace q4 := (hb.cell (p := ⟨b1, o1 + k * 14 + 4, none⟩) hl1).trans q4
      replace r1 := Row.later r1 hb
      obtain ⟨h, hh⟩ : ∃ h, hs[k] = h := ⟨_, rfl⟩
      simp only [hh] at hbd HN q4 r1
      clear hh
      have hmx := poolRoot_le _ (row_strs r1)
      obtain ⟨p, hp⟩ : ∃ p, poolRoot h.coord.pool = p := ⟨_, rfl⟩
      rw [hp] at HN hmx
      have HP := Lib.hid (spec_PoolRoot wr h.coord.pool H1 g1 _ r1 hbd)
      rw [hp] at HP
      have hlr : w.heap.size < wr.heap.size := Nat.lt_of_lt_of_le hlW hb.size
      have hl3 : b1 < wr.heap.size := Nat.lt_of_lt_of_le hl1 hb.size
      clear hp hown hb r1
      go_wp2_with (fail)
      refine HP.out.mono ?_
      rintro e9 w9 ⟨rfl, hb9⟩
      go_wp2_with (at_builtin; refine wpList_push (α := ByteArray) rfl _ _ rfl rfl rfl ((HOW.out.later hb9).alloc _) rfl rfl (src1 hmx rfl rfl) (by omega) ?_; intro A6 c6 w6 o6 z6)
      go_roundw
      case rel => exact ⟨k + 1, L ++ [p], A6, c6, hlt, by go_num, by simp, Lib.hid HN.out.symm, by simp; omega, o6⟩
      case measure => simp [intOf]; omega
    · have HE : Hid (R = L) := Lib.hid (by rw [HF.out, HL.out, List.take_of_length_le (by omega)])
      have HOF := Lib.hid (HOW.out.from HBW.out)
      clear hown hb
      go_wp2
      go_ret
      exact ⟨A, c, by rw [HE.out]; rfl, by rw [HE.out]; exact HOF.out.le, HOF.out.cm, by rw [HE.out]; exact HOF.out.rng, HOF.out.bl⟩
end Go.Proofs.YthgonaodmpegfaaGreatDoor
