/- The signed heads that a client has not seen: what is computed, and the walks. -/
import Derived.Test.YthgonaodmpegfaaGreatOw
import Derived.Test.YthgonaodmpegfaaGreatCy
import Derived.Test.YthgonaodmpegfaaGreatCb
set_option linter.unusedVariables false
set_option linter.unusedSimpArgs false
namespace Go.Proofs.YthgonaodmpegfaaGreat
open Go.RowKit Lay Mk
def linksOf (x : Wrld) (y : Client) (ep : Int) : List Seal := if inB y.house 0 ((x.houses.length : Int) - 1) = true then (match x.houses[y.house.toNat]? with
  | some h => if ep ≤ h.coord.seals.length then (h.coord.seals.take ep.toNat).drop y.seen.length else []
  | none => []) else []
theorem links_no {x : Wrld} {y : Client} {ep : Int} (h : inB y.house 0 ((x.houses.length : Int) - 1) = false) : linksOf x y ep = [] := by unfold linksOf; rw [h]; rfl
theorem links_at {x : Wrld} {y : Client} {ep : Int} (h : inB y.house 0 ((x.houses.length : Int) - 1) = true) {k : Nat} (hk : y.house = k) (hlt : k < x.houses.length) : linksOf x y ep = if ep ≤ (x.houses[k]).coord.seals.length then ((x.houses[k]).coord.seals.take ep.toNat).drop y.seen.length else [] := by
  unfold linksOf; rw [if_pos h, hk, Int.toNat_natCast, List.getElem?_eq_getElem hlt]
theorem in_idx {n : Int} {l : Nat} (h : inB n 0 ((l : Int) - 1) = true) : ∃ k : Nat, n = k ∧ k < l := by
  have h1 : 0 ≤ n ∧ n ≤ (l : Int) - 1 := by simpa [inB] using h
  exact ⟨n.toNat, by omega, by omega⟩
theorem house_seals {h : House} (hz : h.sz ≤ 1048576) : szL h.coord.seals ≤ 1048576 := by simp only [House.sz, Coord.sz] at hz; omega
theorem seal_len3 {s : Seal} (h : s.sz ≤ 1048576) : s.sig.open_.length ≤ 1048576 ∧ s.sig.shut.length ≤ 1048576 ∧ s.sig.sides.length ≤ 1048576 := by
  simp only [Seal.sz, Sig.sz] at h
  have := szT_le s.sig.open_ 0
  have := szT_le s.sig.shut 0
  have := szT_le s.sig.sides 0
  omega
theorem sz_get {α : Type} [Lay α] [Mk α] {xs : List α} {k : Nat} (hk : k < xs.length) {n : Nat} (hz : szL xs ≤ n) : sz xs[k] ≤ n := by have := sz_le_L xs k hk; omega
theorem take_snoc {α : Type} {l : List α} {k : Nat} (h : k < l.length) : l.take (k + 1) = l.take k ++ [l[k]] := by rw [List.take_succ_eq_append_getElem h]
theorem links_get {l : List Seal} {e n k : Nat} (h : n + k < e) (he : e ≤ l.length) : ∃ (h1 : k < ((l.take e).drop n).length), ((l.take e).drop n)[k] = l[n + k]'(by omega) := by
  refine ⟨by simp; omega, ?_⟩
  simp
theorem house_at {m : Bool} {w : World} {A : Option Addr} {cap : Nat} {xs : List House} {S : Blks} (h : Row m w A cap xs S) {i : Nat} (hi : i < xs.length) :
    ∃ b off A0 k0 S0, A = some ⟨b, off, none⟩ ∧ b < w.heap.size ∧ w.cell? ⟨b, off + i * 14 + 5, none⟩ = some (.slice A0 (xs[i]).coord.seals.length k0) ∧ (xs[i]).coord.seals.length ≤ k0 ∧ k0 ≤ maxLen ∧ Row m w A0 k0 (xs[i]).coord.seals S0 := by
  obtain ⟨b, off, cs, T, e, hb, ha, hr, _, _⟩ := Row.at_ h hi
  obtain ⟨_, _, _, _, _, _, A0, k0, S0, _, _, _, _, _, _, _, _, _, _, _, _, _, _, _, _, _, _, rfl, -, -, -, -, -, -, -, -, -, -, -, l0, m0, r0, -⟩ := House.open hr
  rw [show Lay.n House = 14 from rfl] at ha
  exact ⟨b, off, _, _, _, e, hb, ha 5 _ rfl, l0, m0, r0⟩
set_option maxRecDepth 20000 in set_option maxHeartbeats 8000000 in
theorem impl_LinksOf (w : World) (x : Wrld) (cs : List Value) (S : Blks) (hx : rd false w cs x S) (hz : x.sz ≤ 1048576) (y : Client) (ct : List Value) (T : Blks) (hy : rd false w ct y T) (hzy : y.sz ≤ 1048576) (ep : Int) (hep : I64 ep) : Calls Tryz.prog 17 #[.agg cs.toArray, .agg ct.toArray, .int .i64 ep] w fun e w' => ∃ A' cap', e = .returned (.slice A' (linksOf x y ep).length cap') ∧ (linksOf x y ep).length ≤ cap' ∧ cap' ≤ maxLen ∧ Row true w' A' cap' (linksOf x y ep) (rng w.heap.size w'.heap.size) ∧ Below w.heap.size w w' := by
  have hml : szL x.houses ≤ 1048576 := by simp only [Wrld.sz] at hz; omega
  have hms : szL y.seen ≤ 1048576 := by simp only [Client.sz] at hzy; omega
  have hl0 := szT_le x.houses 0
  have hl1 := szT_le y.seen 0
  unfold I64 at hep
  obtain ⟨A0, k0, S0, A1, k1, S1, A2, k2, S2, A3, k3, S3, A4, k4, S4, A5, k5, S5, rfl, -, -, r0, -⟩ := Wrld.open hx
  obtain ⟨AS, kS, SS, rfl, fh, -, -, -, -⟩ := Client.open hy
  have hsl : y.seen.length ≤ 1048576 := by omega
  clear hx hy hz hzy hms
  simp only [Wrld.cs, Client.cs]
  have hWd : ∀ W, W = (w.alloc (.cells #[.slice A0 x.houses.length k0, .slice A1 x.auditors.length k1, .slice A2 x.notes.length k2, .slice A3 x.given.length k3, .slice A4 x.evil.length k4, .slice A5 x.codes.length k5] 38)).alloc (.cells #[.int .i64 y.house, .slice AS y.seen.length kS] 53) → Below w.heap.size w W ∧ W.cell? ⟨w.heap.size, 0, none⟩ = some (.slice A0 x.houses.length k0) ∧ W.cell? ⟨w.heap.size + 1, 0, none⟩ = some (.int .i64 y.house) ∧ W.cell? ⟨w.heap.size + 1, 1, none⟩ = some (.slice AS y.seen.length kS) ∧ w.heap.size + 1 < W.heap.size := by
    rintro W rfl
    refine ⟨((Below.refl _ _).alloc (Nat.le_refl _) _).alloc (by simp) _, cell_alloc (box_cell _ _ _ _ _ rfl), ?_, ?_, by simp⟩
    all_goals (rw [show w.heap.size + 1 = (w.alloc (.cells #[.slice A0 x.houses.length k0, .slice A1 x.auditors.length k1, .slice A2 x.notes.length k2, .slice A3 x.given.length k3, .slice A4 x.evil.length k4, .slice A5 x.codes.length k5] 38)).heap.size from by simp]; exact box_cell _ _ _ _ _ rfl)
  have hw1 : IntKind.i64.wrap ((x.houses.length : Int) - 1) = (x.houses.length : Int) - 1 := IntWalk.i64_in _ (by omega)
  have HIN := Lib.hid (fun W => impl_in y.house 0 ((x.houses.length : Int) - 1) W)
  cases hin : inB y.house 0 ((x.houses.length : Int) - 1)
  · have HF := Lib.hid (links_no (ep := ep) hin)
    rw [hin] at HIN
    clear hin
    go_enter Tryz.func17, Tryz.ntmps17
    go_wp2_with (fail)
    obtain ⟨W, hW⟩ : ∃ W, (w.alloc (.cells #[.slice A0 x.houses.length k0, .slice A1 x.auditors.length k1, .slice A2 x.notes.length k2, .slice A3 x.given.length k3, .slice A4 x.evil.length k4, .slice A5 x.codes.length k5] 38)).alloc (.cells #[.int .i64 y.house, .slice AS y.seen.length kS] 53) = W := ⟨_, rfl⟩
    rw [hW]
    obtain ⟨hBW, c0, d0, d1, hsz⟩ := hWd W hW.symm
    have hW2 : W.heap.size = w.heap.size + 1 + 1 := by rw [← hW]; simp
    have C0 := Lib.hid c0; have D0 := Lib.hid d0; have D1 := Lib.hid d1
    clear hW
    have HBW := Lib.hid hBW
    have HO := Lib.hid (Own.start (α := Seal) (Below.refl W.heap.size W))
    refine (HIN.out _).mono ?_
    rintro e0 v0 ⟨rfl, rfl⟩
    go_wp2
    go_ret
    exact ⟨none, 0, by rw [HF.out]; rfl, by rw [HF.out]; simp, by decide, by rw [HF.out]; exact row_nil _ _, HBW.out⟩
  obtain ⟨k, hk, hlt⟩ := in_idx hin
  have HL := Lib.hid (links_at (ep := ep) hin hk hlt)
  rw [hin] at HIN
  clear hin
  obtain ⟨b1, o1, AQ, kQ, SQ, rfl, hl1, q5, hq1, -, rQ⟩ := house_at r0 hlt
  have hzs := house_seals (sz_get hlt hml)
  have hQl := szT_le (x.houses[k]).coord.seals 0
  obtain ⟨xs, hxs⟩ : ∃ xs, (x.houses[k]).coord.seals = xs := ⟨_, rfl⟩
  rw [hxs] at HL q5 hq1 rQ hzs hQl
  have hyk : y.house = (k : Int) := hk
  rw [hyk] at hWd HIN ⊢
  have hkl : (k : Int) < (x.houses.length : Int) := by omega
  clear hxs hyk hk fh r0
  by_cases hlen : (xs.length : Int) < ep
  · have HF : Hid (linksOf x y ep = []) := Lib.hid (by rw [HL.out, if_neg (by omega)])
    clear HL
    go_enter Tryz.func17, Tryz.ntmps17
    go_wp2_with (fail)
    obtain ⟨W, hW⟩ : ∃ W, (w.alloc (.cells #[.slice (some ⟨b1, o1, none⟩) x.houses.length k0, .slice A1 x.auditors.length k1, .slice A2 x.notes.length k2, .slice A3 x.given.length k3, .slice A4 x.evil.length k4, .slice A5 x.codes.length k5] 38)).alloc (.cells #[.int .i64 (k : Int), .slice AS y.seen.length kS] 53) = W := ⟨_, rfl⟩
    rw [hW]
    obtain ⟨hBW, c0, d0, d1, hsz⟩ := hWd W hW.symm
    have hW2 : W.heap.size = w.heap.size + 1 + 1 := by rw [← hW]; simp
    have C0 := Lib.hid c0; have D0 := Lib.hid d0; have D1 := Lib.hid d1
    clear hW
    have HBW := Lib.hid hBW
    have HO := Lib.hid (Own.start (α := Seal) (Below.refl W.heap.size W))
    have q5 := (HBW.out.cell (p := ⟨b1, o1 + k * 14 + 5, none⟩) hl1).trans q5
    have Q5 := Lib.hid q5
    refine (HIN.out _).mono ?_
    rintro e0 v0 ⟨rfl, rfl⟩
    go_wp2
    go_ret
    exact ⟨none, 0, by rw [HF.out]; rfl, by rw [HF.out]; simp, by decide, by rw [HF.out]; exact row_nil _ _, HBW.out⟩
  have HF : Hid (linksOf x y ep = (xs.take ep.toNat).drop y.seen.length) := Lib.hid (by rw [HL.out, if_pos (by omega)])
  clear HL
  go_enter Tryz.func17, Tryz.ntmps17
  go_wp2_with (fail)
  obtain ⟨W, hW⟩ : ∃ W, (w.alloc (.cells #[.slice (some ⟨b1, o1, none⟩) x.houses.length k0, .slice A1 x.auditors.length k1, .slice A2 x.notes.length k2, .slice A3 x.given.length k3, .slice A4 x.evil.length k4, .slice A5 x.codes.length k5] 38)).alloc (.cells #[.int .i64 (k : Int), .slice AS y.seen.length kS] 53) = W := ⟨_, rfl⟩
  rw [hW]
  obtain ⟨hBW, c0, d0, d1, hsz⟩ := hWd W hW.symm
  have hW2 : W.heap.size = w.heap.size + 1 + 1 := by rw [← hW]; simp
  have C0 := Lib.hid c0; have D0 := Lib.hid d0; have D1 := Lib.hid d1
  clear hW
  have HBW := Lib.hid hBW
  have HO := Lib.hid (Own.start (α := Seal) (Below.refl W.heap.size W))
  have q5 := (HBW.out.cell (p := ⟨b1, o1 + k * 14 + 5, none⟩) hl1).trans q5
  have Q5 := Lib.hid q5
  refine (HIN.out _).mono ?_
  rintro e0 v0 ⟨rfl, rfl⟩
  have hbW : b1 < W.heap.size := by have := HBW.out.size; omega
  have rQW := Lib.hid (Row.later rQ HBW.out)
  clear hWd hBW rQ
  go_wp2_with (fail)
  go_loopw [7, 8] (fun u i wr => ∃ (n : Nat) (L : List Seal) (A : Option Addr) (c : Nat), i = .int .i64 ((y.seen.length + n : Nat) : Int) ∧ u = .slice A L.length c ∧ Hid (L = ((xs.take ep.toNat).drop y.seen.length).take n) ∧ L.length ≤ n ∧ y.seen.length + n ≤ 3000000 ∧ Own W wr A c L ∧ Below W.heap.size W wr) (fun _ i _ => (ep - intOf i).toNat)
  case atStart => exact ⟨0, [], none, 0, by simp, by simp, Lib.hid (by simp), by simp, by omega, HO.out, HO.out.bl⟩
  case round =>
    clear HO c0 d0 d1 q5
    obtain ⟨n, L, A, c, rfl, rfl, HLn, hLl, hnl, hown, hb⟩ := hrel
    have HOW := Lib.hid hown
    by_cases hlt2 : ((y.seen.length + n : Nat) : Int) < ep
    · have c0 := (hb.cell (p := ⟨w.heap.size, 0, none⟩) (by show w.heap.size < W.heap.size; omega)).trans C0.out
      have d0 := (hb.cell (p := ⟨w.heap.size + 1, 0, none⟩) (by show w.heap.size + 1 < W.heap.size; omega)).trans D0.out
      have q5 := (hb.cell (p := ⟨b1, o1 + k * 14 + 5, none⟩) hbW).trans Q5.out
      have hidx : y.seen.length + n < xs.length := by omega
      obtain ⟨b2, o2, cc, T2, rfl, hl2, ha, hr, _, _⟩ := Row.at_ rQW.out hidx
      replace ha := ha.keep (hb.block b2 hl2)
      have hr2 := Lib.hid (Lay.later hr hb)
      have hbd := seal_len3 (sz_get hidx hzs)
      have HG := Lib.hid (links_get (l := xs) (e := ep.toNat) (n := y.seen.length) (k := n) (by omega) (by omega))
      obtain ⟨s, hs⟩ : ∃ s, xs[y.seen.length + n] = s := ⟨_, rfl⟩
      simp only [hs] at hr hr2 HG hbd
      have HN : Hid (((xs.take ep.toNat).drop y.seen.length).take (n + 1) = L ++ [s]) := Lib.hid (by obtain ⟨h1, h2⟩ := HG.out; rw [take_snoc h1, ← HLn.out, h2])
      clear hs HG
      obtain ⟨F0, n0, U0, F1, n1, U1, F2, n2, U2, rfl, -⟩ := Seal.open hr
      clear hr
      rw [show Lay.n Seal = 8 from rfl] at ha
      have e0 := ha 0 _ rfl
      have e1 := ha 1 _ rfl
      have e2 := ha 2 _ rfl
      have e3 := ha 3 _ rfl
      have e4 := ha 4 _ rfl
      have e5 := ha 5 _ rfl
      have e6 := ha 6 _ rfl
      have e7 := ha 7 _ rfl
      simp only [Nat.add_zero] at e0
      clear ha hown
      obtain ⟨ls0, ls1, ls2⟩ := hbd
      have hq2 : (y.seen.length + n : Nat) < (xs.length : Int) := by omega
      go_wp2_with (fail)
      refine (impl_copySeal _ s (Seal.cs s F0 n0 F1 n1 F2 n2) T2 hr2.out ls0 ls1 ls2).mono ?_
      rintro e9 w9 ⟨G0, g0, G1, g1, G2, g2, rfl, hq9, hb9⟩
      go_wp2_with (at_builtin; refine wpList_pushR (α := Seal) rfl _ _ rfl rfl rfl HOW.out hb9 hq9 (fun q hq => hq.1) rfl rfl (by omega) ?_; intro A5 c5 w5 o5 z5)
      go_roundw
      case rel => exact ⟨n + 1, L ++ [s], A5, c5, by go_num, by simp, Lib.hid HN.out.symm, by simp; omega, by omega, o5, o5.bl⟩
      case measure => simp [intOf]; omega
    · have HE : Hid ((xs.take ep.toNat).drop y.seen.length = L) := Lib.hid (HLn.out.trans (List.take_of_length_le (by simp; omega))).symm
      go_wp2
      go_ret
      exact ⟨A, c, by rw [HF.out, HE.out]; rfl, by rw [HF.out, HE.out]; exact HOW.out.le, HOW.out.cm, by rw [HF.out, HE.out]; exact (HOW.out.from HBW.out).rng, (HOW.out.from HBW.out).bl⟩
set_option maxRecDepth 20000 in set_option maxHeartbeats 8000000 in
theorem spec_LinksOf (w : World) (x : Wrld) (cs : List Value) (S : Blks) (hx : rd false w cs x S) (hz : x.sz ≤ 1048576) (y : Client) (ct : List Value) (T : Blks) (hy : rd false w ct y T) (hzy : y.sz ≤ 1048576) (ep : Int) (hep : I64 ep) : Calls Tryz.prog 15 #[.agg cs.toArray, .agg ct.toArray, .int .i64 ep] w fun e w' => ∃ A' cap', e = .returned (.slice A' (linksOf x y ep).length cap') ∧ (linksOf x y ep).length ≤ cap' ∧ cap' ≤ maxLen ∧ Row true w' A' cap' (linksOf x y ep) (rng w.heap.size w'.heap.size) ∧ Below w.heap.size w w' := by
  have hml : szL x.houses ≤ 1048576 := by simp only [Wrld.sz] at hz; omega
  have hms : szL y.seen ≤ 1048576 := by simp only [Client.sz] at hzy; omega
  have hl0 := szT_le x.houses 0
  have hl1 := szT_le y.seen 0
  unfold I64 at hep
  obtain ⟨A0, k0, S0, A1, k1, S1, A2, k2, S2, A3, k3, S3, A4, k4, S4, A5, k5, S5, rfl, -, -, r0, -⟩ := Wrld.open hx
  obtain ⟨AS, kS, SS, rfl, fh, -, -, -, -⟩ := Client.open hy
  have hsl : y.seen.length ≤ 1048576 := by omega
  clear hx hy hz hzy hms
  simp only [Wrld.cs, Client.cs]
  have hWd : ∀ W, W = (w.alloc (.cells #[.slice A0 x.houses.length k0, .slice A1 x.auditors.length k1, .slice A2 x.notes.length k2, .slice A3 x.given.length k3, .slice A4 x.evil.length k4, .slice A5 x.codes.length k5] 38)).alloc (.cells #[.int .i64 y.house, .slice AS y.seen.length kS] 53) → Below w.heap.size w W ∧ W.cell? ⟨w.heap.size, 0, none⟩ = some (.slice A0 x.houses.length k0) ∧ W.cell? ⟨w.heap.size + 1, 0, none⟩ = some (.int .i64 y.house) ∧ W.cell? ⟨w.heap.size + 1, 1, none⟩ = some (.slice AS y.seen.length kS) ∧ w.heap.size + 1 < W.heap.size := by
    rintro W rfl
    refine ⟨((Below.refl _ _).alloc (Nat.le_refl _) _).alloc (by simp) _, cell_alloc (box_cell _ _ _ _ _ rfl), ?_, ?_, by simp⟩
    all_goals (rw [show w.heap.size + 1 = (w.alloc (.cells #[.slice A0 x.houses.length k0, .slice A1 x.auditors.length k1, .slice A2 x.notes.length k2, .slice A3 x.given.length k3, .slice A4 x.evil.length k4, .slice A5 x.codes.length k5] 38)).heap.size from by simp]; exact box_cell _ _ _ _ _ rfl)
  have hw1 : IntKind.i64.wrap ((x.houses.length : Int) - 1) = (x.houses.length : Int) - 1 := IntWalk.i64_in _ (by omega)
  have HIN := Lib.hid (fun W => spec_in y.house 0 ((x.houses.length : Int) - 1) W)
  cases hin : inB y.house 0 ((x.houses.length : Int) - 1)
  · have HF := Lib.hid (links_no (ep := ep) hin)
    rw [hin] at HIN
    clear hin
    go_enter Tryz.func15, Tryz.ntmps15
    go_wp2_with (fail)
    obtain ⟨W, hW⟩ : ∃ W, (w.alloc (.cells #[.slice A0 x.houses.length k0, .slice A1 x.auditors.length k1, .slice A2 x.notes.length k2, .slice A3 x.given.length k3, .slice A4 x.evil.length k4, .slice A5 x.codes.length k5] 38)).alloc (.cells #[.int .i64 y.house, .slice AS y.seen.length kS] 53) = W := ⟨_, rfl⟩
    rw [hW]
    obtain ⟨hBW, c0, d0, d1, hsz⟩ := hWd W hW.symm
    have hW2 : W.heap.size = w.heap.size + 1 + 1 := by rw [← hW]; simp
    have C0 := Lib.hid c0; have D0 := Lib.hid d0; have D1 := Lib.hid d1
    clear hW
    have HBW := Lib.hid hBW
    have HO := Lib.hid (Own.litAt (α := Seal) (Below.refl W.heap.size W) 105 rfl (b := w.heap.size + 1 + 1) hW2.symm)
    have hB1 := (Below.refl W.heap.size W).alloc (Nat.le_refl _) (.cells #[] 105)
    obtain ⟨V, hV⟩ : ∃ V, W.alloc (.cells #[] 105) = V := ⟨_, rfl⟩
    rw [hV] at HO hB1
    simp only [hV]
    have hVs := hB1.size
    replace c0 := (hB1.cell (p := ⟨w.heap.size, 0, none⟩) (by show w.heap.size < W.heap.size; omega)).trans c0
    replace d0 := (hB1.cell (p := ⟨w.heap.size + 1, 0, none⟩) (by show w.heap.size + 1 < W.heap.size; omega)).trans d0
    replace d1 := (hB1.cell (p := ⟨w.heap.size + 1, 1, none⟩) (by show w.heap.size + 1 < W.heap.size; omega)).trans d1
    clear hV
    refine (HIN.out _).mono ?_
    rintro e0 v0 ⟨rfl, rfl⟩
    go_wp2
    go_ret
    exact ⟨_, _, by rw [HF.out]; rfl, by rw [HF.out]; simp, by decide, by rw [HF.out]; exact to_rng ((HO.out.from HBW.out).row), (HO.out.from HBW.out).bl⟩
  obtain ⟨k, hk, hlt⟩ := in_idx hin
  have HL := Lib.hid (links_at (ep := ep) hin hk hlt)
  rw [hin] at HIN
  clear hin
  obtain ⟨b1, o1, AQ, kQ, SQ, rfl, hl1, q5, hq1, -, rQ⟩ := house_at r0 hlt
  have hzs := house_seals (sz_get hlt hml)
  have hQl := szT_le (x.houses[k]).coord.seals 0
  obtain ⟨xs, hxs⟩ : ∃ xs, (x.houses[k]).coord.seals = xs := ⟨_, rfl⟩
  rw [hxs] at HL q5 hq1 rQ hzs hQl
  have hyk : y.house = (k : Int) := hk
  rw [hyk] at hWd HIN ⊢
  have hkl : (k : Int) < (x.houses.length : Int) := by omega
  clear hxs hyk hk fh r0
  by_cases hlen : (xs.length : Int) < ep
  · have HF : Hid (linksOf x y ep = []) := Lib.hid (by rw [HL.out, if_neg (by omega)])
    clear HL
    go_enter Tryz.func15, Tryz.ntmps15
    go_wp2_with (fail)
    obtain ⟨W, hW⟩ : ∃ W, (w.alloc (.cells #[.slice (some ⟨b1, o1, none⟩) x.houses.length k0, .slice A1 x.auditors.length k1, .slice A2 x.notes.length k2, .slice A3 x.given.length k3, .slice A4 x.evil.length k4, .slice A5 x.codes.length k5] 38)).alloc (.cells #[.int .i64 (k : Int), .slice AS y.seen.length kS] 53) = W := ⟨_, rfl⟩
    rw [hW]
    obtain ⟨hBW, c0, d0, d1, hsz⟩ := hWd W hW.symm
    have hW2 : W.heap.size = w.heap.size + 1 + 1 := by rw [← hW]; simp
    have C0 := Lib.hid c0; have D0 := Lib.hid d0; have D1 := Lib.hid d1
    clear hW
    have HBW := Lib.hid hBW
    have HO := Lib.hid (Own.litAt (α := Seal) (Below.refl W.heap.size W) 105 rfl (b := w.heap.size + 1 + 1) hW2.symm)
    have hB1 := (Below.refl W.heap.size W).alloc (Nat.le_refl _) (.cells #[] 105)
    obtain ⟨V, hV⟩ : ∃ V, W.alloc (.cells #[] 105) = V := ⟨_, rfl⟩
    rw [hV] at HO hB1
    simp only [hV]
    have hVs := hB1.size
    replace c0 := (hB1.cell (p := ⟨w.heap.size, 0, none⟩) (by show w.heap.size < W.heap.size; omega)).trans c0
    replace d0 := (hB1.cell (p := ⟨w.heap.size + 1, 0, none⟩) (by show w.heap.size + 1 < W.heap.size; omega)).trans d0
    replace d1 := (hB1.cell (p := ⟨w.heap.size + 1, 1, none⟩) (by show w.heap.size + 1 < W.heap.size; omega)).trans d1
    clear hV
    have q5 := (HBW.out.cell (p := ⟨b1, o1 + k * 14 + 5, none⟩) hl1).trans q5
    have Q5 := Lib.hid q5
    replace q5 := (hB1.cell (p := ⟨b1, o1 + k * 14 + 5, none⟩) (by have := HBW.out.size; show b1 < W.heap.size; omega)).trans q5
    refine (HIN.out _).mono ?_
    rintro e0 v0 ⟨rfl, rfl⟩
    go_wp2
    go_ret
    exact ⟨_, _, by rw [HF.out]; rfl, by rw [HF.out]; simp, by decide, by rw [HF.out]; exact to_rng ((HO.out.from HBW.out).row), (HO.out.from HBW.out).bl⟩
  have HF : Hid (linksOf x y ep = (xs.take ep.toNat).drop y.seen.length) := Lib.hid (by rw [HL.out, if_pos (by omega)])
  clear HL
  go_enter Tryz.func15, Tryz.ntmps15
  go_wp2_with (fail)
  obtain ⟨W, hW⟩ : ∃ W, (w.alloc (.cells #[.slice (some ⟨b1, o1, none⟩) x.houses.length k0, .slice A1 x.auditors.length k1, .slice A2 x.notes.length k2, .slice A3 x.given.length k3, .slice A4 x.evil.length k4, .slice A5 x.codes.length k5] 38)).alloc (.cells #[.int .i64 (k : Int), .slice AS y.seen.length kS] 53) = W := ⟨_, rfl⟩
  rw [hW]
  obtain ⟨hBW, c0, d0, d1, hsz⟩ := hWd W hW.symm
  have hW2 : W.heap.size = w.heap.size + 1 + 1 := by rw [← hW]; simp
  have C0 := Lib.hid c0; have D0 := Lib.hid d0; have D1 := Lib.hid d1
  clear hW
  have HBW := Lib.hid hBW
  have HO := Lib.hid (Own.litAt (α := Seal) (Below.refl W.heap.size W) 105 rfl (b := w.heap.size + 1 + 1) hW2.symm)
  have hB1 := (Below.refl W.heap.size W).alloc (Nat.le_refl _) (.cells #[] 105)
  obtain ⟨V, hV⟩ : ∃ V, W.alloc (.cells #[] 105) = V := ⟨_, rfl⟩
  rw [hV] at HO hB1
  simp only [hV]
  have hVs := hB1.size
  replace c0 := (hB1.cell (p := ⟨w.heap.size, 0, none⟩) (by show w.heap.size < W.heap.size; omega)).trans c0
  replace d0 := (hB1.cell (p := ⟨w.heap.size + 1, 0, none⟩) (by show w.heap.size + 1 < W.heap.size; omega)).trans d0
  replace d1 := (hB1.cell (p := ⟨w.heap.size + 1, 1, none⟩) (by show w.heap.size + 1 < W.heap.size; omega)).trans d1
  clear hV
  have q5 := (HBW.out.cell (p := ⟨b1, o1 + k * 14 + 5, none⟩) hl1).trans q5
  have Q5 := Lib.hid q5
  replace q5 := (hB1.cell (p := ⟨b1, o1 + k * 14 + 5, none⟩) (by have := HBW.out.size; show b1 < W.heap.size; omega)).trans q5
  refine (HIN.out _).mono ?_
  rintro e0 v0 ⟨rfl, rfl⟩
  have hbW : b1 < W.heap.size := by have := HBW.out.size; omega
  have rQW := Lib.hid (Row.later rQ HBW.out)
  clear hWd hBW rQ
  go_wp2_with (fail)
  go_loopw [7, 9] (fun u i wr => ∃ (n : Nat) (L : List Seal) (A : Option Addr) (c : Nat), i = .int .i64 ((y.seen.length + n : Nat) : Int) ∧ u = .slice A L.length c ∧ Hid (L = ((xs.take ep.toNat).drop y.seen.length).take n) ∧ L.length ≤ n ∧ y.seen.length + n ≤ 3000000 ∧ Own W wr A c L ∧ Below W.heap.size W wr) (fun _ i _ => (ep - intOf i).toNat)
  case atStart => exact ⟨0, [], some ⟨w.heap.size + 1 + 1, 0, none⟩, 0, by simp, by simp, Lib.hid (by simp), by simp, by omega, HO.out, HO.out.bl⟩
  case round =>
    clear HO c0 d0 d1 q5
    obtain ⟨n, L, A, c, rfl, rfl, HLn, hLl, hnl, hown, hb⟩ := hrel
    have HOW := Lib.hid hown
    by_cases hlt2 : ((y.seen.length + n : Nat) : Int) < ep
    · have c0 := (hb.cell (p := ⟨w.heap.size, 0, none⟩) (by show w.heap.size < W.heap.size; omega)).trans C0.out
      have d0 := (hb.cell (p := ⟨w.heap.size + 1, 0, none⟩) (by show w.heap.size + 1 < W.heap.size; omega)).trans D0.out
      have q5 := (hb.cell (p := ⟨b1, o1 + k * 14 + 5, none⟩) hbW).trans Q5.out
      have hidx : y.seen.length + n < xs.length := by omega
      obtain ⟨b2, o2, cc, T2, rfl, hl2, ha, hr, _, _⟩ := Row.at_ rQW.out hidx
      replace ha := ha.keep (hb.block b2 hl2)
      have hr2 := Lib.hid (Lay.later hr hb)
      have hbd := seal_len3 (sz_get hidx hzs)
      have HG := Lib.hid (links_get (l := xs) (e := ep.toNat) (n := y.seen.length) (k := n) (by omega) (by omega))
      obtain ⟨s, hs⟩ : ∃ s, xs[y.seen.length + n] = s := ⟨_, rfl⟩
      simp only [hs] at hr hr2 HG hbd
      have HN : Hid (((xs.take ep.toNat).drop y.seen.length).take (n + 1) = L ++ [s]) := Lib.hid (by obtain ⟨h1, h2⟩ := HG.out; rw [take_snoc h1, ← HLn.out, h2])
      clear hs HG
      obtain ⟨F0, n0, U0, F1, n1, U1, F2, n2, U2, rfl, -⟩ := Seal.open hr
      clear hr
      rw [show Lay.n Seal = 8 from rfl] at ha
      have e0 := ha 0 _ rfl
      have e1 := ha 1 _ rfl
      have e2 := ha 2 _ rfl
      have e3 := ha 3 _ rfl
      have e4 := ha 4 _ rfl
      have e5 := ha 5 _ rfl
      have e6 := ha 6 _ rfl
      have e7 := ha 7 _ rfl
      simp only [Nat.add_zero] at e0
      clear ha hown
      obtain ⟨ls0, ls1, ls2⟩ := hbd
      have hq2 : (y.seen.length + n : Nat) < (xs.length : Int) := by omega
      go_wp2_with (fail)
      refine (spec_l14Copy _ s (Seal.cs s F0 n0 F1 n1 F2 n2) T2 hr2.out ls0 ls1 ls2).mono ?_
      rintro e9 w9 ⟨G0, g0, G1, g1, G2, g2, rfl, hq9, hb9⟩
      go_wp2_with (at_builtin; refine wpList_pushR (α := Seal) rfl _ _ rfl rfl rfl HOW.out hb9 hq9 (fun q hq => hq.1) rfl rfl (by omega) ?_; intro A5 c5 w5 o5 z5)
      go_roundw
      case rel => exact ⟨n + 1, L ++ [s], A5, c5, by go_num, by simp, Lib.hid HN.out.symm, by simp; omega, by omega, o5, o5.bl⟩
      case measure => simp [intOf]; omega
    · have HE : Hid ((xs.take ep.toNat).drop y.seen.length = L) := Lib.hid (HLn.out.trans (List.take_of_length_le (by simp; omega))).symm
      go_wp2
      go_ret
      exact ⟨A, c, by rw [HF.out, HE.out]; rfl, by rw [HF.out, HE.out]; exact HOW.out.le, HOW.out.cm, by rw [HF.out, HE.out]; exact (HOW.out.from HBW.out).rng, (HOW.out.from HBW.out).bl⟩
theorem cnL_appd {α : Type} [Lay α] [Mk α] (a b : List α) : cnL (a ++ b) = cnL a + cnL b := by simp [cnL]
theorem cnL_part {α : Type} [Lay α] [Mk α] (l : List α) (e n : Nat) : cnL ((l.take e).drop n) ≤ cnL l := by
  have h1 := cnL_appd (l.take e) (l.drop e)
  have h2 := cnL_appd ((l.take e).take n) ((l.take e).drop n)
  rw [List.take_append_drop] at h1 h2
  omega
theorem cnb_linksOf (x : Wrld) (y : Client) (ep : Int) (hx : x.sz ≤ 1048576) (_hy : y.sz ≤ 1048576) : cnL (linksOf x y ep) ≤ 1000000000000 := by
  cases hin : inB y.house 0 ((x.houses.length : Int) - 1)
  · rw [links_no hin]; simp [cnL]
  · obtain ⟨k, hk, hlt⟩ := in_idx hin
    rw [links_at hin hk hlt]
    split
    · have h1 := cnL_part (x.houses[k]).coord.seals ep.toNat y.seen.length
      have h2 := cnb_SealS (x.houses[k]).coord.seals
      have hml : szL x.houses ≤ 1048576 := by simp only [Wrld.sz] at hx; omega
      have h3 := house_seals (sz_get hlt hml)
      omega
    · simp [cnL]
end Go.Proofs.YthgonaodmpegfaaGreat
