/- A part of the proof: what the laws need of it. -/
import Derived.Test.YtojbehmbeoemgaaDoorHMoNd
import Derived.Test.YtojbehmbeoemgaaDoorHMoL20xBk
import Derived.Test.YtojbehmbeoemgaaDoorHMoL17xTg
import Derived.Test.YtojbehmbeoemgaaDoorHMoL7xLw
import Derived.Deep.RegionHeld3
set_option linter.unusedVariables false
set_option linter.unusedSimpArgs false
set_option linter.unusedVariables false
set_option linter.unusedSimpArgs false
namespace Go.Proofs.YtojbehmbeoemgaaDoor
open Go.RowKit Lay Mk
def sideAt (n : Int) (ix : Nat) (l : List Leaf) (j : Nat) : ByteArray := nodeD n j ((ix / 2 ^ j) ^^^ 1) l
def sidesD (n : Int) (ix : Nat) (l : List Leaf) : Nat → List ByteArray
  | 0 => []
  | j + 1 => sidesD n ix l j ++ [sideAt n ix l j]
theorem sidesD_len (n : Int) (ix : Nat) (l : List Leaf) : ∀ j, (sidesD n ix l j).length = j
  | 0 => rfl
  | j + 1 => by unfold sidesD; rw [List.length_append, sidesD_len n ix l j]; rfl
def proveLeaf (xs : List Leaf) (name : ByteArray) (lv n : Int) : Proof × Bool := if (leavesOk xs && (nameOk name && (inB lv 0 8 && inB n 1 32))) = true then (⟨bucketOf xs (indexOf name), sidesD n (indexOf name) xs (8 - lv.toNat)⟩, true) else (⟨[], []⟩, false)
end Go.Proofs.YtojbehmbeoemgaaDoor

set_option linter.unusedVariables false
set_option linter.unusedSimpArgs false
namespace Go.Proofs.YtojbehmbeoemgaaDoor
open Go.RowKit Lay Mk
theorem emptyD_max (n : Int) (d : Nat) : (emptyD n d).size ≤ maxLen := ml (emptyD_le n d) (by omega)
theorem nodeD_max (n : Int) (d p : Nat) (l : List Leaf) : (nodeD n d p l).size ≤ maxLen := ml (node_le n d p l) (by omega)
set_option maxRecDepth 20000 in set_option maxHeartbeats 8000000 in
theorem impl_emptyHash (w : World) (d : Nat) (hd : d ≤ 8) (n : Int) (hn : I64 n) (hT : Tabs w) : Calls Tryd.prog 128 #[.int .i64 (8 - (d : Int)), .int .i64 n] w fun e w' => e = .returned (.string (emptyD n d)) ∧ Below w.heap.size w w' := by
  have HT := Lib.hid hT
  clear hT
  have HE0 : Hid (tagHash 1 [] n = emptyD n 0) := Lib.hid rfl
  have HES : Hid (∀ k, tagHash 3 [emptyD n k, emptyD n k] n = emptyD n (k + 1)) := Lib.hid (fun _ => rfl)
  have HEM := Lib.hid (fun k => emptyD_max n k)
  go_enter Tryd.func128, Tryd.ntmps128
  go_wp2_with (fail)
  refine (impl_hashOf _ 1 (by unfold I64; omega) [] none 0 none_ (row_nil _ _).weak (by simp) n hn HT.out).mono ?_
  rintro e0 w0 ⟨rfl, hb0⟩
  rw [HE0.out]
  obtain ⟨E, hE⟩ : ∃ E, emptyD n = E := ⟨_, rfl⟩
  rw [hE] at HES HEM
  have HEE := Lib.hid hE
  rw [hE]
  clear hE HE0
  have HB0 := Lib.hid hb0
  clear hb0
  go_wp2
  go_loopw [5, 6] (fun h l wr => ∃ k : Nat, k ≤ d ∧ h = .string (E k) ∧ l = .int .i64 (8 - (k : Int)) ∧ Below w0.heap.size w0 wr) (fun _ l _ => (intOf l).toNat)
  case atStart => exact ⟨0, Nat.zero_le _, rfl, rfl, Below.refl _ _⟩
  case round =>
    obtain ⟨k, hk, rfl, rfl, hb⟩ := hrel
    have HBr := Lib.hid hb
    by_cases hlt : k < d
    · have hgt : (8 : Int) - (k : Int) > 8 - (d : Int) := by omega
      have hw1 : IntKind.i64.wrap (8 - (k : Int) - 1) = 8 - (k : Int) - 1 := IntWalk.i64_in _ (by omega)
      go_wp2_with (fail)
      refine (impl_hashOf _ 3 (by unfold I64; omega) [E k, E k] _ _ _ (row_pairAt _ _ _ (HEM.out k) (HEM.out k) _ _ rfl) (by simp) n hn (HT.out.later ((HB0.out.trans (HBr.out.mono HB0.out.size)).trans (((Below.refl _ _).alloc (Nat.le_refl _) _).mono (HB0.out.trans (HBr.out.mono HB0.out.size)).size)))).mono ?_
      rintro e1 w1 ⟨rfl, hb1⟩
      rw [HES.out]
      have HB1 := Lib.hid (Below.via hb1)
      clear hb1
      go_wp2
      go_roundw
      case rel => exact ⟨k + 1, hlt, rfl, by go_num, HBr.out.trans (HB1.out.mono HBr.out.size)⟩
      case measure => simp [intOf]; omega
    · have hke : k = d := by omega
      subst hke
      go_wp2
      go_ret
      exact ⟨ret_str (by rw [HEE.out]), HB0.out.trans (HBr.out.mono HB0.out.size)⟩
def ixs (xs : List Leaf) : List Int := xs.map (fun x => (indexOf x.name : Int))
theorem ixs_len (xs : List Leaf) : (ixs xs).length = xs.length := by unfold ixs; simp
theorem ixs_at {xs : List Leaf} {k : Nat} (h : k < xs.length) : (ixs xs)[k]'(by rw [ixs_len]; exact h) = (indexOf xs[k].name : Int) := by unfold ixs; simp
def NodeC (n : Int) (d : Nat) : Prop := ∀ (w : World) (p : Nat) (_ : p < 2 ^ (8 - d)) (xs : List Leaf) (A : Option Addr) (cap : Nat) (S : Blks) (_ : Row false w A cap xs S) (A2 : Option Addr) (cap2 : Nat) (S2 : Blks) (_ : Row false w A2 cap2 (ixs xs) S2) (_ : xs.length ≤ 1048576) (_ : Tabs w), Calls Tryd.prog 73 #[.agg #[.slice A xs.length cap, .slice A2 xs.length cap2, .int .i64 n], .int .i64 (8 - (d : Int)), .int .i64 (p : Int)] w fun e w' => e = .returned (.string (nodeD n d p xs)) ∧ Below w.heap.size w w'
set_option maxRecDepth 20000 in set_option maxHeartbeats 8000000 in
theorem node_step (n : Int) (hn : I64 n) (d : Nat) (hd : d ≤ 8) (hrec : ∀ d', d = d' + 1 → NodeC n d') : NodeC n d := by
  intro w p hp xs A cap S hx A2 cap2 S2 hi hl hT
  have HT := Lib.hid hT
  clear hT
  have HRC := Lib.hid hrec
  clear hrec
  have hp8 : p < 256 := Nat.lt_of_lt_of_le hp (Nat.pow_le_pow_right (by omega) (show 8 - d ≤ 8 by omega))
  have hw1 : IntKind.i64.wrap (8 - (8 - (d : Int))) = (d : Int) := by rw [IntWalk.i64_in] <;> omega
  have hWd : ∀ W, W = w.alloc (.cells #[.slice A xs.length cap, .slice A2 xs.length cap2, .int .i64 n] 103) → Below w.heap.size w W ∧ W.cell? ⟨w.heap.size, 0, none⟩ = some (.slice A xs.length cap) ∧ W.cell? ⟨w.heap.size, 1, none⟩ = some (.slice A2 xs.length cap2) ∧ W.cell? ⟨w.heap.size, 2, none⟩ = some (.int .i64 n) ∧ W.heap.size = w.heap.size + 1 := by
    rintro W rfl
    exact ⟨(Below.refl _ _).alloc (Nat.le_refl _) _, box_cell _ _ _ _ _ rfl, box_cell _ _ _ _ _ rfl, box_cell _ _ _ _ _ rfl, by simp⟩
  go_enter Tryd.func73, Tryd.ntmps73
  go_wp2_with (fail)
  obtain ⟨W, hW⟩ : ∃ W, w.alloc (.cells #[.slice A xs.length cap, .slice A2 xs.length cap2, .int .i64 n] 103) = W := ⟨_, rfl⟩
  rw [hW]
  obtain ⟨hBW, g0, g1, g2, hsz⟩ := hWd W hW.symm
  clear hW hWd
  have HBW := Lib.hid hBW
  have G0 := Lib.hid g0
  have G1 := Lib.hid g1
  have G2 := Lib.hid g2
  have hlW : w.heap.size < W.heap.size := by omega
  have HO := Lib.hid (Own.start (α := Leaf) (Below.refl W.heap.size W))
  have RX := Lib.hid (Row.later hx hBW)
  have RI := Lib.hid (Row.later hi hBW)
  clear hBW hx hi
  go_wp2_with (fail)
  go_loopw [7, 13] (fun u i wr => ∃ (k : Nat) (L : List Leaf) (A3 : Option Addr) (c : Nat), k ≤ xs.length ∧ i = .int .i64 k ∧ u = .slice A3 L.length c ∧ Hid (L = belowL d p (xs.take k)) ∧ L.length ≤ k ∧ Own W wr A3 c L) (fun _ i _ => xs.length - (intOf i).toNat)
  case atStart => exact ⟨0, [], none, 0, Nat.zero_le _, rfl, rfl, Lib.hid rfl, by simp, HO.out⟩
  case round =>
    clear HO g0 g1 g2
    obtain ⟨k, L, A3, c, hk, rfl, rfl, HL, hLk, hown⟩ := hrel
    have hb := hown.bl
    have HOW := Lib.hid hown
    have g0 := (hb.cell (p := ⟨w.heap.size, 0, none⟩) hlW).trans G0.out
    have g1 := (hb.cell (p := ⟨w.heap.size, 1, none⟩) hlW).trans G1.out
    have g2 := (hb.cell (p := ⟨w.heap.size, 2, none⟩) hlW).trans G2.out
    have hlr : w.heap.size < wr.heap.size := Nat.lt_of_lt_of_le hlW hb.size
    by_cases hlt : k < xs.length
    · obtain ⟨b1, o1, rfl, hl1, e0, e1, s0, s1⟩ := Row.atLeaf RX.out hlt
      obtain ⟨b2, o2, rfl, hl2, f0, -⟩ := Row.int RI.out (i := k) (by rw [ixs_len]; exact hlt)
      rw [ixs_at hlt] at f0
      replace e0 := (hb.cell (p := ⟨b1, o1 + k * 2, none⟩) hl1).trans e0
      replace e1 := (hb.cell (p := ⟨b1, o1 + k * 2 + 1, none⟩) hl1).trans e1
      replace f0 := (hb.cell (p := ⟨b2, o2 + k, none⟩) hl2).trans f0
      have hlb1 : b1 < wr.heap.size := Nat.lt_of_lt_of_le hl1 hb.size
      have hlb2 : b2 < wr.heap.size := Nat.lt_of_lt_of_le hl2 hb.size
      have HN := Lib.hid (below_snoc (d := d) (p := p) hlt)
      obtain ⟨x, hx⟩ : ∃ x, xs[k] = x := ⟨_, rfl⟩
      rw [hx] at e0 e1 s0 s1 HN f0
      clear hx
      obtain ⟨ix, hix⟩ : ∃ ix, indexOf x.name = ix := ⟨_, rfl⟩
      have hixl : ix < 256 := by rw [← hix]; exact indexOf_lt _
      rw [hix] at HN f0
      clear hix hown hb
      have hpc : ((ix / 2 ^ d : Nat) : Int) = (ix : Int) / 2 ^ d := by rw [Int.natCast_ediv, Int.natCast_pow]; rfl
      by_cases hc : ix / 2 ^ d = p
      · have hq : ((ix : Int) / 2 ^ d == (p : Int)) = true := by rw [← hpc, beq_iff_eq, hc]
        have HN2 : Hid (belowL d p (xs.take (k + 1)) = L ++ [x]) := Lib.hid (by rw [HN.out, if_pos hc, HL.out])
        have hok : Flat.ok x := (⟨s0, s1⟩ : x.name.size ≤ maxLen ∧ x.value.size ≤ maxLen)
        clear hc hpc HN
        go_wp2_with (at_builtin; refine wpList_push (α := Leaf) rfl _ _ rfl rfl rfl ((HOW.out.alloc _).alloc _) rfl rfl (src1 hok (by first | rfl | simp) rfl) (by omega) ?_; intro A6 c6 w6 o6 z6)
        go_roundw
        case rel => exact ⟨k + 1, L ++ [x], A6, c6, hlt, by go_num, by simp, Lib.hid HN2.out.symm, by simp; omega, o6⟩
        case measure => simp [intOf]; omega
      · have hq : ((ix : Int) / 2 ^ d == (p : Int)) = false := by rw [← hpc, beq_eq_false_iff_ne]; omega
        have HN2 : Hid (belowL d p (xs.take (k + 1)) = L) := Lib.hid (by rw [HN.out, if_neg hc, HL.out, List.append_nil])
        clear hc hpc HN
        go_wp2
        go_roundw
        case rel => exact ⟨k + 1, L, A3, c, hlt, by go_num, rfl, Lib.hid HN2.out.symm, by omega, HOW.out.alloc _⟩
        case measure => simp [intOf]; omega
    · have HL2 : Hid (L = belowL d p xs) := Lib.hid (by rw [HL.out, List.take_of_length_le (by omega)])
      have HBr := Lib.hid (HBW.out.trans (hb.mono HBW.out.size))
      have hll : L.length ≤ 1048576 := by omega
      have rX := Row.later RX.out hb
      have rI := Row.later RI.out hb
      clear hown HL hLk
      have Hlt := Lib.hid hlt
      clear hlt
      cases d with
      | zero =>
        have h8 : ((8 : Int) - ((0 : Nat) : Int) == 8) = true := by simp
        have HBT := Lib.hid (fun W' (h : Below wr.heap.size wr W') => impl_bucketText W' L A3 c _ (Row.later HOW.out.weak h) hll)
        have HRES : Hid (nodeD n 0 p xs = cutDigest (bucketTx L) n) := Lib.hid (by rw [HL2.out]; rfl)
        have HCD := Lib.hid (fun W' (h : Below wr.heap.size wr W') => impl_CutDigest W' (bucketTx L) (by have := tagText_le (bucketKind L) (bucketParts L); unfold bucketTx; omega) n hn (HT.out.later (HBr.out.trans (h.mono HBr.out.size))))
        have hkk : k = xs.length := by have := Hlt.out; omega
        subst hkk
        clear g0 g1 rX rI hb
        go_wp2_with (fail)
        have Gg := Grown.cell g2
        clear g2
        refine wp_region_grown (by kernel_rfl) (by kernel_rfl) ?_
        repeat (go_big_quiet_step (first | (go_at_call 127; exact grown_call (HBT.out _ (Grown.ok _))) | (go_at_call 126; exact grown_call (HCD.out _ (Grown.ok _)))))
        refine wpQuiet_nil ?_
        intro w7 hw_
        have HB7 := Lib.hid (grown_below hw_)
        clear hw_ Gg
        go_wp2
        go_ret
        exact ⟨ret_str (by rw [HRES.out]), HBr.out.trans (HB7.out.mono HBr.out.size)⟩
      | succ d =>
        have h8 : ((8 : Int) - ((d + 1 : Nat) : Int) == 8) = false := by rw [beq_eq_false_iff_ne]; omega
        have hkk : k = xs.length := by have := Hlt.out; omega
        subst hkk
        by_cases h0 : L.length = 0
        · have HRES : Hid (nodeD n (d + 1) p xs = emptyD n (d + 1)) := Lib.hid (node_none n (by rw [← HL2.out]; exact h0))
          have HEM := Lib.hid (fun W' (h : Below wr.heap.size wr W') => impl_emptyHash W' (d + 1) hd n hn (HT.out.later (HBr.out.trans (h.mono HBr.out.size))))
          have hq0 : ((L.length : Int) == 0) = true := by rw [beq_iff_eq]; omega
          have e8 : ((d + 1 : Nat) : Int) = (d : Int) + 1 := by omega
          rw [e8] at HEM
          clear g0 g1 rX rI hb e8
          go_wp2_with (fail)
          refine (HEM.out _ (Below.refl _ _)).mono ?_
          rintro e7 w7 ⟨rfl, hb7⟩
          have HB7 := Lib.hid hb7
          clear hb7
          go_wp2
          go_ret
          exact ⟨ret_str (by rw [HRES.out]), HBr.out.trans (HB7.out.mono HBr.out.size)⟩
        · have hq0 : ((L.length : Int) == 0) = false := by rw [beq_eq_false_iff_ne]; omega
          have hpp : 2 ^ (8 - d) = 2 * 2 ^ (8 - (d + 1)) := by rw [show 8 - d = (8 - (d + 1)) + 1 by omega, Nat.pow_succ]; omega
          have HRES : Hid (nodeD n (d + 1) p xs = tagHash 3 [nodeD n d (2 * p) xs, nodeD n d (2 * p + 1) xs] n) := Lib.hid (by
            show (if _ then _ else _) = _
            rw [if_neg (by rw [← HL2.out]; exact h0)])
          have HN1 := Lib.hid (fun W' (h : Below wr.heap.size wr W') => HRC.out d rfl W' (2 * p) (by omega) xs A cap S (Row.later rX h) A2 cap2 S2 (Row.later rI h) hl (HT.out.later (HBr.out.trans (h.mono HBr.out.size))))
          have HN2 := Lib.hid (fun W' (h : Below wr.heap.size wr W') => HRC.out d rfl W' (2 * p + 1) (by omega) xs A cap S (Row.later rX h) A2 cap2 S2 (Row.later rI h) hl (HT.out.later (HBr.out.trans (h.mono HBr.out.size))))
          have ec1 : ((2 * p : Nat) : Int) = 2 * (p : Int) := by omega
          have ec2 : ((2 * p + 1 : Nat) : Int) = 2 * (p : Int) + 1 := by omega
          rw [ec1] at HN1
          rw [ec2] at HN2
          have hm1 := nodeD_max n d (2 * p) xs
          have hm2 := nodeD_max n d (2 * p + 1) xs
          obtain ⟨a, hae⟩ : ∃ a, nodeD n d (2 * p) xs = a := ⟨_, rfl⟩
          obtain ⟨b, hbe⟩ : ∃ b, nodeD n d (2 * p + 1) xs = b := ⟨_, rfl⟩
          rw [hae] at HRES HN1 hm1
          rw [hbe] at HRES HN2 hm2
          have hwa : IntKind.i64.wrap (8 - ((d : Int) + 1) + 1) = 8 - (d : Int) := by rw [IntWalk.i64_in] <;> omega
          have hwb : IntKind.i64.wrap (2 * (p : Int)) = 2 * (p : Int) := by rw [IntWalk.i64_in] <;> omega
          have hwc : IntKind.i64.wrap (2 * (p : Int) + 1) = 2 * (p : Int) + 1 := by rw [IntWalk.i64_in] <;> omega
          have hB := Below.refl wr.heap.size wr
          have HM := Lib.hid (fun (w' : World) (h : Below wr.heap.size wr w') => (⟨(h.cell (p := ⟨w.heap.size, 0, none⟩) hlr).trans g0, (h.cell (p := ⟨w.heap.size, 1, none⟩) hlr).trans g1, (h.cell (p := ⟨w.heap.size, 2, none⟩) hlr).trans g2, h⟩ : w'.cell? ⟨w.heap.size, 0, none⟩ = some (.slice A xs.length cap) ∧ w'.cell? ⟨w.heap.size, 1, none⟩ = some (.slice A2 xs.length cap2) ∧ w'.cell? ⟨w.heap.size, 2, none⟩ = some (.int .i64 n) ∧ Below wr.heap.size wr w'))
          clear hae hbe rX rI hb hpp ec1 ec2 g0 g1 g2
          have HH0 := Lib.hid h0
          clear h0
          go_wp2_with (fail)
          go_region_held3 (fun w' => w'.cell? ⟨w.heap.size, 0, none⟩ = some (.slice A xs.length cap) ∧ w'.cell? ⟨w.heap.size, 1, none⟩ = some (.slice A2 xs.length cap2) ∧ w'.cell? ⟨w.heap.size, 2, none⟩ = some (.int .i64 n) ∧ Below wr.heap.size wr w')
            (first | exact HM.out _ (by (repeat (first | with_reducible exact hB | with_reducible apply Below.drew | with_reducible refine Below.alloc ?_ ?_ _)); all_goals (first | omega | (simp; done) | (simp; omega))))
            (first | (go_at_call 73; with_reducible refine (HN1.out _ ?_).mono ?_; (exact (by (repeat (first | with_reducible exact hB | with_reducible apply Below.drew | with_reducible refine Below.alloc ?_ ?_ _)); all_goals (first | omega | (simp; done) | (simp; omega)))); rintro e5 w5 ⟨rfl, hb5⟩; have hB := Below.step (a := wr) (by (repeat (first | with_reducible exact hB | with_reducible apply Below.drew | with_reducible refine Below.alloc ?_ ?_ _)); all_goals (first | omega | (simp; done) | (simp; omega))) hb5; have hs5 := hB.size) | (go_at_call 73; with_reducible refine (HN2.out _ ?_).mono ?_; (exact (by (repeat (first | with_reducible exact hB | with_reducible apply Below.drew | with_reducible refine Below.alloc ?_ ?_ _)); all_goals (first | omega | (simp; done) | (simp; omega)))); rintro e6 w6 ⟨rfl, hb6⟩; have hB := Below.step (a := wr) (by (repeat (first | with_reducible exact hB | with_reducible apply Below.drew | with_reducible refine Below.alloc ?_ ?_ _)); all_goals (first | omega | (simp; done) | (simp; omega))) hb6; have hs6 := hB.size) | (go_at_call 86; refine (impl_hashOf _ 3 (by unfold I64; omega) [a, b] _ _ _ (by first | exact row_pairAt _ a b hm1 hm2 _ _ (by first | rfl | simp) | exact Row.drewC (row_pairAt _ a b hm1 hm2 _ _ (by first | rfl | simp))) (by simp) n hn (HT.out.later (HBr.out.trans (Below.mono (w := wr) (by (repeat (first | with_reducible exact hB | with_reducible apply Below.drew | with_reducible refine Below.alloc ?_ ?_ _)); all_goals (first | omega | (simp; done) | (simp; omega))) HBr.out.size)))).mono ?_; rintro e7 w7 ⟨rfl, hb7⟩; have hB := Below.step (a := wr) (by (repeat (first | with_reducible exact hB | with_reducible apply Below.drew | with_reducible refine Below.alloc ?_ ?_ _)); all_goals (first | omega | (simp; done) | (simp; omega))) hb7; have hs7 := hB.size))
          go_wp2
          go_ret
          exact ⟨ret_str (by rw [HRES.out]), HBr.out.trans (Below.mono (w := wr) (by (repeat (first | with_reducible exact hB | with_reducible apply Below.drew | with_reducible refine Below.alloc ?_ ?_ _)); all_goals (first | omega | (simp; done) | (simp; omega))) HBr.out.size)⟩
theorem impl_node (n : Int) (hn : I64 n) : ∀ d, d ≤ 8 → NodeC n d
  | 0, h => node_step n hn 0 h (fun d' e => by omega)
  | d + 1, h => node_step n hn (d + 1) h (fun d' e => by
      obtain rfl : d = d' := by omega
      exact impl_node n hn d (by omega))
end Go.Proofs.YtojbehmbeoemgaaDoor
