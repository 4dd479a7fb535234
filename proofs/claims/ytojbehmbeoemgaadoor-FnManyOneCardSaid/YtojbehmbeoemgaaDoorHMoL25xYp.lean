/- A part of the proof: what the laws need of it. -/
import Derived.Deep.RegionHeld3
import Derived.Test.YtojbehmbeoemgaaDoorHMoL24xYn
import Derived.Test.YtojbehmbeoemgaaDoorHMoL17xTg
import Derived.Test.YtojbehmbeoemgaaDoorHMoL11xDp
import Derived.Test.YtojbehmbeoemgaaDoorHMoL7xLw
set_option linter.unusedVariables false
set_option linter.unusedSimpArgs false
set_option linter.unusedVariables false
set_option linter.unusedSimpArgs false
namespace Go.Proofs.YtojbehmbeoemgaaDoor
open Go.RowKit Lay Mk
def SyRes (R : ByteArray × Bool × Bool) (w : World) (e : Ending) (w' : World) : Prop := e = .returned (.tuple #[.string R.1, .bool R.2.1, .bool R.2.2]) ∧ Below w.heap.size w w'
theorem SyRes.mk {R : ByteArray × Bool × Bool} {s : ByteArray} {b c : Bool} {w w' : World} (hR : R = (s, b, c)) (hb : Below w.heap.size w w') : SyRes R w (.returned (.tuple #[.string s, .bool b, .bool c])) w' := by
  subst hR; exact ⟨rfl, hb⟩
end Go.Proofs.YtojbehmbeoemgaaDoor

set_option linter.unusedVariables false
set_option linter.unusedSimpArgs false
namespace Go.Proofs.YtojbehmbeoemgaaDoor
open Go.RowKit Lay Mk
def NodeS (n : Int) (d : Nat) : Prop := ∀ (w : World) (p : Nat) (_ : p < 2 ^ (8 - d)) (ls : List Leaf) (_ : leavesOk ls = true) (A : Option Addr) (cap : Nat) (S : Blks) (_ : Row false w A cap (spotsOf ls) S) (bE : Nat) (_ : bE < w.heap.size) (_ : ∀ j, j ≤ 8 → w.cell? ⟨bE, j, none⟩ = some (.string (emptyD n (8 - j)))), Calls Tryd.prog 92 #[.slice A ls.length cap, .int .i64 (8 - (d : Int)), .int .i64 (p : Int), .int .i64 n, .slice (some ⟨bE, 0, none⟩) 9 9] w fun e w' => e = .returned (.string (nodeD n d p ls)) ∧ Below w.heap.size w w'
theorem spotsOf_at {ls : List Leaf} {k : Nat} (h : k < ls.length) : (spotsOf ls)[k]'(by rw [spotsOf_len]; exact h) = spotOf ls[k] := by unfold spotsOf; simp
set_option maxRecDepth 20000 in set_option maxHeartbeats 16000000 in
theorem nodeS_step (n : Int) (hn : I64 n) (d : Nat) (hd : d ≤ 8) (hrec : ∀ d', d = d' + 1 → NodeS n d') : NodeS n d := by
  intro w p hp ls hok A cap S hx bE hbE hE
  have HRC := Lib.hid hrec
  have hl := leavesOk_len hok
  have HOK := Lib.hid hok
  have HEE := Lib.hid hE
  clear hrec hok hE
  have hp8 : p < 256 := Nat.lt_of_lt_of_le hp (Nat.pow_le_pow_right (by omega) (show 8 - d ≤ 8 by omega))
  have hw1 : IntKind.i64.wrap (8 - (8 - (d : Int))) = (d : Int) := by rw [IntWalk.i64_in] <;> omega
  have hw2 : IntKind.u64.wrap (d : Int) = (d : Int) := by
    rcases (show d = 0 ∨ d = 1 ∨ d = 2 ∨ d = 3 ∨ d = 4 ∨ d = 5 ∨ d = 6 ∨ d = 7 ∨ d = 8 by omega) with rfl | rfl | rfl | rfl | rfl | rfl | rfl | rfl | rfl <;> rfl
  go_enter Tryd.func92, Tryd.ntmps92
  go_wp2
  have HO := Lib.hid (Own.litAt (α := Spot) (Below.refl w.heap.size w) 153 rfl (b := w.heap.size) rfl)
  have HOL : Hid ((spotsOf ls).length = ls.length) := Lib.hid (spotsOf_len ls)
  go_loopw [11, 12] (fun u i wr => ∃ (k : Nat) (L : List Leaf) (A2 : Option Addr) (c : Nat), k ≤ ls.length ∧ i = .int .i64 k ∧ u = .slice A2 L.length c ∧ Hid (L = belowL d p (ls.take k)) ∧ L.length ≤ k ∧ Own w wr A2 c (spotsOf L)) (fun _ i _ => ls.length - (intOf i).toNat)
  case atStart => exact ⟨0, [], some ⟨w.heap.size, 0, none⟩, 0, Nat.zero_le _, rfl, rfl, Lib.hid rfl, by simp, HO.out⟩
  case round =>
    clear HO
    obtain ⟨k, L, A2, c, hk, rfl, rfl, HL, hLk, hown⟩ := hrel
    have hb := hown.bl
    have HOW := Lib.hid hown
    by_cases hlt : k < ls.length
    · obtain ⟨b1, o1, rfl, hl1, e0, e1, e2, s0, s1, s2⟩ := Row.atSpot hx (i := k) (by rw [spotsOf_len]; exact hlt)
      rw [spotsOf_at hlt] at e0 e1 e2 s0 s1 s2
      replace e0 := (hb.cell (p := ⟨b1, o1 + k * 3, none⟩) hl1).trans e0
      replace e1 := (hb.cell (p := ⟨b1, o1 + k * 3 + 1, none⟩) hl1).trans e1
      replace e2 := (hb.cell (p := ⟨b1, o1 + k * 3 + 2, none⟩) hl1).trans e2
      have hlb1 : b1 < wr.heap.size := Nat.lt_of_lt_of_le hl1 hb.size
      have HN := Lib.hid (below_snoc (d := d) (p := p) hlt)
      obtain ⟨x, hx'⟩ : ∃ x, ls[k] = x := ⟨_, rfl⟩
      rw [hx'] at e0 e1 e2 s0 s1 s2 HN
      clear hx'
      have HSX : Hid (spotOf x = ⟨x, (indexOf x.name : Int)⟩) := Lib.hid rfl
      rw [HSX.out] at e0 e1 e2 s0 s1 s2
      have hokx : Flat.ok (spotOf x) := (show x.name.size ≤ maxLen ∧ x.value.size ≤ maxLen ∧ I64 ((indexOf x.name : Nat) : Int) from ⟨s0, s1, s2⟩)
      have HSS : Hid (spotsOf (L ++ [x]) = spotsOf L ++ [⟨x, (indexOf x.name : Int)⟩]) := Lib.hid (by unfold spotsOf; rw [List.map_append]; rfl)
      have HLL : Hid (L.length = (spotsOf L).length) := Lib.hid (spotsOf_len L).symm
      rw [HSX.out] at hokx
      obtain ⟨ix, hix⟩ : ∃ ix, indexOf x.name = ix := ⟨_, rfl⟩
      have hixl : ix < 256 := by rw [← hix]; exact indexOf_lt _
      rw [hix] at HN e2 hokx HSS
      simp only at e0 e1 e2
      clear hix hown hb HSX s0 s1 s2
      have hpc : ((ix / 2 ^ d : Nat) : Int) = (ix : Int) / 2 ^ d := by rw [Int.natCast_ediv, Int.natCast_pow]; rfl
      by_cases hc : ix / 2 ^ d = p
      · have hq : ((ix : Int) / 2 ^ d == (p : Int)) = true := by rw [← hpc, beq_iff_eq, hc]
        have HN2 : Hid (belowL d p (ls.take (k + 1)) = L ++ [x]) := Lib.hid (by rw [HN.out, if_pos hc, HL.out])
        clear hc hpc HN
        go_wp2_with (at_builtin; refine wpList_push (α := Spot) rfl _ _ rfl rfl HLL.out (HOW.out.alloc _) rfl rfl (src1 hokx (by first | rfl | simp) rfl) (by omega) ?_; intro A6 c6 w6 o6 z6)
        go_roundw
        case rel => exact ⟨k + 1, L ++ [x], A6, c6, hlt, by go_num, by simp, Lib.hid HN2.out.symm, by simp; omega, by rw [HSS.out]; exact o6⟩
        case measure => simp [intOf]; omega
      · have hq : ((ix : Int) / 2 ^ d == (p : Int)) = false := by rw [← hpc, beq_eq_false_iff_ne]; omega
        have HN2 : Hid (belowL d p (ls.take (k + 1)) = L) := Lib.hid (by rw [HN.out, if_neg hc, HL.out, List.append_nil])
        clear hc hpc HN
        go_wp2
        go_roundw
        case rel => exact ⟨k + 1, L, A2, c, hlt, by go_num, rfl, Lib.hid HN2.out.symm, by omega, HOW.out⟩
        case measure => simp [intOf]; omega
    · have hke : k = ls.length := by omega
      subst hke
      have HL2 : Hid (L = belowL d p ls) := Lib.hid (by rw [HL.out, List.take_of_length_le (Nat.le_refl _)])
      have HER := Lib.hid (fun (j : Nat) (hj : j ≤ 8) => (hb.cell (p := ⟨bE, j, none⟩) hbE).trans (HEE.out j hj))
      have HBr := Lib.hid hb
      have hbEr : bE < wr.heap.size := Nat.lt_of_lt_of_le hbE hb.size
      have hLk24 : L.length ≤ 24 := by omega
      clear HL hLk hown hb hlt hw2 hw1
      by_cases h0 : L.length = 0
      · have HRES : Hid (nodeD n d p ls = emptyD n d) := Lib.hid (node_none n (by rw [← HL2.out]; exact h0))
        have hq0 : ((L.length : Int) == 0) = true := by rw [beq_iff_eq]; omega
        obtain ⟨m, hm⟩ : ∃ m : Nat, m + d = 8 := ⟨8 - d, by omega⟩
        have hmd : (8 : Int) - (d : Int) = (m : Int) := by omega
        have x0 : wr.cell? ⟨bE, m, none⟩ = some (.string (emptyD n d)) := by have h9 := HER.out m (by omega); rwa [show 8 - m = d by omega] at h9
        have hm9 : (m : Int) < 9 := by omega
        have hm0 : (0 : Int) ≤ (m : Int) := by omega
        simp only [hmd]
        clear hmd hm h0
        go_wp2
        go_ret
        exact ⟨ret_str (by rw [HRES.out]), HBr.out⟩
      have hq0 : ((L.length : Int) == 0) = false := by rw [beq_eq_false_iff_ne]; omega
      have HOKL : Hid (leavesOk L = true) := Lib.hid (by rw [HL2.out]; exact leavesOk_below HOK.out _ _)
      have HH0 := Lib.hid h0
      clear h0
      cases d with
      | zero =>
        have h8 : ((8 : Int) - ((0 : Nat) : Int) == 8) = true := by simp
        have HRES : Hid (nodeD n 0 p ls = bucketHash L n) := Lib.hid (by rw [HL2.out]; rfl)
        have HLS := Lib.hid (spotsOf_len L)
        have HLT : Hid (L.take L.length = L) := Lib.hid (List.take_length)
        obtain ⟨V, hV⟩ : ∃ V, wr = V := ⟨_, rfl⟩
        simp only [hV] at *
        clear hV
        simp only [show (8 : Int) - ((0 : Nat) : Int) = 8 from rfl]
        go_wp2
        have HO4 := Lib.hid (Own.litAt (α := Leaf) (Below.refl V.heap.size V) 110 rfl (b := V.heap.size) rfl)
        go_loopw [13, 14] (fun u i wr => ∃ (k : Nat) (A4 : Option Addr) (c4 : Nat), k ≤ L.length ∧ i = .int .i64 k ∧ u = .slice A4 k c4 ∧ Own V wr A4 c4 (L.take k)) (fun _ i _ => L.length - (intOf i).toNat)
        case atStart => exact ⟨0, some ⟨V.heap.size, 0, none⟩, 0, Nat.zero_le _, rfl, rfl, HO4.out⟩
        case round =>
          clear HO4
          obtain ⟨k, A4, c4, hk4, rfl, rfl, hown4⟩ := hrel
          have hb4 := hown4.bl
          have HOW4 := Lib.hid hown4
          by_cases hlt : k < L.length
          · obtain ⟨b1, o1, rfl, hl1, e0, e1, e2, s0, s1, s2⟩ := Row.atSpot HOW.out.weak (i := k) (by rw [spotsOf_len]; exact hlt)
            rw [spotsOf_at hlt] at e0 e1 e2 s0 s1 s2
            replace e0 := (hb4.cell (p := ⟨b1, o1 + k * 3, none⟩) hl1).trans e0
            replace e1 := (hb4.cell (p := ⟨b1, o1 + k * 3 + 1, none⟩) hl1).trans e1
            have hlb1 : b1 < wr.heap.size := Nat.lt_of_lt_of_le hl1 hb4.size
            have HN : Hid (L.take (k + 1) = L.take k ++ [L[k]]) := Lib.hid (List.take_succ_eq_append_getElem hlt)
            have HKL : Hid (k = (L.take k).length) := Lib.hid (by rw [List.length_take]; omega)
            obtain ⟨x, hx'⟩ : ∃ x, L[k] = x := ⟨_, rfl⟩
            rw [hx'] at e0 e1 s0 s1 HN
            have HSX : Hid (spotOf x = ⟨x, (indexOf x.name : Int)⟩) := Lib.hid rfl
            rw [HSX.out] at e0 e1 s0 s1
            simp only at e0 e1
            have hokx : Flat.ok x := (show x.name.size ≤ maxLen ∧ x.value.size ≤ maxLen from ⟨s0, s1⟩)
            clear hx' e2 s2 hown4 hb4 s0 s1
            go_wp2_with (at_builtin; refine wpList_push (α := Leaf) rfl _ _ rfl rfl HKL.out (HOW4.out.alloc _) rfl rfl (src1 hokx (by first | rfl | simp) rfl) (by omega) ?_; intro A6 c6 w6 o6 z6)
            go_roundw
            case rel => exact ⟨k + 1, A6, c6, hlt, by go_num, rfl, by rw [HN.out]; exact o6⟩
            case measure => simp [intOf]; omega
          · have hke : k = L.length := by omega
            subst hke
            have hown5 : Own V wr A4 c4 L := by rw [← HLT.out]; exact hown4
            have HOW5 := Lib.hid hown5
            have HB5 := Lib.hid hown5.bl
            have HBK := Lib.hid (spec_BucketHash wr L A4 c4 _ hown5.weak HOKL.out n hn)
            clear hown4 hb4 hown5
            go_wp2_with (fail)
            refine HBK.out.mono ?_
            rintro e7 w7 ⟨rfl, hb7⟩
            have HB7 := Lib.hid (HB5.out.trans (hb7.mono HB5.out.size))
            clear hb7
            go_wp2
            go_ret
            exact ⟨ret_str (by rw [HRES.out]), HBr.out.trans (HB7.out.mono HBr.out.size)⟩
      | succ d =>
        have h8 : ((8 : Int) - ((d + 1 : Nat) : Int) == 8) = false := by rw [beq_eq_false_iff_ne]; omega
        have hpp : 2 ^ (8 - d) = 2 * 2 ^ (8 - (d + 1)) := by rw [show 8 - d = (8 - (d + 1)) + 1 by omega, Nat.pow_succ]; omega
        have HRES : Hid (nodeD n (d + 1) p ls = tagHash 3 [nodeD n d (2 * p) L, nodeD n d (2 * p + 1) L] n) := Lib.hid (by
          rw [node_below, if_neg (by rw [← HL2.out]; exact HH0.out), ← HL2.out])
        have HN1 := Lib.hid (fun W' (h : Below wr.heap.size wr W') => HRC.out d rfl W' (2 * p) (by omega) L HOKL.out A2 c _ (Row.later HOW.out.weak h) bE (Nat.lt_of_lt_of_le hbEr h.size) (fun j hj => (h.cell (p := ⟨bE, j, none⟩) hbEr).trans (HER.out j hj)))
        have HN2 := Lib.hid (fun W' (h : Below wr.heap.size wr W') => HRC.out d rfl W' (2 * p + 1) (by omega) L HOKL.out A2 c _ (Row.later HOW.out.weak h) bE (Nat.lt_of_lt_of_le hbEr h.size) (fun j hj => (h.cell (p := ⟨bE, j, none⟩) hbEr).trans (HER.out j hj)))
        have ec1 : ((2 * p : Nat) : Int) = 2 * (p : Int) := by omega
        have ec2 : ((2 * p + 1 : Nat) : Int) = 2 * (p : Int) + 1 := by omega
        rw [ec1] at HN1
        rw [ec2] at HN2
        have hm1 := nodeD_max n d (2 * p) L
        have hm2 := nodeD_max n d (2 * p + 1) L
        obtain ⟨a, hae⟩ : ∃ a, nodeD n d (2 * p) L = a := ⟨_, rfl⟩
        obtain ⟨b, hbe⟩ : ∃ b, nodeD n d (2 * p + 1) L = b := ⟨_, rfl⟩
        rw [hae] at HRES HN1 hm1
        rw [hbe] at HRES HN2 hm2
        have hwa : IntKind.i64.wrap (8 - ((d : Int) + 1) + 1) = 8 - (d : Int) := by rw [IntWalk.i64_in] <;> omega
        have hwb : IntKind.i64.wrap (2 * (p : Int)) = 2 * (p : Int) := by rw [IntWalk.i64_in] <;> omega
        have hwc : IntKind.i64.wrap (2 * (p : Int) + 1) = 2 * (p : Int) + 1 := by rw [IntWalk.i64_in] <;> omega
        clear hae hbe hpp ec1 ec2
        go_wp2_with (fail)
        with_reducible refine (HN1.out _ ?_).mono ?_
        · exact Below.refl _ _
        rintro e5 w5 ⟨rfl, hb5⟩
        have HB5 := Lib.hid hb5
        clear hb5
        go_wp2_with (fail)
        with_reducible refine (HN2.out _ ?_).mono ?_
        · exact HB5.out
        rintro e6 w6 ⟨rfl, hb6⟩
        have HB6 := Lib.hid (HB5.out.trans (hb6.mono HB5.out.size))
        clear hb6
        go_wp2_with (fail)
        refine (spec_TagHash _ 3 (by unfold I64; omega) [a, b] _ _ _ (row_pairAt _ a b hm1 hm2 _ _ (by first | rfl | simp)) (by simp) n hn).mono ?_
        rintro e7 w7 ⟨rfl, hb7⟩
        have HB7 := Lib.hid (HB6.out.trans ((Below.via hb7).mono HB6.out.size))
        clear hb7
        go_wp2
        go_ret
        exact ⟨ret_str (by rw [HRES.out]), HBr.out.trans (HB7.out.mono HBr.out.size)⟩
theorem spec_l10Node (n : Int) (hn : I64 n) : ∀ d, d ≤ 8 → NodeS n d
  | 0, h => nodeS_step n hn 0 h (fun d' e => by omega)
  | d + 1, h => nodeS_step n hn (d + 1) h (fun d' e => by
      obtain rfl : d = d' := by omega
      exact spec_l10Node n hn d (by omega))
end Go.Proofs.YtojbehmbeoemgaaDoor

set_option linter.unusedVariables false
set_option linter.unusedSimpArgs false
namespace Go.Proofs.YtojbehmbeoemgaaDoor
open Go.RowKit Lay Mk
def PlRes (R : Proof × Bool) (w : World) (e : Ending) (w' : World) : Prop := ∃ c, e = .returned (.tuple #[.agg c.toArray, .bool R.2]) ∧ rd true w' c R.1 (rng w.heap.size w'.heap.size) ∧ Below w.heap.size w w'
theorem PlRes.mk {R : Proof × Bool} {B : List Leaf} {L : List ByteArray} {b : Bool} {w w' : World} {A A' : Option Addr} {c c' n n' : Nat} {S S' : Blks} (hR : R = (⟨B, L⟩, b)) (hn : n = B.length) (hn' : n' = L.length) (l1 : B.length ≤ c) (m1 : c ≤ maxLen) (r1 : Row true w' A c B S) (l2 : L.length ≤ c') (m2 : c' ≤ maxLen) (r2 : Row true w' A' c' L S') (hd : disj S S') (s1 : sub S (rng w.heap.size w'.heap.size)) (s2 : sub S' (rng w.heap.size w'.heap.size)) (hb : Below w.heap.size w w') :
    PlRes R w (.returned (.tuple #[.agg #[.slice A n c, .slice A' n' c'], .bool b])) w' := by
  subst hR; subst hn; subst hn'
  exact ⟨[.slice A B.length c, .slice A' L.length c'], rfl, Proof.mk' (x := ⟨B, L⟩) (S0 := S) (S1 := S') l1 m1 r1 s1 l2 m2 r2 s2 (fun _ => pwmk2 hd), hb⟩
theorem PlRes.nil {R : Proof × Bool} {w w' : World} (hR : R = (⟨[], []⟩, false)) (hb : Below w.heap.size w w') : PlRes R w (.returned (.tuple #[.agg #[.slice none 0 0, .slice none 0 0], .bool false])) w' :=
  PlRes.mk (S := none_) (S' := none_) hR rfl rfl (Nat.le_refl _) (by decide) (row_nil _ _) (Nat.le_refl _) (by decide) (row_nil _ _) (disj_none_ _) (fun _ h => h.elim) (fun _ h => h.elim) hb
end Go.Proofs.YtojbehmbeoemgaaDoor
