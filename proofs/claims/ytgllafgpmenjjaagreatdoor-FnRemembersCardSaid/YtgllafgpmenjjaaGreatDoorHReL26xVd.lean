/- A part of the proof: what the laws need of it. -/
import Derived.Test.YtgllafgpmenjjaaGreatDoorHReL23xSkS
import Derived.Test.YtgllafgpmenjjaaGreatDoorHReL25xYg
import Derived.Test.YtgllafgpmenjjaaGreatDoorHReL11xDp
set_option linter.unusedVariables false
set_option linter.unusedSimpArgs false
set_option linter.unusedVariables false
set_option linter.unusedSimpArgs false
namespace Go.Proofs.YtgllafgpmenjjaaGreatDoor
open Go.RowKit Lay Mk
def stampP (t : Trust) (house : Int) (h : Head) (s : Stamp) : Bool := inB s.by_ 0 ((t.roots.length : Int) - 1) && (!decide (s.by_ = house) && stampOk (t.roots.getD s.by_.toNat ⟨#[]⟩) h s.sig)
def rootUp (t : Trust) (name : ByteArray) (x : Whole) : ByteArray := foldUp 16 (proofHash name x.proof 16) (indexOf name) t.k x.tops
def verify (t : Trust) (house : Int) (name : ByteArray) (epoch : Int) (x : Whole) : ByteArray × Bool × Int :=
  if wholeForm t house name x = false then (⟨#[]⟩, false, 1)
  else if x.seal_.head.house ≠ house ∨ x.seal_.head.epoch ≠ epoch then (⟨#[]⟩, false, 2)
  else if sealOk (t.roots.getD house.toNat ⟨#[]⟩) x.seal_ = false then (⟨#[]⟩, false, 3)
  else if rootUp t name x ≠ x.seal_.head.root then (⟨#[]⟩, false, 4)
  else if ((x.stamps.countP (stampP t house x.seal_.head) : Nat) : Int) < t.need then (⟨#[]⟩, false, 5)
  else ((leafGet x.proof.bucket name).1, (leafGet x.proof.bucket name).2, 0)
theorem count_snoc {α : Type} {p : α → Bool} {l : List α} {k : Nat} (h : k < l.length) : (l.take (k + 1)).countP p = (l.take k).countP p + (if p l[k] = true then 1 else 0) := by
  rw [List.take_succ_eq_append_getElem h, List.countP_append, List.countP_singleton]
theorem form_facts {t : Trust} {house : Int} {name : ByteArray} {x : Whole} (h : wholeForm t house name x = true) : (∃ k : Nat, house = k ∧ k < t.roots.length) ∧ (0 ≤ t.k ∧ t.k ≤ 2) ∧ (0 ≤ t.need ∧ t.need ≤ 2) ∧ (1 ≤ t.roots.length ∧ t.roots.length ≤ 3) := by
  unfold wholeForm trustOk at h
  simp only [Bool.and_eq_true] at h
  obtain ⟨⟨h1, _, h3, h4⟩, h5, _⟩ := h
  have a1 : 1 ≤ (t.roots.length : Int) ∧ (t.roots.length : Int) ≤ 3 := by simpa [inB] using h1
  have a2 : 0 ≤ t.k ∧ t.k ≤ 2 := by simpa [inB] using h3
  have a3 : 0 ≤ t.need ∧ t.need ≤ 2 := by simpa [inB] using h4
  have a4 : 0 ≤ house ∧ house ≤ (t.roots.length : Int) - 1 := by simpa [inB] using h5
  exact ⟨⟨house.toNat, by omega, by omega⟩, a2, a3, by omega⟩
theorem getD_ltv {l : List ByteArray} {k : Nat} (h : k < l.length) : l.getD k ⟨#[]⟩ = l[k] := by
  rw [List.getD_eq_getElem?_getD, List.getElem?_eq_getElem h, Option.getD_some]
theorem ver_1 {t : Trust} {house : Int} {name : ByteArray} {epoch : Int} {x : Whole} (h : wholeForm t house name x = false) : verify t house name epoch x = (⟨#[]⟩, false, 1) := by unfold verify; rw [if_pos h]
theorem ver_2 {t : Trust} {house : Int} {name : ByteArray} {epoch : Int} {x : Whole} (h : wholeForm t house name x = true) (h2 : x.seal_.head.house ≠ house ∨ x.seal_.head.epoch ≠ epoch) : verify t house name epoch x = (⟨#[]⟩, false, 2) := by unfold verify; rw [if_neg (by simp [h]), if_pos h2]
theorem ver_3 {t : Trust} {house : Int} {name : ByteArray} {epoch : Int} {x : Whole} (h : wholeForm t house name x = true) (h2 : x.seal_.head.house = house) (h3 : x.seal_.head.epoch = epoch) (h4 : sealOk (t.roots.getD house.toNat ⟨#[]⟩) x.seal_ = false) : verify t house name epoch x = (⟨#[]⟩, false, 3) := by unfold verify; rw [if_neg (by simp [h]), if_neg (by simp [h2, h3]), if_pos h4]
theorem ver_4 {t : Trust} {house : Int} {name : ByteArray} {epoch : Int} {x : Whole} (h : wholeForm t house name x = true) (h2 : x.seal_.head.house = house) (h3 : x.seal_.head.epoch = epoch) (h4 : sealOk (t.roots.getD house.toNat ⟨#[]⟩) x.seal_ = true) (h5 : rootUp t name x ≠ x.seal_.head.root) : verify t house name epoch x = (⟨#[]⟩, false, 4) := by unfold verify; rw [if_neg (by simp [h]), if_neg (by simp [h2, h3]), if_neg (by rw [h4]; simp), if_pos h5]
theorem ver_5 {t : Trust} {house : Int} {name : ByteArray} {epoch : Int} {x : Whole} (h : wholeForm t house name x = true) (h2 : x.seal_.head.house = house) (h3 : x.seal_.head.epoch = epoch) (h4 : sealOk (t.roots.getD house.toNat ⟨#[]⟩) x.seal_ = true) (h5 : rootUp t name x = x.seal_.head.root) (h6 : ((x.stamps.countP (stampP t house x.seal_.head) : Nat) : Int) < t.need) : verify t house name epoch x = (⟨#[]⟩, false, 5) := by unfold verify; rw [if_neg (by simp [h]), if_neg (by simp [h2, h3]), if_neg (by rw [h4]; simp), if_neg (by simp [h5]), if_pos h6]
theorem ver_0 {t : Trust} {house : Int} {name : ByteArray} {epoch : Int} {x : Whole} (h : wholeForm t house name x = true) (h2 : x.seal_.head.house = house) (h3 : x.seal_.head.epoch = epoch) (h4 : sealOk (t.roots.getD house.toNat ⟨#[]⟩) x.seal_ = true) (h5 : rootUp t name x = x.seal_.head.root) (h6 : ¬ ((x.stamps.countP (stampP t house x.seal_.head) : Nat) : Int) < t.need) : verify t house name epoch x = ((leafGet x.proof.bucket name).1, (leafGet x.proof.bucket name).2, 0) := by unfold verify; rw [if_neg (by simp [h]), if_neg (by simp [h2, h3]), if_neg (by rw [h4]; simp), if_neg (by simp [h5]), if_neg h6]
theorem stampP_at {t : Trust} {house : Int} {h : Head} {s : Stamp} {k : Nat} (hb : s.by_ = k) (hk : k < t.roots.length) : stampP t house h s = (!decide (s.by_ = house) && stampOk t.roots[k] h s.sig) := by
  unfold stampP
  have : inB s.by_ 0 ((t.roots.length : Int) - 1) = true := by rw [hb]; unfold inB; simp; omega
  rw [this, hb, Int.toNat_natCast, getD_ltv hk]
  rfl
theorem stampP_no {t : Trust} {house : Int} {h : Head} {s : Stamp} (hb : inB s.by_ 0 ((t.roots.length : Int) - 1) = false) : stampP t house h s = false := by unfold stampP; rw [hb]; rfl
end Go.Proofs.YtgllafgpmenjjaaGreatDoor

set_option linter.unusedVariables false
set_option linter.unusedSimpArgs false
namespace Go.Proofs.YtgllafgpmenjjaaGreatDoor
open Go.RowKit Lay Mk
def NodeS (n : Int) (d : Nat) : Prop := ∀ (w : World) (p : Nat) (_ : p < 2 ^ (8 - d)) (ls : List Leaf) (_ : leavesOk ls = true) (A : Option Addr) (cap : Nat) (S : Blks) (_ : Row false w A cap (spotsOf ls) S) (bE : Nat) (_ : bE < w.heap.size) (_ : ∀ j, j ≤ 8 → w.cell? ⟨bE, j, none⟩ = some (.string (emptyD n (8 - j)))), Calls Tryz.prog 163 #[.slice A ls.length cap, .int .i64 (8 - (d : Int)), .int .i64 (p : Int), .int .i64 n, .slice (some ⟨bE, 0, none⟩) 9 9] w fun e w' => e = .returned (.string (nodeD n d p ls)) ∧ Below w.heap.size w w'
theorem spotsOf_at {ls : List Leaf} {k : Nat} (h : k < ls.length) : (spotsOf ls)[k]'(by rw [spotsOf_len]; exact h) = spotOf ls[k] := by unfold spotsOf; simp
set_option maxRecDepth 20000 in set_option maxHeartbeats 16000000 in
theorem nodeS_step (n : Int) (hn : I64 n) (d : Nat) (hd : d ≤ 8) (hrec : ∀ d', d = d' + 1 → NodeS n d') : NodeS n d := by
  intro w p hp ls hok A cap S hx bE hbE hE
  have HRC := Lib.hid hrec
  have hl := leavesOk_len hok
  have HOK := Lib.hid hok
  have HEE := Lib.hid hE
  clear hrec hok hE
  have hp8 : p < 256 := Nat.lt_of_lt_of_le hp (Nat.pow_le_pow_right (by omega) (show 8 - d ≤ 8 by omega))
  have hw1 : IntKind.i64.wrap (8 - (8 - (d : Int))) = (d : Int) := by rw [IntWalk.i64_in] <;> omega
  have hw2 : IntKind.u64.wrap (d : Int) = (d : Int) := by
    rcases (show d = 0 ∨ d = 1 ∨ d = 2 ∨ d = 3 ∨ d = 4 ∨ d = 5 ∨ d = 6 ∨ d = 7 ∨ d = 8 by omega) with rfl | rfl | rfl | rfl | rfl | rfl | rfl | rfl | rfl <;> rfl
  go_enter Tryz.func163, Tryz.ntmps163
  go_wp2
  have HO := Lib.hid (Own.litAt (α := Spot) (Below.refl w.heap.size w) 228 rfl (b := w.heap.size) rfl)
  have HOL : Hid ((spotsOf ls).length = ls.length) := Lib.hid (spotsOf_len ls)
  go_loopw [11, 12] (fun u i wr => ∃ (k : Nat) (L : List Leaf) (A2 : Option Addr) (c : Nat), k ≤ ls.length ∧ i = .int .i64 k ∧ u = .slice A2 L.length c ∧ Hid (L = belowL d p (ls.take k)) ∧ L.length ≤ k ∧ Own w wr A2 c (spotsOf L)) (fun _ i _ => ls.length - (intOf i).toNat)
  case atStart => exact ⟨0, [], some ⟨w.heap.size, 0, none⟩, 0, Nat.zero_le _, rfl, rfl, Lib.hid rfl, by simp, HO.out⟩
  case round =>
    clear HO
    obtain ⟨k, L, A2, c, hk, rfl, rfl, HL, hLk, hown⟩ := hrel
    have hb := hown.bl
    have HOW := Lib.hid hown
    by_cases hlt : k < ls.length
    · obtain ⟨b1, o1, rfl, hl1, e0, e1, e2, s0, s1, s2⟩ := Row.atSpot hx (i := k) (by rw [spotsOf_len]; exact hlt)
      rw [spotsOf_at hlt] at e0 e1 e2 s0 s1 s2
      replace e0 := (hb.cell (p := ⟨b1, o1 + k * 3, none⟩) hl1).trans e0
      replace e1 := (hb.cell (p := ⟨b1, o1 + k * 3 + 1, none⟩) hl1).trans e1
      replace e2 := (hb.cell (p := ⟨b1, o1 + k * 3 + 2, none⟩) hl1).trans e2
      have hlb1 : b1 < wr.heap.size := Nat.lt_of_lt_of_le hl1 hb.size
      have HN := Lib.hid (below_snoc (d := d) (p := p) hlt)
      obtain ⟨x, hx'⟩ : ∃ x, ls[k] = x := ⟨_, rfl⟩
      rw [hx'] at e0 e1 e2 s0 s1 s2 HN
      clear hx'
      have HSX : Hid (spotOf x = ⟨x, (indexOf x.name : Int)⟩) := Lib.hid rfl
      rw [HSX.out] at e0 e1 e2 s0 s1 s2
      have hokx : Flat.ok (spotOf x) := (show x.name.size ≤ maxLen ∧ x.value.size ≤ maxLen ∧ I64 ((indexOf x.name : Nat) : Int) from ⟨s0, s1, s2⟩)
      have HSS : Hid (spotsOf (L ++ [x]) = spotsOf L ++ [⟨x, (indexOf x.name : Int)⟩]) := Lib.hid (by unfold spotsOf; rw [List.map_append]; rfl)
      have HLL : Hid (L.length = (spotsOf L).length) := Lib.hid (spotsOf_len L).symm
      rw [HSX.out] at hokx
      obtain ⟨ix, hix⟩ : ∃ ix, indexOf x.name = ix := ⟨_, rfl⟩
      have hixl : ix < 256 := by rw [← hix]; exact indexOf_lt _
      rw [hix] at HN e2 hokx HSS
      simp only at e0 e1 e2
      clear hix hown hb HSX s0 s1 s2
      have hpc : ((ix / 2 ^ d : Nat) : Int) = (ix : Int) / 2 ^ d := by rw [Int.natCast_ediv, Int.natCast_pow]; rfl
      by_cases hc : ix / 2 ^ d = p
      · have hq : ((ix : Int) / 2 ^ d == (p : Int)) = true := by rw [← hpc, beq_iff_eq, hc]
        have HN2 : Hid (belowL d p (ls.take (k + 1)) = L ++ [x]) := Lib.hid (by rw [HN.out, if_pos hc, HL.out])
        clear hc hpc HN
        go_wp2_with (at_builtin; refine wpList_push (α := Spot) rfl _ _ rfl rfl HLL.out (HOW.out.alloc _) rfl rfl (src1 hokx (by first | rfl | simp) rfl) (by omega) ?_; intro A6 c6 w6 o6 z6)
        go_roundw
        case rel => exact ⟨k + 1, L ++ [x], A6, c6, hlt, by go_num, by simp, Lib.hid HN2.out.symm, by simp; omega, by rw [HSS.out]; exact o6⟩
        case measure => simp [intOf]; omega
      · have hq : ((ix : Int) / 2 ^ d == (p : Int)) = false := by rw [← hpc, beq_eq_false_iff_ne]; omega
        have HN2 : Hid (belowL d p (ls.take (k + 1)) = L) := Lib.hid (by rw [HN.out, if_neg hc, HL.out, List.append_nil])
        clear hc hpc HN
        go_wp2
        go_roundw
        case rel => exact ⟨k + 1, L, A2, c, hlt, by go_num, rfl, Lib.hid HN2.out.symm, by omega, HOW.out⟩
        case measure => simp [intOf]; omega
    · have hke : k = ls.length := by omega
      subst hke
      have HL2 : Hid (L = belowL d p ls) := Lib.hid (by rw [HL.out, List.take_of_length_le (Nat.le_refl _)])
      have HER := Lib.hid (fun (j : Nat) (hj : j ≤ 8) => (hb.cell (p := ⟨bE, j, none⟩) hbE).trans (HEE.out j hj))
      have HBr := Lib.hid hb
      have hbEr : bE < wr.heap.size := Nat.lt_of_lt_of_le hbE hb.size
      have hLk24 : L.length ≤ 24 := by omega
      clear HL hLk hown hb hlt hw2 hw1
      by_cases h0 : L.length = 0
      · have HRES : Hid (nodeD n d p ls = emptyD n d) := Lib.hid (node_none n (by rw [← HL2.out]; exact h0))
        have hq0 : ((L.length : Int) == 0) = true := by rw [beq_iff_eq]; omega
        obtain ⟨m, hm⟩ : ∃ m : Nat, m + d = 8 := ⟨8 - d, by omega⟩
        have hmd : (8 : Int) - (d : Int) = (m : Int) := by omega
        have x0 : wr.cell? ⟨bE, m, none⟩ = some (.string (emptyD n d)) := by have h9 := HER.out m (by omega); rwa [show 8 - m = d by omega] at h9
        have hm9 : (m : Int) < 9 := by omega
        have hm0 : (0 : Int) ≤ (m : Int) := by omega
        simp only [hmd]
        clear hmd hm h0
        go_wp2
        go_ret
        exact ⟨ret_str (by rw [HRES.out]), HBr.out⟩
      have hq0 : ((L.length : Int) == 0) = false := by rw [beq_eq_false_iff_ne]; omega
      have HOKL : Hid (leavesOk L = true) := Lib.hid (by rw [HL2.out]; exact leavesOk_below HOK.out _ _)
      have HH0 := Lib.hid h0
      clear h0
      cases d with
      | zero =>
        have h8 : ((8 : Int) - ((0 : Nat) : Int) == 8) = true := by simp
        have HRES : Hid (nodeD n 0 p ls = bucketHash L n) := Lib.hid (by rw [HL2.out]; rfl)
        have HLS := Lib.hid (spotsOf_len L)
        have HLT : Hid (L.take L.length = L) := Lib.hid (List.take_length)
        obtain ⟨V, hV⟩ : ∃ V, wr = V := ⟨_, rfl⟩
        simp only [hV] at *
        clear hV
        simp only [show (8 : Int) - ((0 : Nat) : Int) = 8 from rfl]
        go_wp2
        have HO4 := Lib.hid (Own.litAt (α := Leaf) (Below.refl V.heap.size V) 180 rfl (b := V.heap.size) rfl)
        go_loopw [13, 14] (fun u i wr => ∃ (k : Nat) (A4 : Option Addr) (c4 : Nat), k ≤ L.length ∧ i = .int .i64 k ∧ u = .slice A4 k c4 ∧ Own V wr A4 c4 (L.take k)) (fun _ i _ => L.length - (intOf i).toNat)
        case atStart => exact ⟨0, some ⟨V.heap.size, 0, none⟩, 0, Nat.zero_le _, rfl, rfl, HO4.out⟩
        case round =>
          clear HO4
          obtain ⟨k, A4, c4, hk4, rfl, rfl, hown4⟩ := hrel
          have hb4 := hown4.bl
          have HOW4 := Lib.hid hown4
          by_cases hlt : k < L.length
          · obtain ⟨b1, o1, rfl, hl1, e0, e1, e2, s0, s1, s2⟩ := Row.atSpot HOW.out.weak (i := k) (by rw [spotsOf_len]; exact hlt)
            rw [spotsOf_at hlt] at e0 e1 e2 s0 s1 s2
            replace e0 := (hb4.cell (p := ⟨b1, o1 + k * 3, none⟩) hl1).trans e0
            replace e1 := (hb4.cell (p := ⟨b1, o1 + k * 3 + 1, none⟩) hl1).trans e1
            have hlb1 : b1 < wr.heap.size := Nat.lt_of_lt_of_le hl1 hb4.size
            have HN : Hid (L.take (k + 1) = L.take k ++ [L[k]]) := Lib.hid (List.take_succ_eq_append_getElem hlt)
            have HKL : Hid (k = (L.take k).length) := Lib.hid (by rw [List.length_take]; omega)
            obtain ⟨x, hx'⟩ : ∃ x, L[k] = x := ⟨_, rfl⟩
            rw [hx'] at e0 e1 s0 s1 HN
            have HSX : Hid (spotOf x = ⟨x, (indexOf x.name : Int)⟩) := Lib.hid rfl
            rw [HSX.out] at e0 e1 s0 s1
            simp only at e0 e1
            have hokx : Flat.ok x := (show x.name.size ≤ maxLen ∧ x.value.size ≤ maxLen from ⟨s0, s1⟩)
            clear hx' e2 s2 hown4 hb4 s0 s1
            go_wp2_with (at_builtin; refine wpList_push (α := Leaf) rfl _ _ rfl rfl HKL.out (HOW4.out.alloc _) rfl rfl (src1 hokx (by first | rfl | simp) rfl) (by omega) ?_; intro A6 c6 w6 o6 z6)
            go_roundw
            case rel => exact ⟨k + 1, A6, c6, hlt, by go_num, rfl, by rw [HN.out]; exact o6⟩
            case measure => simp [intOf]; omega
          · have hke : k = L.length := by omega
            subst hke
            have hown5 : Own V wr A4 c4 L := by rw [← HLT.out]; exact hown4
            have HOW5 := Lib.hid hown5
            have HB5 := Lib.hid hown5.bl
            have HBK := Lib.hid (spec_BucketHash wr L A4 c4 _ hown5.weak HOKL.out n hn)
            clear hown4 hb4 hown5
            go_wp2_with (fail)
            refine HBK.out.mono ?_
            rintro e7 w7 ⟨rfl, hb7⟩
            have HB7 := Lib.hid (HB5.out.trans (hb7.mono HB5.out.size))
            clear hb7
            go_wp2
            go_ret
            exact ⟨ret_str (by rw [HRES.out]), HBr.out.trans (HB7.out.mono HBr.out.size)⟩
      | succ d =>
        have h8 : ((8 : Int) - ((d + 1 : Nat) : Int) == 8) = false := by rw [beq_eq_false_iff_ne]; omega
        have hpp : 2 ^ (8 - d) = 2 * 2 ^ (8 - (d + 1)) := by rw [show 8 - d = (8 - (d + 1)) + 1 by omega, Nat.pow_succ]; omega
        have HRES : Hid (nodeD n (d + 1) p ls = tagHash 3 [nodeD n d (2 * p) L, nodeD n d (2 * p + 1) L] n) := Lib.hid (by
          rw [node_below, if_neg (by rw [← HL2.out]; exact HH0.out), ← HL2.out])
        have HN1 := Lib.hid (fun W' (h : Below wr.heap.size wr W') => HRC.out d rfl W' (2 * p) (by omega) L HOKL.out A2 c _ (Row.later HOW.out.weak h) bE (Nat.lt_of_lt_of_le hbEr h.size) (fun j hj => (h.cell (p := ⟨bE, j, none⟩) hbEr).trans (HER.out j hj)))
        have HN2 := Lib.hid (fun W' (h : Below wr.heap.size wr W') => HRC.out d rfl W' (2 * p + 1) (by omega) L HOKL.out A2 c _ (Row.later HOW.out.weak h) bE (Nat.lt_of_lt_of_le hbEr h.size) (fun j hj => (h.cell (p := ⟨bE, j, none⟩) hbEr).trans (HER.out j hj)))
        have ec1 : ((2 * p : Nat) : Int) = 2 * (p : Int) := by omega
        have ec2 : ((2 * p + 1 : Nat) : Int) = 2 * (p : Int) + 1 := by omega
        rw [ec1] at HN1
        rw [ec2] at HN2
        have hm1 := nodeD_max n d (2 * p) L
        have hm2 := nodeD_max n d (2 * p + 1) L
        obtain ⟨a, hae⟩ : ∃ a, nodeD n d (2 * p) L = a := ⟨_, rfl⟩
        obtain ⟨b, hbe⟩ : ∃ b, nodeD n d (2 * p + 1) L = b := ⟨_, rfl⟩
        rw [hae] at HRES HN1 hm1
        rw [hbe] at HRES HN2 hm2
        have hwa : IntKind.i64.wrap (8 - ((d : Int) + 1) + 1) = 8 - (d : Int) := by rw [IntWalk.i64_in] <;> omega
        have hwb : IntKind.i64.wrap (2 * (p : Int)) = 2 * (p : Int) := by rw [IntWalk.i64_in] <;> omega
        have hwc : IntKind.i64.wrap (2 * (p : Int) + 1) = 2 * (p : Int) + 1 := by rw [IntWalk.i64_in] <;> omega
        clear hae hbe hpp ec1 ec2
        go_wp2_with (fail)
        with_reducible refine (HN1.out _ ?_).mono ?_
        · exact Below.refl _ _
        rintro e5 w5 ⟨rfl, hb5⟩
        have HB5 := Lib.hid hb5
        clear hb5
        go_wp2_with (fail)
        with_reducible refine (HN2.out _ ?_).mono ?_
        · exact HB5.out
        rintro e6 w6 ⟨rfl, hb6⟩
        have HB6 := Lib.hid (HB5.out.trans (hb6.mono HB5.out.size))
        clear hb6
        go_wp2_with (fail)
        refine (spec_TagHash _ 3 (by unfold I64; omega) [a, b] _ _ _ (row_pairAt _ a b hm1 hm2 _ _ (by first | rfl | simp)) (by simp) n hn).mono ?_
        rintro e7 w7 ⟨rfl, hb7⟩
        have HB7 := Lib.hid (HB6.out.trans ((Below.via hb7).mono HB6.out.size))
        clear hb7
        go_wp2
        go_ret
        exact ⟨ret_str (by rw [HRES.out]), HBr.out.trans (HB7.out.mono HBr.out.size)⟩
theorem spec_l10Node (n : Int) (hn : I64 n) : ∀ d, d ≤ 8 → NodeS n d
  | 0, h => nodeS_step n hn 0 h (fun d' e => by omega)
  | d + 1, h => nodeS_step n hn (d + 1) h (fun d' e => by
      obtain rfl : d = d' := by omega
      exact spec_l10Node n hn d (by omega))
end Go.Proofs.YtgllafgpmenjjaaGreatDoor

set_option linter.unusedVariables false
set_option linter.unusedSimpArgs false
namespace Go.Proofs.YtgllafgpmenjjaaGreatDoor
open Go.RowKit Lay Mk
structure Duo (B r : Nat) (w : World) (Ak : Option Addr) (ck : Nat) (ks : List ByteArray) (As : Option Addr) (cs : Nat) (ss : List ByteArray) : Prop where
  ex : ∃ K V : Blks, Row false w Ak ck ks K ∧ Row true w As cs ss V ∧ disj K V ∧ (∀ b, V b → B ≤ b) ∧ ¬ K r
  ls : ss.length ≤ cs
  ms : cs ≤ maxLen
section
variable {B r : Nat} {w : World} {Ak : Option Addr} {ck : Nat} {ks : List ByteArray} {As : Option Addr} {cs : Nat} {ss : List ByteArray}
theorem Duo.start {K : Blks} (hk : Row false w Ak ck ks K) (hr : ¬ K r) : Duo B r w Ak ck ks none 0 [] := ⟨⟨K, none_, hk, row_nil _ _, fun _ _ h => h.elim, fun _ h => h.elim, hr⟩, Nat.le_refl _, by decide⟩
theorem Duo.later {w' : World} (h : Duo B r w Ak ck ks As cs ss) (hb : Below w.heap.size w w') : Duo B r w' Ak ck ks As cs ss := by
  obtain ⟨K, V, h1, h2, h3⟩ := h.ex
  exact ⟨⟨K, V, Row.later h1 hb, Row.later h2 hb, h3⟩, h.ls, h.ms⟩
theorem Duo.alloc (h : Duo B r w Ak ck ks As cs ss) (o : Obj) : Duo B r (w.alloc o) Ak ck ks As cs ss := h.later ((Below.refl _ _).alloc (Nat.le_refl _) _)
theorem Duo.drew (h : Duo B r w Ak ck ks As cs ss) : Duo B r w.drew Ak ck ks As cs ss := h.later ((Below.refl _ _).drew)
theorem Duo.setC (h : Duo B r w Ak ck ks As cs ss) (hr : r < B) (o : Nat) (u : Value) : Duo B r (w.setCell ⟨r, o, none⟩ u) Ak ck ks As cs ss := by
  obtain ⟨K, V, h1, h2, d, b, hk⟩ := h.ex
  exact ⟨⟨K, V, h1.setC hk _, h2.setC (fun x => by have := b _ x; simp only at this; omega) _, d, b, hk⟩, h.ls, h.ms⟩
theorem Duo.known (h : Duo B r w Ak ck ks As cs ss) : ∃ K, Row false w Ak ck ks K := by
  obtain ⟨K, V, h1, _⟩ := h.ex
  exact ⟨K, h1⟩
theorem Duo.sides (h : Duo B r w Ak ck ks As cs ss) : Row true w As cs ss (nw B) := by
  obtain ⟨K, V, h1, h2, d, b, hk⟩ := h.ex
  exact h2.mono b
theorem Duo.fresh {w' : World} {A : Option Addr} {c : Nat} {qs : List ByteArray} (h : Duo B r w Ak ck ks As cs ss) (hr : r < B) (hB : B ≤ w.heap.size) (o : Own w w' A c qs) : Duo B r w' A c qs As cs ss := by
  obtain ⟨K, V, h1, h2, d, b, hk⟩ := h.ex
  exact ⟨⟨nw w.heap.size, _, o.weak, Row.later h2.tight o.bl, fun b x y => by have h1 : w.heap.size ≤ b := x; have := y.2; omega, fun q x => b q x.1, fun x => by have h1 : w.heap.size ≤ r := x; omega⟩, h.ls, h.ms⟩
theorem step_duo {ops : Array Oper} {o : Oper} {a : Act} {K0 : Act → World → Prop} {Q : Exit → Act → World → Prop} {E : Prop} (hgd : o.guard = none) (s x : Operand)
    (ho : o.op = .call { callee := .builtin .append, args := #[s, x], argTypes := #[SlTy.st ByteArray, SlTy.st ByteArray] })
    {A2 : Option Addr} {c2 k : Nat} {y : ByteArray} (hs : a.eval s = .slice As k cs) (hk : k = ss.length) (duo : Duo B r w Ak ck ks As cs ss) (hBw : B ≤ w.heap.size)
    (hx : a.eval x = .slice A2 1 c2) (hsrc : Src w A2 [y] none_) (hlim : k ≤ 2000000000)
    (h : ∀ A' c' w', Duo B r w' Ak ck ks A' c' (ss ++ [y]) → Below B w w' → K0 (a.put o.dst (.slice A' (k + 1) c')) w') :
    if Region.wanted o (yielded ops a.tmps) = true then Oper.wp Tryz.prog o a w K0 Q else E := by
  subst hk
  obtain ⟨K, V, h1, h2, d, b, hkr⟩ := duo.ex
  refine step_app (α := ByteArray) hgd s x ho hs rfl h2 duo.ls duo.ms hx rfl hsrc (disj_none_ _) (by omega) ?_
  intro A' c' w' q1 q2 q3 q4
  refine h A' c' w' ⟨⟨_, _, Row.chgS q4 h1.tight (fun b x _ y => d b x.1 y), q3, ?_, ?_, fun x => hkr x.1⟩, by rw [List.length_append]; exact q1, q2⟩ (q4.to_below hBw b)
  · rintro q x (y | y | y)
    · exact d q x.1 y
    · exact y.elim
    · have := y.1; have := x.2; omega
  · rintro q (y | y | y)
    · exact b q y
    · exact y.elim
    · exact Nat.le_trans hBw y.1
end
theorem Two.setC {B r : Nat} {w : World} {A A' : Option Addr} {c c' : Nat} {L M : List ByteArray} (h : Two B w A c L A' c' M) (hr : r < B) (o : Nat) (u : Value) : Two B (w.setCell ⟨r, o, none⟩ u) A c L A' c' M := by
  obtain ⟨U, V, h1, h2, h3, h4, h5⟩ := h.ex
  exact ⟨⟨U, V, h1.setC (fun x => by have := h4 _ x; simp only at this; omega) _, h2.setC (fun x => by have := h5 _ x; simp only at this; omega) _, h3, h4, h5⟩, h.l1, h.m1, h.l2, h.m2⟩
theorem step_two {w : World} {B : Nat} {ops : Array Oper} {o : Oper} {a : Act} {K0 : Act → World → Prop} {Q : Exit → Act → World → Prop} {E : Prop} (hgd : o.guard = none) (s x : Operand)
    (ho : o.op = .call { callee := .builtin .append, args := #[s, x], argTypes := #[SlTy.st ByteArray, SlTy.st ByteArray] })
    {A A' A2 : Option Addr} {c c' c2 k : Nat} {L M : List ByteArray} {y : ByteArray} (hs : a.eval s = .slice A k c) (hk : k = L.length) (two : Two B w A c L A' c' M) (hBw : B ≤ w.heap.size)
    (hx : a.eval x = .slice A2 1 c2) (hsrc : Src w A2 [y] none_) (hlim : k ≤ 2000000000)
    (h : ∀ A3 c3 w', Two B w' A3 c3 (L ++ [y]) A' c' M → Below B w w' → K0 (a.put o.dst (.slice A3 (k + 1) c3)) w') :
    if Region.wanted o (yielded ops a.tmps) = true then Oper.wp Tryz.prog o a w K0 Q else E := by
  subst hk
  obtain ⟨U, V, h1, h2, h3, h4, h5⟩ := two.ex
  refine step_app (α := ByteArray) hgd s x ho hs rfl h1 two.l1 two.m1 hx rfl hsrc (disj_none_ _) (by omega) ?_
  intro A3 c3 w' q1 q2 q3 q4
  refine h A3 c3 w' ⟨⟨_, _, q3, Row.chgS q4 h2.tight (fun b x _ y => h3 b y x.1), ?_, ?_, fun b x => h5 b x.1⟩, by rw [List.length_append]; exact q1, q2, two.l2, two.m2⟩ (q4.to_below hBw h4)
  · rintro b (x | x | x) y
    · exact h3 b x y.1
    · exact x.elim
    · have := x.1; have := y.2; omega
  · rintro b (x | x | x)
    · exact h4 b x
    · exact x.elim
    · exact Nat.le_trans hBw x.1
def SgRes (R : Sig) (w : World) (e : Ending) (w' : World) : Prop := ∃ c, e = .returned (.tuple #[.agg c.toArray, .bool true]) ∧ rd true w' c R (rng w.heap.size w'.heap.size) ∧ Below w.heap.size w w'
theorem SgRes.mk {R : Sig} {w w' : World} {A0 A1 A2 : Option Addr} {k0 k1 k2 n0 n1 n2 : Nat} {S0 S1 S2 : Blks} {at_ : Int} (h0 : at_ = R.at_) (hi : I64 R.at_) (e0 : n0 = R.open_.length) (e1 : n1 = R.shut.length) (e2 : n2 = R.sides.length)
    (l0 : R.open_.length ≤ k0) (m0 : k0 ≤ maxLen) (r0 : Row true w' A0 k0 R.open_ S0) (l1 : R.shut.length ≤ k1) (m1 : k1 ≤ maxLen) (r1 : Row true w' A1 k1 R.shut S1) (l2 : R.sides.length ≤ k2) (m2 : k2 ≤ maxLen) (r2 : Row true w' A2 k2 R.sides S2) (d1 : disj S0 S1) (d2 : disj S0 S2) (d3 : disj S1 S2)
    (s0 : sub S0 (rng w.heap.size w'.heap.size)) (s1 : sub S1 (rng w.heap.size w'.heap.size)) (s2 : sub S2 (rng w.heap.size w'.heap.size)) (hb : Below w.heap.size w w') :
    SgRes R w (.returned (.tuple #[.agg #[.int .i64 at_, .slice A0 n0 k0, .slice A1 n1 k1, .slice A2 n2 k2], .bool true])) w' := by
  subst h0; subst e0; subst e1; subst e2
  exact ⟨[.int .i64 R.at_, .slice A0 R.open_.length k0, .slice A1 R.shut.length k1, .slice A2 R.sides.length k2], rfl, Sig.mk' hi l0 m0 r0 s0 l1 m1 r1 s1 l2 m2 r2 s2 (fun _ => pwmk3 d1 d2 d3), hb⟩
end Go.Proofs.YtgllafgpmenjjaaGreatDoor
