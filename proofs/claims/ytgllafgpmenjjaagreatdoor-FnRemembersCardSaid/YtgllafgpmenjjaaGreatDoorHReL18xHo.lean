/- A part of the proof: what the laws need of it. -/
import Derived.Test.YtgllafgpmenjjaaGreatDoorHReL17xTg
import Derived.Test.YtgllafgpmenjjaaGreatDoorHReL6xInf
import Derived.Test.YtgllafgpmenjjaaGreatDoorHReL10xDt
import Derived.BigQuiet
import Derived.Deep.RegionHeld3
import Derived.Deep.RegionLaw
import Derived.Test.YtgllafgpmenjjaaGreatDoorHReL9xBy
import Derived.Test.YtgllafgpmenjjaaGreatDoorHReL8xRd
set_option linter.unusedVariables false
set_option linter.unusedSimpArgs false
set_option linter.unusedVariables false
set_option linter.unusedSimpArgs false
namespace Go.Proofs.YtgllafgpmenjjaaGreatDoor
open Go.RowKit Lay Mk
theorem house_in (n : Int) (w : World) : Calls Tryz.prog 74 #[.int .i64 n] w fun e w' => e = .returned (.bool (inB n 0 2)) ∧ w = w' := by
  go_enter Tryz.func74, Tryz.ntmps74
  go_wp2_with (go_at_call 98; refine (impl_in _ _ _ _).mono ?_; rintro e w' ⟨rfl, rfl⟩)
  go_ret
  exact ⟨rfl, rfl⟩
theorem epoch_in (n : Int) (w : World) : Calls Tryz.prog 152 #[.int .i64 n] w fun e w' => e = .returned (.bool (inB n 1 4)) ∧ w = w' := by
  go_enter Tryz.func152, Tryz.ntmps152
  go_wp2_with (go_at_call 98; refine (impl_in _ _ _ _).mono ?_; rintro e w' ⟨rfl, rfl⟩)
  go_ret
  exact ⟨rfl, rfl⟩
theorem row_box {w : World} {b : Nat} (cap : Nat) (l : List ByteArray) (hc : ∀ j (h : j < l.length), w.cell? ⟨b, j, none⟩ = some (.string l[j]) ∧ l[j].size ≤ maxLen) : Row false w (some ⟨b, 0, none⟩) cap l (fun q => q = b) := by
  intro _
  refine ⟨b, 0, rfl, rfl, fun _ => none_, fun _ _ x => x.elim, fun h => by simp at h, fun i hi => ⟨[.string l[i]], fun j u hu => ?_, ⟨rfl, (hc i hi).2⟩⟩⟩
  have hj := (List.getElem?_eq_some_iff.1 hu).1
  have hj : j = 0 := by simpa using hj
  subst hj
  rw [← hu, show 0 + i * n ByteArray + 0 = i by rw [show n ByteArray = 1 from rfl]; omega]
  exact (hc i hi).1
def headOk (x : Head) : Bool := inB x.house 0 2 && inB x.epoch 1 4 && decide (x.root.size = 16) && (if x.epoch = 1 then decide (x.prev = ⟨#[]⟩) else decide (x.prev.size = 16))
def headTx (x : Head) : ByteArray := bs [UInt8.ofNat x.house.toNat, UInt8.ofNat x.epoch.toNat] ++ x.root ++ x.prev
def headText (x : Head) : ByteArray := if headOk x then headTx x else ⟨#[]⟩
def headHash (x : Head) : ByteArray := if headOk x then tagHash 4 [headTx x] 16 else ⟨#[]⟩
theorem headHash_le (x : Head) : (headHash x).size ≤ 32 := by
  unfold headHash; split
  · exact tagHash_le _ _ _
  · exact Nat.zero_le _
theorem headOk_b {x : Head} (h : headOk x = true) : (0 ≤ x.house ∧ x.house ≤ 2) ∧ (1 ≤ x.epoch ∧ x.epoch ≤ 4) ∧ x.root.size = 16 ∧ x.prev.size ≤ 16 := by
  simp only [headOk, inB, Bool.and_eq_true, decide_eq_true_eq] at h
  obtain ⟨⟨⟨h1, h2⟩, h3⟩, h4⟩ := h
  refine ⟨h1, h2, h3, ?_⟩
  split at h4
  · have h4 : x.prev = ⟨#[]⟩ := by simpa using h4
    rw [h4]; decide
  · have h4 : x.prev.size = 16 := by simpa using h4
    omega
theorem headTx_le {x : Head} (h : headOk x = true) : (headTx x).size ≤ 34 := by
  obtain ⟨_, _, h3, h4⟩ := headOk_b h
  unfold headTx
  rw [ByteArray.size_append, ByteArray.size_append, bs_size]
  simp; omega
theorem empty_eq (p : ByteArray) : (p.toList == ([] : List UInt8)) = decide (p = ⟨#[]⟩) := by
  have h : (⟨#[]⟩ : ByteArray).toList = [] := by rw [ByteArray.toList_eq]
  have h2 := str_dec p ⟨#[]⟩
  rw [h] at h2; exact h2
theorem cast16 (n : Nat) : ((n : Int) = 16) = (n = 16) := by apply propext; omega
theorem cast16b (n : Nat) : ((n : Int) == 16) = decide (n = 16) := by
  rw [Bool.eq_iff_iff, beq_iff_eq, decide_eq_true_iff]; omega
set_option maxRecDepth 20000 in set_option maxHeartbeats 4000000 in
theorem impl_HeadOk (x : Head) (w : World) : Calls Tryz.prog 101 #[.agg (Head.cs x).toArray] w fun e w' => e = .returned (.bool (headOk x)) ∧ Below w.heap.size w w' := by
  obtain ⟨hs, ep, r, p⟩ := x
  simp only [Head.cs]
  have HE := Lib.hid (empty_eq p)
  go_enter Tryz.func101, Tryz.ntmps101
  go_wp2_with (first | (go_at_call 74; refine (house_in _ _).mono ?_; rintro e w2 ⟨rfl, rfl⟩) | (go_at_call 152; refine (epoch_in _ _).mono ?_; rintro e w2 ⟨rfl, rfl⟩))
  all_goals (go_ret; refine ⟨ret_bool ?_, (Below.refl _ _).alloc (Nat.le_refl _) _⟩; have HE1 := HE.out; simp_all [headOk, cast16, cast16b])
set_option maxRecDepth 20000 in set_option maxHeartbeats 4000000 in
theorem spec_HeadOk (x : Head) (w : World) : Calls Tryz.prog 132 #[.agg (Head.cs x).toArray] w fun e w' => e = .returned (.bool (headOk x)) ∧ Below w.heap.size w w' := by
  obtain ⟨hs, ep, r, p⟩ := x
  simp only [Head.cs]
  have HE := Lib.hid (empty_eq p)
  go_enter Tryz.func132, Tryz.ntmps132
  go_wp2_with (go_at_call 87; refine (spec_in _ _ _ _).mono ?_; rintro e w2 ⟨rfl, rfl⟩)
  all_goals (go_ret; refine ⟨ret_bool ?_, (Below.refl _ _).alloc (Nat.le_refl _) _⟩; have HE1 := HE.out; simp_all [headOk, cast16, cast16b])
set_option maxRecDepth 20000 in set_option maxHeartbeats 4000000 in
theorem impl_HeadText (x : Head) (w : World) : Calls Tryz.prog 122 #[.agg (Head.cs x).toArray] w fun e w' => e = .returned (.tuple #[.string (headText x), .bool (headOk x)]) ∧ Below w.heap.size w w' := by
  have hOk : ∀ W, Calls Tryz.prog 101 #[.agg (Head.cs x).toArray] W _ := fun W => impl_HeadOk x W
  cases hok : headOk x
  · have HT : Hid (headText x = ⟨#[]⟩) := Lib.hid (by unfold headText; rw [hok]; rfl)
    rw [hok] at hOk
    obtain ⟨hs, ep, r, p⟩ := x
    simp only [Head.cs] at *
    go_enter Tryz.func122, Tryz.ntmps122
    go_wp2_with (fail)
    refine (hOk _).mono ?_
    rintro e0 w1 ⟨rfl, hb⟩
    go_wp2
    go_ret2
    exact ⟨by rw [HT.out]; rfl, ((Below.refl _ _).alloc (Nat.le_refl _) _).trans (hb.mono (by simp))⟩
  · have HT : Hid (headText x = headTx x) := Lib.hid (by unfold headText; rw [hok]; rfl)
    obtain ⟨⟨a1, a2⟩, ⟨b1, b2⟩, c1, d1⟩ := headOk_b hok
    rw [hok] at hOk
    obtain ⟨hs, ep, r, p⟩ := x
    simp only [Head.cs, headTx] at *
    obtain ⟨hs, rfl⟩ : ∃ n : Nat, hs = n := ⟨hs.toNat, by omega⟩
    obtain ⟨ep, rfl⟩ : ∃ n : Nat, ep = n := ⟨ep.toNat, by omega⟩
    simp only [Int.toNat_natCast] at HT
    have wh : IntKind.u8.wrap (hs : Int) = hs := by rw [IntKind.wrap_u8']; omega
    have we : IntKind.u8.wrap (ep : Int) = ep := by rw [IntKind.wrap_u8']; omega
    have v1 : ¬ 9223372036854775807 < (bs [UInt8.ofNat hs, UInt8.ofNat ep]).size + r.size := by rw [bs_size]; simp; omega
    have v2 : ¬ 9223372036854775807 < (bs [UInt8.ofNat hs, UInt8.ofNat ep]).size + r.size + p.size := by rw [bs_size]; simp; omega
    have HC : Hid (([.int .u8 (hs : Int), .int .u8 (ep : Int)] : List Value) = [UInt8.ofNat hs, UInt8.ofNat ep].map u8c) := Lib.hid (by
      have e1 : hs % 256 = hs := by omega
      have e2 : ep % 256 = ep := by omega
      simp [u8c, e1, e2]; try omega)
    have hR : ∀ W : World, BR (W.alloc (.cells #[.int .u8 (hs : Int), .int .u8 (ep : Int)] 5)) (some ⟨W.heap.size, 0, none⟩) 2 [UInt8.ofNat hs, UInt8.ofNat ep] (fun b => W.heap.size ≤ b) := fun W => br_lit W _ _ [UInt8.ofNat hs, UInt8.ofNat ep] (by rw [← HC.out])
    go_enter Tryz.func122, Tryz.ntmps122
    go_wp2_with (fail)
    refine (hOk _).mono ?_
    rintro e0 w1 ⟨rfl, hb⟩
    have q0 := (hb.cell (p := ⟨w.heap.size, 0, none⟩) (by simp)).trans (box_cell w #[.int .i64 hs, .int .i64 ep, .string r, .string p] _ 0 _ rfl)
    have q1 := (hb.cell (p := ⟨w.heap.size, 1, none⟩) (by simp)).trans (box_cell w #[.int .i64 hs, .int .i64 ep, .string r, .string p] _ 1 _ rfl)
    have q2 := (hb.cell (p := ⟨w.heap.size, 2, none⟩) (by simp)).trans (box_cell w #[.int .i64 hs, .int .i64 ep, .string r, .string p] _ 2 _ rfl)
    have q3 := (hb.cell (p := ⟨w.heap.size, 3, none⟩) (by simp)).trans (box_cell w #[.int .i64 hs, .int .i64 ep, .string r, .string p] _ 3 _ rfl)
    have hz : w.heap.size < w1.heap.size := by have := hb.size; simp at this; omega
    have HB : Hid (Below w.heap.size w w1) := Lib.hid (((Below.refl _ _).alloc (Nat.le_refl _) _).trans (hb.mono (by simp)))
    clear hb hOk hok
    go_wp2_with (refine wpList_strB rfl _ rfl Tryz.underlying5 Tryz.underlying9 rfl rfl (hR _) ?_)
    go_ret2
    exact ⟨by rw [HT.out]; rfl, HB.out.alloc (Nat.le_of_lt hz) _⟩
set_option maxRecDepth 20000 in set_option maxHeartbeats 4000000 in
theorem spec_HeadText (x : Head) (w : World) : Calls Tryz.prog 126 #[.agg (Head.cs x).toArray] w fun e w' => e = .returned (.tuple #[.string (headText x), .bool (headOk x)]) ∧ Below w.heap.size w w' := by
  have hOk : ∀ W, Calls Tryz.prog 132 #[.agg (Head.cs x).toArray] W _ := fun W => spec_HeadOk x W
  cases hok : headOk x
  · have HT : Hid (headText x = ⟨#[]⟩) := Lib.hid (by unfold headText; rw [hok]; rfl)
    rw [hok] at hOk
    obtain ⟨hs, ep, r, p⟩ := x
    simp only [Head.cs] at *
    go_enter Tryz.func126, Tryz.ntmps126
    go_wp2_with (fail)
    refine (hOk _).mono ?_
    rintro e0 w1 ⟨rfl, hb⟩
    go_wp2
    go_ret2
    exact ⟨by rw [HT.out]; rfl, ((Below.refl _ _).alloc (Nat.le_refl _) _).trans (hb.mono (by simp))⟩
  · have HT : Hid (headText x = headTx x) := Lib.hid (by unfold headText; rw [hok]; rfl)
    obtain ⟨⟨a1, a2⟩, ⟨b1, b2⟩, c1, d1⟩ := headOk_b hok
    rw [hok] at hOk
    obtain ⟨hs, ep, r, p⟩ := x
    simp only [Head.cs, headTx] at *
    obtain ⟨hs, rfl⟩ : ∃ n : Nat, hs = n := ⟨hs.toNat, by omega⟩
    obtain ⟨ep, rfl⟩ : ∃ n : Nat, ep = n := ⟨ep.toNat, by omega⟩
    simp only [Int.toNat_natCast] at HT
    have wh : IntKind.u8.wrap (hs : Int) = hs := by rw [IntKind.wrap_u8']; omega
    have we : IntKind.u8.wrap (ep : Int) = ep := by rw [IntKind.wrap_u8']; omega
    have v1 : ¬ 9223372036854775807 < (bs [UInt8.ofNat hs, UInt8.ofNat ep]).size + r.size := by rw [bs_size]; simp; omega
    have v2 : ¬ 9223372036854775807 < (bs [UInt8.ofNat hs, UInt8.ofNat ep]).size + r.size + p.size := by rw [bs_size]; simp; omega
    have HC : Hid (([.int .u8 (hs : Int), .int .u8 (ep : Int)] : List Value) = [UInt8.ofNat hs, UInt8.ofNat ep].map u8c) := Lib.hid (by
      have e1 : hs % 256 = hs := by omega
      have e2 : ep % 256 = ep := by omega
      simp [u8c, e1, e2]; try omega)
    have hR : ∀ W : World, BR (W.alloc (.cells #[.int .u8 (hs : Int), .int .u8 (ep : Int)] 5)) (some ⟨W.heap.size, 0, none⟩) 2 [UInt8.ofNat hs, UInt8.ofNat ep] (fun b => W.heap.size ≤ b) := fun W => br_lit W _ _ [UInt8.ofNat hs, UInt8.ofNat ep] (by rw [← HC.out])
    go_enter Tryz.func126, Tryz.ntmps126
    go_wp2_with (fail)
    refine (hOk _).mono ?_
    rintro e0 w1 ⟨rfl, hb⟩
    have q0 := (hb.cell (p := ⟨w.heap.size, 0, none⟩) (by simp)).trans (box_cell w #[.int .i64 hs, .int .i64 ep, .string r, .string p] _ 0 _ rfl)
    have q1 := (hb.cell (p := ⟨w.heap.size, 1, none⟩) (by simp)).trans (box_cell w #[.int .i64 hs, .int .i64 ep, .string r, .string p] _ 1 _ rfl)
    have q2 := (hb.cell (p := ⟨w.heap.size, 2, none⟩) (by simp)).trans (box_cell w #[.int .i64 hs, .int .i64 ep, .string r, .string p] _ 2 _ rfl)
    have q3 := (hb.cell (p := ⟨w.heap.size, 3, none⟩) (by simp)).trans (box_cell w #[.int .i64 hs, .int .i64 ep, .string r, .string p] _ 3 _ rfl)
    have hz : w.heap.size < w1.heap.size := by have := hb.size; simp at this; omega
    have HB : Hid (Below w.heap.size w w1) := Lib.hid (((Below.refl _ _).alloc (Nat.le_refl _) _).trans (hb.mono (by simp)))
    clear hb hOk hok
    go_wp2_with (refine wpList_strB rfl _ rfl Tryz.underlying5 Tryz.underlying9 rfl rfl (hR _) ?_)
    go_ret2
    exact ⟨by rw [HT.out]; rfl, HB.out.alloc (Nat.le_of_lt hz) _⟩
set_option maxRecDepth 20000 in set_option maxHeartbeats 4000000 in
theorem impl_HeadHash (x : Head) (w : World) (hT : Tabs w) : Calls Tryz.prog 75 #[.agg (Head.cs x).toArray] w fun e w' => e = .returned (.string (headHash x)) ∧ Below w.heap.size w w' := by
  have hTx : ∀ W, Calls Tryz.prog 122 #[.agg (Head.cs x).toArray] W _ := fun W => impl_HeadText x W
  cases hok : headOk x
  · have HT : Hid (headHash x = ⟨#[]⟩) := Lib.hid (by unfold headHash; rw [hok]; rfl)
    rw [hok] at hTx
    obtain ⟨hs, ep, r, p⟩ := x
    simp only [Head.cs] at *
    go_enter Tryz.func75, Tryz.ntmps75
    go_wp2_with (fail)
    refine (hTx _).mono ?_
    rintro e0 w1 ⟨rfl, hb⟩
    go_wp2
    go_ret
    exact ⟨by rw [HT.out]; rfl, ((Below.refl _ _).alloc (Nat.le_refl _) _).trans (hb.mono (by simp))⟩
  · have HT : Hid (headHash x = tagHash 4 [headTx x] 16) := Lib.hid (by unfold headHash; rw [hok]; rfl)
    have hle := headTx_le hok
    rw [hok, show headText x = headTx x by unfold headText; rw [hok]; rfl] at hTx
    obtain ⟨t, ht⟩ : ∃ t, headTx x = t := ⟨_, rfl⟩
    rw [ht] at hle hTx HT
    clear ht
    obtain ⟨hs, ep, r, p⟩ := x
    simp only [Head.cs] at *
    go_enter Tryz.func75, Tryz.ntmps75
    go_wp2_with (fail)
    refine (hTx _).mono ?_
    rintro e0 w1 ⟨rfl, hb⟩
    have HB : Hid (Below w.heap.size w w1) := Lib.hid (((Below.refl _ _).alloc (Nat.le_refl _) _).trans (hb.mono (by simp)))
    go_wp2_with (fail)
    have hcell : ∀ j (h : j < [t].length), (w1.alloc (.cells #[.string t] 9)).cell? ⟨w1.heap.size, j, none⟩ = some (.string [t][j]) ∧ [t][j].size ≤ maxLen := by
      intro j hj
      have hj : j = 0 := by simpa using hj
      subst hj
      exact ⟨box_cell _ _ _ _ _ rfl, by simp only [List.getElem_cons_zero]; unfold maxLen; omega⟩
    refine ((impl_hashOf _ 4 (by unfold I64; omega) [t] _ _ _ (row_box 1 _ hcell) (by simp) 16 (by unfold I64; omega) (((hT.later ((Below.refl _ _).alloc (Nat.le_refl _) _)).later hb).later ((Below.refl _ _).alloc (Nat.le_refl _) _)))).mono ?_
    rintro e0 w2 ⟨rfl, hb2⟩
    go_wp2
    go_ret
    exact ⟨by rw [HT.out]; rfl, (HB.out.alloc HB.out.size _).trans (hb2.mono (by have := HB.out.size; simp; omega))⟩
set_option maxRecDepth 20000 in set_option maxHeartbeats 4000000 in
theorem spec_HeadHash (x : Head) (w : World) : Calls Tryz.prog 77 #[.agg (Head.cs x).toArray] w fun e w' => e = .returned (.string (headHash x)) ∧ Below w.heap.size w w' := by
  have hTx : ∀ W, Calls Tryz.prog 126 #[.agg (Head.cs x).toArray] W _ := fun W => spec_HeadText x W
  cases hok : headOk x
  · have HT : Hid (headHash x = ⟨#[]⟩) := Lib.hid (by unfold headHash; rw [hok]; rfl)
    rw [hok] at hTx
    obtain ⟨hs, ep, r, p⟩ := x
    simp only [Head.cs] at *
    go_enter Tryz.func77, Tryz.ntmps77
    go_wp2_with (fail)
    refine (hTx _).mono ?_
    rintro e0 w1 ⟨rfl, hb⟩
    go_wp2
    go_ret
    exact ⟨by rw [HT.out]; rfl, ((Below.refl _ _).alloc (Nat.le_refl _) _).trans (hb.mono (by simp))⟩
  · have HT : Hid (headHash x = tagHash 4 [headTx x] 16) := Lib.hid (by unfold headHash; rw [hok]; rfl)
    have hle := headTx_le hok
    rw [hok, show headText x = headTx x by unfold headText; rw [hok]; rfl] at hTx
    obtain ⟨t, ht⟩ : ∃ t, headTx x = t := ⟨_, rfl⟩
    rw [ht] at hle hTx HT
    clear ht
    obtain ⟨hs, ep, r, p⟩ := x
    simp only [Head.cs] at *
    go_enter Tryz.func77, Tryz.ntmps77
    go_wp2_with (fail)
    refine (hTx _).mono ?_
    rintro e0 w1 ⟨rfl, hb⟩
    have HB : Hid (Below w.heap.size w w1) := Lib.hid (((Below.refl _ _).alloc (Nat.le_refl _) _).trans (hb.mono (by simp)))
    go_wp2_with (fail)
    have hcell : ∀ j (h : j < [t].length), (w1.alloc (.cells #[.string t] 9)).cell? ⟨w1.heap.size, j, none⟩ = some (.string [t][j]) ∧ [t][j].size ≤ maxLen := by
      intro j hj
      have hj : j = 0 := by simpa using hj
      subst hj
      exact ⟨box_cell _ _ _ _ _ rfl, by simp only [List.getElem_cons_zero]; unfold maxLen; omega⟩
    refine ((spec_TagHash _ 4 (by unfold I64; omega) [t] _ _ _ (row_box 1 _ hcell) (by simp) 16 (by unfold I64; omega))).mono ?_
    rintro e0 w2 ⟨rfl, hb2⟩
    go_wp2
    go_ret
    exact ⟨by rw [HT.out]; rfl, (HB.out.alloc HB.out.size _).trans (hb2.mono (by have := HB.out.size; simp; omega))⟩
end Go.Proofs.YtgllafgpmenjjaaGreatDoor

set_option linter.unusedVariables false
set_option linter.unusedSimpArgs false
namespace Go.Proofs.YtgllafgpmenjjaaGreatDoor
open Go.RowKit Lay Mk
def trustOk (t : Trust) : Bool := inB (t.roots.length : Int) 1 3 && (wideG t.roots 16 && (inB t.k 0 2 && inB t.need 0 2))
theorem trust_sz {t : Trust} (h : t.sz ≤ 1048576) : t.roots.length ≤ 1048576 := by
  simp only [Trust.sz] at h
  have := szT_le t.roots 0
  omega
theorem impl_isSplit (n : Int) (w : World) : Calls Tryz.prog 178 #[.int .i64 n] w fun e w' => e = .returned (.bool (inB n 0 2)) ∧ w = w' := by
  go_enter Tryz.func178, Tryz.ntmps178
  go_wp2_with (go_at_call 98; refine (impl_in _ _ _ _).mono ?_; rintro e w' ⟨rfl, rfl⟩)
  go_ret
  exact ⟨rfl, rfl⟩
set_option maxRecDepth 20000 in set_option maxHeartbeats 4000000 in
theorem impl_TrustOk (w : World) (t : Trust) (cs : List Value) (S : Blks) (hx : rd false w cs t S) (hz : t.sz ≤ 1048576) : Calls Tryz.prog 142 #[.agg cs.toArray] w fun e w' => e = .returned (.bool (trustOk t)) ∧ Below w.heap.size w w' := by
  have hl := trust_sz hz
  obtain ⟨A0, k0, S0, rfl, -, -, -, -, r0, -⟩ := Trust.open hx
  clear hx hz
  have HF : Hid (trustOk t = (inB (t.roots.length : Int) 1 3 && (wideG t.roots 16 && (inB t.k 0 2 && inB t.need 0 2)))) := Lib.hid rfl
  obtain ⟨R, hR⟩ : ∃ R, trustOk t = R := ⟨_, rfl⟩
  rw [hR] at HF ⊢
  clear hR
  obtain ⟨rs, k, nd⟩ := t
  simp only at hl r0 HF
  simp only [Trust.cs]
  have HW := Lib.hid (fun W (h : Below w.heap.size w W) => impl_haveWidth W rs A0 k0 S0 (Row.later r0 h) (by unfold maxLen; omega) (rs.length : Int) (by unfold I64; omega) 16)
  have H1 := Lib.hid (fun W => impl_in (rs.length : Int) 1 3 W)
  obtain ⟨z1, hz1⟩ : ∃ z, inB (rs.length : Int) 1 3 = z := ⟨_, rfl⟩
  rw [hz1] at H1 HF
  obtain ⟨z2, hz2⟩ : ∃ z, wideG rs 16 = z := ⟨_, rfl⟩
  rw [hz2] at HW HF
  clear hz1 hz2 r0
  have hW2 : Hid ((z2 && decide ((rs.length : Int) = (rs.length : Int))) = z2) := Lib.hid (by simp)
  rw [hW2.out] at HW
  have HK := Lib.hid (fun W => impl_isSplit k W)
  have HN := Lib.hid (fun W => impl_in nd 0 2 W)
  obtain ⟨z3, hz3⟩ : ∃ z, inB k 0 2 = z := ⟨_, rfl⟩
  rw [hz3] at HK HF
  obtain ⟨z4, hz4⟩ : ∃ z, inB nd 0 2 = z := ⟨_, rfl⟩
  rw [hz4] at HN HF
  clear hz3 hz4
  go_enter Tryz.func142, Tryz.ntmps142
  go_wp2_with (fail)
  have HB0 := Lib.hid ((Below.refl w.heap.size w).alloc (Nat.le_refl _) (.cells #[.slice A0 rs.length k0, .int .i64 k, .int .i64 nd] 51))
  refine (H1.out _).mono ?_
  rintro e1 w1 ⟨rfl, rfl⟩
  cases z1
  · go_wp2
    go_ret
    exact ⟨ret_bool (by rw [HF.out]; rfl), HB0.out⟩
  go_wp2_with (fail)
  refine (HW.out _ HB0.out).mono ?_
  rintro e2 w2 ⟨rfl, rfl⟩
  cases z2
  · go_wp2
    go_ret
    exact ⟨ret_bool (by rw [HF.out]; rfl), HB0.out⟩
  go_wp2_with (fail)
  refine (HK.out _).mono ?_
  rintro e3 w3 ⟨rfl, rfl⟩
  cases z3
  · go_wp2
    go_ret
    exact ⟨ret_bool (by rw [HF.out]; rfl), HB0.out⟩
  go_wp2_with (fail)
  refine (HN.out _).mono ?_
  rintro e4 w4 ⟨rfl, rfl⟩
  go_wp2
  go_ret
  exact ⟨ret_bool (by rw [HF.out]; rfl), HB0.out⟩
end Go.Proofs.YtgllafgpmenjjaaGreatDoor

set_option linter.unusedVariables false
set_option linter.unusedSimpArgs false
namespace Go.Proofs.YtgllafgpmenjjaaGreatDoor
open Go.RowKit Lay Mk
theorem u8_xor (a c : Nat) (ha : a < 256) (hc : c < 256) : bits .xor .u8 (a : Int) (c : Int) = ((a ^^^ c : Nat) : Int) := by
  have ka : (BitVec.ofInt 8 (a : Int)).toNat = a := by rw [BitVec.toNat_ofInt]; omega
  have kc : (BitVec.ofInt 8 (c : Int)).toNat = c := by rw [BitVec.toNat_ofInt]; omega
  have hx : a ^^^ c < 2 ^ 8 := Nat.xor_lt_two_pow ha hc
  show IntKind.u8.wrap ((BitVec.ofInt 8 (a : Int) ^^^ BitVec.ofInt 8 (c : Int)).toNat : Nat) = _
  rw [BitVec.toNat_xor, ka, kc, IntKind.wrap_u8']
  omega
theorem xor_ne {a c : Nat} (h : c ≠ 0) : a ^^^ c ≠ a := by
  intro e
  have h2 : a ^^^ (a ^^^ c) = a ^^^ a := by rw [e]
  rw [← Nat.xor_assoc, Nat.xor_self, Nat.zero_xor] at h2
  exact h h2
theorem br_set {w : World} {g cap : Nat} {l : List UInt8} {S : Blks} (hS : S g) (hg : g < w.heap.size) (hc : ∀ j, j < cap → (w.cell? ⟨g, j, none⟩).isSome = true ∧ w.frozen? ⟨g, j, none⟩ = false) (ha : At w g 0 (l.map u8c)) {i : Nat} (hi : i < l.length) (z : UInt8) :
    BR (w.setCell ⟨g, i, none⟩ (.int .u8 (z.toNat : Int))) (some ⟨g, 0, none⟩) cap (l.set i z) S := by
  refine .inr ⟨g, rfl, hS, by simpa using hg, fun j hj => ?_, fun j u hu => ?_⟩
  · obtain ⟨h1, h2⟩ := hc j hj
    refine ⟨?_, by simpa using h2⟩
    by_cases e : i = j
    · subst e
      obtain ⟨v, hv⟩ := Option.isSome_iff_exists.1 h1
      rw [World.cell?_setCell_same _ _ _ hv]; rfl
    · rw [World.cell?_setCell_other _ _ _ _ (show (⟨g, i, none⟩ : Addr) ≠ ⟨g, j, none⟩ from fun h => e (by injection h))]; exact h1
  · rw [Nat.zero_add]
    have hj : j < l.length := by have := (List.getElem?_eq_some_iff.1 hu).1; simpa using this
    have hv : w.cell? ⟨g, j, none⟩ = some (u8c l[j]) := by
      have := ha j (u8c l[j]) (by simp [hj])
      simpa using this
    by_cases e : i = j
    · subst e
      rw [World.cell?_setCell_same _ _ _ hv, ← hu]; simp [hj, u8c]
    · rw [World.cell?_setCell_other _ _ _ _ (show (⟨g, i, none⟩ : Addr) ≠ ⟨g, j, none⟩ from fun h => e (by injection h)), hv, ← hu]
      simp [hj, e]
theorem set_ne {s : ByteArray} {i : Nat} (hi : i < s.data.toList.length) {z : UInt8} (hz : z ≠ s.data.toList[i]) : bs (s.data.toList.set i z) ≠ s := by
  intro e
  have h1 : (bs (s.data.toList.set i z)).data.toList = s.data.toList := by rw [e]
  have h2 : s.data.toList.set i z = s.data.toList := h1
  have h4 : (s.data.toList.set i z)[i]'(by rw [List.length_set]; exact hi) = z := List.getElem_set_self _
  exact hz (h4.symm.trans (List.getElem_of_eq h2 _))
set_option maxRecDepth 20000 in set_option maxHeartbeats 8000000 in
theorem laws_turned (w : World) (s : ByteArray) (hs1 : 1 ≤ s.size) (hs : s.size ≤ 1000) (P : List Int) (AP : Option Addr) (cP : Nat) (SP : Blks) (hp : Row false w AP cP P SP) (hl : P.length = 12) (hb : ∀ x ∈ P, 0 ≤ x ∧ x < 10000) : Calls Tryz.prog 29 #[.string s, .slice AP P.length cP] w fun e w' => ∃ t : ByteArray, e = .returned (.string t) ∧ t ≠ s ∧ t.size = s.size ∧ Below w.heap.size w w' := by
  obtain ⟨b5, o5, e5, hl0, f0, i0⟩ := Row.int hp (i := 0) (by omega)
  obtain ⟨b6, o6, e6, hl1, f1, i1⟩ := Row.int hp (i := 1) (by omega)
  rw [e5] at e6
  obtain ⟨rfl, rfl⟩ : b5 = b6 ∧ o5 = o6 := by simpa using e6
  subst e5
  have h0 := hb P[0] (List.getElem_mem _)
  have h1 := hb P[1] (List.getElem_mem _)
  obtain ⟨x0, hx0⟩ : ∃ n : Nat, P[0]'(by omega) = (n : Int) := ⟨(P[0]'(by omega)).toNat, by omega⟩
  obtain ⟨x1, hx1⟩ : ∃ n : Nat, P[1]'(by omega) = (n : Int) := ⟨(P[1]'(by omega)).toNat, by omega⟩
  rw [hx0, Nat.add_zero] at f0
  rw [hx1] at f1
  rw [hl]
  have hsl : s.data.toList.length = s.size := rfl
  obtain ⟨l, hle⟩ : ∃ l, s.data.toList = l := ⟨_, rfl⟩
  have HL := Lib.hid hle
  rw [hle] at hsl
  have hs4 : s.size ≤ 4000000000 := by omega
  have hN0 : ((s.size : Int) == 0) = false := by rw [beq_eq_false_iff_ne]; omega
  have hN1 : (s.size : Int) ≠ 0 := by omega
  have hrm : Int.tmod (x0 : Int) (s.size : Int) = ((x0 % s.size : Nat) : Int) := rfl
  obtain ⟨i, hi⟩ : ∃ i, x0 % s.size = i := ⟨_, rfl⟩
  have hiN : i < s.size := by rw [← hi]; exact Nat.mod_lt _ (by omega)
  rw [hi] at hrm
  have hil : i < l.length := by omega
  have hrm1 : Int.tmod (x1 : Int) 255 = (x1 : Int) % 255 := Int.tmod_eq_emod_of_nonneg (by omega)
  obtain ⟨c, hc⟩ : ∃ c, 1 + x1 % 255 = c := ⟨_, rfl⟩
  have hcb : 1 ≤ c ∧ c ≤ 255 := by omega
  have hw1 : IntKind.i64.wrap (1 + (x1 : Int) % 255) = (c : Int) := by rw [IntWalk.i64_in _ (by omega)]; omega
  have hw2 : IntKind.u8.wrap (c : Int) = (c : Int) := by rw [IntKind.wrap_u8']; omega
  have hxr := u8_xor l[i].toNat c l[i].toNat_lt (by omega)
  have hxl : l[i].toNat ^^^ c < 2 ^ 8 := Nat.xor_lt_two_pow l[i].toNat_lt (by omega)
  have hxn : l[i].toNat ^^^ c ≠ l[i].toNat := xor_ne (by omega)
  obtain ⟨z, hz⟩ : ∃ z : UInt8, z.toNat = l[i].toNat ^^^ c := ⟨UInt8.ofNat (l[i].toNat ^^^ c), by rw [UInt8.toNat_ofNat']; exact Nat.mod_eq_of_lt hxl⟩
  rw [← hz] at hxr hxn
  have HZN : Hid (z ≠ l[i]) := Lib.hid (fun e => hxn (by rw [e]))
  clear hx0 hx1 hi hc hxl hxn hz hle h0 h1 hb hp
  have hi2 : (i : Int) < (s.size : Int) := by omega
  have hi0 : (0 : Int) ≤ (i : Int) := by omega
  go_enter Tryz.func29, Tryz.ntmps29
  go_wp2_with (refine wpList_ofStr rfl _ rfl Tryz.underlying5 Tryz.underlying9 rfl hs4 ?_; intro g cap' w1 q1 q2 q3 q4 q5; have HQ := Lib.hid (And.intro q1 (And.intro q3 (And.intro q4 q5))); have r0 := (q5.cell (p := ⟨b5, o5, none⟩) hl0).trans f0; have r1 := (q5.cell (p := ⟨b5, o5 + 1, none⟩) hl0).trans f1; clear q1 q2 q3 q4 q5)
  obtain ⟨q1, q3, q4, q5⟩ := HQ.out
  rw [HL.out] at q4
  rcases q4 with ⟨h, _⟩ | ⟨g2, e, hS, hg, hc, ha⟩
  · cases h
  obtain rfl : g = g2 := by injection e with e1; injection e1
  have vi : w1.cell? ⟨g, i, none⟩ = some (.int .u8 (l[i].toNat : Int)) := by
    have := ha i (u8c l[i]) (by simp [hil])
    rw [Nat.zero_add] at this; exact this
  have vf := (hc i (by omega)).2
  have HBR := Lib.hid (br_set hS hg hc ha hil z)
  have HB1 := Lib.hid q5
  have HSZ : Hid (s.size = (l.set i z).length) := Lib.hid (by rw [List.length_set]; exact hsl.symm)
  have HFIN : Hid (bs (l.set i z) ≠ s ∧ (bs (l.set i z)).size = s.size) := Lib.hid ⟨by
    have hil2 : i < s.data.toList.length := by rw [HL.out]; exact hil
    have := set_ne (s := s) hil2 (z := z) (by intro e2; apply HZN.out; rw [e2]; exact List.getElem_of_eq HL.out _)
    rw [HL.out] at this; exact this, by rw [bs_size]; exact HSZ.out.symm⟩
  have hgw : w.heap.size ≤ g := hS
  clear e hS hg hc ha q5 q3 HQ
  go_region_law (fail)
  all_goals (go_wp2_with (refine wpList_strB rfl _ rfl Tryz.underlying5 Tryz.underlying9 rfl HSZ.out (by first | exact HBR.out | exact HBR.out.drew) ?_))
  all_goals (go_ret)
  all_goals (exact ⟨_, rfl, HFIN.out.1, HFIN.out.2, by first | exact Below.setCell HB1.out hgw _ | exact (Below.setCell HB1.out hgw _).drew⟩)
end Go.Proofs.YtgllafgpmenjjaaGreatDoor
