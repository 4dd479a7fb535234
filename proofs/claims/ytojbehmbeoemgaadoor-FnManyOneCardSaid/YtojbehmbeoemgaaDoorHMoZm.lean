/- A part of the proof: what the laws need of it. -/
import Derived.Deep.RegionHeld3
import Derived.BigQuiet
import Derived.Test.YtojbehmbeoemgaaDoorHMoYw
import Derived.Test.YtojbehmbeoemgaaDoorHMoL24xYn
import Derived.Test.YtojbehmbeoemgaaDoorHMoL14xDg
import Derived.Test.YtojbehmbeoemgaaDoorHMoL10xDt
import Derived.Test.YtojbehmbeoemgaaDoorHMoNz
import Derived.Test.YtojbehmbeoemgaaDoorHMoL7xLw
set_option linter.unusedVariables false
set_option linter.unusedSimpArgs false
set_option linter.unusedVariables false
set_option linter.unusedSimpArgs false
namespace Go.Proofs.YtojbehmbeoemgaaDoor
open Go.RowKit Lay Mk
theorem row_onei (w : World) (x : Int) (h : I64 x) (ty : TypeId) (b : Nat) (hb : b = w.heap.size) : Row false (w.alloc (.cells #[.int .i64 x] ty)) (some ⟨b, 0, none⟩) 1 [x] (fun q => q = b) := by
  subst hb
  intro _
  refine ⟨w.heap.size, 0, rfl, rfl, fun _ => none_, fun _ _ x => x.elim, fun h => by simp at h, fun i hi => ⟨[.int .i64 x], fun j u hu => ?_, ?_⟩⟩
  · have hi : i = 0 := by simpa using hi
    subst hi
    have hj := (List.getElem?_eq_some_iff.1 hu).1
    have hj : j = 0 := by simpa using hj
    subst hj
    rw [← hu]; exact box_cell _ _ _ _ _ rfl
  · have hi : i = 0 := by simpa using hi
    subst hi
    exact ⟨rfl, h⟩
theorem rowAll {α : Type} [Lay α] {m : Bool} {w : World} {A : Option Addr} {c : Nat} {xs : List α} {S : Blks} (h : Row m w A c xs S) : Row m w A c xs All := h.mono (fun _ _ => trivial)
set_option maxRecDepth 100000 in set_option maxHeartbeats 8000000 in
theorem law_FnManyOne (w : World) (p0 : List UInt8) (A0 : Option Addr) (k0 : Nat) (S0 : Blks) (hp0 : Row false w A0 k0 p0 S0) (lp0 : p0.length ≤ k0) (mp0 : k0 ≤ maxLen) (hT : Tabs w) : Calls Tryd.prog 5 #[.slice A0 p0.length k0] w fun e w' => e = .returned (.bool true) ∧ Below w.heap.size w w' := by
  have HT := Lib.hid hT; clear hT
  replace hp0 := old_rngR hp0
  by_cases hbig : (1048576 : Int) < p0.length
  · have hd := decide_eq_true hbig
    go_enter Tryd.func5, Tryd.ntmps5
    go_wp2_with (go_at_call 9; refine (laws_big _ _ _ _).mono ?_; rintro e w' ⟨rfl, rfl⟩)
    go_ret; exact ⟨rfl, Below.refl _ _⟩
  have hd := decide_eq_false hbig
  have hlen : p0.length ≤ 1048576 := by omega
  clear hbig
  go_enter Tryd.func5, Tryd.ntmps5
  go_wp2_with (go_at_call 9; refine (laws_big _ _ _ _).mono ?_; rintro e w' ⟨rfl, rfl⟩)
  refine (spec_DrawLeaves _ p0 _ _ _ hp0 (fun b hb => hb.2) hlen).mono ?_
  rintro e1 w1 ⟨L, AL, cL, rfl, hok, hle, hcm, rL, hb1⟩
  go_wp2_with (fail)
  refine (spec_DrawName w1 p0 _ _ _ (Row.later hp0 hb1) (fun b hb => Nat.lt_of_lt_of_le hb.2 hb1.size) hlen).mono ?_
  rintro e2 w2 ⟨nm, rfl, hnm, hn12, hb2⟩
  have HB2 := Lib.hid (hb1.trans (hb2.mono hb1.size))
  have RL := Lib.hid (Row.later rL hb2)
  have hL24 := leaves_24 hok
  have hzL : szL L ≤ 1048576 := by have := szL_ok (leavesOk_all hok); omega
  have hnx : nm.size ≤ maxLen := by unfold maxLen; omega
  have hi16 : I64 16 := by unfold I64; omega
  have hz1 : szL [nm] ≤ 1048576 := by simp [szL, show sz nm = nm.size from rfl]; omega
  have hz2 : szL [nm, nm] ≤ 1048576 := by simp [szL, show sz nm = nm.size from rfl]; omega
  have HC1 := Lib.hid (fun W (h : Below w2.heap.size w2 W) NA Nc NS (hr : Row false W NA Nc [nm] NS) h1 h2 => impl_ProveMany W L AL cL _ (Row.later RL.out h) hle hcm hzL [nm] NA Nc NS hr h1 h2 hz1 16 hi16 (HT.out.later (HB2.out.trans (h.mono HB2.out.size))))
  have HC2 := Lib.hid (fun W (h : Below w2.heap.size w2 W) NA Nc NS (hr : Row false W NA Nc [nm, nm] NS) h1 h2 => impl_ProveMany W L AL cL _ (Row.later RL.out h) hle hcm hzL [nm, nm] NA Nc NS hr h1 h2 hz2 16 hi16 (HT.out.later (HB2.out.trans (h.mono HB2.out.size))))
  have HC3 := Lib.hid (fun W (h : Below w2.heap.size w2 W) => spec_ProveLeaf W L AL cL _ (Row.later RL.out h) (by omega) hzL nm (by omega) 0 (by unfold I64; omega) 16 hi16)
  have HXI := Lib.hid (fun W (h : Below w2.heap.size w2 W) NA Nc NS (hr : Row false W NA Nc [nm, nm] NS) h1 h2 => impl_IndexesOf W [nm, nm] NA Nc NS hr h1 h2 hz2 (HT.out.later (HB2.out.trans (h.mono HB2.out.size))))
  have HIX := Lib.hid (fun W => spec_IndexOf W nm (by omega))
  simp only [many_one hok hnm] at HC1
  simp only [many_two hok hnm] at HC2
  simp only [leaf_one hok hnm] at HC3
  simp only [idx_two] at HXI
  have hix := indexOf_lt nm
  obtain ⟨SD, hSD⟩ : ∃ l, sidesD 16 (indexOf nm) L 8 = l := ⟨_, rfl⟩
  obtain ⟨BK, hBK⟩ : ∃ l, bucketOf L (indexOf nm : Int) = l := ⟨_, rfl⟩
  have HSDl : Hid (SD.length ≤ 8) := Lib.hid (by rw [← hSD, sidesD_len]; exact Nat.le_refl _)
  have hBKl : BK.length ≤ 24 := by rw [← hBK]; exact Nat.le_trans (List.length_filter_le _ _) hL24
  simp only [hSD, hBK] at HC1 HC2 HC3
  obtain ⟨ix, hixe⟩ : ∃ i, indexOf nm = i := ⟨_, rfl⟩
  simp only [hixe] at HXI HIX
  rw [hixe] at hix
  clear hSD hBK hixe hok hnm hzL rL hb1 hb2 hp0 hz1 hz2
  go_wp2_with (fail)
  refine (HC1.out _ ((Below.refl _ _).alloc (Nat.le_refl _) _) _ _ _ (row_one w2 nm hnx _) (Nat.le_refl _) (by decide)).mono ?_
  rintro e3 w3 ⟨c3, rfl, hr3, hb3⟩
  have HB3 := Lib.hid (Below.via hb3)
  obtain ⟨N0, n0, T0, B0, b0, T1, D0, d0, T2, rfl, -, -, -, -, -, -, rb, -, -, -, rs, -, -⟩ := Many.open hr3
  simp only [Many.cs]
  have RB := Lib.hid rb; have RS := Lib.hid rs
  clear hr3 hb3 rb rs
  go_wp2_with (fail)
  obtain ⟨V1, hV1⟩ : ∃ W, w3.alloc (.cells #[.slice N0 1 n0, .slice B0 1 b0, .slice D0 SD.length d0] 51) = W := ⟨_, rfl⟩
  rw [hV1]
  have hF1 : Below w3.heap.size w3 V1 ∧ V1.heap.size = w3.heap.size + 1 ∧ V1.cell? ⟨w3.heap.size, 1, none⟩ = some (.slice B0 1 b0) ∧ V1.cell? ⟨w3.heap.size, 2, none⟩ = some (.slice D0 SD.length d0) := by
    rw [← hV1]; exact ⟨(Below.refl _ _).alloc (Nat.le_refl _) _, by simp, box_cell _ _ _ _ _ rfl, box_cell _ _ _ _ _ rfl⟩
  obtain ⟨hbV1, hsV1, x1, x2⟩ := hF1
  have HBV1 := Lib.hid (HB3.out.trans (hbV1.mono HB3.out.size))
  have HV1 := Lib.hid hbV1
  clear hV1 hbV1
  refine (HC2.out _ (HBV1.out.alloc HBV1.out.size _) _ _ _ (row_pairB V1 nm nm hnx hnx _ _ hsV1.symm) (Nat.le_refl _) (by decide)).mono ?_
  rintro e4 w4 ⟨c4, rfl, hr4, hb4⟩
  have HB4 := Lib.hid (Below.via hb4)
  have HB4w := Lib.hid (HBV1.out.trans (HB4.out.mono HBV1.out.size))
  obtain ⟨N1, n1, T3, B1, b1, T4, D1, d1, T5, rfl, -, -, -, -, -, -, -, -, -, -, rs, -, -⟩ := Many.open hr4
  simp only [Many.cs]
  have RS1 := Lib.hid rs
  have hs4 := HB4.out.size
  clear hr4 hb4 rs
  go_wp2_with (fail)
  obtain ⟨V2, hV2⟩ : ∃ W, w4.alloc (.cells #[.slice N1 2 n1, .slice B1 1 b1, .slice D1 SD.length d1] 51) = W := ⟨_, rfl⟩
  rw [hV2]
  have hF2 : Below w4.heap.size w4 V2 ∧ V2.heap.size = w4.heap.size + 1 ∧ V2.cell? ⟨w4.heap.size, 1, none⟩ = some (.slice B1 1 b1) ∧ V2.cell? ⟨w4.heap.size, 2, none⟩ = some (.slice D1 SD.length d1) := by
    rw [← hV2]; exact ⟨(Below.refl _ _).alloc (Nat.le_refl _) _, by simp, box_cell _ _ _ _ _ rfl, box_cell _ _ _ _ _ rfl⟩
  obtain ⟨hbV2, hsV2, y1, y2⟩ := hF2
  have HV2 := Lib.hid hbV2
  have HBV2 := Lib.hid (HB4w.out.trans (hbV2.mono HB4w.out.size))
  clear hV2 hbV2
  refine (HC3.out _ HBV2.out).mono ?_
  rintro e5 w5 ⟨c5, rfl, hr5, hb5⟩
  obtain ⟨P0, q0, T6, P1, q1, T7, rfl, -, -, rp, -, -, -, rq, -, -⟩ := Proof.open hr5
  simp only [Proof.cs]
  have HB5 := Lib.hid hb5
  have hs5 := hb5.size
  go_wp2_with (fail)
  obtain ⟨V, hV⟩ : ∃ W, w5.alloc (.cells #[.slice P0 BK.length q0, .slice P1 SD.length q1] 61) = W := ⟨_, rfl⟩
  rw [hV]
  have hF3 : Below w5.heap.size w5 V ∧ V.heap.size = w5.heap.size + 1 ∧ V.cell? ⟨w5.heap.size, 0, none⟩ = some (.slice P0 BK.length q0) ∧ V.cell? ⟨w5.heap.size, 1, none⟩ = some (.slice P1 SD.length q1) := by
    rw [← hV]; exact ⟨(Below.refl _ _).alloc (Nat.le_refl _) _, by simp, box_cell _ _ _ _ _ rfl, box_cell _ _ _ _ _ rfl⟩
  obtain ⟨hbV, hsV, z0, z1⟩ := hF3
  have hV2V : Below V2.heap.size V2 V := HB5.out.trans (hbV.mono hs5)
  have hw4V : Below w4.heap.size w4 V := HV2.out.trans (hV2V.mono HV2.out.size)
  have hV1V : Below V1.heap.size V1 V := HB4.out.trans (hw4V.mono hs4)
  have hw3V : Below w3.heap.size w3 V := HV1.out.trans (hV1V.mono HV1.out.size)
  have HVW := Lib.hid (HB3.out.trans (hw3V.mono HB3.out.size))
  have HWW := Lib.hid (HB2.out.trans (HVW.out.mono HB2.out.size))
  replace x1 := (hV1V.cell (p := ⟨w3.heap.size, 1, none⟩) (by show w3.heap.size < _; omega)).trans x1
  replace x2 := (hV1V.cell (p := ⟨w3.heap.size, 2, none⟩) (by show w3.heap.size < _; omega)).trans x2
  replace y1 := (hV2V.cell (p := ⟨w4.heap.size, 1, none⟩) (by show w4.heap.size < _; omega)).trans y1
  replace y2 := (hV2V.cell (p := ⟨w4.heap.size, 2, none⟩) (by show w4.heap.size < _; omega)).trans y2
  obtain ⟨bb, oo, cc, TB, rfl, hlb, hat, hrd, -, -⟩ := Row.at_ RB.out (i := 0) (by simp)
  obtain ⟨AB, kB, rfl, -, -, rb0⟩ := open_list (show rd true w3 cc BK TB from hrd)
  have v0 := hat 0 _ rfl
  simp only [Nat.zero_mul, Nat.add_zero] at v0
  replace v0 := (hw3V.cell (p := ⟨bb, oo, none⟩) hlb).trans v0
  have RBV := Lib.hid (Row.weak (Row.later rb0 hw3V))
  have RS0 := Lib.hid (Row.weak (Row.later RS.out hw3V))
  have RS2 := Lib.hid (Row.weak (Row.later RS1.out hw4V))
  have RPV := Lib.hid (Row.weak (Row.later rp hbV))
  have RQV := Lib.hid (Row.weak (Row.later rq hbV))
  have hl3 : w3.heap.size < V.heap.size := by have := hw3V.size; have := hV1V.size; omega
  have hl4 : w4.heap.size < V.heap.size := by have := hV2V.size; omega
  have hl5 : w5.heap.size < V.heap.size := by omega
  have hlbV : bb < V.heap.size := by have := hw3V.size; omega
  have HALL := Lib.hid (fun (w' : World) (h : Below V.heap.size V w') => (⟨(h.cell (p := ⟨w3.heap.size, 1, none⟩) hl3).trans x1, (h.cell (p := ⟨w3.heap.size, 2, none⟩) hl3).trans x2, (h.cell (p := ⟨w4.heap.size, 1, none⟩) hl4).trans y1, (h.cell (p := ⟨w4.heap.size, 2, none⟩) hl4).trans y2, (h.cell (p := ⟨w5.heap.size, 0, none⟩) hl5).trans z0, (h.cell (p := ⟨w5.heap.size, 1, none⟩) hl5).trans z1, (h.cell (p := ⟨bb, oo, none⟩) hlbV).trans v0, h⟩ : w'.cell? ⟨w3.heap.size, 1, none⟩ = some (.slice (some ⟨bb, oo, none⟩) 1 b0) ∧ w'.cell? ⟨w3.heap.size, 2, none⟩ = some (.slice D0 SD.length d0) ∧ w'.cell? ⟨w4.heap.size, 1, none⟩ = some (.slice B1 1 b1) ∧ w'.cell? ⟨w4.heap.size, 2, none⟩ = some (.slice D1 SD.length d1) ∧ w'.cell? ⟨w5.heap.size, 0, none⟩ = some (.slice P0 BK.length q0) ∧ w'.cell? ⟨w5.heap.size, 1, none⟩ = some (.slice P1 SD.length q1) ∧ w'.cell? ⟨bb, oo, none⟩ = some (.slice AB BK.length kB) ∧ Below V.heap.size V w'))
  have HT1 := Lib.hid (fun W (h : Below V.heap.size V W) => laws_sameTexts W SD D0 d0 _ (Row.later RS0.out h) P1 q1 _ (Row.later RQV.out h) (by have := HSDl.out; omega))
  have HT2 := Lib.hid (fun W (h : Below V.heap.size V W) => laws_sameLeaves W BK AB kB _ (Row.later RBV.out h) P0 q0 _ (Row.later RPV.out h) (by omega))
  have HT3 := Lib.hid (fun W (h : Below V.heap.size V W) => laws_sameTexts W SD D1 d1 _ (Row.later RS2.out h) D0 d0 _ (Row.later RS0.out h) (by have := HSDl.out; omega))
  have HXV := Lib.hid (fun W (h : Below V.heap.size V W) NA Nc NS (hr : Row false W NA Nc [nm, nm] NS) h1 h2 => HXI.out W (HVW.out.trans (h.mono HVW.out.size)) NA Nc NS hr h1 h2)
  have hixI : I64 ((ix : Nat) : Int) := by unfold I64; omega
  have hB := Below.refl V.heap.size V
  clear hV hbV hV2V hw4V hV1V hw3V hb5 hr5 rp rq hat hrd rb0 hlb HC1 HC2 HC3
  go_region_held3 (fun w' => w'.cell? ⟨w3.heap.size, 1, none⟩ = some (.slice (some ⟨bb, oo, none⟩) 1 b0) ∧ w'.cell? ⟨w3.heap.size, 2, none⟩ = some (.slice D0 SD.length d0) ∧ w'.cell? ⟨w4.heap.size, 1, none⟩ = some (.slice B1 1 b1) ∧ w'.cell? ⟨w4.heap.size, 2, none⟩ = some (.slice D1 SD.length d1) ∧ w'.cell? ⟨w5.heap.size, 0, none⟩ = some (.slice P0 BK.length q0) ∧ w'.cell? ⟨w5.heap.size, 1, none⟩ = some (.slice P1 SD.length q1) ∧ w'.cell? ⟨bb, oo, none⟩ = some (.slice AB BK.length kB) ∧ Below V.heap.size V w')
    (first | exact HALL.out _ (by (repeat (first | with_reducible exact hB | with_reducible apply Below.drew | with_reducible refine Below.alloc ?_ ?_ _)); all_goals (first | omega | (simp; done) | (simp; omega))))
    (first | (go_at_call 26; with_reducible refine (HT1.out _ ?_).mono ?_; (exact (by (repeat (first | with_reducible exact hB | with_reducible apply Below.drew | with_reducible refine Below.alloc ?_ ?_ _)); all_goals (first | omega | (simp; done) | (simp; omega)))); rintro e6 w6 ⟨rfl, hb6⟩; have hB := Below.step (a := V) (by (repeat (first | with_reducible exact hB | with_reducible apply Below.drew | with_reducible refine Below.alloc ?_ ?_ _)); all_goals (first | omega | (simp; done) | (simp; omega))) hb6; have hs6 := hB.size) | (go_at_call 26; with_reducible refine (HT3.out _ ?_).mono ?_; (exact (by (repeat (first | with_reducible exact hB | with_reducible apply Below.drew | with_reducible refine Below.alloc ?_ ?_ _)); all_goals (first | omega | (simp; done) | (simp; omega)))); rintro e8 w8 ⟨rfl, hb8⟩; have hB := Below.step (a := V) (by (repeat (first | with_reducible exact hB | with_reducible apply Below.drew | with_reducible refine Below.alloc ?_ ?_ _)); all_goals (first | omega | (simp; done) | (simp; omega))) hb8; have hs8 := hB.size) | (go_at_call 27; with_reducible refine (HT2.out _ ?_).mono ?_; (exact (by (repeat (first | with_reducible exact hB | with_reducible apply Below.drew | with_reducible refine Below.alloc ?_ ?_ _)); all_goals (first | omega | (simp; done) | (simp; omega)))); rintro e7 w7 ⟨rfl, hb7⟩; have hB := Below.step (a := V) (by (repeat (first | with_reducible exact hB | with_reducible apply Below.drew | with_reducible refine Below.alloc ?_ ?_ _)); all_goals (first | omega | (simp; done) | (simp; omega))) hb7; have hs7 := hB.size) | (go_at_call 30; refine (HIX.out _).mono ?_; rintro e10 w10 ⟨rfl, hb10⟩; have hB := Below.step (a := V) (by (repeat (first | with_reducible exact hB | with_reducible apply Below.drew | with_reducible refine Below.alloc ?_ ?_ _)); all_goals (first | omega | (simp; done) | (simp; omega))) hb10; have hs10 := hB.size) | (go_at_call 29; refine (HXV.out _ ?hBX _ _ All ?hrow (show [nm, nm].length ≤ 2 from Nat.le_refl 2) (show 2 ≤ maxLen by decide)).mono ?_; (case hBX => exact (by (repeat (first | with_reducible exact hB | with_reducible apply Below.drew | with_reducible refine Below.alloc ?_ ?_ _)); all_goals (first | omega | (simp; done) | (simp; omega)))); (case hrow => first | exact rowAll (row_pairB _ nm nm hnx hnx _ _ rfl) | exact rowAll (row_pairB _ nm nm hnx hnx _ _ (by simp)) | exact rowAll (Row.later (row_pairB _ nm nm hnx hnx _ _ rfl) hb10) | exact rowAll (Row.later (row_pairB _ nm nm hnx hnx _ _ (by simp)) hb10) | exact rowAll (Row.later (row_pairB _ nm nm hnx hnx _ _ rfl) ((Below.refl _ _).alloc (Nat.le_refl _) _)) | exact rowAll (Row.later (row_pairB _ nm nm hnx hnx _ _ (by simp)) ((Below.refl _ _).alloc (Nat.le_refl _) _)) | exact rowAll (Row.later (Row.later (row_pairB _ nm nm hnx hnx _ _ rfl) hb10) ((Below.refl _ _).alloc (Nat.le_refl _) _))); rintro e9 w9 ⟨AX, cX, rfl, lX, mX, rX, hb9⟩; have hB := Below.step (a := V) (by (repeat (first | with_reducible exact hB | with_reducible apply Below.drew | with_reducible refine Below.alloc ?_ ?_ _)); all_goals (first | omega | (simp; done) | (simp; omega))) hb9; have hs9 := hB.size) | (go_at_call 28; refine (laws_sameInts _ [((ix : Nat) : Int)] AX cX All ?hrx _ 1 All ?hry (show 1 ≤ 4000000000 by decide)).mono ?_; (case hrx => first | exact rowAll (Row.weak rX) | exact rowAll (Row.later (Row.weak rX) ((Below.refl _ _).alloc (Nat.le_refl _) _)) | exact rowAll (Row.later (Row.weak rX) hb10) | exact rowAll (Row.later (Row.later (Row.weak rX) hb10) ((Below.refl _ _).alloc (Nat.le_refl _) _))); (case hry => first | exact rowAll (row_onei _ _ hixI _ _ rfl) | exact rowAll (row_onei _ _ hixI _ _ (by simp)) | exact rowAll (Row.later (row_onei _ _ hixI _ _ rfl) hb9) | exact rowAll (Row.later (row_onei _ _ hixI _ _ (by simp)) hb9) | exact rowAll (Row.later (Row.later (row_onei _ _ hixI _ _ rfl) ((Below.refl _ _).alloc (Nat.le_refl _) _)) hb9)); rintro e11 w11 ⟨rfl, hb11⟩; have hB := Below.step (a := V) (by (repeat (first | with_reducible exact hB | with_reducible apply Below.drew | with_reducible refine Below.alloc ?_ ?_ _)); all_goals (first | omega | (simp; done) | (simp; omega))) hb11; have hs11 := hB.size))
  all_goals (go_wp2)
  all_goals (go_ret)
  all_goals (exact ⟨rfl, HWW.out.trans (hB.mono HWW.out.size)⟩)
end Go.Proofs.YtojbehmbeoemgaaDoor
