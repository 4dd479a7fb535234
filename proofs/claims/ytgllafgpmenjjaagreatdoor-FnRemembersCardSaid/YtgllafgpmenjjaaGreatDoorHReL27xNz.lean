/- A part of the proof: what the laws need of it. -/
import Derived.Test.YtgllafgpmenjjaaGreatDoorHReL26xVd
import Derived.Test.YtgllafgpmenjjaaGreatDoorHReL11xDp
import Derived.Test.YtgllafgpmenjjaaGreatDoorHReL25xYg
import Derived.Deep.DeepCutAuto
import Derived.Deep.RegionHeld3
import Derived.Deep.RegionLaw
import Derived.BigQuiet
import Derived.Test.YtgllafgpmenjjaaGreatDoorHReL23xSkS
import Derived.Test.YtgllafgpmenjjaaGreatDoorHReL21xPr
import Derived.Test.YtgllafgpmenjjaaGreatDoorHReL24xPu
set_option linter.unusedVariables false
set_option linter.unusedSimpArgs false
set_option linter.unusedVariables false
set_option linter.unusedSimpArgs false
namespace Go.Proofs.YtgllafgpmenjjaaGreatDoor
open Go.RowKit Lay Mk
set_option maxRecDepth 20000 in set_option maxHeartbeats 16000000 in
theorem spec_SidesOf (w : World) (xs : List Leaf) (A : Option Addr) (cap : Nat) (S : Blks) (hx : Row false w A cap xs S) (hok : leavesOk xs = true) (ix : Nat) (hix : ix < 256) (m : Nat) (hm : m ≤ 8) (n : Int) (hn : inB n 1 32 = true) : Calls Tryz.prog 117 #[.slice A xs.length cap, .int .i64 (ix : Int), .int .i64 (8 - (m : Int)), .int .i64 n] w (OwnRes (sidesD n ix xs m) w) := by
  have hl := leavesOk_len hok
  have hz : szL xs ≤ 1048576 := by have := szL_ok (leavesOk_all hok); omega
  have hnn : I64 n := by have : 1 ≤ n ∧ n ≤ 32 := by simpa [inB] using hn
                         unfold I64; omega
  have HOK := Lib.hid hok
  have HLV := Lib.hid (fun W (h : Below w.heap.size w W) => spec_LeavesOk W xs A cap S (Row.later hx h) (by omega))
  rw [hok] at HLV
  have HI1 := Lib.hid (fun W => spec_in (ix : Int) 0 255 W)
  have HI2 := Lib.hid (fun W => spec_in (8 - (m : Int)) 0 8 W)
  have HI3 := Lib.hid (fun W => spec_in n 1 32 W)
  rw [show inB (ix : Int) 0 255 = true from inB_yes (by omega) (by omega)] at HI1
  rw [show inB (8 - (m : Int)) 0 8 = true from inB_yes (by omega) (by omega)] at HI2
  rw [hn] at HI3
  have HSP := Lib.hid (fun W (h : Below w.heap.size w W) => spec_l10Spots W xs A cap S (Row.later hx h) (by omega) hz)
  clear hx hok hn hz
  go_enter Tryz.func117, Tryz.ntmps117
  go_wp2_with (fail)
  have HR0 := Lib.hid (row_lit0 (α := ByteArray) w 9 (fun b => b = w.heap.size) rfl rfl)
  refine (HLV.out _ ((Below.refl _ _).alloc (Nat.le_refl _) _)).mono ?_
  rintro e1 w1 ⟨rfl, hb1⟩
  have HB1 := Lib.hid (Below.via hb1)
  have HR1 := Lib.hid (Row.later HR0.out hb1)
  have hg1 : w.heap.size < w1.heap.size := by have := hb1.size; rw [World.size_alloc] at this; omega
  clear hb1
  go_wp2_with (first | (go_at_call 87; with_reducible refine (HI1.out _).mono ?_; rintro e2 w2 ⟨rfl, rfl⟩) | (go_at_call 87; with_reducible refine (HI2.out _).mono ?_; rintro e2 w2 ⟨rfl, rfl⟩) | (go_at_call 87; with_reducible refine (HI3.out _).mono ?_; rintro e2 w2 ⟨rfl, rfl⟩))
  refine (HSP.out _ HB1.out).mono ?_
  rintro e2 w2 ⟨A2, c2, rfl, o2⟩
  simp only [spotsOf_len]
  have O2 := Lib.hid o2
  have HR2 := Lib.hid (Row.later HR1.out o2.bl)
  have hg2 : w1.heap.size ≤ w2.heap.size := o2.bl.size
  have HB2 := Lib.hid (HB1.out.trans (o2.bl.mono HB1.out.size))
  clear o2
  go_wp2_with (fail)
  refine (spec_l10Empties _ n hnn).mono ?_
  rintro e3 w3 ⟨bE, rfl, hbL, hbE, hE, hb3⟩
  have hg3 : w2.heap.size ≤ w3.heap.size := hb3.size
  have HR3 := Lib.hid (Row.later HR2.out hb3)
  have HB3 := Lib.hid (HB2.out.trans (hb3.mono HB2.out.size))
  have RS3 := Lib.hid (Row.later O2.out.rng hb3)
  have HE3 := Lib.hid hE
  clear hE hb3
  go_wp2
  go_loopw [9, 12] (fun u i wr => ∃ (k : Nat) (A4 : Option Addr) (c4 : Nat), k ≤ m ∧ i = .int .i64 (8 - (k : Int)) ∧ u = .slice A4 k c4 ∧ Hid (Row true wr A4 c4 (sidesD n ix xs k) (fun b => b = w.heap.size ∨ w3.heap.size ≤ b)) ∧ Hid (k ≤ c4 ∧ c4 ≤ maxLen) ∧ Hid (Chg (fun b => b = w.heap.size ∨ w3.heap.size ≤ b) w3 wr)) (fun _ i _ => (intOf i).toNat)
  case atStart => exact ⟨0, some ⟨w.heap.size, 0, none⟩, 0, Nat.zero_le _, rfl, rfl, Lib.hid (HR3.out.mono (fun b h => Or.inl h)), Lib.hid ⟨Nat.le_refl _, by decide⟩, Lib.hid (Chg.refl _ _)⟩
  case round =>
    obtain ⟨k, A4, c4, hk, rfl, rfl, HR, HC, HG⟩ := hrel
    have hwr := HG.out.size
    by_cases hlt : k < m
    · have hgt : (8 : Int) - (k : Int) > 8 - (m : Int) := by omega
      have hw1 : IntKind.i64.wrap (8 - (k : Int) - 1) = 8 - (k : Int) - 1 := IntWalk.i64_in _ (by omega)
      have hw2 : IntKind.i64.wrap (8 - (8 - (k : Int))) = (k : Int) := by rw [IntWalk.i64_in] <;> omega
      have hw3 : IntKind.u64.wrap (k : Int) = (k : Int) := by
        rcases (show k = 0 ∨ k = 1 ∨ k = 2 ∨ k = 3 ∨ k = 4 ∨ k = 5 ∨ k = 6 ∨ k = 7 ∨ k = 8 by omega) with rfl | rfl | rfl | rfl | rfl | rfl | rfl | rfl | rfl <;> rfl
      have HNL := Lib.hid (sidesD_len n ix xs k)
      have HSL := Lib.hid (spotsOf_len xs)
      have RSr := Lib.hid (Row.chgS HG.out RS3.out (fun b h1 h2 h3 => by have := h1.1; have := h1.2; rcases h3 with h3 | h3 <;> omega))
      have HEr := Lib.hid (fun (j : Nat) (hj : j ≤ 8) => (HG.out.cell (b := bE) (o := j) hbE (fun h3 => by rcases h3 with h3 | h3 <;> omega)).trans (HE3.out j hj))
      have HN := Lib.hid (spec_l10Node n hnn k (by omega) wr ((ix / 2 ^ k) ^^^ 1) (place_lt hix hlt hm) xs HOK.out A2 c2 _ RSr.out.weak bE (Nat.lt_of_lt_of_le hbE hwr) HEr.out)
      have hnm := nodeD_max n k ((ix / 2 ^ k) ^^^ 1) xs
      have HSS : Hid (sidesD n ix xs (k + 1) = sidesD n ix xs k ++ [nodeD n k ((ix / 2 ^ k) ^^^ 1) xs]) := Lib.hid rfl
      obtain ⟨a, hae⟩ : ∃ a, nodeD n k ((ix / 2 ^ k) ^^^ 1) xs = a := ⟨_, rfl⟩
      rw [hae] at HN hnm HSS
      have hbx : (((ix / 2 ^ k) ^^^ 1 : Nat) : Int) = bits .xor .i64 ((ix : Int) / 2 ^ k) 1 := by
        rw [← xor1 (Nat.lt_of_le_of_lt (Nat.div_le_self _ _) hix), Int.natCast_ediv, Int.natCast_pow]; rfl
      rw [hbx] at HN
      clear hae hbx
      go_wp2_with (fail)
      refine HN.out.mono ?_
      rintro e5 w5 ⟨rfl, hb5⟩
      have HR5 := Lib.hid (Row.later HR.out hb5)
      have HG5 := Lib.hid (HG.out.below hb5 hwr)
      clear hb5
      go_wp2_with (at_builtin; refine wpList_app (α := ByteArray) rfl _ _ rfl rfl HNL.out.symm (HR5.out.allocC _) HC.out.1 HC.out.2 rfl rfl (src1 hnm (by first | rfl | simp) rfl) (disj_none_ _) (by omega) ?_; intro A6 c6 w6 p1 p2 p3 p4)
      have HP := Lib.hid (And.intro p1 (And.intro p2 (And.intro p3 p4)))
      clear p1 p2 p3 p4
      go_roundw
      case rel => exact ⟨k + 1, A6, c6, hlt, by go_num, rfl, Lib.hid (by rw [HSS.out]; exact row_og HP.out.2.2.1 (fun b hb => Or.inr (by have := HG5.out.size; rw [World.size_alloc] at hb; omega))), Lib.hid ⟨HP.out.1, HP.out.2.1⟩, Lib.hid ((HG5.out.alloc _).trans HP.out.2.2.2)⟩
      case measure => simp [intOf]; omega
    · have hke : k = m := by omega
      subst hke
      have HNL := Lib.hid (sidesD_len n ix xs k)
      have HBF := Lib.hid (HB3.out.trans (HG.out.to_below HB3.out.size (fun b h => by rcases h with h | h; omega; have := HB3.out.size; omega)))
      go_wp2
      go_ret
      exact OwnRes.mk (c := c4) (A := A4) ⟨HR.out.mono (fun b h => by show w.heap.size ≤ b; rcases h with h | h <;> omega), by rw [HNL.out]; exact HC.out.1, HC.out.2, HBF.out⟩ rfl HNL.out.symm
set_option maxRecDepth 20000 in set_option maxHeartbeats 16000000 in
theorem spec_ProveLeaf (w : World) (xs : List Leaf) (A : Option Addr) (cap : Nat) (S : Blks) (hx : Row false w A cap xs S) (hl : xs.length ≤ 1048576) (hz : szL xs ≤ 1048576) (name : ByteArray) (hn : name.size ≤ 1048576) (lv : Int) (hlv : I64 lv) (n : Int) (hnn : I64 n) : Calls Tryz.prog 116 #[.slice A xs.length cap, .string name, .int .i64 lv, .int .i64 n] w (PlRes (proveLeaf xs name lv n) w) := by
  have hnm : name.size ≤ maxLen := by unfold maxLen; omega
  have HLV := Lib.hid (fun W (h : Below w.heap.size w W) => spec_LeavesOk W xs A cap S (Row.later hx h) (by omega))
  have HNM := Lib.hid (fun W => spec_NameOk name W hnm)
  have HIN := Lib.hid (fun W => spec_in lv 0 8 W)
  have HIW := Lib.hid (fun W => spec_in n 1 32 W)
  have HF : Hid (proveLeaf xs name lv n = if (leavesOk xs && (nameOk name && (inB lv 0 8 && inB n 1 32))) = true then (⟨bucketOf xs (indexOf name), sidesD n (indexOf name) xs (8 - lv.toNat)⟩, true) else (⟨[], []⟩, false)) := Lib.hid rfl
  obtain ⟨R, hR⟩ : ∃ R, proveLeaf xs name lv n = R := ⟨_, rfl⟩
  rw [hR] at HF ⊢
  clear hR
  have hWd : ∀ W, W = w.alloc (.cells #[.slice none 0 0, .slice none 0 0] 57) → Below w.heap.size w W ∧ W.cell? ⟨w.heap.size, 0, none⟩ = some (.slice none 0 0) ∧ W.cell? ⟨w.heap.size, 1, none⟩ = some (.slice none 0 0) ∧ (∀ o, W.frozen? ⟨w.heap.size, o, none⟩ = false) ∧ w.heap.size < W.heap.size := by
    rintro W rfl
    exact ⟨(Below.refl _ _).alloc (Nat.le_refl _) _, box_cell _ _ _ _ _ rfl, box_cell _ _ _ _ _ rfl, fun o => by simp, by simp⟩
  cases h1 : leavesOk xs <;> rw [h1] at HLV
  · have HE : Hid (R = (⟨[], []⟩, false)) := Lib.hid (by rw [HF.out, h1]; simp)
    clear HF h1
    go_enter Tryz.func116, Tryz.ntmps116
    go_wp2_with (fail)
    obtain ⟨W, hW⟩ : ∃ W, w.alloc (.cells #[.slice none 0 0, .slice none 0 0] 57) = W := ⟨_, rfl⟩
    rw [hW]
    obtain ⟨hBW, z0, z1, zf, hlW⟩ := hWd W hW.symm
    clear hW hWd
    refine (HLV.out _ hBW).mono ?_
    rintro e1 w1 ⟨rfl, hb1⟩
    replace z0 := (hb1.cell (p := ⟨w.heap.size, 0, none⟩) hlW).trans z0
    replace z1 := (hb1.cell (p := ⟨w.heap.size, 1, none⟩) hlW).trans z1
    replace zf := fun o => (hb1.frozen (p := ⟨w.heap.size, o, none⟩) hlW).trans (zf o)
    have hl1 : w.heap.size < w1.heap.size := Nat.lt_of_lt_of_le hlW hb1.size
    have HB1 := Lib.hid (hBW.trans (hb1.mono hBW.size))
    clear hBW hb1 hlW
    go_wp2_with (first | (go_at_call 159; refine (HNM.out _).mono ?_; rintro e2 w2 ⟨rfl, rfl⟩) | (go_at_call 87; with_reducible refine (HIN.out _).mono ?_; rintro e3 w3 ⟨rfl, rfl⟩) | (go_at_call 87; with_reducible refine (HIW.out _).mono ?_; rintro e4 w4 ⟨rfl, rfl⟩))
    refine bodyPost_ret (v := .tuple #[.agg #[.slice none 0 0, .slice none 0 0], .bool false]) (by simp [results, Tryz.results116, go_sem, *]) rfl ?_
    exact PlRes.nil HE.out (Below.setCell (Below.setCell HB1.out (Nat.le_refl _) _) (Nat.le_refl _) _)
  cases h2 : nameOk name <;> rw [h2] at HNM
  · have HE : Hid (R = (⟨[], []⟩, false)) := Lib.hid (by rw [HF.out, h1, h2]; simp)
    clear HF h1 h2
    go_enter Tryz.func116, Tryz.ntmps116
    go_wp2_with (fail)
    obtain ⟨W, hW⟩ : ∃ W, w.alloc (.cells #[.slice none 0 0, .slice none 0 0] 57) = W := ⟨_, rfl⟩
    rw [hW]
    obtain ⟨hBW, z0, z1, zf, hlW⟩ := hWd W hW.symm
    clear hW hWd
    refine (HLV.out _ hBW).mono ?_
    rintro e1 w1 ⟨rfl, hb1⟩
    replace z0 := (hb1.cell (p := ⟨w.heap.size, 0, none⟩) hlW).trans z0
    replace z1 := (hb1.cell (p := ⟨w.heap.size, 1, none⟩) hlW).trans z1
    replace zf := fun o => (hb1.frozen (p := ⟨w.heap.size, o, none⟩) hlW).trans (zf o)
    have hl1 : w.heap.size < w1.heap.size := Nat.lt_of_lt_of_le hlW hb1.size
    have HB1 := Lib.hid (hBW.trans (hb1.mono hBW.size))
    clear hBW hb1 hlW
    go_wp2_with (first | (go_at_call 159; refine (HNM.out _).mono ?_; rintro e2 w2 ⟨rfl, rfl⟩) | (go_at_call 87; with_reducible refine (HIN.out _).mono ?_; rintro e3 w3 ⟨rfl, rfl⟩) | (go_at_call 87; with_reducible refine (HIW.out _).mono ?_; rintro e4 w4 ⟨rfl, rfl⟩))
    refine bodyPost_ret (v := .tuple #[.agg #[.slice none 0 0, .slice none 0 0], .bool false]) (by simp [results, Tryz.results116, go_sem, *]) rfl ?_
    exact PlRes.nil HE.out (Below.setCell (Below.setCell HB1.out (Nat.le_refl _) _) (Nat.le_refl _) _)
  cases h3 : inB lv 0 8 <;> rw [h3] at HIN
  · have HE : Hid (R = (⟨[], []⟩, false)) := Lib.hid (by rw [HF.out, h1, h2, h3]; simp)
    clear HF h1 h2 h3
    go_enter Tryz.func116, Tryz.ntmps116
    go_wp2_with (fail)
    obtain ⟨W, hW⟩ : ∃ W, w.alloc (.cells #[.slice none 0 0, .slice none 0 0] 57) = W := ⟨_, rfl⟩
    rw [hW]
    obtain ⟨hBW, z0, z1, zf, hlW⟩ := hWd W hW.symm
    clear hW hWd
    refine (HLV.out _ hBW).mono ?_
    rintro e1 w1 ⟨rfl, hb1⟩
    replace z0 := (hb1.cell (p := ⟨w.heap.size, 0, none⟩) hlW).trans z0
    replace z1 := (hb1.cell (p := ⟨w.heap.size, 1, none⟩) hlW).trans z1
    replace zf := fun o => (hb1.frozen (p := ⟨w.heap.size, o, none⟩) hlW).trans (zf o)
    have hl1 : w.heap.size < w1.heap.size := Nat.lt_of_lt_of_le hlW hb1.size
    have HB1 := Lib.hid (hBW.trans (hb1.mono hBW.size))
    clear hBW hb1 hlW
    go_wp2_with (first | (go_at_call 159; refine (HNM.out _).mono ?_; rintro e2 w2 ⟨rfl, rfl⟩) | (go_at_call 87; with_reducible refine (HIN.out _).mono ?_; rintro e3 w3 ⟨rfl, rfl⟩) | (go_at_call 87; with_reducible refine (HIW.out _).mono ?_; rintro e4 w4 ⟨rfl, rfl⟩))
    refine bodyPost_ret (v := .tuple #[.agg #[.slice none 0 0, .slice none 0 0], .bool false]) (by simp [results, Tryz.results116, go_sem, *]) rfl ?_
    exact PlRes.nil HE.out (Below.setCell (Below.setCell HB1.out (Nat.le_refl _) _) (Nat.le_refl _) _)
  cases h4 : inB n 1 32 <;> rw [h4] at HIW
  · have HE : Hid (R = (⟨[], []⟩, false)) := Lib.hid (by rw [HF.out, h1, h2, h3, h4]; simp)
    clear HF h1 h2 h3 h4
    go_enter Tryz.func116, Tryz.ntmps116
    go_wp2_with (fail)
    obtain ⟨W, hW⟩ : ∃ W, w.alloc (.cells #[.slice none 0 0, .slice none 0 0] 57) = W := ⟨_, rfl⟩
    rw [hW]
    obtain ⟨hBW, z0, z1, zf, hlW⟩ := hWd W hW.symm
    clear hW hWd
    refine (HLV.out _ hBW).mono ?_
    rintro e1 w1 ⟨rfl, hb1⟩
    replace z0 := (hb1.cell (p := ⟨w.heap.size, 0, none⟩) hlW).trans z0
    replace z1 := (hb1.cell (p := ⟨w.heap.size, 1, none⟩) hlW).trans z1
    replace zf := fun o => (hb1.frozen (p := ⟨w.heap.size, o, none⟩) hlW).trans (zf o)
    have hl1 : w.heap.size < w1.heap.size := Nat.lt_of_lt_of_le hlW hb1.size
    have HB1 := Lib.hid (hBW.trans (hb1.mono hBW.size))
    clear hBW hb1 hlW
    go_wp2_with (first | (go_at_call 159; refine (HNM.out _).mono ?_; rintro e2 w2 ⟨rfl, rfl⟩) | (go_at_call 87; with_reducible refine (HIN.out _).mono ?_; rintro e3 w3 ⟨rfl, rfl⟩) | (go_at_call 87; with_reducible refine (HIW.out _).mono ?_; rintro e4 w4 ⟨rfl, rfl⟩))
    refine bodyPost_ret (v := .tuple #[.agg #[.slice none 0 0, .slice none 0 0], .bool false]) (by simp [results, Tryz.results116, go_sem, *]) rfl ?_
    exact PlRes.nil HE.out (Below.setCell (Below.setCell HB1.out (Nat.le_refl _) _) (Nat.le_refl _) _)
  have HE : Hid (R = (⟨bucketOf xs (indexOf name), sidesD n (indexOf name) xs (8 - lv.toNat)⟩, true)) := Lib.hid (by rw [HF.out, h1, h2, h3, h4]; rfl)
  have hlv8 : 0 ≤ lv ∧ lv ≤ 8 := by simpa [inB] using h3
  obtain ⟨m, hm, hm8⟩ : ∃ m : Nat, lv = 8 - (m : Int) ∧ m ≤ 8 := ⟨8 - lv.toNat, by omega, by omega⟩
  have HMM : Hid (8 - lv.toNat = m) := Lib.hid (by omega)
  have HOK := Lib.hid h1
  have HN32 := Lib.hid h4
  clear HF h1 h2 h3 h4 hlv8
  subst hm
  rw [HMM.out] at HE
  have hix := indexOf_lt name
  have HIX := Lib.hid (fun W => spec_IndexOf W name (by omega))
  obtain ⟨ix, hixe⟩ : ∃ ix, indexOf name = ix := ⟨_, rfl⟩
  rw [hixe] at HE HIX hix
  clear hixe
  have HBK := Lib.hid (fun W (h : Below w.heap.size w W) => spec_BucketOf W xs A cap S (Row.later hx h) hl hz (ix : Int))
  have HSD := Lib.hid (fun W (h : Below w.heap.size w W) => spec_SidesOf W xs A cap S (Row.later hx h) HOK.out ix hix m hm8 n HN32.out)
  go_enter Tryz.func116, Tryz.ntmps116
  go_wp2_with (fail)
  obtain ⟨W, hW⟩ : ∃ W, w.alloc (.cells #[.slice none 0 0, .slice none 0 0] 57) = W := ⟨_, rfl⟩
  rw [hW]
  obtain ⟨hBW, z0, z1, zf, hlW⟩ := hWd W hW.symm
  clear hW hWd
  refine (HLV.out _ hBW).mono ?_
  rintro e1 w1 ⟨rfl, hb1⟩
  replace z0 := (hb1.cell (p := ⟨w.heap.size, 0, none⟩) hlW).trans z0
  replace z1 := (hb1.cell (p := ⟨w.heap.size, 1, none⟩) hlW).trans z1
  replace zf := fun o => (hb1.frozen (p := ⟨w.heap.size, o, none⟩) hlW).trans (zf o)
  have hl1 : w.heap.size < w1.heap.size := Nat.lt_of_lt_of_le hlW hb1.size
  have HB1 := Lib.hid (hBW.trans (hb1.mono hBW.size))
  clear hBW hb1 hlW
  go_wp2_with (first | (go_at_call 159; refine (HNM.out _).mono ?_; rintro e2 w2 ⟨rfl, rfl⟩) | (go_at_call 87; with_reducible refine (HIN.out _).mono ?_; rintro e3 w3 ⟨rfl, rfl⟩) | (go_at_call 87; with_reducible refine (HIW.out _).mono ?_; rintro e4 w4 ⟨rfl, rfl⟩))
  refine (HIX.out _).mono ?_
  rintro e5 w5 ⟨rfl, hb5⟩
  have HB5 := Lib.hid (HB1.out.trans (hb5.mono HB1.out.size))
  replace z0 := (hb5.cell (p := ⟨w.heap.size, 0, none⟩) hl1).trans z0
  replace z1 := (hb5.cell (p := ⟨w.heap.size, 1, none⟩) hl1).trans z1
  replace zf := fun o => (hb5.frozen (p := ⟨w.heap.size, o, none⟩) hl1).trans (zf o)
  have hl5 : w.heap.size < w5.heap.size := Nat.lt_of_lt_of_le hl1 hb5.size
  clear hb5
  go_wp2_with (fail)
  refine (HBK.out _ HB5.out).mono ?_
  rintro e6 w6 ⟨A6, c6, rfl, o6⟩
  have hb6 := o6.bl
  have HB6 := Lib.hid (HB5.out.trans (hb6.mono HB5.out.size))
  replace z0 := (hb6.cell (p := ⟨w.heap.size, 0, none⟩) hl5).trans z0
  replace z1 := (hb6.cell (p := ⟨w.heap.size, 1, none⟩) hl5).trans z1
  replace zf := fun o => (hb6.frozen (p := ⟨w.heap.size, o, none⟩) hl5).trans (zf o)
  have hl6 : w.heap.size < w6.heap.size := Nat.lt_of_lt_of_le hl5 hb6.size
  have O6 := Lib.hid o6
  clear hb6 o6
  go_wp2_with (fail)
  refine (HIX.out _).mono ?_
  rintro e7 w7 ⟨rfl, hb7⟩
  have HB7 := Lib.hid (HB6.out.trans (hb7.mono HB6.out.size))
  replace z0 := (hb7.cell (p := ⟨w.heap.size, 0, none⟩) hl6).trans z0
  replace z1 := (hb7.cell (p := ⟨w.heap.size, 1, none⟩) hl6).trans z1
  replace zf := fun o => (hb7.frozen (p := ⟨w.heap.size, o, none⟩) hl6).trans (zf o)
  have hl7 : w.heap.size < w7.heap.size := Nat.lt_of_lt_of_le hl6 hb7.size
  have HB67 := Lib.hid hb7
  clear hb7
  go_wp2_with (fail)
  refine (HSD.out _ HB7.out).mono ?_
  rintro e8 w8 ⟨A8, c8, rfl, o8⟩
  have hb8 := o8.bl
  have HB8 := Lib.hid (HB7.out.trans (hb8.mono HB7.out.size))
  replace z0 := (hb8.cell (p := ⟨w.heap.size, 0, none⟩) hl7).trans z0
  replace z1 := (hb8.cell (p := ⟨w.heap.size, 1, none⟩) hl7).trans z1
  replace zf := fun o => (hb8.frozen (p := ⟨w.heap.size, o, none⟩) hl7).trans (zf o)
  have hl8 : w.heap.size < w8.heap.size := Nat.lt_of_lt_of_le hl7 hb8.size
  have O8 := Lib.hid o8
  clear hb8 o8
  obtain ⟨B, hBe⟩ : ∃ B, bucketOf xs (ix : Int) = B := ⟨_, rfl⟩
  obtain ⟨L, hLe⟩ : ∃ L, sidesD n ix xs m = L := ⟨_, rfl⟩
  rw [hBe] at HE O6
  rw [hLe] at HE O8
  simp only [hBe, hLe]
  clear hBe hLe
  have HL5 := Lib.hid hl5
  go_wp2
  refine bodyPost_ret (v := .tuple #[.agg #[.slice A6 B.length c6, .slice A8 L.length c8], .bool true]) (by simp [results, Tryz.results116, go_sem, *]) rfl ?_
  have s6 := O6.out.size
  have s7 := HB67.out.size
  have s8 := O8.out.size
  have hn1 : ∀ o : Nat, ¬ rng w5.heap.size w6.heap.size (⟨w.heap.size, o, none⟩ : Addr).block := fun o h => by have h1 := h.1; have := HL5.out; simp only at h1; omega
  have hn2 : ∀ o : Nat, ¬ rng w7.heap.size w8.heap.size (⟨w.heap.size, o, none⟩ : Addr).block := fun o h => by have h1 := h.1; simp only at h1; omega
  have r6 := Row.later O6.out.rng (HB67.out.trans (O8.out.bl.mono HB67.out.size))
  exact PlRes.mk HE.out rfl rfl O6.out.le O6.out.cm ((r6.setC (hn1 0) _).setC (hn1 1) _) O8.out.le O8.out.cm ((O8.out.rng.setC (hn2 0) _).setC (hn2 1) _) (fun b h1 h2 => by have := h1.2; have := h2.1; omega) (fun b h => by have := h.1; have := h.2; have := HL5.out; unfold rng; simp; omega) (fun b h => by have := h.1; have := h.2; unfold rng; simp; omega) (Below.setCell (Below.setCell HB8.out (Nat.le_refl _) _) (Nat.le_refl _) _)
end Go.Proofs.YtgllafgpmenjjaaGreatDoor

set_option linter.unusedVariables false
set_option linter.unusedSimpArgs false
namespace Go.Proofs.YtgllafgpmenjjaaGreatDoor
open Go.RowKit Lay Mk
theorem opens_snoc (seed : ByteArray) (a : Int) (bits k : Nat) : opensTo seed a bits (k + 1) = opensTo seed a bits k ++ [secretOf seed a (k : Int) (bitOf bits k : Int)] := rfl
theorem shuts_snoc (seed : ByteArray) (a : Int) (bits k : Nat) : shutsTo seed a bits (k + 1) = shutsTo seed a bits k ++ [lockOf (secretOf seed a (k : Int) ((1 - bitOf bits k : Nat) : Int))] := rfl
set_option maxRecDepth 20000 in set_option maxHeartbeats 16000000 in
theorem spec_SignText (w : World) (seed : ByteArray) (hs : seed.size ≤ 100) (A : Option Addr) (cap : Nat) (S : Blks) (hx : Row false w A cap (poolOf seed) S) (a : Nat) (ha : a < 16) (t : ByteArray) (ht : t.size ≤ 200) : Calls Tryz.prog 164 #[.string seed, .slice A (poolOf seed).length cap, .int .i64 a, .string t] w (SgRes (signSig seed a t) w) := by
  have hpl : (poolOf seed).length = 16 := poolTo_len seed 16
  have hsm : seed.size ≤ maxLen := by unfold maxLen; omega
  have HPG : Hid ((poolOf seed)[a]'(by rw [hpl]; exact ha) = publicOf seed a) := Lib.hid (by rw [← getD_lt]; exact poolTo_at seed 16 a ha)
  have HSB : Hid (sidesUp 4 a (poolOf seed) = (signSig seed a t).sides) := Lib.hid rfl
  have HSO : Hid (opensTo seed a (signBits t) 8 = (signSig seed a t).open_) := Lib.hid rfl
  have HSS : Hid (shutsTo seed a (signBits t) 8 = (signSig seed a t).shut) := Lib.hid rfl
  have HSA : Hid ((a : Int) = (signSig seed a t).at_) := Lib.hid rfl
  have hp16 := publicOf_yes (pub_in hs ha)
  have HPU := Lib.hid (fun W => spec_PublicOf W seed hsm (a : Int))
  have HSC := Lib.hid (fun W (b v : Int) => spec_SecretOf W seed hsm (a : Int) b v)
  have HSL := Lib.hid (fun (b v : Int) => secretOf_le seed (a : Int) b v)
  have HBT := Lib.hid (fun W => spec_SignBitsOf W t ht)
  have hbl := signBits_lt t
  have HIN := Lib.hid (fun W => spec_in (a : Int) 0 15 W)
  rw [show inB (a : Int) 0 15 = true by simp [inB]; omega] at HIN
  have HSRC := Lib.hid (fun W (h : Below w.heap.size w W) => Src.flat (Row.later hx h))
  rw [hpl]
  obtain ⟨R, hR⟩ : ∃ R, signSig seed a t = R := ⟨_, rfl⟩
  rw [hR] at HSB HSO HSS HSA ⊢
  obtain ⟨b1, o1, rfl, hl1, f0, -⟩ := Row.str hx (i := a) (by rw [hpl]; exact ha)
  rw [HPG.out] at f0
  clear HPG hx
  obtain ⟨P, hP⟩ : ∃ l, poolOf seed = l := ⟨_, rfl⟩
  rw [hP] at hpl HSB HSRC
  obtain ⟨pub, hpub⟩ : ∃ s, publicOf seed a = s := ⟨_, rfl⟩
  rw [hpub] at f0 hp16 HPU
  obtain ⟨bits, hbits⟩ : ∃ n, signBits t = n := ⟨_, rfl⟩
  rw [hbits] at HSO HSS HBT hbl
  clear hR hP hpub hbits
  have HF0 := Lib.hid f0
  have HPL := Lib.hid hpl
  have hne : ¬ pub.toList = [] := str_nonempty hp16
  have hneb : (pub.toList == ([] : List UInt8)) = false := by simpa using hne
  have ht2 : decide ((200 : Int) < (t.size : Int)) = false := decide_eq_false (by omega)
  have ha2 : (a : Int) < 16 := by omega
  have ha0 : (0 : Int) ≤ (a : Int) := by omega
  clear hpl f0
  go_enter Tryz.func164, Tryz.ntmps164
  go_wp2_with (go_at_call 87; refine (HIN.out _).mono ?_; rintro e3 w3 ⟨rfl, rfl⟩)
  obtain ⟨W, hW⟩ : ∃ W, w.alloc (.cells #[.int .i64 0, .slice none 0 0, .slice none 0 0, .slice none 0 0] 59) = W := ⟨_, rfl⟩
  rw [hW]
  have hWf : Below w.heap.size w W ∧ W.heap.size = w.heap.size + 1 ∧ W.cell? ⟨w.heap.size, 0, none⟩ = some (.int .i64 0) ∧ W.cell? ⟨w.heap.size, 1, none⟩ = some (.slice none 0 0) ∧ W.cell? ⟨w.heap.size, 2, none⟩ = some (.slice none 0 0) ∧ W.cell? ⟨w.heap.size, 3, none⟩ = some (.slice none 0 0) ∧ (∀ o, W.frozen? ⟨w.heap.size, o, none⟩ = false) := by
    rw [← hW]; exact ⟨(Below.refl _ _).alloc (Nat.le_refl _) _, by simp, box_cell _ _ _ _ _ rfl, box_cell _ _ _ _ _ rfl, box_cell _ _ _ _ _ rfl, box_cell _ _ _ _ _ rfl, fun o => by simp⟩
  obtain ⟨hBW, hsW, z0, z1, z2, z3, zf⟩ := hWf
  have HBW := Lib.hid hBW
  have hlW : w.heap.size < W.heap.size := by omega
  have HZW := Lib.hid (fun (w' : World) (h : Below W.heap.size W w') => (⟨(h.cell (p := ⟨w.heap.size, 0, none⟩) hlW).trans z0, (h.cell (p := ⟨w.heap.size, 1, none⟩) hlW).trans z1, (h.cell (p := ⟨w.heap.size, 2, none⟩) hlW).trans z2, (h.cell (p := ⟨w.heap.size, 3, none⟩) hlW).trans z3, fun o => (h.frozen (p := ⟨w.heap.size, o, none⟩) hlW).trans (zf o)⟩ : w'.cell? ⟨w.heap.size, 0, none⟩ = some (.int .i64 0) ∧ w'.cell? ⟨w.heap.size, 1, none⟩ = some (.slice none 0 0) ∧ w'.cell? ⟨w.heap.size, 2, none⟩ = some (.slice none 0 0) ∧ w'.cell? ⟨w.heap.size, 3, none⟩ = some (.slice none 0 0) ∧ ∀ o, w'.frozen? ⟨w.heap.size, o, none⟩ = false))
  clear hW hBW hsW z0 z1 z2 z3 zf
  refine (HPU.out W).mono ?_
  rintro e0 B0 ⟨rfl, hb0⟩
  have HB0 := Lib.hid hb0
  have HB0w := Lib.hid (HBW.out.trans (hb0.mono HBW.out.size))
  have f0 := (HB0w.out.cell (p := ⟨b1, o1 + a, none⟩) hl1).trans HF0.out
  have hs0 := hb0.size
  clear hb0 HPU
  go_wp2_with (fail)
  obtain ⟨M, hM⟩ : ∃ M, B0.alloc (.cells #[.int .i64 (a : Int), .slice none 0 0, .slice none 0 0, .slice none 0 0] 59) = M := ⟨_, rfl⟩
  rw [hM]
  have hMf : Below B0.heap.size B0 M ∧ M.heap.size = B0.heap.size + 1 ∧ M.cell? ⟨B0.heap.size, 0, none⟩ = some (.int .i64 (a : Int)) ∧ M.cell? ⟨B0.heap.size, 1, none⟩ = some (.slice none 0 0) ∧ M.cell? ⟨B0.heap.size, 2, none⟩ = some (.slice none 0 0) ∧ M.cell? ⟨B0.heap.size, 3, none⟩ = some (.slice none 0 0) ∧ ∀ o, M.frozen? ⟨B0.heap.size, o, none⟩ = false := by
    rw [← hM]; exact ⟨(Below.refl _ _).alloc (Nat.le_refl _) _, by simp, box_cell _ _ _ _ _ rfl, box_cell _ _ _ _ _ rfl, box_cell _ _ _ _ _ rfl, box_cell _ _ _ _ _ rfl, fun o => by simp⟩
  obtain ⟨hbM, hsM, p0, p1, p2, p3, pf⟩ := hMf
  have HBM := Lib.hid (HB0.out.trans (hbM.mono hs0))
  clear hM hbM f0 hne hneb
  refine (HBT.out M).mono ?_
  rintro e1 E ⟨rfl, hbE⟩
  have hsE := hbE.size
  have hlM : B0.heap.size < M.heap.size := by omega
  have hmE : B0.heap.size < E.heap.size := by omega
  have HBE := Lib.hid (HBM.out.trans (hbE.mono HBM.out.size))
  replace p0 := (hbE.cell (p := ⟨B0.heap.size, 0, none⟩) hlM).trans p0
  replace p1 := (hbE.cell (p := ⟨B0.heap.size, 1, none⟩) hlM).trans p1
  replace p2 := (hbE.cell (p := ⟨B0.heap.size, 2, none⟩) hlM).trans p2
  replace p3 := (hbE.cell (p := ⟨B0.heap.size, 3, none⟩) hlM).trans p3
  replace pf := fun o => (hbE.frozen (p := ⟨B0.heap.size, o, none⟩) hlM).trans (pf o)
  have hWE : W.heap.size ≤ B0.heap.size := hs0
  have HFX : Hid (∀ (w' : World), Chg (atB B0.heap.size) E w' → Below W.heap.size W w' ∧ Below w.heap.size w w') := Lib.hid (fun w' h => by
    have h2 : Below W.heap.size W w' := HBE.out.trans (h.to_below (by omega) (fun b hb => by have hb : b = B0.heap.size := hb; omega))
    exact ⟨h2, HBW.out.trans (h2.mono HBW.out.size)⟩)
  have P0 := Lib.hid (And.intro p0 p3)
  have P1 := Lib.hid (And.intro p1 p2)
  have PF := Lib.hid pf
  clear p0 p1 p2 p3 pf hbE HBT
  go_wp2_with (fail)
  go_loopw [13] (fun it wr => ∃ (k : Nat) (AO AS : Option Addr) (cO cS : Nat), k ≤ 8 ∧ it = .int .i64 k ∧ Hid (Two E.heap.size wr AO cO (opensTo seed a bits k) AS cS (shutsTo seed a bits k)) ∧ wr.cell? ⟨B0.heap.size, 1, none⟩ = some (.slice AO k cO) ∧ wr.cell? ⟨B0.heap.size, 2, none⟩ = some (.slice AS k cS) ∧ Hid (wr.cell? ⟨B0.heap.size, 0, none⟩ = some (.int .i64 (a : Int)) ∧ wr.cell? ⟨B0.heap.size, 3, none⟩ = some (.slice none 0 0)) ∧ (∀ o, wr.frozen? ⟨B0.heap.size, o, none⟩ = false) ∧ Hid (Chg (atB B0.heap.size) E wr)) (fun it _ => 8 - (intOf it).toNat)
  case atStart => exact ⟨0, none, none, 0, 0, Nat.zero_le _, rfl, Lib.hid (Two.start _ _), P1.out.1, P1.out.2, P0, PF.out, Lib.hid (Chg.refl _ _)⟩
  case round =>
    obtain ⟨k, AO, AS, cO, cS, hk, rfl, HTW, p1, p2, HP, pf, HCH⟩ := hrel
    have hsr := HCH.out.size
    have hmr : B0.heap.size < wr.heap.size := by omega
    by_cases hlt : k < 8
    · have HBO := Lib.hid (fun W => spec_BitOf W bits hbl k hlt)
      have HON := Lib.hid (opens_snoc seed a bits k)
      have HSN := Lib.hid (shuts_snoc seed a bits k)
      have hvb := bit_two bits k
      obtain ⟨v, hv⟩ : ∃ v, bitOf bits k = v := ⟨_, rfl⟩
      rw [hv] at HBO HON HSN hvb
      clear hv
      have hv1 : v ≤ 1 := by omega
      have hw1 : IntKind.i64.wrap (1 - (v : Int)) = ((1 - v : Nat) : Int) := by rw [IntWalk.i64_in _ (by omega)]; omega
      have HOL : Hid (k = (opensTo seed a bits k).length) := Lib.hid (opens_len seed a bits k).symm
      have HSHL : Hid (k = (shutsTo seed a bits k).length) := Lib.hid (shuts_len seed a bits k).symm
      have hlim : k ≤ 2000000000 := by omega
      have HSC1 := Lib.hid (HSC.out wr.drew (k : Int) (v : Int))
      have hsl1 := HSL.out (k : Int) (v : Int)
      have HSC2 := Lib.hid (fun W => HSC.out W (k : Int) ((1 - v : Nat) : Int))
      have hsl2 := HSL.out (k : Int) ((1 - v : Nat) : Int)
      obtain ⟨s1, hs1⟩ : ∃ s, secretOf seed a (k : Int) (v : Int) = s := ⟨_, rfl⟩
      obtain ⟨s2, hs2⟩ : ∃ s, secretOf seed a (k : Int) ((1 - v : Nat) : Int) = s := ⟨_, rfl⟩
      rw [hs1] at HSC1 hsl1 HON
      simp only [hs2] at HSC2
      rw [hs2] at hsl2 HSN
      have HLK := Lib.hid (fun W => spec_LockOf W s2 (by omega))
      have hlk : (lockOf s2).size = 16 := lockOf_size (by omega)
      obtain ⟨lk, hlke⟩ : ∃ s, lockOf s2 = s := ⟨_, rfl⟩
      simp only [hlke] at HLK
      rw [hlke] at hlk HSN
      have hm1 : s1.size ≤ maxLen := by unfold maxLen; omega
      have hm2 : lk.size ≤ maxLen := by unfold maxLen; omega
      clear hs1 hs2 hlke
      go_upto_region 12 with (go_at_call 135; refine (HBO.out _).mono ?_; rintro e5 w5 ⟨rfl, rfl⟩)
      go_cut [] (fun wx => ∃ (AO1 : Option Addr) (cO1 : Nat), Hid (Two E.heap.size wx AO1 cO1 (opensTo seed a bits (k + 1)) AS cS (shutsTo seed a bits k)) ∧ wx.cell? ⟨B0.heap.size, 1, none⟩ = some (.slice AO1 (k + 1) cO1) ∧ wx.cell? ⟨B0.heap.size, 2, none⟩ = some (.slice AS k cS) ∧ Hid (wx.cell? ⟨B0.heap.size, 0, none⟩ = some (.int .i64 (a : Int)) ∧ wx.cell? ⟨B0.heap.size, 3, none⟩ = some (.slice none 0 0)) ∧ (∀ o, wx.frozen? ⟨B0.heap.size, o, none⟩ = false) ∧ Hid (Chg (atB B0.heap.size) E wx))
      case first =>
        go_region_law (first | (go_simp; go_at_call 195; refine HSC1.out.mono ?_; rintro e6 w6 ⟨rfl, hb6'⟩; have hb6 := Below.viad hb6'; have hs6 := hb6.size; have q1 := (hb6.cell (p := ⟨B0.heap.size, 1, none⟩) hmr).trans p1; have q1a := (fun o => (cell_alloc q1 : (w6.alloc o).cell? ⟨B0.heap.size, 1, none⟩ = some (.slice AO k cO))); clear hb6') | (refine step_two rfl _ _ rfl rfl HOL.out ((HTW.out.later hb6).later ((Below.refl _ _).alloc (Nat.le_refl _) _)) ?hB rfl (src1 hm1 rfl rfl) hlim ?_; (case hB => rw [World.size_alloc]; omega); intro A7 c7 w7 t7 hb7; have T7 := Lib.hid t7; have HB7 := Lib.hid (((hb6.alloc hs6 _).mono hsr).trans hb7); have p7 := (HB7.out.cell (p := ⟨B0.heap.size, 1, none⟩) hmE).trans p1; have f7 := fun o => (HB7.out.frozen (p := ⟨B0.heap.size, o, none⟩) hmE).trans (pf o); clear t7 hb7))
        all_goals (go_wp2_with (fail))
        all_goals (go_meet)
        all_goals (exact ⟨A7, c7, Lib.hid (by rw [HON.out]; exact T7.out.setC hmE _ _), World.cell?_setCell_same w7 _ _ p7, (World.cell?_setCell_other _ _ _ _ (ne_off (by decide))).trans ((HB7.out.cell (p := ⟨B0.heap.size, 2, none⟩) hmE).trans p2), Lib.hid ⟨(World.cell?_setCell_other _ _ _ _ (ne_off (by decide))).trans ((HB7.out.cell (p := ⟨B0.heap.size, 0, none⟩) hmE).trans HP.out.1), (World.cell?_setCell_other _ _ _ _ (ne_off (by decide))).trans ((HB7.out.cell (p := ⟨B0.heap.size, 3, none⟩) hmE).trans HP.out.2)⟩, fun o => by simpa using f7 o, Lib.hid ((HCH.out.below HB7.out (Nat.le_refl _)).setCell (Or.inl (show atB B0.heap.size B0.heap.size from rfl)) _)⟩)
      case rest =>
        clear HTW p1 p2 HP pf HCH hsr hmr HSC1
        obtain ⟨AO1, cO1, HTW, p1, p2, HP, pf, HCH⟩ := hcut
        have hsr := HCH.out.size
        have hmr : B0.heap.size < wc.heap.size := by omega
        have p2a := (fun o => (cell_alloc p2 : (wc.alloc o).cell? ⟨B0.heap.size, 2, none⟩ = some (.slice AS k cS)))
        have HSC3 := Lib.hid (HSC2.out wc.drew)
        go_wp2_with (fail)
        go_region_law (first | (go_simp; go_at_call 195; refine HSC3.out.mono ?_; rintro e6 w6 ⟨rfl, hb6'⟩; have hb6 := Below.viad hb6'; have hs6 := hb6.size; have q2 := (hb6.cell (p := ⟨B0.heap.size, 2, none⟩) hmr).trans p2; clear hb6') | (go_simp; go_at_call 172; refine (HLK.out _).mono ?_; rintro e8 w8 ⟨rfl, hb8'⟩; have hb8 := hb6.trans (hb8'.mono hs6); have hs8 := hb8.size; have r2 := (hb8.cell (p := ⟨B0.heap.size, 2, none⟩) hmr).trans p2; have r2a := (fun o => (cell_alloc r2 : (w8.alloc o).cell? ⟨B0.heap.size, 2, none⟩ = some (.slice AS k cS))); clear hb8') | (refine step_two rfl _ _ rfl rfl HSHL.out ((HTW.out.swap.later hb8).later ((Below.refl _ _).alloc (Nat.le_refl _) _)) ?hB rfl (src1 hm2 rfl rfl) hlim ?_; (case hB => rw [World.size_alloc]; omega); intro A7 c7 w7 t7 hb7; have T7 := Lib.hid t7; have HB7 := Lib.hid (((hb8.alloc hs8 _).mono hsr).trans hb7); have p7 := (HB7.out.cell (p := ⟨B0.heap.size, 2, none⟩) hmE).trans p2; have f7 := fun o => (HB7.out.frozen (p := ⟨B0.heap.size, o, none⟩) hmE).trans (pf o); clear t7 hb7))
        all_goals (go_wp2_with (fail))
        all_goals (go_roundw)
        all_goals (first | (simp [intOf]; omega) | exact ⟨k + 1, AO1, A7, cO1, c7, hlt, by go_num, Lib.hid (by rw [HSN.out]; exact T7.out.swap.setC hmE _ _), (World.cell?_setCell_other _ _ _ _ (ne_off (by decide))).trans ((HB7.out.cell (p := ⟨B0.heap.size, 1, none⟩) hmE).trans p1), World.cell?_setCell_same w7 _ _ p7, Lib.hid ⟨(World.cell?_setCell_other _ _ _ _ (ne_off (by decide))).trans ((HB7.out.cell (p := ⟨B0.heap.size, 0, none⟩) hmE).trans HP.out.1), (World.cell?_setCell_other _ _ _ _ (ne_off (by decide))).trans ((HB7.out.cell (p := ⟨B0.heap.size, 3, none⟩) hmE).trans HP.out.2)⟩, fun o => by simpa using f7 o, Lib.hid ((HCH.out.below HB7.out (Nat.le_refl _)).setCell (Or.inl (show atB B0.heap.size B0.heap.size from rfl)) _)⟩)
    obtain rfl : k = 8 := by omega
    rename World => F1
    obtain ⟨hF1W, hF1w⟩ := HFX.out F1 HCH.out
    have HF1w := Lib.hid hF1w
    clear hF1W hF1w hk
    have HO := Lib.hid (Own.litAt (α := ByteArray) (Below.refl F1.heap.size F1) 9 rfl (b := F1.heap.size) rfl)
    have hP16 : P.length = 16 := HPL.out
    have HP2 := Lib.hid (And.intro p1 p2)
    have PF2 := Lib.hid pf
    have hsF := HCH.out.size
    have hmF : B0.heap.size < F1.heap.size := by omega
    clear p1 p2 pf hlt
    go_wp2_with (at_builtin; refine wpList_push (α := ByteArray) (ys := P) rfl _ _ rfl rfl rfl HO.out rfl hP16.symm (HSRC.out _ (HF1w.out.alloc HF1w.out.size _)) (by omega) ?_; intro A4 c4 w4 o4 z4; rw [List.nil_append] at o4; have O4 := Lib.hid o4; have hb4 := o4.bl; have hs4 := o4.bl.size; clear o4)
    have HTW4 := Lib.hid (HTW.out.later hb4)
    have HB4 := Lib.hid (HF1w.out.trans (hb4.mono HF1w.out.size))
    have HCE := Lib.hid (HCH.out.below hb4 (by omega))
    have HC4 := Lib.hid (And.intro ((hb4.cell (p := ⟨B0.heap.size, 0, none⟩) hmF).trans HP.out.1) (And.intro ((hb4.cell (p := ⟨B0.heap.size, 1, none⟩) hmF).trans HP2.out.1) ((hb4.cell (p := ⟨B0.heap.size, 2, none⟩) hmF).trans HP2.out.2)))
    have q3 := (hb4.cell (p := ⟨B0.heap.size, 3, none⟩) hmF).trans HP.out.2
    have qf := fun o => (hb4.frozen (p := ⟨B0.heap.size, o, none⟩) hmF).trans (PF2.out o)
    have HD4 : Hid (Duo w4.heap.size B0.heap.size w4 A4 c4 P none 0 []) := Lib.hid (Duo.start O4.out.weak (fun h => by have h1 : F1.heap.size ≤ B0.heap.size := h; omega))
    have hm4 : B0.heap.size < w4.heap.size := by omega
    clear hb4 HP HP2 PF2 HO HSRC HTW HF1w
    have Q0 := Lib.hid (And.intro q3 qf)
    clear q3 qf
    go_wp2_with (fail)
    go_loopw [15, 16] (fun nv kv wl => ∃ (m q : Nat) (L ss : List ByteArray) (An As : Option Addr) (cn cs : Nat), nv = .slice An L.length cn ∧ kv = .int .i64 (q : Int) ∧ Hid (L.length = 2 ^ m ∧ q < 2 ^ m) ∧ m ≤ 4 ∧ q < 16 ∧ L.length ≤ 16 ∧ ss.length ≤ 4 ∧ Hid (ss.length + m = 4) ∧ Hid (ss ++ sidesUp m q L = R.sides) ∧ Hid (Duo w4.heap.size B0.heap.size wl An cn L As cs ss) ∧ wl.cell? ⟨B0.heap.size, 3, none⟩ = some (.slice As ss.length cs) ∧ Hid (wl.cell? ⟨B0.heap.size, 0, none⟩ = some (.int .i64 (a : Int)) ∧ wl.cell? ⟨B0.heap.size, 1, none⟩ = some (.slice AO 8 cO) ∧ wl.cell? ⟨B0.heap.size, 2, none⟩ = some (.slice AS 8 cS)) ∧ (∀ o, wl.frozen? ⟨B0.heap.size, o, none⟩ = false) ∧ Hid (Chg (atB B0.heap.size) w4 wl)) (fun nv _ _ => lenV nv)
    case atStart => exact ⟨4, a, P, [], A4, none, c4, 0, by first | rw [hP16] | simp [hP16], rfl, Lib.hid ⟨hP16, ha⟩, by omega, ha, by omega, by simp, Lib.hid rfl, HSB, HD4, Q0.out.1, HC4, Q0.out.2, Lib.hid (Chg.refl _ _)⟩
    case round =>
      clear Q0 HD4 HC4
      obtain ⟨m, q, L, ss, An, As, cn, cs, rfl, rfl, HL, hm, hq16, hL16, hss, HSM, HSU, HD, p3, HC, pf, HCl⟩ := hrel
      have hsr := HCl.out.size
      have hmr : B0.heap.size < wr.heap.size := by omega
      cases m with
      | zero =>
        have hL1 : L.length = 1 := HL.out.1
        have hdl : decide ((1 : Int) < (L.length : Int)) = false := decide_eq_false (by omega)
        have HSE : Hid (ss = R.sides) := Lib.hid (by have h9 := HSU.out; rw [show sidesUp 0 q L = [] from rfl, List.append_nil] at h9; exact h9)
        obtain ⟨hbW, hbw⟩ := HFX.out wr (HCE.out.trans HCl.out)
        have HBw := Lib.hid hbw
        obtain ⟨z0, z1, z2, z3, zf⟩ := HZW.out wr hbW
        have hsl := hbw.size
        obtain ⟨c0, c1, c2⟩ := HC.out
        clear hbW hbw
        go_wp2
        refine bodyPost_ret (v := .tuple #[.agg #[.int .i64 (a : Int), .slice AO 8 cO, .slice AS 8 cS, .slice As ss.length cs], .bool true]) (by simp [results, Tryz.results164, go_sem, *]) rfl ?_
        obtain ⟨U, V, u1, u2, u3, u4, u5⟩ := HTW4.out.ex
        have t0 := Row.chg u1.tight HCl.out (fun b h1 h2 => by have h3 : b = B0.heap.size := h2; have h4 := u4 b h1.1; omega)
        have t1 := Row.chg u2.tight HCl.out (fun b h1 h2 => by have h3 : b = B0.heap.size := h2; have h4 := u5 b h1.1; omega)
        have t2 := to_rng HD.out.sides
        have hn0 : ∀ o : Nat, ¬ (fun b => U b ∧ b < w4.heap.size) (⟨w.heap.size, o, none⟩ : Addr).block := fun o h => by have h1 := u4 _ h.1; simp only at h1; omega
        have hn1 : ∀ o : Nat, ¬ (fun b => V b ∧ b < w4.heap.size) (⟨w.heap.size, o, none⟩ : Addr).block := fun o h => by have h1 := u5 _ h.1; simp only at h1; omega
        have hn2 : ∀ o : Nat, ¬ rng w4.heap.size wr.heap.size (⟨w.heap.size, o, none⟩ : Addr).block := fun o h => by have h1 := h.1; simp only at h1; omega
        have e0 := HSO.out
        have e1 := HSS.out
        have e2 := HSE.out
        rw [e0] at t0
        rw [e1] at t1
        rw [e2] at t2
        have l1 := HTW4.out.l1; have l2 := HTW4.out.l2
        rw [e0] at l1
        rw [e1] at l2
        have l3 := HD.out.ls
        rw [e2] at l3
        have n0 : 8 = R.open_.length := by rw [← e0, opens_len]
        have n1 : 8 = R.shut.length := by rw [← e1, shuts_len]
        exact SgRes.mk HSA.out (by rw [← HSA.out]; unfold I64; omega) n0 n1 (by rw [e2]) l1 HTW4.out.m1 ((((t0.setC (hn0 0) _).setC (hn0 1) _).setC (hn0 2) _).setC (hn0 3) _) l2 HTW4.out.m2 ((((t1.setC (hn1 0) _).setC (hn1 1) _).setC (hn1 2) _).setC (hn1 3) _) l3 HD.out.ms ((((t2.setC (hn2 0) _).setC (hn2 1) _).setC (hn2 2) _).setC (hn2 3) _) (fun b h1 h2 => u3 b h1.1 h2.1) (fun b h1 h2 => by have := h1.2; have := h2.1; omega) (fun b h1 h2 => by have := h1.2; have := h2.1; omega) (fun b h => by have h1 := u4 b h.1; have := h.2; unfold rng; simp; omega) (fun b h => by have h1 := u5 b h.1; have := h.2; unfold rng; simp; omega) (fun b h => by have := h.1; have := h.2; unfold rng; simp; omega) (Below.setCell (Below.setCell (Below.setCell (Below.setCell HBw.out (Nat.le_refl _) _) (Nat.le_refl _) _) (Nat.le_refl _) _) (Nat.le_refl _) _)
      | succ m =>
        have hLp : L.length = 2 ^ (m + 1) := HL.out.1
        have hL2 : 2 ≤ L.length := by rw [hLp, Nat.pow_succ]; have := Nat.two_pow_pos m; omega
        have hdl : decide ((1 : Int) < (L.length : Int)) = true := decide_eq_true (by omega)
        have hql := xor_pow HL.out.2
        have hx1 := xor1 (show q < 256 by omega)
        rw [← hLp] at hql
        obtain ⟨K, hK⟩ := HD.out.known
        obtain ⟨b5, o5, rfl, hl5, f0, ysz⟩ := Row.str hK hql
        have HYD : Hid (L[q ^^^ 1] = L.getD (q ^^^ 1) ⟨#[]⟩) := Lib.hid (getD_lt hql).symm
        have HSU2 : Hid ((ss ++ [L[q ^^^ 1]]) ++ sidesUp m (q / 2) (aboveL 16 L) = R.sides) := Lib.hid (by rw [List.append_assoc, HYD.out]; exact HSU.out)
        have HUPC := Lib.hid (aboveL_len 16 L)
        obtain ⟨y, hy⟩ : ∃ y, L[q ^^^ 1] = y := ⟨_, rfl⟩
        rw [hy] at f0 ysz HSU2
        clear hy HYD HSU hK
        obtain ⟨r, hr⟩ : ∃ r, q ^^^ 1 = r := ⟨_, rfl⟩
        rw [hr] at f0 hx1 hql
        clear hr
        have hqu : Int.tdiv (q : Int) 2 = ((q / 2 : Nat) : Int) := rfl
        have hrl : (r : Int) < (L.length : Int) := by omega
        have hr0 : (0 : Int) ≤ (r : Int) := by omega
        have hlim : ss.length ≤ 2000000000 := by omega
        have HHL := Lib.hid hLp
        have HHQ := Lib.hid HL.out.2
        have p3a := (fun o => (cell_alloc p3 : (wr.alloc o).cell? ⟨B0.heap.size, 3, none⟩ = some (.slice As ss.length cs)))
        clear hLp
        go_upto_region 17 with fail
        go_cut [] (fun wx => ∃ (A7 : Option Addr) (c7 : Nat), Hid (Duo w4.heap.size B0.heap.size wx (some ⟨b5, o5, none⟩) cn L A7 c7 (ss ++ [y])) ∧ wx.cell? ⟨B0.heap.size, 3, none⟩ = some (.slice A7 (ss ++ [y]).length c7) ∧ Hid (wx.cell? ⟨B0.heap.size, 0, none⟩ = some (.int .i64 (a : Int)) ∧ wx.cell? ⟨B0.heap.size, 1, none⟩ = some (.slice AO 8 cO) ∧ wx.cell? ⟨B0.heap.size, 2, none⟩ = some (.slice AS 8 cS)) ∧ (∀ o, wx.frozen? ⟨B0.heap.size, o, none⟩ = false) ∧ Hid (Chg (atB B0.heap.size) w4 wx))
        case first =>
          go_region_law (refine step_duo (B := w4.heap.size) (r := B0.heap.size) (Ak := some ⟨b5, o5, none⟩) (ck := cn) (ks := L) (y := y) rfl _ _ rfl rfl rfl ?hd ?hB rfl ?hsrc hlim ?_; (case hsrc => first | exact src1 (w := wr) ysz (by first | rfl | simp) rfl | exact src1 (w := wr.drew) ysz (by first | rfl | simp) rfl); (case hd => first | exact HD.out.alloc _ | exact (HD.out.alloc _).drew | exact HD.out.drew.alloc _); (case hB => first | (rw [World.size_alloc]; omega) | (simp; omega)); intro A7 c7 w7 t7 hb7; have T7 := Lib.hid t7; have HB7 := Lib.hid ((Below.mono (w := wr) (by first | exact (Below.refl _ _).alloc (Nat.le_refl _) _ | exact ((Below.refl _ _).alloc (Nat.le_refl _) _).drew | exact ((Below.refl _ _).drew).alloc (Nat.le_refl _) _) hsr).trans hb7); have p7 := (HB7.out.cell (p := ⟨B0.heap.size, 3, none⟩) hm4).trans p3; have f7 := fun o => (HB7.out.frozen (p := ⟨B0.heap.size, o, none⟩) hm4).trans (pf o); clear t7 hb7)
          all_goals (go_wp2_with (fail))
          all_goals (go_meet)
          all_goals (exact ⟨A7, c7, Lib.hid (T7.out.setC hm4 _ _), by rw [List.length_append]; exact World.cell?_setCell_same w7 _ _ p7, Lib.hid ⟨(World.cell?_setCell_other _ _ _ _ (ne_off (by decide))).trans ((HB7.out.cell (p := ⟨B0.heap.size, 0, none⟩) hm4).trans HC.out.1), (World.cell?_setCell_other _ _ _ _ (ne_off (by decide))).trans ((HB7.out.cell (p := ⟨B0.heap.size, 1, none⟩) hm4).trans HC.out.2.1), (World.cell?_setCell_other _ _ _ _ (ne_off (by decide))).trans ((HB7.out.cell (p := ⟨B0.heap.size, 2, none⟩) hm4).trans HC.out.2.2)⟩, fun o => by simpa using f7 o, Lib.hid ((HCl.out.below HB7.out (Nat.le_refl _)).setCell (Or.inl (show atB B0.heap.size B0.heap.size from rfl)) _)⟩)
        case rest =>
          clear HD p3 p3a HC pf HCl hsr hmr f0 hl5 K
          obtain ⟨A7, c7, HD, p3, HC, pf, HCl⟩ := hcut
          have hsr := HCl.out.size
          obtain ⟨K, hK⟩ := HD.out.known
          have HUP := Lib.hid (spec_l05Up wc L _ cn K hK (by omega))
          have hmr : B0.heap.size < wc.heap.size := by omega
          clear hK K
          go_wp2_with (go_at_call 193; refine HUP.out.mono ?_; rintro e9 w9 ⟨A9, c9, rfl, o9⟩; have O9 := Lib.hid o9; have hb9 := o9.bl; clear o9)
          go_roundw
          case rel => exact ⟨m, q / 2, aboveL 16 L, ss ++ [y], A9, A7, c9, c7, rfl, by go_num, Lib.hid ⟨by rw [HUPC.out, HHL.out, Nat.pow_succ]; omega, by have h9 := HHQ.out; rw [Nat.pow_succ] at h9; omega⟩, by omega, by omega, by rw [HUPC.out]; omega, by rw [List.length_append]; show ss.length + 1 ≤ 4; have := HSM.out; omega, Lib.hid (by rw [List.length_append]; show ss.length + 1 + m = 4; have := HSM.out; omega), HSU2, Lib.hid (HD.out.fresh hm4 hsr O9.out), (hb9.cell (p := ⟨B0.heap.size, 3, none⟩) hmr).trans p3, Lib.hid ⟨(hb9.cell (p := ⟨B0.heap.size, 0, none⟩) hmr).trans HC.out.1, (hb9.cell (p := ⟨B0.heap.size, 1, none⟩) hmr).trans HC.out.2.1, (hb9.cell (p := ⟨B0.heap.size, 2, none⟩) hmr).trans HC.out.2.2⟩, fun o => (hb9.frozen (p := ⟨B0.heap.size, o, none⟩) hmr).trans (pf o), Lib.hid (HCl.out.below hb9 hsr)⟩
          case measure => simp [lenV]; rw [HUPC.out]; omega
end Go.Proofs.YtgllafgpmenjjaaGreatDoor
