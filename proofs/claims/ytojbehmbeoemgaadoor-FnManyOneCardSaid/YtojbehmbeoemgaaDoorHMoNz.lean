/- A part of the proof: what the laws need of it. -/
import Derived.Test.YtojbehmbeoemgaaDoorHMoL25xYp
set_option linter.unusedVariables false
set_option linter.unusedSimpArgs false
set_option linter.unusedVariables false
set_option linter.unusedSimpArgs false
namespace Go.Proofs.YtojbehmbeoemgaaDoor
open Go.RowKit Lay Mk
theorem Row.chgS {α : Type} [Lay α] {m : Bool} {w w' : World} {A : Option Addr} {cap : Nat} {xs : List α} {S T : Blks} (h4 : Chg S w w') (hr : Row m w A cap xs T) (hd : ∀ b, T b → b < w.heap.size → ¬ S b) : Row m w' A cap xs T :=
  (hr.tight.keep (h4.same (fun b x => hd b x.1 x.2) (fun b x => x.2))).mono (fun b x => x.1)
set_option maxRecDepth 20000 in set_option maxHeartbeats 16000000 in
theorem spec_SidesOf (w : World) (xs : List Leaf) (A : Option Addr) (cap : Nat) (S : Blks) (hx : Row false w A cap xs S) (hok : leavesOk xs = true) (ix : Nat) (hix : ix < 256) (m : Nat) (hm : m ≤ 8) (n : Int) (hn : inB n 1 32 = true) : Calls Tryd.prog 77 #[.slice A xs.length cap, .int .i64 (ix : Int), .int .i64 (8 - (m : Int)), .int .i64 n] w (OwnRes (sidesD n ix xs m) w) := by
  have hl := leavesOk_len hok
  have hz : szL xs ≤ 1048576 := by have := szL_ok (leavesOk_all hok); omega
  have hnn : I64 n := by have : 1 ≤ n ∧ n ≤ 32 := by simpa [inB] using hn
                         unfold I64; omega
  have HOK := Lib.hid hok
  have HLV := Lib.hid (fun W (h : Below w.heap.size w W) => spec_LeavesOk W xs A cap S (Row.later hx h) (by omega))
  rw [hok] at HLV
  have HI1 := Lib.hid (fun W => spec_in (ix : Int) 0 255 W)
  have HI2 := Lib.hid (fun W => spec_in (8 - (m : Int)) 0 8 W)
  have HI3 := Lib.hid (fun W => spec_in n 1 32 W)
  rw [show inB (ix : Int) 0 255 = true from inB_yes (by omega) (by omega)] at HI1
  rw [show inB (8 - (m : Int)) 0 8 = true from inB_yes (by omega) (by omega)] at HI2
  rw [hn] at HI3
  have HSP := Lib.hid (fun W (h : Below w.heap.size w W) => spec_l10Spots W xs A cap S (Row.later hx h) (by omega) hz)
  clear hx hok hn hz
  go_enter Tryd.func77, Tryd.ntmps77
  go_wp2_with (fail)
  have HR0 := Lib.hid (row_lit0 (α := ByteArray) w 9 (fun b => b = w.heap.size) rfl rfl)
  refine (HLV.out _ ((Below.refl _ _).alloc (Nat.le_refl _) _)).mono ?_
  rintro e1 w1 ⟨rfl, hb1⟩
  have HB1 := Lib.hid (Below.via hb1)
  have HR1 := Lib.hid (Row.later HR0.out hb1)
  have hg1 : w.heap.size < w1.heap.size := by have := hb1.size; rw [World.size_alloc] at this; omega
  clear hb1
  go_wp2_with (first | (go_at_call 50; with_reducible refine (HI1.out _).mono ?_; rintro e2 w2 ⟨rfl, rfl⟩) | (go_at_call 50; with_reducible refine (HI2.out _).mono ?_; rintro e2 w2 ⟨rfl, rfl⟩) | (go_at_call 50; with_reducible refine (HI3.out _).mono ?_; rintro e2 w2 ⟨rfl, rfl⟩))
  refine (HSP.out _ HB1.out).mono ?_
  rintro e2 w2 ⟨A2, c2, rfl, o2⟩
  simp only [spotsOf_len]
  have O2 := Lib.hid o2
  have HR2 := Lib.hid (Row.later HR1.out o2.bl)
  have hg2 : w1.heap.size ≤ w2.heap.size := o2.bl.size
  have HB2 := Lib.hid (HB1.out.trans (o2.bl.mono HB1.out.size))
  clear o2
  go_wp2_with (fail)
  refine (spec_l10Empties _ n hnn).mono ?_
  rintro e3 w3 ⟨bE, rfl, hbL, hbE, hE, hb3⟩
  have hg3 : w2.heap.size ≤ w3.heap.size := hb3.size
  have HR3 := Lib.hid (Row.later HR2.out hb3)
  have HB3 := Lib.hid (HB2.out.trans (hb3.mono HB2.out.size))
  have RS3 := Lib.hid (Row.later O2.out.rng hb3)
  have HE3 := Lib.hid hE
  clear hE hb3
  go_wp2
  go_loopw [9, 12] (fun u i wr => ∃ (k : Nat) (A4 : Option Addr) (c4 : Nat), k ≤ m ∧ i = .int .i64 (8 - (k : Int)) ∧ u = .slice A4 k c4 ∧ Hid (Row true wr A4 c4 (sidesD n ix xs k) (fun b => b = w.heap.size ∨ w3.heap.size ≤ b)) ∧ Hid (k ≤ c4 ∧ c4 ≤ maxLen) ∧ Hid (Chg (fun b => b = w.heap.size ∨ w3.heap.size ≤ b) w3 wr)) (fun _ i _ => (intOf i).toNat)
  case atStart => exact ⟨0, some ⟨w.heap.size, 0, none⟩, 0, Nat.zero_le _, rfl, rfl, Lib.hid (HR3.out.mono (fun b h => Or.inl h)), Lib.hid ⟨Nat.le_refl _, by decide⟩, Lib.hid (Chg.refl _ _)⟩
  case round =>
    obtain ⟨k, A4, c4, hk, rfl, rfl, HR, HC, HG⟩ := hrel
    have hwr := HG.out.size
    by_cases hlt : k < m
    · have hgt : (8 : Int) - (k : Int) > 8 - (m : Int) := by omega
      have hw1 : IntKind.i64.wrap (8 - (k : Int) - 1) = 8 - (k : Int) - 1 := IntWalk.i64_in _ (by omega)
      have hw2 : IntKind.i64.wrap (8 - (8 - (k : Int))) = (k : Int) := by rw [IntWalk.i64_in] <;> omega
      have hw3 : IntKind.u64.wrap (k : Int) = (k : Int) := by
        rcases (show k = 0 ∨ k = 1 ∨ k = 2 ∨ k = 3 ∨ k = 4 ∨ k = 5 ∨ k = 6 ∨ k = 7 ∨ k = 8 by omega) with rfl | rfl | rfl | rfl | rfl | rfl | rfl | rfl | rfl <;> rfl
      have HNL := Lib.hid (sidesD_len n ix xs k)
      have HSL := Lib.hid (spotsOf_len xs)
      have RSr := Lib.hid (Row.chgS HG.out RS3.out (fun b h1 h2 h3 => by have := h1.1; have := h1.2; rcases h3 with h3 | h3 <;> omega))
      have HEr := Lib.hid (fun (j : Nat) (hj : j ≤ 8) => (HG.out.cell (b := bE) (o := j) hbE (fun h3 => by rcases h3 with h3 | h3 <;> omega)).trans (HE3.out j hj))
      have HN := Lib.hid (spec_l10Node n hnn k (by omega) wr ((ix / 2 ^ k) ^^^ 1) (place_lt hix hlt hm) xs HOK.out A2 c2 _ RSr.out.weak bE (Nat.lt_of_lt_of_le hbE hwr) HEr.out)
      have hnm := nodeD_max n k ((ix / 2 ^ k) ^^^ 1) xs
      have HSS : Hid (sidesD n ix xs (k + 1) = sidesD n ix xs k ++ [nodeD n k ((ix / 2 ^ k) ^^^ 1) xs]) := Lib.hid rfl
      obtain ⟨a, hae⟩ : ∃ a, nodeD n k ((ix / 2 ^ k) ^^^ 1) xs = a := ⟨_, rfl⟩
      rw [hae] at HN hnm HSS
      have hbx : (((ix / 2 ^ k) ^^^ 1 : Nat) : Int) = bits .xor .i64 ((ix : Int) / 2 ^ k) 1 := by
        rw [← xor1 (Nat.lt_of_le_of_lt (Nat.div_le_self _ _) hix), Int.natCast_ediv, Int.natCast_pow]; rfl
      rw [hbx] at HN
      clear hae hbx
      go_wp2_with (fail)
      refine HN.out.mono ?_
      rintro e5 w5 ⟨rfl, hb5⟩
      have HR5 := Lib.hid (Row.later HR.out hb5)
      have HG5 := Lib.hid (HG.out.below hb5 hwr)
      clear hb5
      go_wp2_with (at_builtin; refine wpList_app (α := ByteArray) rfl _ _ rfl rfl HNL.out.symm (HR5.out.allocC _) HC.out.1 HC.out.2 rfl rfl (src1 hnm (by first | rfl | simp) rfl) (disj_none_ _) (by omega) ?_; intro A6 c6 w6 p1 p2 p3 p4)
      have HP := Lib.hid (And.intro p1 (And.intro p2 (And.intro p3 p4)))
      clear p1 p2 p3 p4
      go_roundw
      case rel => exact ⟨k + 1, A6, c6, hlt, by go_num, rfl, Lib.hid (by rw [HSS.out]; exact row_og HP.out.2.2.1 (fun b hb => Or.inr (by have := HG5.out.size; rw [World.size_alloc] at hb; omega))), Lib.hid ⟨HP.out.1, HP.out.2.1⟩, Lib.hid ((HG5.out.alloc _).trans HP.out.2.2.2)⟩
      case measure => simp [intOf]; omega
    · have hke : k = m := by omega
      subst hke
      have HNL := Lib.hid (sidesD_len n ix xs k)
      have HBF := Lib.hid (HB3.out.trans (HG.out.to_below HB3.out.size (fun b h => by rcases h with h | h; omega; have := HB3.out.size; omega)))
      go_wp2
      go_ret
      exact OwnRes.mk (c := c4) (A := A4) ⟨HR.out.mono (fun b h => by show w.heap.size ≤ b; rcases h with h | h <;> omega), by rw [HNL.out]; exact HC.out.1, HC.out.2, HBF.out⟩ rfl HNL.out.symm
set_option maxRecDepth 20000 in set_option maxHeartbeats 16000000 in
theorem spec_ProveLeaf (w : World) (xs : List Leaf) (A : Option Addr) (cap : Nat) (S : Blks) (hx : Row false w A cap xs S) (hl : xs.length ≤ 1048576) (hz : szL xs ≤ 1048576) (name : ByteArray) (hn : name.size ≤ 1048576) (lv : Int) (hlv : I64 lv) (n : Int) (hnn : I64 n) : Calls Tryd.prog 25 #[.slice A xs.length cap, .string name, .int .i64 lv, .int .i64 n] w (PlRes (proveLeaf xs name lv n) w) := by
  have hnm : name.size ≤ maxLen := by unfold maxLen; omega
  have HLV := Lib.hid (fun W (h : Below w.heap.size w W) => spec_LeavesOk W xs A cap S (Row.later hx h) (by omega))
  have HNM := Lib.hid (fun W => spec_NameOk name W hnm)
  have HIN := Lib.hid (fun W => spec_in lv 0 8 W)
  have HIW := Lib.hid (fun W => spec_in n 1 32 W)
  have HF : Hid (proveLeaf xs name lv n = if (leavesOk xs && (nameOk name && (inB lv 0 8 && inB n 1 32))) = true then (⟨bucketOf xs (indexOf name), sidesD n (indexOf name) xs (8 - lv.toNat)⟩, true) else (⟨[], []⟩, false)) := Lib.hid rfl
  obtain ⟨R, hR⟩ : ∃ R, proveLeaf xs name lv n = R := ⟨_, rfl⟩
  rw [hR] at HF ⊢
  clear hR
  have hWd : ∀ W, W = w.alloc (.cells #[.slice none 0 0, .slice none 0 0] 61) → Below w.heap.size w W ∧ W.cell? ⟨w.heap.size, 0, none⟩ = some (.slice none 0 0) ∧ W.cell? ⟨w.heap.size, 1, none⟩ = some (.slice none 0 0) ∧ (∀ o, W.frozen? ⟨w.heap.size, o, none⟩ = false) ∧ w.heap.size < W.heap.size := by
    rintro W rfl
    exact ⟨(Below.refl _ _).alloc (Nat.le_refl _) _, box_cell _ _ _ _ _ rfl, box_cell _ _ _ _ _ rfl, fun o => by simp, by simp⟩
  cases h1 : leavesOk xs <;> rw [h1] at HLV
  · have HE : Hid (R = (⟨[], []⟩, false)) := Lib.hid (by rw [HF.out, h1]; simp)
    clear HF h1
    go_enter Tryd.func25, Tryd.ntmps25
    go_wp2_with (fail)
    obtain ⟨W, hW⟩ : ∃ W, w.alloc (.cells #[.slice none 0 0, .slice none 0 0] 61) = W := ⟨_, rfl⟩
    rw [hW]
    obtain ⟨hBW, z0, z1, zf, hlW⟩ := hWd W hW.symm
    clear hW hWd
    refine (HLV.out _ hBW).mono ?_
    rintro e1 w1 ⟨rfl, hb1⟩
    replace z0 := (hb1.cell (p := ⟨w.heap.size, 0, none⟩) hlW).trans z0
    replace z1 := (hb1.cell (p := ⟨w.heap.size, 1, none⟩) hlW).trans z1
    replace zf := fun o => (hb1.frozen (p := ⟨w.heap.size, o, none⟩) hlW).trans (zf o)
    have hl1 : w.heap.size < w1.heap.size := Nat.lt_of_lt_of_le hlW hb1.size
    have HB1 := Lib.hid (hBW.trans (hb1.mono hBW.size))
    clear hBW hb1 hlW
    go_wp2_with (first | (go_at_call 75; refine (HNM.out _).mono ?_; rintro e2 w2 ⟨rfl, rfl⟩) | (go_at_call 50; with_reducible refine (HIN.out _).mono ?_; rintro e3 w3 ⟨rfl, rfl⟩) | (go_at_call 50; with_reducible refine (HIW.out _).mono ?_; rintro e4 w4 ⟨rfl, rfl⟩))
    refine bodyPost_ret (v := .tuple #[.agg #[.slice none 0 0, .slice none 0 0], .bool false]) (by simp [results, Tryd.results25, go_sem, *]) rfl ?_
    exact PlRes.nil HE.out (Below.setCell (Below.setCell HB1.out (Nat.le_refl _) _) (Nat.le_refl _) _)
  cases h2 : nameOk name <;> rw [h2] at HNM
  · have HE : Hid (R = (⟨[], []⟩, false)) := Lib.hid (by rw [HF.out, h1, h2]; simp)
    clear HF h1 h2
    go_enter Tryd.func25, Tryd.ntmps25
    go_wp2_with (fail)
    obtain ⟨W, hW⟩ : ∃ W, w.alloc (.cells #[.slice none 0 0, .slice none 0 0] 61) = W := ⟨_, rfl⟩
    rw [hW]
    obtain ⟨hBW, z0, z1, zf, hlW⟩ := hWd W hW.symm
    clear hW hWd
    refine (HLV.out _ hBW).mono ?_
    rintro e1 w1 ⟨rfl, hb1⟩
    replace z0 := (hb1.cell (p := ⟨w.heap.size, 0, none⟩) hlW).trans z0
    replace z1 := (hb1.cell (p := ⟨w.heap.size, 1, none⟩) hlW).trans z1
    replace zf := fun o => (hb1.frozen (p := ⟨w.heap.size, o, none⟩) hlW).trans (zf o)
    have hl1 : w.heap.size < w1.heap.size := Nat.lt_of_lt_of_le hlW hb1.size
    have HB1 := Lib.hid (hBW.trans (hb1.mono hBW.size))
    clear hBW hb1 hlW
    go_wp2_with (first | (go_at_call 75; refine (HNM.out _).mono ?_; rintro e2 w2 ⟨rfl, rfl⟩) | (go_at_call 50; with_reducible refine (HIN.out _).mono ?_; rintro e3 w3 ⟨rfl, rfl⟩) | (go_at_call 50; with_reducible refine (HIW.out _).mono ?_; rintro e4 w4 ⟨rfl, rfl⟩))
    refine bodyPost_ret (v := .tuple #[.agg #[.slice none 0 0, .slice none 0 0], .bool false]) (by simp [results, Tryd.results25, go_sem, *]) rfl ?_
    exact PlRes.nil HE.out (Below.setCell (Below.setCell HB1.out (Nat.le_refl _) _) (Nat.le_refl _) _)
  cases h3 : inB lv 0 8 <;> rw [h3] at HIN
  · have HE : Hid (R = (⟨[], []⟩, false)) := Lib.hid (by rw [HF.out, h1, h2, h3]; simp)
    clear HF h1 h2 h3
    go_enter Tryd.func25, Tryd.ntmps25
    go_wp2_with (fail)
    obtain ⟨W, hW⟩ : ∃ W, w.alloc (.cells #[.slice none 0 0, .slice none 0 0] 61) = W := ⟨_, rfl⟩
    rw [hW]
    obtain ⟨hBW, z0, z1, zf, hlW⟩ := hWd W hW.symm
    clear hW hWd
    refine (HLV.out _ hBW).mono ?_
    rintro e1 w1 ⟨rfl, hb1⟩
    replace z0 := (hb1.cell (p := ⟨w.heap.size, 0, none⟩) hlW).trans z0
    replace z1 := (hb1.cell (p := ⟨w.heap.size, 1, none⟩) hlW).trans z1
    replace zf := fun o => (hb1.frozen (p := ⟨w.heap.size, o, none⟩) hlW).trans (zf o)
    have hl1 : w.heap.size < w1.heap.size := Nat.lt_of_lt_of_le hlW hb1.size
    have HB1 := Lib.hid (hBW.trans (hb1.mono hBW.size))
    clear hBW hb1 hlW
    go_wp2_with (first | (go_at_call 75; refine (HNM.out _).mono ?_; rintro e2 w2 ⟨rfl, rfl⟩) | (go_at_call 50; with_reducible refine (HIN.out _).mono ?_; rintro e3 w3 ⟨rfl, rfl⟩) | (go_at_call 50; with_reducible refine (HIW.out _).mono ?_; rintro e4 w4 ⟨rfl, rfl⟩))
    refine bodyPost_ret (v := .tuple #[.agg #[.slice none 0 0, .slice none 0 0], .bool false]) (by simp [results, Tryd.results25, go_sem, *]) rfl ?_
    exact PlRes.nil HE.out (Below.setCell (Below.setCell HB1.out (Nat.le_refl _) _) (Nat.le_refl _) _)
  cases h4 : inB n 1 32 <;> rw [h4] at HIW
  · have HE : Hid (R = (⟨[], []⟩, false)) := Lib.hid (by rw [HF.out, h1, h2, h3, h4]; simp)
    clear HF h1 h2 h3 h4
    go_enter Tryd.func25, Tryd.ntmps25
    go_wp2_with (fail)
    obtain ⟨W, hW⟩ : ∃ W, w.alloc (.cells #[.slice none 0 0, .slice none 0 0] 61) = W := ⟨_, rfl⟩
    rw [hW]
    obtain ⟨hBW, z0, z1, zf, hlW⟩ := hWd W hW.symm
    clear hW hWd
    refine (HLV.out _ hBW).mono ?_
    rintro e1 w1 ⟨rfl, hb1⟩
    replace z0 := (hb1.cell (p := ⟨w.heap.size, 0, none⟩) hlW).trans z0
    replace z1 := (hb1.cell (p := ⟨w.heap.size, 1, none⟩) hlW).trans z1
    replace zf := fun o => (hb1.frozen (p := ⟨w.heap.size, o, none⟩) hlW).trans (zf o)
    have hl1 : w.heap.size < w1.heap.size := Nat.lt_of_lt_of_le hlW hb1.size
    have HB1 := Lib.hid (hBW.trans (hb1.mono hBW.size))
    clear hBW hb1 hlW
    go_wp2_with (first | (go_at_call 75; refine (HNM.out _).mono ?_; rintro e2 w2 ⟨rfl, rfl⟩) | (go_at_call 50; with_reducible refine (HIN.out _).mono ?_; rintro e3 w3 ⟨rfl, rfl⟩) | (go_at_call 50; with_reducible refine (HIW.out _).mono ?_; rintro e4 w4 ⟨rfl, rfl⟩))
    refine bodyPost_ret (v := .tuple #[.agg #[.slice none 0 0, .slice none 0 0], .bool false]) (by simp [results, Tryd.results25, go_sem, *]) rfl ?_
    exact PlRes.nil HE.out (Below.setCell (Below.setCell HB1.out (Nat.le_refl _) _) (Nat.le_refl _) _)
  have HE : Hid (R = (⟨bucketOf xs (indexOf name), sidesD n (indexOf name) xs (8 - lv.toNat)⟩, true)) := Lib.hid (by rw [HF.out, h1, h2, h3, h4]; rfl)
  have hlv8 : 0 ≤ lv ∧ lv ≤ 8 := by simpa [inB] using h3
  obtain ⟨m, hm, hm8⟩ : ∃ m : Nat, lv = 8 - (m : Int) ∧ m ≤ 8 := ⟨8 - lv.toNat, by omega, by omega⟩
  have HMM : Hid (8 - lv.toNat = m) := Lib.hid (by omega)
  have HOK := Lib.hid h1
  have HN32 := Lib.hid h4
  clear HF h1 h2 h3 h4 hlv8
  subst hm
  rw [HMM.out] at HE
  have hix := indexOf_lt name
  have HIX := Lib.hid (fun W => spec_IndexOf W name (by omega))
  obtain ⟨ix, hixe⟩ : ∃ ix, indexOf name = ix := ⟨_, rfl⟩
  rw [hixe] at HE HIX hix
  clear hixe
  have HBK := Lib.hid (fun W (h : Below w.heap.size w W) => spec_BucketOf W xs A cap S (Row.later hx h) hl hz (ix : Int))
  have HSD := Lib.hid (fun W (h : Below w.heap.size w W) => spec_SidesOf W xs A cap S (Row.later hx h) HOK.out ix hix m hm8 n HN32.out)
  go_enter Tryd.func25, Tryd.ntmps25
  go_wp2_with (fail)
  obtain ⟨W, hW⟩ : ∃ W, w.alloc (.cells #[.slice none 0 0, .slice none 0 0] 61) = W := ⟨_, rfl⟩
  rw [hW]
  obtain ⟨hBW, z0, z1, zf, hlW⟩ := hWd W hW.symm
  clear hW hWd
  refine (HLV.out _ hBW).mono ?_
  rintro e1 w1 ⟨rfl, hb1⟩
  replace z0 := (hb1.cell (p := ⟨w.heap.size, 0, none⟩) hlW).trans z0
  replace z1 := (hb1.cell (p := ⟨w.heap.size, 1, none⟩) hlW).trans z1
  replace zf := fun o => (hb1.frozen (p := ⟨w.heap.size, o, none⟩) hlW).trans (zf o)
  have hl1 : w.heap.size < w1.heap.size := Nat.lt_of_lt_of_le hlW hb1.size
  have HB1 := Lib.hid (hBW.trans (hb1.mono hBW.size))
  clear hBW hb1 hlW
  go_wp2_with (first | (go_at_call 75; refine (HNM.out _).mono ?_; rintro e2 w2 ⟨rfl, rfl⟩) | (go_at_call 50; with_reducible refine (HIN.out _).mono ?_; rintro e3 w3 ⟨rfl, rfl⟩) | (go_at_call 50; with_reducible refine (HIW.out _).mono ?_; rintro e4 w4 ⟨rfl, rfl⟩))
  refine (HIX.out _).mono ?_
  rintro e5 w5 ⟨rfl, hb5⟩
  have HB5 := Lib.hid (HB1.out.trans (hb5.mono HB1.out.size))
  replace z0 := (hb5.cell (p := ⟨w.heap.size, 0, none⟩) hl1).trans z0
  replace z1 := (hb5.cell (p := ⟨w.heap.size, 1, none⟩) hl1).trans z1
  replace zf := fun o => (hb5.frozen (p := ⟨w.heap.size, o, none⟩) hl1).trans (zf o)
  have hl5 : w.heap.size < w5.heap.size := Nat.lt_of_lt_of_le hl1 hb5.size
  clear hb5
  go_wp2_with (fail)
  refine (HBK.out _ HB5.out).mono ?_
  rintro e6 w6 ⟨A6, c6, rfl, o6⟩
  have hb6 := o6.bl
  have HB6 := Lib.hid (HB5.out.trans (hb6.mono HB5.out.size))
  replace z0 := (hb6.cell (p := ⟨w.heap.size, 0, none⟩) hl5).trans z0
  replace z1 := (hb6.cell (p := ⟨w.heap.size, 1, none⟩) hl5).trans z1
  replace zf := fun o => (hb6.frozen (p := ⟨w.heap.size, o, none⟩) hl5).trans (zf o)
  have hl6 : w.heap.size < w6.heap.size := Nat.lt_of_lt_of_le hl5 hb6.size
  have O6 := Lib.hid o6
  clear hb6 o6
  go_wp2_with (fail)
  refine (HIX.out _).mono ?_
  rintro e7 w7 ⟨rfl, hb7⟩
  have HB7 := Lib.hid (HB6.out.trans (hb7.mono HB6.out.size))
  replace z0 := (hb7.cell (p := ⟨w.heap.size, 0, none⟩) hl6).trans z0
  replace z1 := (hb7.cell (p := ⟨w.heap.size, 1, none⟩) hl6).trans z1
  replace zf := fun o => (hb7.frozen (p := ⟨w.heap.size, o, none⟩) hl6).trans (zf o)
  have hl7 : w.heap.size < w7.heap.size := Nat.lt_of_lt_of_le hl6 hb7.size
  have HB67 := Lib.hid hb7
  clear hb7
  go_wp2_with (fail)
  refine (HSD.out _ HB7.out).mono ?_
  rintro e8 w8 ⟨A8, c8, rfl, o8⟩
  have hb8 := o8.bl
  have HB8 := Lib.hid (HB7.out.trans (hb8.mono HB7.out.size))
  replace z0 := (hb8.cell (p := ⟨w.heap.size, 0, none⟩) hl7).trans z0
  replace z1 := (hb8.cell (p := ⟨w.heap.size, 1, none⟩) hl7).trans z1
  replace zf := fun o => (hb8.frozen (p := ⟨w.heap.size, o, none⟩) hl7).trans (zf o)
  have hl8 : w.heap.size < w8.heap.size := Nat.lt_of_lt_of_le hl7 hb8.size
  have O8 := Lib.hid o8
  clear hb8 o8
  obtain ⟨B, hBe⟩ : ∃ B, bucketOf xs (ix : Int) = B := ⟨_, rfl⟩
  obtain ⟨L, hLe⟩ : ∃ L, sidesD n ix xs m = L := ⟨_, rfl⟩
  rw [hBe] at HE O6
  rw [hLe] at HE O8
  simp only [hBe, hLe]
  clear hBe hLe
  have HL5 := Lib.hid hl5
  go_wp2
  refine bodyPost_ret (v := .tuple #[.agg #[.slice A6 B.length c6, .slice A8 L.length c8], .bool true]) (by simp [results, Tryd.results25, go_sem, *]) rfl ?_
  have s6 := O6.out.size
  have s7 := HB67.out.size
  have s8 := O8.out.size
  have hn1 : ∀ o : Nat, ¬ rng w5.heap.size w6.heap.size (⟨w.heap.size, o, none⟩ : Addr).block := fun o h => by have h1 := h.1; have := HL5.out; simp only at h1; omega
  have hn2 : ∀ o : Nat, ¬ rng w7.heap.size w8.heap.size (⟨w.heap.size, o, none⟩ : Addr).block := fun o h => by have h1 := h.1; simp only at h1; omega
  have r6 := Row.later O6.out.rng (HB67.out.trans (O8.out.bl.mono HB67.out.size))
  exact PlRes.mk HE.out rfl rfl O6.out.le O6.out.cm ((r6.setC (hn1 0) _).setC (hn1 1) _) O8.out.le O8.out.cm ((O8.out.rng.setC (hn2 0) _).setC (hn2 1) _) (fun b h1 h2 => by have := h1.2; have := h2.1; omega) (fun b h => by have := h.1; have := h.2; have := HL5.out; unfold rng; simp; omega) (fun b h => by have := h.1; have := h.2; unfold rng; simp; omega) (Below.setCell (Below.setCell HB8.out (Nat.le_refl _) _) (Nat.le_refl _) _)
end Go.Proofs.YtojbehmbeoemgaaDoor
