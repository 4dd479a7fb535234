/- The proof of a name: the program's walk. -/
import Derived.Test.YtcbbjfafmmcfiaaGreatDoorKNs
import Derived.Test.YtcbbjfafmmcfiaaGreatDoorKNm
set_option linter.unusedVariables false
set_option linter.unusedSimpArgs false
namespace Go.Proofs.YtcbbjfafmmcfiaaGreatDoor
open Go.RowKit Lay Mk
def PlRes (R : Proof × Bool) (w : World) (e : Ending) (w' : World) : Prop := ∃ c, e = .returned (.tuple #[.agg c.toArray, .bool R.2]) ∧ rd true w' c R.1 (rng w.heap.size w'.heap.size) ∧ Below w.heap.size w w'
theorem PlRes.mk {R : Proof × Bool} {B : List Leaf} {L : List ByteArray} {b : Bool} {w w' : World} {A A' : Option Addr} {c c' n n' : Nat} {S S' : Blks} (hR : R = (⟨B, L⟩, b)) (hn : n = B.length) (hn' : n' = L.length) (l1 : B.length ≤ c) (m1 : c ≤ maxLen) (r1 : Row true w' A c B S) (l2 : L.length ≤ c') (m2 : c' ≤ maxLen) (r2 : Row true w' A' c' L S') (hd : disj S S') (s1 : sub S (rng w.heap.size w'.heap.size)) (s2 : sub S' (rng w.heap.size w'.heap.size)) (hb : Below w.heap.size w w') :
    PlRes R w (.returned (.tuple #[.agg #[.slice A n c, .slice A' n' c'], .bool b])) w' := by
  subst hR; subst hn; subst hn'
  exact ⟨[.slice A B.length c, .slice A' L.length c'], rfl, Proof.mk' (x := ⟨B, L⟩) (S0 := S) (S1 := S') l1 m1 r1 s1 l2 m2 r2 s2 (fun _ => pwmk2 hd), hb⟩
theorem PlRes.nil {R : Proof × Bool} {w w' : World} (hR : R = (⟨[], []⟩, false)) (hb : Below w.heap.size w w') : PlRes R w (.returned (.tuple #[.agg #[.slice none 0 0, .slice none 0 0], .bool false])) w' :=
  PlRes.mk (S := none_) (S' := none_) hR rfl rfl (Nat.le_refl _) (by decide) (row_nil _ _) (Nat.le_refl _) (by decide) (row_nil _ _) (disj_none_ _) (fun _ h => h.elim) (fun _ h => h.elim) hb
set_option maxRecDepth 20000 in set_option maxHeartbeats 8000000 in
theorem impl_ProveLeaf (w : World) (xs : List Leaf) (A : Option Addr) (cap : Nat) (S : Blks) (hx : Row false w A cap xs S) (hl : xs.length ≤ 1048576) (hz : szL xs ≤ 1048576) (name : ByteArray) (hn : name.size ≤ 1048576) (lv : Int) (hlv : I64 lv) (n : Int) (hnn : I64 n) (hT : Tabs w) : Calls Tryz.prog 74 #[.slice A xs.length cap, .string name, .int .i64 lv, .int .i64 n] w (PlRes (proveLeaf xs name lv n) w) := by
  have HT := Lib.hid hT
  clear hT
  have hnm : name.size ≤ maxLen := by unfold maxLen; omega
  have HLV := Lib.hid (fun W (h : Below w.heap.size w W) => impl_LeavesOk W xs A cap S (Row.later hx h) (by omega))
  have HNM := Lib.hid (fun W => impl_NameOk name W hnm)
  have HIN := Lib.hid (fun W => impl_in lv 0 8 W)
  have HIW := Lib.hid (fun W => impl_isWide n W)
  have HF : Hid (proveLeaf xs name lv n = if (leavesOk xs && (nameOk name && (inB lv 0 8 && inB n 1 32))) = true then (⟨bucketOf xs (indexOf name), sidesD n (indexOf name) xs (8 - lv.toNat)⟩, true) else (⟨[], []⟩, false)) := Lib.hid rfl
  obtain ⟨R, hR⟩ : ∃ R, proveLeaf xs name lv n = R := ⟨_, rfl⟩
  rw [hR] at HF ⊢
  clear hR
  have hWd : ∀ W, W = w.alloc (.cells #[.slice none 0 0, .slice none 0 0] 36) → Below w.heap.size w W ∧ W.cell? ⟨w.heap.size, 0, none⟩ = some (.slice none 0 0) ∧ W.cell? ⟨w.heap.size, 1, none⟩ = some (.slice none 0 0) ∧ (∀ o, W.frozen? ⟨w.heap.size, o, none⟩ = false) ∧ w.heap.size < W.heap.size := by
    rintro W rfl
    exact ⟨(Below.refl _ _).alloc (Nat.le_refl _) _, box_cell _ _ _ _ _ rfl, box_cell _ _ _ _ _ rfl, fun o => by simp, by simp⟩
  cases h1 : leavesOk xs <;> rw [h1] at HLV
  · have HE : Hid (R = (⟨[], []⟩, false)) := Lib.hid (by rw [HF.out, h1]; simp)
    clear HF h1
    go_enter Tryz.func74, Tryz.ntmps74
    go_wp2_with (fail)
    obtain ⟨W, hW⟩ : ∃ W, w.alloc (.cells #[.slice none 0 0, .slice none 0 0] 36) = W := ⟨_, rfl⟩
    rw [hW]
    obtain ⟨hBW, z0, z1, zf, hlW⟩ := hWd W hW.symm
    clear hW hWd
    refine (HLV.out _ hBW).mono ?_
    rintro e1 w1 ⟨rfl, hb1⟩
    replace z0 := (hb1.cell (p := ⟨w.heap.size, 0, none⟩) hlW).trans z0
    replace z1 := (hb1.cell (p := ⟨w.heap.size, 1, none⟩) hlW).trans z1
    replace zf := fun o => (hb1.frozen (p := ⟨w.heap.size, o, none⟩) hlW).trans (zf o)
    have hl1 : w.heap.size < w1.heap.size := Nat.lt_of_lt_of_le hlW hb1.size
    have HB1 := Lib.hid (hBW.trans (hb1.mono hBW.size))
    clear hBW hb1 hlW
    go_wp2_with (first | (go_at_call 72; refine (HNM.out _).mono ?_; rintro e2 w2 ⟨rfl, rfl⟩) | (go_at_call 70; refine (HIN.out _).mono ?_; rintro e3 w3 ⟨rfl, rfl⟩) | (go_at_call 168; refine (HIW.out _).mono ?_; rintro e4 w4 ⟨rfl, rfl⟩))
    refine bodyPost_ret (v := .tuple #[.agg #[.slice none 0 0, .slice none 0 0], .bool false]) (by simp [results, Tryz.results74, go_sem, *]) rfl ?_
    exact PlRes.nil HE.out (Below.setCell (Below.setCell HB1.out (Nat.le_refl _) _) (Nat.le_refl _) _)
  cases h2 : nameOk name <;> rw [h2] at HNM
  · have HE : Hid (R = (⟨[], []⟩, false)) := Lib.hid (by rw [HF.out, h1, h2]; simp)
    clear HF h1 h2
    go_enter Tryz.func74, Tryz.ntmps74
    go_wp2_with (fail)
    obtain ⟨W, hW⟩ : ∃ W, w.alloc (.cells #[.slice none 0 0, .slice none 0 0] 36) = W := ⟨_, rfl⟩
    rw [hW]
    obtain ⟨hBW, z0, z1, zf, hlW⟩ := hWd W hW.symm
    clear hW hWd
    refine (HLV.out _ hBW).mono ?_
    rintro e1 w1 ⟨rfl, hb1⟩
    replace z0 := (hb1.cell (p := ⟨w.heap.size, 0, none⟩) hlW).trans z0
    replace z1 := (hb1.cell (p := ⟨w.heap.size, 1, none⟩) hlW).trans z1
    replace zf := fun o => (hb1.frozen (p := ⟨w.heap.size, o, none⟩) hlW).trans (zf o)
    have hl1 : w.heap.size < w1.heap.size := Nat.lt_of_lt_of_le hlW hb1.size
    have HB1 := Lib.hid (hBW.trans (hb1.mono hBW.size))
    clear hBW hb1 hlW
    go_wp2_with (first | (go_at_call 72; refine (HNM.out _).mono ?_; rintro e2 w2 ⟨rfl, rfl⟩) | (go_at_call 70; refine (HIN.out _).mono ?_; rintro e3 w3 ⟨rfl, rfl⟩) | (go_at_call 168; refine (HIW.out _).mono ?_; rintro e4 w4 ⟨rfl, rfl⟩))
    refine bodyPost_ret (v := .tuple #[.agg #[.slice none 0 0, .slice none 0 0], .bool false]) (by simp [results, Tryz.results74, go_sem, *]) rfl ?_
    exact PlRes.nil HE.out (Below.setCell (Below.setCell HB1.out (Nat.le_refl _) _) (Nat.le_refl _) _)
  cases h3 : inB lv 0 8 <;> rw [h3] at HIN
  · have HE : Hid (R = (⟨[], []⟩, false)) := Lib.hid (by rw [HF.out, h1, h2, h3]; simp)
    clear HF h1 h2 h3
    go_enter Tryz.func74, Tryz.ntmps74
    go_wp2_with (fail)
    obtain ⟨W, hW⟩ : ∃ W, w.alloc (.cells #[.slice none 0 0, .slice none 0 0] 36) = W := ⟨_, rfl⟩
    rw [hW]
    obtain ⟨hBW, z0, z1, zf, hlW⟩ := hWd W hW.symm
    clear hW hWd
    refine (HLV.out _ hBW).mono ?_
    rintro e1 w1 ⟨rfl, hb1⟩
    replace z0 := (hb1.cell (p := ⟨w.heap.size, 0, none⟩) hlW).trans z0
    replace z1 := (hb1.cell (p := ⟨w.heap.size, 1, none⟩) hlW).trans z1
    replace zf := fun o => (hb1.frozen (p := ⟨w.heap.size, o, none⟩) hlW).trans (zf o)
    have hl1 : w.heap.size < w1.heap.size := Nat.lt_of_lt_of_le hlW hb1.size
    have HB1 := Lib.hid (hBW.trans (hb1.mono hBW.size))
    clear hBW hb1 hlW
    go_wp2_with (first | (go_at_call 72; refine (HNM.out _).mono ?_; rintro e2 w2 ⟨rfl, rfl⟩) | (go_at_call 70; refine (HIN.out _).mono ?_; rintro e3 w3 ⟨rfl, rfl⟩) | (go_at_call 168; refine (HIW.out _).mono ?_; rintro e4 w4 ⟨rfl, rfl⟩))
    refine bodyPost_ret (v := .tuple #[.agg #[.slice none 0 0, .slice none 0 0], .bool false]) (by simp [results, Tryz.results74, go_sem, *]) rfl ?_
    exact PlRes.nil HE.out (Below.setCell (Below.setCell HB1.out (Nat.le_refl _) _) (Nat.le_refl _) _)
  cases h4 : inB n 1 32 <;> rw [h4] at HIW
  · have HE : Hid (R = (⟨[], []⟩, false)) := Lib.hid (by rw [HF.out, h1, h2, h3, h4]; simp)
    clear HF h1 h2 h3 h4
    go_enter Tryz.func74, Tryz.ntmps74
    go_wp2_with (fail)
    obtain ⟨W, hW⟩ : ∃ W, w.alloc (.cells #[.slice none 0 0, .slice none 0 0] 36) = W := ⟨_, rfl⟩
    rw [hW]
    obtain ⟨hBW, z0, z1, zf, hlW⟩ := hWd W hW.symm
    clear hW hWd
    refine (HLV.out _ hBW).mono ?_
    rintro e1 w1 ⟨rfl, hb1⟩
    replace z0 := (hb1.cell (p := ⟨w.heap.size, 0, none⟩) hlW).trans z0
    replace z1 := (hb1.cell (p := ⟨w.heap.size, 1, none⟩) hlW).trans z1
    replace zf := fun o => (hb1.frozen (p := ⟨w.heap.size, o, none⟩) hlW).trans (zf o)
    have hl1 : w.heap.size < w1.heap.size := Nat.lt_of_lt_of_le hlW hb1.size
    have HB1 := Lib.hid (hBW.trans (hb1.mono hBW.size))
    clear hBW hb1 hlW
    go_wp2_with (first | (go_at_call 72; refine (HNM.out _).mono ?_; rintro e2 w2 ⟨rfl, rfl⟩) | (go_at_call 70; refine (HIN.out _).mono ?_; rintro e3 w3 ⟨rfl, rfl⟩) | (go_at_call 168; refine (HIW.out _).mono ?_; rintro e4 w4 ⟨rfl, rfl⟩))
    refine bodyPost_ret (v := .tuple #[.agg #[.slice none 0 0, .slice none 0 0], .bool false]) (by simp [results, Tryz.results74, go_sem, *]) rfl ?_
    exact PlRes.nil HE.out (Below.setCell (Below.setCell HB1.out (Nat.le_refl _) _) (Nat.le_refl _) _)
  have HE : Hid (R = (⟨bucketOf xs (indexOf name), sidesD n (indexOf name) xs (8 - lv.toNat)⟩, true)) := Lib.hid (by rw [HF.out, h1, h2, h3, h4]; rfl)
  have hlv8 : 0 ≤ lv ∧ lv ≤ 8 := by simpa [inB] using h3
  obtain ⟨m, hm, hm8⟩ : ∃ m : Nat, lv = 8 - (m : Int) ∧ m ≤ 8 := ⟨8 - lv.toNat, by omega, by omega⟩
  have HMM : Hid (8 - lv.toNat = m) := Lib.hid (by omega)
  clear HF h1 h2 h3 h4 hlv8
  subst hm
  rw [HMM.out] at HE
  have hix := indexOf_lt name
  have HIX := Lib.hid (fun W (h : Below w.heap.size w W) => impl_IndexOf W name (by omega) (HT.out.later h))
  obtain ⟨ix, hixe⟩ : ∃ ix, indexOf name = ix := ⟨_, rfl⟩
  rw [hixe] at HE HIX hix
  clear hixe
  have HBK := Lib.hid (fun W (h : Below w.heap.size w W) => impl_BucketOf W xs A cap S (Row.later hx h) hl hz (ix : Int) (HT.out.later h))
  have HGR := Lib.hid (fun W (h : Below w.heap.size w W) => impl_newGrove W xs A cap S (Row.later hx h) hl hz n (HT.out.later h))
  have HSD := Lib.hid (fun W (h : Below w.heap.size w W) (A2 : Option Addr) (c2 : Nat) (S2 : Blks) (hi : Row false W A2 c2 (ixs xs) S2) => impl_sides W xs A cap S (Row.later hx h) A2 c2 S2 hi hl n hnn ix hix m hm8 (HT.out.later h))
  go_enter Tryz.func74, Tryz.ntmps74
  go_wp2_with (fail)
  obtain ⟨W, hW⟩ : ∃ W, w.alloc (.cells #[.slice none 0 0, .slice none 0 0] 36) = W := ⟨_, rfl⟩
  rw [hW]
  obtain ⟨hBW, z0, z1, zf, hlW⟩ := hWd W hW.symm
  clear hW hWd
  refine (HLV.out _ hBW).mono ?_
  rintro e1 w1 ⟨rfl, hb1⟩
  replace z0 := (hb1.cell (p := ⟨w.heap.size, 0, none⟩) hlW).trans z0
  replace z1 := (hb1.cell (p := ⟨w.heap.size, 1, none⟩) hlW).trans z1
  replace zf := fun o => (hb1.frozen (p := ⟨w.heap.size, o, none⟩) hlW).trans (zf o)
  have hl1 : w.heap.size < w1.heap.size := Nat.lt_of_lt_of_le hlW hb1.size
  have HB1 := Lib.hid (hBW.trans (hb1.mono hBW.size))
  clear hBW hb1 hlW
  go_wp2_with (first | (go_at_call 72; refine (HNM.out _).mono ?_; rintro e2 w2 ⟨rfl, rfl⟩) | (go_at_call 70; refine (HIN.out _).mono ?_; rintro e3 w3 ⟨rfl, rfl⟩) | (go_at_call 168; refine (HIW.out _).mono ?_; rintro e4 w4 ⟨rfl, rfl⟩))
  refine (HIX.out _ HB1.out).mono ?_
  rintro e5 w5 ⟨rfl, hb5⟩
  have HB5 := Lib.hid (HB1.out.trans (hb5.mono HB1.out.size))
  replace z0 := (hb5.cell (p := ⟨w.heap.size, 0, none⟩) hl1).trans z0
  replace z1 := (hb5.cell (p := ⟨w.heap.size, 1, none⟩) hl1).trans z1
  replace zf := fun o => (hb5.frozen (p := ⟨w.heap.size, o, none⟩) hl1).trans (zf o)
  have hl5 : w.heap.size < w5.heap.size := Nat.lt_of_lt_of_le hl1 hb5.size
  clear hb5
  go_wp2_with (fail)
  refine (HBK.out _ HB5.out).mono ?_
  rintro e6 w6 ⟨A6, c6, rfl, o6⟩
  have hb6 := o6.bl
  have HB6 := Lib.hid (HB5.out.trans (hb6.mono HB5.out.size))
  replace z0 := (hb6.cell (p := ⟨w.heap.size, 0, none⟩) hl5).trans z0
  replace z1 := (hb6.cell (p := ⟨w.heap.size, 1, none⟩) hl5).trans z1
  replace zf := fun o => (hb6.frozen (p := ⟨w.heap.size, o, none⟩) hl5).trans (zf o)
  have hl6 : w.heap.size < w6.heap.size := Nat.lt_of_lt_of_le hl5 hb6.size
  have O6 := Lib.hid o6
  clear hb6 o6
  go_wp2_with (fail)
  refine (HGR.out _ HB6.out).mono ?_
  rintro e7 w7 ⟨A7, c7, rfl, o7⟩
  have hb7 := o7.bl
  have HB7 := Lib.hid (HB6.out.trans (hb7.mono HB6.out.size))
  replace z0 := (hb7.cell (p := ⟨w.heap.size, 0, none⟩) hl6).trans z0
  replace z1 := (hb7.cell (p := ⟨w.heap.size, 1, none⟩) hl6).trans z1
  replace zf := fun o => (hb7.frozen (p := ⟨w.heap.size, o, none⟩) hl6).trans (zf o)
  have hl7 : w.heap.size < w7.heap.size := Nat.lt_of_lt_of_le hl6 hb7.size
  have O7 := Lib.hid o7
  clear hb7 o7
  go_wp2_with (fail)
  refine (HSD.out _ HB7.out A7 c7 _ O7.out.weak).mono ?_
  rintro e8 w8 ⟨A8, c8, rfl, o8⟩
  have hb8 := o8.bl
  have HB8 := Lib.hid (HB7.out.trans (hb8.mono HB7.out.size))
  replace z0 := (hb8.cell (p := ⟨w.heap.size, 0, none⟩) hl7).trans z0
  replace z1 := (hb8.cell (p := ⟨w.heap.size, 1, none⟩) hl7).trans z1
  replace zf := fun o => (hb8.frozen (p := ⟨w.heap.size, o, none⟩) hl7).trans (zf o)
  have hl8 : w.heap.size < w8.heap.size := Nat.lt_of_lt_of_le hl7 hb8.size
  have O8 := Lib.hid o8
  clear hb8 o8
  obtain ⟨B, hBe⟩ : ∃ B, bucketOf xs (ix : Int) = B := ⟨_, rfl⟩
  obtain ⟨L, hLe⟩ : ∃ L, sidesD n ix xs m = L := ⟨_, rfl⟩
  rw [hBe] at HE O6
  rw [hLe] at HE O8
  simp only [hBe, hLe]
  clear hBe hLe
  have HL5 := Lib.hid hl5
  go_wp2
  refine bodyPost_ret (v := .tuple #[.agg #[.slice A6 B.length c6, .slice A8 L.length c8], .bool true]) (by simp [results, Tryz.results74, go_sem, *]) rfl ?_
  have s6 := O6.out.size
  have s7 := O7.out.size
  have s8 := O8.out.size
  have hn1 : ∀ o : Nat, ¬ rng w5.heap.size w6.heap.size (⟨w.heap.size, o, none⟩ : Addr).block := fun o h => by have h1 := h.1; have := HL5.out; simp only at h1; omega
  have hn2 : ∀ o : Nat, ¬ rng w7.heap.size w8.heap.size (⟨w.heap.size, o, none⟩ : Addr).block := fun o h => by have h1 := h.1; simp only at h1; omega
  have r6 := Row.later O6.out.rng (O7.out.bl.trans (O8.out.bl.mono O7.out.bl.size))
  exact PlRes.mk HE.out rfl rfl O6.out.le O6.out.cm ((r6.setC (hn1 0) _).setC (hn1 1) _) O8.out.le O8.out.cm ((O8.out.rng.setC (hn2 0) _).setC (hn2 1) _) (fun b h1 h2 => by have := h1.2; have := h2.1; omega) (fun b h => by have := h.1; have := h.2; have := HL5.out; unfold rng; simp; omega) (fun b h => by have := h.1; have := h.2; unfold rng; simp; omega) (Below.setCell (Below.setCell HB8.out (Nat.le_refl _) _) (Nat.le_refl _) _)
end Go.Proofs.YtcbbjfafmmcfiaaGreatDoor
