/- Walks: a text padded to whole blocks. -/
import Derived.Test.YtojbehmbeoemgaaDoorKBy
import Derived.Test.YtojbehmbeoemgaaDoorB2
import Derived.IntWalk
import Derived.Outline
set_option linter.unusedVariables false
set_option linter.unusedSimpArgs false
namespace Go.Proofs.YtojbehmbeoemgaaDoor
open Go.RowKit Lay Mk
def padZ (n : Nat) : Nat := (119 - n % 64) % 64
def lenB (n k : Nat) : UInt8 := UInt8.ofNat (8 * n / 2 ^ (8 * k))
def lens (n : Nat) : List UInt8 := [lenB n 7, lenB n 6, lenB n 5, lenB n 4, lenB n 3, lenB n 2, lenB n 1, lenB n 0]
def padL (s : ByteArray) : List UInt8 := s.data.toList ++ [128] ++ List.replicate (padZ s.size) 0 ++ lens s.size
def pad (s : ByteArray) : ByteArray := bs (padL s)
theorem pad_size (s : ByteArray) : (pad s).size = s.size + 9 + padZ s.size := by
  have : s.data.size = s.size := rfl
  unfold pad padL; rw [bs_size]; simp [lens]; omega
theorem pad_mod (s : ByteArray) : (pad s).size % 64 = 0 := by rw [pad_size]; unfold padZ; omega
theorem lenB_int (n k : Nat) (z : Int) (h : z = ((8 * n / 2 ^ (8 * k) : Nat) : Int) % 256) : z = ((lenB n k).toNat : Int) := by
  subst h
  unfold lenB
  rw [UInt8.toNat_ofNat']
  omega
theorem padZ_test {n z : Nat} (h : z ≤ padZ n) : (n + 1 + z) % 64 = 56 ↔ z = padZ n := by unfold padZ at *; omega
def slLen : Value → Nat
  | .slice _ n _ => n
  | _ => 0
theorem dlen (s : ByteArray) : s.data.toList.length = s.size := rfl

set_option maxRecDepth 20000 in set_option maxHeartbeats 4000000 in
theorem impl_PadText (w : World) (s : ByteArray) (hs : s.size ≤ 100000000) : Calls Tryd.prog 147 #[.string s] w fun e w' => e = .returned (.string (pad s)) ∧ Below w.heap.size w w' := by
  have hd := dlen s
  have HD := Lib.hid hd; clear hd
  have hz64 : padZ s.size < 64 := by unfold padZ; omega
  have E1 : Hid ((119 - (s.size : Int)) % 64 = ((padZ s.size : Nat) : Int)) := Lib.hid (by unfold padZ; omega)
  obtain ⟨z, hz⟩ : ∃ z, padZ s.size = z := ⟨_, rfl⟩
  rw [hz] at E1 hz64
  have HZ := Lib.hid hz; clear hz
  go_enter Tryd.func147, Tryd.ntmps147
  go_wp2_with (first | (refine wpList_ofStr rfl _ rfl Tryd.underlying5 Tryd.underlying9 rfl (by omega) ?_; intro g cap w1 h1 h2 hg h3 h4; subst hg) | (at_builtin; refine wpList_appB rfl _ _ rfl rfl HD.out.symm (h3.alloc _) h1 h2 [128] rfl rfl (at_lit _ _ _ _ _ rfl) (by omega) ?_; intro A2 cap2 w2 p1 p2 p3 p4; have HL2 : Hid (s.size + 1 = (s.data.toList ++ [128]).length) := Lib.hid (by rw [List.length_append]; rfl); clear h1 h2 h3) | (at_builtin; refine wpList_appZ rfl _ _ rfl Tryd.underlying3 z rfl HL2.out p3 p1 p2 (congrArg (Value.int IntKind.i64) E1.out) (by omega) ?_; intro A3 cap3 w3 q1 q2 q3 q4))
  have hB3 : Below w.heap.size w w3 := ((h4.alloc h4.size _).trans (p4.to_below (by have := h4.size; simp; omega) (fun b hb => hb))).trans (q4.to_below (by have := h4.size; have := p4.size; simp at this; omega) (fun b hb => hb.elim id (fun x => by have := h4.size; simp at x; omega)))
  have r3 : BR w3 A3 cap3 (s.data.toList ++ [128] ++ List.replicate z 0) (fun b => w.heap.size ≤ b) := q3.mono (fun b hb => hb.elim (fun x => x.elim id (fun y => by have := h4.size; simp at y; omega)) (fun x => by have := h4.size; have := p4.size; simp at this; omega))
  obtain ⟨base, hbase⟩ : ∃ l, s.data.toList ++ [128] ++ List.replicate z 0 = l := ⟨_, rfl⟩
  have HL : Hid (s.size + 1 + z = base.length) := Lib.hid (by rw [← hbase]; simp; omega)
  have HPd : Hid (pad s = bs (base ++ lens s.size)) := Lib.hid (by unfold pad padL; rw [HZ.out, hbase])
  rw [hbase] at r3
  clear hbase q3 q4 p3 p4 p1 p2 h4 HL2 E1
  go_loopw [4, 5] (fun u i wr => ∃ (j : Nat) (A : Option Addr) (cap : Nat), j ≤ 8 ∧ i = .int .i64 (7 - (j : Int)) ∧ u = .slice A (s.size + 1 + z + j) cap ∧ s.size + 1 + z + j ≤ cap ∧ cap ≤ maxLen ∧ BR wr A cap (base ++ (lens s.size).take j) (fun b => w.heap.size ≤ b) ∧ Below w.heap.size w wr) (fun _ i _ => (intOf i + 1).toNat)
  case atStart => exact ⟨0, A3, cap3, by omega, by simp, by simp, by omega, q2, by simpa using r3, hB3⟩
  case round =>
    clear r3 hB3 q1 q2
    obtain ⟨j, A, cap, hj, rfl, rfl, c1, c2, r3, hB⟩ := hrel
    have hz := hB.size
    by_cases hlt : j < 8
    · have HL3 : Hid (s.size + 1 + z + j = (base ++ (lens s.size).take j).length) := Lib.hid (by rw [List.length_append, ← HL.out]; simp [lens]; omega)
      rcases (show j = 0 ∨ j = 1 ∨ j = 2 ∨ j = 3 ∨ j = 4 ∨ j = 5 ∨ j = 6 ∨ j = 7 by omega) with rfl | rfl | rfl | rfl | rfl | rfl | rfl | rfl
      · have HV : Hid (∀ q : Int, q = ((8 * s.size / 72057594037927936 : Nat) : Int) % 256 → q = ((lenB s.size 7).toNat : Int)) := Lib.hid (fun q h => lenB_int _ _ q h)
        go_wp2_with (at_builtin; refine wpList_appB rfl _ _ rfl rfl HL3.out (r3.alloc _) c1 c2 [lenB s.size 7] rfl rfl (at_lit _ _ _ _ _ (congrArg (fun q => [Value.int IntKind.u8 q]) (HV.out _ (by omega)))) (by omega) ?_; intro A5 cap5 w5 d1 d2 d3 d4)
        go_roundw
        case rel => exact ⟨0 + 1, A5, cap5, by omega, by simp, rfl, d1, d2, by rw [show base ++ (lens s.size).take (0 + 1) = base ++ (lens s.size).take 0 ++ [lenB s.size 7] from by rw [List.append_assoc]; rfl]; exact d3.mono (fun b hb => hb.elim id (fun y => by simp at y; omega)), (hB.alloc hz _).trans (d4.to_below (by simp; omega) (fun b hb => hb))⟩
        case measure => simp [intOf]
      · have HV : Hid (∀ q : Int, q = ((8 * s.size / 281474976710656 : Nat) : Int) % 256 → q = ((lenB s.size 6).toNat : Int)) := Lib.hid (fun q h => lenB_int _ _ q h)
        go_wp2_with (at_builtin; refine wpList_appB rfl _ _ rfl rfl HL3.out (r3.alloc _) c1 c2 [lenB s.size 6] rfl rfl (at_lit _ _ _ _ _ (congrArg (fun q => [Value.int IntKind.u8 q]) (HV.out _ (by omega)))) (by omega) ?_; intro A5 cap5 w5 d1 d2 d3 d4)
        go_roundw
        case rel => exact ⟨1 + 1, A5, cap5, by omega, by simp, rfl, d1, d2, by rw [show base ++ (lens s.size).take (1 + 1) = base ++ (lens s.size).take 1 ++ [lenB s.size 6] from by rw [List.append_assoc]; rfl]; exact d3.mono (fun b hb => hb.elim id (fun y => by simp at y; omega)), (hB.alloc hz _).trans (d4.to_below (by simp; omega) (fun b hb => hb))⟩
        case measure => simp [intOf]
      · have HV : Hid (∀ q : Int, q = ((8 * s.size / 1099511627776 : Nat) : Int) % 256 → q = ((lenB s.size 5).toNat : Int)) := Lib.hid (fun q h => lenB_int _ _ q h)
        go_wp2_with (at_builtin; refine wpList_appB rfl _ _ rfl rfl HL3.out (r3.alloc _) c1 c2 [lenB s.size 5] rfl rfl (at_lit _ _ _ _ _ (congrArg (fun q => [Value.int IntKind.u8 q]) (HV.out _ (by omega)))) (by omega) ?_; intro A5 cap5 w5 d1 d2 d3 d4)
        go_roundw
        case rel => exact ⟨2 + 1, A5, cap5, by omega, by simp, rfl, d1, d2, by rw [show base ++ (lens s.size).take (2 + 1) = base ++ (lens s.size).take 2 ++ [lenB s.size 5] from by rw [List.append_assoc]; rfl]; exact d3.mono (fun b hb => hb.elim id (fun y => by simp at y; omega)), (hB.alloc hz _).trans (d4.to_below (by simp; omega) (fun b hb => hb))⟩
        case measure => simp [intOf]
      · have HV : Hid (∀ q : Int, q = ((8 * s.size / 4294967296 : Nat) : Int) % 256 → q = ((lenB s.size 4).toNat : Int)) := Lib.hid (fun q h => lenB_int _ _ q h)
        go_wp2_with (at_builtin; refine wpList_appB rfl _ _ rfl rfl HL3.out (r3.alloc _) c1 c2 [lenB s.size 4] rfl rfl (at_lit _ _ _ _ _ (congrArg (fun q => [Value.int IntKind.u8 q]) (HV.out _ (by omega)))) (by omega) ?_; intro A5 cap5 w5 d1 d2 d3 d4)
        go_roundw
        case rel => exact ⟨3 + 1, A5, cap5, by omega, by simp, rfl, d1, d2, by rw [show base ++ (lens s.size).take (3 + 1) = base ++ (lens s.size).take 3 ++ [lenB s.size 4] from by rw [List.append_assoc]; rfl]; exact d3.mono (fun b hb => hb.elim id (fun y => by simp at y; omega)), (hB.alloc hz _).trans (d4.to_below (by simp; omega) (fun b hb => hb))⟩
        case measure => simp [intOf]
      · have HV : Hid (∀ q : Int, q = ((8 * s.size / 16777216 : Nat) : Int) % 256 → q = ((lenB s.size 3).toNat : Int)) := Lib.hid (fun q h => lenB_int _ _ q h)
        go_wp2_with (at_builtin; refine wpList_appB rfl _ _ rfl rfl HL3.out (r3.alloc _) c1 c2 [lenB s.size 3] rfl rfl (at_lit _ _ _ _ _ (congrArg (fun q => [Value.int IntKind.u8 q]) (HV.out _ (by omega)))) (by omega) ?_; intro A5 cap5 w5 d1 d2 d3 d4)
        go_roundw
        case rel => exact ⟨4 + 1, A5, cap5, by omega, by simp, rfl, d1, d2, by rw [show base ++ (lens s.size).take (4 + 1) = base ++ (lens s.size).take 4 ++ [lenB s.size 3] from by rw [List.append_assoc]; rfl]; exact d3.mono (fun b hb => hb.elim id (fun y => by simp at y; omega)), (hB.alloc hz _).trans (d4.to_below (by simp; omega) (fun b hb => hb))⟩
        case measure => simp [intOf]
      · have HV : Hid (∀ q : Int, q = ((8 * s.size / 65536 : Nat) : Int) % 256 → q = ((lenB s.size 2).toNat : Int)) := Lib.hid (fun q h => lenB_int _ _ q h)
        go_wp2_with (at_builtin; refine wpList_appB rfl _ _ rfl rfl HL3.out (r3.alloc _) c1 c2 [lenB s.size 2] rfl rfl (at_lit _ _ _ _ _ (congrArg (fun q => [Value.int IntKind.u8 q]) (HV.out _ (by omega)))) (by omega) ?_; intro A5 cap5 w5 d1 d2 d3 d4)
        go_roundw
        case rel => exact ⟨5 + 1, A5, cap5, by omega, by simp, rfl, d1, d2, by rw [show base ++ (lens s.size).take (5 + 1) = base ++ (lens s.size).take 5 ++ [lenB s.size 2] from by rw [List.append_assoc]; rfl]; exact d3.mono (fun b hb => hb.elim id (fun y => by simp at y; omega)), (hB.alloc hz _).trans (d4.to_below (by simp; omega) (fun b hb => hb))⟩
        case measure => simp [intOf]
      · have HV : Hid (∀ q : Int, q = ((8 * s.size / 256 : Nat) : Int) % 256 → q = ((lenB s.size 1).toNat : Int)) := Lib.hid (fun q h => lenB_int _ _ q h)
        go_wp2_with (at_builtin; refine wpList_appB rfl _ _ rfl rfl HL3.out (r3.alloc _) c1 c2 [lenB s.size 1] rfl rfl (at_lit _ _ _ _ _ (congrArg (fun q => [Value.int IntKind.u8 q]) (HV.out _ (by omega)))) (by omega) ?_; intro A5 cap5 w5 d1 d2 d3 d4)
        go_roundw
        case rel => exact ⟨6 + 1, A5, cap5, by omega, by simp, rfl, d1, d2, by rw [show base ++ (lens s.size).take (6 + 1) = base ++ (lens s.size).take 6 ++ [lenB s.size 1] from by rw [List.append_assoc]; rfl]; exact d3.mono (fun b hb => hb.elim id (fun y => by simp at y; omega)), (hB.alloc hz _).trans (d4.to_below (by simp; omega) (fun b hb => hb))⟩
        case measure => simp [intOf]
      · have HV : Hid (∀ q : Int, q = ((8 * s.size / 1 : Nat) : Int) % 256 → q = ((lenB s.size 0).toNat : Int)) := Lib.hid (fun q h => lenB_int _ _ q h)
        go_wp2_with (at_builtin; refine wpList_appB rfl _ _ rfl rfl HL3.out (r3.alloc _) c1 c2 [lenB s.size 0] rfl rfl (at_lit _ _ _ _ _ (congrArg (fun q => [Value.int IntKind.u8 q]) (HV.out _ (by omega)))) (by omega) ?_; intro A5 cap5 w5 d1 d2 d3 d4)
        go_roundw
        case rel => exact ⟨7 + 1, A5, cap5, by omega, by simp, rfl, d1, d2, by rw [show base ++ (lens s.size).take (7 + 1) = base ++ (lens s.size).take 7 ++ [lenB s.size 0] from by rw [List.append_assoc]; rfl]; exact d3.mono (fun b hb => hb.elim id (fun y => by simp at y; omega)), (hB.alloc hz _).trans (d4.to_below (by simp; omega) (fun b hb => hb))⟩
        case measure => simp [intOf]
    · have hje : j = 8 := by omega
      subst hje
      have HL4 : Hid (s.size + 1 + z + 8 = (base ++ (lens s.size).take 8).length) := Lib.hid (by rw [List.length_append, ← HL.out]; rfl)
      go_wp2_with (refine wpList_strB rfl _ rfl Tryd.underlying5 Tryd.underlying9 rfl HL4.out r3 ?_)
      go_ret
      exact ⟨by rw [HPd.out]; rfl, hB⟩

set_option maxRecDepth 20000 in set_option maxHeartbeats 4000000 in
theorem spec_PadText (w : World) (s : ByteArray) (hs : s.size ≤ 100000000) : Calls Tryd.prog 133 #[.string s] w fun e w' => e = .returned (.string (pad s)) ∧ Below w.heap.size w w' := by
  have hd := dlen s
  have HD := Lib.hid hd; clear hd
  have hz64 : padZ s.size < 64 := by unfold padZ; omega
  have HT := Lib.hid (fun q => padZ_test (n := s.size) (z := q))
  obtain ⟨z, hz⟩ : ∃ z, padZ s.size = z := ⟨_, rfl⟩
  rw [hz] at HT hz64
  have HZ := Lib.hid hz; clear hz
  go_enter Tryd.func133, Tryd.ntmps133
  go_wp2_with (first | (refine wpList_ofStr rfl _ rfl Tryd.underlying5 Tryd.underlying9 rfl (by omega) ?_; intro g cap w1 h1 h2 hg h3 h4; subst hg) | (at_builtin; refine wpList_appB rfl _ _ rfl rfl HD.out.symm (h3.alloc _) h1 h2 [128] rfl rfl (at_lit _ _ _ _ _ rfl) (by omega) ?_; intro A2 cap2 w2 p1 p2 p3 p4; clear h1 h2 h3))
  have hB2 : Below w.heap.size w w2 := ((h4.alloc h4.size _).trans (p4.to_below (by have := h4.size; simp; omega) (fun b hb => hb)))
  have r2 : BR w2 A2 cap2 (s.data.toList ++ [128] ++ List.replicate 0 0) (fun b => w.heap.size ≤ b) := by
    rw [List.replicate_zero, List.append_nil]
    exact p3.mono (fun b hb => hb.elim id (fun x => by have := h4.size; simp at x; omega))
  obtain ⟨bas, hbas⟩ : ∃ l, s.data.toList ++ [128] = l := ⟨_, rfl⟩
  have HL0 : Hid (s.size + 1 = bas.length) := Lib.hid (by rw [← hbas]; simp)
  have HPd : Hid (pad s = bs (bas ++ List.replicate z 0 ++ lens s.size)) := Lib.hid (by unfold pad padL; rw [HZ.out, hbas])
  rw [hbas] at r2
  clear hbas p3 p4 h4
  go_loopw [3] (fun u wr => ∃ (q : Nat) (A : Option Addr) (cap : Nat), q ≤ z ∧ u = .slice A (s.size + 1 + q) cap ∧ s.size + 1 + q ≤ cap ∧ cap ≤ maxLen ∧ BR wr A cap (bas ++ List.replicate q 0) (fun b => w.heap.size ≤ b) ∧ Below w.heap.size w wr) (fun u _ => s.size + 1 + z - slLen u)
  case atStart => exact ⟨0, A2, cap2, by omega, by simp, by simpa using p1, p2, r2, hB2⟩
  case round =>
    clear r2 hB2 p1 p2
    obtain ⟨q, A3, cap3, hq, rfl, q1, q2, r3, hB3⟩ := hrel
    have hz3 := hB3.size
    have ht := HT.out q hq
    by_cases hlt : q < z
    · have ht1 : ¬ (s.size + 1 + q) % 64 = 56 := by omega
      have hb1 : (((s.size : Int) + 1 + (q : Int)) % 64 != 56) = true := by rw [bne_iff_ne]; omega
      have HL3 : Hid (s.size + 1 + q = (bas ++ List.replicate q 0).length) := Lib.hid (by rw [List.length_append, ← HL0.out]; simp)
      clear ht
      go_wp2_with (at_builtin; refine wpList_appB rfl _ _ rfl rfl HL3.out (r3.alloc _) q1 q2 [0] rfl rfl (at_lit _ _ _ _ _ rfl) (by omega) ?_; intro A5 cap5 w5 d1 d2 d3 d4)
      go_roundw
      case rel => exact ⟨q + 1, A5, cap5, by omega, rfl, d1, d2, by rw [List.replicate_succ', ← List.append_assoc]; exact d3.mono (fun b hb => hb.elim id (fun y => by simp at y; omega)), (hB3.alloc hz3 _).trans (d4.to_below (by simp; omega) (fun b hb => hb))⟩
      case measure => simp [slLen]; omega
    · have hqe : q = z := by omega
      subst hqe
      have ht1 : (s.size + 1 + q) % 64 = 56 := ht.2 rfl
      have hb1 : (((s.size : Int) + 1 + (q : Int)) % 64 != 56) = false := by rw [bne_eq_false_iff_eq]; omega
      clear ht hlt hq HT
      have HT1 := Lib.hid ht1; clear ht1
      go_wp2
      obtain ⟨base, hbase⟩ : ∃ l, bas ++ List.replicate q 0 = l := ⟨_, rfl⟩
      have HL : Hid (s.size + 1 + q = base.length) := Lib.hid (by rw [← hbase, List.length_append, ← HL0.out]; simp)
      rw [hbase] at r3 HPd
      clear hbase hb1
      go_loopw [3, 5] (fun u i wr => ∃ (j : Nat) (A : Option Addr) (cap : Nat), j ≤ 8 ∧ i = .int .i64 (7 - (j : Int)) ∧ u = .slice A (s.size + 1 + q + j) cap ∧ s.size + 1 + q + j ≤ cap ∧ cap ≤ maxLen ∧ BR wr A cap (base ++ (lens s.size).take j) (fun b => w.heap.size ≤ b) ∧ Below w.heap.size w wr) (fun _ i _ => (intOf i + 1).toNat)
      case atStart => exact ⟨0, A3, cap3, by omega, by simp, by simp, by omega, q2, by simpa using r3, hB3⟩
      case round =>
        clear r3 hB3 q1 q2
        obtain ⟨j, A, cap, hj, rfl, rfl, c1, c2, r3, hB⟩ := hrel
        have hz := hB.size
        by_cases hlt : j < 8
        · have HL3 : Hid (s.size + 1 + q + j = (base ++ (lens s.size).take j).length) := Lib.hid (by rw [List.length_append, ← HL.out]; simp [lens]; omega)
          rcases (show j = 0 ∨ j = 1 ∨ j = 2 ∨ j = 3 ∨ j = 4 ∨ j = 5 ∨ j = 6 ∨ j = 7 by omega) with rfl | rfl | rfl | rfl | rfl | rfl | rfl | rfl
          · have HV : Hid (∀ q : Int, q = ((8 * s.size / 72057594037927936 : Nat) : Int) % 256 → q = ((lenB s.size 7).toNat : Int)) := Lib.hid (fun q h => lenB_int _ _ q h)
            go_wp2_with (at_builtin; refine wpList_appB rfl _ _ rfl rfl HL3.out (r3.alloc _) c1 c2 [lenB s.size 7] rfl rfl (at_lit _ _ _ _ _ (congrArg (fun q => [Value.int IntKind.u8 q]) (HV.out _ (by omega)))) (by omega) ?_; intro A5 cap5 w5 d1 d2 d3 d4)
            go_roundw
            case rel => exact ⟨0 + 1, A5, cap5, by omega, by simp, rfl, d1, d2, by rw [show base ++ (lens s.size).take (0 + 1) = base ++ (lens s.size).take 0 ++ [lenB s.size 7] from by rw [List.append_assoc]; rfl]; exact d3.mono (fun b hb => hb.elim id (fun y => by simp at y; omega)), (hB.alloc hz _).trans (d4.to_below (by simp; omega) (fun b hb => hb))⟩
            case measure => simp [intOf]
          · have HV : Hid (∀ q : Int, q = ((8 * s.size / 281474976710656 : Nat) : Int) % 256 → q = ((lenB s.size 6).toNat : Int)) := Lib.hid (fun q h => lenB_int _ _ q h)
            go_wp2_with (at_builtin; refine wpList_appB rfl _ _ rfl rfl HL3.out (r3.alloc _) c1 c2 [lenB s.size 6] rfl rfl (at_lit _ _ _ _ _ (congrArg (fun q => [Value.int IntKind.u8 q]) (HV.out _ (by omega)))) (by omega) ?_; intro A5 cap5 w5 d1 d2 d3 d4)
            go_roundw
            case rel => exact ⟨1 + 1, A5, cap5, by omega, by simp, rfl, d1, d2, by rw [show base ++ (lens s.size).take (1 + 1) = base ++ (lens s.size).take 1 ++ [lenB s.size 6] from by rw [List.append_assoc]; rfl]; exact d3.mono (fun b hb => hb.elim id (fun y => by simp at y; omega)), (hB.alloc hz _).trans (d4.to_below (by simp; omega) (fun b hb => hb))⟩
            case measure => simp [intOf]
          · have HV : Hid (∀ q : Int, q = ((8 * s.size / 1099511627776 : Nat) : Int) % 256 → q = ((lenB s.size 5).toNat : Int)) := Lib.hid (fun q h => lenB_int _ _ q h)
            go_wp2_with (at_builtin; refine wpList_appB rfl _ _ rfl rfl HL3.out (r3.alloc _) c1 c2 [lenB s.size 5] rfl rfl (at_lit _ _ _ _ _ (congrArg (fun q => [Value.int IntKind.u8 q]) (HV.out _ (by omega)))) (by omega) ?_; intro A5 cap5 w5 d1 d2 d3 d4)
            go_roundw
            case rel => exact ⟨2 + 1, A5, cap5, by omega, by simp, rfl, d1, d2, by rw [show base ++ (lens s.size).take (2 + 1) = base ++ (lens s.size).take 2 ++ [lenB s.size 5] from by rw [List.append_assoc]; rfl]; exact d3.mono (fun b hb => hb.elim id (fun y => by simp at y; omega)), (hB.alloc hz _).trans (d4.to_below (by simp; omega) (fun b hb => hb))⟩
            case measure => simp [intOf]
          · have HV : Hid (∀ q : Int, q = ((8 * s.size / 4294967296 : Nat) : Int) % 256 → q = ((lenB s.size 4).toNat : Int)) := Lib.hid (fun q h => lenB_int _ _ q h)
            go_wp2_with (at_builtin; refine wpList_appB rfl _ _ rfl rfl HL3.out (r3.alloc _) c1 c2 [lenB s.size 4] rfl rfl (at_lit _ _ _ _ _ (congrArg (fun q => [Value.int IntKind.u8 q]) (HV.out _ (by omega)))) (by omega) ?_; intro A5 cap5 w5 d1 d2 d3 d4)
            go_roundw
            case rel => exact ⟨3 + 1, A5, cap5, by omega, by simp, rfl, d1, d2, by rw [show base ++ (lens s.size).take (3 + 1) = base ++ (lens s.size).take 3 ++ [lenB s.size 4] from by rw [List.append_assoc]; rfl]; exact d3.mono (fun b hb => hb.elim id (fun y => by simp at y; omega)), (hB.alloc hz _).trans (d4.to_below (by simp; omega) (fun b hb => hb))⟩
            case measure => simp [intOf]
          · have HV : Hid (∀ q : Int, q = ((8 * s.size / 16777216 : Nat) : Int) % 256 → q = ((lenB s.size 3).toNat : Int)) := Lib.hid (fun q h => lenB_int _ _ q h)
            go_wp2_with (at_builtin; refine wpList_appB rfl _ _ rfl rfl HL3.out (r3.alloc _) c1 c2 [lenB s.size 3] rfl rfl (at_lit _ _ _ _ _ (congrArg (fun q => [Value.int IntKind.u8 q]) (HV.out _ (by omega)))) (by omega) ?_; intro A5 cap5 w5 d1 d2 d3 d4)
            go_roundw
            case rel => exact ⟨4 + 1, A5, cap5, by omega, by simp, rfl, d1, d2, by rw [show base ++ (lens s.size).take (4 + 1) = base ++ (lens s.size).take 4 ++ [lenB s.size 3] from by rw [List.append_assoc]; rfl]; exact d3.mono (fun b hb => hb.elim id (fun y => by simp at y; omega)), (hB.alloc hz _).trans (d4.to_below (by simp; omega) (fun b hb => hb))⟩
            case measure => simp [intOf]
          · have HV : Hid (∀ q : Int, q = ((8 * s.size / 65536 : Nat) : Int) % 256 → q = ((lenB s.size 2).toNat : Int)) := Lib.hid (fun q h => lenB_int _ _ q h)
            go_wp2_with (at_builtin; refine wpList_appB rfl _ _ rfl rfl HL3.out (r3.alloc _) c1 c2 [lenB s.size 2] rfl rfl (at_lit _ _ _ _ _ (congrArg (fun q => [Value.int IntKind.u8 q]) (HV.out _ (by omega)))) (by omega) ?_; intro A5 cap5 w5 d1 d2 d3 d4)
            go_roundw
            case rel => exact ⟨5 + 1, A5, cap5, by omega, by simp, rfl, d1, d2, by rw [show base ++ (lens s.size).take (5 + 1) = base ++ (lens s.size).take 5 ++ [lenB s.size 2] from by rw [List.append_assoc]; rfl]; exact d3.mono (fun b hb => hb.elim id (fun y => by simp at y; omega)), (hB.alloc hz _).trans (d4.to_below (by simp; omega) (fun b hb => hb))⟩
            case measure => simp [intOf]
          · have HV : Hid (∀ q : Int, q = ((8 * s.size / 256 : Nat) : Int) % 256 → q = ((lenB s.size 1).toNat : Int)) := Lib.hid (fun q h => lenB_int _ _ q h)
            go_wp2_with (at_builtin; refine wpList_appB rfl _ _ rfl rfl HL3.out (r3.alloc _) c1 c2 [lenB s.size 1] rfl rfl (at_lit _ _ _ _ _ (congrArg (fun q => [Value.int IntKind.u8 q]) (HV.out _ (by omega)))) (by omega) ?_; intro A5 cap5 w5 d1 d2 d3 d4)
            go_roundw
            case rel => exact ⟨6 + 1, A5, cap5, by omega, by simp, rfl, d1, d2, by rw [show base ++ (lens s.size).take (6 + 1) = base ++ (lens s.size).take 6 ++ [lenB s.size 1] from by rw [List.append_assoc]; rfl]; exact d3.mono (fun b hb => hb.elim id (fun y => by simp at y; omega)), (hB.alloc hz _).trans (d4.to_below (by simp; omega) (fun b hb => hb))⟩
            case measure => simp [intOf]
          · have HV : Hid (∀ q : Int, q = ((8 * s.size / 1 : Nat) : Int) % 256 → q = ((lenB s.size 0).toNat : Int)) := Lib.hid (fun q h => lenB_int _ _ q h)
            go_wp2_with (at_builtin; refine wpList_appB rfl _ _ rfl rfl HL3.out (r3.alloc _) c1 c2 [lenB s.size 0] rfl rfl (at_lit _ _ _ _ _ (congrArg (fun q => [Value.int IntKind.u8 q]) (HV.out _ (by omega)))) (by omega) ?_; intro A5 cap5 w5 d1 d2 d3 d4)
            go_roundw
            case rel => exact ⟨7 + 1, A5, cap5, by omega, by simp, rfl, d1, d2, by rw [show base ++ (lens s.size).take (7 + 1) = base ++ (lens s.size).take 7 ++ [lenB s.size 0] from by rw [List.append_assoc]; rfl]; exact d3.mono (fun b hb => hb.elim id (fun y => by simp at y; omega)), (hB.alloc hz _).trans (d4.to_below (by simp; omega) (fun b hb => hb))⟩
            case measure => simp [intOf]
        · have hje : j = 8 := by omega
          subst hje
          have HL4 : Hid (s.size + 1 + q + 8 = (base ++ (lens s.size).take 8).length) := Lib.hid (by rw [List.length_append, ← HL.out]; rfl)
          go_wp2_with (refine wpList_strB rfl _ rfl Tryd.underlying5 Tryd.underlying9 rfl HL4.out r3 ?_)
          go_ret
          exact ⟨by rw [HPd.out]; rfl, hB⟩

end Go.Proofs.YtojbehmbeoemgaaDoor
