/- Walk: the mark of a string. -/
import Derived.Test.YthgonaodmpegfaaGreatDoorProg
import Derived.Test.YthgonaodmpegfaaGreatDoorMk
import Derived.Lib.Hide
set_option linter.unusedVariables false
set_option linter.unusedSimpArgs false
namespace Go.Proofs.YthgonaodmpegfaaGreatDoor
open Go.RowKit Lay Mk
/-- string([]byte{x}) -/
theorem conv1 {P : Program} {src dst e : TypeId} (hs : P.underlying src = some (.slice e)) (he : P.underlying e = some (.int .u8)) (hd : P.underlying dst = some .string) (w : World) (x : Int) (cap : Nat) :
    (convert src dst (.slice (some ⟨w.heap.size, 0, none⟩) 1 cap)).run P (w.alloc (.cells #[.int .u8 x] e)) = .ok (.string ⟨#[UInt8.ofNat x.toNat]⟩) (w.alloc (.cells #[.int .u8 x] e)) := by
  rw [run_convert_bytes_string _ src dst e _ _ _ hs he hd]
  have hl := run_loadCells_list (P := P) (w.alloc (.cells #[.int .u8 x] e)) ⟨w.heap.size, 0, none⟩ ([x].map (Value.int .u8)) (fun j v hj => by
    cases j with
    | zero => simp at hj; subst hj; simp [Addr.add]
    | succ j => simp at hj)
  simp only [List.length_map] at hl
  exact (run_bytesToString _ _ 1 cap [x] hl)
theorem mark_Text_zero (w : World) : Calls Tryz.prog 61 #[.int .i64 0] w fun e w' => e = .returned (.string (mtext 0)) ∧ Below w.heap.size w w' := by
  go_enter Tryz.func61, Tryz.ntmps61
  go_wp2
  go_ret
  exact ⟨rfl, Below.refl _ _⟩
set_option maxRecDepth 20000 in
theorem mark_Text (a : Int) (k : Nat) (h : a = (k : Int)) (hk : k ≤ 4611686018427387904) (w : World) : Calls Tryz.prog 61 #[.int .i64 a] w fun e w' => e = .returned (.string (mtext k)) ∧ Below w.heap.size w w' := by
  subst h
  by_cases h0 : k = 0
  · subst h0; exact mark_Text_zero w
  have h1 : (0 : Int) < (k : Int) := by omega
  have Hm : Hid (mtext k = ⟨#[109]⟩ ++ mdig k k ByteArray.empty) := Lib.hid (by unfold mtext; rw [if_neg h0])
  have hcv := conv1 (P := Tryz.prog) (src := 197) (dst := 9) Tryz.underlying197 Tryz.underlying5 Tryz.underlying9
  go_enter Tryz.func61, Tryz.ntmps61
  go_wp2
  go_loopw [0, 3] (fun i o wr => ∃ (f j : Nat) (s : ByteArray), j ≤ f ∧ s.size + j ≤ k ∧ i = .int .i64 j ∧ o = .string s ∧ Hid (mdig f j s = mdig k k ByteArray.empty) ∧ Below w.heap.size w wr) (fun i _ _ => (intOf i).toNat)
  case atStart => exact ⟨k, k, ByteArray.empty, Nat.le_refl _, by simp, rfl, rfl, Lib.hid rfl, Below.refl _ _⟩
  case round =>
    obtain ⟨f, j, s, hf, hj, rfl, rfl, hm, hb⟩ := hrel
    have hz := hb.size
    by_cases hj0 : 0 < j
    · have hq : (0 : Int) ≤ (j : Int) := by omega
      have hm2 : Hid (∀ f', f = f' + 1 → mdig f' (j / 10) (⟨#[UInt8.ofNat (48 + j % 10)]⟩ ++ s) = mdig k k ByteArray.empty) := Lib.hid (by
        rintro f' rfl
        rw [← hm.out, mdig, if_neg (by omega)])
      go_wp2
      go_roundw
      case rel =>
        obtain ⟨f', rfl⟩ : ∃ f', f = f' + 1 := ⟨f - 1, by omega⟩
        exact ⟨f', j / 10, _, by omega, by rw [ByteArray.size_append]; show 1 + s.size + j / 10 ≤ k; omega, by go_num, rfl, Lib.hid (by rw [← hm2.out f' rfl, UInt8.ofNat_add]; rfl), hb.alloc hz _⟩
      case measure => simp [intOf]; omega
    · go_wp2
      go_ret
      refine ⟨?_, hb⟩
      have hj0 : j = 0 := by omega
      rw [Hm.out, ← hm.out, hj0]
      cases f <;> simp [mdig]
theorem mdig_size : ∀ (f k : Nat) (s : ByteArray), (mdig f k s).size ≤ f + s.size
  | 0, _, s => by simp [mdig]
  | f + 1, k, s => by
    unfold mdig
    split
    · omega
    · refine Nat.le_trans (mdig_size f _ _) ?_
      rw [ByteArray.size_append]
      have : (⟨#[UInt8.ofNat (48 + k % 10)]⟩ : ByteArray).size = 1 := rfl
      omega
theorem mtext_size (k : Nat) (hk : k ≤ 4611686018427387904) : (mtext k).size ≤ maxLen := by
  unfold mtext
  split
  · decide
  · rw [ByteArray.size_append]
    have h1 := mdig_size k k ByteArray.empty
    have h2 : (⟨#[109]⟩ : ByteArray).size = 1 := rfl
    have h3 : ByteArray.empty.size = 0 := rfl
    unfold maxLen
    omega
end Go.Proofs.YthgonaodmpegfaaGreatDoor
