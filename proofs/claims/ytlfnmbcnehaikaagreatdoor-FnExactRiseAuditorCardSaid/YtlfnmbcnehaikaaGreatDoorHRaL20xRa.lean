/- A part of the proof: what the laws need of it. -/
import Derived.Test.YtlfnmbcnehaikaaGreatDoorHRaL10xDt
import Derived.Test.YtlfnmbcnehaikaaGreatDoorHRaHo
import Derived.Test.YtlfnmbcnehaikaaGreatDoorHRaL19xSg
import Derived.Test.YtlfnmbcnehaikaaGreatDoorHRaL9xAr
set_option linter.unusedVariables false
set_option linter.unusedSimpArgs false
set_option linter.unusedVariables false
set_option linter.unusedSimpArgs false
namespace Go.Proofs.YtlfnmbcnehaikaaGreatDoor
open Go.RowKit Lay Mk
theorem cutB_list (t : ByteArray) (a b : Nat) : cutB t a b = (t.data.toList.drop a).take (b - a) := by simp [cutB]
theorem cutB_app {t : ByteArray} {a b c : Nat} (h1 : a ≤ b) (h2 : b ≤ c) : cutB t a b ++ cutB t b c = cutB t a c := by
  rw [cutB_list, cutB_list, cutB_list, show c - a = (b - a) + (c - b) from by omega, List.take_add, List.drop_drop, show a + (b - a) = b from by omega]
theorem cutB_byte {t : ByteArray} {a : Nat} (h : a < t.size) : cutB t a (a + 1) = [t[a]] := by
  have h1 := cutB_one (t := t) (a := a) (k := 0) h
  simpa [cutB_nil] using h1
theorem cutB_all (t : ByteArray) : bs (cutB t 0 t.size) = t := by
  rw [← bs_cut]; exact ByteArray.extract_zero_size
def rdHead (t : ByteArray) : Option Head :=
  if h : 18 ≤ t.size then
    (if headOk ⟨(t[0].toNat : Int), (t[1].toNat : Int), t.extract 2 18, t.extract 18 t.size⟩ then some ⟨(t[0].toNat : Int), (t[1].toNat : Int), t.extract 2 18, t.extract 18 t.size⟩ else none)
  else none
theorem rdHead_some {t : ByteArray} {h : Head} (e : rdHead t = some h) : headOk h = true ∧ headTx h = t := by
  unfold rdHead at e
  split at e
  · rename_i hl
    split at e
    · rename_i hk
      injection e with e
      subst e
      refine ⟨hk, ?_⟩
      unfold headTx
      simp only [Int.toNat_natCast, UInt8.ofNat_toNat]
      have e0 := cutB_byte (t := t) (a := 0) (by omega)
      have e1 := cutB_byte (t := t) (a := 1) (by omega)
      rw [show [t[0], t[1]] = cutB t 0 1 ++ cutB t 1 2 from by rw [e0, e1]; rfl, bs_cut t 2 18, bs_cut t 18 t.size, bs_app, bs_app, cutB_app (by omega) (by omega), cutB_app (by omega) (by omega), cutB_app (by omega) hl, cutB_all]
    · simp at e
  · simp at e
def cuts (t : ByteArray) (a : Nat) : Nat → List ByteArray
  | 0 => []
  | n + 1 => cuts t a n ++ [t.extract (a + 16 * n) (a + 16 * n + 16)]
theorem cuts_len (t : ByteArray) (a : Nat) : ∀ n, (cuts t a n).length = n
  | 0 => rfl
  | n + 1 => by rw [cuts, List.length_append, cuts_len t a n]; rfl
theorem cuts_wide {t : ByteArray} {a : Nat} : ∀ {n : Nat}, a + 16 * n ≤ t.size → wideOk (cuts t a n) n = true
  | 0, _ => rfl
  | n + 1, h => by
    have h1 := cuts_wide (t := t) (a := a) (n := n) (by omega)
    simp only [wideOk, Bool.and_eq_true, decide_eq_true_eq, List.all_eq_true] at h1 ⊢
    refine ⟨fun x hx => ?_, cuts_len t a (n + 1)⟩
    rw [cuts, List.mem_append] at hx
    rcases hx with hx | hx
    · exact h1.1 x hx
    · simp only [List.mem_singleton] at hx
      rw [hx, ByteArray.size_extract]; omega
def joinT : List ByteArray → List UInt8
  | [] => []
  | s :: l => s.data.toList ++ joinT l
theorem joinT_app : ∀ (l m : List ByteArray), joinT (l ++ m) = joinT l ++ joinT m
  | [], m => rfl
  | s :: l, m => by rw [List.cons_append, joinT, joinT, joinT_app l m, List.append_assoc]
theorem joinT_cuts {t : ByteArray} {a : Nat} : ∀ {n : Nat}, joinT (cuts t a n) = cutB t a (a + 16 * n)
  | 0 => by rw [cuts]; exact (cutB_nil t a).symm
  | n + 1 => by
    rw [cuts, joinT_app, joinT_cuts (n := n)]
    show cutB t a (a + 16 * n) ++ (cutB t (a + 16 * n) (a + 16 * n + 16) ++ []) = _
    rw [List.append_nil, cutB_app (by omega) (by omega)]
    rfl
def sigTx (x : Sig) : ByteArray := bs (UInt8.ofNat x.at_.toNat :: joinT (x.open_ ++ x.shut ++ x.sides))
def sealTx (x : Seal) : ByteArray := varT (headTx x.head).size ++ headTx x.head ++ sigTx x.sig
def sigAt (t : ByteArray) (a : Nat) (h : a < t.size) : Sig := ⟨(t[a].toNat : Int), cuts t (a + 1) 8, cuts t (a + 129) 8, cuts t (a + 257) 4⟩
theorem sigAt_form {t : ByteArray} {a : Nat} (h : t.size = a + 321) (hx : t[a].toNat < 16) : sigForm (sigAt t a (by omega)) = true := by
  simp only [sigForm, sigAt, Bool.and_eq_true]
  refine ⟨⟨⟨?_, cuts_wide (by omega)⟩, cuts_wide (by omega)⟩, cuts_wide (by omega)⟩
  simp only [inB, decide_eq_true_eq]; omega
theorem sigAt_tx {t : ByteArray} {a : Nat} (h : t.size = a + 321) : sigTx (sigAt t a (by omega)) = t.extract a t.size := by
  rw [bs_cut]
  simp only [sigTx, sigAt, Int.toNat_natCast, UInt8.ofNat_toNat, joinT_app, joinT_cuts]
  congr 1
  rw [show a + 1 + 16 * 8 = a + 129 from by omega, show a + 129 + 16 * 8 = a + 257 from by omega, show a + 257 + 16 * 4 = t.size from by omega, cutB_app (by omega) (by omega), cutB_app (by omega) (by omega)]
  have e0 := cutB_byte (t := t) (a := a) (by omega)
  rw [show t[a] :: cutB t (a + 1) t.size = cutB t a (a + 1) ++ cutB t (a + 1) t.size from by rw [e0]; rfl, cutB_app (by omega) (by omega)]
theorem rdShort_back {t s : ByteArray} {a x : Nat} (ha : a ≤ t.size) (h : rdShort t a = some (s, x)) : varT s.size ++ s = t.extract a x := by
  unfold rdShort at h
  split at h
  · simp at h
  · rename_i n y e
    have h1 := rdVar_some e
    split at h
    · rename_i h2
      injection h with h
      injection h with hb hc
      subst hb; subst hc
      have hz : (t.extract y (y + n)).size = n := by rw [ByteArray.size_extract]; omega
      rw [hz, bs_cut t y, bs_cut t a]
      have hv : varT n = bs (cutB t a y) := rdVar_back ha e
      rw [hv, bs_app, cutB_app (by omega) (by omega)]
    · simp at h
def rdSeal (t : ByteArray) : Option Seal :=
  match rdShort t 0 with
  | none => none
  | some (s, x) =>
    match rdHead s with
    | none => none
    | some h => if hz : t.size = x + 321 then (if t[x].toNat < 16 then some ⟨h, sigAt t x (by omega)⟩ else none) else none
theorem rdSeal_some {t : ByteArray} {y : Seal} (e : rdSeal t = some y) : headOk y.head = true ∧ sigForm y.sig = true ∧ sealTx y = t := by
  unfold rdSeal at e
  split at e
  · simp at e
  · rename_i s x e1
    split at e
    · simp at e
    · rename_i h e2
      split at e
      · rename_i hz
        split at e
        · rename_i hx
          injection e with e
          subst e
          obtain ⟨h1, h2⟩ := rdHead_some e2
          refine ⟨h1, sigAt_form hz hx, ?_⟩
          have h3 := rdShort_some e1
          unfold sealTx
          rw [h2, sigAt_tx hz, rdShort_back (Nat.zero_le _) e1, bs_cut t 0, bs_cut t x, bs_app, cutB_app (by omega) (by omega), cutB_all]
        · simp at e
      · simp at e
theorem rdSeal_no1 {t : ByteArray} (h : rdShort t 0 = none) : rdSeal t = none := by unfold rdSeal; rw [h]
theorem rdSeal_no2 {t s : ByteArray} {x : Nat} (h : rdShort t 0 = some (s, x)) (h2 : rdHead s = none) : rdSeal t = none := by unfold rdSeal; simp only [h, h2]
theorem rdSeal_no3 {t s : ByteArray} {x : Nat} (h : rdShort t 0 = some (s, x)) (h2 : t.size ≠ x + 321) : rdSeal t = none := by
  unfold rdSeal; simp only [h]
  split
  · rfl
  · rw [dif_neg h2]
theorem rdSeal_at {t s : ByteArray} {x : Nat} {y : Head} (h : rdShort t 0 = some (s, x)) (h2 : rdHead s = some y) (h3 : t.size = x + 321) : rdSeal t = if sigForm (sigAt t x (by omega)) then some ⟨y, sigAt t x (by omega)⟩ else none := by
  unfold rdSeal; simp only [h, h2]
  rw [dif_pos h3]
  by_cases hx : t[x].toNat < 16
  · rw [if_pos hx, if_pos (sigAt_form h3 hx)]
  · rw [if_neg hx, if_neg]
    intro hf
    simp only [sigForm, sigAt, Bool.and_eq_true] at hf
    have h9 := hf.1.1.1
    unfold inB at h9
    rw [decide_eq_true_iff] at h9
    omega
theorem rdHead_no {t : ByteArray} (h : t.size < 18) : rdHead t = none := by unfold rdHead; rw [dif_neg (by omega)]
theorem rdHead_at {t : ByteArray} (h : 18 ≤ t.size) : rdHead t = if headOk ⟨(t[0].toNat : Int), (t[1].toNat : Int), t.extract 2 18, t.extract 18 t.size⟩ then some ⟨(t[0].toNat : Int), (t[1].toNat : Int), t.extract 2 18, t.extract 18 t.size⟩ else none := by unfold rdHead; rw [dif_pos h]
end Go.Proofs.YtlfnmbcnehaikaaGreatDoor

set_option linter.unusedVariables false
set_option linter.unusedSimpArgs false
namespace Go.Proofs.YtlfnmbcnehaikaaGreatDoor
open Go.RowKit Lay Mk
def One (w : World) (g : Nat) (t : TypeId) (v : Value) : Prop := w.heap[g]? = some (.cells #[v] t (0, 0))
theorem One.lt {w : World} {g : Nat} {t : TypeId} {v : Value} (h : One w g t v) : g < w.heap.size := heap_lt h
theorem One.cell {w : World} {g : Nat} {t : TypeId} {v : Value} (h : One w g t v) : w.cell? ⟨g, 0, none⟩ = some v := by rw [cell_of_row w g 0 _ _ (0, 0) h]; rfl
theorem One.frozen {w : World} {g : Nat} {t : TypeId} {v : Value} (h : One w g t v) : w.frozen? ⟨g, 0, none⟩ = false := frozen_of_row w g 0 _ _ h
theorem One.set {w : World} {g : Nat} {t : TypeId} {v : Value} (h : One w g t v) (u : Value) : One (w.setCell ⟨g, 0, none⟩ u) g t u := by
  unfold One at *
  simp only [World.setCell, Array.getElem?_modify, h]
  simp
theorem One.keep {w w' : World} {g : Nat} {t : TypeId} {v : Value} (h : One w g t v) (k : w'.heap[g]? = w.heap[g]?) : One w' g t v := k.trans h
theorem One.below {w w' : World} {B g : Nat} {t : TypeId} {v : Value} (h : One w g t v) (hb : Below B w w') (hB : g < B) : One w' g t v := h.keep (hb.block g hB)
theorem One.later {w w' : World} {g : Nat} {t : TypeId} {v : Value} (h : One w g t v) (hb : Below w.heap.size w w') : One w' g t v := h.below hb h.lt
theorem One.chg {w w' : World} {S : Blks} {g : Nat} {t : TypeId} {v : Value} (h : One w g t v) (hb : Chg S w w') (hn : ¬ S g) : One w' g t v := h.keep (hb.block g h.lt hn)
theorem One.alloc {w : World} {g : Nat} {t : TypeId} {v : Value} (h : One w g t v) (o : Obj) : One (w.alloc o) g t v := h.keep (Below.heap_alloc w o g (heap_lt h))
theorem One.new (w : World) (t : TypeId) (v : Value) : One (w.alloc (.cells #[v] t)) w.heap.size t v := heap_alloc_new w _
theorem row_one (w : World) (t : ByteArray) (h : t.size ≤ maxLen) (ty : TypeId) : Row false (w.alloc (.cells #[.string t] ty)) (some ⟨w.heap.size, 0, none⟩) 1 [t] (fun q => q = w.heap.size) := by
  refine row_box 1 [t] ?_
  intro j hj
  have hj : j = 0 := by simpa using hj
  subst hj
  exact ⟨box_cell _ _ _ _ _ rfl, by simpa using h⟩
theorem row_pair (w : World) (s t : ByteArray) (hs : s.size ≤ maxLen) (h : t.size ≤ maxLen) (ty : TypeId) : Row false (w.alloc (.cells #[.string s, .string t] ty)) (some ⟨w.heap.size, 0, none⟩) 2 [s, t] (fun q => q = w.heap.size) := by
  refine row_box 2 [s, t] ?_
  intro j hj
  have hj : j = 0 ∨ j = 1 := by simp at hj; omega
  rcases hj with rfl | rfl
  · exact ⟨box_cell _ _ _ _ _ rfl, by simpa using hs⟩
  · exact ⟨box_cell _ _ _ _ _ rfl, by simpa using h⟩
theorem ml {n k : Nat} (h : n ≤ k) (hk : k ≤ 1000000) : n ≤ maxLen := by unfold maxLen; omega

end Go.Proofs.YtlfnmbcnehaikaaGreatDoor
