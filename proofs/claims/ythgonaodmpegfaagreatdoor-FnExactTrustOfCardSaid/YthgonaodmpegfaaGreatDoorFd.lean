/- Plain folds: what a loop has gathered after k rounds. No program is in sight here. -/
import Derived.Test.YthgonaodmpegfaaGreatDoorRd
import Derived.Deep.QuietTactic
import Derived.BigQuiet
set_option linter.unusedVariables false
set_option linter.unusedSimpArgs false
namespace Go.Proofs.YthgonaodmpegfaaGreatDoor
open Go.RowKit Lay Mk
theorem Below.drewN {B : Nat} {w w' : World} (h : Below B w w') (n : Nat) : Below B w (w'.drewN n) := ⟨h.os, h.tape, h.output, h.size, h.block⟩
theorem quiet_w {P : Program} {f : FuncId} {args : Array Value} {w : World} {n : Nat} {v : Value} (h : Calls P f args (w.drewN n) fun e w' => e = .returned v ∧ w.drewN n = w') :
    Calls P f args (w.drewN n) fun e w'' => e = .returned v ∧ ∃ m, w'' = w.drewN m := h.mono fun _ _ ⟨he, hm⟩ => ⟨he, n, hm.symm⟩
theorem src_newb {α : Type} [Lay α] [Flat α] (w : World) (y : α) (ok : Flat.ok y) (cs : Array Value) (t : TypeId) (b : Nat) (hb : b = w.heap.size) (h : cs.toList = Flat.cs y) : Src (w.alloc (.cells cs t)) (some ⟨b, 0, none⟩) [y] none_ := by
  subst hb; exact src_new w y ok cs t h
theorem row_lit0b {α : Type} [Lay α] (w : World) (t : TypeId) (b : Nat) (S : Blks) (hb : b = w.heap.size) (ht : t = ty α) (hS : S w.heap.size) : Row (α := α) true (w.alloc (.cells #[] t)) (some ⟨b, 0, none⟩) 0 [] S := by
  subst hb; exact row_lit0 w t S ht hS
theorem ret_slice {A : Option Addr} {n m cap : Nat} (h : n = m) : Ending.returned (.slice A n cap) = .returned (.slice A m cap) := by rw [h]
theorem row_og {α : Type} [Lay α] {w' : World} {A : Option Addr} {cap lo hi : Nat} {xs : List α} {O : Blks} (h : Row true w' A cap xs (fun b => O b ∨ none_ b ∨ (lo ≤ b ∧ b < hi))) (hO : ∀ b, lo ≤ b → O b) : Row true w' A cap xs O :=
  h.mono (fun b x => x.elim id (fun y => y.elim (fun z => z.elim) (fun z => hO b z.1)))
theorem ret_sliceb {A : Option Addr} {n m cap : Nat} {b c : Bool} (h : n = m) (k : b = c) : Ending.returned (.tuple #[.slice A n cap, .bool b]) = .returned (.tuple #[.slice A m cap, .bool c]) := by rw [h, k]
/-- a row's first block, and all new ones -/
def og (g n : Nat) : Blks := fun b => b = g ∨ n ≤ b
theorem Chg.cell {S : Blks} {w w' : World} (h : Chg S w w') {b o : Nat} (hb : b < w.heap.size) (hs : ¬ S b) : w'.cell? ⟨b, o, none⟩ = w.cell? ⟨b, o, none⟩ := World.cell?_of_block (a := ⟨b, o, none⟩) (h.block b hb hs)
theorem row_up {α : Type} [Lay α] {w' : World} {A : Option Addr} {cap B lo : Nat} {xs : List α} {S T : Blks} (h : Row true w' A cap xs (fun b => S b ∨ T b ∨ (lo ≤ b ∧ b < w'.heap.size))) (hS : ∀ b, S b → B ≤ b) (hT : ∀ b, T b → B ≤ b) (hB : B ≤ lo) : Row true w' A cap xs (rng B w'.heap.size) :=
  h.tight.mono (fun b x => ⟨x.1.elim (hS b) (fun y => y.elim (hT b) (fun z => Nat.le_trans hB z.1)), x.2⟩)
theorem rng_ge {B m b : Nat} (h : rng B m b) : B ≤ b := h.1
theorem none_ge {B b : Nat} (h : none_ b) : B ≤ b := h.elim
theorem Chg.up {w w' : World} {B m : Nat} (h : Chg (rng B m) w w') (hB : B ≤ w.heap.size) : Below B w w' := h.to_below hB (fun _ x => x.1)
theorem row_rng {α : Type} [Lay α] {w : World} {A : Option Addr} {cap : Nat} {xs : List α} {B m : Nat} (h : Row true w A cap xs (rng B m)) : Row true w A cap xs (nw B) := h.mono (fun _ x => x.1)
theorem disj_none2 (S : Blks) : disj S none_ := fun _ _ x => x
/-- looking for the first one -/
theorem find_hit {α : Type} {p : α → Bool} {xs : List α} {k : Nat} (h : k < xs.length) (hn : (xs.take k).find? p = none) (hp : p xs[k] = true) : xs.find? p = some xs[k] := by
  have e : xs = xs.take (k + 1) ++ xs.drop (k + 1) := (List.take_append_drop _ _).symm
  have e2 := congrArg (List.find? p) e
  rw [e2, List.find?_append, List.take_succ_eq_append_getElem h, List.find?_append, hn]
  simp [List.find?_cons, hp]
theorem find_next {α : Type} {p : α → Bool} {xs : List α} {k : Nat} (h : k < xs.length) (hn : (xs.take k).find? p = none) (hp : p xs[k] = false) : (xs.take (k + 1)).find? p = none := by
  rw [List.take_succ_eq_append_getElem h, List.find?_append, hn]
  simp [List.find?_cons, hp]
theorem find_all {α : Type} {p : α → Bool} {xs : List α} (hn : (xs.take xs.length).find? p = none) : xs.find? p = none := by rwa [List.take_length] at hn
def foldT {α β : Type} (f : β → α → β) (s : β) (xs : List α) (k : Nat) : β := (xs.take k).foldl f s
theorem foldT_zero {α β : Type} (f : β → α → β) (s : β) (xs : List α) : foldT f s xs 0 = s := rfl
theorem foldT_succ {α β : Type} {f : β → α → β} {s : β} {xs : List α} {k : Nat} (h : k < xs.length) : foldT f s xs (k + 1) = f (foldT f s xs k) xs[k] := by
  unfold foldT; rw [List.take_succ_eq_append_getElem h, List.foldl_append]; rfl
theorem foldT_all {α β : Type} (f : β → α → β) (s : β) (xs : List α) : foldT f s xs xs.length = xs.foldl f s := by unfold foldT; rw [List.take_length]
/-- gather those that pass -/
def gath {α β : Type} (p : α → Bool) (g : α → β) (acc : List β) (x : α) : List β := if p x then acc ++ [g x] else acc
theorem gath_fold {α β : Type} (p : α → Bool) (g : α → β) : ∀ (xs : List α) (acc : List β), xs.foldl (gath p g) acc = acc ++ (xs.filter p).map g
  | [], acc => by simp
  | x :: xs, acc => by
    rw [List.foldl_cons, gath_fold p g xs]
    unfold gath
    by_cases h : p x = true
    · rw [if_pos h]; simp [List.filter_cons, h]
    · rw [if_neg h]; simp [List.filter_cons, h]
theorem gathT_len {α β : Type} (p : α → Bool) (g : α → β) (xs : List α) (k : Nat) : (foldT (gath p g) [] xs k).length ≤ k := by
  unfold foldT; rw [gath_fold]; simp only [List.nil_append, List.length_map]
  have := List.length_filter_le p (xs.take k)
  have := List.length_take_le k xs
  omega
theorem gathT_yes {α β : Type} {p : α → Bool} {g : α → β} {xs : List α} {k : Nat} (h : k < xs.length) (hp : p xs[k] = true) : foldT (gath p g) [] xs (k + 1) = foldT (gath p g) [] xs k ++ [g xs[k]] := by
  rw [foldT_succ h]; unfold gath; rw [if_pos hp]
theorem gathT_no {α β : Type} {p : α → Bool} {g : α → β} {xs : List α} {k : Nat} (h : k < xs.length) (hp : p xs[k] = false) : foldT (gath p g) [] xs (k + 1) = foldT (gath p g) [] xs k := by
  rw [foldT_succ h]; unfold gath; rw [hp]; rfl
/-- a loop that looks at all -/
def allN (n : Nat) (p : Nat → Bool) : Bool := (List.range n).all p
theorem allN_bad {n : Nat} {p : Nat → Bool} {k : Nat} (h : k < n) (hp : p k = false) : allN n p = false := by
  unfold allN
  rw [List.all_eq_false]
  exact ⟨k, by simpa using h, by simp [hp]⟩
theorem allN_end {n : Nat} {p : Nat → Bool} (h : ∀ k, k < n → p k = true) : allN n p = true := by
  unfold allN
  rw [List.all_eq_true]
  intro k hk
  exact h k (by simpa using hk)
theorem allN_get {n : Nat} {p : Nat → Bool} (h : allN n p = true) {k : Nat} (hk : k < n) : p k = true := by
  unfold allN at h
  rw [List.all_eq_true] at h
  exact h k (by simpa using hk)
theorem upto_succ {p : Nat → Bool} {k : Nat} (h : ∀ j, j < k → p j = true) (hk : p k = true) : ∀ j, j < k + 1 → p j = true := fun j hj => by
  by_cases e : j = k
  · subst e; exact hk
  · exact h j (by omega)
theorem upto_zero {p : Nat → Bool} : ∀ j, j < 0 → p j = true := fun j h => absurd h (Nat.not_lt_zero j)
end Go.Proofs.YthgonaodmpegfaaGreatDoor
