/- Plain laws: the keys of a list, each once, in rising key order. No program is in sight here. -/
import Derived.Test.YtojbehmbeoemgaaDoorB2
import Derived.Test.YtojbehmbeoemgaaDoorB1
set_option linter.unusedVariables false
set_option linter.unusedSimpArgs false
namespace Go.Proofs.YtojbehmbeoemgaaDoor
open Go.RowKit Lay Mk
section
variable {α : Type} (key : α → Int)
def dedF (acc : List Int) (p : α) : List Int := if key p ∈ acc then acc else acc ++ [key p]
def insI (acc : List Int) (x : Int) : List Int := acc.filter (fun y => decide (y < x)) ++ x :: acc.filter (fun y => decide (x < y))
def insF (acc : List Int) (p : α) : List Int := insI acc (key p)
def rising (ps : List α) : List Int := ps.foldl (insF key) []
theorem rising_all (ps : List α) : foldT (insF key) [] ps ps.length = rising key ps := foldT_all _ _ _
theorem dedF_yes {acc : List Int} {p : α} (h : key p ∈ acc) : dedF key acc p = acc := if_pos h
theorem dedF_no {acc : List Int} {p : α} (h : ¬ key p ∈ acc) : dedF key acc p = acc ++ [key p] := if_neg h
theorem ded_mem (acc : List Int) (p : α) (a : Int) : a ∈ dedF key acc p ↔ a = key p ∨ a ∈ acc := by
  unfold dedF; split
  · rename_i h
    constructor
    · exact .inr
    · rintro (rfl | h')
      · exact h
      · exact h'
  · simp [or_comm]
theorem ins_mem (acc : List Int) (x a : Int) : a ∈ insI acc x ↔ a = x ∨ a ∈ acc := by
  unfold insI
  simp only [List.mem_append, List.mem_cons, List.mem_filter, decide_eq_true_eq]
  constructor
  · rintro (h | h | h)
    · exact .inr h.1
    · exact .inl h
    · exact .inr h.1
  · rintro (h | h)
    · exact .inr (.inl h)
    · rcases Int.lt_trichotomy a x with h2 | h2 | h2
      · exact .inl ⟨h, h2⟩
      · exact .inr (.inl h2)
      · exact .inr (.inr ⟨h, h2⟩)
theorem ded_nodup {acc : List Int} (h : acc.Nodup) (p : α) : (dedF key acc p).Nodup := by
  unfold dedF; split
  · exact h
  · rename_i h2
    rw [List.nodup_append]
    refine ⟨h, by simp, ?_⟩
    intro a ha b hb e
    have hb : b = key p := by simpa using hb
    subst hb; subst e
    exact h2 ha
theorem ins_sorted {acc : List Int} (h : acc.Pairwise (· < ·)) (x : Int) : (insI acc x).Pairwise (· < ·) := by
  unfold insI
  rw [List.pairwise_append]
  refine ⟨h.filter _, ?_, ?_⟩
  · rw [List.pairwise_cons]
    exact ⟨fun a ha => by simpa using (List.mem_filter.1 ha).2, h.filter _⟩
  · intro a ha b hb
    have h1 : a < x := by simpa using (List.mem_filter.1 ha).2
    rcases List.mem_cons.1 hb with rfl | hb
    · exact h1
    · have h2 : x < b := by simpa using (List.mem_filter.1 hb).2
      omega
theorem dedT_nodup (ps : List α) : ∀ k, k ≤ ps.length → (foldT (dedF key) [] ps k).Nodup
  | 0, _ => by simp [foldT]
  | k + 1, h => by rw [foldT_succ (by omega)]; exact ded_nodup key (dedT_nodup ps k (by omega)) _
theorem insT_sorted (ps : List α) : ∀ k, k ≤ ps.length → (foldT (insF key) [] ps k).Pairwise (· < ·)
  | 0, _ => by simp [foldT]
  | k + 1, h => by rw [foldT_succ (by omega)]; exact ins_sorted (insT_sorted ps k (by omega)) _
theorem both_mem (ps : List α) (a : Int) : ∀ k, k ≤ ps.length → (a ∈ foldT (dedF key) [] ps k ↔ a ∈ foldT (insF key) [] ps k)
  | 0, _ => by simp [foldT]
  | k + 1, h => by
    rw [foldT_succ (by omega), foldT_succ (by omega), ded_mem key, both_mem ps a k (by omega)]
    exact (ins_mem _ _ _).symm
theorem rising_sort (ps : List α) : ((foldT (dedF key) [] ps ps.length).mergeSort fun x y => decide (x ≤ y)) = rising key ps := by
  rw [← rising_all key]
  have hs := insT_sorted key ps ps.length (Nat.le_refl _)
  refine List.Perm.eq_of_pairwise (le := (· ≤ ·)) (fun a b _ _ h1 h2 => Int.le_antisymm h1 h2) ?_ (hs.imp (fun h => Int.le_of_lt h)) ?_
  · have := List.pairwise_mergeSort (le := fun x y : Int => decide (x ≤ y)) (fun a b c h1 h2 => by simp at *; omega) (fun a b => by simp; omega) (foldT (dedF key) [] ps ps.length)
    exact this.imp (fun h => by simpa using h)
  · exact (List.mergeSort_perm _ _).trans ((List.perm_ext_iff_of_nodup (dedT_nodup key ps _ (Nat.le_refl _)) (hs.imp (fun h => Int.ne_of_lt h))).2 (fun a => both_mem key ps a _ (Nat.le_refl _)))
theorem dedT_len (ps : List α) : ∀ k, k ≤ ps.length → (foldT (dedF key) [] ps k).length ≤ k
  | 0, _ => by simp [foldT]
  | k + 1, h => by
    rw [foldT_succ (by omega)]
    have := dedT_len ps k (by omega)
    by_cases hm : key ps[k] ∈ foldT (dedF key) [] ps k
    · rw [dedF_yes key hm]; omega
    · rw [dedF_no key hm]; simp; omega
theorem ded_yes {ps : List α} {k : Nat} (h : k < ps.length) (hm : key ps[k] ∈ foldT (dedF key) [] ps k) : foldT (dedF key) [] ps (k + 1) = foldT (dedF key) [] ps k := by rw [foldT_succ h, dedF_yes key hm]
theorem ded_no {ps : List α} {k : Nat} (h : k < ps.length) (hm : ¬ key ps[k] ∈ foldT (dedF key) [] ps k) : foldT (dedF key) [] ps (k + 1) = foldT (dedF key) [] ps k ++ [key ps[k]] := by rw [foldT_succ h, dedF_no key hm]
theorem insT_len (ps : List α) : ∀ k, k ≤ ps.length → (foldT (insF key) [] ps k).length ≤ k
  | 0, _ => by simp [foldT]
  | k + 1, h => by
    rw [foldT_succ (by omega)]
    have h1 := insT_len ps k (by omega)
    have hs := insT_sorted key ps k (by omega)
    generalize foldT (insF key) [] ps k = l at h1 hs ⊢
    unfold insF insI
    have : ∀ l : List Int, (l.filter (fun y => decide (y < key ps[k]))).length + (l.filter (fun y => decide (key ps[k] < y))).length ≤ l.length := by
      intro l
      induction l with
      | nil => simp
      | cons b t ih =>
        simp only [List.filter_cons, List.length_cons]
        by_cases c1 : b < key ps[k]
        · have c2 : ¬ key ps[k] < b := by omega
          simp only [c1, c2, decide_true, decide_false, if_true, List.length_cons]
          simp only [Bool.false_eq_true, if_false]; omega
        · simp only [c1, decide_false, Bool.false_eq_true, if_false]
          split
          · simp only [List.length_cons]; omega
          · omega
    have := this l
    simp only [List.length_append, List.length_cons]
    omega
theorem rising_len (ps : List α) : (rising key ps).length ≤ ps.length := by rw [← rising_all key]; exact insT_len key ps _ (Nat.le_refl _)
theorem cnL_int : ∀ xs : List Int, cnL xs = xs.length
  | [] => rfl
  | x :: xs => by have := cnL_int xs; simp only [cnL, List.map_cons, List.sum_cons, List.length_cons] at *; show 1 + _ = _; omega
end
end Go.Proofs.YtojbehmbeoemgaaDoor
