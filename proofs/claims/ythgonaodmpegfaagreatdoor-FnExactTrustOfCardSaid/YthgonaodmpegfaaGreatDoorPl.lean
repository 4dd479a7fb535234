/- Plain functions: what the directory's functions compute. -/
import Derived.Test.YthgonaodmpegfaaGreatDoorTy
set_option linter.unusedVariables false
set_option linter.unusedSimpArgs false
namespace Go.Proofs.YthgonaodmpegfaaGreatDoor
def inB (n lo hi : Int) : Bool := decide (lo ≤ n ∧ n ≤ hi)
def letterOk (x : Letter) : Bool :=
  inB x.epoch 1 4 && inB x.try_ 1 1000 &&
  (if x.kind = 1 ∨ x.kind = 3 ∨ x.kind = 4 then decide (x.from_ = 0) && inB x.to 1 4 && x.root.toList.isEmpty
   else if x.kind = 2 then decide (x.to = 0) && inB x.from_ 1 4 && ((x.root.size : Int) == 16)
   else if x.kind = 5 then decide (x.to = 0) && inB x.from_ 1 4 && x.root.toList.isEmpty
   else false)
/-- a byte of a name -/
def nmB (n : Nat) : Bool := decide ((97 ≤ n ∧ n ≤ 122) ∨ (48 ≤ n ∧ n ≤ 57) ∨ n = 64 ∨ n = 46)
def nameOk (s : ByteArray) : Bool := decide (∀ j (h : j < s.size), nmB s[j].toNat = true) && inB s.size 1 12
def vlB (n : Nat) : Bool := decide (33 ≤ n ∧ n ≤ 126)
def valueOk (s : ByteArray) : Bool := decide (∀ j (h : j < s.size), vlB s[j].toNat = true) && inB s.size 1 12
theorem all_succ {q : Nat → Bool} {s : ByteArray} {k : Nat} (h : k < s.size) (ha : ∀ j (h : j < s.size), j < k → q s[j].toNat = true) (hk : q s[k].toNat = true) : ∀ j (h : j < s.size), j < k + 1 → q s[j].toNat = true := by
  intro j hj hlt
  by_cases e : j = k
  · subst e; exact hk
  · exact ha j hj (by omega)
theorem nameOk_bad {s : ByteArray} {k : Nat} (h : k < s.size) (hk : nmB s[k].toNat = false) : nameOk s = false := by
  unfold nameOk
  rw [decide_eq_false (by intro ha; rw [ha k h] at hk; cases hk)]
  rfl
theorem nameOk_end {s : ByteArray} {k : Nat} (ha : ∀ j (h : j < s.size), j < k → nmB s[j].toNat = true) (hk : k = s.size ∨ 12 < k) (hks : k ≤ s.size) : nameOk s = inB s.size 1 12 := by
  unfold nameOk
  rcases hk with hk | hk
  · rw [decide_eq_true (fun j h => ha j h (by omega))]; simp
  · have : inB s.size 1 12 = false := by simp [inB]; omega
    rw [this]; simp
theorem valueOk_bad {s : ByteArray} {k : Nat} (h : k < s.size) (hk : vlB s[k].toNat = false) : valueOk s = false := by
  unfold valueOk
  rw [decide_eq_false (by intro ha; rw [ha k h] at hk; cases hk)]
  rfl
theorem valueOk_end {s : ByteArray} {k : Nat} (ha : ∀ j (h : j < s.size), j < k → vlB s[j].toNat = true) (hk : k = s.size ∨ 12 < k) (hks : k ≤ s.size) : valueOk s = inB s.size 1 12 := by
  unfold valueOk
  rcases hk with hk | hk
  · rw [decide_eq_true (fun j h => ha j h (by omega))]; simp
  · have : inB s.size 1 12 = false := by simp [inB]; omega
    rw [this]; simp
def changeOk (u : Change) : Bool := inB u.id 1 99 && nameOk u.name && (u.value.toList.isEmpty || valueOk u.value)
end Go.Proofs.YthgonaodmpegfaaGreatDoor
