/- Walks: entries. -/
import Derived.Test.YthgonaodmpegfaaGreatNm
import Derived.Test.YthgonaodmpegfaaGreatFd


import Derived.Sort.Walk0
set_option linter.unusedVariables false
set_option linter.unusedSimpArgs false
namespace Go.Proofs.YthgonaodmpegfaaGreat
open Go.RowKit Lay Mk
def bLess (a b : ByteArray) : Bool := Op.bytesLess a.toList b.toList
def prevLess (xs : List Leaf) (k : Nat) (x : Leaf) : Bool := match k with | 0 => true | j + 1 => match xs[j]? with | some y => bLess y.name x.name | none => false
def leafP (xs : List Leaf) (k : Nat) : Bool := match xs[k]? with | none => false | some x => nameOk x.name && valueOk x.value && prevLess xs k x
def leavesOk (xs : List Leaf) : Bool := allN xs.length (leafP xs) && decide (xs.length ≤ 24)
theorem leafP_at {xs : List Leaf} {k : Nat} (h : k < xs.length) : leafP xs k = (nameOk xs[k].name && valueOk xs[k].value && prevLess xs k xs[k]) := by unfold leafP; rw [List.getElem?_eq_getElem h]
theorem prevLess_succ {xs : List Leaf} {k : Nat} (h : k + 1 < xs.length) (x : Leaf) : prevLess xs (k + 1) x = bLess xs[k].name x.name := by simp only [prevLess]; rw [List.getElem?_eq_getElem (by omega)]
theorem leavesOk_bad {xs : List Leaf} {k : Nat} (h : k < xs.length) (hp : leafP xs k = false) : leavesOk xs = false := by unfold leavesOk; rw [allN_bad h hp]; rfl
theorem leavesOk_long {xs : List Leaf} (h : 24 < xs.length) : leavesOk xs = false := by unfold leavesOk; rw [decide_eq_false (by omega)]; simp
theorem leavesOk_end {xs : List Leaf} (h : ∀ k, k < xs.length → leafP xs k = true) : leavesOk xs = decide (xs.length ≤ 24) := by unfold leavesOk; rw [allN_end h]; rfl

end Go.Proofs.YthgonaodmpegfaaGreat
