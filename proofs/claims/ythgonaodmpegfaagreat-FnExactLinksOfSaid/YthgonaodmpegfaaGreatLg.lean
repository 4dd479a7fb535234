/- Walks: entries: looking up, taking out, copying. -/
import Derived.Test.YthgonaodmpegfaaGreatLf
set_option linter.unusedVariables false
set_option linter.unusedSimpArgs false
namespace Go.Proofs.YthgonaodmpegfaaGreat
open Go.RowKit Lay Mk
def nameIs (n : ByteArray) (x : Leaf) : Bool := decide (x.name = n)
def nameNe (n : ByteArray) (x : Leaf) : Bool := !decide (x.name = n)
def leafGet (xs : List Leaf) (n : ByteArray) : ByteArray × Bool := match xs.find? (nameIs n) with | some x => (x.value, true) | none => (⟨#[]⟩, false)
def leafWithout (xs : List Leaf) (n : ByteArray) : List Leaf := xs.filter (nameNe n)
theorem without_all (xs : List Leaf) (n : ByteArray) : foldT (gath (nameNe n) id) [] xs xs.length = leafWithout xs n := by rw [foldT_all, gath_fold]; simp [leafWithout]
theorem leafGet_hit {xs : List Leaf} {n : ByteArray} {x : Leaf} (h : xs.find? (nameIs n) = some x) : leafGet xs n = (x.value, true) := by simp [leafGet, h]
theorem leafGet_miss {xs : List Leaf} {n : ByteArray} (h : xs.find? (nameIs n) = none) : leafGet xs n = (⟨#[]⟩, false) := by simp [leafGet, h]
theorem find_zero {α : Type} {p : α → Bool} {xs : List α} : (xs.take 0).find? p = none := rfl
theorem Src.flat2 {α : Type} [Lay α] [Flat α] {m : Bool} {w : World} {A : Option Addr} {cap : Nat} {xs : List α} {S : Blks} (h : Row m w A cap xs S) : Src w A xs none_ := Src.flat h

end Go.Proofs.YthgonaodmpegfaaGreat
