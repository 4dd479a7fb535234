/- What the proof of a name out of a tree, a shard, a world computes. -/
import Derived.Test.YtojbehmbeoemgaaDoorKNd
import Derived.Test.YtojbehmbeoemgaaDoorKPf
import Derived.Test.YtojbehmbeoemgaaDoorKPr
set_option linter.unusedVariables false
set_option linter.unusedSimpArgs false
namespace Go.Proofs.YtojbehmbeoemgaaDoor
open Go.RowKit Lay Mk
def shardOf (name : ByteArray) (k : Int) : Int := if inB k 0 2 = true then ((indexOf name / 2 ^ (8 - k.toNat) : Nat) : Int) else 0
def nodeHash (xs : List Leaf) (lv pl n : Int) : ByteArray := if (leavesOk xs && (inB lv 0 8 && (inB pl 0 (2 ^ lv.toNat - 1) && inB n 1 32))) = true then nodeD n (8 - lv.toNat) pl.toNat xs else ⟨#[]⟩
def shardRoot (xs : List Leaf) (k s n : Int) : ByteArray := if inB k 0 2 = true then nodeHash xs k s n else ⟨#[]⟩
def sideAt (n : Int) (ix : Nat) (l : List Leaf) (j : Nat) : ByteArray := nodeD n j ((ix / 2 ^ j) ^^^ 1) l
def sidesD (n : Int) (ix : Nat) (l : List Leaf) : Nat → List ByteArray
  | 0 => []
  | j + 1 => sidesD n ix l j ++ [sideAt n ix l j]
theorem sidesD_len (n : Int) (ix : Nat) (l : List Leaf) : ∀ j, (sidesD n ix l j).length = j
  | 0 => rfl
  | j + 1 => by unfold sidesD; rw [List.length_append, sidesD_len n ix l j]; rfl
def proveLeaf (xs : List Leaf) (name : ByteArray) (lv n : Int) : Proof × Bool := if (leavesOk xs && (nameOk name && (inB lv 0 8 && inB n 1 32))) = true then (⟨bucketOf xs (indexOf name), sidesD n (indexOf name) xs (8 - lv.toNat)⟩, true) else (⟨[], []⟩, false)
def combD (n : Int) : Nat → List ByteArray → Nat → List ByteArray
  | 0, _, _ => []
  | d + 1, l, s => l.getD (s ^^^ 1) ⟨#[]⟩ :: combD n d (aboveL n l) (s / 2)
def rootsFit (l : List ByteArray) (n : Int) : Bool := (decide (l.length = 1) || (decide (l.length = 2) || decide (l.length = 4))) && (inB n 1 32 && wideG l n)
def depthOf (k : Nat) : Nat := if k = 4 then 2 else if k = 2 then 1 else 0
def combineSides (l : List ByteArray) (s n : Int) : List ByteArray × Bool := if (rootsFit l n && inB s 0 ((l.length : Int) - 1)) = true then (combD n (depthOf l.length) l s.toNat, true) else ([], false)
end Go.Proofs.YtojbehmbeoemgaaDoor
