/- Plain functions: what the directory's functions compute. -/
import Derived.Test.YticdcndpbnbkhaaTy
namespace Go.Proofs.Yticdcndpbnbkhaa
def inB (n lo hi : Int) : Bool := decide (lo ≤ n ∧ n ≤ hi)
def letterOk (x : Letter) : Bool :=
  inB x.epoch 1 4 && inB x.try_ 1 1000 &&
  (if x.kind = 1 ∨ x.kind = 3 ∨ x.kind = 4 then decide (x.from_ = 0) && inB x.to 1 4 && x.root.toList.isEmpty
   else if x.kind = 2 then decide (x.to = 0) && inB x.from_ 1 4 && ((x.root.size : Int) == 16)
   else if x.kind = 5 then decide (x.to = 0) && inB x.from_ 1 4 && x.root.toList.isEmpty
   else false)
end Go.Proofs.Yticdcndpbnbkhaa
