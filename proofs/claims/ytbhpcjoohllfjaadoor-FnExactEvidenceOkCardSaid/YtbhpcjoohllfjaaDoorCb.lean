/- How many marks a datum takes, by its size. Written by a program (gen_cb.py). -/
import Derived.Test.YtbhpcjoohllfjaaDoorTy
set_option linter.unusedVariables false
set_option linter.unusedSimpArgs false
namespace Go.Proofs.YtbhpcjoohllfjaaDoor
open Lay Mk
theorem cnL_le {α : Type} [Lay α] [Mk α] (K : Nat) (h : ∀ x : α, cn x ≤ K * (sz x + 1)) : ∀ xs : List α, cnL xs ≤ K * szL xs
  | [] => by simp [cnL, szL]
  | x :: xs => by
    have h1 := h x
    have h2 := cnL_le K h xs
    simp only [cnL, szL, List.map_cons, List.sum_cons, List.length_cons] at *
    have e : K * (xs.length + 1 + (sz x + (xs.map sz).sum)) = K * (sz x + 1) + K * (xs.length + (xs.map sz).sum) := by rw [← Nat.mul_add]; congr 1; omega
    omega
theorem cnb_Int (x : Int) : cn x ≤ 1 * (sz x + 1) := by show 1 ≤ _; omega
theorem cnb_String (x : ByteArray) : cn x ≤ 1 * (sz x + 1) := by show 1 ≤ _; omega
theorem cnb_Head (x : Head) : cn x ≤ 4 * (sz x + 1) := by
  show Head.cn x ≤ 4 * (Head.sz x + 1)
  skip
  simp only [Head.cn, Head.sz] <;> omega
theorem ctb_Head (x : Head) : x.ct ≤ 4 * (x.sz + 1) := by
  skip
  simp only [Head.ct, Head.sz] <;> omega
theorem cnb_StringS (xs : List ByteArray) : cnL xs ≤ 1 * szL xs := cnL_le 1 cnb_String xs
theorem cnb_Sig (x : Sig) : cn x ≤ 4 * (sz x + 1) := by
  show Sig.cn x ≤ 4 * (Sig.sz x + 1)
  have := cnb_StringS x.open_; have := cnb_StringS x.shut; have := cnb_StringS x.sides
  simp only [Sig.cn, Sig.sz] <;> omega
theorem ctb_Sig (x : Sig) : x.ct ≤ 4 * (x.sz + 1) := by
  have := cnb_StringS x.open_; have := cnb_StringS x.shut; have := cnb_StringS x.sides
  simp only [Sig.ct, Sig.sz] <;> omega
theorem cnb_Seal (x : Seal) : cn x ≤ 8 * (sz x + 1) := by
  show Seal.cn x ≤ 8 * (Seal.sz x + 1)
  have := cnb_StringS x.sig.open_; have := cnb_StringS x.sig.shut; have := cnb_StringS x.sig.sides
  simp only [Head.cn, Head.sz, Sig.cn, Sig.sz, Seal.cn, Seal.sz] <;> omega
theorem ctb_Seal (x : Seal) : x.ct ≤ 8 * (x.sz + 1) := by
  have := cnb_StringS x.sig.open_; have := cnb_StringS x.sig.shut; have := cnb_StringS x.sig.sides
  simp only [Head.ct, Head.sz, Sig.ct, Sig.sz, Seal.ct, Seal.sz] <;> omega
theorem cnb_Change (x : Change) : cn x ≤ 3 * (sz x + 1) := by
  show Change.cn x ≤ 3 * (Change.sz x + 1)
  skip
  simp only [Change.cn, Change.sz] <;> omega
theorem ctb_Change (x : Change) : x.ct ≤ 3 * (x.sz + 1) := by
  skip
  simp only [Change.ct, Change.sz] <;> omega
theorem cnb_Letter (x : Letter) : cn x ≤ 6 * (sz x + 1) := by
  show Letter.cn x ≤ 6 * (Letter.sz x + 1)
  skip
  simp only [Letter.cn, Letter.sz] <;> omega
theorem ctb_Letter (x : Letter) : x.ct ≤ 6 * (x.sz + 1) := by
  skip
  simp only [Letter.ct, Letter.sz] <;> omega
theorem cnb_Pair (x : Pair) : cn x ≤ 16 * (sz x + 1) := by
  show Pair.cn x ≤ 16 * (Pair.sz x + 1)
  have := cnb_StringS x.a.sig.open_; have := cnb_StringS x.a.sig.shut; have := cnb_StringS x.a.sig.sides; have := cnb_StringS x.b.sig.open_; have := cnb_StringS x.b.sig.shut; have := cnb_StringS x.b.sig.sides
  simp only [Head.cn, Head.sz, Sig.cn, Sig.sz, Seal.cn, Seal.sz, Pair.cn, Pair.sz] <;> omega
theorem ctb_Pair (x : Pair) : x.ct ≤ 16 * (x.sz + 1) := by
  have := cnb_StringS x.a.sig.open_; have := cnb_StringS x.a.sig.shut; have := cnb_StringS x.a.sig.sides; have := cnb_StringS x.b.sig.open_; have := cnb_StringS x.b.sig.shut; have := cnb_StringS x.b.sig.sides
  simp only [Head.ct, Head.sz, Sig.ct, Sig.sz, Seal.ct, Seal.sz, Pair.ct, Pair.sz] <;> omega
end Go.Proofs.YtbhpcjoohllfjaaDoor
