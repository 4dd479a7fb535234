/- Is a proof valid; both sides. -/
import Derived.Test.YtojbehmbeoemgaaDoorKBk
import Derived.Test.YtojbehmbeoemgaaDoorKWg
import Derived.Test.YtojbehmbeoemgaaDoorKNm
set_option linter.unusedVariables false
set_option linter.unusedSimpArgs false
namespace Go.Proofs.YtojbehmbeoemgaaDoor
open Go.RowKit Lay Mk
def sameIx (name : ByteArray) (xs : List Leaf) : Bool := xs.all (fun l => decide (indexOf l.name = indexOf name))
def proofOk (name : ByteArray) (p : Proof) (v : Int) : Bool := nameOk name && (leavesOk p.bucket && (decide (p.sides.length ≤ 8) && ((inB v 1 32 && wideG p.sides v) && sameIx name p.bucket)))
theorem filter_len {α : Type} (p : α → Bool) (l : List α) : ((l.filter p).length = l.length) ↔ l.all p = true := by
  rw [List.length_filter_eq_length_iff, List.all_eq_true]
theorem same_bucket (name : ByteArray) (xs : List Leaf) : decide ((bucketOf xs (indexOf name)).length = xs.length) = sameIx name xs := by
  rw [Bool.eq_iff_iff, decide_eq_true_iff]
  unfold bucketOf sameIx
  rw [filter_len, List.all_eq_true, List.all_eq_true]
  constructor
  · intro h x hx; have := h x hx; simp only [decide_eq_true_eq] at this ⊢; omega
  · intro h x hx; have := h x hx; simp only [decide_eq_true_eq] at this ⊢; omega
theorem proof_sz {p : Proof} (h : p.sz ≤ 1048576) : szL p.bucket ≤ 1048576 ∧ p.bucket.length ≤ 1048576 ∧ p.sides.length ≤ 1048576 := by
  simp only [Proof.sz] at h
  have := szT_le p.bucket 0
  have := szT_le p.sides 0
  omega
theorem sameIx_bad {name : ByteArray} {xs : List Leaf} {k : Nat} (hk : k < xs.length) (h : ¬ indexOf xs[k].name = indexOf name) : sameIx name xs = false := by
  unfold sameIx; rw [List.all_eq_false]; exact ⟨_, List.getElem_mem hk, by simpa using h⟩
theorem sameIx_good {name : ByteArray} {xs : List Leaf} (h : ∀ k (hk : k < xs.length), indexOf xs[k].name = indexOf name) : sameIx name xs = true := by
  unfold sameIx; rw [List.all_eq_true]; intro s hs
  obtain ⟨k, hk, rfl⟩ := List.getElem_of_mem hs
  simpa using h k hk
end Go.Proofs.YtojbehmbeoemgaaDoor
