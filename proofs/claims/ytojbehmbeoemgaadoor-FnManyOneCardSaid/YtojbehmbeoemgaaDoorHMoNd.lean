/- A part of the proof: what the laws need of it. -/
import Derived.Test.YtojbehmbeoemgaaDoorHMoL20xBk
import Derived.Test.YtojbehmbeoemgaaDoorHMoL12xDh
set_option linter.unusedVariables false
set_option linter.unusedSimpArgs false
set_option linter.unusedVariables false
set_option linter.unusedSimpArgs false
namespace Go.Proofs.YtojbehmbeoemgaaDoor
open Go.RowKit Lay Mk
structure Spot where
  leaf : Leaf
  index : Int
abbrev Spot.tup (x : Spot) : Leaf × Int := (x.leaf, x.index)
instance instSpot : Lay Spot := layVia 153 Spot.tup
instance slSpot : SlTy Spot := ⟨122⟩
def Spot.cs (x : Spot) : List Value := [.string x.leaf.name, .string x.leaf.value, .int .i64 x.index]
theorem Spot.open {m : Bool} {w : World} {cs : List Value} {x : Spot} {S : Blks} (h : rd m w cs x S) : cs = Spot.cs x ∧ x.leaf.name.size ≤ maxLen ∧ x.leaf.value.size ≤ maxLen ∧ I64 x.index := by
  have h0 : rd m w cs x.tup S := h
  obtain ⟨c1, c2, P3, R4, rfl, s5, s6, d7, h8, h9⟩ := open_two h0
  obtain ⟨rfl, f10, f11⟩ := Leaf.open h8
  obtain ⟨rfl, f12⟩ := open_int h9
  exact ⟨rfl, f10, f11, f12⟩
theorem Spot.mk' {m : Bool} {w : World} {x : Spot} {S : Blks} (f0 : x.leaf.name.size ≤ maxLen) (f1 : x.leaf.value.size ≤ maxLen) (f2 : I64 x.index) : rd m w (Spot.cs x) x S :=
  Lay.mono (show rd m w (Spot.cs x) x.tup (fun _ => False) from ⟨Leaf.cs x.leaf, _, (fun _ => False), (fun _ => False), rfl, (sub_none _), (sub_none _), (fun _hm => fun _ _ x => x), (Leaf.mk' f0 f1), ⟨rfl, f2⟩⟩) (sub_none _)
def Spot.sz (x : Spot) : Nat := x.leaf.sz
def Spot.cn (_x : Spot) : Nat := 1 + 1 + 1
def Spot.me (_x : Spot) (k : Nat) : Spot := (⟨(⟨mtext (k), mtext (k + 1)⟩ : Leaf), ((k + 1 + 1 : Nat) : Int)⟩ : Spot)
def Spot.zero : Spot := (⟨(⟨ByteArray.empty, ByteArray.empty⟩ : Leaf), 0⟩ : Spot)
instance mkSpot : Mk Spot where
  sz := Spot.sz
  cn := Spot.cn
  me := Spot.me
  z := Spot.zero
  zc := Spot.cs Spot.zero
  zrd _ _ := Spot.mk' empty_le empty_le I64_zero

instance inf_Spot : Inf Spot := ⟨⟨.agg #[.string ⟨#[]⟩, .string ⟨#[]⟩, .int .i64 0], 40, by kernel_rfl, rfl, by decide⟩, by kernel_rfl⟩
instance flat_Spot : Flat Spot := ⟨Spot.cs, fun x => x.leaf.name.size ≤ maxLen ∧ x.leaf.value.size ≤ maxLen ∧ I64 x.index, ⟨fun h => Spot.open h, fun ⟨e, h⟩ => by subst e; obtain ⟨f0, f1, f2⟩ := h; exact Spot.mk' f0 f1 f2⟩⟩
theorem Row.atSpot {m : Bool} {w : World} {A : Option Addr} {cap : Nat} {xs : List Spot} {S : Blks} (h : Row m w A cap xs S) {i : Nat} (hi : i < xs.length) :
    ∃ b off, A = some ⟨b, off, none⟩ ∧ b < w.heap.size ∧ w.cell? ⟨b, off + i * 3, none⟩ = some (.string xs[i].leaf.name) ∧ w.cell? ⟨b, off + i * 3 + 1, none⟩ = some (.string xs[i].leaf.value) ∧ w.cell? ⟨b, off + i * 3 + 2, none⟩ = some (.int .i64 xs[i].index) ∧ xs[i].leaf.name.size ≤ maxLen ∧ xs[i].leaf.value.size ≤ maxLen ∧ I64 xs[i].index := by
  obtain ⟨b, off, cs, T, e, hb, ha, hr, _, _⟩ := Row.at_ h hi
  obtain ⟨rfl, hs⟩ := Spot.open hr
  rw [show n Spot = 3 from rfl] at ha
  exact ⟨b, off, e, hb, ha 0 _ rfl, ha 1 _ rfl, ha 2 _ rfl, hs⟩
def belowL (d p : Nat) (l : List Leaf) : List Leaf := l.filter (fun x => decide (indexOf x.name / 2 ^ d = p))
def emptyD (n : Int) : Nat → ByteArray
  | 0 => tagHash 1 [] n
  | d + 1 => tagHash 3 [emptyD n d, emptyD n d] n
def bucketHash (xs : List Leaf) (n : Int) : ByteArray := cutDigest (bucketTx xs) n
def nodeD (n : Int) : Nat → Nat → List Leaf → ByteArray
  | 0, p, l => bucketHash (belowL 0 p l) n
  | d + 1, p, l => if (belowL (d + 1) p l).length = 0 then emptyD n (d + 1) else tagHash 3 [nodeD n d (2 * p) l, nodeD n d (2 * p + 1) l] n
theorem below_filter {d p : Nat} {q : Leaf → Bool} {l : List Leaf} (h : ∀ x, indexOf x.name / 2 ^ d = p → q x = true) : belowL d p (l.filter q) = belowL d p l := by
  unfold belowL
  rw [List.filter_filter]
  apply List.filter_congr
  intro x _
  by_cases hx : indexOf x.name / 2 ^ d = p
  · rw [h x hx]; simp
  · simp [hx]
theorem half_of {a d p : Nat} (h : a / 2 ^ d = 2 * p ∨ a / 2 ^ d = 2 * p + 1) : a / 2 ^ (d + 1) = p := by
  rw [Nat.pow_succ, ← Nat.div_div_eq_div_mul]; omega
theorem node_filter (n : Int) : ∀ (d p : Nat) (q : Leaf → Bool) (l : List Leaf), (∀ x, indexOf x.name / 2 ^ d = p → q x = true) → nodeD n d p (l.filter q) = nodeD n d p l
  | 0, p, q, l, h => by simp only [nodeD]; rw [below_filter h]
  | d + 1, p, q, l, h => by
    simp only [nodeD]
    rw [below_filter h, node_filter n d (2 * p) q l (fun x hx => h x (half_of (Or.inl hx))), node_filter n d (2 * p + 1) q l (fun x hx => h x (half_of (Or.inr hx)))]
theorem node_below (n : Int) {d p : Nat} (l : List Leaf) : nodeD n (d + 1) p l = if (belowL (d + 1) p l).length = 0 then emptyD n (d + 1) else tagHash 3 [nodeD n d (2 * p) (belowL (d + 1) p l), nodeD n d (2 * p + 1) (belowL (d + 1) p l)] n := by
  show (if _ then _ else _) = _
  rw [show nodeD n d (2 * p) (belowL (d + 1) p l) = nodeD n d (2 * p) l from node_filter n d (2 * p) _ l (fun x hx => by simp [half_of (Or.inl hx)]),
    show nodeD n d (2 * p + 1) (belowL (d + 1) p l) = nodeD n d (2 * p + 1) l from node_filter n d (2 * p + 1) _ l (fun x hx => by simp [half_of (Or.inr hx)])]
theorem node_none (n : Int) {d p : Nat} {l : List Leaf} (h : (belowL d p l).length = 0) : nodeD n d p l = emptyD n d := by
  cases d with
  | zero =>
    have h2 : belowL 0 p l = [] := List.eq_nil_of_length_eq_zero h
    simp only [nodeD, emptyD, h2, bucketHash]
    show cutDigest (tagText 1 []) n = tagHash 1 [] n
    unfold tagHash
    rw [if_pos (by decide)]
  | succ d => simp only [nodeD]; rw [if_pos h]
theorem below_snoc {d p : Nat} {l : List Leaf} {k : Nat} (h : k < l.length) : belowL d p (l.take (k + 1)) = belowL d p (l.take k) ++ (if indexOf l[k].name / 2 ^ d = p then [l[k]] else []) := by
  unfold belowL; rw [List.take_succ_eq_append_getElem h, List.filter_append]
  congr 1
  by_cases hc : indexOf l[k].name / 2 ^ d = p <;> simp [hc]
theorem bLess_step {xs : List Leaf} (h : Srt xs) {k : Nat} (hk : k < xs.length) : prevLess xs k xs[k] = true := by
  cases k with
  | zero => rfl
  | succ k =>
    rw [prevLess_succ hk]
    exact List.pairwise_iff_getElem.1 h k (k + 1) (by omega) hk (by omega)
theorem leavesOk_all {xs : List Leaf} (h : leavesOk xs = true) : ∀ x ∈ xs, nameOk x.name = true ∧ valueOk x.value = true := by
  intro x hx
  obtain ⟨k, hk, rfl⟩ := List.getElem_of_mem hx
  unfold leavesOk at h
  rw [Bool.and_eq_true] at h
  have h2 := allN_get h.1 hk
  rw [leafP_at hk] at h2
  simp only [Bool.and_eq_true] at h2
  exact h2.1
theorem leavesOk_mk {xs : List Leaf} (h1 : Srt xs) (h2 : ∀ x ∈ xs, nameOk x.name = true ∧ valueOk x.value = true) (h3 : xs.length ≤ 24) : leavesOk xs = true := by
  rw [leavesOk_end (fun k hk => ?_)]
  · simp [h3]
  · rw [leafP_at hk, (h2 _ (List.getElem_mem hk)).1, (h2 _ (List.getElem_mem hk)).2, bLess_step h1 hk]; rfl
theorem leavesOk_filter {xs : List Leaf} (h : leavesOk xs = true) (q : Leaf → Bool) : leavesOk (xs.filter q) = true := by
  refine leavesOk_mk ?_ (fun x hx => leavesOk_all h x (List.mem_filter.1 hx).1) (Nat.le_trans (List.length_filter_le _ _) (leavesOk_len h))
  exact List.Pairwise.sublist List.filter_sublist (srt_of h)
theorem leavesOk_below {xs : List Leaf} (h : leavesOk xs = true) (d p : Nat) : leavesOk (belowL d p xs) = true := leavesOk_filter h _
theorem node_le (n : Int) (d p : Nat) (l : List Leaf) : (nodeD n d p l).size ≤ 32 := by
  cases d with
  | zero => exact cutDigest_le _ _
  | succ d =>
    simp only [nodeD]
    split
    · exact tagHash_le _ _ _
    · exact tagHash_le _ _ _
theorem emptyD_le (n : Int) (d : Nat) : (emptyD n d).size ≤ 32 := by cases d <;> exact tagHash_le _ _ _
end Go.Proofs.YtojbehmbeoemgaaDoor
