/- A part of the proof: what the laws need of it. -/
import Derived.Test.YtgllafgpmenjjaaGreatDoorHReL21xPr
import Derived.Test.YtgllafgpmenjjaaGreatDoorHReL12xDh
import Derived.Test.YtgllafgpmenjjaaGreatDoorHReL17xTg
import Derived.Test.YtgllafgpmenjjaaGreatDoorHReL7xLw
set_option linter.unusedVariables false
set_option linter.unusedSimpArgs false
set_option linter.unusedVariables false
set_option linter.unusedSimpArgs false
namespace Go.Proofs.YtgllafgpmenjjaaGreatDoor
open Go.RowKit Lay Mk
structure Spot where
  leaf : Leaf
  index : Int
abbrev Spot.tup (x : Spot) : Leaf × Int := (x.leaf, x.index)
instance instSpot : Lay Spot := layVia 228 Spot.tup
instance slSpot : SlTy Spot := ⟨207⟩
def Spot.cs (x : Spot) : List Value := [.string x.leaf.name, .string x.leaf.value, .int .i64 x.index]
theorem Spot.open {m : Bool} {w : World} {cs : List Value} {x : Spot} {S : Blks} (h : rd m w cs x S) : cs = Spot.cs x ∧ x.leaf.name.size ≤ maxLen ∧ x.leaf.value.size ≤ maxLen ∧ I64 x.index := by
  have h0 : rd m w cs x.tup S := h
  obtain ⟨c1, c2, P3, R4, rfl, s5, s6, d7, h8, h9⟩ := open_two h0
  obtain ⟨rfl, f10, f11⟩ := Leaf.open h8
  obtain ⟨rfl, f12⟩ := open_int h9
  exact ⟨rfl, f10, f11, f12⟩
theorem Spot.mk' {m : Bool} {w : World} {x : Spot} {S : Blks} (f0 : x.leaf.name.size ≤ maxLen) (f1 : x.leaf.value.size ≤ maxLen) (f2 : I64 x.index) : rd m w (Spot.cs x) x S :=
  Lay.mono (show rd m w (Spot.cs x) x.tup (fun _ => False) from ⟨Leaf.cs x.leaf, _, (fun _ => False), (fun _ => False), rfl, (sub_none _), (sub_none _), (fun _hm => fun _ _ x => x), (Leaf.mk' f0 f1), ⟨rfl, f2⟩⟩) (sub_none _)
def Spot.sz (x : Spot) : Nat := x.leaf.sz
def Spot.cn (_x : Spot) : Nat := 1 + 1 + 1
def Spot.me (_x : Spot) (k : Nat) : Spot := (⟨(⟨mtext (k), mtext (k + 1)⟩ : Leaf), ((k + 1 + 1 : Nat) : Int)⟩ : Spot)
def Spot.ct (_x : Spot) : Nat := 0
def Spot.zero : Spot := (⟨(⟨ByteArray.empty, ByteArray.empty⟩ : Leaf), 0⟩ : Spot)
instance mkSpot : Mk Spot where
  sz := Spot.sz
  cn := Spot.cn
  me := Spot.me
  z := Spot.zero
  zc := Spot.cs Spot.zero
  zrd _ _ := Spot.mk' empty_le empty_le I64_zero

instance inf_Spot : Inf Spot := ⟨⟨.agg #[.string ⟨#[]⟩, .string ⟨#[]⟩, .int .i64 0], 40, by kernel_rfl, rfl, by decide⟩, by kernel_rfl⟩
instance flat_Spot : Flat Spot := ⟨Spot.cs, fun x => x.leaf.name.size ≤ maxLen ∧ x.leaf.value.size ≤ maxLen ∧ I64 x.index, ⟨fun h => Spot.open h, fun ⟨e, h⟩ => by subst e; obtain ⟨f0, f1, f2⟩ := h; exact Spot.mk' f0 f1 f2⟩⟩
theorem Row.atSpot {m : Bool} {w : World} {A : Option Addr} {cap : Nat} {xs : List Spot} {S : Blks} (h : Row m w A cap xs S) {i : Nat} (hi : i < xs.length) :
    ∃ b off, A = some ⟨b, off, none⟩ ∧ b < w.heap.size ∧ w.cell? ⟨b, off + i * 3, none⟩ = some (.string xs[i].leaf.name) ∧ w.cell? ⟨b, off + i * 3 + 1, none⟩ = some (.string xs[i].leaf.value) ∧ w.cell? ⟨b, off + i * 3 + 2, none⟩ = some (.int .i64 xs[i].index) ∧ xs[i].leaf.name.size ≤ maxLen ∧ xs[i].leaf.value.size ≤ maxLen ∧ I64 xs[i].index := by
  obtain ⟨b, off, cs, T, e, hb, ha, hr, _, _⟩ := Row.at_ h hi
  obtain ⟨rfl, hs⟩ := Spot.open hr
  rw [show n Spot = 3 from rfl] at ha
  exact ⟨b, off, e, hb, ha 0 _ rfl, ha 1 _ rfl, ha 2 _ rfl, hs⟩
def belowL (d p : Nat) (l : List Leaf) : List Leaf := l.filter (fun x => decide (indexOf x.name / 2 ^ d = p))
def emptyD (n : Int) : Nat → ByteArray
  | 0 => tagHash 1 [] n
  | d + 1 => tagHash 3 [emptyD n d, emptyD n d] n
def bucketHash (xs : List Leaf) (n : Int) : ByteArray := cutDigest (bucketTx xs) n
def nodeD (n : Int) : Nat → Nat → List Leaf → ByteArray
  | 0, p, l => bucketHash (belowL 0 p l) n
  | d + 1, p, l => if (belowL (d + 1) p l).length = 0 then emptyD n (d + 1) else tagHash 3 [nodeD n d (2 * p) l, nodeD n d (2 * p + 1) l] n
theorem below_filter {d p : Nat} {q : Leaf → Bool} {l : List Leaf} (h : ∀ x, indexOf x.name / 2 ^ d = p → q x = true) : belowL d p (l.filter q) = belowL d p l := by
  unfold belowL
  rw [List.filter_filter]
  apply List.filter_congr
  intro x _
  by_cases hx : indexOf x.name / 2 ^ d = p
  · rw [h x hx]; simp
  · simp [hx]
theorem half_of {a d p : Nat} (h : a / 2 ^ d = 2 * p ∨ a / 2 ^ d = 2 * p + 1) : a / 2 ^ (d + 1) = p := by
  rw [Nat.pow_succ, ← Nat.div_div_eq_div_mul]; omega
theorem node_filter (n : Int) : ∀ (d p : Nat) (q : Leaf → Bool) (l : List Leaf), (∀ x, indexOf x.name / 2 ^ d = p → q x = true) → nodeD n d p (l.filter q) = nodeD n d p l
  | 0, p, q, l, h => by simp only [nodeD]; rw [below_filter h]
  | d + 1, p, q, l, h => by
    simp only [nodeD]
    rw [below_filter h, node_filter n d (2 * p) q l (fun x hx => h x (half_of (Or.inl hx))), node_filter n d (2 * p + 1) q l (fun x hx => h x (half_of (Or.inr hx)))]
theorem node_below (n : Int) {d p : Nat} (l : List Leaf) : nodeD n (d + 1) p l = if (belowL (d + 1) p l).length = 0 then emptyD n (d + 1) else tagHash 3 [nodeD n d (2 * p) (belowL (d + 1) p l), nodeD n d (2 * p + 1) (belowL (d + 1) p l)] n := by
  show (if _ then _ else _) = _
  rw [show nodeD n d (2 * p) (belowL (d + 1) p l) = nodeD n d (2 * p) l from node_filter n d (2 * p) _ l (fun x hx => by simp [half_of (Or.inl hx)]),
    show nodeD n d (2 * p + 1) (belowL (d + 1) p l) = nodeD n d (2 * p + 1) l from node_filter n d (2 * p + 1) _ l (fun x hx => by simp [half_of (Or.inr hx)])]
theorem node_none (n : Int) {d p : Nat} {l : List Leaf} (h : (belowL d p l).length = 0) : nodeD n d p l = emptyD n d := by
  cases d with
  | zero =>
    have h2 : belowL 0 p l = [] := List.eq_nil_of_length_eq_zero h
    simp only [nodeD, emptyD, h2, bucketHash]
    show cutDigest (tagText 1 []) n = tagHash 1 [] n
    unfold tagHash
    rw [if_pos (by decide)]
  | succ d => simp only [nodeD]; rw [if_pos h]
theorem below_snoc {d p : Nat} {l : List Leaf} {k : Nat} (h : k < l.length) : belowL d p (l.take (k + 1)) = belowL d p (l.take k) ++ (if indexOf l[k].name / 2 ^ d = p then [l[k]] else []) := by
  unfold belowL; rw [List.take_succ_eq_append_getElem h, List.filter_append]
  congr 1
  by_cases hc : indexOf l[k].name / 2 ^ d = p <;> simp [hc]
theorem bLess_step {xs : List Leaf} (h : Srt xs) {k : Nat} (hk : k < xs.length) : prevLess xs k xs[k] = true := by
  cases k with
  | zero => rfl
  | succ k =>
    rw [prevLess_succ hk]
    exact List.pairwise_iff_getElem.1 h k (k + 1) (by omega) hk (by omega)
theorem leavesOk_all {xs : List Leaf} (h : leavesOk xs = true) : ∀ x ∈ xs, nameOk x.name = true ∧ valueOk x.value = true := by
  intro x hx
  obtain ⟨k, hk, rfl⟩ := List.getElem_of_mem hx
  unfold leavesOk at h
  rw [Bool.and_eq_true] at h
  have h2 := allN_get h.1 hk
  rw [leafP_at hk] at h2
  simp only [Bool.and_eq_true] at h2
  exact h2.1
theorem leavesOk_mk {xs : List Leaf} (h1 : Srt xs) (h2 : ∀ x ∈ xs, nameOk x.name = true ∧ valueOk x.value = true) (h3 : xs.length ≤ 24) : leavesOk xs = true := by
  rw [leavesOk_end (fun k hk => ?_)]
  · simp [h3]
  · rw [leafP_at hk, (h2 _ (List.getElem_mem hk)).1, (h2 _ (List.getElem_mem hk)).2, bLess_step h1 hk]; rfl
theorem leavesOk_filter {xs : List Leaf} (h : leavesOk xs = true) (q : Leaf → Bool) : leavesOk (xs.filter q) = true := by
  refine leavesOk_mk ?_ (fun x hx => leavesOk_all h x (List.mem_filter.1 hx).1) (Nat.le_trans (List.length_filter_le _ _) (leavesOk_len h))
  exact List.Pairwise.sublist List.filter_sublist (srt_of h)
theorem leavesOk_below {xs : List Leaf} (h : leavesOk xs = true) (d p : Nat) : leavesOk (belowL d p xs) = true := leavesOk_filter h _
theorem node_le (n : Int) (d p : Nat) (l : List Leaf) : (nodeD n d p l).size ≤ 32 := by
  cases d with
  | zero => exact cutDigest_le _ _
  | succ d =>
    simp only [nodeD]
    split
    · exact tagHash_le _ _ _
    · exact tagHash_le _ _ _
theorem emptyD_le (n : Int) (d : Nat) : (emptyD n d).size ≤ 32 := by cases d <;> exact tagHash_le _ _ _
end Go.Proofs.YtgllafgpmenjjaaGreatDoor

set_option linter.unusedVariables false
set_option linter.unusedSimpArgs false
namespace Go.Proofs.YtgllafgpmenjjaaGreatDoor
open Go.RowKit Lay Mk
def sameIx (name : ByteArray) (xs : List Leaf) : Bool := xs.all (fun l => decide (indexOf l.name = indexOf name))
def proofOk (name : ByteArray) (p : Proof) (v : Int) : Bool := nameOk name && (leavesOk p.bucket && (decide (p.sides.length ≤ 8) && ((inB v 1 32 && wideG p.sides v) && sameIx name p.bucket)))
theorem filter_len {α : Type} (p : α → Bool) (l : List α) : ((l.filter p).length = l.length) ↔ l.all p = true := by
  rw [List.length_filter_eq_length_iff, List.all_eq_true]
theorem same_bucket (name : ByteArray) (xs : List Leaf) : decide ((bucketOf xs (indexOf name)).length = xs.length) = sameIx name xs := by
  rw [Bool.eq_iff_iff, decide_eq_true_iff]
  unfold bucketOf sameIx
  rw [filter_len, List.all_eq_true, List.all_eq_true]
  constructor
  · intro h x hx; have := h x hx; simp only [decide_eq_true_eq] at this ⊢; omega
  · intro h x hx; have := h x hx; simp only [decide_eq_true_eq] at this ⊢; omega
theorem proof_sz {p : Proof} (h : p.sz ≤ 1048576) : szL p.bucket ≤ 1048576 ∧ p.bucket.length ≤ 1048576 ∧ p.sides.length ≤ 1048576 := by
  simp only [Proof.sz] at h
  have := szT_le p.bucket 0
  have := szT_le p.sides 0
  omega
set_option maxRecDepth 20000 in set_option maxHeartbeats 8000000 in
theorem impl_ProofOk (w : World) (name : ByteArray) (hn : name.size ≤ 1048576) (p : Proof) (cs : List Value) (S : Blks) (hx : rd false w cs p S) (hz : p.sz ≤ 1048576) (v : Int) (hv : I64 v) (hT : Tabs w) : Calls Tryz.prog 143 #[.string name, .agg cs.toArray, .int .i64 v] w fun e w' => e = .returned (.bool (proofOk name p v)) ∧ Below w.heap.size w w' := by
  have HT := Lib.hid hT
  clear hT
  obtain ⟨hzb, hlb, hls⟩ := proof_sz hz
  obtain ⟨A0, k0, S0, A1, k1, S1, rfl, lb, mb, r0, -, ls, ms, r1, -⟩ := Proof.open hx
  clear hx hz
  have hnm : name.size ≤ maxLen := by unfold maxLen; omega
  have HF : Hid (proofOk name p v = (nameOk name && (leavesOk p.bucket && (decide (p.sides.length ≤ 8) && ((inB v 1 32 && wideG p.sides v) && sameIx name p.bucket))))) := Lib.hid rfl
  obtain ⟨xs, ss⟩ := p
  simp only at hzb hlb hls r0 r1 lb ls mb ms HF
  obtain ⟨R, hR⟩ : ∃ R, proofOk name ⟨xs, ss⟩ v = R := ⟨_, rfl⟩
  rw [hR] at HF ⊢
  clear hR
  simp only [Proof.cs]
  have HLV := Lib.hid (fun W (h : Below w.heap.size w W) => impl_LeavesOk W xs A0 k0 S0 (Row.later r0 h) (by omega))
  have HNM := Lib.hid (fun W => impl_NameOk name W hnm)
  have HW := Lib.hid (fun W (h : Below w.heap.size w W) => impl_haveWidth W ss A1 k1 S1 (Row.later r1 h) (by unfold maxLen; omega) (ss.length : Int) (by unfold I64; omega) v)
  have HIW := Lib.hid (fun W => impl_isWide v W)
  have hWd : ∀ W, W = w.alloc (.cells #[.slice A0 xs.length k0, .slice A1 ss.length k1] 57) → Below w.heap.size w W ∧ W.cell? ⟨w.heap.size, 0, none⟩ = some (.slice A0 xs.length k0) ∧ W.cell? ⟨w.heap.size, 1, none⟩ = some (.slice A1 ss.length k1) ∧ w.heap.size < W.heap.size := by
    rintro W rfl
    exact ⟨(Below.refl _ _).alloc (Nat.le_refl _) _, box_cell _ _ _ _ _ rfl, box_cell _ _ _ _ _ rfl, by simp⟩
  cases h1 : nameOk name <;> rw [h1] at HNM
  · have H1 := Lib.hid h1
    clear h1
    go_enter Tryz.func143, Tryz.ntmps143
    go_wp2_with (fail)
    obtain ⟨W, hW⟩ : ∃ W, w.alloc (.cells #[.slice A0 xs.length k0, .slice A1 ss.length k1] 57) = W := ⟨_, rfl⟩
    rw [hW]
    obtain ⟨hBW, c0, c1, hlW⟩ := hWd W hW.symm
    clear hW hWd
    obtain ⟨B, hB⟩ : ∃ B, w.heap.size = B := ⟨_, rfl⟩
    have HBW := Lib.hid hBW
    simp only [hB] at c0 c1 hlW ⊢
    have HBE := Lib.hid hB
    clear hB hBW
    refine (HNM.out _).mono ?_
    rintro e0 v0 ⟨rfl, rfl⟩
    go_wp2
    go_ret
    exact ⟨ret_bool (by rw [HF.out, H1.out]; rfl), by first | exact HBW.out | (rw [← HBE.out]; exact HBW.out)⟩
  cases h2 : leavesOk xs <;> rw [h2] at HLV
  · have H2 := Lib.hid (show (nameOk name && leavesOk xs) = false by rw [h2]; simp)
    have H1 := Lib.hid h1
    have H2b := Lib.hid h2
    clear h1 h2
    go_enter Tryz.func143, Tryz.ntmps143
    go_wp2_with (fail)
    obtain ⟨W, hW⟩ : ∃ W, w.alloc (.cells #[.slice A0 xs.length k0, .slice A1 ss.length k1] 57) = W := ⟨_, rfl⟩
    rw [hW]
    obtain ⟨hBW, c0, c1, hlW⟩ := hWd W hW.symm
    clear hW hWd
    obtain ⟨B, hB⟩ : ∃ B, w.heap.size = B := ⟨_, rfl⟩
    have HBW := Lib.hid hBW
    simp only [hB] at c0 c1 hlW ⊢
    have HBE := Lib.hid hB
    clear hB hBW
    refine (HNM.out _).mono ?_
    rintro e0 v0 ⟨rfl, rfl⟩
    go_wp2_with (fail)
    refine (HLV.out _ HBW.out).mono ?_
    rintro e1 w1 ⟨rfl, hb1⟩
    have HB1 := Lib.hid (HBW.out.trans (hb1.mono HBW.out.size))
    replace c0 := (hb1.cell (p := ⟨B, 0, none⟩) hlW).trans c0
    replace c1 := (hb1.cell (p := ⟨B, 1, none⟩) hlW).trans c1
    replace hlW := Nat.lt_of_lt_of_le hlW hb1.size
    clear hb1
    go_wp2
    go_ret
    exact ⟨ret_bool (by rw [HF.out, H1.out, H2b.out]; rfl), by first | exact HB1.out | (rw [← HBE.out]; exact HB1.out)⟩
  by_cases h3 : 8 < ss.length
  · have H1 := Lib.hid h1
    have H2b := Lib.hid h2
    have H3 : Hid (decide (ss.length ≤ 8) = false) := Lib.hid (decide_eq_false (by omega))
    have h3i : (8 : Int) < (ss.length : Int) := by omega
    clear h1 h2 h3
    go_enter Tryz.func143, Tryz.ntmps143
    go_wp2_with (fail)
    obtain ⟨W, hW⟩ : ∃ W, w.alloc (.cells #[.slice A0 xs.length k0, .slice A1 ss.length k1] 57) = W := ⟨_, rfl⟩
    rw [hW]
    obtain ⟨hBW, c0, c1, hlW⟩ := hWd W hW.symm
    clear hW hWd
    obtain ⟨B, hB⟩ : ∃ B, w.heap.size = B := ⟨_, rfl⟩
    have HBW := Lib.hid hBW
    simp only [hB] at c0 c1 hlW ⊢
    have HBE := Lib.hid hB
    clear hB hBW
    refine (HNM.out _).mono ?_
    rintro e0 v0 ⟨rfl, rfl⟩
    go_wp2_with (fail)
    refine (HLV.out _ HBW.out).mono ?_
    rintro e1 w1 ⟨rfl, hb1⟩
    have HB1 := Lib.hid (HBW.out.trans (hb1.mono HBW.out.size))
    replace c0 := (hb1.cell (p := ⟨B, 0, none⟩) hlW).trans c0
    replace c1 := (hb1.cell (p := ⟨B, 1, none⟩) hlW).trans c1
    replace hlW := Nat.lt_of_lt_of_le hlW hb1.size
    clear hb1
    go_wp2
    go_ret
    exact ⟨ret_bool (by rw [HF.out, H1.out, H2b.out, H3.out]; rfl), by first | exact HB1.out | (rw [← HBE.out]; exact HB1.out)⟩
  have H1 := Lib.hid h1
  have H2b := Lib.hid h2
  have H3 : Hid (decide (ss.length ≤ 8) = true) := Lib.hid (decide_eq_true (by omega))
  have h3i : ¬ (8 : Int) < (ss.length : Int) := by omega
  clear h1 h2 h3
  cases h4 : inB v 1 32 <;> rw [h4] at HIW
  · have H4 := Lib.hid h4
    clear h4
    go_enter Tryz.func143, Tryz.ntmps143
    go_wp2_with (fail)
    obtain ⟨W, hW⟩ : ∃ W, w.alloc (.cells #[.slice A0 xs.length k0, .slice A1 ss.length k1] 57) = W := ⟨_, rfl⟩
    rw [hW]
    obtain ⟨hBW, c0, c1, hlW⟩ := hWd W hW.symm
    clear hW hWd
    obtain ⟨B, hB⟩ : ∃ B, w.heap.size = B := ⟨_, rfl⟩
    have HBW := Lib.hid hBW
    simp only [hB] at c0 c1 hlW ⊢
    have HBE := Lib.hid hB
    clear hB hBW
    refine (HNM.out _).mono ?_
    rintro e0 v0 ⟨rfl, rfl⟩
    go_wp2_with (fail)
    refine (HLV.out _ HBW.out).mono ?_
    rintro e1 w1 ⟨rfl, hb1⟩
    have HB1 := Lib.hid (HBW.out.trans (hb1.mono HBW.out.size))
    replace c0 := (hb1.cell (p := ⟨B, 0, none⟩) hlW).trans c0
    replace c1 := (hb1.cell (p := ⟨B, 1, none⟩) hlW).trans c1
    replace hlW := Nat.lt_of_lt_of_le hlW hb1.size
    clear hb1
    go_wp2_with (fail)
    refine (HIW.out _).mono ?_
    rintro e2 v2 ⟨rfl, rfl⟩
    go_wp2
    go_ret
    exact ⟨ret_bool (by rw [HF.out, H1.out, H2b.out, H3.out, H4.out]; rfl), by first | exact HB1.out | (rw [← HBE.out]; exact HB1.out)⟩
  have H4 := Lib.hid h4
  clear h4
  cases h5 : wideG ss v <;> rw [h5] at HW
  · have H5 := Lib.hid h5
    clear h5
    go_enter Tryz.func143, Tryz.ntmps143
    go_wp2_with (fail)
    obtain ⟨W, hW⟩ : ∃ W, w.alloc (.cells #[.slice A0 xs.length k0, .slice A1 ss.length k1] 57) = W := ⟨_, rfl⟩
    rw [hW]
    obtain ⟨hBW, c0, c1, hlW⟩ := hWd W hW.symm
    clear hW hWd
    obtain ⟨B, hB⟩ : ∃ B, w.heap.size = B := ⟨_, rfl⟩
    have HBW := Lib.hid hBW
    simp only [hB] at c0 c1 hlW ⊢
    have HBE := Lib.hid hB
    clear hB hBW
    refine (HNM.out _).mono ?_
    rintro e0 v0 ⟨rfl, rfl⟩
    go_wp2_with (fail)
    refine (HLV.out _ HBW.out).mono ?_
    rintro e1 w1 ⟨rfl, hb1⟩
    have HB1 := Lib.hid (HBW.out.trans (hb1.mono HBW.out.size))
    replace c0 := (hb1.cell (p := ⟨B, 0, none⟩) hlW).trans c0
    replace c1 := (hb1.cell (p := ⟨B, 1, none⟩) hlW).trans c1
    replace hlW := Nat.lt_of_lt_of_le hlW hb1.size
    clear hb1
    go_wp2_with (fail)
    refine (HIW.out _).mono ?_
    rintro e2 v2 ⟨rfl, rfl⟩
    go_wp2_with (fail)
    refine (HW.out _ HB1.out).mono ?_
    rintro e3 v3 ⟨rfl, rfl⟩
    go_wp2
    go_ret
    exact ⟨ret_bool (by rw [HF.out, H1.out, H2b.out, H3.out, H4.out, H5.out]; rfl), by first | exact HB1.out | (rw [← HBE.out]; exact HB1.out)⟩
  have H5 := Lib.hid h5
  clear h5
  have hdd : (true && decide ((ss.length : Int) = (ss.length : Int))) = true := by simp
  rw [hdd] at HW
  clear hdd
  have HIX := Lib.hid (fun W (h : Below w.heap.size w W) => impl_IndexOf W name (by omega) (HT.out.later h))
  have HBK := Lib.hid (fun W (h : Below w.heap.size w W) => impl_BucketOf W xs A0 k0 S0 (Row.later r0 h) hlb hzb (indexOf name : Int) (HT.out.later h))
  have HSB := Lib.hid (same_bucket name xs)
  have HFF : Hid (R = sameIx name xs) := Lib.hid (by rw [HF.out, H1.out, H2b.out, H3.out, H4.out, H5.out]; rfl)
  obtain ⟨ix, hix⟩ : ∃ ix, indexOf name = ix := ⟨_, rfl⟩
  rw [hix] at HIX HBK HSB
  obtain ⟨ys, hys⟩ : ∃ ys, bucketOf xs (ix : Int) = ys := ⟨_, rfl⟩
  rw [hys] at HBK HSB
  clear hix hys HF r0 r1
  go_enter Tryz.func143, Tryz.ntmps143
  go_wp2_with (fail)
  obtain ⟨W, hW⟩ : ∃ W, w.alloc (.cells #[.slice A0 xs.length k0, .slice A1 ss.length k1] 57) = W := ⟨_, rfl⟩
  rw [hW]
  obtain ⟨hBW, c0, c1, hlW⟩ := hWd W hW.symm
  clear hW hWd
  obtain ⟨B, hB⟩ : ∃ B, w.heap.size = B := ⟨_, rfl⟩
  have HBW := Lib.hid hBW
  simp only [hB] at c0 c1 hlW ⊢
  have HBE := Lib.hid hB
  clear hB hBW
  refine (HNM.out _).mono ?_
  rintro e0 v0 ⟨rfl, rfl⟩
  go_wp2_with (fail)
  refine (HLV.out _ HBW.out).mono ?_
  rintro e1 w1 ⟨rfl, hb1⟩
  have HB1 := Lib.hid (HBW.out.trans (hb1.mono HBW.out.size))
  replace c0 := (hb1.cell (p := ⟨B, 0, none⟩) hlW).trans c0
  replace c1 := (hb1.cell (p := ⟨B, 1, none⟩) hlW).trans c1
  replace hlW := Nat.lt_of_lt_of_le hlW hb1.size
  clear hb1
  go_wp2_with (fail)
  refine (HIW.out _).mono ?_
  rintro e2 v2 ⟨rfl, rfl⟩
  go_wp2_with (fail)
  refine (HW.out _ HB1.out).mono ?_
  rintro e3 v3 ⟨rfl, rfl⟩
  have hB := Below.refl w1.heap.size w1
  have HM := Lib.hid (fun (w' : World) (h' : Below w1.heap.size w1 w') => (⟨(h'.cell (p := ⟨B, 0, none⟩) hlW).trans c0, h'⟩ : w'.cell? ⟨B, 0, none⟩ = some (.slice A0 xs.length k0) ∧ Below w1.heap.size w1 w'))
  go_wp2_with (fail)
  go_region_held3 (fun w' => w'.cell? ⟨B, 0, none⟩ = some (.slice A0 xs.length k0) ∧ Below w1.heap.size w1 w')
    (first | exact HM.out _ (by (repeat (first | with_reducible exact hB | with_reducible apply Below.drew | with_reducible refine Below.alloc ?_ ?_ _)); all_goals (first | omega | (simp; done) | (simp; omega))))
    (first | (go_at_call 97; refine (HIX.out _ (HB1.out.trans (Below.mono (w := w1) (by (repeat (first | with_reducible exact hB | with_reducible apply Below.drew | with_reducible refine Below.alloc ?_ ?_ _)); all_goals (first | omega | (simp; done) | (simp; omega))) HB1.out.size))).mono ?_; rintro e5 w5 ⟨rfl, hb5⟩; have hs5 := hb5.size; (try simp at hs5); have hB := Below.step (a := w1) (by (repeat (first | with_reducible exact hB | with_reducible apply Below.drew | with_reducible refine Below.alloc ?_ ?_ _)); all_goals (first | omega | (simp; done) | (simp; omega))) hb5) | (go_at_call 182; refine (HBK.out _ (HB1.out.trans (Below.mono (w := w1) (by (repeat (first | with_reducible exact hB | with_reducible apply Below.drew | with_reducible refine Below.alloc ?_ ?_ _)); all_goals (first | omega | (simp; done) | (simp; omega))) HB1.out.size))).mono ?_; rintro e6 w6 ⟨A6, c6, rfl, own6⟩; have hs6 := own6.bl.size; (try simp at hs6); have hB := Below.step (a := w1) (by (repeat (first | with_reducible exact hB | with_reducible apply Below.drew | with_reducible refine Below.alloc ?_ ?_ _)); all_goals (first | omega | (simp; done) | (simp; omega))) own6.bl))
  go_wp2
  go_ret
  exact ⟨ret_bool (by
    rw [HFF.out, ← HSB.out, Bool.eq_iff_iff, beq_iff_eq, decide_eq_true_iff]; omega), by first | exact HB1.out.trans (Below.mono (w := w1) (by (repeat (first | with_reducible exact hB | with_reducible apply Below.drew | with_reducible refine Below.alloc ?_ ?_ _)); all_goals (first | omega | (simp; done) | (simp; omega))) HB1.out.size) | (rw [← HBE.out]; exact HB1.out.trans (Below.mono (w := w1) (by (repeat (first | with_reducible exact hB | with_reducible apply Below.drew | with_reducible refine Below.alloc ?_ ?_ _)); all_goals (first | omega | (simp; done) | (simp; omega))) HB1.out.size))⟩
end Go.Proofs.YtgllafgpmenjjaaGreatDoor
