/- Plain: sorted entries; putting one in, by insertion and by filters. No walk is here. -/
import Derived.Test.YtojbehmbeoemgaaDoorKLg
set_option linter.unusedVariables false
set_option linter.unusedSimpArgs false
namespace Go.Proofs.YtojbehmbeoemgaaDoor
theorem bLess_dec (a b : ByteArray) : bLess a b = decide (a.toList < b.toList) := by unfold bLess; exact bytesLess_eq _ _
theorem bLess_irrefl (a : ByteArray) : bLess a a = false := by rw [bLess_dec, decide_eq_false_iff_not]; exact List.lt_irrefl _
theorem bLess_trans {a b c : ByteArray} (h : bLess a b = true) (k : bLess b c = true) : bLess a c = true := by
  rw [bLess_dec, decide_eq_true_eq] at *; exact List.lt_trans h k
theorem bLess_asymm {a b : ByteArray} (h : bLess a b = true) : bLess b a = false := by
  cases e : bLess b a
  · rfl
  · have := bLess_trans h e; rw [bLess_irrefl] at this; cases this
theorem bLess_tri {a b : ByteArray} (h : bLess a b = false) (k : ¬ a = b) : bLess b a = true := by
  cases e : bLess b a
  · exfalso; apply k
    rw [bLess_dec, decide_eq_false_iff_not] at h e
    exact toList_inj (List.le_antisymm (List.not_lt.1 e) (List.not_lt.1 h))
  · rfl
def ltB (n : ByteArray) (x : Leaf) : Bool := bLess x.name n
def gtB (n : ByteArray) (x : Leaf) : Bool := !(bLess x.name n || x.name.toList == n.toList)
theorem gt_yes {n : ByteArray} {x : Leaf} (h : gtB n x = true) : (Op.bytesLess x.name.toList n.toList || x.name.toList == n.toList) = false := by
  unfold gtB bLess at h; revert h; generalize (Op.bytesLess x.name.toList n.toList || x.name.toList == n.toList) = q; cases q <;> simp
theorem gt_no {n : ByteArray} {x : Leaf} (h : gtB n x = false) : (Op.bytesLess x.name.toList n.toList || x.name.toList == n.toList) = true := by
  unfold gtB bLess at h; revert h; generalize (Op.bytesLess x.name.toList n.toList || x.name.toList == n.toList) = q; cases q <;> simp
def putSpec (xs : List Leaf) (n v : ByteArray) : List Leaf := (leafWithout xs n).filter (ltB n) ++ [⟨n, v⟩] ++ (leafWithout xs n).filter (gtB n)
def leafPut (xs : List Leaf) (n v : ByteArray) : List Leaf × Bool := if leavesOk xs && leavesOk (putSpec xs n v) then (putSpec xs n v, true) else (xs, false)
def leafDrop (xs : List Leaf) (n : ByteArray) : List Leaf × Bool := if (leafGet xs n).2 && leavesOk xs then (leafWithout xs n, true) else (xs, false)
def putS (n v : ByteArray) (st : List Leaf × Bool) (l : Leaf) : List Leaf × Bool :=
  let st1 := if !st.2 && !(bLess l.name n) then (st.1 ++ [⟨n, v⟩], true) else st
  if l.name = n then st1 else (st1.1 ++ [l], st1.2)
def putE (n v : ByteArray) (r : List Leaf × Bool) : List Leaf := if r.2 then r.1 else r.1 ++ [⟨n, v⟩]
def Srt (xs : List Leaf) : Prop := List.Pairwise (fun a b => bLess a.name b.name = true) xs
theorem srt_of {xs : List Leaf} (h : leavesOk xs = true) : Srt xs := by
  unfold leavesOk at h
  rw [Bool.and_eq_true] at h
  have step : ∀ j (hj : j + 1 < xs.length), bLess xs[j].name xs[j + 1].name = true := by
    intro j hj
    have := allN_get h.1 hj
    rw [leafP_at hj, prevLess_succ hj] at this
    simp only [Bool.and_eq_true] at this
    exact this.2
  have all : ∀ j (hj : j < xs.length) i (hij : i < j), bLess (xs[i]'(by omega)).name xs[j].name = true := by
    intro j
    induction j with
    | zero => intro _ i hi; omega
    | succ j ih =>
      intro hj i hi
      by_cases e : i = j
      · subst e; exact step i hj
      · exact bLess_trans (ih (by omega) i (by omega)) (step j hj)
  rw [Srt, List.pairwise_iff_getElem]
  intro i j hi hj hij
  exact all j hj i hij
theorem putS_true (n v : ByteArray) : ∀ (xs acc : List Leaf), xs.foldl (putS n v) (acc, true) = (acc ++ leafWithout xs n, true)
  | [], acc => by simp [leafWithout]
  | x :: xs, acc => by
    rw [List.foldl_cons]
    by_cases h : x.name = n
    · have e : putS n v (acc, true) x = (acc, true) := by simp [putS, h]
      rw [e, putS_true n v xs acc]; simp [leafWithout, nameNe, h]
    · have e : putS n v (acc, true) x = (acc ++ [x], true) := by simp [putS, h]
      rw [e, putS_true n v xs _]; simp [leafWithout, nameNe, h]
theorem gtB_of {n : ByteArray} {x : Leaf} (h : bLess n x.name = true) : gtB n x = true := by
  unfold gtB
  rw [bLess_asymm h, str_ne (fun e => by rw [e, bLess_irrefl] at h; cases h)]; rfl
theorem ltB_not {n : ByteArray} {x : Leaf} (h : bLess n x.name = true) : ltB n x = false := bLess_asymm h
theorem above {n : ByteArray} {xs : List Leaf} (h : ∀ x ∈ xs, bLess n x.name = true) : (leafWithout xs n).filter (ltB n) = [] ∧ (leafWithout xs n).filter (gtB n) = leafWithout xs n := by
  constructor
  · rw [List.filter_eq_nil_iff]
    intro x hx
    have hx' : x ∈ xs := (List.mem_filter.1 hx).1
    rw [ltB_not (h x hx')]; simp
  · rw [List.filter_eq_self]
    intro x hx
    exact gtB_of (h x (List.mem_filter.1 hx).1)
theorem put_eq (n v : ByteArray) : ∀ (xs acc : List Leaf), Srt xs → putE n v (xs.foldl (putS n v) (acc, false)) = acc ++ putSpec xs n v
  | [], acc, _ => by simp [putE, putSpec, leafWithout]
  | x :: xs, acc, h => by
    unfold Srt at h
    rw [List.pairwise_cons] at h
    obtain ⟨h1, h2⟩ := h
    rw [List.foldl_cons]
    cases hb : bLess x.name n
    · by_cases e : x.name = n
      · have ha : ∀ y ∈ xs, bLess n y.name = true := fun y hy => by rw [← e]; exact h1 y hy
        have es : putS n v (acc, false) x = (acc ++ [⟨n, v⟩], true) := by subst e; simp [putS, hb]
        obtain ⟨a1, a2⟩ := above ha
        have ew : leafWithout (x :: xs) n = leafWithout xs n := by simp [leafWithout, nameNe, e]
        rw [es, putS_true, putE, putSpec, ew, a1, a2]; simp
      · have hx : bLess n x.name = true := bLess_tri hb e
        have ha : ∀ y ∈ xs, bLess n y.name = true := fun y hy => bLess_trans hx (h1 y hy)
        have es : putS n v (acc, false) x = (acc ++ [⟨n, v⟩] ++ [x], true) := by simp [putS, hb, e]
        obtain ⟨a1, a2⟩ := above ha
        have ew : leafWithout (x :: xs) n = x :: leafWithout xs n := by simp [leafWithout, nameNe, e]
        rw [es, putS_true, putE, putSpec, ew, List.filter_cons, List.filter_cons, ltB_not hx, gtB_of hx, a1, a2]; simp
    · have e : ¬ x.name = n := fun e => by rw [e, bLess_irrefl] at hb; cases hb
      have es : putS n v (acc, false) x = (acc ++ [x], false) := by simp [putS, hb, e]
      have ew : leafWithout (x :: xs) n = x :: leafWithout xs n := by simp [leafWithout, nameNe, e]
      have hl : ltB n x = true := hb
      have hg : gtB n x = false := by unfold gtB; rw [hb]; rfl
      rw [es, put_eq n v xs _ h2, putSpec, putSpec, ew, List.filter_cons, List.filter_cons, hl, hg]; simp
theorem putSpec_len (xs : List Leaf) (n v : ByteArray) : (putSpec xs n v).length ≤ 2 * xs.length + 1 := by
  unfold putSpec leafWithout
  have h1 := List.length_filter_le (nameNe n) xs
  have h2 := List.length_filter_le (ltB n) (xs.filter (nameNe n))
  have h3 := List.length_filter_le (gtB n) (xs.filter (nameNe n))
  simp only [List.length_append, List.length_cons, List.length_nil]; omega
def applyChange (xs : List Leaf) (u : Change) : List Leaf := if u.value = ⟨#[]⟩ then (leafDrop xs u.name).1 else (leafPut xs u.name u.value).1
def applyAll (xs : List Leaf) (us : List Change) : List Leaf := us.foldl applyChange xs
theorem leavesOk_len {xs : List Leaf} (h : leavesOk xs = true) : xs.length ≤ 24 := by
  unfold leavesOk at h; rw [Bool.and_eq_true] at h; simpa using h.2
theorem leafPut_len (xs : List Leaf) (n v : ByteArray) : (leafPut xs n v).1.length ≤ xs.length + 24 := by
  unfold leafPut
  split
  · rename_i h; rw [Bool.and_eq_true] at h; have := leavesOk_len h.2; show (putSpec xs n v).length ≤ _; omega
  · show xs.length ≤ _; omega
theorem leafDrop_len (xs : List Leaf) (n : ByteArray) : (leafDrop xs n).1.length ≤ xs.length := by
  unfold leafDrop
  split
  · exact List.length_filter_le _ _
  · exact Nat.le_refl _
theorem leafPut_len2 (xs : List Leaf) (n v : ByteArray) {B : Nat} (h : xs.length ≤ B) (hB : 24 ≤ B) : (leafPut xs n v).1.length ≤ B := by
  unfold leafPut
  split
  · rename_i h; rw [Bool.and_eq_true] at h; have := leavesOk_len h.2; show (putSpec xs n v).length ≤ _; omega
  · exact h
theorem applyChange_len (xs : List Leaf) (u : Change) {B : Nat} (h : xs.length ≤ B) (hB : 24 ≤ B) : (applyChange xs u).length ≤ B := by
  unfold applyChange; split
  · exact Nat.le_trans (leafDrop_len _ _) h
  · exact leafPut_len2 _ _ _ h hB
theorem applyAll_len (us : List Change) : ∀ (xs : List Leaf) {B : Nat} (_ : xs.length ≤ B) (_ : 24 ≤ B), (applyAll xs us).length ≤ B := by
  induction us with
  | nil => intro xs B h _; exact h
  | cons u us ih => intro xs B h hB; exact ih _ (applyChange_len xs u h hB) hB
end Go.Proofs.YtojbehmbeoemgaaDoor
