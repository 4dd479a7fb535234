/- A part of the proof: what the laws need of it. -/
import Derived.Test.YtgllafgpmenjjaaGreatDoorHReL25xYg
import Derived.Test.YtgllafgpmenjjaaGreatDoorHReL23xSkS
import Derived.Test.YtgllafgpmenjjaaGreatDoorHReL26xVd
import Derived.Test.YtgllafgpmenjjaaGreatDoorHReHp
import Derived.Test.YtgllafgpmenjjaaGreatDoorHReL19xSg
set_option linter.unusedVariables false
set_option linter.unusedSimpArgs false
set_option linter.unusedVariables false
set_option linter.unusedSimpArgs false
namespace Go.Proofs.YtgllafgpmenjjaaGreatDoor
open Go.RowKit Lay Mk
def sidesR (n : Int) (ix : Nat) (l : List Leaf) : Nat → Nat → List ByteArray
  | _, 0 => []
  | j, k + 1 => sideAt n ix l j :: sidesR n ix l (j + 1) k
theorem sidesD_add (n : Int) (ix : Nat) (l : List Leaf) : ∀ b a, sidesD n ix l (a + b) = sidesD n ix l a ++ sidesR n ix l a b
  | 0, a => by simp [sidesR]
  | b + 1, a => by
    rw [show a + (b + 1) = a + 1 + b by omega, sidesD_add n ix l b (a + 1)]
    show (sidesD n ix l a ++ [sideAt n ix l a]) ++ _ = _
    rw [List.append_assoc]; rfl
theorem sidesR_len (n : Int) (ix : Nat) (l : List Leaf) : ∀ k j, (sidesR n ix l j k).length = k
  | 0, _ => rfl
  | k + 1, j => by show (sidesR n ix l (j + 1) k).length + 1 = k + 1; rw [sidesR_len n ix l k]
theorem below_sub {d p q : Nat} {l : List Leaf} (hq : q / 2 = p) (h : (belowL (d + 1) p l).length = 0) : (belowL d q l).length = 0 := by
  have h1 : belowL (d + 1) p l = [] := List.eq_nil_of_length_eq_zero h
  have h2 : belowL d q l = [] := by
    unfold belowL at h1 ⊢
    rw [List.filter_eq_nil_iff] at h1 ⊢
    intro x hx hc
    refine h1 x hx ?_
    have hc : indexOf x.name / 2 ^ d = q := by simpa using hc
    have : indexOf x.name / 2 ^ (d + 1) = p := by rw [Nat.pow_succ, ← Nat.div_div_eq_div_mul, hc]; exact hq
    simpa using this
  rw [h2]; rfl
theorem node_two (n : Int) (d p : Nat) (l : List Leaf) : tagHash 3 [nodeD n d (2 * p) l, nodeD n d (2 * p + 1) l] n = nodeD n (d + 1) p l := by
  by_cases h : (belowL (d + 1) p l).length = 0
  · rw [node_none n (below_sub (q := 2 * p) (by omega) h), node_none n (below_sub (q := 2 * p + 1) (by omega) h), node_none n h]; rfl
  · show _ = (if _ then _ else _)
    rw [if_neg h]
theorem fold_node (n : Int) (ix : Nat) (l : List Leaf) : ∀ k j, j + k ≤ 8 → foldH n ix (8 - j) (nodeD n j (ix / 2 ^ j) l) (sidesR n ix l j k) = nodeD n (j + k) (ix / 2 ^ (j + k)) l
  | 0, j, _ => rfl
  | k + 1, j, h => by
    have ih := fold_node n ix l k (j + 1) (by omega)
    show foldH n ix (8 - j - 1) (tagHash 3 (foldPair ix (8 - j - 1) (nodeD n j (ix / 2 ^ j) l) (sideAt n ix l j)) n) (sidesR n ix l (j + 1) k) = _
    rw [show j + (k + 1) = j + 1 + k by omega, ← ih, show 8 - j - 1 = 8 - (j + 1) by omega]
    congr 1
    have hb : bitOf ix (8 - (j + 1)) = ix / 2 ^ j % 2 := by unfold bitOf; rw [show 7 - (8 - (j + 1)) = j by omega]
    have hq : ix / 2 ^ (j + 1) = ix / 2 ^ j / 2 := by rw [Nat.pow_succ, Nat.div_div_eq_div_mul]
    rw [hq, ← node_two]
    unfold sideAt
    generalize hqq : ix / 2 ^ j = q at hb
    rcases Nat.mod_two_eq_zero_or_one q with e | e
    · rw [pair_zero2 (by omega), xor_even e, show 2 * (q / 2) = q by omega]
    · rw [pair_one2 (by omega), xor_odd e, show 2 * (q / 2) + 1 = q by omega, show 2 * (q / 2) = q - 1 by omega]
theorem emptyD_16 : ∀ d, (emptyD 16 d).size = 16
  | 0 => tagHash_size (by decide)
  | d + 1 => tagHash_size (tag_two (by decide) (by rw [emptyD_16 d]; omega) (by rw [emptyD_16 d]; omega))
theorem node_16 (l : List Leaf) : ∀ d p, (nodeD 16 d p l).size = 16
  | 0, p => by show (cutDigest (bucketTx (belowL 0 p l)) 16).size = 16; rw [cutDigest_size (by omega)]; rfl
  | d + 1, p => by
    rw [← node_two]
    exact tagHash_size (tag_two (by decide) (by rw [node_16 l d]; omega) (by rw [node_16 l d]; omega))
theorem sidesD_16 (ix : Nat) (l : List Leaf) : ∀ j, ∀ s ∈ sidesD 16 ix l j, s.size = 16
  | 0, s, h => by cases h
  | j + 1, s, h => by
    rcases List.mem_append.1 (show s ∈ sidesD 16 ix l j ++ [sideAt 16 ix l j] from h) with h | h
    · exact sidesD_16 ix l j s h
    · have h : s = sideAt 16 ix l j := by simpa using h
      rw [h]; exact node_16 _ _ _
theorem wide_mem {l : List ByteArray} (h : ∀ s ∈ l, s.size = 16) : wideG l 16 = true := wideG_good (fun k hk => by rw [h _ (List.getElem_mem hk)]; rfl)
theorem last_fold (ix : Nat) : ∀ (l : List ByteArray) (m : Nat) (t : ByteArray), (∀ s ∈ l, s.size = 16) → ∃ u, (t :: foldL 16 ix m (cutDigest t 16) l).getLast? = some u ∧ cutDigest u 16 = foldH 16 ix m (cutDigest t 16) l
  | [], m, t, _ => ⟨t, rfl, rfl⟩
  | s :: r, m, t, h => by
    have hs := h s (List.mem_cons_self ..)
    have hok : tagOk 3 (foldPair ix (m - 1) (cutDigest t 16) s) = true := pair_ok (cutDigest_le _ _) (by omega)
    obtain ⟨u, h1, h2⟩ := last_fold ix r (m - 1) (tagText 3 (foldPair ix (m - 1) (cutDigest t 16) s)) (fun x hx => h x (List.mem_cons_of_mem _ hx))
    rw [tagHash_cut hok] at h1 h2
    refine ⟨u, ?_, h2⟩
    rw [List.getLast?_cons]
    show some ((tagText 3 (foldPair ix (m - 1) (cutDigest t 16) s) :: foldL 16 ix (m - 1) (tagHash 3 (foldPair ix (m - 1) (cutDigest t 16) s) 16) r).getLast?.getD t) = some u
    rw [h1]; rfl
theorem hash_fold {name : ByteArray} {p : Proof} (h : proofOk name p 16 = true) (hs : ∀ s ∈ p.sides, s.size = 16) : proofHash name p 16 = foldH 16 (indexOf name) 8 (cutDigest (bucketTx p.bucket) 16) p.sides := by
  obtain ⟨u, h1, h2⟩ := last_fold (indexOf name) p.sides 8 (bucketTx p.bucket) hs
  unfold proofHash proofTexts
  rw [if_pos h, h1]
  exact h2
def pastProof (k : Int) (name : ByteArray) (l : List Leaf) : Proof := ⟨bucketOf l (indexOf name), sidesD 16 (indexOf name) l (8 - k.toNat)⟩
def pastHead (house : Int) (hs : List Head) (l : List Leaf) : Head := nextHead hs house (nodeD 16 8 0 l)
def pastWhole (k house : Int) (name : ByteArray) (hs : List Head) (l : List Leaf) : Whole := ⟨pastProof k name l, (sidesD 16 (indexOf name) l 8).drop (8 - k.toNat), sealOf (seedOf house) (pastHead house hs l), []⟩
def three (f : Int → ByteArray) : List ByteArray := [f 0, f 1, f 2]
def pastRoots : List ByteArray := three (fun i => poolRoot (poolOf (seedOf i)))
theorem pastRoots_len : pastRoots.length = 3 := rfl
theorem sidesD_8 (ix : Nat) (l : List Leaf) {k : Nat} (hk : k ≤ 8) : sidesD 16 ix l 8 = sidesD 16 ix l (8 - k) ++ sidesR 16 ix l (8 - k) k := by
  rw [← sidesD_add, show 8 - k + k = 8 by omega]
theorem tops_eq (ix : Nat) (l : List Leaf) {k : Nat} (hk : k ≤ 8) : (sidesD 16 ix l 8).drop (8 - k) = sidesR 16 ix l (8 - k) k := by
  rw [sidesD_8 ix l hk, List.drop_append_of_le_length (by rw [sidesD_len]; exact Nat.le_refl _), List.drop_of_length_le (by rw [sidesD_len]; exact Nat.le_refl _), List.nil_append]
theorem bucket_same (name : ByteArray) (l : List Leaf) : sameIx name (bucketOf l (indexOf name)) = true := by
  unfold sameIx bucketOf
  rw [List.all_eq_true]
  intro x hx
  have := (List.mem_filter.1 hx).2
  simp only [decide_eq_true_eq] at this ⊢
  omega
theorem pastProof_ok {k : Int} {name : ByteArray} {l : List Leaf} (hk : 0 ≤ k ∧ k ≤ 2) (hn : nameOk name = true) (hl : leavesOk l = true) : proofOk name (pastProof k name l) 16 = true := by
  have h1 : leavesOk (bucketOf l (indexOf name)) = true := leavesOk_filter hl _
  have h2 : (sidesD 16 (indexOf name) l (8 - k.toNat)).length ≤ 8 := by rw [sidesD_len]; omega
  unfold proofOk pastProof
  simp only
  rw [hn, h1, decide_eq_true h2, wide_mem (sidesD_16 _ _ _), bucket_same]; rfl
theorem bucket_cut (name : ByteArray) (l : List Leaf) : cutDigest (bucketTx (bucketOf l (indexOf name))) 16 = nodeD 16 0 (indexOf name / 2 ^ 0) l := by
  show _ = bucketHash (belowL 0 _ l) 16
  unfold bucketHash belowL bucketOf
  congr 2
  apply List.filter_congr
  intro x _
  rw [Nat.pow_zero, Nat.div_one, Nat.div_one, decide_eq_decide]
  omega
theorem pastRoot {k : Int} {name : ByteArray} {l : List Leaf} (hk : 0 ≤ k ∧ k ≤ 2) (hn : nameOk name = true) (hl : leavesOk l = true) : foldUp 16 (proofHash name (pastProof k name l) 16) (indexOf name) k ((sidesD 16 (indexOf name) l 8).drop (8 - k.toNat)) = nodeD 16 8 0 l := by
  obtain ⟨m, rfl⟩ : ∃ m : Nat, k = m := ⟨k.toNat, by omega⟩
  rw [hash_fold (pastProof_ok hk hn hl) (sidesD_16 _ _ _), Int.toNat_natCast, tops_eq _ _ (by omega)]
  have hu : (inB (m : Int) 0 8 && decide ((((sidesR 16 (indexOf name) l (8 - m) m).length : Nat) : Int) ≤ (m : Int))) = true := by
    rw [sidesR_len]; simp [inB]; omega
  unfold foldUp
  rw [if_pos hu, Int.toNat_natCast]
  show foldH 16 (indexOf name) m (foldH 16 (indexOf name) 8 (cutDigest (bucketTx (bucketOf l (indexOf name))) 16) (sidesD 16 (indexOf name) l (8 - (m : Int).toNat))) _ = _
  rw [Int.toNat_natCast, bucket_cut]
  have h1 := fold_node 16 (indexOf name) l (8 - m) 0 (by omega)
  have e : sidesD 16 (indexOf name) l (8 - m) = sidesR 16 (indexOf name) l 0 (8 - m) := by
    have := sidesD_add 16 (indexOf name) l (8 - m) 0
    rw [Nat.zero_add] at this
    rw [this]; rfl
  rw [e]
  rw [Nat.zero_add, Nat.sub_zero] at h1
  rw [h1]
  have h2 := fold_node 16 (indexOf name) l m (8 - m) (by omega)
  rw [show 8 - (8 - m) = m by omega, show 8 - m + m = 8 by omega] at h2
  rw [h2]
  have : indexOf name < 256 := UInt8.toNat_lt _
  rw [show indexOf name / 2 ^ 8 = 0 by omega]
theorem lastHash_16 {hs : List Head} {house : Int} (hc : chainOk hs house = true) (h0 : hs.length ≠ 0) : (lastHash hs).size = 16 := by
  obtain ⟨k, hk⟩ : ∃ k, hs.length = k + 1 := ⟨hs.length - 1, by omega⟩
  rw [lastHash_at hk]
  have h1 := allN_get hc (show k < hs.length by omega)
  rw [chainP_at (by omega)] at h1
  simp only [Bool.and_eq_true] at h1
  unfold headHash
  rw [if_pos h1.1.1.1]
  have hb := headOk_b h1.1.1.1
  refine tagHash_size (tag_one (by decide) ?_)
  unfold headTx
  rw [ByteArray.size_append, ByteArray.size_append, bs_size]
  show 2 + _ + _ ≤ 200
  omega
theorem nextHead_ok {hs : List Head} {house : Int} {root : ByteArray} (hh : 0 ≤ house ∧ house ≤ 2) (hc : chainOk hs house = true) (hl : hs.length ≤ 3) (hr : root.size = 16) : headOk (nextHead hs house root) = true := by
  unfold headOk nextHead
  have a1 : inB house 0 2 = true := by simp [inB]; omega
  have a2 : inB ((hs.length : Int) + 1) 1 4 = true := by simp [inB]; omega
  simp only [a1, a2, hr]
  by_cases he : hs.length = 0
  · rw [if_pos (by omega), lastHash_nil he]; simp
  · rw [if_neg (by omega), lastHash_16 hc he]; simp
theorem chain_take {hs : List Head} {house : Int} (hc : chainOk hs house = true) (k : Nat) : chainOk (hs.take k) house = true := by
  refine chainOk_end (fun i hi => ?_)
  have hi2 : i < hs.length := by rw [List.length_take] at hi; omega
  have hi3 : i < k := by rw [List.length_take] at hi; omega
  have h1 := allN_get hc hi2
  rw [chainP_at hi2] at h1
  rw [chainP_at hi, List.getElem_take, List.take_take, show min i k = i by omega]
  exact h1
theorem chain_snoc {hs : List Head} {house : Int} {root : ByteArray} (hh : 0 ≤ house ∧ house ≤ 2) (hc : chainOk hs house = true) (hl : hs.length ≤ 3) (hr : root.size = 16) : chainOk (hs ++ [nextHead hs house root]) house = true := by
  refine chainOk_end (fun i hi => ?_)
  by_cases h : i < hs.length
  · have h1 := allN_get hc h
    rw [chainP_at h] at h1
    rw [chainP_at hi, List.getElem_append_left h, List.take_append_of_le_length (by omega)]
    exact h1
  · have hie : i = hs.length := by rw [List.length_append] at hi; simp at hi; omega
    subst hie
    rw [chainP_at hi, List.getElem_append_right (Nat.le_refl _), List.take_append_of_le_length (Nat.le_refl _), List.take_length]
    simp only [Nat.sub_self, List.getElem_cons_zero]
    rw [nextHead_ok hh hc hl hr]
    simp [nextHead]
theorem topOf_16 : ∀ (m : Nat) (l : List ByteArray), l.length = 2 ^ m → all16 l → (topOf 16 m l).size = 16
  | 0, l, hl, h => h 0 (by rw [hl]; decide)
  | m + 1, l, hl, h => topOf_16 m (aboveL 16 l) (by rw [aboveL_len, hl, Nat.pow_succ]; omega) (all16_up h)
theorem poolRoot_16 {seed : ByteArray} (h : seed.size ≤ 100) : (poolRoot (poolOf seed)).size = 16 := by
  have h1 : (poolOf seed).length = 16 := poolTo_len seed 16
  unfold poolRoot
  rw [if_pos h1]
  exact topOf_16 4 _ h1 (pool_16 h)
theorem top_le {l : List ByteArray} (h : l.length = 2) : ((aboveL 16 l).getD 0 ⟨#[]⟩).size ≤ 32 := by
  unfold aboveL
  rw [h, aboveT_at 16 l 1 0 (by omega)]
  exact tagHash_le _ _ _
theorem topOf_le (l : List ByteArray) (h : l.length = 16) : (topOf 16 4 l).size ≤ 32 := by
  have e : topOf 16 4 l = (aboveL 16 (aboveL 16 (aboveL 16 (aboveL 16 l)))).getD 0 ⟨#[]⟩ := rfl
  rw [e]
  exact top_le (by rw [aboveL_len, aboveL_len, aboveL_len, h])
theorem poolRoot_le (l : List ByteArray) (h : l.length = 16) : (poolRoot l).size ≤ 32 := by
  unfold poolRoot
  rw [if_pos h]
  exact topOf_le l h
theorem poolRoot_size (seed : ByteArray) : (poolRoot (poolOf seed)).size ≤ 32 := poolRoot_le _ (poolTo_len seed 16)
theorem three_mem {f : Int → ByteArray} {m : Nat} (h : ∀ i, (f i).size = m) : ∀ s ∈ three f, s.size = m := by
  intro s hs
  simp only [three, List.mem_cons, List.not_mem_nil, or_false] at hs
  rcases hs with rfl | rfl | rfl <;> exact h _
theorem pastRoots_16 : ∀ s ∈ pastRoots, s.size = 16 := three_mem (fun i => poolRoot_16 (seedOf_le i))
theorem three_at (f : Int → ByteArray) {h : Int} (hh : 0 ≤ h ∧ h ≤ 2) : (three f).getD h.toNat ⟨#[]⟩ = f h := by
  rcases (show h = 0 ∨ h = 1 ∨ h = 2 by omega) with rfl | rfl | rfl <;> rfl
theorem pastRoots_at {house : Int} (hh : 0 ≤ house ∧ house ≤ 2) : pastRoots.getD house.toNat ⟨#[]⟩ = poolRoot (poolOf (seedOf house)) := by
  unfold pastRoots
  rw [three_at _ hh]
def pastTrust (k : Int) : Trust := ⟨pastRoots, k, 0⟩
theorem past_verify {k house : Int} {name : ByteArray} {hs : List Head} {l : List Leaf} (hk : 0 ≤ k ∧ k ≤ 2) (hh : 0 ≤ house ∧ house ≤ 2) (hn : nameOk name = true) (hl : leavesOk l = true) (hc : chainOk hs house = true) (h3 : hs.length ≤ 3) :
    verify (pastTrust k) house name ((hs.length : Int) + 1) (pastWhole k house name hs l) = ((leafGet (bucketOf l (indexOf name)) name).1, (leafGet (bucketOf l (indexOf name)) name).2, 0) := by
  have ht : trustOk (pastTrust k) = true := by
    unfold trustOk pastTrust
    simp only
    rw [wide_mem pastRoots_16, pastRoots_len]
    simp [inB]; omega
  have hf : wholeForm (pastTrust k) house name (pastWhole k house name hs l) = true := by
    unfold wholeForm
    rw [ht, show (pastWhole k house name hs l).proof = pastProof k name l from rfl, pastProof_ok hk hn hl]
    have h1 : inB house 0 (((pastTrust k).roots.length : Int) - 1) = true := by
      rw [show (pastTrust k).roots = pastRoots from rfl, pastRoots_len]
      simp [inB]; omega
    have h2 : ((pastProof k name l).sides.length : Int) = 8 - (pastTrust k).k := by
      show ((sidesD 16 (indexOf name) l (8 - k.toNat)).length : Int) = 8 - k
      rw [sidesD_len]; omega
    have h4 : ((pastWhole k house name hs l).tops.length : Int) = (pastTrust k).k := by
      show (((sidesD 16 (indexOf name) l 8).drop (8 - k.toNat)).length : Int) = k
      rw [List.length_drop, sidesD_len]; omega
    have h5 : wideG (pastWhole k house name hs l).tops 16 = true := wide_mem (fun s hs => sidesD_16 _ _ _ s (List.mem_of_mem_drop hs))
    rw [h1, decide_eq_true h2, decide_eq_true h4, h5]; rfl
  have hho : headOk (pastHead house hs l) = true := nextHead_ok hh hc h3 (node_16 _ _ _)
  refine (ver_0 hf rfl rfl ?_ ?_ ?_).trans ?_
  rotate_right
  · rfl
  · show sealOk (pastRoots.getD house.toNat ⟨#[]⟩) (sealOf (seedOf house) (pastHead house hs l)) = true
    rw [pastRoots_at hh]
    exact seal_ok (seedOf_le house) hho
  · exact pastRoot hk hn hl
  · show ¬ ((0 : Nat) : Int) < 0
    omega
structure Made (k house : Int) (name : ByteArray) (xs : List Whole) (hs : List Head) : Prop where
  len : hs.length = xs.length
  most : hs.length ≤ 4
  chain : chainOk hs house = true
  at_ : ∀ i (hi : i < xs.length) (h2 : i < hs.length), ∃ l, leavesOk l = true ∧ xs[i] = pastWhole k house name (hs.take i) l ∧ hs[i] = pastHead house (hs.take i) l
theorem Made.nil (k house : Int) (name : ByteArray) : Made k house name [] [] := ⟨rfl, by decide, rfl, fun i hi => absurd hi (Nat.not_lt_zero _)⟩
theorem Made.snoc {k house : Int} {name : ByteArray} {xs : List Whole} {hs : List Head} (h : Made k house name xs hs) (hh : 0 ≤ house ∧ house ≤ 2) {l : List Leaf} (hl : leavesOk l = true) (h3 : hs.length ≤ 3) : Made k house name (xs ++ [pastWhole k house name hs l]) (hs ++ [pastHead house hs l]) := by
  have hlen := h.len
  refine ⟨by simp [h.len], by simp; omega, chain_snoc hh h.chain h3 (node_16 _ _ _), fun i hi h2 => ?_⟩
  by_cases hlt : i < xs.length
  · obtain ⟨m, h4, h5, h6⟩ := h.at_ i hlt (by omega)
    refine ⟨m, h4, ?_, ?_⟩
    · rw [List.getElem_append_left hlt, List.take_append_of_le_length (by omega)]; exact h5
    · rw [List.getElem_append_left (by omega), List.take_append_of_le_length (by omega)]; exact h6
  · have hie : i = xs.length := by rw [List.length_append] at hi; simp at hi; omega
    subst hie
    refine ⟨l, hl, ?_, ?_⟩
    · rw [List.getElem_append_right (Nat.le_refl _)]
      simp only [Nat.sub_self, List.getElem_cons_zero]
      rw [← hlen, List.take_append_of_le_length (Nat.le_refl _), List.take_length]
    · rw [List.getElem_append_right (by omega)]
      simp only [hlen, Nat.sub_self, List.getElem_cons_zero]
      rw [← hlen, List.take_append_of_le_length (Nat.le_refl _), List.take_length]
section
variable {k house : Int} {name : ByteArray} {xs : List Whole} {hs : List Head}
theorem Made.head (h : Made k house name xs hs) {i : Nat} (hi : i < xs.length) : xs[i].seal_.head = hs[i]'(by rw [h.len]; exact hi) ∧ xs[i].seal_.head.epoch = (i : Int) + 1 ∧ xs[i].seal_.head.house = house := by
  have h2 : i < hs.length := by rw [h.len]; exact hi
  obtain ⟨l, -, h5, h6⟩ := h.at_ i hi h2
  have ht : (hs.take i).length = i := by rw [List.length_take]; omega
  refine ⟨by rw [h5, h6]; rfl, ?_, by rw [h5]; rfl⟩
  rw [h5]
  show ((hs.take i).length : Int) + 1 = _
  rw [ht]
theorem Made.code (h : Made k house name xs hs) (hk : 0 ≤ k ∧ k ≤ 2) (hh : 0 ≤ house ∧ house ≤ 2) (hn : nameOk name = true) {i : Nat} (hi : i < xs.length) : verify (pastTrust k) house name ((i : Int) + 1) xs[i] = ((leafGet xs[i].proof.bucket name).1, (leafGet xs[i].proof.bucket name).2, 0) := by
  have h2 : i < hs.length := by rw [h.len]; exact hi
  have hm := h.most
  obtain ⟨l, h4, h5, -⟩ := h.at_ i hi h2
  have ht : (hs.take i).length = i := by rw [List.length_take]; omega
  have := past_verify (hs := hs.take i) hk hh hn h4 (chain_take h.chain i) (by omega)
  rw [ht] at this
  rw [h5, this]; rfl
theorem Made.prev (h : Made k house name xs hs) {i : Nat} (hi : i + 1 < xs.length) : prevBad xs (i + 1) = false := by
  have h2 : i + 1 < hs.length := by rw [h.len]; exact hi
  obtain ⟨l, -, h5, -⟩ := h.at_ (i + 1) hi h2
  rw [prevBad_at hi, (h.head (show i < xs.length by omega)).1, h5]
  show (!((lastHash (hs.take (i + 1))).toList == (headHash hs[i]).toList)) = false
  rw [last_take (show i < hs.length by omega)]
  simp
theorem Made.past (h : Made k house name xs hs) (hk : 0 ≤ k ∧ k ≤ 2) (hh : 0 ≤ house ∧ house ≤ 2) (hn : nameOk name = true) (h0 : xs.length ≠ 0) : checkPast (pastTrust k) house name xs = (pastV (pastTrust k) house name xs xs.length, 0) :=
  cp_ok h0 (fun i hi => by rw [codeAt_at hi, h.code hk hh hn hi]) (fun i h1 hi => by
    obtain ⟨j, rfl⟩ : ∃ j, i = j + 1 := ⟨i - 1, by omega⟩
    exact h.prev hi)
theorem Made.value (h : Made k house name xs hs) (hk : 0 ≤ k ∧ k ≤ 2) (hh : 0 ≤ house ∧ house ≤ 2) (hn : nameOk name = true) {i : Nat} (hi : i < xs.length) {m : Nat} (hm : i < m) : (pastV (pastTrust k) house name xs m).getD i ⟨#[]⟩ = (leafGet xs[i].proof.bucket name).1 := by
  unfold pastV
  rw [List.getD_eq_getElem?_getD, List.getElem?_map, List.getElem?_range hm]
  simp only [Option.map_some, Option.getD_some, List.getElem?_eq_getElem hi]
  rw [h.code hk hh hn hi]
theorem verify_off {t : Trust} {house : Int} {name : ByteArray} {ep : Int} {x : Whole} (h : x.seal_.head.epoch ≠ ep) : (verify t house name ep x).2.2 ≠ 0 := by
  unfold verify
  split
  · simp
  · rw [if_pos (.inr h)]; simp
theorem Made.tail (h : Made k house name xs hs) {t : Trust} (h1 : 1 < xs.length) : (checkPast t house name (xs.drop 1)).2 ≠ 0 := by
  have hl : 0 < (xs.drop 1).length := by rw [List.length_drop]; omega
  have hc : codeAt t house name (xs.drop 1) 0 ≠ 0 := by
    rw [codeAt_at hl]
    refine verify_off ?_
    rw [List.getElem_drop, (h.head (show 1 + 0 < xs.length by omega)).2.1]
    omega
  rw [cp_bad hl (fun i hi => absurd hi (Nat.not_lt_zero _)) hc]
  exact hc
end
end Go.Proofs.YtgllafgpmenjjaaGreatDoor
