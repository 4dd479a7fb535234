/- A part of the proof: what the laws need of it. -/
import Derived.Test.YtgllafgpmenjjaaGreatDoorHReL31xZq
import Derived.Test.YtgllafgpmenjjaaGreatDoorHReHp
import Derived.Test.YtgllafgpmenjjaaGreatDoorHReL21xPr
set_option linter.unusedVariables false
set_option linter.unusedSimpArgs false
set_option linter.unusedVariables false
set_option linter.unusedSimpArgs false
namespace Go.Proofs.YtgllafgpmenjjaaGreatDoor
open Go.RowKit Lay Mk
theorem sameHd_self (h : Head) : sameHd h h = true := by unfold sameHd; simp
def sealsOf (xs : List Whole) : List Seal := xs.map (fun x => x.seal_)
theorem sealsOf_len (xs : List Whole) : (sealsOf xs).length = xs.length := List.length_map _
theorem sealsOf_at {xs : List Whole} {i : Nat} (hi : i < xs.length) : (sealsOf xs)[i]'(by rw [sealsOf_len]; exact hi) = xs[i].seal_ := List.getElem_map _
section
variable {t : Trust} {house : Int} {root : ByteArray} {hs : List Head} {L : List Seal} {name : ByteArray} {x : Whole} {v : ByteArray} {b : Bool}
theorem gen_hear (hr : linkRoot ⟨house, []⟩ t = root) (hv : verify t house name x.seal_.head.epoch x = (v, b, 0)) (hL : headL L = hs) (hn : 0 < L.length) (hc : chainOk hs house = true) (ha : ∀ j (hj : j < L.length), sealOk root L[j] = true) (he : x.seal_.head.epoch = (hs.length : Int)) (hx : hdIs hs (hs.length - 1) x.seal_.head = true) : clientHear ⟨house, []⟩ t L name x = (⟨house, hs⟩, v, b, 0) := by
  have h1 : hearAll ⟨house, []⟩ L = hs := by unfold hearAll; rw [hL]; rfl
  have h2 : 0 < hs.length := by rw [← hL]; unfold headL; rw [List.length_map]; exact hn
  refine (ch_5 (by show (verify t house name _ _).2.2 = 0; rw [hv]) ?_ ?_).trans ?_
  · rw [he]; show ¬ (hs.length : Int) ≤ ((0 : Nat) : Int); omega
  · rw [hr, lk_all ha, h1, decide_eq_true hn, show (Client.house ⟨house, []⟩) = house from rfl, hc, he, decide_eq_true (rfl : (hs.length : Int) = hs.length), hx]
    rfl
  · rw [h1]
    show ((⟨house, hs⟩ : Client), (verify t house name _ _).1, (verify t house name _ _).2.1, (0 : Int)) = _
    rw [hv]
theorem gen_gap (hv : verify t house name x.seal_.head.epoch x = (v, b, 0)) (he : 1 ≤ x.seal_.head.epoch) : clientHear ⟨house, []⟩ t [] name x = (⟨house, []⟩, ⟨#[]⟩, false, 3) :=
  ch_4 (by show (verify t house name _ _).2.2 = 0; rw [hv]) (by show ¬ _ ≤ ((0 : Nat) : Int); omega) (by rw [lk_all (fun j hj => absurd hj (Nat.not_lt_zero _))]; rfl)
theorem gen_again (hv : verify t house name x.seal_.head.epoch x = (v, b, 0)) (he : x.seal_.head.epoch = ((0 : Nat) : Int) + 1) (h0 : 0 < hs.length) (hd : sameHd hs[0] x.seal_.head = true) : clientHear ⟨house, hs⟩ t L name x = (⟨house, hs⟩, v, b, 0) := by
  refine (ch_3 (m := 0) (by show (verify t house name _ _).2.2 = 0; rw [hv]) he h0 hd).trans ?_
  show ((⟨house, hs⟩ : Client), (verify t house name _ _).1, (verify t house name _ _).2.1, (0 : Int)) = _
  rw [hv]
theorem gen_split (hv : verify t house name x.seal_.head.epoch x = (v, b, 0)) (he : x.seal_.head.epoch = ((0 : Nat) : Int) + 1) (h0 : 0 < hs.length) (hd : hs[0].root ≠ x.seal_.head.root) : clientHear ⟨house, hs⟩ t L name x = (⟨house, hs⟩, ⟨#[]⟩, false, 2) := by
  refine ch_2 (m := 0) (by show (verify t house name _ _).2.2 = 0; rw [hv]) he h0 ?_
  show sameHd hs[0] _ = false
  unfold sameHd
  rw [decide_eq_false hd]
  simp
end
section
variable {k house : Int} {name : ByteArray} {xs : List Whole} {hs : List Head}
theorem Made.heads (h : Made k house name xs hs) : headL (sealsOf xs) = hs := by
  have hl : (headL (sealsOf xs)).length = hs.length := by unfold headL sealsOf; rw [List.length_map, List.length_map, h.len]
  refine List.ext_getElem hl (fun i h1 h2 => ?_)
  have hi : i < xs.length := by rw [← h.len]; exact h2
  have h3 : (headL (sealsOf xs))[i] = xs[i].seal_.head := by
    show (List.map (fun s : Seal => s.head) (List.map (fun x : Whole => x.seal_) xs))[i]'h1 = _
    exact (List.getElem_map _).trans (congrArg _ (List.getElem_map _))
  exact h3.trans (h.head hi).1
theorem Made.sealed (h : Made k house name xs hs) (hh : 0 ≤ house ∧ house ≤ 2) {i : Nat} (hi : i < xs.length) : sealOk (poolRoot (poolOf (seedOf house))) xs[i].seal_ = true := by
  have h2 : i < hs.length := by rw [h.len]; exact hi
  have hm := h.most
  obtain ⟨l, h4, h5, -⟩ := h.at_ i hi h2
  rw [h5]
  show sealOk _ (sealOf (seedOf house) (pastHead house (hs.take i) l)) = true
  exact seal_ok (seedOf_le house) (nextHead_ok hh (chain_take h.chain i) (by rw [List.length_take]; omega) (node_16 _ _ _))
theorem Made.root (hh : 0 ≤ house ∧ house ≤ 2) (c : List Head) : linkRoot ⟨house, c⟩ (pastTrust k) = poolRoot (poolOf (seedOf house)) := pastRoots_at hh
theorem Made.verd (h : Made k house name xs hs) (hk : 0 ≤ k ∧ k ≤ 2) (hh : 0 ≤ house ∧ house ≤ 2) (hn : nameOk name = true) {i : Nat} (hi : i < xs.length) : verify (pastTrust k) house name xs[i].seal_.head.epoch xs[i] = ((leafGet xs[i].proof.bucket name).1, (leafGet xs[i].proof.bucket name).2, 0) := by
  rw [(h.head hi).2.1]; exact h.code hk hh hn hi
theorem Made.hear (h : Made k house name xs hs) (hk : 0 ≤ k ∧ k ≤ 2) (hh : 0 ≤ house ∧ house ≤ 2) (hn : nameOk name = true) {i : Nat} (hi : i < xs.length) (hi1 : i + 1 = xs.length) : clientHear ⟨house, []⟩ (pastTrust k) (sealsOf xs) name xs[i] = (⟨house, hs⟩, (leafGet xs[i].proof.bucket name).1, (leafGet xs[i].proof.bucket name).2, 0) := by
  have hl := h.len
  refine gen_hear (Made.root hh []) (h.verd hk hh hn hi) h.heads (by rw [sealsOf_len]; omega) h.chain ?_ ?_ ?_
  · intro j hj
    have hj2 : j < xs.length := by rw [sealsOf_len] at hj; exact hj
    rw [sealsOf_at hj2]; exact h.sealed hh hj2
  · rw [(h.head hi).2.1]; omega
  · have h1 : hs.length - 1 = i := by omega
    have h2 : i < hs.length := by omega
    rw [h1, hdIs_at h2, ← (h.head hi).1, sameHd_self]
theorem Made.gap (h : Made k house name xs hs) (hk : 0 ≤ k ∧ k ≤ 2) (hh : 0 ≤ house ∧ house ≤ 2) (hn : nameOk name = true) {i : Nat} (hi : i < xs.length) : clientHear ⟨house, []⟩ (pastTrust k) [] name xs[i] = (⟨house, []⟩, ⟨#[]⟩, false, 3) :=
  gen_gap (h.verd hk hh hn hi) (by rw [(h.head hi).2.1]; omega)
theorem Made.again (h : Made k house name xs hs) (hk : 0 ≤ k ∧ k ≤ 2) (hh : 0 ≤ house ∧ house ≤ 2) (hn : nameOk name = true) (h0 : 0 < xs.length) (links : List Seal) : clientHear ⟨house, hs⟩ (pastTrust k) links name xs[0] = (⟨house, hs⟩, (leafGet xs[0].proof.bucket name).1, (leafGet xs[0].proof.bucket name).2, 0) :=
  gen_again (h.verd hk hh hn h0) (h.head h0).2.1 (by rw [h.len]; exact h0) (by rw [← (h.head h0).1, sameHd_self])
theorem Made.split (h : Made k house name xs hs) (hk : 0 ≤ k ∧ k ≤ 2) (hh : 0 ≤ house ∧ house ≤ 2) (hn : nameOk name = true) (h0 : 0 < xs.length) (links : List Seal) {os : List Head} (ho : 0 < os.length) (hd : os[0].root ≠ xs[0].seal_.head.root) : clientHear ⟨house, os⟩ (pastTrust k) links name xs[0] = (⟨house, os⟩, ⟨#[]⟩, false, 2) :=
  gen_split (h.verd hk hh hn h0) (h.head h0).2.1 ho hd
theorem Made.right (h : Made k house name xs hs) (hh : 0 ≤ house ∧ house ≤ 2) : clientOk ⟨house, hs⟩ = true := by
  unfold clientOk
  show (inB house 0 2 && chainOk hs house) = true
  rw [h.chain]
  simp [inB]; omega
theorem Made.head16 (h : Made k house name xs hs) (hh : 0 ≤ house ∧ house ≤ 2) {i : Nat} (hi : i < xs.length) (hi2 : i < hs.length) : hs[i].root = xs[i].seal_.head.root ∧ hs[i].root.size = 16 ∧ hs[i].prev.size ≤ 16 := by
  have h1 := h.sealed hh hi
  unfold sealOk at h1
  simp only [Bool.and_eq_true] at h1
  have h2 := (headOk_b h1.1.1).2.2
  have h3 : xs[i].seal_.head = hs[i] := (h.head hi).1
  rw [← h3]
  exact ⟨rfl, h2.1, h2.2⟩
theorem made_seal_sz (h : Made k house name xs hs) (hh : 0 ≤ house ∧ house ≤ 2) {i : Nat} (hi : i < xs.length) : sz xs[i].seal_ ≤ 1500 ∧ sz xs[i].seal_.head ≤ 1500 := by
  have h1 := made_sz h hh hi
  have h2 : sz xs[i] = xs[i].sz := rfl
  have h3 : sz xs[i].seal_ = xs[i].seal_.sz := rfl
  have h4 : sz xs[i].seal_.head = xs[i].seal_.head.sz := rfl
  rw [h2] at h1
  rw [h3, h4]
  simp only [Whole.sz, Seal.sz] at h1 ⊢
  omega
theorem made_links_sz (h : Made k house name xs hs) (hh : 0 ≤ house ∧ house ≤ 2) : szL (sealsOf xs) ≤ 10000 := by
  have h1 := szL_each (l := sealsOf xs) (m := 1500) (fun s hs => by
    obtain ⟨i, hi, rfl⟩ := List.getElem_of_mem hs
    rw [sealsOf_len] at hi
    rw [sealsOf_at hi]
    exact (made_seal_sz h hh hi).1)
  have h2 := h.most
  have h3 := h.len
  rw [sealsOf_len] at h1
  have : xs.length * 1501 ≤ 4 * 1501 := Nat.mul_le_mul_right _ (by omega)
  omega
theorem made_heads_sz (h : Made k house name xs hs) (hh : 0 ≤ house ∧ house ≤ 2) : szL hs ≤ 10000 := by
  have h1 := szL_each (l := hs) (m := 1500) (fun s hs_ => by
    obtain ⟨i, hi, rfl⟩ := List.getElem_of_mem hs_
    have hi2 : i < xs.length := by rw [← h.len]; exact hi
    rw [← (h.head hi2).1]
    exact (made_seal_sz h hh hi2).2)
  have h2 := h.most
  have : hs.length * 1501 ≤ 4 * 1501 := Nat.mul_le_mul_right _ h2
  omega
theorem sealsOf_take {xs : List Whole} {j : Nat} (hj : j < xs.length) : sealsOf (xs.take (j + 1)) = sealsOf (xs.take j) ++ [xs[j].seal_] := by
  unfold sealsOf
  rw [← List.take_append_getElem hj, List.map_append]
  rfl
end
end Go.Proofs.YtgllafgpmenjjaaGreatDoor
