/- A part of the proof: what the laws need of it. -/
import Derived.Test.YtgllafgpmenjjaaGreatDoorHReL28xPh
import Derived.Test.YtgllafgpmenjjaaGreatDoorHReL12xDh
import Derived.Test.YtgllafgpmenjjaaGreatDoorHReL20xSi
set_option linter.unusedVariables false
set_option linter.unusedSimpArgs false
set_option linter.unusedVariables false
set_option linter.unusedSimpArgs false
namespace Go.Proofs.YtgllafgpmenjjaaGreatDoor
open Go.RowKit Lay Mk
def hdIs (xs : List Head) (i : Nat) (h : Head) : Bool := match xs[i]? with
  | some y => sameHd y h
  | none => false
def linkRoot (c : Client) (t : Trust) : ByteArray := t.roots.getD c.house.toNat ⟨#[]⟩
def hearAll (c : Client) (links : List Seal) : List Head := c.seen ++ headL links
def linksOk (root : ByteArray) (c : Client) (links : List Seal) (h : Head) : Bool :=
  links.all (sealOk root) && (decide (0 < links.length) && (chainOk (hearAll c links) c.house && (decide (((hearAll c links).length : Int) = h.epoch) && hdIs (hearAll c links) ((hearAll c links).length - 1) h)))
def clientHear (c : Client) (t : Trust) (links : List Seal) (name : ByteArray) (x : Whole) : Client × ByteArray × Bool × Int :=
  if (verify t c.house name x.seal_.head.epoch x).2.2 ≠ 0 then (c, ⟨#[]⟩, false, 1)
  else if x.seal_.head.epoch ≤ (c.seen.length : Int) then
    (if hdIs c.seen (x.seal_.head.epoch.toNat - 1) x.seal_.head = true then (c, (verify t c.house name x.seal_.head.epoch x).1, (verify t c.house name x.seal_.head.epoch x).2.1, 0) else (c, ⟨#[]⟩, false, 2))
  else if linksOk (linkRoot c t) c links x.seal_.head = true then (⟨c.house, hearAll c links⟩, (verify t c.house name x.seal_.head.epoch x).1, (verify t c.house name x.seal_.head.epoch x).2.1, 0)
  else (c, ⟨#[]⟩, false, 3)
theorem hdIs_at {xs : List Head} {i : Nat} {h : Head} (hi : i < xs.length) : hdIs xs i h = sameHd xs[i] h := by unfold hdIs; rw [List.getElem?_eq_getElem hi]
theorem ver_in {t : Trust} {house : Int} {name : ByteArray} {epoch : Int} {x : Whole} (h : (verify t house name epoch x).2.2 = 0) : (∃ k : Nat, house = k ∧ k < t.roots.length) ∧ 1 ≤ x.seal_.head.epoch := by
  unfold verify at h
  split at h
  · cases h
  · rename_i h1
    split at h
    · cases h
    · split at h
      · cases h
      · rename_i h3
        refine ⟨(form_facts (by simpa using h1)).1, ?_⟩
        have h4 : sealOk (t.roots.getD house.toNat ⟨#[]⟩) x.seal_ = true := by simpa using h3
        unfold sealOk at h4
        simp only [Bool.and_eq_true] at h4
        exact (headOk_b h4.1.1).2.1.1
theorem ch_1 {c : Client} {t : Trust} {links : List Seal} {name : ByteArray} {x : Whole} (h : ¬ (verify t c.house name x.seal_.head.epoch x).2.2 = 0) : clientHear c t links name x = (c, ⟨#[]⟩, false, 1) := by unfold clientHear; rw [if_pos h]
theorem ch_2 {c : Client} {t : Trust} {links : List Seal} {name : ByteArray} {x : Whole} (h : (verify t c.house name x.seal_.head.epoch x).2.2 = 0) {m : Nat} (hm : x.seal_.head.epoch = (m : Int) + 1) (hl : m < c.seen.length) (hs : sameHd c.seen[m] x.seal_.head = false) : clientHear c t links name x = (c, ⟨#[]⟩, false, 2) := by
  unfold clientHear
  rw [if_neg (by simp [h]), if_pos (by omega), if_neg]
  rw [show x.seal_.head.epoch.toNat - 1 = m by omega, hdIs_at hl, hs]; simp
theorem ch_3 {c : Client} {t : Trust} {links : List Seal} {name : ByteArray} {x : Whole} (h : (verify t c.house name x.seal_.head.epoch x).2.2 = 0) {m : Nat} (hm : x.seal_.head.epoch = (m : Int) + 1) (hl : m < c.seen.length) (hs : sameHd c.seen[m] x.seal_.head = true) : clientHear c t links name x = (c, (verify t c.house name x.seal_.head.epoch x).1, (verify t c.house name x.seal_.head.epoch x).2.1, 0) := by
  unfold clientHear
  rw [if_neg (by simp [h]), if_pos (by omega), if_pos]
  rw [show x.seal_.head.epoch.toNat - 1 = m by omega, hdIs_at hl, hs]
theorem ch_4 {c : Client} {t : Trust} {links : List Seal} {name : ByteArray} {x : Whole} (h : (verify t c.house name x.seal_.head.epoch x).2.2 = 0) (hl : ¬ x.seal_.head.epoch ≤ (c.seen.length : Int)) (hs : linksOk (linkRoot c t) c links x.seal_.head = false) : clientHear c t links name x = (c, ⟨#[]⟩, false, 3) := by
  unfold clientHear
  rw [if_neg (by simp [h]), if_neg hl, if_neg (by simp [hs])]
theorem ch_5 {c : Client} {t : Trust} {links : List Seal} {name : ByteArray} {x : Whole} (h : (verify t c.house name x.seal_.head.epoch x).2.2 = 0) (hl : ¬ x.seal_.head.epoch ≤ (c.seen.length : Int)) (hs : linksOk (linkRoot c t) c links x.seal_.head = true) : clientHear c t links name x = (⟨c.house, hearAll c links⟩, (verify t c.house name x.seal_.head.epoch x).1, (verify t c.house name x.seal_.head.epoch x).2.1, 0) := by
  unfold clientHear
  rw [if_neg (by simp [h]), if_neg hl, if_pos hs]
theorem lk_bad {root : ByteArray} {c : Client} {links : List Seal} {h : Head} {k : Nat} (hk : k < links.length) (hb : sealOk root links[k] = false) : linksOk root c links h = false := by
  unfold linksOk
  rw [show links.all (sealOk root) = false from by rw [List.all_eq_false]; exact ⟨_, List.getElem_mem hk, by simp [hb]⟩]; rfl
theorem lk_all {root : ByteArray} {c : Client} {links : List Seal} {h : Head} (ha : ∀ k (hk : k < links.length), sealOk root links[k] = true) : linksOk root c links h = (decide (0 < links.length) && (chainOk (hearAll c links) c.house && (decide (((hearAll c links).length : Int) = h.epoch) && hdIs (hearAll c links) ((hearAll c links).length - 1) h))) := by
  unfold linksOk
  rw [show links.all (sealOk root) = true from by
    rw [List.all_eq_true]; intro x hx
    obtain ⟨k, hk, rfl⟩ := List.getElem_of_mem hx
    exact ha k hk]
  rfl
theorem client_sz {c : Client} (h : c.sz ≤ 1048576) : c.seen.length ≤ 1048576 := by
  simp only [Client.sz] at h
  have := szT_le c.seen 0
  omega
end Go.Proofs.YtgllafgpmenjjaaGreatDoor
