/- Walks: the seals of one epoch that differ. -/
import Derived.Test.YtbnfkpbaaoknmaaCy
import Derived.Test.YtbnfkpbaaoknmaaCb
set_option linter.unusedVariables false
set_option linter.unusedSimpArgs false
namespace Go.Proofs.Ytbnfkpbaaoknmaa
open Go.RowKit Lay Mk
def sameE (s t : Seal) : Bool := decide (s.head.house = t.head.house) && decide (s.head.epoch = t.head.epoch)
def headEq (a b : Head) : Bool := decide (a.house = b.house) && decide (a.epoch = b.epoch) && decide (a.root = b.root) && decide (a.prev = b.prev)
def pairAt (s : Seal) (ts : List Seal) : List Pair := match ts.find? (sameE s) with
  | none => []
  | some t => if headEq s.head t.head then [] else [⟨s, t⟩]
def splitF (ts : List Seal) (acc : List Pair) (s : Seal) : List Pair := acc ++ pairAt s ts
def splitsOf (x y : Auditor) : List Pair := x.pins.foldl (splitF y.pins) []
theorem splitsOf_all (x y : Auditor) : foldT (splitF y.pins) [] x.pins x.pins.length = splitsOf x y := foldT_all _ _ _
theorem pairAt_none {s : Seal} {ts : List Seal} (h : ts.find? (sameE s) = none) : pairAt s ts = [] := by unfold pairAt; rw [h]
theorem pairAt_eq {s t : Seal} {ts : List Seal} (h : ts.find? (sameE s) = some t) (e : headEq s.head t.head = true) : pairAt s ts = [] := by unfold pairAt; rw [h]; simp [e]
theorem pairAt_ne {s t : Seal} {ts : List Seal} (h : ts.find? (sameE s) = some t) (e : headEq s.head t.head = false) : pairAt s ts = [⟨s, t⟩] := by unfold pairAt; rw [h]; simp [e]
theorem pairAt_len (s : Seal) (ts : List Seal) : (pairAt s ts).length ≤ 1 := by
  unfold pairAt
  split
  · simp
  · split <;> simp
theorem splitT_len (ts xs : List Seal) : ∀ k, k ≤ xs.length → (foldT (splitF ts) [] xs k).length ≤ k
  | 0, _ => by simp [foldT]
  | k + 1, h => by
    rw [foldT_succ (by omega)]
    have := splitT_len ts xs k (by omega)
    have := pairAt_len xs[k] ts
    simp only [splitF, List.length_append]
    omega
theorem seal_sz {xs : List Seal} {k : Nat} (hk : k < xs.length) (hz : szL xs ≤ 1048576) : xs[k].sz ≤ 1048576 := by
  have h1 := szT_succ xs k hk
  have h2 := szT_le xs (k + 1)
  have h3 : Mk.sz xs[k] = xs[k].sz := rfl
  omega
theorem seal_lens {s : Seal} (h : s.sz ≤ 1048576) : s.sig.open_.length ≤ 1048576 ∧ s.sig.shut.length ≤ 1048576 ∧ s.sig.sides.length ≤ 1048576 := by
  simp only [Seal.sz, Sig.sz] at h
  have := szT_le s.sig.open_ 0
  have := szT_le s.sig.shut 0
  have := szT_le s.sig.sides 0
  omega
theorem aud_pins (x : Auditor) (h : x.sz ≤ 1048576) : szL x.pins ≤ 1048576 := by simp only [Auditor.sz] at h; omega
theorem cnb_pair (s t : Seal) (hs : s.sz ≤ 1048576) (ht : t.sz ≤ 1048576) : Mk.cn (⟨s, t⟩ : Pair) ≤ 16777232 := by
  have h1 := cnb_Seal s
  have h2 := cnb_Seal t
  have h3 : Mk.cn (⟨s, t⟩ : Pair) = Mk.cn s + Mk.cn t := by show Pair.cn _ = Seal.cn _ + Seal.cn _; simp only [Pair.cn, Seal.cn]; omega
  have h4 : Mk.sz s = s.sz := rfl
  have h5 : Mk.sz t = t.sz := rfl
  omega
theorem cnL_app {α : Type} [Lay α] [Mk α] (a b : List α) : cnL (a ++ b) = cnL a + cnL b := by simp [cnL]
theorem pairAt_cn (s : Seal) (ts : List Seal) (hs : s.sz ≤ 1048576) (ht : szL ts ≤ 1048576) : cnL (pairAt s ts) ≤ 16777232 := by
  unfold pairAt
  split
  · simp [cnL]
  · rename_i t h
    have hm := List.mem_of_find?_eq_some h
    obtain ⟨k, hk, rfl⟩ := List.getElem_of_mem hm
    split
    · simp [cnL]
    · have := cnb_pair s ts[k] hs (seal_sz hk ht)
      simpa [cnL] using this
theorem splitT_cn (ts xs : List Seal) (hx : szL xs ≤ 1048576) (ht : szL ts ≤ 1048576) : ∀ k, k ≤ xs.length → cnL (foldT (splitF ts) [] xs k) ≤ 16777232 * k
  | 0, _ => by simp [foldT, cnL]
  | k + 1, h => by
    rw [foldT_succ (by omega)]
    have := splitT_cn ts xs hx ht k (by omega)
    have := pairAt_cn xs[k] ts (seal_sz (by omega) hx) ht
    simp only [splitF, cnL_app]
    omega
theorem cnb_splitsOf (x y : Auditor) (hx : x.sz ≤ 1048576) (hy : y.sz ≤ 1048576) : cnL (splitsOf x y) ≤ 20000000000000 := by
  rw [← splitsOf_all]
  have h1 := splitT_cn y.pins x.pins (aud_pins x hx) (aud_pins y hy) x.pins.length (Nat.le_refl _)
  have h2 := szT_le x.pins 0
  have h3 := aud_pins x hx
  omega
theorem splitT_no {ts xs : List Seal} {k : Nat} (h : k < xs.length) (e : pairAt xs[k] ts = []) : foldT (splitF ts) [] xs (k + 1) = foldT (splitF ts) [] xs k := by
  rw [foldT_succ h]; simp [splitF, e]
theorem splitT_yes {ts xs : List Seal} {k : Nat} {t : Seal} (h : k < xs.length) (e : pairAt xs[k] ts = [⟨xs[k], t⟩]) : foldT (splitF ts) [] xs (k + 1) = foldT (splitF ts) [] xs k ++ [⟨xs[k], t⟩] := by
  rw [foldT_succ h]; simp [splitF, e]
theorem headEq_l {a b : Head} (h1 : a.house = b.house) (h2 : a.epoch = b.epoch) : headEq a b = (decide (a.root.toList = b.root.toList) && decide (a.prev.toList = b.prev.toList)) := by
  have e : ∀ x y : ByteArray, decide (x = y) = decide (x.toList = y.toList) := fun x y => by
    by_cases h : x = y
    · subst h; simp
    · rw [decide_eq_false h, decide_eq_false (fun k => h (toList_inj k))]
  unfold headEq; rw [e a.root, e a.prev]; simp [h1, h2]
theorem pair_rd {w : World} {s t : Seal} {c1 c2 : List Value} {S1 S2 S : Blks} (h1 : rd true w c1 s S1) (h2 : rd true w c2 t S2) (s1 : sub S1 S) (s2 : sub S2 S) (d : disj S1 S2) : rd true w (c1 ++ c2) (⟨s, t⟩ : Pair) S := ⟨c1, c2, S1, S2, rfl, s1, s2, fun _ => d, h1, h2⟩
end Go.Proofs.Ytbnfkpbaaoknmaa
