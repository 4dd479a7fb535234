/- A part of the proof: what the laws need of it. -/
import Derived.Test.YtojbehmbeoemgaaDoorHMoL22xRp
import Derived.Test.YtojbehmbeoemgaaDoorHMoL17xTg
import Derived.Test.YtojbehmbeoemgaaDoorHMoL11xDp
import Derived.Deep.RegionHeld3
import Derived.Deep.RegionLaw
import Derived.Deep.AppendLies
import Derived.StillTailTactics
set_option linter.unusedVariables false
set_option linter.unusedSimpArgs false
set_option linter.unusedVariables false
set_option linter.unusedSimpArgs false
namespace Go.Proofs.YtojbehmbeoemgaaDoor
open Go.RowKit Lay Mk
section
variable (nd : Nat → ByteArray → ByteArray → ByteArray)
def nilB : ByteArray := ⟨#[]⟩
def pairY (ks : List Nat) (k : Nat) : Bool := decide (k + 1 < ks.length) && decide (ks.getD (k + 1) 0 = ks.getD k 0 ^^^ 1)
def lvF (ks : List Nat) (hs : List ByteArray) : Nat → Nat → List ByteArray → List Nat → List ByteArray → Option (List Nat × List ByteArray × List ByteArray)
  | 0, _, ss, up, nx => some (up, nx, ss)
  | m + 1, k, ss, up, nx =>
    if k < ks.length then
      if pairY ks k = true then lvF ks hs m (k + 2) ss (up ++ [ks.getD k 0 / 2]) (nx ++ [nd (ks.getD k 0) (hs.getD k nilB) (hs.getD (k + 1) nilB)])
      else if ss.length = 0 then none
      else lvF ks hs m (k + 1) (ss.drop 1) (up ++ [ks.getD k 0 / 2]) (nx ++ [nd (ks.getD k 0) (hs.getD k nilB) (ss.getD 0 nilB)])
    else some (up, nx, ss)
def evenAt (ks : List Nat) (i : Nat) : Bool := decide (ks.getD i 0 % 2 = 0) && (decide (i + 1 < ks.length) && decide (ks.getD (i + 1) 0 = ks.getD i 0 + 1))
def oddAt (ks : List Nat) (i : Nat) : Bool := decide (ks.getD i 0 % 2 = 1) && (decide (0 < i) && decide (ks.getD (i - 1) 0 + 1 = ks.getD i 0))
def svF (ks : List Nat) (hs sd : List ByteArray) : Nat → Nat → Nat → List ByteArray → Option (List ByteArray × Nat)
  | 0, _, u, nx => some (nx, u)
  | m + 1, i, u, nx =>
    if i < ks.length then
      if evenAt ks i = true then svF ks hs sd m (i + 1) u (nx ++ [nd (ks.getD i 0) (hs.getD i nilB) (hs.getD (i + 1) nilB)])
      else if oddAt ks i = true then svF ks hs sd m (i + 1) u nx
      else if u < sd.length then svF ks hs sd m (i + 1) (u + 1) (nx ++ [nd (ks.getD i 0) (hs.getD i nilB) (sd.getD u nilB)])
      else none
    else some (nx, u)
def insU (acc : List Nat) (q : Nat) : List Nat := if q ∈ acc then acc else acc ++ [q]
def aboveU (ks : List Nat) : List Nat := ks.foldl (fun acc p => insU acc (p / 2)) []
theorem xor_even {p : Nat} (h : p % 2 = 0) : p ^^^ 1 = p + 1 := by
  have h1 : p = 2 * (p / 2) := by omega
  rw [h1]
  apply Nat.eq_of_testBit_eq
  intro i
  rcases i with _ | i
  · simp [Nat.testBit_zero]
  · rw [Nat.testBit_xor, Nat.testBit_succ, Nat.testBit_succ, Nat.testBit_succ]
    have : (2 * (p / 2) + 1) / 2 = 2 * (p / 2) / 2 := by omega
    rw [this]; simp
theorem xor_odd {p : Nat} (h : p % 2 = 1) : p ^^^ 1 = p - 1 := by
  have h1 := xor_even (p := p - 1) (by omega)
  have h2 : p = (p - 1) ^^^ 1 := by rw [h1]; omega
  calc p ^^^ 1 = ((p - 1) ^^^ 1) ^^^ 1 := by rw [← h2]
    _ = p - 1 := by rw [Nat.xor_assoc]; simp
theorem getD_ {α : Type} {l : List α} {d : α} {k : Nat} (h : k < l.length) : l.getD k d = l[k] := by
  rw [List.getD_eq_getElem?_getD, List.getElem?_eq_getElem h, Option.getD_some]
def Inc (ks : List Nat) : Prop := ∀ i, i + 1 < ks.length → ks.getD i 0 < ks.getD (i + 1) 0
theorem pair_even {ks : List Nat} (hi : Inc ks) (k : Nat) : pairY ks k = evenAt ks k := by
  unfold pairY evenAt
  by_cases h : k + 1 < ks.length
  · have h1 := hi k h
    simp only [decide_eq_true h, Bool.true_and]
    rcases Nat.mod_two_eq_zero_or_one (ks.getD k 0) with e | e
    · rw [xor_even e, decide_eq_true e, Bool.true_and]
    · rw [xor_odd e, decide_eq_false (by omega), decide_eq_false (by omega)]; rfl
  · simp only [decide_eq_false h, Bool.false_and, Bool.and_false]
theorem inc_lt {ks : List Nat} (hi : Inc ks) {i : Nat} : ∀ {j : Nat}, i < j → j < ks.length → ks.getD i 0 < ks.getD j 0
  | 0, h, _ => absurd h (Nat.not_lt_zero _)
  | j + 1, h, hj => by
    have h1 := hi j hj
    rcases Nat.lt_succ_iff_lt_or_eq.1 h with h2 | h2
    · exact Nat.lt_trans (inc_lt hi h2 (by omega)) h1
    · subst h2; exact h1
theorem above_snoc (ks : List Nat) (p : Nat) : aboveU (ks ++ [p]) = insU (aboveU ks) (p / 2) := by unfold aboveU; rw [List.foldl_append]; rfl
theorem takeY_snoc {ks : List Nat} {k : Nat} (h : k < ks.length) : ks.take (k + 1) = ks.take k ++ [ks.getD k 0] := by
  rw [getD_ h]; exact List.take_succ_eq_append_getElem h
theorem mem_above {ks : List Nat} : ∀ {q : Nat}, q ∈ aboveU ks ↔ ∃ p ∈ ks, q = p / 2 := by
  suffices h : ∀ (ks acc : List Nat) (q : Nat), q ∈ ks.foldl (fun acc p => insU acc (p / 2)) acc ↔ q ∈ acc ∨ ∃ p ∈ ks, q = p / 2 by
    intro q; unfold aboveU; rw [h]; simp
  intro ks
  induction ks with
  | nil => intro acc q; simp
  | cons a r ih =>
    intro acc q
    rw [List.foldl_cons, ih]
    have : q ∈ insU acc (a / 2) ↔ q ∈ acc ∨ q = a / 2 := by
      unfold insU; split
      · rename_i h
        constructor
        · exact .inl
        · rintro (h1 | h1)
          · exact h1
          · subst h1; exact h
      · simp
    rw [this]
    simp only [List.mem_cons, exists_eq_or_imp]
    constructor
    · rintro ((h | h) | h)
      · exact .inl h
      · exact .inr (.inl h)
      · exact .inr (.inr h)
    · rintro (h | h | h)
      · exact .inl (.inl h)
      · exact .inl (.inr h)
      · exact .inr h
theorem mem_take {ks : List Nat} {k q : Nat} (h : q ∈ ks.take k) : ∃ i, i < k ∧ i < ks.length ∧ q = ks.getD i 0 := by
  obtain ⟨i, hi, rfl⟩ := List.getElem_of_mem h
  rw [List.length_take] at hi
  refine ⟨i, by omega, by omega, ?_⟩
  rw [getD_ (by omega), List.getElem_take]
theorem above_new {ks : List Nat} (hi : Inc ks) {k : Nat} (h : k < ks.length) (ho : oddAt ks k = false) : aboveU (ks.take (k + 1)) = aboveU (ks.take k) ++ [ks.getD k 0 / 2] := by
  rw [takeY_snoc h, above_snoc]
  unfold insU
  rw [if_neg]
  rw [mem_above]
  rintro ⟨p, hp, e⟩
  obtain ⟨i, h1, h2, rfl⟩ := mem_take hp
  have h3 := inc_lt hi h1 h
  have h4 : ks.getD i 0 + 1 = ks.getD k 0 ∧ ks.getD k 0 % 2 = 1 := by omega
  have h5 : i + 1 = k := by
    rcases Nat.lt_trichotomy (i + 1) k with h6 | h6 | h6
    · have h7 := inc_lt hi h6 h
      have h8 := hi i (by omega)
      omega
    · exact h6
    · omega
  subst h5
  unfold oddAt at ho
  rw [decide_eq_true h4.2, decide_eq_true (Nat.succ_pos i), Nat.add_sub_cancel, decide_eq_true h4.1] at ho
  cases ho
theorem above_old {ks : List Nat} {k : Nat} (h : k < ks.length) (ho : oddAt ks k = true) : aboveU (ks.take (k + 1)) = aboveU (ks.take k) := by
  unfold oddAt at ho
  simp only [Bool.and_eq_true, decide_eq_true_eq] at ho
  rw [takeY_snoc h, above_snoc]
  unfold insU
  rw [if_pos]
  rw [mem_above]
  refine ⟨ks.getD (k - 1) 0, ?_, by omega⟩
  rw [List.mem_iff_getElem]
  refine ⟨k - 1, by rw [List.length_take]; omega, ?_⟩
  rw [List.getElem_take, getD_ (by omega)]
theorem odd_next {ks : List Nat} (hi : Inc ks) {k : Nat} (h : evenAt ks k = true) : oddAt ks (k + 1) = true := by
  unfold evenAt at h; unfold oddAt
  simp only [Bool.and_eq_true, decide_eq_true_eq] at h
  rw [decide_eq_true (by omega), decide_eq_true (Nat.succ_pos k), Nat.add_sub_cancel, decide_eq_true (by omega)]; rfl
theorem odd_not {ks : List Nat} (hi : Inc ks) {k : Nat} (h : evenAt ks k = false) (hk : k + 1 < ks.length) : oddAt ks (k + 1) = false := by
  cases ho : oddAt ks (k + 1)
  · rfl
  · unfold oddAt at ho
    simp only [Bool.and_eq_true, decide_eq_true_eq, Nat.add_sub_cancel] at ho
    unfold evenAt at h
    rw [decide_eq_true (by omega), decide_eq_true hk, decide_eq_true (by omega)] at h
    cases h
theorem even_odd {ks : List Nat} {k : Nat} (h : oddAt ks k = true) : evenAt ks k = false := by
  unfold oddAt at h; unfold evenAt
  simp only [Bool.and_eq_true, decide_eq_true_eq] at h
  rw [decide_eq_false (by omega)]; rfl
theorem sv_eq {ks : List Nat} (hi : Inc ks) (hs sd : List ByteArray) : ∀ (N k : Nat), ks.length - k ≤ N → k ≤ ks.length → (k < ks.length → oddAt ks k = false) → ∀ (m m' : Nat), ks.length - k ≤ m → ks.length - k ≤ m' → ∀ (u : Nat) (nx : List ByteArray), u ≤ sd.length →
    (lvF nd ks hs m k (sd.drop u) (aboveU (ks.take k)) nx).map (fun x => (x.1, x.2.1, x.2.2)) = (svF nd ks hs sd m' k u nx).map (fun x => (aboveU ks, x.1, sd.drop x.2))
  | 0, k, hN, hk, ho, m, m', hm, hm', u, nx, hu => by
    have e : k = ks.length := by omega
    subst e
    have l0 : lvF nd ks hs m ks.length (sd.drop u) (aboveU (ks.take ks.length)) nx = some (aboveU (ks.take ks.length), nx, sd.drop u) := by
      cases m with
      | zero => rfl
      | succ m => rw [lvF, if_neg (Nat.lt_irrefl _)]
    have s0 : svF nd ks hs sd m' ks.length u nx = some (nx, u) := by
      cases m' with
      | zero => rfl
      | succ m => rw [svF, if_neg (Nat.lt_irrefl _)]
    rw [l0, s0, List.take_length]; rfl
  | N + 1, k, hN, hk, ho, m, m', hm, hm', u, nx, hu => by
    by_cases hlt : k < ks.length
    · obtain ⟨m, rfl⟩ : ∃ x, m = x + 1 := ⟨m - 1, by omega⟩
      obtain ⟨m', rfl⟩ : ∃ x, m' = x + 1 := ⟨m' - 1, by omega⟩
      rw [lvF, svF, if_pos hlt, if_pos hlt, pair_even hi]
      have hn := above_new hi hlt (ho hlt)
      cases he : evenAt ks k
      · simp only [Bool.false_eq_true, if_false, ho hlt]
        by_cases hu2 : u < sd.length
        · have e1 : (sd.drop u).getD 0 nilB = sd.getD u nilB := by
            rw [getD_ (by rw [List.length_drop]; omega), getD_ hu2, List.getElem_drop]; rfl
          rw [if_pos hu2, if_neg (show ¬ (sd.drop u).length = 0 by rw [List.length_drop]; omega), e1, List.drop_drop, ← hn]
          exact sv_eq hi hs sd N (k + 1) (by omega) (by omega) (fun h => odd_not hi he h) m m' (by omega) (by omega) (u + 1) _ (by omega)
        · rw [if_neg hu2, if_pos (show (sd.drop u).length = 0 by rw [List.length_drop]; omega)]; rfl
      · rw [if_pos rfl, if_pos rfl]
        have hk1 : k + 1 < ks.length := by
          unfold evenAt at he
          simp only [Bool.and_eq_true, decide_eq_true_eq] at he
          exact he.2.1
        have hod := odd_next hi he
        obtain ⟨m', rfl⟩ : ∃ x, m' = x + 1 := ⟨m' - 1, by omega⟩
        rw [svF, if_pos hk1, if_neg (by simp [even_odd hod]), if_pos hod, ← hn, ← above_old hk1 hod]
        refine sv_eq hi hs sd N (k + 2) (by omega) (by omega) (fun h => ?_) m m' (by omega) (by omega) u _ hu
        exact odd_not hi (even_odd hod) h
    · have e : k = ks.length := by omega
      subst e
      exact sv_eq hi hs sd 0 ks.length (by omega) hk ho m m' hm hm' u nx hu
theorem half_lt {ks : List Nat} (hi : Inc ks) {i k : Nat} (h1 : i < k) (h : k < ks.length) (ho : oddAt ks k = false) : ks.getD i 0 / 2 < ks.getD k 0 / 2 := by
  have h3 := inc_lt hi h1 h
  rcases Nat.lt_or_ge (ks.getD i 0 / 2) (ks.getD k 0 / 2) with h9 | h9
  · exact h9
  have h4 : ks.getD i 0 + 1 = ks.getD k 0 ∧ ks.getD k 0 % 2 = 1 := by omega
  have h5 : i + 1 = k := by
    rcases Nat.lt_trichotomy (i + 1) k with h6 | h6 | h6
    · have h7 := inc_lt hi h6 h
      have h8 := hi i (by omega)
      omega
    · exact h6
    · omega
  subst h5
  unfold oddAt at ho
  rw [decide_eq_true h4.2, decide_eq_true (Nat.succ_pos i), Nat.add_sub_cancel, decide_eq_true h4.1] at ho
  cases ho
theorem above_pw {ks : List Nat} (hi : Inc ks) : ∀ k, k ≤ ks.length → (aboveU (ks.take k)).Pairwise (· < ·)
  | 0, _ => by simp [aboveU]
  | k + 1, h => by
    have ih := above_pw hi k (by omega)
    cases ho : oddAt ks k
    · rw [above_new hi (by omega) ho, List.pairwise_append]
      refine ⟨ih, by simp, ?_⟩
      intro a ha b hb
      have hb : b = ks.getD k 0 / 2 := by simpa using hb
      subst hb
      obtain ⟨p, hp, rfl⟩ := mem_above.1 ha
      obtain ⟨i, h1, h2, rfl⟩ := mem_take hp
      exact half_lt hi h1 (by omega) ho
    · rw [above_old (by omega) ho]; exact ih
theorem inc_pw {ks : List Nat} (h : ks.Pairwise (· < ·)) : Inc ks := by
  intro i hi
  rw [getD_ hi, getD_ (by omega)]
  exact List.pairwise_iff_getElem.1 h i (i + 1) (by omega) hi (by omega)
theorem above_inc {ks : List Nat} (hi : Inc ks) : Inc (aboveU ks) := by
  have := above_pw hi ks.length (Nat.le_refl _)
  rw [List.take_length] at this
  exact inc_pw this
def rootI : Nat → List Nat → List ByteArray → List ByteArray → Option (List ByteArray × List ByteArray)
  | 0, _, hs, ss => some (hs, ss)
  | d + 1, ks, hs, ss => match lvF nd ks hs ks.length 0 ss [] [] with
    | none => none
    | some (up, nx, r) => rootI d up nx r
def rootS (sd : List ByteArray) : Nat → List Nat → List ByteArray → Nat → Option (List ByteArray × Nat)
  | 0, _, hs, u => some (hs, u)
  | d + 1, ks, hs, u => match svF nd ks hs sd ks.length 0 u [] with
    | none => none
    | some (nx, v) => rootS sd d (aboveU ks) nx v
theorem sv_le (ks : List Nat) (hs sd : List ByteArray) : ∀ (m i u : Nat) (nx : List ByteArray) (x : List ByteArray × Nat), u ≤ sd.length → svF nd ks hs sd m i u nx = some x → x.2 ≤ sd.length
  | 0, i, u, nx, x, hu, h => by
    have : some (nx, u) = some x := h
    cases this; exact hu
  | m + 1, i, u, nx, x, hu, h => by
    rw [svF] at h
    split at h
    · split at h
      · exact sv_le ks hs sd m _ _ _ x hu h
      · split at h
        · exact sv_le ks hs sd m _ _ _ x hu h
        · split at h
          · exact sv_le ks hs sd m _ _ _ x (by omega) h
          · cases h
    · cases h; exact hu
theorem root_eq (sd : List ByteArray) : ∀ (d : Nat) (ks : List Nat) (_ : Inc ks) (hs : List ByteArray) (u : Nat) (_ : u ≤ sd.length), rootI nd d ks hs (sd.drop u) = (rootS nd sd d ks hs u).map (fun x => (x.1, sd.drop x.2)) ∧ ∀ x, rootS nd sd d ks hs u = some x → x.2 ≤ sd.length
  | 0, ks, hi, hs, u, hu => ⟨rfl, fun x h => by have : some (hs, u) = some x := h; cases this; exact hu⟩
  | d + 1, ks, hi, hs, u, hu => by
    have h := sv_eq nd hi hs sd ks.length 0 (by omega) (Nat.zero_le _) (fun _ => by unfold oddAt; simp) ks.length ks.length (by omega) (by omega) u [] hu
    rw [show aboveU (ks.take 0) = [] from rfl] at h
    unfold rootI rootS
    cases hs2 : svF nd ks hs sd ks.length 0 u [] with
    | none =>
      rw [hs2] at h
      cases hl : lvF nd ks hs ks.length 0 (sd.drop u) [] [] with
      | none => exact ⟨rfl, fun x h => by cases h⟩
      | some y => rw [hl] at h; cases h
    | some y =>
      obtain ⟨nx, v⟩ := y
      rw [hs2] at h
      cases hl : lvF nd ks hs ks.length 0 (sd.drop u) [] [] with
      | none => rw [hl] at h; cases h
      | some z =>
        obtain ⟨up, nx2, r⟩ := z
        rw [hl] at h
        have h2 : (up, nx2, r) = (aboveU ks, nx, sd.drop v) := Option.some.inj h
        cases h2
        exact root_eq sd d (aboveU ks) (above_inc hi) nx v (sv_le nd ks hs sd _ _ _ _ _ hu hs2)
def endI (x : Option (List ByteArray × List ByteArray)) : ByteArray × Bool := match x with
  | none => (nilB, false)
  | some (hs, ss) => if ss.length = 0 then (hs.getD 0 nilB, true) else (nilB, false)
def endS (n : Nat) (x : Option (List ByteArray × Nat)) : ByteArray × Bool := match x with
  | none => (nilB, false)
  | some (hs, u) => if u < n then (nilB, false) else (hs.getD 0 nilB, true)
theorem many_eq {ks : List Nat} (hi : Inc ks) (hs sd : List ByteArray) (d : Nat) : endI (rootI nd d ks hs sd) = endS sd.length (rootS nd sd d ks hs 0) := by
  obtain ⟨h1, h2⟩ := root_eq nd sd d ks hi hs 0 (Nat.zero_le _)
  rw [List.drop_zero] at h1
  rw [h1]
  cases h : rootS nd sd d ks hs 0 with
  | none => rfl
  | some x =>
    obtain ⟨nx, u⟩ := x
    have := h2 _ h
    simp only [endI, endS, Option.map_some, List.length_drop] at this ⊢
    by_cases hu : u < sd.length
    · rw [if_neg (by omega), if_pos hu]
    · rw [if_pos (by omega), if_neg hu]
end
section
variable (f : Nat → ByteArray)
def lone (ks : List Nat) (k : Nat) : Bool := !(decide (0 < k) && decide (ks.getD (k - 1) 0 = ks.getD k 0 ^^^ 1) || decide (k + 1 < ks.length) && decide (ks.getD (k + 1) 0 = ks.getD k 0 ^^^ 1))
def sidesM (q : Nat → Bool) (ks : List Nat) : Nat → List ByteArray
  | 0 => []
  | k + 1 => if q k = true then sidesM q ks k ++ [f (ks.getD k 0 ^^^ 1)] else sidesM q ks k
def upI (ks : List Nat) : Nat → List Nat
  | 0 => []
  | k + 1 => if (upI ks k).length = 0 ∨ ¬ (upI ks k).getD ((upI ks k).length - 1) 0 = ks.getD k 0 / 2 then upI ks k ++ [ks.getD k 0 / 2] else upI ks k
theorem mem_getD {ks : List Nat} {q : Nat} : q ∈ ks ↔ ∃ j, j < ks.length ∧ ks.getD j 0 = q := by
  constructor
  · intro h
    obtain ⟨j, hj, rfl⟩ := List.getElem_of_mem h
    exact ⟨j, hj, getD_ hj⟩
  · rintro ⟨j, hj, rfl⟩
    rw [getD_ hj]; exact List.getElem_mem hj
theorem inc_inj {ks : List Nat} (hi : Inc ks) {i j : Nat} (h1 : i < ks.length) (h2 : j < ks.length) (h : ks.getD i 0 < ks.getD j 0) : i < j := by
  rcases Nat.lt_trichotomy i j with h3 | h3 | h3
  · exact h3
  · subst h3; omega
  · have := inc_lt hi h3 h1; omega
theorem lone_eq {ks : List Nat} (hi : Inc ks) {k : Nat} (h : k < ks.length) : lone ks k = !decide (ks.getD k 0 ^^^ 1 ∈ ks) := by
  unfold lone
  congr 1
  rw [Bool.eq_iff_iff]
  simp only [Bool.or_eq_true, Bool.and_eq_true, decide_eq_true_eq]
  rw [mem_getD]
  constructor
  · rintro (h1 | h1)
    · exact ⟨k - 1, by omega, h1.2⟩
    · exact ⟨k + 1, h1.1, h1.2⟩
  · rintro ⟨j, hj, e⟩
    rcases Nat.mod_two_eq_zero_or_one (ks.getD k 0) with e2 | e2
    · rw [xor_even e2] at e ⊢
      have h3 := inc_inj hi h hj (by omega)
      right
      rcases Nat.lt_or_ge (k + 1) j with h4 | h4
      · have h5 := inc_lt hi h4 hj
        have h6 := hi k (by omega)
        omega
      · have : j = k + 1 := by omega
        subst this; exact ⟨hj, e⟩
    · rw [xor_odd e2] at e ⊢
      have h3 := inc_inj hi hj h (by omega)
      left
      rcases Nat.lt_or_ge (j + 1) k with h4 | h4
      · have h5 := inc_lt hi h4 h
        have h6 := hi j (by omega)
        omega
      · have : j = k - 1 := by omega
        subst this; exact ⟨by omega, e⟩
theorem sidesM_eq {ks : List Nat} {q r : Nat → Bool} : ∀ k, (∀ j, j < k → q j = r j) → sidesM f q ks k = sidesM f r ks k
  | 0, _ => rfl
  | k + 1, h => by
    unfold sidesM
    rw [h k (by omega), sidesM_eq k (fun j hj => h j (by omega))]
theorem last_snoc (a : List Nat) (x : Nat) : (a ++ [x]).getD ((a ++ [x]).length - 1) 0 = x := by
  rw [getD_ (by simp)]; simp
theorem up_eq {ks : List Nat} (hi : Inc ks) : ∀ k, k ≤ ks.length → upI ks k = aboveU (ks.take k) ∧ (0 < k → 0 < (upI ks k).length ∧ (upI ks k).getD ((upI ks k).length - 1) 0 = ks.getD (k - 1) 0 / 2)
  | 0, _ => ⟨rfl, fun h => absurd h (Nat.lt_irrefl 0)⟩
  | k + 1, h => by
    obtain ⟨h1, h2⟩ := up_eq hi k (by omega)
    unfold upI
    cases ho : oddAt ks k
    · rw [if_pos, above_new hi (by omega) ho, h1]
      · exact ⟨rfl, fun _ => ⟨by simp, by rw [last_snoc]; rfl⟩⟩
      · rcases Nat.eq_zero_or_pos k with e | e
        · subst e; exact .inl rfl
        · right
          rw [(h2 e).2]
          have := half_lt hi (i := k - 1) (k := k) (by omega) (by omega) ho
          omega
    · have h4 := ho
      unfold oddAt at h4
      simp only [Bool.and_eq_true, decide_eq_true_eq] at h4
      have h5 := h2 h4.2.1
      rw [if_neg, above_old (by omega) ho, h1]
      · rw [← h1]; exact ⟨rfl, fun _ => ⟨h5.1, by rw [h5.2]; show _ = ks.getD k 0 / 2; omega⟩⟩
      · rintro (h6 | h6)
        · omega
        · exact h6 (by rw [h5.2]; omega)
end
def node2 (n : Int) (p : Nat) (h o : ByteArray) : ByteArray := if p % 2 = 0 then tagHash 3 [h, o] n else tagHash 3 [o, h] n
theorem node2_le (n : Int) (p : Nat) (h o : ByteArray) : (node2 n p h o).size ≤ 32 := by unfold node2; split <;> exact tagHash_le _ _ _
def idxN (xs : List ByteArray) : List Nat := (indexesOf xs).map Int.toNat
theorem rising_rng (xs : List ByteArray) : ∀ k, k ≤ xs.length → ∀ x ∈ foldT (insF idxKey) [] xs k, 0 ≤ x ∧ x < 256
  | 0, _ => by simp [foldT]
  | k + 1, h => by
    intro x hx
    rw [foldT_succ (by omega)] at hx
    rcases (ins_mem _ _ _).1 hx with rfl | hx
    · exact ⟨idx_lo _, idx_hi _⟩
    · exact rising_rng xs k (by omega) x hx
theorem indexes_rng (xs : List ByteArray) : ∀ x ∈ indexesOf xs, 0 ≤ x ∧ x < 256 := by
  unfold indexesOf; rw [← rising_all]; exact rising_rng xs _ (Nat.le_refl _)
def castL (ks : List Nat) : List Int := ks.map (fun n : Nat => (n : Int))
theorem castL_len (ks : List Nat) : (castL ks).length = ks.length := by unfold castL; simp
theorem idx_cast (xs : List ByteArray) : indexesOf xs = castL (idxN xs) := by
  unfold castL idxN
  rw [List.map_map]
  conv => lhs; rw [← List.map_id (indexesOf xs)]
  apply List.map_congr_left
  intro a ha
  have := indexes_rng xs a ha
  simp only [id, Function.comp]; omega
theorem idxN_lt (xs : List ByteArray) : ∀ k ∈ idxN xs, k < 256 := by
  intro k hk
  unfold idxN at hk
  obtain ⟨a, ha, rfl⟩ := List.mem_map.1 hk
  have := indexes_rng xs a ha
  omega
theorem idxN_inc (xs : List ByteArray) : Inc (idxN xs) := by
  apply inc_pw
  have h := insT_sorted idxKey xs xs.length (Nat.le_refl _)
  rw [rising_all] at h
  have h2 : (indexesOf xs).Pairwise (· < ·) := h
  rw [idx_cast] at h2
  unfold castL at h2
  rw [List.pairwise_map] at h2
  exact h2.imp (fun h => by omega)
theorem idxN_len (xs : List ByteArray) : (idxN xs).length = (indexesOf xs).length := by unfold idxN; simp
theorem idxN_pos {xs : List ByteArray} (h : 0 < xs.length) : 0 < (idxN xs).length := by
  have h1 : idxKey xs[0] ∈ indexesOf xs := by
    have h2 : ∀ k, k ≤ xs.length → ∀ j (hj : j < xs.length), j < k → idxKey xs[j] ∈ foldT (insF idxKey) [] xs k := by
      intro k
      induction k with
      | zero => intro _ j _ h; exact absurd h (Nat.not_lt_zero _)
      | succ k ih =>
        intro hk j hj hjk
        rw [foldT_succ (by omega)]
        refine (ins_mem _ _ _).2 ?_
        rcases Nat.lt_succ_iff_lt_or_eq.1 hjk with h3 | h3
        · exact .inr (ih (by omega) j hj h3)
        · subst h3; exact .inl rfl
    have h3 := h2 xs.length (Nat.le_refl _) 0 h h
    rw [rising_all] at h3
    exact h3
  rw [idxN_len]
  exact List.length_pos_of_mem h1
theorem idxN_le (xs : List ByteArray) : (idxN xs).length ≤ xs.length := by rw [idxN_len]; exact indexes_len xs
def namesFit (xs : List ByteArray) : Bool := xs.all nameOk && inB (xs.length : Int) 1 8
def bucketFit (b : List Leaf) (i : Nat) : Bool := leavesOk b && decide ((bucketOf b (i : Int)).length = b.length)
def bucketsFit (bs : List (List Leaf)) (ks : List Nat) : Bool := decide (∀ i, i < bs.length → bucketFit (bs.getD i []) (ks.getD i 0) = true)
def manyForm (m : Many) (n : Int) : Bool := namesFit m.names && (decide (m.buckets.length = (idxN m.names).length) && (inB n 1 32 && (wideG m.sides n && bucketsFit m.buckets (idxN m.names))))
def manyHashes (bs : List (List Leaf)) (n : Int) : List ByteArray := bs.map (fun b => bucketHash b n)
def manyRoot (m : Many) (n : Int) : ByteArray × Bool := if manyForm m n = true then endI (rootI (node2 n) 8 (idxN m.names) (manyHashes m.buckets n) m.sides) else (nilB, false)
theorem many_spec {m : Many} {n : Int} (h : manyForm m n = true) : manyRoot m n = endS m.sides.length (rootS (node2 n) m.sides 8 (idxN m.names) (manyHashes m.buckets n) 0) := by
  unfold manyRoot; rw [if_pos h, many_eq (node2 n) (idxN_inc m.names)]
theorem many_impl {m : Many} {n : Int} (h : manyForm m n = true) : manyRoot m n = endI (rootI (node2 n) 8 (idxN m.names) (manyHashes m.buckets n) m.sides) := by
  unfold manyRoot; rw [if_pos h]
theorem many_no {m : Many} {n : Int} (h : manyForm m n = false) : manyRoot m n = (nilB, false) := by
  unfold manyRoot; rw [if_neg (by simp [h])]
instance memB (n : ByteArray) (l : List ByteArray) : Decidable (n ∈ l) :=
  decidable_of_iff (l.any (fun s => decide (s = n)) = true) (by rw [List.any_eq_true]; constructor; (· rintro ⟨s, h, e⟩; have e := of_decide_eq_true e; subst e; exact h); (· intro h; exact ⟨n, h, decide_eq_true rfl⟩))
def saysP (m : Many) (name : ByteArray) (i : Nat) : Bool := decide (i < (idxN m.names).length) && decide ((idxN m.names).getD i 0 = indexOf name)
def manySays (m : Many) (name : ByteArray) : ByteArray × Bool × Bool :=
  if name ∈ m.names then (match (List.range m.buckets.length).find? (saysP m name) with
    | some i => ((leafGet (m.buckets.getD i []) name).1, (leafGet (m.buckets.getD i []) name).2, true)
    | none => (nilB, false, false)) else (nilB, false, false)
theorem says_no {m : Many} {name : ByteArray} (h : ¬ name ∈ m.names) : manySays m name = (nilB, false, false) := by unfold manySays; rw [if_neg h]
theorem says_at {m : Many} {name : ByteArray} (h : name ∈ m.names) {i : Nat} (hi : i < m.buckets.length) (hp : saysP m name i = true) (hb : ∀ j, j < i → saysP m name j = false) : manySays m name = ((leafGet m.buckets[i] name).1, (leafGet m.buckets[i] name).2, true) := by
  unfold manySays
  have : (List.range m.buckets.length).find? (saysP m name) = some i := by
    rw [List.find?_range_eq_some]
    exact ⟨hp, by simpa using hi, fun j hj => by simp [hb j hj]⟩
  rw [if_pos h, this]
  simp only
  rw [getD_ hi]
theorem says_none {m : Many} {name : ByteArray} (hb : name ∈ m.names → ∀ j, j < m.buckets.length → saysP m name j = false) : manySays m name = (nilB, false, false) := by
  by_cases h : name ∈ m.names
  · unfold manySays
    have : (List.range m.buckets.length).find? (saysP m name) = none := by
      rw [List.find?_range_eq_none]
      intro j hj
      simp [hb h j hj]
    rw [if_pos h, this]
  · exact says_no h
def mzero : Many := ⟨[], [], []⟩
def proveForm (xs : List Leaf) (names : List ByteArray) (n : Int) : Bool := leavesOk xs && (namesFit names && inB n 1 32)
def sidesMany (n : Int) (xs : List Leaf) : Nat → Nat → List Nat → List ByteArray → List ByteArray
  | 0, _, _, acc => acc
  | m + 1, d, ks, acc => sidesMany n xs m (d + 1) (aboveU ks) (acc ++ sidesM (fun p => nodeD n d p xs) (lone ks) ks ks.length)
def proveMany (xs : List Leaf) (names : List ByteArray) (n : Int) : Many × Bool :=
  if proveForm xs names n = true then (⟨names, (idxN names).map (fun k : Nat => bucketOf xs (k : Int)), sidesMany n xs 8 0 (idxN names) []⟩, true) else (mzero, false)
end Go.Proofs.YtojbehmbeoemgaaDoor

set_option linter.unusedVariables false
set_option linter.unusedSimpArgs false
namespace Go.Proofs.YtojbehmbeoemgaaDoor
open Go.RowKit Lay Mk
theorem name_size {s : ByteArray} (h : nameOk s = true) : s.size ≤ 12 := by
  unfold nameOk at h
  rw [Bool.and_eq_true] at h
  have h2 : 1 ≤ (s.size : Int) ∧ (s.size : Int) ≤ 12 := by simpa [inB] using h.2
  omega
theorem value_size {s : ByteArray} (h : valueOk s = true) : s.size ≤ 12 := by
  unfold valueOk at h
  rw [Bool.and_eq_true] at h
  have h2 : 1 ≤ (s.size : Int) ∧ (s.size : Int) ≤ 12 := by simpa [inB] using h.2
  omega
theorem bucket_tag {xs : List Leaf} (h : leavesOk xs = true) : tagOk (bucketKind xs) (bucketParts xs) = true := by
  have h1 := leavesOk_len h
  have h2 := parts_len xs
  have h3 : partsOk (bucketParts xs) = true := by
    unfold partsOk bucketParts
    rw [List.all_eq_true]
    intro p hp
    rw [List.mem_flatMap] at hp
    obtain ⟨x, hx, hp⟩ := hp
    have h4 := leavesOk_all h x hx
    simp only [List.mem_cons, List.not_mem_nil, or_false] at hp
    rcases hp with rfl | rfl
    · have := name_size h4.1; simp; omega
    · have := value_size h4.2; simp; omega
  have h5 : inB (bucketKind xs) 1 8 = true := by unfold bucketKind; split <;> rfl
  unfold tagOk
  rw [h5, h3, decide_eq_true (by omega)]; rfl
theorem szL_ok {xs : List Leaf} (h : ∀ x ∈ xs, nameOk x.name = true ∧ valueOk x.value = true) : szL xs ≤ 25 * xs.length := by
  induction xs with
  | nil => exact Nat.le_refl _
  | cons x r ih =>
    have h1 := ih (fun y hy => h y (List.mem_cons_of_mem _ hy))
    have h2 := h x (List.mem_cons_self ..)
    have h3 := name_size h2.1
    have h4 := value_size h2.2
    simp only [szL, List.map_cons, List.sum_cons, List.length_cons] at h1 ⊢
    have h5 : Mk.sz x = x.name.size + x.value.size := rfl
    omega
set_option maxRecDepth 20000 in set_option maxHeartbeats 8000000 in
theorem spec_BucketHash (w : World) (xs : List Leaf) (A : Option Addr) (cap : Nat) (S : Blks) (hx : Row false w A cap xs S) (hok : leavesOk xs = true) (n : Int) (hn : I64 n) : Calls Tryd.prog 81 #[.slice A xs.length cap, .int .i64 n] w fun e w' => e = .returned (.string (bucketHash xs n)) ∧ Below w.heap.size w w' := by
  have hl := leavesOk_len hok
  have hz : szL xs ≤ 1048576 := by have := szL_ok (leavesOk_all hok); omega
  have HBT := Lib.hid (spec_BucketText w xs A cap S hx (by omega) hz hok)
  rw [bucket_tag hok] at HBT
  have htl : (bucketTx xs).size ≤ 20000 := tagText_le _ _
  have HE : Hid (bucketHash xs n = cutDigest (bucketTx xs) n) := Lib.hid rfl
  obtain ⟨t, ht⟩ : ∃ t, bucketTx xs = t := ⟨_, rfl⟩
  rw [ht] at HBT htl HE
  clear ht hz hok
  go_enter Tryd.func81, Tryd.ntmps81
  go_wp2_with (fail)
  refine HBT.out.mono ?_
  rintro e1 w1 ⟨rfl, hb1⟩
  go_wp2_with (fail)
  refine (spec_CutDigest _ t (by omega) n hn).mono ?_
  rintro e2 w2 ⟨rfl, hb2⟩
  have HB := Lib.hid (hb1.trans (hb2.mono hb1.size))
  clear hb1 hb2
  go_wp2
  go_ret
  exact ⟨ret_str (by rw [HE.out]), HB.out⟩
def spotOf (x : Leaf) : Spot := ⟨x, (indexOf x.name : Int)⟩
def spotsOf (xs : List Leaf) : List Spot := xs.map spotOf
theorem spotsOf_len (xs : List Leaf) : (spotsOf xs).length = xs.length := by unfold spotsOf; simp
theorem spotsOf_snoc {xs : List Leaf} {k : Nat} (h : k < xs.length) : spotsOf (xs.take (k + 1)) = spotsOf (xs.take k) ++ [spotOf xs[k]] := by
  unfold spotsOf; rw [List.take_succ_eq_append_getElem h, List.map_append]; rfl
set_option maxRecDepth 20000 in set_option maxHeartbeats 8000000 in
theorem spec_l10Spots (w : World) (xs : List Leaf) (A : Option Addr) (cap : Nat) (S : Blks) (hx : Row false w A cap xs S) (hl : xs.length ≤ 1048576) (hz : szL xs ≤ 1048576) : Calls Tryd.prog 89 #[.slice A xs.length cap] w (OwnRes (spotsOf xs) w) := by
  go_enter Tryd.func89, Tryd.ntmps89
  go_wp2
  have HO := Lib.hid (Own.litAt (α := Spot) (Below.refl w.heap.size w) 153 rfl (b := w.heap.size) rfl)
  go_loopw [3, 4] (fun u i wr => ∃ (k : Nat) (A2 : Option Addr) (c : Nat), k ≤ xs.length ∧ i = .int .i64 k ∧ u = .slice A2 k c ∧ Own w wr A2 c (spotsOf (xs.take k))) (fun _ i _ => xs.length - (intOf i).toNat)
  case atStart => exact ⟨0, some ⟨w.heap.size, 0, none⟩, 0, Nat.zero_le _, rfl, rfl, HO.out⟩
  case round =>
    clear HO
    obtain ⟨k, A2, c, hk, rfl, rfl, hown⟩ := hrel
    have hb := hown.bl
    have HOW := Lib.hid hown
    by_cases hlt : k < xs.length
    · obtain ⟨b1, o1, rfl, hl1, e0, e1, s0, s1⟩ := Row.atLeaf hx hlt
      have HN := Lib.hid (spotsOf_snoc hlt)
      have hsz := leaf_size hlt hz
      have HNL : Hid ((spotsOf (xs.take k)).length = k) := Lib.hid (by rw [spotsOf_len, List.length_take]; omega)
      obtain ⟨x, hx'⟩ : ∃ x, xs[k] = x := ⟨_, rfl⟩
      rw [hx'] at e0 e1 s0 s1 HN hsz
      clear hx'
      have HM := Lib.hid (fun (w' : World) (h : Below w.heap.size w w') => (⟨(h.cell (p := ⟨b1, o1 + k * 2, none⟩) hl1).trans e0, (h.cell (p := ⟨b1, o1 + k * 2 + 1, none⟩) hl1).trans e1, h⟩ : w'.cell? ⟨b1, o1 + k * 2, none⟩ = some (.string x.name) ∧ w'.cell? ⟨b1, o1 + k * 2 + 1, none⟩ = some (.string x.value) ∧ Below w.heap.size w w'))
      have HIX := Lib.hid (fun W' => spec_IndexOf W' x.name (by omega))
      have hwl := hb.size
      have hok : Flat.ok (spotOf x) := (show x.name.size ≤ maxLen ∧ x.value.size ≤ maxLen ∧ I64 ((indexOf x.name : Nat) : Int) from ⟨s0, s1, by have := indexOf_lt x.name; unfold I64; omega⟩)
      have HSX : Hid (spotOf x = ⟨x, (indexOf x.name : Int)⟩) := Lib.hid rfl
      rw [HSX.out] at HN hok
      obtain ⟨ix, hix⟩ : ∃ ix, indexOf x.name = ix := ⟨_, rfl⟩
      rw [hix] at HIX HN hok
      have hB := Below.refl wr.heap.size wr
      have hki : (k : Int) < (xs.length : Int) := by omega
      have hk0 : (0 : Int) ≤ (k : Int) := by omega
      clear hix HSX e0 e1 s0 s1 hown
      go_wp2_with (fail)
      go_region_held3 (fun w' => w'.cell? ⟨b1, o1 + k * 2, none⟩ = some (.string x.name) ∧ w'.cell? ⟨b1, o1 + k * 2 + 1, none⟩ = some (.string x.value) ∧ Below w.heap.size w w')
        (first | exact HM.out _ hE | exact HM.out _ (hb.trans (Below.mono (w := wr) (by (repeat (first | with_reducible exact hB | with_reducible apply Below.drew | with_reducible refine Below.alloc ?_ ?_ _ | with_reducible refine Below.setCell ?_ ?_ _)); all_goals (first | omega | (simp; done) | (simp; omega))) hwl)))
        (first | (go_at_call 30; refine (HIX.out _).mono ?_; rintro e5 w5 ⟨rfl, hb5⟩; have hB := Below.step (a := wr) (by (repeat (first | with_reducible exact hB | with_reducible apply Below.drew | with_reducible refine Below.alloc ?_ ?_ _ | with_reducible refine Below.setCell ?_ ?_ _)); all_goals (first | omega | (simp; done) | (simp; omega))) hb5; have hs5 := hB.size) | ((refine step_push (α := Spot) (w0 := w) rfl _ _ rfl rfl HNL.out.symm (HOW.out.later (by (repeat (first | with_reducible exact hB | with_reducible apply Below.drew | with_reducible refine Below.alloc ?_ ?_ _ | with_reducible refine Below.setCell ?_ ?_ _)); all_goals (first | omega | (simp; done) | (simp; omega)))) rfl rfl (src1 hok (by first | rfl | simp) rfl) (by omega) ?_); intro A6 c6 w6 o6 hE))
      go_wp2
      go_roundw
      case rel => exact ⟨k + 1, A6, c6, hlt, by go_num, rfl, by rw [HN.out]; exact o6⟩
      case measure => simp [intOf]; omega
    · have HE : Hid (spotsOf xs = spotsOf (xs.take k)) := Lib.hid (by rw [List.take_of_length_le (by omega)])
      have HNL : Hid (k = (spotsOf (xs.take k)).length) := Lib.hid (by rw [spotsOf_len, List.length_take]; omega)
      clear hown hb
      go_wp2
      go_ret
      exact OwnRes.mk HOW.out HE.out HNL.out
end Go.Proofs.YtojbehmbeoemgaaDoor

set_option linter.unusedVariables false
set_option linter.unusedSimpArgs false
namespace Go.Proofs.YtojbehmbeoemgaaDoor
open Go.RowKit Lay Mk
def GroveRes (xs : List Leaf) (A : Option Addr) (cap : Nat) (n : Int) (w : World) (e : Ending) (w' : World) : Prop := ∃ A2 c2, e = .returned (.agg #[.slice A xs.length cap, .slice A2 xs.length c2, .int .i64 n]) ∧ Own w w' A2 c2 (ixs xs)
theorem ixs_snoc {xs : List Leaf} {k : Nat} (h : k < xs.length) : ixs (xs.take (k + 1)) = ixs (xs.take k) ++ [(indexOf xs[k].name : Int)] := by
  unfold ixs; rw [List.take_succ_eq_append_getElem h, List.map_append]; rfl
set_option maxRecDepth 20000 in set_option maxHeartbeats 16000000 in
theorem impl_newGrove (w : World) (xs : List Leaf) (A : Option Addr) (cap : Nat) (S : Blks) (hx : Row false w A cap xs S) (hl : xs.length ≤ 1048576) (hz : szL xs ≤ 1048576) (n : Int) (hT : Tabs w) : Calls Tryd.prog 70 #[.slice A xs.length cap, .int .i64 n] w (GroveRes xs A cap n w) := by
  have HT := Lib.hid hT
  clear hT
  have hWd : ∀ W, W = (w.alloc (.cells #[.slice none 0 0, .slice none 0 0, .int .i64 0] 103)).alloc (.cells #[.slice A xs.length cap, .slice none 0 0, .int .i64 n] 103) → Below w.heap.size w W ∧ W.heap.size = w.heap.size + 2 ∧ (∀ o, W.frozen? ⟨w.heap.size, o, none⟩ = false) ∧ (∀ o, W.frozen? ⟨w.heap.size + 1, o, none⟩ = false) ∧ W.cell? ⟨w.heap.size, 0, none⟩ = some (.slice none 0 0) ∧ W.cell? ⟨w.heap.size, 1, none⟩ = some (.slice none 0 0) ∧ W.cell? ⟨w.heap.size, 2, none⟩ = some (.int .i64 0) ∧ W.cell? ⟨w.heap.size + 1, 0, none⟩ = some (.slice A xs.length cap) ∧ W.cell? ⟨w.heap.size + 1, 1, none⟩ = some (.slice none 0 0) ∧ W.cell? ⟨w.heap.size + 1, 2, none⟩ = some (.int .i64 n) := by
    rintro W rfl
    refine ⟨((Below.refl _ _).alloc (Nat.le_refl _) _).alloc (by simp) _, by simp, fun o => by simp, fun o => by simp, ?_⟩
    refine ⟨by simp, by simp, by simp, by simp, by simp, by simp⟩
  go_enter Tryd.func70, Tryd.ntmps70
  go_wp2_with (fail)
  obtain ⟨W, hW⟩ : ∃ W, (w.alloc (.cells #[.slice none 0 0, .slice none 0 0, .int .i64 0] 103)).alloc (.cells #[.slice A xs.length cap, .slice none 0 0, .int .i64 n] 103) = W := ⟨_, rfl⟩
  rw [hW]
  obtain ⟨hBW, hWs, zf, gf, z0, z1, z2, g0, g1, g2⟩ := hWd W hW.symm
  clear hW hWd
  have hWl : w.heap.size + 2 ≤ W.heap.size := by omega
  clear hWs
  go_loopw [13] (fun i wr => ∃ (k : Nat) (A2 : Option Addr) (c : Nat), k ≤ xs.length ∧ i = .int .i64 k ∧ Hid (Row true wr A2 c (ixs (xs.take k)) (nw (w.heap.size + 2))) ∧ Hid (k ≤ c ∧ c ≤ maxLen) ∧ Hid (Below w.heap.size w wr) ∧ w.heap.size + 2 ≤ wr.heap.size ∧ Hid (∀ o, wr.frozen? ⟨w.heap.size, o, none⟩ = false) ∧ (∀ o, wr.frozen? ⟨w.heap.size + 1, o, none⟩ = false) ∧ Hid (wr.cell? ⟨w.heap.size, 0, none⟩ = some (.slice none 0 0) ∧ wr.cell? ⟨w.heap.size, 1, none⟩ = some (.slice none 0 0) ∧ wr.cell? ⟨w.heap.size, 2, none⟩ = some (.int .i64 0)) ∧ wr.cell? ⟨w.heap.size + 1, 0, none⟩ = some (.slice A xs.length cap) ∧ wr.cell? ⟨w.heap.size + 1, 1, none⟩ = some (.slice A2 k c) ∧ wr.cell? ⟨w.heap.size + 1, 2, none⟩ = some (.int .i64 n)) (fun i _ => xs.length - (intOf i).toNat)
  case atStart => exact ⟨0, none, 0, Nat.zero_le _, rfl, Lib.hid (row_nil _ _), Lib.hid ⟨Nat.le_refl _, by decide⟩, Lib.hid hBW, hWl, Lib.hid zf, gf, Lib.hid ⟨z0, z1, z2⟩, g0, g1, g2⟩
  case round =>
    clear zf gf z0 z1 z2 g0 g1 g2 hBW hWl
    obtain ⟨k, A2, c, hk, rfl, HR, HC, HB, hzr, ZF, gf, ZZ, g0, g1, g2⟩ := hrel
    by_cases hlt : k < xs.length
    · obtain ⟨b1, o1, rfl, hl1, e0, e1, s0, s1⟩ := Row.atLeaf hx hlt
      replace e0 := (HB.out.cell (p := ⟨b1, o1 + k * 2, none⟩) hl1).trans e0
      replace e1 := (HB.out.cell (p := ⟨b1, o1 + k * 2 + 1, none⟩) hl1).trans e1
      have HN := Lib.hid (ixs_snoc hlt)
      have hsz := leaf_size hlt hz
      obtain ⟨x, hx'⟩ : ∃ x, xs[k] = x := ⟨_, rfl⟩
      rw [hx'] at e0 e1 HN hsz
      clear hx' s0 s1
      have hlb : b1 < wr.heap.size := Nat.lt_of_lt_of_le hl1 HB.out.size
      have hbw : b1 < w.heap.size := hl1
      have hlw : w.heap.size ≤ wr.heap.size := by omega
      have hlen : (ixs (xs.take k)).length = k := by rw [ixs_len, List.length_take]; omega
      have HLN := Lib.hid hlen
      clear hlen
      go_wp2_with (fail)
      obtain ⟨V, hV⟩ : ∃ V, wr.alloc (.cells #[.string x.name, .string x.value] 110) = V := ⟨_, rfl⟩
      have hVB : Below wr.heap.size wr V := by rw [← hV]; exact (Below.refl _ _).alloc (Nat.le_refl _) _
      have hVs : wr.heap.size < V.heap.size := by rw [← hV]; simp
      have x0 : V.cell? ⟨wr.heap.size, 0, none⟩ = some (.string x.name) := by rw [← hV]; exact box_cell _ _ _ _ _ rfl
      rw [hV]
      clear hV
      replace g0 := (hVB.cell (p := ⟨w.heap.size + 1, 0, none⟩) (by show w.heap.size + 1 < _; omega)).trans g0
      replace g1 := (hVB.cell (p := ⟨w.heap.size + 1, 1, none⟩) (by show w.heap.size + 1 < _; omega)).trans g1
      replace g2 := (hVB.cell (p := ⟨w.heap.size + 1, 2, none⟩) (by show w.heap.size + 1 < _; omega)).trans g2
      replace gf := fun o => (hVB.frozen (p := ⟨w.heap.size + 1, o, none⟩) (by show w.heap.size + 1 < _; omega)).trans (gf o)
      have HR1 := Lib.hid (Row.later HR.out hVB)
      have HB1 := Lib.hid (HB.out.trans (hVB.mono hlw))
      have hzV : w.heap.size + 2 ≤ V.heap.size := by omega
      have HIX := Lib.hid (fun W' (h : Below V.heap.size V W') => impl_IndexOf W' x.name (by omega) (HT.out.later (HB1.out.trans (h.mono (by omega)))))
      have ZF1 := Lib.hid (fun o => (hVB.frozen (p := ⟨w.heap.size, o, none⟩) (by show w.heap.size < _; omega)).trans (ZF.out o))
      have ZZ1 := Lib.hid (And.intro ((hVB.cell (p := ⟨w.heap.size, 0, none⟩) (by show w.heap.size < _; omega)).trans ZZ.out.1) (And.intro ((hVB.cell (p := ⟨w.heap.size, 1, none⟩) (by show w.heap.size < _; omega)).trans ZZ.out.2.1) ((hVB.cell (p := ⟨w.heap.size, 2, none⟩) (by show w.heap.size < _; omega)).trans ZZ.out.2.2)))
      clear hVB e0 e1
      have hok : Flat.ok (indexOf x.name : Int) := (show I64 _ from by have := indexOf_lt x.name; unfold I64; omega)
      obtain ⟨ix, hix⟩ : ∃ ix, indexOf x.name = ix := ⟨_, rfl⟩
      rw [hix] at HIX HN hok
      clear hix
      go_region_law (first | (go_simp; go_at_call 62; refine (HIX.out _ (by first | exact Below.refl _ _ | exact (Below.refl _ _).drew)).mono ?_; rintro e5 w5 ⟨rfl, hb5⟩; have hV5 : Below V.heap.size V w5 := (by first | exact hb5 | exact Below.viad hb5); have hs5 := hV5.size; have hlg5 : w.heap.size + 1 < w5.heap.size := (by omega); have HR5 := Lib.hid (Row.later HR1.out hV5); have g15 := (hV5.cell (p := ⟨w.heap.size + 1, 1, none⟩) (by show w.heap.size + 1 < _; omega)).trans g1; clear hb5) | (refine step_app (α := Int) rfl _ _ rfl rfl HLN.out.symm (HR5.out.allocC _) HC.out.1 HC.out.2 rfl rfl (src1 hok (by first | rfl | simp) rfl) (disj_none_ _) (by omega) ?_; intro A6 c6 w6 h1 h2 h3 h4; have hV6 : Below (w.heap.size + 2) V w6 := (((hV5.mono hzV).alloc (by omega) _).trans (h4.to_below (by simp; omega) (fun b hb => hb))); have hs6 := h4.size; rw [World.size_alloc] at hs6; have hlg6 : w.heap.size + 1 < w6.heap.size := (by omega); have g06 := (hV6.cell (p := ⟨w.heap.size + 1, 0, none⟩) (by show w.heap.size + 1 < _; omega)).trans g0; have g16 := (hV6.cell (p := ⟨w.heap.size + 1, 1, none⟩) (by show w.heap.size + 1 < _; omega)).trans g1; have g26 := (hV6.cell (p := ⟨w.heap.size + 1, 2, none⟩) (by show w.heap.size + 1 < _; omega)).trans g2; have gf6 := fun o => (hV6.frozen (p := ⟨w.heap.size + 1, o, none⟩) (by show w.heap.size + 1 < _; omega)).trans (gf o); have HK6 := Lib.hid (And.intro h1 (And.intro h2 h3)); clear h1 h2 h3 h4 HR5))
      all_goals
        have hN2 : Row true w6 A6 c6 (ixs (xs.take (k + 1))) (nw (w.heap.size + 2)) := by
          rw [HN.out]
          exact row_og HK6.out.2.2 (fun b hb => by show w.heap.size + 2 ≤ b; rw [World.size_alloc] at hb; omega)
        have HNR := Lib.hid hN2
        have HB6 := Lib.hid (HB1.out.trans (hV6.mono (by omega)))
        have HV6 := Lib.hid hV6
        have HW1 := Lib.hid (World.cell?_setCell_same w6 ⟨w.heap.size + 1, 1, none⟩ (.slice A6 (k + 1) c6) g16)
        clear hN2 HN hV6 HR1 hV5 HIX x0
        go_wp2
        go_roundw
        case rel => exact ⟨k + 1, A6, c6, hlt, by go_num, Lib.hid (HNR.out.setC (by show ¬ (w.heap.size + 2 ≤ w.heap.size + 1); omega) _), Lib.hid ⟨HK6.out.1, HK6.out.2.1⟩, Lib.hid (Below.setCell HB6.out (by show w.heap.size ≤ w.heap.size + 1; omega) _), by simp; omega, Lib.hid (fun o => by simpa using (HV6.out.frozen (p := ⟨w.heap.size, o, none⟩) (by show w.heap.size < _; omega)).trans (ZF1.out o)), fun o => by simpa using gf6 o, Lib.hid ⟨(World.cell?_setCell_other _ _ _ _ (by intro h; injection h with h1 h2 h3; omega)).trans ((HV6.out.cell (p := ⟨w.heap.size, 0, none⟩) (by show w.heap.size < _; omega)).trans ZZ1.out.1), (World.cell?_setCell_other _ _ _ _ (by intro h; injection h with h1 h2 h3; omega)).trans ((HV6.out.cell (p := ⟨w.heap.size, 1, none⟩) (by show w.heap.size < _; omega)).trans ZZ1.out.2.1), (World.cell?_setCell_other _ _ _ _ (by intro h; injection h with h1 h2 h3; omega)).trans ((HV6.out.cell (p := ⟨w.heap.size, 2, none⟩) (by show w.heap.size < _; omega)).trans ZZ1.out.2.2)⟩, (World.cell?_setCell_other _ _ _ _ (by intro h; injection h with h1 h2 h3; omega)).trans g06, HW1.out, (World.cell?_setCell_other _ _ _ _ (by intro h; injection h with h1 h2 h3; omega)).trans g26⟩
        case measure => simp [intOf]; omega
    · have hke : k = xs.length := by omega
      subst hke
      have hR2 : Row true wr A2 c (ixs xs) (nw (w.heap.size + 2)) := by have h9 := HR.out; rwa [List.take_of_length_le (Nat.le_refl _)] at h9
      have HR2 := Lib.hid hR2
      have HB2 := Lib.hid HB.out
      have hlg : w.heap.size < wr.heap.size := by omega
      obtain ⟨z0, z1, z2⟩ := ZZ.out
      have zf := ZF.out
      clear hR2 HR ZF ZZ
      go_wp2
      refine bodyPost_ret (v := .agg #[.slice A xs.length cap, .slice A2 xs.length c, .int .i64 n]) (by simp [results, Tryd.results70, go_sem, *]) rfl ?_
      have hns : ∀ o : Nat, ¬ nw (w.heap.size + 2) (⟨w.heap.size, o, none⟩ : Addr).block := fun o => by show ¬ (w.heap.size + 2 ≤ w.heap.size); omega
      exact ⟨A2, c, rfl, ⟨(((HR2.out.setC (hns 0) _).setC (hns 1) _).setC (hns 2) _).mono (fun b hb => Nat.le_trans (Nat.le_add_right _ 2) hb), by rw [ixs_len]; exact HC.out.1, HC.out.2, Below.setCell (Below.setCell (Below.setCell HB2.out (Nat.le_refl _) _) (Nat.le_refl _) _) (Nat.le_refl _) _⟩⟩
end Go.Proofs.YtojbehmbeoemgaaDoor
