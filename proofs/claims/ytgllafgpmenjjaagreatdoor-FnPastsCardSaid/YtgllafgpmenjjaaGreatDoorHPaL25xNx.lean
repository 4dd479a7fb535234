/- A part of the proof: what the laws need of it. -/
import Derived.Test.YtgllafgpmenjjaaGreatDoorHPaL24xNw
import Derived.Test.YtgllafgpmenjjaaGreatDoorHPaL7xLw
import Derived.Test.YtgllafgpmenjjaaGreatDoorHPaL21xBk
import Derived.Test.YtgllafgpmenjjaaGreatDoorHPaSn
import Derived.Test.YtgllafgpmenjjaaGreatDoorHPaL6xInf
set_option linter.unusedVariables false
set_option linter.unusedSimpArgs false
set_option linter.unusedVariables false
set_option linter.unusedSimpArgs false
namespace Go.Proofs.YtgllafgpmenjjaaGreatDoor
open Go.RowKit Lay Mk
def EmptiesRes (n : Int) (w : World) (e : Ending) (w' : World) : Prop := ∃ b, e = .returned (.slice (some ⟨b, 0, none⟩) 9 9) ∧ w.heap.size ≤ b ∧ b < w'.heap.size ∧ (∀ j, j ≤ 8 → w'.cell? ⟨b, j, none⟩ = some (.string (emptyD n (8 - j)))) ∧ Below w.heap.size w w'
set_option maxRecDepth 20000 in set_option maxHeartbeats 8000000 in
theorem spec_l10Empties (w : World) (n : Int) (hn : I64 n) : Calls Tryz.prog 162 #[.int .i64 n] w (EmptiesRes n w) := by
  have hmk : ∀ W : World, (Instr.makeSlice 25 (.int .i64 9) (.int .i64 9)).run Tryz.prog W = .ok (.slice (some ⟨W.heap.size, 0, none⟩) 9 9) (W.alloc (.cells #[.string ⟨#[]⟩, .string ⟨#[]⟩, .string ⟨#[]⟩, .string ⟨#[]⟩, .string ⟨#[]⟩, .string ⟨#[]⟩, .string ⟨#[]⟩, .string ⟨#[]⟩, .string ⟨#[]⟩] 9)) := fun _ => by kernel_rfl
  have hWd : ∀ W, W = w.alloc (.cells #[.string ⟨#[]⟩, .string ⟨#[]⟩, .string ⟨#[]⟩, .string ⟨#[]⟩, .string ⟨#[]⟩, .string ⟨#[]⟩, .string ⟨#[]⟩, .string ⟨#[]⟩, .string ⟨#[]⟩] 9) → Below w.heap.size w W ∧ (∀ j, j ≤ 8 → W.cell? ⟨w.heap.size, j, none⟩ = some (.string ⟨#[]⟩)) ∧ (∀ o, W.frozen? ⟨w.heap.size, o, none⟩ = false) ∧ w.heap.size < W.heap.size := by
    rintro W rfl
    refine ⟨(Below.refl _ _).alloc (Nat.le_refl _) _, fun j hj => ?_, fun o => by simp, by simp⟩
    rcases (show j = 0 ∨ j = 1 ∨ j = 2 ∨ j = 3 ∨ j = 4 ∨ j = 5 ∨ j = 6 ∨ j = 7 ∨ j = 8 by omega) with rfl | rfl | rfl | rfl | rfl | rfl | rfl | rfl | rfl <;> exact box_cell _ _ _ _ _ rfl
  have HE0 : Hid (tagHash 1 [] n = emptyD n 0) := Lib.hid rfl
  have HEM := Lib.hid (fun k => emptyD_max n k)
  go_enter Tryz.func162, Tryz.ntmps162
  go_wp2_with (fail)
  obtain ⟨W, hW⟩ : ∃ W, w.alloc (.cells #[.string ⟨#[]⟩, .string ⟨#[]⟩, .string ⟨#[]⟩, .string ⟨#[]⟩, .string ⟨#[]⟩, .string ⟨#[]⟩, .string ⟨#[]⟩, .string ⟨#[]⟩, .string ⟨#[]⟩] 9) = W := ⟨_, rfl⟩
  rw [hW]
  obtain ⟨hBW, ha, hf, hlW⟩ := hWd W hW.symm
  clear hW hWd hmk
  have HBW := Lib.hid hBW
  have hlA := hlW
  refine (spec_TagHash _ 1 (by unfold I64; omega) [] _ 0 none_ (show Row false _ _ _ ([] : List ByteArray) none_ from fun h => absurd rfl h) (by simp) n hn).mono ?_
  rintro e0 w0 ⟨rfl, hb0⟩
  rw [HE0.out]
  have hV := Below.via hb0
  have hB0 := hBW.trans (hV.mono hBW.size)
  have ha0 := fun (j : Nat) (hj : j ≤ 8) => (hV.cell (p := ⟨w.heap.size, j, none⟩) hlW).trans (ha j hj)
  have hf0 := fun (o : Nat) => (hV.frozen (p := ⟨w.heap.size, o, none⟩) hlW).trans (hf o)
  have hl0 : w.heap.size < w0.heap.size := Nat.lt_of_lt_of_le hlW hV.size
  have h8 := ha0 8 (Nat.le_refl _)
  have HA0 := Lib.hid ha0
  have HF0 := Lib.hid hf0
  have HB0 := Lib.hid hB0
  have HS8 := Lib.hid (World.cell?_setCell_same w0 ⟨w.heap.size, 8, none⟩ (.string (emptyD n 0)) h8)
  have HES : Hid (∀ k, tagHash 3 [emptyD n k, emptyD n k] n = emptyD n (k + 1)) := Lib.hid (fun _ => rfl)
  clear ha hf hBW hb0 hV ha0 hB0 hlA HE0
  go_wp2
  go_loopw [4] (fun i wr => ∃ l : Nat, l ≤ 8 ∧ i = .int .i64 ((l : Int) - 1) ∧ Hid (∀ j, l ≤ j → j ≤ 8 → wr.cell? ⟨w.heap.size, j, none⟩ = some (.string (emptyD n (8 - j)))) ∧ Hid (∀ j, j < l → wr.cell? ⟨w.heap.size, j, none⟩ = some (.string ⟨#[]⟩)) ∧ Hid (∀ o, wr.frozen? ⟨w.heap.size, o, none⟩ = false) ∧ Hid (Below w.heap.size w wr) ∧ w.heap.size < wr.heap.size) (fun i _ => (intOf i + 1).toNat)
  case atStart =>
    refine ⟨8, Nat.le_refl _, rfl, Lib.hid (fun j h1 h2 => ?_), Lib.hid (fun j h1 => ?_), Lib.hid (fun o => by simpa using HF0.out o), Lib.hid (Below.setCell HB0.out (Nat.le_refl _) _), by simpa using hl0⟩
    · obtain rfl : j = 8 := by omega
      exact HS8.out
    · exact (World.cell?_setCell_other _ _ _ _ (by intro h; injection h with h1 h2 h3; omega)).trans (HA0.out j (by omega))
  case round =>
    clear h8 hf0 hl0
    obtain ⟨l, hl8, rfl, HC, HZ, HFZ, HBr, hlr⟩ := hrel
    by_cases hl0 : l = 0
    · subst hl0
      go_wp2
      go_ret
      exact ⟨w.heap.size, rfl, Nat.le_refl _, hlr, fun j hj => HC.out j (Nat.zero_le _) hj, HBr.out⟩
    · obtain ⟨q, rfl⟩ : ∃ q, l = q + 1 := ⟨l - 1, by omega⟩
      have hqe : (((q + 1 : Nat) : Int) - 1) = (q : Int) := by omega
      simp only [hqe]
      have x1 := HC.out (q + 1) (Nat.le_refl _) hl8
      have x0 := HZ.out q (by omega)
      have hfr := HFZ.out q
      have hq8 : q < 8 := by omega
      have hqge : (q : Int) ≥ 0 := by omega
      have hq0 : (0 : Int) ≤ (q : Int) := by omega
      have hq9 : (q : Int) < 9 := by omega
      have hq1 : IntKind.i64.wrap ((q : Int) + 1) = (q : Int) + 1 := by rw [IntWalk.i64_in] <;> omega
      have hq19 : (q : Int) + 1 < 9 := by omega
      have hq10 : (0 : Int) ≤ (q : Int) + 1 := by omega
      have hqt : ((q : Int) + 1).toNat = q + 1 := by omega
      have hqm : IntKind.i64.wrap ((q : Int) - 1) = (q : Int) - 1 := by rw [IntWalk.i64_in] <;> omega
      have HST : Hid (tagHash 3 [emptyD n (8 - (q + 1)), emptyD n (8 - (q + 1))] n = emptyD n (8 - q)) := Lib.hid (by rw [HES.out]; congr 1; omega)
      have hem := HEM.out (8 - (q + 1))
      have HM := Lib.hid (fun (w' : World) (h : Below wr.heap.size wr w') => (⟨(h.cell (p := ⟨w.heap.size, q + 1, none⟩) hlr).trans x1, HBr.out.trans (h.mono (Nat.le_of_lt hlr))⟩ : w'.cell? ⟨w.heap.size, q + 1, none⟩ = some (.string (emptyD n (8 - (q + 1)))) ∧ Below w.heap.size w w'))
      have HM0 := Lib.hid (fun (w' : World) (h : Below wr.heap.size wr w') => (⟨(h.cell (p := ⟨w.heap.size, q, none⟩) hlr).trans x0, (h.frozen (p := ⟨w.heap.size, q, none⟩) hlr).trans hfr⟩ : w'.cell? ⟨w.heap.size, q, none⟩ = some (.string ⟨#[]⟩) ∧ w'.frozen? ⟨w.heap.size, q, none⟩ = false))
      have HMA := Lib.hid (fun (w' : World) (h : Below wr.heap.size wr w') => (⟨fun j h1 h2 => (h.cell (p := ⟨w.heap.size, j, none⟩) hlr).trans (HC.out j h1 h2), fun j h1 => (h.cell (p := ⟨w.heap.size, j, none⟩) hlr).trans (HZ.out j h1), fun o => (h.frozen (p := ⟨w.heap.size, o, none⟩) hlr).trans (HFZ.out o)⟩ : (∀ j, q + 1 ≤ j → j ≤ 8 → w'.cell? ⟨w.heap.size, j, none⟩ = some (.string (emptyD n (8 - j)))) ∧ (∀ j, j < q + 1 → w'.cell? ⟨w.heap.size, j, none⟩ = some (.string ⟨#[]⟩)) ∧ (∀ o, w'.frozen? ⟨w.heap.size, o, none⟩ = false)))
      obtain ⟨E, hEe⟩ : ∃ E, emptyD n (8 - (q + 1)) = E := ⟨_, rfl⟩
      simp only [hEe] at HST hem HM x1
      have hB := Below.refl wr.heap.size wr
      have HEE := Lib.hid hEe
      clear hEe x1 x0 hfr HC HZ HFZ hqe
      go_wp2_with (fail)
      go_region_held3 (fun w' => w'.cell? ⟨w.heap.size, q + 1, none⟩ = some (.string E) ∧ Below w.heap.size w w')
        (first | exact ⟨(World.cell?_setCell_other _ _ _ _ (by intro h; injection h with h1 h2 h3; omega)).trans (HM.out _ hB).1, Below.setCell (HM.out _ hB).2 (Nat.le_refl _) _⟩ | exact HM.out _ (by (repeat (first | with_reducible exact hB | with_reducible apply Below.drew | with_reducible refine Below.alloc ?_ ?_ _)); all_goals (first | omega | (simp; done) | (simp; omega))))
        (first | (go_at_call 127; refine (spec_TagHash _ 3 (by unfold I64; omega) [E, E] _ _ _ (by first | exact row_pairAt _ E E hem hem _ _ (by first | rfl | simp) | exact Row.drewC (row_pairAt _ E E hem hem _ _ (by first | rfl | simp))) (by simp) n hn).mono ?_; rintro e5 w5 ⟨rfl, hb5⟩; have hB := Below.step (a := wr) (by (repeat (first | with_reducible exact hB | with_reducible apply Below.drew | with_reducible refine Below.alloc ?_ ?_ _)); all_goals (first | omega | (simp; done) | (simp; omega))) hb5; have hs5 := hB.size; have hl5 : w.heap.size < w5.heap.size := (by omega); have y0 := (HM0.out _ hB).1; have yf := (HM0.out _ hB).2) | fail)
      obtain ⟨HA1, HA2, HA3⟩ := HMA.out _ hB
      have HSS := Lib.hid (World.cell?_setCell_same w5 ⟨w.heap.size, q, none⟩ (.string (emptyD n (8 - q))) y0)
      have HRR := Lib.hid (And.intro HA1 (And.intro HA2 HA3))
      have HB5 := Lib.hid (HBr.out.trans (hB.mono (Nat.le_of_lt hlr)))
      rw [HST.out]
      clear HA1 HA2 HA3 y0 yf
      go_wp2
      go_roundw
      case rel =>
        refine ⟨q, by omega, by go_num, Lib.hid (fun j h1 h2 => ?_), Lib.hid (fun j h1 => ?_), Lib.hid (fun o => by simpa using HRR.out.2.2 o), Lib.hid (Below.setCell HB5.out (Nat.le_refl _) _), by simpa using hl5⟩
        · by_cases hjq : j = q
          · subst hjq; exact HSS.out
          · exact (World.cell?_setCell_other _ _ _ _ (by intro h; injection h with h1 h2 h3; omega)).trans (HRR.out.1 j (by omega) h2)
        · exact (World.cell?_setCell_other _ _ _ _ (by intro h; injection h with h1 h2 h3; omega)).trans (HRR.out.2.1 j (by omega))
      case measure => simp [intOf]
end Go.Proofs.YtgllafgpmenjjaaGreatDoor

set_option linter.unusedVariables false
set_option linter.unusedSimpArgs false
namespace Go.Proofs.YtgllafgpmenjjaaGreatDoor
open Go.RowKit Lay Mk
def PlRes (R : Proof × Bool) (w : World) (e : Ending) (w' : World) : Prop := ∃ c, e = .returned (.tuple #[.agg c.toArray, .bool R.2]) ∧ rd true w' c R.1 (rng w.heap.size w'.heap.size) ∧ Below w.heap.size w w'
theorem PlRes.mk {R : Proof × Bool} {B : List Leaf} {L : List ByteArray} {b : Bool} {w w' : World} {A A' : Option Addr} {c c' n n' : Nat} {S S' : Blks} (hR : R = (⟨B, L⟩, b)) (hn : n = B.length) (hn' : n' = L.length) (l1 : B.length ≤ c) (m1 : c ≤ maxLen) (r1 : Row true w' A c B S) (l2 : L.length ≤ c') (m2 : c' ≤ maxLen) (r2 : Row true w' A' c' L S') (hd : disj S S') (s1 : sub S (rng w.heap.size w'.heap.size)) (s2 : sub S' (rng w.heap.size w'.heap.size)) (hb : Below w.heap.size w w') :
    PlRes R w (.returned (.tuple #[.agg #[.slice A n c, .slice A' n' c'], .bool b])) w' := by
  subst hR; subst hn; subst hn'
  exact ⟨[.slice A B.length c, .slice A' L.length c'], rfl, Proof.mk' (x := ⟨B, L⟩) (S0 := S) (S1 := S') l1 m1 r1 s1 l2 m2 r2 s2 (fun _ => pwmk2 hd), hb⟩
theorem PlRes.nil {R : Proof × Bool} {w w' : World} (hR : R = (⟨[], []⟩, false)) (hb : Below w.heap.size w w') : PlRes R w (.returned (.tuple #[.agg #[.slice none 0 0, .slice none 0 0], .bool false])) w' :=
  PlRes.mk (S := none_) (S' := none_) hR rfl rfl (Nat.le_refl _) (by decide) (row_nil _ _) (Nat.le_refl _) (by decide) (row_nil _ _) (disj_none_ _) (fun _ h => h.elim) (fun _ h => h.elim) hb
end Go.Proofs.YtgllafgpmenjjaaGreatDoor

set_option linter.unusedVariables false
set_option linter.unusedSimpArgs false
namespace Go.Proofs.YtgllafgpmenjjaaGreatDoor
open Go.RowKit Lay Mk
def sidesUp : Nat → Nat → List ByteArray → List ByteArray
  | 0, _, _ => []
  | m + 1, k, l => l.getD (k ^^^ 1) ⟨#[]⟩ :: sidesUp m (k / 2) (aboveL 16 l)
theorem aboveT_at (n : Int) (l : List ByteArray) : ∀ k j, j < k → (aboveT n l k).getD j ⟨#[]⟩ = tagHash 3 [l.getD (2 * j) ⟨#[]⟩, l.getD (2 * j + 1) ⟨#[]⟩] n
  | 0, j, h => absurd h (Nat.not_lt_zero j)
  | k + 1, j, h => by
    unfold aboveT
    rw [List.getD_eq_getElem?_getD]
    rcases Nat.lt_succ_iff_lt_or_eq.1 h with h1 | h1
    · rw [List.getElem?_append_left (by rw [aboveT_len]; exact h1), ← List.getD_eq_getElem?_getD]; exact aboveT_at n l k j h1
    · subst h1; rw [List.getElem?_append_right (by rw [aboveT_len]; exact Nat.le_refl _), aboveT_len, Nat.sub_self]; rfl
theorem climb_top : ∀ (m k : Nat) (l : List ByteArray), l.length = 2 ^ m → k < 2 ^ m → climb (l.getD k ⟨#[]⟩) k (sidesUp m k l) = topOf 16 m l
  | 0, k, l, h, hk => by
    have : k = 0 := by simpa using hk
    subst this; rfl
  | m + 1, k, l, h, hk => by
    rw [Nat.pow_succ] at h hk
    have hl : (aboveL 16 l).length = 2 ^ m := by rw [aboveL_len, h]; omega
    have hk2 : k / 2 < 2 ^ m := by omega
    have ih := climb_top m (k / 2) (aboveL 16 l) hl hk2
    have e : (aboveL 16 l).getD (k / 2) ⟨#[]⟩ = tagHash 3 [l.getD (2 * (k / 2)) ⟨#[]⟩, l.getD (2 * (k / 2) + 1) ⟨#[]⟩] 16 := aboveT_at 16 l _ _ (by rw [h]; omega)
    show climb (l.getD k ⟨#[]⟩) k (l.getD (k ^^^ 1) ⟨#[]⟩ :: sidesUp m (k / 2) (aboveL 16 l)) = topOf 16 m (aboveL 16 l)
    rw [← ih, e]
    rcases Nat.mod_two_eq_zero_or_one k with h2 | h2
    · rw [climb_even h2, xor_even h2, show 2 * (k / 2) = k by omega]
    · rw [climb_odd (by omega), xor_odd h2, show 2 * (k / 2) + 1 = k by omega, show 2 * (k / 2) = k - 1 by omega]
def all16 (l : List ByteArray) : Prop := ∀ k, k < l.length → (l.getD k ⟨#[]⟩).size = 16
theorem all16_up {l : List ByteArray} (h : all16 l) : all16 (aboveL 16 l) := by
  intro k hk
  rw [aboveL_len] at hk
  rw [show aboveL 16 l = aboveT 16 l (l.length / 2) from rfl, aboveT_at 16 l _ _ hk]
  exact tagHash_size (tag_two (by decide) (by rw [h _ (by omega)]; omega) (by rw [h _ (by omega)]; omega))
theorem sidesUp_len : ∀ (m k : Nat) (l : List ByteArray), (sidesUp m k l).length = m
  | 0, _, _ => rfl
  | m + 1, k, l => by show (sidesUp m (k / 2) (aboveL 16 l)).length + 1 = m + 1; rw [sidesUp_len m]
theorem sidesUp_16 : ∀ (m k : Nat) (l : List ByteArray), l.length = 2 ^ m → k < 2 ^ m → all16 l → ∀ s ∈ sidesUp m k l, s.size = 16
  | 0, _, _, _, _, _, s, hs => by cases hs
  | m + 1, k, l, h, hk, ha, s, hs => by
    rw [Nat.pow_succ] at h hk
    have hl : (aboveL 16 l).length = 2 ^ m := by rw [aboveL_len, h]; omega
    rcases List.mem_cons.1 hs with rfl | hs
    · apply ha
      rcases Nat.mod_two_eq_zero_or_one k with h2 | h2
      · rw [xor_even h2]; omega
      · rw [xor_odd h2]; omega
    · exact sidesUp_16 m (k / 2) (aboveL 16 l) hl (by omega) (all16_up ha) s hs
def opensTo (seed : ByteArray) (a : Int) (bits : Nat) : Nat → List ByteArray
  | 0 => []
  | k + 1 => opensTo seed a bits k ++ [secretOf seed a (k : Int) (bitOf bits k : Int)]
def shutsTo (seed : ByteArray) (a : Int) (bits : Nat) : Nat → List ByteArray
  | 0 => []
  | k + 1 => shutsTo seed a bits k ++ [lockOf (secretOf seed a (k : Int) ((1 - bitOf bits k : Nat) : Int))]
theorem opens_len (seed : ByteArray) (a : Int) (bits : Nat) : ∀ k, (opensTo seed a bits k).length = k
  | 0 => rfl
  | k + 1 => by unfold opensTo; rw [List.length_append, opens_len seed a bits k]; rfl
theorem shuts_len (seed : ByteArray) (a : Int) (bits : Nat) : ∀ k, (shutsTo seed a bits k).length = k
  | 0 => rfl
  | k + 1 => by unfold shutsTo; rw [List.length_append, shuts_len seed a bits k]; rfl
theorem opens_at (seed : ByteArray) (a : Int) (bits : Nat) : ∀ k j, j < k → (opensTo seed a bits k).getD j ⟨#[]⟩ = secretOf seed a (j : Int) (bitOf bits j : Int)
  | 0, j, h => absurd h (Nat.not_lt_zero j)
  | k + 1, j, h => by
    unfold opensTo
    rw [List.getD_eq_getElem?_getD]
    rcases Nat.lt_succ_iff_lt_or_eq.1 h with h1 | h1
    · rw [List.getElem?_append_left (by rw [opens_len]; exact h1), ← List.getD_eq_getElem?_getD]; exact opens_at seed a bits k j h1
    · subst h1; rw [List.getElem?_append_right (by rw [opens_len]; exact Nat.le_refl _), opens_len, Nat.sub_self]; rfl
theorem shuts_at (seed : ByteArray) (a : Int) (bits : Nat) : ∀ k j, j < k → (shutsTo seed a bits k).getD j ⟨#[]⟩ = lockOf (secretOf seed a (j : Int) ((1 - bitOf bits j : Nat) : Int))
  | 0, j, h => absurd h (Nat.not_lt_zero j)
  | k + 1, j, h => by
    unfold shutsTo
    rw [List.getD_eq_getElem?_getD]
    rcases Nat.lt_succ_iff_lt_or_eq.1 h with h1 | h1
    · rw [List.getElem?_append_left (by rw [shuts_len]; exact h1), ← List.getD_eq_getElem?_getD]; exact shuts_at seed a bits k j h1
    · subst h1; rw [List.getElem?_append_right (by rw [shuts_len]; exact Nat.le_refl _), shuts_len, Nat.sub_self]; rfl
theorem bit_two (n k : Nat) : bitOf n k = 0 ∨ bitOf n k = 1 := by unfold bitOf; omega
def signSig (seed : ByteArray) (a : Nat) (t : ByteArray) : Sig := ⟨(a : Int), opensTo seed a (signBits t) 8, shutsTo seed a (signBits t) 8, sidesUp 4 a (poolOf seed)⟩
theorem sign_locks (seed : ByteArray) (a : Nat) (t : ByteArray) : ∀ k, k ≤ 8 → locksTo (signBits t) (signSig seed a t) k = pubLocks seed (a : Int) (2 * k)
  | 0, _ => rfl
  | k + 1, h => by
    unfold locksTo
    rw [sign_locks seed a t k (by omega)]
    have e1 := pubLocks_next seed (a : Int) (b := k) (v := 0) (by omega)
    have e2 := pubLocks_next seed (a : Int) (b := k) (v := 1) (by omega)
    rw [show 2 * k + 0 + 1 = 2 * k + 1 from rfl, Nat.add_zero] at e1
    rw [show 2 * (k + 1) = 2 * k + 1 + 1 by omega, e2, e1, List.append_assoc]
    congr 1
    have h1 : (signSig seed a t).open_.getD k ⟨#[]⟩ = secretOf seed (a : Int) (k : Int) (bitOf (signBits t) k : Int) := opens_at _ _ _ 8 k (by omega)
    have h2 : (signSig seed a t).shut.getD k ⟨#[]⟩ = lockOf (secretOf seed (a : Int) (k : Int) ((1 - bitOf (signBits t) k : Nat) : Int)) := shuts_at _ _ _ 8 k (by omega)
    rcases bit_two (signBits t) k with h3 | h3
    · rw [pair_zero h3, h1, h2, h3]; rfl
    · rw [pair_one (by omega), h1, h2, h3]; rfl
theorem poolTo_at (seed : ByteArray) : ∀ k j, j < k → (poolTo seed k).getD j ⟨#[]⟩ = publicOf seed (j : Int)
  | 0, j, h => absurd h (Nat.not_lt_zero j)
  | k + 1, j, h => by
    unfold poolTo
    rw [List.getD_eq_getElem?_getD]
    rcases Nat.lt_succ_iff_lt_or_eq.1 h with h1 | h1
    · rw [List.getElem?_append_left (by rw [poolTo_len]; exact h1), ← List.getD_eq_getElem?_getD]; exact poolTo_at seed k j h1
    · subst h1; rw [List.getElem?_append_right (by rw [poolTo_len]; exact Nat.le_refl _), poolTo_len, Nat.sub_self]; rfl
theorem pub_in {seed : ByteArray} (h : seed.size ≤ 100) {a : Nat} (ha : a < 16) : pubIn seed (a : Int) = true := by
  unfold pubIn; simp [h, inB]; omega
theorem pool_16 {seed : ByteArray} (h : seed.size ≤ 100) : all16 (poolOf seed) := by
  intro k hk
  have hk : k < 16 := by rw [show poolOf seed = poolTo seed 16 from rfl, poolTo_len] at hk; exact hk
  rw [show poolOf seed = poolTo seed 16 from rfl, poolTo_at seed 16 k hk]
  exact publicOf_yes (pub_in h hk)
theorem wide_of {l : List ByteArray} {n : Nat} (h1 : l.length = n) (h2 : ∀ k, k < n → (l.getD k ⟨#[]⟩).size = 16) : wideOk l n = true := by
  rw [wide_end, decide_eq_true h1]
  intro k hk
  rw [← getD_lt hk]; exact h2 k (by omega)
theorem sign_form {seed : ByteArray} (h : seed.size ≤ 100) {a : Nat} (ha : a < 16) (t : ByteArray) : sigForm (signSig seed a t) = true := by
  have hp := pub_in h ha
  have hpl : (poolOf seed).length = 2 ^ 4 := poolTo_len seed 16
  unfold sigForm
  rw [Bool.and_eq_true, Bool.and_eq_true, Bool.and_eq_true]
  refine ⟨⟨⟨?_, ?_⟩, ?_⟩, ?_⟩
  · show inB (a : Int) 0 15 = true
    simp [inB]; omega
  · refine wide_of (opens_len _ _ _ 8) (fun k hk => ?_)
    show ((opensTo seed a (signBits t) 8).getD k ⟨#[]⟩).size = 16
    rw [opens_at _ _ _ 8 k hk]
    exact secret_yes hk (by rcases bit_two (signBits t) k with h3 | h3 <;> omega) hp
  · refine wide_of (shuts_len _ _ _ 8) (fun k hk => ?_)
    show ((shutsTo seed a (signBits t) 8).getD k ⟨#[]⟩).size = 16
    rw [shuts_at _ _ _ 8 k hk]
    exact lockOf_size (by rw [secret_yes hk (by omega) hp]; omega)
  · refine wide_of (sidesUp_len 4 _ _) (fun k hk => ?_)
    show ((sidesUp 4 a (poolOf seed)).getD k ⟨#[]⟩).size = 16
    have hl : k < (sidesUp 4 a (poolOf seed)).length := by rw [sidesUp_len]; exact hk
    rw [getD_lt hl]
    exact sidesUp_16 4 a (poolOf seed) hpl ha (pool_16 h) _ (List.getElem_mem hl)
theorem sign_root {seed : ByteArray} (h : seed.size ≤ 100) {a : Nat} (ha : a < 16) (t : ByteArray) : sigRoot t (signSig seed a t) = poolRoot (poolOf seed) := by
  have hpl : (poolOf seed).length = 2 ^ 4 := poolTo_len seed 16
  unfold sigRoot
  rw [sign_locks seed a t 8 (Nat.le_refl _)]
  have h1 : tagHash 6 (pubLocks seed (a : Int) (2 * 8)) 16 = (poolOf seed).getD a ⟨#[]⟩ := by
    rw [show poolOf seed = poolTo seed 16 from rfl, poolTo_at seed 16 a ha, publicOf, if_pos (pub_in h ha)]
  rw [h1]
  show climb ((poolOf seed).getD a ⟨#[]⟩) ((a : Int)).toNat (sidesUp 4 a (poolOf seed)) = _
  rw [Int.toNat_natCast, climb_top 4 a (poolOf seed) hpl ha]
  unfold poolRoot
  rw [if_pos hpl]
theorem sign_ok {seed : ByteArray} (h : seed.size ≤ 100) {a : Nat} (ha : a < 16) {t : ByteArray} (ht : t.size ≤ 200) : sigOk (poolRoot (poolOf seed)) t (signSig seed a t) = true := by
  unfold sigOk
  rw [sign_form h ha, sign_root h ha, decide_eq_true ht, decide_eq_true rfl]; rfl
def sealOf (seed : ByteArray) (x : Head) : Seal := ⟨x, signSig seed (x.epoch.toNat - 1) (headHash x)⟩
theorem seal_at {x : Head} (h : headOk x = true) : sealAt x.epoch = ((x.epoch.toNat - 1 : Nat) : Int) ∧ x.epoch.toNat - 1 < 16 := by
  obtain ⟨-, ⟨h1, h2⟩, -, -⟩ := headOk_b h
  unfold sealAt
  rw [if_pos (by simp [inB]; omega)]
  omega
theorem seal_ok {seed : ByteArray} (h : seed.size ≤ 100) {x : Head} (hx : headOk x = true) : sealOk (poolRoot (poolOf seed)) (sealOf seed x) = true := by
  obtain ⟨h1, h2⟩ := seal_at hx
  have h3 := headHash_le x
  unfold sealOk sealOf
  simp only
  rw [hx, h1, sign_ok h h2 (by omega), show (signSig seed (x.epoch.toNat - 1) (headHash x)).at_ = ((x.epoch.toNat - 1 : Nat) : Int) from rfl, decide_eq_true rfl]; rfl
end Go.Proofs.YtgllafgpmenjjaaGreatDoor

set_option linter.unusedVariables false
set_option linter.unusedSimpArgs false
namespace Go.Proofs.YtgllafgpmenjjaaGreatDoor
open Go.RowKit Lay Mk
def stampKey (h e : Int) : Int := if (inB h 0 2 && inB e 1 4) = true then 4 * (h + 1) + e - 1 else -1
def stampTx (x : Head) : ByteArray := tagHash 8 [headHash x] 16
def stampOk (root : ByteArray) (x : Head) (s : Sig) : Bool := headOk x && decide (s.at_ = stampKey x.house x.epoch) && sigOk root (stampTx x) s
set_option maxRecDepth 20000 in set_option maxHeartbeats 4000000 in
theorem impl_StampAt (h e : Int) (w : World) : Calls Tryz.prog 149 #[.int .i64 h, .int .i64 e] w fun r w' => r = .returned (.int .i64 (stampKey h e)) ∧ w = w' := by
  cases h1 : inB h 0 2
  · have HC : Hid (stampKey h e = -1) := Lib.hid (by unfold stampKey; rw [h1]; rfl)
    go_enter Tryz.func149, Tryz.ntmps149
    go_wp2_with (first | (go_at_call 74; refine (house_in _ _).mono ?_; rintro e2 w2 ⟨rfl, rfl⟩) | (go_at_call 152; refine (epoch_in _ _).mono ?_; rintro e3 w3 ⟨rfl, rfl⟩))
    go_ret
    exact ⟨by rw [HC.out]; rfl, rfl⟩
  cases h2 : inB e 1 4
  · have HC : Hid (stampKey h e = -1) := Lib.hid (by unfold stampKey; rw [h1, h2]; rfl)
    go_enter Tryz.func149, Tryz.ntmps149
    go_wp2_with (first | (go_at_call 74; refine (house_in _ _).mono ?_; rintro e2 w2 ⟨rfl, rfl⟩) | (go_at_call 152; refine (epoch_in _ _).mono ?_; rintro e3 w3 ⟨rfl, rfl⟩))
    go_ret
    exact ⟨by rw [HC.out]; rfl, rfl⟩
  have HC : Hid (stampKey h e = 4 * (h + 1) + e - 1) := Lib.hid (by unfold stampKey; rw [h1, h2]; rfl)
  have hb1 : 0 ≤ h ∧ h ≤ 2 := by simpa [inB] using h1
  have hb2 : 1 ≤ e ∧ e ≤ 4 := by simpa [inB] using h2
  obtain ⟨q1, q2⟩ := hb1
  obtain ⟨q3, q4⟩ := hb2
  go_enter Tryz.func149, Tryz.ntmps149
  go_wp2_with (first | (go_at_call 74; refine (house_in _ _).mono ?_; rintro e2 w2 ⟨rfl, rfl⟩) | (go_at_call 152; refine (epoch_in _ _).mono ?_; rintro e3 w3 ⟨rfl, rfl⟩))
  go_ret
  exact ⟨by rw [HC.out]; rfl, rfl⟩
set_option maxRecDepth 20000 in set_option maxHeartbeats 4000000 in
theorem spec_StampAt (h e : Int) (w : World) : Calls Tryz.prog 139 #[.int .i64 h, .int .i64 e] w fun r w' => r = .returned (.int .i64 (stampKey h e)) ∧ w = w' := by
  cases h1 : inB h 0 2
  · have HC : Hid (stampKey h e = -1) := Lib.hid (by unfold stampKey; rw [h1]; rfl)
    go_enter Tryz.func139, Tryz.ntmps139
    go_wp2_with (go_at_call 87; refine (spec_in _ _ _ _).mono ?_; rintro e2 w2 ⟨rfl, rfl⟩)
    go_ret
    exact ⟨by rw [HC.out]; rfl, rfl⟩
  cases h2 : inB e 1 4
  · have HC : Hid (stampKey h e = -1) := Lib.hid (by unfold stampKey; rw [h1, h2]; rfl)
    go_enter Tryz.func139, Tryz.ntmps139
    go_wp2_with (go_at_call 87; refine (spec_in _ _ _ _).mono ?_; rintro e2 w2 ⟨rfl, rfl⟩)
    go_ret
    exact ⟨by rw [HC.out]; rfl, rfl⟩
  have HC : Hid (stampKey h e = 4 * (h + 1) + e - 1) := Lib.hid (by unfold stampKey; rw [h1, h2]; rfl)
  have hb1 : 0 ≤ h ∧ h ≤ 2 := by simpa [inB] using h1
  have hb2 : 1 ≤ e ∧ e ≤ 4 := by simpa [inB] using h2
  obtain ⟨q1, q2⟩ := hb1
  obtain ⟨q3, q4⟩ := hb2
  go_enter Tryz.func139, Tryz.ntmps139
  go_wp2_with (go_at_call 87; refine (spec_in _ _ _ _).mono ?_; rintro e2 w2 ⟨rfl, rfl⟩)
  go_ret
  exact ⟨by rw [HC.out]; rfl, rfl⟩
set_option maxRecDepth 20000 in set_option maxHeartbeats 4000000 in
theorem impl_stampText (x : Head) (w : World) (hT : Tabs w) : Calls Tryz.prog 150 #[.agg (Head.cs x).toArray] w fun e w' => e = .returned (.string (stampTx x)) ∧ Below w.heap.size w w' := by
  have HT := Lib.hid hT
  clear hT
  have HH := Lib.hid (fun W (h : Below w.heap.size w W) => impl_HeadHash x W (HT.out.later h))
  have HF : Hid (stampTx x = tagHash 8 [headHash x] 16) := Lib.hid rfl
  have hle := headHash_le x
  obtain ⟨t, ht⟩ : ∃ t, headHash x = t := ⟨_, rfl⟩
  rw [ht] at HH HF hle
  clear ht
  obtain ⟨hs, ep, r, p⟩ := x
  simp only [Head.cs] at HH ⊢
  go_enter Tryz.func150, Tryz.ntmps150
  go_wp2_with (fail)
  refine (HH.out _ ((Below.refl _ _).alloc (Nat.le_refl _) _)).mono ?_
  rintro e1 w1 ⟨rfl, hb1⟩
  have HB1 := Lib.hid (Below.via hb1)
  clear hb1
  go_wp2_with (fail)
  refine (impl_hashOf _ 8 (by unfold I64; omega) [t] _ _ _ (row_one w1 t (ml hle (by omega)) _) (by simp) 16 (by unfold I64; omega) (HT.out.later (HB1.out.alloc HB1.out.size _))).mono ?_
  rintro e5 w5 ⟨rfl, hb5⟩
  go_wp2
  go_ret
  exact ⟨ret_str (by rw [HF.out]), (HB1.out.alloc HB1.out.size _).trans (hb5.mono (by have := HB1.out.size; simp; omega))⟩
set_option maxRecDepth 20000 in set_option maxHeartbeats 4000000 in
theorem spec_l14Stamp (x : Head) (w : World) : Calls Tryz.prog 140 #[.agg (Head.cs x).toArray] w fun e w' => e = .returned (.string (stampTx x)) ∧ Below w.heap.size w w' := by
  have HH := Lib.hid (fun W (h : Below w.heap.size w W) => spec_HeadHash x W)
  have HF : Hid (stampTx x = tagHash 8 [headHash x] 16) := Lib.hid rfl
  have hle := headHash_le x
  obtain ⟨t, ht⟩ : ∃ t, headHash x = t := ⟨_, rfl⟩
  rw [ht] at HH HF hle
  clear ht
  obtain ⟨hs, ep, r, p⟩ := x
  simp only [Head.cs] at HH ⊢
  go_enter Tryz.func140, Tryz.ntmps140
  go_wp2_with (fail)
  refine (HH.out _ ((Below.refl _ _).alloc (Nat.le_refl _) _)).mono ?_
  rintro e1 w1 ⟨rfl, hb1⟩
  have HB1 := Lib.hid (Below.via hb1)
  clear hb1
  go_wp2_with (fail)
  refine (spec_TagHash _ 8 (by unfold I64; omega) [t] _ _ _ (row_one w1 t (ml hle (by omega)) _) (by simp) 16 (by unfold I64; omega)).mono ?_
  rintro e5 w5 ⟨rfl, hb5⟩
  go_wp2
  go_ret
  exact ⟨ret_str (by rw [HF.out]), (HB1.out.alloc HB1.out.size _).trans (hb5.mono (by have := HB1.out.size; simp; omega))⟩
set_option maxRecDepth 20000 in set_option maxHeartbeats 8000000 in
theorem impl_StampOk (w : World) (root : ByteArray) (x : Head) (s : Sig) (cs : List Value) (S : Blks) (hx : rd false w cs s S) (hT : Tabs w) : Calls Tryz.prog 99 #[.string root, .agg (Head.cs x).toArray, .agg cs.toArray] w fun e w' => e = .returned (.bool (stampOk root x s)) ∧ Below w.heap.size w w' := by
  have HT := Lib.hid hT
  clear hT
  have HSig := Lib.hid (fun W (h : Below w.heap.size w W) => impl_SigOk W root (stampTx x) s cs S (Lay.later hx h) (HT.out.later h))
  have HTX := Lib.hid (fun W (h : Below w.heap.size w W) => impl_stampText x W (HT.out.later h))
  have HHO := Lib.hid (fun W => impl_HeadOk x W)
  have HSA := Lib.hid (fun W => impl_StampAt x.house x.epoch W)
  have HOK : Hid (stampOk root x s = (headOk x && decide (s.at_ = stampKey x.house x.epoch) && sigOk root (stampTx x) s)) := Lib.hid rfl
  obtain ⟨A0, k0, S0, A1, k1, S1, A2, k2, S2, rfl, -⟩ := Sig.open hx
  clear hx
  obtain ⟨v, hv⟩ : ∃ v, stampKey x.house x.epoch = v := ⟨_, rfl⟩
  rw [hv] at HSA HOK
  clear hv
  obtain ⟨R, hR⟩ : ∃ R, stampOk root x s = R := ⟨_, rfl⟩
  rw [hR] at HOK ⊢
  clear hR
  obtain ⟨z, hz⟩ : ∃ z, sigOk root (stampTx x) s = z := ⟨_, rfl⟩
  rw [hz] at HSig HOK
  clear hz
  obtain ⟨tx, htx⟩ : ∃ t, stampTx x = t := ⟨_, rfl⟩
  rw [htx] at HSig HTX
  clear htx
  obtain ⟨b, hb⟩ : ∃ b, headOk x = b := ⟨_, rfl⟩
  rw [hb] at HHO HOK
  clear hb
  obtain ⟨hh, he, hr, hp⟩ := x
  obtain ⟨a, so, ss, sd⟩ := s
  simp only [Head.cs, Sig.cs] at HSig HTX HHO HSA HOK ⊢
  cases b
  · go_enter Tryz.func99, Tryz.ntmps99
    go_wp2
    generalize hW : (w.alloc (.cells #[.int .i64 hh, .int .i64 he, .string hr, .string hp] 58)).alloc (.cells #[.int .i64 a, .slice A0 so.length k0, .slice A1 ss.length k1, .slice A2 sd.length k2] 59) = W
    have HBW : Hid (Below w.heap.size w W) := by rw [← hW]; exact Lib.hid (((Below.refl _ _).alloc (Nat.le_refl _) _).alloc (by simp) _)
    have c0 := Grown.cell (show W.cell? ⟨w.heap.size, 0, none⟩ = some (.int .i64 hh) by rw [← hW]; exact cell_alloc (box_cell _ _ _ _ _ rfl))
    have c1 := Grown.cell (show W.cell? ⟨w.heap.size, 1, none⟩ = some (.int .i64 he) by rw [← hW]; exact cell_alloc (box_cell _ _ _ _ _ rfl))
    have c2 := Grown.cell (show W.cell? ⟨w.heap.size, 2, none⟩ = some (.string hr) by rw [← hW]; exact cell_alloc (box_cell _ _ _ _ _ rfl))
    have c3 := Grown.cell (show W.cell? ⟨w.heap.size, 3, none⟩ = some (.string hp) by rw [← hW]; exact cell_alloc (box_cell _ _ _ _ _ rfl))
    have d0 := Grown.cell (show W.cell? ⟨w.heap.size + 1, 0, none⟩ = some (.int .i64 a) by rw [← hW, show w.heap.size + 1 = (w.alloc (.cells #[.int .i64 hh, .int .i64 he, .string hr, .string hp] 58)).heap.size from by simp]; exact box_cell _ _ _ _ _ rfl)
    have d1 := Grown.cell (show W.cell? ⟨w.heap.size + 1, 1, none⟩ = some (.slice A0 so.length k0) by rw [← hW, show w.heap.size + 1 = (w.alloc (.cells #[.int .i64 hh, .int .i64 he, .string hr, .string hp] 58)).heap.size from by simp]; exact box_cell _ _ _ _ _ rfl)
    have d2 := Grown.cell (show W.cell? ⟨w.heap.size + 1, 2, none⟩ = some (.slice A1 ss.length k1) by rw [← hW, show w.heap.size + 1 = (w.alloc (.cells #[.int .i64 hh, .int .i64 he, .string hr, .string hp] 58)).heap.size from by simp]; exact box_cell _ _ _ _ _ rfl)
    have d3 := Grown.cell (show W.cell? ⟨w.heap.size + 1, 3, none⟩ = some (.slice A2 sd.length k2) by rw [← hW, show w.heap.size + 1 = (w.alloc (.cells #[.int .i64 hh, .int .i64 he, .string hr, .string hp] 58)).heap.size from by simp]; exact box_cell _ _ _ _ _ rfl)
    have hz1 : w.heap.size + 1 < W.heap.size := by rw [← hW]; simp
    clear hW
    obtain ⟨B, hB⟩ : ∃ B, w.heap.size = B := ⟨_, rfl⟩
    simp only [hB] at c0 c1 c2 c3 d0 d1 d2 d3 hz1 ⊢
    have HBE := Lib.hid hB
    clear hB
    refine wp_region_grown (by kernel_rfl) (by kernel_rfl) ?_
    repeat (go_big_quiet_step (first | (go_at_call 101; exact grown_call (HHO.out _)) | (go_at_call 149; exact grown_same (HSA.out _)) | (go_at_call 150; exact grown_call (HTX.out _ (HBW.out.trans ((Grown.ok _).mono HBW.out.size)))) | (go_at_call 103; exact grown_call (HSig.out _ (HBW.out.trans ((Grown.ok _).mono HBW.out.size))))))
    refine wpQuiet_nil ?_
    intro w2 hw2
    have hR := Lib.hid (grown_below hw2)
    clear hw2
    go_wp2
    go_ret
    exact ⟨ret_bool (by rw [HOK.out]; simp []), by first | exact (HBW.out).trans (hR.out.mono HBW.out.size) | rw [← HBE.out]; exact (HBW.out).trans (hR.out.mono HBW.out.size)⟩
  by_cases hav : a = v
  · have HAV := Lib.hid hav
    subst hav
    go_enter Tryz.func99, Tryz.ntmps99
    go_wp2
    generalize hW : (w.alloc (.cells #[.int .i64 hh, .int .i64 he, .string hr, .string hp] 58)).alloc (.cells #[.int .i64 a, .slice A0 so.length k0, .slice A1 ss.length k1, .slice A2 sd.length k2] 59) = W
    have HBW : Hid (Below w.heap.size w W) := by rw [← hW]; exact Lib.hid (((Below.refl _ _).alloc (Nat.le_refl _) _).alloc (by simp) _)
    have c0 := Grown.cell (show W.cell? ⟨w.heap.size, 0, none⟩ = some (.int .i64 hh) by rw [← hW]; exact cell_alloc (box_cell _ _ _ _ _ rfl))
    have c1 := Grown.cell (show W.cell? ⟨w.heap.size, 1, none⟩ = some (.int .i64 he) by rw [← hW]; exact cell_alloc (box_cell _ _ _ _ _ rfl))
    have c2 := Grown.cell (show W.cell? ⟨w.heap.size, 2, none⟩ = some (.string hr) by rw [← hW]; exact cell_alloc (box_cell _ _ _ _ _ rfl))
    have c3 := Grown.cell (show W.cell? ⟨w.heap.size, 3, none⟩ = some (.string hp) by rw [← hW]; exact cell_alloc (box_cell _ _ _ _ _ rfl))
    have d0 := Grown.cell (show W.cell? ⟨w.heap.size + 1, 0, none⟩ = some (.int .i64 a) by rw [← hW, show w.heap.size + 1 = (w.alloc (.cells #[.int .i64 hh, .int .i64 he, .string hr, .string hp] 58)).heap.size from by simp]; exact box_cell _ _ _ _ _ rfl)
    have d1 := Grown.cell (show W.cell? ⟨w.heap.size + 1, 1, none⟩ = some (.slice A0 so.length k0) by rw [← hW, show w.heap.size + 1 = (w.alloc (.cells #[.int .i64 hh, .int .i64 he, .string hr, .string hp] 58)).heap.size from by simp]; exact box_cell _ _ _ _ _ rfl)
    have d2 := Grown.cell (show W.cell? ⟨w.heap.size + 1, 2, none⟩ = some (.slice A1 ss.length k1) by rw [← hW, show w.heap.size + 1 = (w.alloc (.cells #[.int .i64 hh, .int .i64 he, .string hr, .string hp] 58)).heap.size from by simp]; exact box_cell _ _ _ _ _ rfl)
    have d3 := Grown.cell (show W.cell? ⟨w.heap.size + 1, 3, none⟩ = some (.slice A2 sd.length k2) by rw [← hW, show w.heap.size + 1 = (w.alloc (.cells #[.int .i64 hh, .int .i64 he, .string hr, .string hp] 58)).heap.size from by simp]; exact box_cell _ _ _ _ _ rfl)
    have hz1 : w.heap.size + 1 < W.heap.size := by rw [← hW]; simp
    clear hW
    obtain ⟨B, hB⟩ : ∃ B, w.heap.size = B := ⟨_, rfl⟩
    simp only [hB] at c0 c1 c2 c3 d0 d1 d2 d3 hz1 ⊢
    have HBE := Lib.hid hB
    clear hB
    refine wp_region_grown (by kernel_rfl) (by kernel_rfl) ?_
    repeat (go_big_quiet_step (first | (go_at_call 101; exact grown_call (HHO.out _)) | (go_at_call 149; exact grown_same (HSA.out _)) | (go_at_call 150; exact grown_call (HTX.out _ (HBW.out.trans ((Grown.ok _).mono HBW.out.size)))) | (go_at_call 103; exact grown_call (HSig.out _ (HBW.out.trans ((Grown.ok _).mono HBW.out.size))))))
    refine wpQuiet_nil ?_
    intro w2 hw2
    have hR := Lib.hid (grown_below hw2)
    clear hw2
    go_wp2
    go_ret
    exact ⟨ret_bool (by rw [HOK.out]; simp []), by first | exact (HBW.out).trans (hR.out.mono HBW.out.size) | rw [← HBE.out]; exact (HBW.out).trans (hR.out.mono HBW.out.size)⟩
  · have HAV := Lib.hid hav
    have hq1 : (a == v) = false := beq_eq_false_iff_ne.2 hav
    have hq2 : decide (a = v) = false := decide_eq_false hav
    clear hav
    go_enter Tryz.func99, Tryz.ntmps99
    go_wp2
    generalize hW : (w.alloc (.cells #[.int .i64 hh, .int .i64 he, .string hr, .string hp] 58)).alloc (.cells #[.int .i64 a, .slice A0 so.length k0, .slice A1 ss.length k1, .slice A2 sd.length k2] 59) = W
    have HBW : Hid (Below w.heap.size w W) := by rw [← hW]; exact Lib.hid (((Below.refl _ _).alloc (Nat.le_refl _) _).alloc (by simp) _)
    have c0 := Grown.cell (show W.cell? ⟨w.heap.size, 0, none⟩ = some (.int .i64 hh) by rw [← hW]; exact cell_alloc (box_cell _ _ _ _ _ rfl))
    have c1 := Grown.cell (show W.cell? ⟨w.heap.size, 1, none⟩ = some (.int .i64 he) by rw [← hW]; exact cell_alloc (box_cell _ _ _ _ _ rfl))
    have c2 := Grown.cell (show W.cell? ⟨w.heap.size, 2, none⟩ = some (.string hr) by rw [← hW]; exact cell_alloc (box_cell _ _ _ _ _ rfl))
    have c3 := Grown.cell (show W.cell? ⟨w.heap.size, 3, none⟩ = some (.string hp) by rw [← hW]; exact cell_alloc (box_cell _ _ _ _ _ rfl))
    have d0 := Grown.cell (show W.cell? ⟨w.heap.size + 1, 0, none⟩ = some (.int .i64 a) by rw [← hW, show w.heap.size + 1 = (w.alloc (.cells #[.int .i64 hh, .int .i64 he, .string hr, .string hp] 58)).heap.size from by simp]; exact box_cell _ _ _ _ _ rfl)
    have d1 := Grown.cell (show W.cell? ⟨w.heap.size + 1, 1, none⟩ = some (.slice A0 so.length k0) by rw [← hW, show w.heap.size + 1 = (w.alloc (.cells #[.int .i64 hh, .int .i64 he, .string hr, .string hp] 58)).heap.size from by simp]; exact box_cell _ _ _ _ _ rfl)
    have d2 := Grown.cell (show W.cell? ⟨w.heap.size + 1, 2, none⟩ = some (.slice A1 ss.length k1) by rw [← hW, show w.heap.size + 1 = (w.alloc (.cells #[.int .i64 hh, .int .i64 he, .string hr, .string hp] 58)).heap.size from by simp]; exact box_cell _ _ _ _ _ rfl)
    have d3 := Grown.cell (show W.cell? ⟨w.heap.size + 1, 3, none⟩ = some (.slice A2 sd.length k2) by rw [← hW, show w.heap.size + 1 = (w.alloc (.cells #[.int .i64 hh, .int .i64 he, .string hr, .string hp] 58)).heap.size from by simp]; exact box_cell _ _ _ _ _ rfl)
    have hz1 : w.heap.size + 1 < W.heap.size := by rw [← hW]; simp
    clear hW
    obtain ⟨B, hB⟩ : ∃ B, w.heap.size = B := ⟨_, rfl⟩
    simp only [hB] at c0 c1 c2 c3 d0 d1 d2 d3 hz1 ⊢
    have HBE := Lib.hid hB
    clear hB
    refine wp_region_grown (by kernel_rfl) (by kernel_rfl) ?_
    repeat (go_big_quiet_step (first | (go_at_call 101; exact grown_call (HHO.out _)) | (go_at_call 149; exact grown_same (HSA.out _)) | (go_at_call 150; exact grown_call (HTX.out _ (HBW.out.trans ((Grown.ok _).mono HBW.out.size)))) | (go_at_call 103; exact grown_call (HSig.out _ (HBW.out.trans ((Grown.ok _).mono HBW.out.size))))))
    refine wpQuiet_nil ?_
    intro w2 hw2
    have hR := Lib.hid (grown_below hw2)
    clear hw2
    go_wp2
    go_ret
    exact ⟨ret_bool (by rw [HOK.out]; simp [HAV.out]), by first | exact (HBW.out).trans (hR.out.mono HBW.out.size) | rw [← HBE.out]; exact (HBW.out).trans (hR.out.mono HBW.out.size)⟩
set_option maxRecDepth 20000 in set_option maxHeartbeats 8000000 in
theorem spec_StampOk (w : World) (root : ByteArray) (x : Head) (s : Sig) (cs : List Value) (S : Blks) (hx : rd false w cs s S) : Calls Tryz.prog 88 #[.string root, .agg (Head.cs x).toArray, .agg cs.toArray] w fun e w' => e = .returned (.bool (stampOk root x s)) ∧ Below w.heap.size w w' := by
  have HSig := Lib.hid (fun W (h : Below w.heap.size w W) => spec_SigOk W root (stampTx x) s cs S (Lay.later hx h))
  have HTX := Lib.hid (fun W (h : Below w.heap.size w W) => spec_l14Stamp x W)
  have HHO := Lib.hid (fun W => spec_HeadOk x W)
  have HSA := Lib.hid (fun W => spec_StampAt x.house x.epoch W)
  have HOK : Hid (stampOk root x s = (headOk x && decide (s.at_ = stampKey x.house x.epoch) && sigOk root (stampTx x) s)) := Lib.hid rfl
  obtain ⟨A0, k0, S0, A1, k1, S1, A2, k2, S2, rfl, -⟩ := Sig.open hx
  clear hx
  obtain ⟨v, hv⟩ : ∃ v, stampKey x.house x.epoch = v := ⟨_, rfl⟩
  rw [hv] at HSA HOK
  clear hv
  obtain ⟨R, hR⟩ : ∃ R, stampOk root x s = R := ⟨_, rfl⟩
  rw [hR] at HOK ⊢
  clear hR
  obtain ⟨z, hz⟩ : ∃ z, sigOk root (stampTx x) s = z := ⟨_, rfl⟩
  rw [hz] at HSig HOK
  clear hz
  obtain ⟨tx, htx⟩ : ∃ t, stampTx x = t := ⟨_, rfl⟩
  rw [htx] at HSig HTX
  clear htx
  obtain ⟨b, hb⟩ : ∃ b, headOk x = b := ⟨_, rfl⟩
  rw [hb] at HHO HOK
  clear hb
  obtain ⟨hh, he, hr, hp⟩ := x
  obtain ⟨a, so, ss, sd⟩ := s
  simp only [Head.cs, Sig.cs] at HSig HTX HHO HSA HOK ⊢
  cases b
  · go_enter Tryz.func88, Tryz.ntmps88
    go_wp2
    generalize hW : (w.alloc (.cells #[.int .i64 hh, .int .i64 he, .string hr, .string hp] 58)).alloc (.cells #[.int .i64 a, .slice A0 so.length k0, .slice A1 ss.length k1, .slice A2 sd.length k2] 59) = W
    have HBW : Hid (Below w.heap.size w W) := by rw [← hW]; exact Lib.hid (((Below.refl _ _).alloc (Nat.le_refl _) _).alloc (by simp) _)
    have c0 := Grown.cell (show W.cell? ⟨w.heap.size, 0, none⟩ = some (.int .i64 hh) by rw [← hW]; exact cell_alloc (box_cell _ _ _ _ _ rfl))
    have c1 := Grown.cell (show W.cell? ⟨w.heap.size, 1, none⟩ = some (.int .i64 he) by rw [← hW]; exact cell_alloc (box_cell _ _ _ _ _ rfl))
    have c2 := Grown.cell (show W.cell? ⟨w.heap.size, 2, none⟩ = some (.string hr) by rw [← hW]; exact cell_alloc (box_cell _ _ _ _ _ rfl))
    have c3 := Grown.cell (show W.cell? ⟨w.heap.size, 3, none⟩ = some (.string hp) by rw [← hW]; exact cell_alloc (box_cell _ _ _ _ _ rfl))
    have d0 := Grown.cell (show W.cell? ⟨w.heap.size + 1, 0, none⟩ = some (.int .i64 a) by rw [← hW, show w.heap.size + 1 = (w.alloc (.cells #[.int .i64 hh, .int .i64 he, .string hr, .string hp] 58)).heap.size from by simp]; exact box_cell _ _ _ _ _ rfl)
    have d1 := Grown.cell (show W.cell? ⟨w.heap.size + 1, 1, none⟩ = some (.slice A0 so.length k0) by rw [← hW, show w.heap.size + 1 = (w.alloc (.cells #[.int .i64 hh, .int .i64 he, .string hr, .string hp] 58)).heap.size from by simp]; exact box_cell _ _ _ _ _ rfl)
    have d2 := Grown.cell (show W.cell? ⟨w.heap.size + 1, 2, none⟩ = some (.slice A1 ss.length k1) by rw [← hW, show w.heap.size + 1 = (w.alloc (.cells #[.int .i64 hh, .int .i64 he, .string hr, .string hp] 58)).heap.size from by simp]; exact box_cell _ _ _ _ _ rfl)
    have d3 := Grown.cell (show W.cell? ⟨w.heap.size + 1, 3, none⟩ = some (.slice A2 sd.length k2) by rw [← hW, show w.heap.size + 1 = (w.alloc (.cells #[.int .i64 hh, .int .i64 he, .string hr, .string hp] 58)).heap.size from by simp]; exact box_cell _ _ _ _ _ rfl)
    have hz1 : w.heap.size + 1 < W.heap.size := by rw [← hW]; simp
    clear hW
    obtain ⟨B, hB⟩ : ∃ B, w.heap.size = B := ⟨_, rfl⟩
    simp only [hB] at c0 c1 c2 c3 d0 d1 d2 d3 hz1 ⊢
    have HBE := Lib.hid hB
    clear hB
    refine wp_region_grown (by kernel_rfl) (by kernel_rfl) ?_
    repeat (go_big_quiet_step (first | (go_at_call 132; exact grown_call (HHO.out _)) | (go_at_call 139; exact grown_same (HSA.out _)) | (go_at_call 140; exact grown_call (HTX.out _ (HBW.out.trans ((Grown.ok _).mono HBW.out.size)))) | (go_at_call 134; exact grown_call (HSig.out _ (HBW.out.trans ((Grown.ok _).mono HBW.out.size))))))
    refine wpQuiet_nil ?_
    intro w2 hw2
    have hR := Lib.hid (grown_below hw2)
    clear hw2
    go_wp2
    go_ret
    exact ⟨ret_bool (by rw [HOK.out]; simp []), by first | exact (HBW.out).trans (hR.out.mono HBW.out.size) | rw [← HBE.out]; exact (HBW.out).trans (hR.out.mono HBW.out.size)⟩
  by_cases hav : a = v
  · have HAV := Lib.hid hav
    subst hav
    go_enter Tryz.func88, Tryz.ntmps88
    go_wp2
    generalize hW : (w.alloc (.cells #[.int .i64 hh, .int .i64 he, .string hr, .string hp] 58)).alloc (.cells #[.int .i64 a, .slice A0 so.length k0, .slice A1 ss.length k1, .slice A2 sd.length k2] 59) = W
    have HBW : Hid (Below w.heap.size w W) := by rw [← hW]; exact Lib.hid (((Below.refl _ _).alloc (Nat.le_refl _) _).alloc (by simp) _)
    have c0 := Grown.cell (show W.cell? ⟨w.heap.size, 0, none⟩ = some (.int .i64 hh) by rw [← hW]; exact cell_alloc (box_cell _ _ _ _ _ rfl))
    have c1 := Grown.cell (show W.cell? ⟨w.heap.size, 1, none⟩ = some (.int .i64 he) by rw [← hW]; exact cell_alloc (box_cell _ _ _ _ _ rfl))
    have c2 := Grown.cell (show W.cell? ⟨w.heap.size, 2, none⟩ = some (.string hr) by rw [← hW]; exact cell_alloc (box_cell _ _ _ _ _ rfl))
    have c3 := Grown.cell (show W.cell? ⟨w.heap.size, 3, none⟩ = some (.string hp) by rw [← hW]; exact cell_alloc (box_cell _ _ _ _ _ rfl))
    have d0 := Grown.cell (show W.cell? ⟨w.heap.size + 1, 0, none⟩ = some (.int .i64 a) by rw [← hW, show w.heap.size + 1 = (w.alloc (.cells #[.int .i64 hh, .int .i64 he, .string hr, .string hp] 58)).heap.size from by simp]; exact box_cell _ _ _ _ _ rfl)
    have d1 := Grown.cell (show W.cell? ⟨w.heap.size + 1, 1, none⟩ = some (.slice A0 so.length k0) by rw [← hW, show w.heap.size + 1 = (w.alloc (.cells #[.int .i64 hh, .int .i64 he, .string hr, .string hp] 58)).heap.size from by simp]; exact box_cell _ _ _ _ _ rfl)
    have d2 := Grown.cell (show W.cell? ⟨w.heap.size + 1, 2, none⟩ = some (.slice A1 ss.length k1) by rw [← hW, show w.heap.size + 1 = (w.alloc (.cells #[.int .i64 hh, .int .i64 he, .string hr, .string hp] 58)).heap.size from by simp]; exact box_cell _ _ _ _ _ rfl)
    have d3 := Grown.cell (show W.cell? ⟨w.heap.size + 1, 3, none⟩ = some (.slice A2 sd.length k2) by rw [← hW, show w.heap.size + 1 = (w.alloc (.cells #[.int .i64 hh, .int .i64 he, .string hr, .string hp] 58)).heap.size from by simp]; exact box_cell _ _ _ _ _ rfl)
    have hz1 : w.heap.size + 1 < W.heap.size := by rw [← hW]; simp
    clear hW
    obtain ⟨B, hB⟩ : ∃ B, w.heap.size = B := ⟨_, rfl⟩
    simp only [hB] at c0 c1 c2 c3 d0 d1 d2 d3 hz1 ⊢
    have HBE := Lib.hid hB
    clear hB
    refine wp_region_grown (by kernel_rfl) (by kernel_rfl) ?_
    repeat (go_big_quiet_step (first | (go_at_call 132; exact grown_call (HHO.out _)) | (go_at_call 139; exact grown_same (HSA.out _)) | (go_at_call 140; exact grown_call (HTX.out _ (HBW.out.trans ((Grown.ok _).mono HBW.out.size)))) | (go_at_call 134; exact grown_call (HSig.out _ (HBW.out.trans ((Grown.ok _).mono HBW.out.size))))))
    refine wpQuiet_nil ?_
    intro w2 hw2
    have hR := Lib.hid (grown_below hw2)
    clear hw2
    go_wp2
    go_ret
    exact ⟨ret_bool (by rw [HOK.out]; simp []), by first | exact (HBW.out).trans (hR.out.mono HBW.out.size) | rw [← HBE.out]; exact (HBW.out).trans (hR.out.mono HBW.out.size)⟩
  · have HAV := Lib.hid hav
    have hq1 : (a == v) = false := beq_eq_false_iff_ne.2 hav
    have hq2 : decide (a = v) = false := decide_eq_false hav
    clear hav
    go_enter Tryz.func88, Tryz.ntmps88
    go_wp2
    generalize hW : (w.alloc (.cells #[.int .i64 hh, .int .i64 he, .string hr, .string hp] 58)).alloc (.cells #[.int .i64 a, .slice A0 so.length k0, .slice A1 ss.length k1, .slice A2 sd.length k2] 59) = W
    have HBW : Hid (Below w.heap.size w W) := by rw [← hW]; exact Lib.hid (((Below.refl _ _).alloc (Nat.le_refl _) _).alloc (by simp) _)
    have c0 := Grown.cell (show W.cell? ⟨w.heap.size, 0, none⟩ = some (.int .i64 hh) by rw [← hW]; exact cell_alloc (box_cell _ _ _ _ _ rfl))
    have c1 := Grown.cell (show W.cell? ⟨w.heap.size, 1, none⟩ = some (.int .i64 he) by rw [← hW]; exact cell_alloc (box_cell _ _ _ _ _ rfl))
    have c2 := Grown.cell (show W.cell? ⟨w.heap.size, 2, none⟩ = some (.string hr) by rw [← hW]; exact cell_alloc (box_cell _ _ _ _ _ rfl))
    have c3 := Grown.cell (show W.cell? ⟨w.heap.size, 3, none⟩ = some (.string hp) by rw [← hW]; exact cell_alloc (box_cell _ _ _ _ _ rfl))
    have d0 := Grown.cell (show W.cell? ⟨w.heap.size + 1, 0, none⟩ = some (.int .i64 a) by rw [← hW, show w.heap.size + 1 = (w.alloc (.cells #[.int .i64 hh, .int .i64 he, .string hr, .string hp] 58)).heap.size from by simp]; exact box_cell _ _ _ _ _ rfl)
    have d1 := Grown.cell (show W.cell? ⟨w.heap.size + 1, 1, none⟩ = some (.slice A0 so.length k0) by rw [← hW, show w.heap.size + 1 = (w.alloc (.cells #[.int .i64 hh, .int .i64 he, .string hr, .string hp] 58)).heap.size from by simp]; exact box_cell _ _ _ _ _ rfl)
    have d2 := Grown.cell (show W.cell? ⟨w.heap.size + 1, 2, none⟩ = some (.slice A1 ss.length k1) by rw [← hW, show w.heap.size + 1 = (w.alloc (.cells #[.int .i64 hh, .int .i64 he, .string hr, .string hp] 58)).heap.size from by simp]; exact box_cell _ _ _ _ _ rfl)
    have d3 := Grown.cell (show W.cell? ⟨w.heap.size + 1, 3, none⟩ = some (.slice A2 sd.length k2) by rw [← hW, show w.heap.size + 1 = (w.alloc (.cells #[.int .i64 hh, .int .i64 he, .string hr, .string hp] 58)).heap.size from by simp]; exact box_cell _ _ _ _ _ rfl)
    have hz1 : w.heap.size + 1 < W.heap.size := by rw [← hW]; simp
    clear hW
    obtain ⟨B, hB⟩ : ∃ B, w.heap.size = B := ⟨_, rfl⟩
    simp only [hB] at c0 c1 c2 c3 d0 d1 d2 d3 hz1 ⊢
    have HBE := Lib.hid hB
    clear hB
    refine wp_region_grown (by kernel_rfl) (by kernel_rfl) ?_
    repeat (go_big_quiet_step (first | (go_at_call 132; exact grown_call (HHO.out _)) | (go_at_call 139; exact grown_same (HSA.out _)) | (go_at_call 140; exact grown_call (HTX.out _ (HBW.out.trans ((Grown.ok _).mono HBW.out.size)))) | (go_at_call 134; exact grown_call (HSig.out _ (HBW.out.trans ((Grown.ok _).mono HBW.out.size))))))
    refine wpQuiet_nil ?_
    intro w2 hw2
    have hR := Lib.hid (grown_below hw2)
    clear hw2
    go_wp2
    go_ret
    exact ⟨ret_bool (by rw [HOK.out]; simp [HAV.out]), by first | exact (HBW.out).trans (hR.out.mono HBW.out.size) | rw [← HBE.out]; exact (HBW.out).trans (hR.out.mono HBW.out.size)⟩
end Go.Proofs.YtgllafgpmenjjaaGreatDoor
