/- A part of the proof: what the laws need of it. -/
import Derived.Test.YtojbehmbeoemgaaDoorHMoL23xYm
import Derived.Test.YtojbehmbeoemgaaDoorHMoL11xDp
import Derived.Test.YtojbehmbeoemgaaDoorHMoL6xInf
import Derived.Test.YtojbehmbeoemgaaDoorHMoL7xLw
import Derived.Deep.RegionHeld3
import Derived.Test.YtojbehmbeoemgaaDoorHMoL22xRp
set_option linter.unusedVariables false
set_option linter.unusedSimpArgs false
set_option linter.unusedVariables false
set_option linter.unusedSimpArgs false
namespace Go.Proofs.YtojbehmbeoemgaaDoor
open Go.RowKit Lay Mk
theorem names_bad {xs : List ByteArray} {k : Nat} (h : k < xs.length) (hn : nameOk xs[k] = false) : namesFit xs = false := by
  unfold namesFit
  rw [show xs.all nameOk = false by rw [List.all_eq_false]; exact ⟨_, List.getElem_mem h, by simp [hn]⟩]; rfl
theorem names_long {xs : List ByteArray} (h : 8 < xs.length) : namesFit xs = false := by
  unfold namesFit
  rw [show inB (xs.length : Int) 1 8 = false by simp [inB]; omega, Bool.and_false]
theorem names_all {xs : List ByteArray} (h : ∀ k (hk : k < xs.length), nameOk xs[k] = true) : namesFit xs = inB (xs.length : Int) 1 8 := by
  unfold namesFit
  rw [show xs.all nameOk = true by rw [List.all_eq_true]; intro s hs; obtain ⟨k, hk, rfl⟩ := List.getElem_of_mem hs; exact h k hk]; rfl
set_option maxRecDepth 20000 in set_option maxHeartbeats 4000000 in
theorem impl_namesOk (w : World) (xs : List ByteArray) (A : Option Addr) (cap : Nat) (S : Blks) (hx : Row false w A cap xs S) (hl : xs.length ≤ 1048576) : Calls Tryd.prog 68 #[.slice A xs.length cap] w fun e w' => e = .returned (.bool (namesFit xs)) ∧ Below w.heap.size w w' := by
  go_enter Tryd.func68, Tryd.ntmps68
  go_wp2
  go_loopw [7] (fun i wr => ∃ k : Nat, k ≤ xs.length ∧ i = .int .i64 k ∧ Hid (∀ j (h : j < xs.length), j < k → nameOk xs[j] = true) ∧ k ≤ 8 ∧ Below w.heap.size w wr) (fun i _ => xs.length - (intOf i).toNat)
  case atStart => exact ⟨0, Nat.zero_le _, rfl, Lib.hid (fun j _ h => absurd h (Nat.not_lt_zero _)), by omega, Below.refl _ _⟩
  case round =>
    obtain ⟨k, hk, rfl, HA, hk8, hb⟩ := hrel
    have hz := hb.size
    by_cases hlt : k < xs.length
    · obtain ⟨b1, o1, rfl, hl1, f0, s0⟩ := Row.str hx hlt
      replace f0 := (hb.cell (p := ⟨b1, o1 + k, none⟩) hl1).trans f0
      have hl2 : b1 < wr.heap.size := by omega
      have HB := Lib.hid (names_bad hlt)
      have HN : Hid (nameOk xs[k] = true → ∀ j (h : j < xs.length), j < k + 1 → nameOk xs[j] = true) := Lib.hid (fun h0 j h hj => by rcases Nat.lt_succ_iff_lt_or_eq.1 hj with h1 | h1; exact HA.out j h h1; subst h1; exact h0)
      obtain ⟨x, hxx⟩ : ∃ x, xs[k] = x := ⟨_, rfl⟩
      rw [hxx] at f0 s0
      simp only [hxx] at HB HN
      clear hxx
      by_cases h8 : 8 ≤ k
      · have HL := Lib.hid (names_long (show 8 < xs.length by omega))
        have d8 : decide ((8 : Int) ≤ (k : Int)) = true := by simp; omega
        go_wp2
        go_ret
        exact ⟨ret_bool (by rw [HL.out]), hb⟩
      have d8 : decide ((8 : Int) ≤ (k : Int)) = false := by simp; omega
      cases hn : nameOk x
      · have HF := Lib.hid (HB.out hn)
        go_wp2_with (go_at_call 123; refine (impl_NameOk _ _ s0).mono ?_; rintro e2 w2 ⟨rfl, rfl⟩)
        go_ret
        exact ⟨ret_bool (by rw [HF.out]), hb⟩
      · have HF := Lib.hid (HN.out hn)
        go_wp2_with (go_at_call 123; refine (impl_NameOk _ _ s0).mono ?_; rintro e2 w2 ⟨rfl, rfl⟩)
        go_roundw
        case rel => exact ⟨k + 1, by omega, by go_num, HF, by omega, hb⟩
        case measure => simp [intOf]; omega
    · have hke : k = xs.length := by omega
      subst hke
      have HF := Lib.hid (names_all (fun k hk => HA.out k hk hk))
      have HD : Hid (inB (xs.length : Int) 1 8 = decide ((0 : Int) < (xs.length : Int))) := Lib.hid (by
        by_cases h0 : 0 < xs.length
        · rw [decide_eq_true (by omega)]; simp [inB]; omega
        · rw [decide_eq_false (by omega)]; simp [inB]; omega)
      clear HA
      go_wp2
      go_ret
      exact ⟨ret_bool (by rw [HF.out, HD.out]; first | rfl | (simp; done)), hb⟩
theorem castL_at {ks : List Nat} {k : Nat} (h : k < ks.length) : (castL ks)[k]'(by rw [castL_len]; exact h) = ((ks.getD k 0 : Nat) : Int) := by unfold castL; rw [getD_ h]; simp
theorem castL_snoc (ks : List Nat) (q : Nat) : castL (ks ++ [q]) = castL ks ++ [(q : Int)] := by unfold castL; simp
theorem above_take_len (ks : List Nat) : ∀ k, k ≤ ks.length → (aboveU (ks.take k)).length ≤ k
  | 0, _ => by simp [aboveU]
  | k + 1, h => by
    rw [takeY_snoc (by omega), above_snoc]
    have := above_take_len ks k (by omega)
    unfold insU
    split
    · omega
    · simp; omega
end Go.Proofs.YtojbehmbeoemgaaDoor

set_option linter.unusedVariables false
set_option linter.unusedSimpArgs false
namespace Go.Proofs.YtojbehmbeoemgaaDoor
open Go.RowKit Lay Mk
def EmptiesRes (n : Int) (w : World) (e : Ending) (w' : World) : Prop := ∃ b, e = .returned (.slice (some ⟨b, 0, none⟩) 9 9) ∧ w.heap.size ≤ b ∧ b < w'.heap.size ∧ (∀ j, j ≤ 8 → w'.cell? ⟨b, j, none⟩ = some (.string (emptyD n (8 - j)))) ∧ Below w.heap.size w w'
set_option maxRecDepth 20000 in set_option maxHeartbeats 8000000 in
theorem spec_l10Empties (w : World) (n : Int) (hn : I64 n) : Calls Tryd.prog 90 #[.int .i64 n] w (EmptiesRes n w) := by
  have hmk : ∀ W : World, (Instr.makeSlice 26 (.int .i64 9) (.int .i64 9)).run Tryd.prog W = .ok (.slice (some ⟨W.heap.size, 0, none⟩) 9 9) (W.alloc (.cells #[.string ⟨#[]⟩, .string ⟨#[]⟩, .string ⟨#[]⟩, .string ⟨#[]⟩, .string ⟨#[]⟩, .string ⟨#[]⟩, .string ⟨#[]⟩, .string ⟨#[]⟩, .string ⟨#[]⟩] 9)) := fun _ => by kernel_rfl
  have hWd : ∀ W, W = w.alloc (.cells #[.string ⟨#[]⟩, .string ⟨#[]⟩, .string ⟨#[]⟩, .string ⟨#[]⟩, .string ⟨#[]⟩, .string ⟨#[]⟩, .string ⟨#[]⟩, .string ⟨#[]⟩, .string ⟨#[]⟩] 9) → Below w.heap.size w W ∧ (∀ j, j ≤ 8 → W.cell? ⟨w.heap.size, j, none⟩ = some (.string ⟨#[]⟩)) ∧ (∀ o, W.frozen? ⟨w.heap.size, o, none⟩ = false) ∧ w.heap.size < W.heap.size := by
    rintro W rfl
    refine ⟨(Below.refl _ _).alloc (Nat.le_refl _) _, fun j hj => ?_, fun o => by simp, by simp⟩
    rcases (show j = 0 ∨ j = 1 ∨ j = 2 ∨ j = 3 ∨ j = 4 ∨ j = 5 ∨ j = 6 ∨ j = 7 ∨ j = 8 by omega) with rfl | rfl | rfl | rfl | rfl | rfl | rfl | rfl | rfl <;> exact box_cell _ _ _ _ _ rfl
  have HE0 : Hid (tagHash 1 [] n = emptyD n 0) := Lib.hid rfl
  have HEM := Lib.hid (fun k => emptyD_max n k)
  go_enter Tryd.func90, Tryd.ntmps90
  go_wp2_with (fail)
  obtain ⟨W, hW⟩ : ∃ W, w.alloc (.cells #[.string ⟨#[]⟩, .string ⟨#[]⟩, .string ⟨#[]⟩, .string ⟨#[]⟩, .string ⟨#[]⟩, .string ⟨#[]⟩, .string ⟨#[]⟩, .string ⟨#[]⟩, .string ⟨#[]⟩] 9) = W := ⟨_, rfl⟩
  rw [hW]
  obtain ⟨hBW, ha, hf, hlW⟩ := hWd W hW.symm
  clear hW hWd hmk
  have HBW := Lib.hid hBW
  have hlA := hlW
  refine (spec_TagHash _ 1 (by unfold I64; omega) [] _ 0 none_ (show Row false _ _ _ ([] : List ByteArray) none_ from fun h => absurd rfl h) (by simp) n hn).mono ?_
  rintro e0 w0 ⟨rfl, hb0⟩
  rw [HE0.out]
  have hV := Below.via hb0
  have hB0 := hBW.trans (hV.mono hBW.size)
  have ha0 := fun (j : Nat) (hj : j ≤ 8) => (hV.cell (p := ⟨w.heap.size, j, none⟩) hlW).trans (ha j hj)
  have hf0 := fun (o : Nat) => (hV.frozen (p := ⟨w.heap.size, o, none⟩) hlW).trans (hf o)
  have hl0 : w.heap.size < w0.heap.size := Nat.lt_of_lt_of_le hlW hV.size
  have h8 := ha0 8 (Nat.le_refl _)
  have HA0 := Lib.hid ha0
  have HF0 := Lib.hid hf0
  have HB0 := Lib.hid hB0
  have HS8 := Lib.hid (World.cell?_setCell_same w0 ⟨w.heap.size, 8, none⟩ (.string (emptyD n 0)) h8)
  have HES : Hid (∀ k, tagHash 3 [emptyD n k, emptyD n k] n = emptyD n (k + 1)) := Lib.hid (fun _ => rfl)
  clear ha hf hBW hb0 hV ha0 hB0 hlA HE0
  go_wp2
  go_loopw [4] (fun i wr => ∃ l : Nat, l ≤ 8 ∧ i = .int .i64 ((l : Int) - 1) ∧ Hid (∀ j, l ≤ j → j ≤ 8 → wr.cell? ⟨w.heap.size, j, none⟩ = some (.string (emptyD n (8 - j)))) ∧ Hid (∀ j, j < l → wr.cell? ⟨w.heap.size, j, none⟩ = some (.string ⟨#[]⟩)) ∧ Hid (∀ o, wr.frozen? ⟨w.heap.size, o, none⟩ = false) ∧ Hid (Below w.heap.size w wr) ∧ w.heap.size < wr.heap.size) (fun i _ => (intOf i + 1).toNat)
  case atStart =>
    refine ⟨8, Nat.le_refl _, rfl, Lib.hid (fun j h1 h2 => ?_), Lib.hid (fun j h1 => ?_), Lib.hid (fun o => by simpa using HF0.out o), Lib.hid (Below.setCell HB0.out (Nat.le_refl _) _), by simpa using hl0⟩
    · obtain rfl : j = 8 := by omega
      exact HS8.out
    · exact (World.cell?_setCell_other _ _ _ _ (by intro h; injection h with h1 h2 h3; omega)).trans (HA0.out j (by omega))
  case round =>
    clear h8 hf0 hl0
    obtain ⟨l, hl8, rfl, HC, HZ, HFZ, HBr, hlr⟩ := hrel
    by_cases hl0 : l = 0
    · subst hl0
      go_wp2
      go_ret
      exact ⟨w.heap.size, rfl, Nat.le_refl _, hlr, fun j hj => HC.out j (Nat.zero_le _) hj, HBr.out⟩
    · obtain ⟨q, rfl⟩ : ∃ q, l = q + 1 := ⟨l - 1, by omega⟩
      have hqe : (((q + 1 : Nat) : Int) - 1) = (q : Int) := by omega
      simp only [hqe]
      have x1 := HC.out (q + 1) (Nat.le_refl _) hl8
      have x0 := HZ.out q (by omega)
      have hfr := HFZ.out q
      have hq8 : q < 8 := by omega
      have hqge : (q : Int) ≥ 0 := by omega
      have hq0 : (0 : Int) ≤ (q : Int) := by omega
      have hq9 : (q : Int) < 9 := by omega
      have hq1 : IntKind.i64.wrap ((q : Int) + 1) = (q : Int) + 1 := by rw [IntWalk.i64_in] <;> omega
      have hq19 : (q : Int) + 1 < 9 := by omega
      have hq10 : (0 : Int) ≤ (q : Int) + 1 := by omega
      have hqt : ((q : Int) + 1).toNat = q + 1 := by omega
      have hqm : IntKind.i64.wrap ((q : Int) - 1) = (q : Int) - 1 := by rw [IntWalk.i64_in] <;> omega
      have HST : Hid (tagHash 3 [emptyD n (8 - (q + 1)), emptyD n (8 - (q + 1))] n = emptyD n (8 - q)) := Lib.hid (by rw [HES.out]; congr 1; omega)
      have hem := HEM.out (8 - (q + 1))
      have HM := Lib.hid (fun (w' : World) (h : Below wr.heap.size wr w') => (⟨(h.cell (p := ⟨w.heap.size, q + 1, none⟩) hlr).trans x1, HBr.out.trans (h.mono (Nat.le_of_lt hlr))⟩ : w'.cell? ⟨w.heap.size, q + 1, none⟩ = some (.string (emptyD n (8 - (q + 1)))) ∧ Below w.heap.size w w'))
      have HM0 := Lib.hid (fun (w' : World) (h : Below wr.heap.size wr w') => (⟨(h.cell (p := ⟨w.heap.size, q, none⟩) hlr).trans x0, (h.frozen (p := ⟨w.heap.size, q, none⟩) hlr).trans hfr⟩ : w'.cell? ⟨w.heap.size, q, none⟩ = some (.string ⟨#[]⟩) ∧ w'.frozen? ⟨w.heap.size, q, none⟩ = false))
      have HMA := Lib.hid (fun (w' : World) (h : Below wr.heap.size wr w') => (⟨fun j h1 h2 => (h.cell (p := ⟨w.heap.size, j, none⟩) hlr).trans (HC.out j h1 h2), fun j h1 => (h.cell (p := ⟨w.heap.size, j, none⟩) hlr).trans (HZ.out j h1), fun o => (h.frozen (p := ⟨w.heap.size, o, none⟩) hlr).trans (HFZ.out o)⟩ : (∀ j, q + 1 ≤ j → j ≤ 8 → w'.cell? ⟨w.heap.size, j, none⟩ = some (.string (emptyD n (8 - j)))) ∧ (∀ j, j < q + 1 → w'.cell? ⟨w.heap.size, j, none⟩ = some (.string ⟨#[]⟩)) ∧ (∀ o, w'.frozen? ⟨w.heap.size, o, none⟩ = false)))
      obtain ⟨E, hEe⟩ : ∃ E, emptyD n (8 - (q + 1)) = E := ⟨_, rfl⟩
      simp only [hEe] at HST hem HM x1
      have hB := Below.refl wr.heap.size wr
      have HEE := Lib.hid hEe
      clear hEe x1 x0 hfr HC HZ HFZ hqe
      go_wp2_with (fail)
      go_region_held3 (fun w' => w'.cell? ⟨w.heap.size, q + 1, none⟩ = some (.string E) ∧ Below w.heap.size w w')
        (first | exact ⟨(World.cell?_setCell_other _ _ _ _ (by intro h; injection h with h1 h2 h3; omega)).trans (HM.out _ hB).1, Below.setCell (HM.out _ hB).2 (Nat.le_refl _) _⟩ | exact HM.out _ (by (repeat (first | with_reducible exact hB | with_reducible apply Below.drew | with_reducible refine Below.alloc ?_ ?_ _)); all_goals (first | omega | (simp; done) | (simp; omega))))
        (first | (go_at_call 82; refine (spec_TagHash _ 3 (by unfold I64; omega) [E, E] _ _ _ (by first | exact row_pairAt _ E E hem hem _ _ (by first | rfl | simp) | exact Row.drewC (row_pairAt _ E E hem hem _ _ (by first | rfl | simp))) (by simp) n hn).mono ?_; rintro e5 w5 ⟨rfl, hb5⟩; have hB := Below.step (a := wr) (by (repeat (first | with_reducible exact hB | with_reducible apply Below.drew | with_reducible refine Below.alloc ?_ ?_ _)); all_goals (first | omega | (simp; done) | (simp; omega))) hb5; have hs5 := hB.size; have hl5 : w.heap.size < w5.heap.size := (by omega); have y0 := (HM0.out _ hB).1; have yf := (HM0.out _ hB).2) | fail)
      obtain ⟨HA1, HA2, HA3⟩ := HMA.out _ hB
      have HSS := Lib.hid (World.cell?_setCell_same w5 ⟨w.heap.size, q, none⟩ (.string (emptyD n (8 - q))) y0)
      have HRR := Lib.hid (And.intro HA1 (And.intro HA2 HA3))
      have HB5 := Lib.hid (HBr.out.trans (hB.mono (Nat.le_of_lt hlr)))
      rw [HST.out]
      clear HA1 HA2 HA3 y0 yf
      go_wp2
      go_roundw
      case rel =>
        refine ⟨q, by omega, by go_num, Lib.hid (fun j h1 h2 => ?_), Lib.hid (fun j h1 => ?_), Lib.hid (fun o => by simpa using HRR.out.2.2 o), Lib.hid (Below.setCell HB5.out (Nat.le_refl _) _), by simpa using hl5⟩
        · by_cases hjq : j = q
          · subst hjq; exact HSS.out
          · exact (World.cell?_setCell_other _ _ _ _ (by intro h; injection h with h1 h2 h3; omega)).trans (HRR.out.1 j (by omega) h2)
        · exact (World.cell?_setCell_other _ _ _ _ (by intro h; injection h with h1 h2 h3; omega)).trans (HRR.out.2.1 j (by omega))
      case measure => simp [intOf]
end Go.Proofs.YtojbehmbeoemgaaDoor

set_option linter.unusedVariables false
set_option linter.unusedSimpArgs false
namespace Go.Proofs.YtojbehmbeoemgaaDoor
open Go.RowKit Lay Mk
theorem place_lt {ix k m : Nat} (hix : ix < 256) (hk : k < m) (hm : m ≤ 8) : (ix / 2 ^ k) ^^^ 1 < 2 ^ (8 - k) := by
  refine Nat.xor_lt_two_pow ?_ (Nat.lt_of_lt_of_le (by decide : 1 < 2 ^ 1) (Nat.pow_le_pow_right (by omega) (by omega)))
  rw [Nat.div_lt_iff_lt_mul (Nat.two_pow_pos k), ← Nat.pow_add, show 8 - k + k = 8 by omega]
  exact hix
theorem xor1 {q : Nat} (h : q < 256) : bits .xor .i64 (q : Int) 1 = ((q ^^^ 1 : Nat) : Int) := (show ∀ q : Fin 256, bits .xor .i64 ((q.val : Nat) : Int) 1 = ((q.val ^^^ 1 : Nat) : Int) from by decide +kernel) ⟨q, h⟩
end Go.Proofs.YtojbehmbeoemgaaDoor

set_option linter.unusedVariables false
set_option linter.unusedSimpArgs false
namespace Go.Proofs.YtojbehmbeoemgaaDoor
open Go.RowKit Lay Mk
theorem idx_one (a : ByteArray) : indexesOf [a] = [(indexOf a : Int)] := rfl
theorem idx_two (a : ByteArray) : indexesOf [a, a] = [(indexOf a : Int)] := by
  have : indexesOf [a, a] = insI [(indexOf a : Int)] (indexOf a : Int) := rfl
  rw [this]; unfold insI; simp
theorem idxN_one (a : ByteArray) : idxN [a] = [indexOf a] := by unfold idxN; rw [idx_one]; simp
theorem idxN_two (a : ByteArray) : idxN [a, a] = [indexOf a] := by unfold idxN; rw [idx_two]; simp
theorem lone_one (q : Nat) : lone [q] 0 = true := by simp [lone]
theorem many_side (f : Nat → ByteArray) (q : Nat) : sidesM f (lone [q]) [q] 1 = [f (q ^^^ 1)] := by
  show (if lone [q] 0 = true then [] ++ [f ([q].getD 0 0 ^^^ 1)] else []) = _
  rw [if_pos (lone_one q)]; rfl
theorem above_one (q : Nat) : aboveU [q] = [q / 2] := by simp [aboveU, insU]
theorem sides_one (n : Int) (ix : Nat) (xs : List Leaf) : ∀ (m d : Nat), sidesMany n xs m d [ix / 2 ^ d] (sidesD n ix xs d) = sidesD n ix xs (d + m)
  | 0, d => rfl
  | m + 1, d => by
    show sidesMany n xs m (d + 1) (aboveU [ix / 2 ^ d]) (sidesD n ix xs d ++ sidesM (fun p => nodeD n d p xs) (lone [ix / 2 ^ d]) [ix / 2 ^ d] 1) = _
    rw [many_side, above_one, Nat.div_div_eq_div_mul, ← Nat.pow_succ]
    have h := sides_one n ix xs m (d + 1)
    rw [show d + (m + 1) = d + 1 + m by omega, ← h]; rfl
theorem sides_all (n : Int) (ix : Nat) (xs : List Leaf) : sidesMany n xs 8 0 [ix] [] = sidesD n ix xs 8 := by
  have h := sides_one n ix xs 8 0
  rw [Nat.pow_zero, Nat.div_one] at h
  exact h
theorem fit_one {a : ByteArray} (h : nameOk a = true) : namesFit [a] = true := by unfold namesFit; simp [h, inB]
theorem fit_two {a : ByteArray} (h : nameOk a = true) : namesFit [a, a] = true := by unfold namesFit; simp [h, inB]
theorem many_one {xs : List Leaf} {a : ByteArray} (h1 : leavesOk xs = true) (h2 : nameOk a = true) : proveMany xs [a] 16 = (⟨[a], [bucketOf xs (indexOf a : Int)], sidesD 16 (indexOf a) xs 8⟩, true) := by
  unfold proveMany proveForm
  rw [h1, fit_one h2, if_pos (by decide), idxN_one, sides_all]; rfl
theorem many_two {xs : List Leaf} {a : ByteArray} (h1 : leavesOk xs = true) (h2 : nameOk a = true) : proveMany xs [a, a] 16 = (⟨[a, a], [bucketOf xs (indexOf a : Int)], sidesD 16 (indexOf a) xs 8⟩, true) := by
  unfold proveMany proveForm
  rw [h1, fit_two h2, if_pos (by decide), idxN_two, sides_all]; rfl
theorem leaf_one {xs : List Leaf} {a : ByteArray} (h1 : leavesOk xs = true) (h2 : nameOk a = true) : proveLeaf xs a 0 16 = (⟨bucketOf xs (indexOf a : Int), sidesD 16 (indexOf a) xs 8⟩, true) := by
  unfold proveLeaf
  rw [h1, h2, if_pos (by decide)]; rfl
end Go.Proofs.YtojbehmbeoemgaaDoor
