/- A part of the proof: what the laws need of it. -/
import Derived.Deep.RegionHeld3
import Derived.Test.YtojbehmbeoemgaaDoorHPmL23xYn
import Derived.Test.YtojbehmbeoemgaaDoorHPmL18xHo
import Derived.Test.YtojbehmbeoemgaaDoorHPmL11xDp
import Derived.Test.YtojbehmbeoemgaaDoorHPmNd
import Derived.Test.YtojbehmbeoemgaaDoorHPmL20xBk
import Derived.Test.YtojbehmbeoemgaaDoorHPmL17xTg
import Derived.Test.YtojbehmbeoemgaaDoorHPmL7xLw
set_option linter.unusedVariables false
set_option linter.unusedSimpArgs false
set_option linter.unusedVariables false
set_option linter.unusedSimpArgs false
namespace Go.Proofs.YtojbehmbeoemgaaDoor
open Go.RowKit Lay Mk
def SyRes (R : ByteArray × Bool × Bool) (w : World) (e : Ending) (w' : World) : Prop := e = .returned (.tuple #[.string R.1, .bool R.2.1, .bool R.2.2]) ∧ Below w.heap.size w w'
theorem SyRes.mk {R : ByteArray × Bool × Bool} {s : ByteArray} {b c : Bool} {w w' : World} (hR : R = (s, b, c)) (hb : Below w.heap.size w w') : SyRes R w (.returned (.tuple #[.string s, .bool b, .bool c])) w' := by
  subst hR; exact ⟨rfl, hb⟩
end Go.Proofs.YtojbehmbeoemgaaDoor

set_option linter.unusedVariables false
set_option linter.unusedSimpArgs false
namespace Go.Proofs.YtojbehmbeoemgaaDoor
open Go.RowKit Lay Mk
def EmptiesRes (n : Int) (w : World) (e : Ending) (w' : World) : Prop := ∃ b, e = .returned (.slice (some ⟨b, 0, none⟩) 9 9) ∧ w.heap.size ≤ b ∧ b < w'.heap.size ∧ (∀ j, j ≤ 8 → w'.cell? ⟨b, j, none⟩ = some (.string (emptyD n (8 - j)))) ∧ Below w.heap.size w w'
set_option maxRecDepth 20000 in set_option maxHeartbeats 8000000 in
theorem spec_l10Empties (w : World) (n : Int) (hn : I64 n) : Calls Tryd.prog 90 #[.int .i64 n] w (EmptiesRes n w) := by
  have hmk : ∀ W : World, (Instr.makeSlice 26 (.int .i64 9) (.int .i64 9)).run Tryd.prog W = .ok (.slice (some ⟨W.heap.size, 0, none⟩) 9 9) (W.alloc (.cells #[.string ⟨#[]⟩, .string ⟨#[]⟩, .string ⟨#[]⟩, .string ⟨#[]⟩, .string ⟨#[]⟩, .string ⟨#[]⟩, .string ⟨#[]⟩, .string ⟨#[]⟩, .string ⟨#[]⟩] 9)) := fun _ => by kernel_rfl
  have hWd : ∀ W, W = w.alloc (.cells #[.string ⟨#[]⟩, .string ⟨#[]⟩, .string ⟨#[]⟩, .string ⟨#[]⟩, .string ⟨#[]⟩, .string ⟨#[]⟩, .string ⟨#[]⟩, .string ⟨#[]⟩, .string ⟨#[]⟩] 9) → Below w.heap.size w W ∧ (∀ j, j ≤ 8 → W.cell? ⟨w.heap.size, j, none⟩ = some (.string ⟨#[]⟩)) ∧ (∀ o, W.frozen? ⟨w.heap.size, o, none⟩ = false) ∧ w.heap.size < W.heap.size := by
    rintro W rfl
    refine ⟨(Below.refl _ _).alloc (Nat.le_refl _) _, fun j hj => ?_, fun o => by simp, by simp⟩
    rcases (show j = 0 ∨ j = 1 ∨ j = 2 ∨ j = 3 ∨ j = 4 ∨ j = 5 ∨ j = 6 ∨ j = 7 ∨ j = 8 by omega) with rfl | rfl | rfl | rfl | rfl | rfl | rfl | rfl | rfl <;> exact box_cell _ _ _ _ _ rfl
  have HE0 : Hid (tagHash 1 [] n = emptyD n 0) := Lib.hid rfl
  have HEM := Lib.hid (fun k => emptyD_max n k)
  go_enter Tryd.func90, Tryd.ntmps90
  go_wp2_with (fail)
  obtain ⟨W, hW⟩ : ∃ W, w.alloc (.cells #[.string ⟨#[]⟩, .string ⟨#[]⟩, .string ⟨#[]⟩, .string ⟨#[]⟩, .string ⟨#[]⟩, .string ⟨#[]⟩, .string ⟨#[]⟩, .string ⟨#[]⟩, .string ⟨#[]⟩] 9) = W := ⟨_, rfl⟩
  rw [hW]
  obtain ⟨hBW, ha, hf, hlW⟩ := hWd W hW.symm
  clear hW hWd hmk
  have HBW := Lib.hid hBW
  have hlA := hlW
  refine (spec_TagHash _ 1 (by unfold I64; omega) [] _ 0 none_ (show Row false _ _ _ ([] : List ByteArray) none_ from fun h => absurd rfl h) (by simp) n hn).mono ?_
  rintro e0 w0 ⟨rfl, hb0⟩
  rw [HE0.out]
  have hV := Below.via hb0
  have hB0 := hBW.trans (hV.mono hBW.size)
  have ha0 := fun (j : Nat) (hj : j ≤ 8) => (hV.cell (p := ⟨w.heap.size, j, none⟩) hlW).trans (ha j hj)
  have hf0 := fun (o : Nat) => (hV.frozen (p := ⟨w.heap.size, o, none⟩) hlW).trans (hf o)
  have hl0 : w.heap.size < w0.heap.size := Nat.lt_of_lt_of_le hlW hV.size
  have h8 := ha0 8 (Nat.le_refl _)
  have HA0 := Lib.hid ha0
  have HF0 := Lib.hid hf0
  have HB0 := Lib.hid hB0
  have HS8 := Lib.hid (World.cell?_setCell_same w0 ⟨w.heap.size, 8, none⟩ (.string (emptyD n 0)) h8)
  have HES : Hid (∀ k, tagHash 3 [emptyD n k, emptyD n k] n = emptyD n (k + 1)) := Lib.hid (fun _ => rfl)
  clear ha hf hBW hb0 hV ha0 hB0 hlA HE0
  go_wp2
  go_loopw [4] (fun i wr => ∃ l : Nat, l ≤ 8 ∧ i = .int .i64 ((l : Int) - 1) ∧ Hid (∀ j, l ≤ j → j ≤ 8 → wr.cell? ⟨w.heap.size, j, none⟩ = some (.string (emptyD n (8 - j)))) ∧ Hid (∀ j, j < l → wr.cell? ⟨w.heap.size, j, none⟩ = some (.string ⟨#[]⟩)) ∧ Hid (∀ o, wr.frozen? ⟨w.heap.size, o, none⟩ = false) ∧ Hid (Below w.heap.size w wr) ∧ w.heap.size < wr.heap.size) (fun i _ => (intOf i + 1).toNat)
  case atStart =>
    refine ⟨8, Nat.le_refl _, rfl, Lib.hid (fun j h1 h2 => ?_), Lib.hid (fun j h1 => ?_), Lib.hid (fun o => by simpa using HF0.out o), Lib.hid (Below.setCell HB0.out (Nat.le_refl _) _), by simpa using hl0⟩
    · obtain rfl : j = 8 := by omega
      exact HS8.out
    · exact (World.cell?_setCell_other _ _ _ _ (by intro h; injection h with h1 h2 h3; omega)).trans (HA0.out j (by omega))
  case round =>
    clear h8 hf0 hl0
    obtain ⟨l, hl8, rfl, HC, HZ, HFZ, HBr, hlr⟩ := hrel
    by_cases hl0 : l = 0
    · subst hl0
      go_wp2
      go_ret
      exact ⟨w.heap.size, rfl, Nat.le_refl _, hlr, fun j hj => HC.out j (Nat.zero_le _) hj, HBr.out⟩
    · obtain ⟨q, rfl⟩ : ∃ q, l = q + 1 := ⟨l - 1, by omega⟩
      have hqe : (((q + 1 : Nat) : Int) - 1) = (q : Int) := by omega
      simp only [hqe]
      have x1 := HC.out (q + 1) (Nat.le_refl _) hl8
      have x0 := HZ.out q (by omega)
      have hfr := HFZ.out q
      have hq8 : q < 8 := by omega
      have hqge : (q : Int) ≥ 0 := by omega
      have hq0 : (0 : Int) ≤ (q : Int) := by omega
      have hq9 : (q : Int) < 9 := by omega
      have hq1 : IntKind.i64.wrap ((q : Int) + 1) = (q : Int) + 1 := by rw [IntWalk.i64_in] <;> omega
      have hq19 : (q : Int) + 1 < 9 := by omega
      have hq10 : (0 : Int) ≤ (q : Int) + 1 := by omega
      have hqt : ((q : Int) + 1).toNat = q + 1 := by omega
      have hqm : IntKind.i64.wrap ((q : Int) - 1) = (q : Int) - 1 := by rw [IntWalk.i64_in] <;> omega
      have HST : Hid (tagHash 3 [emptyD n (8 - (q + 1)), emptyD n (8 - (q + 1))] n = emptyD n (8 - q)) := Lib.hid (by rw [HES.out]; congr 1; omega)
      have hem := HEM.out (8 - (q + 1))
      have HM := Lib.hid (fun (w' : World) (h : Below wr.heap.size wr w') => (⟨(h.cell (p := ⟨w.heap.size, q + 1, none⟩) hlr).trans x1, HBr.out.trans (h.mono (Nat.le_of_lt hlr))⟩ : w'.cell? ⟨w.heap.size, q + 1, none⟩ = some (.string (emptyD n (8 - (q + 1)))) ∧ Below w.heap.size w w'))
      have HM0 := Lib.hid (fun (w' : World) (h : Below wr.heap.size wr w') => (⟨(h.cell (p := ⟨w.heap.size, q, none⟩) hlr).trans x0, (h.frozen (p := ⟨w.heap.size, q, none⟩) hlr).trans hfr⟩ : w'.cell? ⟨w.heap.size, q, none⟩ = some (.string ⟨#[]⟩) ∧ w'.frozen? ⟨w.heap.size, q, none⟩ = false))
      have HMA := Lib.hid (fun (w' : World) (h : Below wr.heap.size wr w') => (⟨fun j h1 h2 => (h.cell (p := ⟨w.heap.size, j, none⟩) hlr).trans (HC.out j h1 h2), fun j h1 => (h.cell (p := ⟨w.heap.size, j, none⟩) hlr).trans (HZ.out j h1), fun o => (h.frozen (p := ⟨w.heap.size, o, none⟩) hlr).trans (HFZ.out o)⟩ : (∀ j, q + 1 ≤ j → j ≤ 8 → w'.cell? ⟨w.heap.size, j, none⟩ = some (.string (emptyD n (8 - j)))) ∧ (∀ j, j < q + 1 → w'.cell? ⟨w.heap.size, j, none⟩ = some (.string ⟨#[]⟩)) ∧ (∀ o, w'.frozen? ⟨w.heap.size, o, none⟩ = false)))
      obtain ⟨E, hEe⟩ : ∃ E, emptyD n (8 - (q + 1)) = E := ⟨_, rfl⟩
      simp only [hEe] at HST hem HM x1
      have hB := Below.refl wr.heap.size wr
      have HEE := Lib.hid hEe
      clear hEe x1 x0 hfr HC HZ HFZ hqe
      go_wp2_with (fail)
      go_region_held3 (fun w' => w'.cell? ⟨w.heap.size, q + 1, none⟩ = some (.string E) ∧ Below w.heap.size w w')
        (first | exact ⟨(World.cell?_setCell_other _ _ _ _ (by intro h; injection h with h1 h2 h3; omega)).trans (HM.out _ hB).1, Below.setCell (HM.out _ hB).2 (Nat.le_refl _) _⟩ | exact HM.out _ (by (repeat (first | with_reducible exact hB | with_reducible apply Below.drew | with_reducible refine Below.alloc ?_ ?_ _)); all_goals (first | omega | (simp; done) | (simp; omega))))
        (first | (go_at_call 82; refine (spec_TagHash _ 3 (by unfold I64; omega) [E, E] _ _ _ (by first | exact row_pairAt _ E E hem hem _ _ (by first | rfl | simp) | exact Row.drewC (row_pairAt _ E E hem hem _ _ (by first | rfl | simp))) (by simp) n hn).mono ?_; rintro e5 w5 ⟨rfl, hb5⟩; have hB := Below.step (a := wr) (by (repeat (first | with_reducible exact hB | with_reducible apply Below.drew | with_reducible refine Below.alloc ?_ ?_ _)); all_goals (first | omega | (simp; done) | (simp; omega))) hb5; have hs5 := hB.size; have hl5 : w.heap.size < w5.heap.size := (by omega); have y0 := (HM0.out _ hB).1; have yf := (HM0.out _ hB).2) | fail)
      obtain ⟨HA1, HA2, HA3⟩ := HMA.out _ hB
      have HSS := Lib.hid (World.cell?_setCell_same w5 ⟨w.heap.size, q, none⟩ (.string (emptyD n (8 - q))) y0)
      have HRR := Lib.hid (And.intro HA1 (And.intro HA2 HA3))
      have HB5 := Lib.hid (HBr.out.trans (hB.mono (Nat.le_of_lt hlr)))
      rw [HST.out]
      clear HA1 HA2 HA3 y0 yf
      go_wp2
      go_roundw
      case rel =>
        refine ⟨q, by omega, by go_num, Lib.hid (fun j h1 h2 => ?_), Lib.hid (fun j h1 => ?_), Lib.hid (fun o => by simpa using HRR.out.2.2 o), Lib.hid (Below.setCell HB5.out (Nat.le_refl _) _), by simpa using hl5⟩
        · by_cases hjq : j = q
          · subst hjq; exact HSS.out
          · exact (World.cell?_setCell_other _ _ _ _ (by intro h; injection h with h1 h2 h3; omega)).trans (HRR.out.1 j (by omega) h2)
        · exact (World.cell?_setCell_other _ _ _ _ (by intro h; injection h with h1 h2 h3; omega)).trans (HRR.out.2.1 j (by omega))
      case measure => simp [intOf]
end Go.Proofs.YtojbehmbeoemgaaDoor

set_option linter.unusedVariables false
set_option linter.unusedSimpArgs false
namespace Go.Proofs.YtojbehmbeoemgaaDoor
open Go.RowKit Lay Mk
theorem xor1 {q : Nat} (h : q < 256) : bits .xor .i64 (q : Int) 1 = ((q ^^^ 1 : Nat) : Int) := (show ∀ q : Fin 256, bits .xor .i64 ((q.val : Nat) : Int) 1 = ((q.val ^^^ 1 : Nat) : Int) from by decide +kernel) ⟨q, h⟩
end Go.Proofs.YtojbehmbeoemgaaDoor
