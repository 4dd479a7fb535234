/- A part of the proof: what the laws need of it. -/
import Derived.Deep.DeepCutAuto
import Derived.Deep.CutBlock
import Derived.Test.YtgllafgpmenjjaaGreatDoorHReXv
set_option linter.unusedVariables false
set_option linter.unusedSimpArgs false
set_option linter.unusedVariables false
set_option linter.unusedSimpArgs false
namespace Go.Proofs.YtgllafgpmenjjaaGreatDoor
open Go.RowKit Lay Mk
theorem past_two (w : World) : Below w.heap.size w ((w.alloc (.cells #[.slice none 0 0, .int .i64 0, .int .i64 0] 51)).alloc (.cells #[.slice none 0 0] 79)) ∧ ((w.alloc (.cells #[.slice none 0 0, .int .i64 0, .int .i64 0] 51)).alloc (.cells #[.slice none 0 0] 79)).heap.size = w.heap.size + 1 + 1 ∧ ((w.alloc (.cells #[.slice none 0 0, .int .i64 0, .int .i64 0] 51)).alloc (.cells #[.slice none 0 0] 79)).heap[w.heap.size]? = some (.cells #[.slice none 0 0, .int .i64 0, .int .i64 0] 51 (0, 0)) ∧ ((w.alloc (.cells #[.slice none 0 0, .int .i64 0, .int .i64 0] 51)).alloc (.cells #[.slice none 0 0] 79)).heap[w.heap.size + 1]? = some (.cells #[.slice none 0 0] 79 (0, 0)) := by
  refine ⟨((Below.refl _ _).alloc (Nat.le_refl _) _).alloc (by simp) _, by simp, ?_, ?_⟩
  · rw [Below.heap_alloc _ _ _ (by simp)]; exact heap_alloc_new w _
  · have := heap_alloc_new (w.alloc (.cells #[.slice none 0 0, .int .i64 0, .int .i64 0] 51)) (.cells #[.slice none 0 0] 79)
    rw [World.size_alloc] at this; exact this
theorem cur_lt {w : World} {g : Nat} {xs : List UInt8} {A : Option Addr} {cap : Nat} (h : Cur w g xs A cap) : g < w.heap.size := by
  obtain ⟨i, h, _, h2⟩ := h; exact (Array.getElem?_eq_some_iff.1 h2).1
set_option maxRecDepth 20000 in set_option maxHeartbeats 8000000 in
theorem spec_DrawPast (w : World) (xs : List UInt8) (A : Option Addr) (cap : Nat) (S : Blks) (hx : Row false w A cap xs S) (hS : ∀ b, S b → b < w.heap.size) (hl : xs.length ≤ 1048576) : Calls Tryz.prog 26 #[.slice A xs.length cap] w fun e w' => PastRes w e w' ∧ Below w.heap.size w w' := by
  go_enter Tryz.func26, Tryz.ntmps26
  go_wp2_with (fail)
  obtain ⟨b0, s0, y2, y5⟩ := past_two w
  obtain ⟨W0, hW0⟩ : ∃ W, (w.alloc (.cells #[.slice none 0 0, .int .i64 0, .int .i64 0] 51)).alloc (.cells #[.slice none 0 0] 79) = W := ⟨_, rfl⟩
  rw [hW0] at b0 s0 y2 y5 ⊢
  clear hW0
  refine (spec_l01New W0 xs A cap S (Row.later hx b0) hl).mono ?_
  rintro e1 w1 ⟨g, rfl, hg, hc, hb1⟩
  have hgl := cur_lt hc
  have s1 := hb1.size
  have b1 := b0.trans (hb1.mono (by omega))
  have y2 := (hb1.block w.heap.size (by omega)).trans y2
  have y5 := (hb1.block (w.heap.size + 1) (by omega)).trans y5
  go_wp2_with (fail)
  refine (spec_l27Past w1 g xs A cap S hc (Row.later hx b1) (fun b h => by have := hS b h; omega) hgl hl).mono ?_
  rintro e2 w2 ⟨⟨k, hn, nm, X, hs, A1, c1, Ap, cp, m, rfl, hk, hh, hnm, hM, h1, l1, q1, hl2, hcm, hm, r1, rX⟩, cu, ch⟩
  have s2 := ch.size
  have y2 := (ch.block w.heap.size (by omega) (by omega)).trans y2
  have y5 := (ch.block (w.heap.size + 1) (by omega) (by omega)).trans y5
  have b2 : Below w.heap.size w w2 := b1.trans (ch.to_below (by omega) (fun b h => by rcases h with h | h <;> omega))
  have a0 := box_at (i := 0) y2 rfl
  have a1 := box_at (i := 1) y2 rfl
  have a2 := box_at (i := 2) y2 rfl
  have af := box_fz y2
  have d0 := box_at (i := 0) y5 rfl
  have df := box_fz y5
  have n5 : w.heap.size ≠ w.heap.size + 1 := by omega
  have n6 : w.heap.size + 1 ≠ w.heap.size := by omega
  have HM := Lib.hid hM
  have HR := Lib.hid (And.intro r1 rX)
  clear b0 hb1 b1 hc hx cu ch y2 y5 hM r1 rX
  go_wp2_with (fail)
  refine bodyPost_ret (v := .tuple #[.agg #[.slice A1 3 c1, .int .i64 k, .int .i64 0], .int .i64 hn, .string nm, .agg #[.slice Ap X.length cp]]) (by simp [results, Tryz.results26, go_sem, *]) rfl ?_
  have hCF : Chg (fun b => b = w.heap.size ∨ b = w.heap.size + 1) w2 ((((w2.setCell ⟨w.heap.size, 0, none⟩ (.slice A1 3 c1)).setCell ⟨w.heap.size, 1, none⟩ (.int .i64 k)).setCell ⟨w.heap.size, 2, none⟩ (.int .i64 0)).setCell ⟨w.heap.size + 1, 0, none⟩ (.slice Ap X.length cp)) := by
    (repeat (first | with_reducible exact Chg.refl _ _ | with_reducible refine Chg.setCell ?_ ?_ _)); all_goals (first | exact .inl (.inl rfl) | exact .inl (.inr rfl))
  exact ⟨⟨k, hn, nm, X, hs, A1, c1, Ap, cp, m, rfl, hk, hh, hnm, HM.out, h1, l1, q1, hl2, hcm, by omega, (Row.chg HR.out.1 hCF (fun b x y => by have := x.1; rcases y with y | y <;> omega)).mono (fun b x => by have := x.1; have := x.2; exact ⟨by omega, by omega⟩), Row.chg HR.out.2 hCF (fun b x y => by have x : m ≤ b := x; rcases y with y | y <;> omega)⟩, b2.trans (hCF.to_below (by omega) (fun b h => by rcases h with h | h <;> omega))⟩
end Go.Proofs.YtgllafgpmenjjaaGreatDoor
