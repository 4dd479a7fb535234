/- Walk: a drawn state and a drawn block. -/
import Derived.Test.YtlbmikcfjgnnaaaDoorDo
import Derived.Test.YtlbmikcfjgnnaaaDoorSt
import Derived.Test.YtlbmikcfjgnnaaaDoorSv
set_option linter.unusedVariables false
set_option linter.unusedSimpArgs false
namespace Go.Proofs.YtlbmikcfjgnnaaaDoor
open Go.RowKit Lay Mk
theorem row_drop1 {w : World} {A : Option Addr} {cap : Nat} {st : List Int} {S : Blks} (h : Row true w A cap st S) (hne : st ≠ []) : ∃ g, A = some ⟨g, 0, none⟩ ∧ Row false w (some ⟨g, 1, none⟩) (cap - 1) (st.drop 1) S := by
  rcases Row.weak h hne with ⟨b, off, e, hb, T, h1, h2, h3⟩
  rcases h with ⟨_, h, _⟩ | ⟨g, cur, rfl, hg, hb2, hs, hE⟩
  · exact absurd h hne
  injection e with e
  injection e with e1 e2
  subst e1 e2
  refine ⟨_, rfl, fun _ => ⟨_, 1, rfl, hb, fun i => T (i + 1), fun i => h1 _, fun x => by simp at x, fun i hi => ?_⟩⟩
  have hi' : i + 1 < st.length := by simp at hi; omega
  obtain ⟨cs, h4, h5⟩ := h3 (i + 1) hi'
  refine ⟨cs, ?_, by rw [List.getElem_drop]; simpa [Nat.add_comm] using h5⟩
  have e3 : 0 + (i + 1) * n Int = 1 + i * n Int := by rw [show n Int = 1 from rfl]; omega
  rw [e3] at h4; exact h4
def pickM : List Int := [-1, 4294967296, 9223372036854775807]
theorem pickM_ok : ∀ x ∈ pickM, I64 x := by intro x hx; simp [pickM] at hx; unfold I64; omega
def pickL : List Int := [0, 1, 4294967295, 2147483648, 12345678]
theorem pick_ok : ∀ x ∈ pickL, 0 ≤ x ∧ x ≤ 4294967295 := by decide
set_option maxRecDepth 20000 in set_option maxHeartbeats 4000000 in
theorem spec_DrawShaBlock (w : World) (xs : List UInt8) (A : Option Addr) (cap : Nat) (S : Blks) (hx : Row false w A cap xs S) (hS : ∀ b, S b → b < w.heap.size) (hl : xs.length ≤ 1048576) : Calls Tryd.prog 9 #[.slice A xs.length cap] w fun e w' => ∃ (t : ByteArray) (st : List Int) (A2 : Option Addr) (c2 : Nat) (S2 : Blks), e = .returned (.tuple #[.slice A2 st.length c2, .string t]) ∧ t.size ≤ 64 ∧ st.length ≤ 8 ∧ st.length ≤ c2 ∧ c2 ≤ maxLen ∧ Row false w' A2 c2 st S2 ∧ Below w.heap.size w w' := by
  go_enter Tryd.func9, Tryd.ntmps9
  go_wp2_with (fail)
  refine (spec_l01New w xs A cap S hx hl).mono ?_
  rintro e0 w1 ⟨g, rfl, hg, hc, hb⟩
  have hgl : g < w1.heap.size := by obtain ⟨i, h, _, h2⟩ := hc; exact (Array.getElem?_eq_some_iff.1 h2).1
  have hSg : ∀ b, S b → b < g := fun b h => by have := hS b h; omega
  have hSn : ¬ S g := fun h => by have := hSg g h; omega
  have hx1 := Row.later hx hb
  go_wp2_with (fail)
  refine (spec_l01Below w1 g xs A cap S hc hx1 hSn hl 10 (by omega) (by omega)).mono ?_
  rintro e1 w2 ⟨k, rfl, hk0, hk1, hc2, hch2⟩
  have hx2 := Row.keep hx1 (fun b hb => hch2.block b (by have := hSg b hb; omega) (by have := hSg b hb; omega))
  have hz2 := hch2.size
  go_wp2_with (fail)
  refine (spec_l01Text w2 g xs A cap S hc2 hx2 hSg (by omega) hl 64 (by omega)).mono ?_
  rintro e2 w3 ⟨t, rfl, ht, hc3, hch3⟩
  have hx3 := Row.keep hx2 (fun b hb => hch3.block b (by have := hSg b hb; omega) (by have := hSg b hb; omega))
  have hz3 := hch3.size
  have hB3 : Below w.heap.size w w3 := (hb.trans (hch2.to_below hb.size (fun b h => by omega))).trans (hch3.to_below (by have := hb.size; omega) (fun b h => by have := hb.size; omega))
  have hgl3 : g < w3.heap.size := by omega
  go_wp2
  go_loopw [7, 8] (fun u i wr => ∃ (j : Nat) (st : List Int) (A2 : Option Addr) (c2 : Nat), j ≤ 8 ∧ i = .int .i64 j ∧ u = .slice A2 j c2 ∧ Hid (st.length = j) ∧ j ≤ c2 ∧ c2 ≤ maxLen ∧ Row true wr A2 c2 st (nw w3.heap.size) ∧ Cur wr g xs A cap ∧ Chg (fun b => b = g ∨ w3.heap.size ≤ b) w3 wr) (fun _ i _ => 8 - (intOf i).toNat)
  case atStart => exact ⟨0, [], _, _, Nat.zero_le _, rfl, rfl, Lib.hid rfl, by simp, by decide, row_lit0 _ _ _ rfl (Nat.le_refl _), hc3.keep (Below.heap_alloc w3 _ _ hgl3), (Chg.refl _ _).alloc _⟩
  case round =>
    obtain ⟨j, st, A2, c2, hj, rfl, rfl, hst, hle, hcm, hrow, hcw, hch⟩ := hrel
    have hz := hch.size
    by_cases hlt : j < 8
    · go_wp2_with (fail)
      have hcell : ∀ q (h : q < pickL.length), (wr.alloc (.cells #[.int .i64 0, .int .i64 1, .int .i64 4294967295, .int .i64 2147483648, .int .i64 12345678] 3)).cell? ⟨wr.heap.size, q, none⟩ = some (.int .i64 pickL[q]) ∧ I64 pickL[q] := by
        intro q hq
        have hb := pick_ok _ (List.getElem_mem hq)
        refine ⟨?_, by unfold I64; omega⟩
        rw [World.cell?_alloc_mark]
        have hq : q < 5 := hq
        rcases (show q = 0 ∨ q = 1 ∨ q = 2 ∨ q = 3 ∨ q = 4 by omega) with rfl | rfl | rfl | rfl | rfl <;> rfl
      have hxr : Row false wr A cap xs S := Row.keep hx3 (fun b hb => hch.block b (by have := hSg b hb; omega) (by have := hSg b hb; omega))
      refine (spec_l01PickInt _ g xs A cap S (hcw.keep (Below.heap_alloc wr _ _ (by omega))) (Row.later hxr ((Below.refl _ _).alloc (Nat.le_refl _) _)) hSn hl pickL _ 5 _ (row_boxi 5 _ hcell) (by omega) (by decide) (by decide)).mono ?_
      rintro e3 w4 ⟨x, rfl, hxm, hc4, hch4⟩
      obtain ⟨hx0, hx1'⟩ := pick_ok x hxm
      have hz4 := hch4.size
      simp only [World.size_alloc] at hz4
      have hrow4 : Row true w4 A2 c2 st (nw w3.heap.size) := Row.chg (hrow.allocC _) hch4 (fun b h1 h2 => by unfold nw at h1; omega)
      have hchA : Chg (fun b => b = g ∨ w3.heap.size ≤ b) w3 w4 := (hch.alloc _).trans (hch4.mono (fun b _ h => .inl h))
      have hxi : I64 x := by unfold I64; omega
      have hwx : IntKind.i64.wrap (x + 0) = x := by rw [Int.add_zero, IntWalk.i64_in]; omega
      clear hcell
      go_wp2_with (at_builtin; refine wpList_app (α := Int) rfl _ _ rfl rfl hst.out.symm (hrow4.allocC _) hle hcm rfl rfl (src_newb _ x hxi _ _ _ (by first | rfl | simp) rfl) (disj_none_ _) (by omega) ?_; intro A' cap' w5 h1 h2 h3 h4)
      go_roundw
      case rel => exact ⟨j + 1, st ++ [x], A', cap', by omega, by go_num, by simp, Lib.hid (by rw [List.length_append, hst.out]; rfl), by simpa using h1, h2, row_og h3 (fun b hb => by unfold nw; simp at hb; omega), (hc4.keep (Below.heap_alloc w4 _ _ (by omega))).keep (h4.block _ (by simp; omega) (by unfold nw; omega)), (hchA.alloc _).trans (h4.mono (fun b _ h => .inr h))⟩
      case measure => simp [intOf]; omega
    · have hje : j = 8 := by omega
      subst hje
      have hBw : Below w.heap.size w wr := hB3.trans (hch.to_below hB3.size (fun b h => by have := hB3.size; omega))
      rcases (show k = 0 ∨ k = 1 ∨ k = 2 ∨ k = 3 ∨ (k ≠ 0 ∧ k ≠ 1 ∧ k ≠ 2 ∧ k ≠ 3) by omega) with rfl | rfl | rfl | rfl | ⟨n0, n1, n2, n3⟩
      · have hlen := hst.out
        obtain ⟨g2, rfl, hrd⟩ := row_drop1 hrow (by rintro rfl; simp at hlen)
        go_wp2
        go_ret2
        exact ⟨t, st.drop 1, some ⟨g2, 1, none⟩, c2 - 1, _, by rw [List.length_drop, hlen]; rfl, by omega, by rw [List.length_drop, hlen]; omega, by rw [List.length_drop, hlen]; omega, by omega, hrd, hBw⟩
      · go_wp2
        go_ret2
        exact ⟨t.extract 1 64, st, A2, c2, _, by rw [hst.out]; rfl, by rw [ByteArray.size_extract]; omega, by rw [hst.out]; omega, by rw [hst.out]; exact hle, hcm, Row.weak hrow, hBw⟩
      · go_wp2_with (fail)
        have hcell : ∀ q (h : q < pickM.length), (wr.alloc (.cells #[.int .i64 (-1), .int .i64 4294967296, .int .i64 9223372036854775807] 3)).cell? ⟨wr.heap.size, q, none⟩ = some (.int .i64 pickM[q]) ∧ I64 pickM[q] := by
          intro q hq
          refine ⟨?_, pickM_ok _ (List.getElem_mem hq)⟩
          rw [World.cell?_alloc_mark]
          have hq : q < 3 := hq
          rcases (show q = 0 ∨ q = 1 ∨ q = 2 by omega) with rfl | rfl | rfl <;> rfl
        have hxr : Row false wr A cap xs S := Row.keep hx3 (fun b hb => hch.block b (by have := hSg b hb; omega) (by have := hSg b hb; omega))
        refine (spec_l01PickInt _ g xs A cap S (hcw.keep (Below.heap_alloc wr _ _ (by omega))) (Row.later hxr ((Below.refl _ _).alloc (Nat.le_refl _) _)) hSn hl pickM _ 3 _ (row_boxi 3 _ hcell) (by omega) (by decide) (by decide)).mono ?_
        rintro e3 w4 ⟨x, rfl, hxm, hc4, hch4⟩
        have hz4 := hch4.size
        simp only [World.size_alloc] at hz4
        have hlen := hst.out
        have hrow4 : Row true w4 A2 c2 st (nw w3.heap.size) := Row.chg (hrow.allocC _) hch4 (fun b h1 h2 => by unfold nw at h1; omega)
        have hchA : Chg (fun b => b = g ∨ w3.heap.size ≤ b) w3 w4 := (hch.alloc _).trans (hch4.mono (fun b _ h => .inl h))
        have hB4 : Below w.heap.size w w4 := hB3.trans (hchA.to_below hB3.size (fun b h => by have := hB3.size; omega))
        obtain ⟨g2, rfl, hgS, hgl2, hgc, hgf, hr7⟩ := row_seti hrow4 (k := 3) (by omega) (by omega) (pickM_ok x hxm)
        obtain ⟨v0, hgc2⟩ := Option.isSome_iff_exists.1 hgc
        clear hgc hcell
        go_wp2
        go_ret2
        exact ⟨t, st.set 3 x, some ⟨g2, 0, none⟩, c2, _, by rw [List.length_set, hlen]; rfl, by omega, by rw [List.length_set, hlen]; omega, by rw [List.length_set, hlen]; omega, hcm, Row.weak hr7, hB4.setCell (by unfold nw at hgS; have := hB3.size; simp only; omega) _⟩
      · go_wp2_with (fail)
        refine (spec_ShaStart wr).mono ?_
        rintro e5 w6 ⟨A6, c6, rfl, q1, q2, q3, hb6⟩
        go_wp2
        go_ret2
        exact ⟨t, shaFirst.l, A6, c6, _, by rfl, by omega, by decide, q1, q2, Row.weak q3, hBw.trans (hb6.mono hBw.size)⟩
      · have e0 : (k == 0) = false := by rw [beq_eq_false_iff_ne]; exact n0
        have e1 : (k == 1) = false := by rw [beq_eq_false_iff_ne]; exact n1
        have e2 : (k == 2) = false := by rw [beq_eq_false_iff_ne]; exact n2
        have e3 : (k == 3) = false := by rw [beq_eq_false_iff_ne]; exact n3
        go_wp2
        go_ret2
        exact ⟨t, st, A2, c2, _, by rw [hst.out]; rfl, by omega, by rw [hst.out]; omega, by rw [hst.out]; exact hle, hcm, Row.weak hrow, hBw⟩
end Go.Proofs.YtlbmikcfjgnnaaaDoor
