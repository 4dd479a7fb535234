/- Walk: a drawn text. -/
import Derived.Test.YtlbmikcfjgnnaaaDoorDv
set_option linter.unusedVariables false
set_option linter.unusedSimpArgs false
namespace Go.Proofs.YtlbmikcfjgnnaaaDoor
open Go.RowKit Lay Mk
theorem Cur.keep {w w' : World} {g : Nat} {xs : List UInt8} {A : Option Addr} {cap : Nat} (h : Cur w g xs A cap) (e : w'.heap[g]? = w.heap[g]?) : Cur w' g xs A cap := by
  obtain ⟨i, z, h1, h2⟩ := h
  exact ⟨i, z, h1, e.trans h2⟩
set_option maxRecDepth 20000 in set_option maxHeartbeats 4000000 in
theorem spec_l01Text (w : World) (g : Nat) (xs : List UInt8) (A : Option Addr) (cap : Nat) (S : Blks) (hc : Cur w g xs A cap) (hx : Row false w A cap xs S) (hS : ∀ b, S b → b < g) (hg : g < w.heap.size) (hl : xs.length ≤ 1048576) (n : Nat) (hn : n ≤ 5000) : Calls Tryd.prog 20 #[.pointer (some ⟨g, 0, none⟩), .int .i64 n] w fun e w' => ∃ t : ByteArray, e = .returned (.string t) ∧ t.size = n ∧ Cur w' g xs A cap ∧ Chg (fun b => b = g ∨ w.heap.size ≤ b) w w' := by
  have hn2 : decide ((5000 : Int) < n) = false := by rw [decide_eq_false_iff_not]; omega
  go_enter Tryd.func20, Tryd.ntmps20
  go_wp2
  go_loopw [5, 6] (fun u i wr => ∃ (k : Nat) (ys : List UInt8) (A2 : Option Addr) (c2 : Nat), k ≤ n ∧ i = .int .i64 k ∧ u = .slice A2 ys.length c2 ∧ Hid (ys.length = k) ∧ ys.length ≤ c2 ∧ c2 ≤ maxLen ∧ Row true wr A2 c2 ys (nw w.heap.size) ∧ Cur wr g xs A cap ∧ Chg (fun b => b = g ∨ w.heap.size ≤ b) w wr) (fun _ i _ => n - (intOf i).toNat)
  case atStart => exact ⟨0, [], _, _, Nat.zero_le _, rfl, rfl, Lib.hid rfl, by simp, by decide, row_lit0 _ _ _ rfl (Nat.le_refl _), hc.keep (Below.heap_alloc w _ _ hg), (Chg.refl _ _).alloc _⟩
  case round =>
    obtain ⟨k, ys, A2, c2, hk, rfl, rfl, hyk, hle, hcm, hrow, hc2, hch⟩ := hrel
    have hz := hch.size
    by_cases hlt : k < n
    · have hxr : Row false wr A cap xs S := Row.keep hx (fun b hb => hch.block b (by have := hS b hb; omega) (by have := hS b hb; omega))
      have hyl : ys.length ≤ 5000 := by rw [hyk.out]; omega
      go_wp2_with (fail)
      refine (spec_l01Byte wr g xs A cap S hc2 hxr (fun h => by have := hS g h; omega) hl).mono ?_
      rintro e0 w1 ⟨x, rfl, hx0, hx1, hc3, hch1⟩
      have hz1 := hch1.size
      have hrow1 : Row true w1 A2 c2 ys (nw w.heap.size) := Row.chg hrow hch1 (fun b h1 h2 => by unfold nw at h1; omega)
      have hchA : Chg (fun b => b = g ∨ w.heap.size ≤ b) w w1 := hch.trans (hch1.mono (fun b _ h => .inl h))
      obtain ⟨y, rfl⟩ : ∃ y : Nat, x = y := ⟨x.toNat, by omega⟩
      have hw8 : IntKind.u8.wrap (y : Int) = y := by rw [IntKind.wrap_u8']; omega
      go_wp2_with (at_builtin; refine wpList_app (α := UInt8) rfl _ _ rfl rfl rfl (hrow1.allocC _) hle hcm rfl rfl (src_u8 _ _ _ _ (u8_eq y _ rfl (by omega))) (disj_none_ _) (by omega) ?_; intro A' cap' w4 h1 h2 h3 h4)
      go_roundw
      case rel => exact ⟨k + 1, ys ++ [UInt8.ofNat y], A', cap', by omega, by go_num, by simp, Lib.hid (by rw [List.length_append, hyk.out]; rfl), by simpa using h1, h2, row_og h3 (fun b hb => by unfold nw; simp at hb; omega), (hc3.keep (Below.heap_alloc w1 _ _ (by omega))).keep (h4.block _ (by simp; omega) (by unfold nw; omega)), (hchA.alloc _).trans (h4.mono (fun b _ h => .inr h))⟩
      case measure => simp [intOf]; omega
    · have hke : k = n := by omega
      subst hke
      go_wp2_with (refine wpList_bytes rfl _ rfl Tryd.underlying5 Tryd.underlying9 rfl rfl hrow ?_)
      go_ret
      exact ⟨bs ys, rfl, by rw [bs_size, hyk.out], hc2, hch⟩
end Go.Proofs.YtlbmikcfjgnnaaaDoor
