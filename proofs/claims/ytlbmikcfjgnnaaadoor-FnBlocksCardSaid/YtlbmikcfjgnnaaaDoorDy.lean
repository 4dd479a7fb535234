/- Walk: one drawn byte. -/
import Derived.Test.YtlbmikcfjgnnaaaDoorDw
import Derived.BigQuiet
set_option linter.unusedVariables false
set_option linter.unusedSimpArgs false
namespace Go.Proofs.YtlbmikcfjgnnaaaDoor
open Go.RowKit Lay Mk
theorem i64_and255 (n : Int) : bits .and .i64 n 255 = n % 256 := by
  have h255 : (BitVec.ofInt 64 255).toNat = 2 ^ 8 - 1 := by decide
  have key : (BitVec.ofInt 64 n &&& BitVec.ofInt 64 255).toNat = (n % ((2 ^ 64 : Nat) : Int)).toNat % 2 ^ 8 := by
    rw [BitVec.toNat_and, BitVec.toNat_ofInt, h255, Nat.and_two_pow_sub_one_eq_mod]
  show IntKind.i64.wrap ((BitVec.ofInt 64 n &&& BitVec.ofInt 64 255).toNat : Nat) = n % 256
  rw [key, IntKind.wrap_i64]
  omega
theorem and255 (n : Int) : 0 ≤ bits .and .i64 n 255 ∧ bits .and .i64 n 255 ≤ 255 := by rw [i64_and255]; omega
theorem cur_step {w : World} {g : Nat} {xs : List UInt8} {A : Option Addr} {cap i : Nat} {h h2 : Int} (hb : w.heap[g]? = some (.cells #[.slice A xs.length cap, .int .i64 i, .int .i64 h] 51 (0, 0))) : (w.setCell ⟨g, 2, none⟩ (.int .i64 h2)).heap[g]? = some (.cells #[.slice A xs.length cap, .int .i64 i, .int .i64 h2] 51 (0, 0)) := by
  simp only [World.setCell, Array.getElem?_modify, hb]
  simp
theorem cur_next {w : World} {g : Nat} {xs : List UInt8} {A : Option Addr} {cap i : Nat} {h : Int} (hb : w.heap[g]? = some (.cells #[.slice A xs.length cap, .int .i64 i, .int .i64 h] 51 (0, 0))) (j : Int) : (w.setCell ⟨g, 1, none⟩ (.int .i64 j)).heap[g]? = some (.cells #[.slice A xs.length cap, .int .i64 j, .int .i64 h] 51 (0, 0)) := by
  simp only [World.setCell, Array.getElem?_modify, hb]
  simp
theorem chg_set {w : World} {g o : Nat} {v : Value} : Chg (fun b => b = g) w (w.setCell ⟨g, o, none⟩ v) := by
  have h := chg_setCells (S := fun b => b = g) w g o [v] rfl
  simpa [World.setCells] using h
theorem chg_drewN {w v : World} {S : Blks} (h : Chg S w v) (n : Nat) : Chg S w (v.drewN n) := by
  obtain ⟨a, b, c, d, e⟩ := h
  exact ⟨a, b, c, d, e⟩
theorem chg_two {w v u : World} {S : Blks} (h : Chg S w v) (k : Chg S v u) : Chg S w u := h.trans k
set_option maxRecDepth 20000 in set_option maxHeartbeats 4000000 in
theorem spec_l01Byte (w : World) (g : Nat) (xs : List UInt8) (A : Option Addr) (cap : Nat) (S : Blks) (hc : Cur w g xs A cap) (hx : Row false w A cap xs S) (hS : ¬ S g) (hl : xs.length ≤ 1048576) : Calls Tryd.prog 32 #[.pointer (some ⟨g, 0, none⟩)] w fun e w' => ∃ x : Int, e = .returned (.int .i64 x) ∧ 0 ≤ x ∧ x ≤ 255 ∧ Cur w' g xs A cap ∧ Chg (fun b => b = g) w w' := by
  obtain ⟨i, h, hi, hb⟩ := hc
  have c0 := cell_of_row w g 0 _ _ _ hb
  have c1 := cell_of_row w g 1 _ _ _ hb
  have c2 := cell_of_row w g 2 _ _ _ hb
  have cf : ∀ o, w.frozen? ⟨g, o, none⟩ = false := fun o => frozen_of_row _ _ o _ _ hb
  simp at c0 c1 c2
  by_cases hlt : i < xs.length
  · obtain ⟨b1, o1, rfl, hl1, hSb, f0⟩ := Row.u8 hx hlt
    have hne : b1 ≠ g := fun e => hS (e ▸ hSb)
    have hne2 : g ≠ b1 := fun e => hne e.symm
    obtain ⟨v, hv⟩ : ∃ v, (xs[i].toNat : Int) = v := ⟨_, rfl⟩
    rw [hv] at f0
    clear hv
    go_enter Tryd.func32, Tryd.ntmps32
    go_wp2
    go_quiet (fail)
    go_wp2
    go_quiet (fail)
    go_wp2
    go_quiet (fail)
    go_wp2
    go_ret
    refine ⟨_, rfl, (and255 _).1, (and255 _).2, ⟨i + 1, wrap64 (wrap64 (h * 6364136223846793005) + 1442695040888963407), by omega, ?_⟩, ?_⟩
    · rw [show ((i + 1 : Nat) : Int) = (i : Int) + 1 from rfl]
      exact cur_next (w := World.drewN _ _) (cur_step hb) _
    · exact chg_two (chg_drewN chg_set _) chg_set
  · go_enter Tryd.func32, Tryd.ntmps32
    go_wp2
    go_quiet (fail)
    go_wp2
    go_quiet (fail)
    go_wp2
    go_ret
    refine ⟨_, rfl, (and255 _).1, (and255 _).2, ⟨i, _, hi, cur_step hb⟩, chg_drewN (chg_drewN chg_set _) _⟩
end Go.Proofs.YtlbmikcfjgnnaaaDoor
