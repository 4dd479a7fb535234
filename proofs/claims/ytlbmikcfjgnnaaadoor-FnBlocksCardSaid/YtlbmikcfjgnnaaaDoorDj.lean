/- Walks: one number out of a list; a text of one of some lengths. -/
import Derived.Test.YtlbmikcfjgnnaaaDoorDk
set_option linter.unusedVariables false
set_option linter.unusedSimpArgs false
namespace Go.Proofs.YtlbmikcfjgnnaaaDoor
open Go.RowKit Lay Mk
/-- a row of numbers in one block -/
theorem row_boxi {w : World} {b : Nat} (cap : Nat) (l : List Int) (hc : ∀ j (h : j < l.length), w.cell? ⟨b, j, none⟩ = some (.int .i64 l[j]) ∧ I64 l[j]) : Row false w (some ⟨b, 0, none⟩) cap l (fun q => q = b) := by
  intro _
  refine ⟨b, 0, rfl, rfl, fun _ => none_, fun _ _ x => x.elim, fun h => by simp at h, fun i hi => ⟨[.int .i64 l[i]], fun j u hu => ?_, ⟨rfl, (hc i hi).2⟩⟩⟩
  have hj := (List.getElem?_eq_some_iff.1 hu).1
  have hj : j = 0 := by simpa using hj
  subst hj
  rw [← hu, show 0 + i * n Int + 0 = i by rw [show n Int = 1 from rfl]; omega]
  exact (hc i hi).1
set_option maxRecDepth 20000 in set_option maxHeartbeats 4000000 in
theorem spec_l01PickInt (w : World) (g : Nat) (xs : List UInt8) (A : Option Addr) (cap : Nat) (S : Blks) (hc : Cur w g xs A cap) (hx : Row false w A cap xs S) (hS : ¬ S g) (hl : xs.length ≤ 1048576) (zs : List Int) (A2 : Option Addr) (cap2 : Nat) (S2 : Blks) (hz : Row false w A2 cap2 zs S2) (hS2 : ¬ S2 g) (h1 : 0 < zs.length) (h2 : zs.length ≤ 256) : Calls Tryd.prog 21 #[.pointer (some ⟨g, 0, none⟩), .slice A2 zs.length cap2] w fun e w' => ∃ x : Int, e = .returned (.int .i64 x) ∧ x ∈ zs ∧ Cur w' g xs A cap ∧ Chg (fun b => b = g) w w' := by
  go_enter Tryd.func21, Tryd.ntmps21
  go_wp2_with (fail)
  refine (spec_l01Below w g xs A cap S hc hx hS hl (zs.length : Int) (by omega) (by omega)).mono ?_
  rintro e0 w1 ⟨x, rfl, hx0, hx1, hc1, hch⟩
  obtain ⟨y, rfl⟩ : ∃ y : Nat, x = y := ⟨x.toNat, by omega⟩
  have hy : y < zs.length := by omega
  obtain ⟨b1, o1, rfl, hl1, f0, -⟩ := Row.int (Row.chg hz hch (fun b p q => hS2 (q ▸ p))) hy
  have hm : zs[y] ∈ zs := List.getElem_mem hy
  obtain ⟨z, hzz⟩ : ∃ z, zs[y] = z := ⟨_, rfl⟩
  rw [hzz] at f0 hm
  clear hzz
  go_wp2
  go_ret
  exact ⟨z, rfl, hm, hc1, hch⟩
end Go.Proofs.YtlbmikcfjgnnaaaDoor
