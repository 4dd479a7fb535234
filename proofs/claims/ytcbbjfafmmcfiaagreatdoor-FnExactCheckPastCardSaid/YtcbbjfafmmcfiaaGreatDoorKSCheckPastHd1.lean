/- Walks of the law's helpers: those that this law needs. -/
import Derived.Test.YtcbbjfafmmcfiaaGreatDoorB2
import Derived.Test.YtcbbjfafmmcfiaaGreatDoorB1
import Derived.Deep.RegionHeld3
set_option linter.unusedVariables false
set_option linter.unusedSimpArgs false
namespace Go.Proofs.YtcbbjfafmmcfiaaGreatDoor
open Go.RowKit Lay Mk
set_option maxRecDepth 40000 in set_option maxHeartbeats 4000000 in
theorem held_StringS (xs : List ByteArray) (w : World) (A : Option Addr) (cap : Nat) (S : Blks) (a : Int) (k0 : Nat) (ha : a = (k0 : Int)) (hk : k0 + cnL xs ≤ 4611686018427387904) (hx : Row false w A cap (meL xs k0) S) (hl : xs.length ≤ maxLen) :
    Calls Tryz.prog 30 #[.slice A xs.length cap, .int .i64 a] w fun e w' => e = .returned (.int .i64 ((k0 + cnL xs : Nat) : Int)) ∧ Below w.heap.size w w' := by
  subst ha
  unfold maxLen at hl
  go_enter Tryz.func30, Tryz.ntmps30
  go_wp2
  go_loopw [1, 5] (fun l i wr => ∃ k : Nat, k ≤ xs.length ∧ i = .int .i64 k ∧ l = .int .i64 ((k0 + cnL (xs.take k) : Nat) : Int) ∧ Below w.heap.size w wr) (fun _ i _ => xs.length - (intOf i).toNat)
  case atStart => exact ⟨0, Nat.zero_le _, rfl, by simp [cnL], Below.refl _ _⟩
  case round =>
    obtain ⟨k, hkk, rfl, rfl, hb⟩ := hrel
    have hz := hb.size
    by_cases hlt : k < xs.length
    · have hlt2 : k < (meL xs k0).length := by simpa using hlt
      have hne : meL xs k0 ≠ [] := by intro h; rw [h] at hlt2; simp at hlt2
      obtain ⟨b1, o1, rfl, _, T1, _, _, he1⟩ := hx hne
      obtain ⟨c1, ha1, hr1⟩ := he1 k hlt2
      have hl1 := ha1.lt (by rintro rfl; have := Lay.len hr1; cases this)
      rw [meL_get xs k0 k hlt] at hr1
      have hcs := cnL_take_succ xs k hlt
      have hcl := cnL_take_le xs (k + 1)
      generalize hK : k0 + cnL (xs.take k) = K at hr1
      generalize xs[k] = x at hr1 hcs
      rw [show Mk.cn x = 1 from rfl] at hcs
      have hs2 : Hid (k0 + cnL (xs.take (k + 1)) = K + 1) := Lib.hid (by omega)
      have hKb : K + 1 ≤ 4611686018427387904 := by omega
      clear hcs hK hcl he1 hx
      have hc0 := fun o => hb.cell (p := ⟨b1, o, none⟩) hl1
      have hr1 : rd false w c1 (mtext K) (T1 k) := hr1
      obtain ⟨rfl, _⟩ := open_str hr1
      clear hr1
      have q0 : w.cell? ⟨b1, o1 + k, none⟩ = some (.string (mtext (K))) := by have := ha1 0 _ rfl; simpa [show Lay.n ByteArray = 1 from rfl] using this
      clear ha1
      go_wp2_with (fail)
      go_region_held3 (fun w' => w'.cell? ⟨b1, o1 + k, none⟩ = some (.string (mtext (K))) ∧ Below w.heap.size w w')
        (first | (refine And.intro ?_ ?_ <;> first | exact hb.drew | exact (hb.drew.cell (p := ⟨b1, o1 + k, none⟩) hl1).trans q0 | exact (hb1.cell (p := ⟨b1, o1 + k, none⟩) (by simp; omega)).trans ((hb.drew.cell (p := ⟨b1, o1 + k, none⟩) hl1).trans q0) | exact hb.drew.trans (hb1.mono (by simp; omega)) | (go_keep; done)))
        ((go_at_call 97; refine (mark_Text _ (K) (by first | rfl | omega | (simp; done)) (by omega) _).mono ?_; rintro e1 w1 ⟨rfl, hb1⟩))
      have hB1 : Below w.heap.size w w1 := hb.drew.trans (hb1.mono (by simp; omega))
      have hz1 := hB1.size
      have hc1 := fun o => hB1.cell (p := ⟨b1, o, none⟩) hl1
      go_wp2
      go_roundw
      case rel => exact ⟨k + 1, by omega, by go_num, by rw [hs2.out]; first | go_num | (congr 1; omega), by (repeat (first | exact hB1 | exact Below.refl _ _ | apply Below.drew | refine Below.alloc ?_ (by first | with_reducible exact Nat.le_refl _ | omega | (simp; done) | (simp; omega)) _))⟩
      case measure => simp [intOf]; omega
    · have hke : k = xs.length := by omega
      go_wp2
      go_ret; refine ⟨?_, hb⟩; subst hke; rw [List.take_of_length_le (Nat.le_refl _)]; rfl
end Go.Proofs.YtcbbjfafmmcfiaaGreatDoor
