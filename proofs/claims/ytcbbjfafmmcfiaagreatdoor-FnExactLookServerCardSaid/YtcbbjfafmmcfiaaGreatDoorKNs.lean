/- The hashes beside the way up; the hash of a place; the proof of a name: the program's walks. -/
import Derived.Test.YtcbbjfafmmcfiaaGreatDoorKNg
import Derived.Test.YtcbbjfafmmcfiaaGreatDoorKRp
import Derived.Deep.RegionHeld3
set_option linter.unusedVariables false
set_option linter.unusedSimpArgs false
namespace Go.Proofs.YtcbbjfafmmcfiaaGreatDoor
open Go.RowKit Lay Mk
theorem place_lt {ix k m : Nat} (hix : ix < 256) (hk : k < m) (hm : m ≤ 8) : (ix / 2 ^ k) ^^^ 1 < 2 ^ (8 - k) := by
  refine Nat.xor_lt_two_pow ?_ (Nat.lt_of_lt_of_le (by decide : 1 < 2 ^ 1) (Nat.pow_le_pow_right (by omega) (by omega)))
  rw [Nat.div_lt_iff_lt_mul (Nat.two_pow_pos k), ← Nat.pow_add, show 8 - k + k = 8 by omega]
  exact hix
theorem xor1 {q : Nat} (h : q < 256) : bits .xor .i64 (q : Int) 1 = ((q ^^^ 1 : Nat) : Int) := (show ∀ q : Fin 256, bits .xor .i64 ((q.val : Nat) : Int) 1 = ((q.val ^^^ 1 : Nat) : Int) from by decide +kernel) ⟨q, h⟩
set_option maxRecDepth 20000 in set_option maxHeartbeats 8000000 in
theorem impl_sides (w : World) (xs : List Leaf) (A : Option Addr) (cap : Nat) (S : Blks) (hx : Row false w A cap xs S) (A2 : Option Addr) (cap2 : Nat) (S2 : Blks) (hi : Row false w A2 cap2 (ixs xs) S2) (hl : xs.length ≤ 1048576) (n : Int) (hn : I64 n) (ix : Nat) (hix : ix < 256) (m : Nat) (hm : m ≤ 8) (hT : Tabs w) : Calls Tryz.prog 171 #[.agg #[.slice A xs.length cap, .slice A2 xs.length cap2, .int .i64 n], .int .i64 (ix : Int), .int .i64 (8 - (m : Int))] w (OwnRes (sidesD n ix xs m) w) := by
  have HT := Lib.hid hT
  clear hT
  have hWd : ∀ W, W = w.alloc (.cells #[.slice A xs.length cap, .slice A2 xs.length cap2, .int .i64 n] 241) → Below w.heap.size w W ∧ W.cell? ⟨w.heap.size, 0, none⟩ = some (.slice A xs.length cap) ∧ W.cell? ⟨w.heap.size, 1, none⟩ = some (.slice A2 xs.length cap2) ∧ W.cell? ⟨w.heap.size, 2, none⟩ = some (.int .i64 n) ∧ w.heap.size < W.heap.size := by
    rintro W rfl
    exact ⟨(Below.refl _ _).alloc (Nat.le_refl _) _, box_cell _ _ _ _ _ rfl, box_cell _ _ _ _ _ rfl, box_cell _ _ _ _ _ rfl, by simp⟩
  go_enter Tryz.func171, Tryz.ntmps171
  go_wp2_with (fail)
  obtain ⟨W, hW⟩ : ∃ W, w.alloc (.cells #[.slice A xs.length cap, .slice A2 xs.length cap2, .int .i64 n] 241) = W := ⟨_, rfl⟩
  rw [hW]
  obtain ⟨hBW, g0, g1, g2, hlW⟩ := hWd W hW.symm
  clear hW hWd
  have HBW := Lib.hid hBW
  have HM0 := Lib.hid (fun (w' : World) (h : Below W.heap.size W w') => (⟨(h.cell (p := ⟨w.heap.size, 0, none⟩) hlW).trans g0, (h.cell (p := ⟨w.heap.size, 1, none⟩) hlW).trans g1, (h.cell (p := ⟨w.heap.size, 2, none⟩) hlW).trans g2, h⟩ : w'.cell? ⟨w.heap.size, 0, none⟩ = some (.slice A xs.length cap) ∧ w'.cell? ⟨w.heap.size, 1, none⟩ = some (.slice A2 xs.length cap2) ∧ w'.cell? ⟨w.heap.size, 2, none⟩ = some (.int .i64 n) ∧ Below W.heap.size W w'))
  have HO := Lib.hid (Own.start (α := ByteArray) (Below.refl W.heap.size W))
  have RX := Lib.hid (Row.later hx hBW)
  have RI := Lib.hid (Row.later hi hBW)
  clear hBW hx hi
  go_loopw [7, 8] (fun u i wr => ∃ (k : Nat) (A3 : Option Addr) (c : Nat), k ≤ m ∧ i = .int .i64 (8 - (k : Int)) ∧ u = .slice A3 k c ∧ Own W wr A3 c (sidesD n ix xs k)) (fun _ i _ => (intOf i).toNat)
  case atStart => exact ⟨0, none, 0, Nat.zero_le _, rfl, rfl, HO.out⟩
  case round =>
    clear HO g0 g1 g2
    obtain ⟨k, A3, c, hk, rfl, rfl, hown⟩ := hrel
    have hb := hown.bl
    have HOW := Lib.hid hown
    obtain ⟨g0, g1, g2, -⟩ := HM0.out wr hb
    by_cases hlt : k < m
    · have hgt : (8 : Int) - (k : Int) > 8 - (m : Int) := by omega
      have hw1 : IntKind.i64.wrap (8 - (k : Int) - 1) = 8 - (k : Int) - 1 := IntWalk.i64_in _ (by omega)
      have hw2 : IntKind.i64.wrap (8 - (8 - (k : Int))) = (k : Int) := by rw [IntWalk.i64_in] <;> omega
      have HNL := Lib.hid (sidesD_len n ix xs k)
      have HPL := Lib.hid (place_lt hix hlt hm)
      have HBr := Lib.hid (HBW.out.trans (hb.mono HBW.out.size))
      have HN := Lib.hid (fun W' (h : Below W.heap.size W W') => impl_node n hn k (by omega) W' ((ix / 2 ^ k) ^^^ 1) HPL.out xs A cap S (Row.later RX.out h) A2 cap2 S2 (Row.later RI.out h) hl (HT.out.later (HBW.out.trans (h.mono HBW.out.size))))
      have hnm := nodeD_max n k ((ix / 2 ^ k) ^^^ 1) xs
      have HSS : Hid (sidesD n ix xs (k + 1) = sidesD n ix xs k ++ [nodeD n k ((ix / 2 ^ k) ^^^ 1) xs]) := Lib.hid rfl
      obtain ⟨a, hae⟩ : ∃ a, nodeD n k ((ix / 2 ^ k) ^^^ 1) xs = a := ⟨_, rfl⟩
      rw [hae] at HN hnm HSS
      have hbx : (((ix / 2 ^ k) ^^^ 1 : Nat) : Int) = bits .xor .i64 ((ix : Int) / 2 ^ k) 1 := by
        rw [← xor1 (Nat.lt_of_le_of_lt (Nat.div_le_self _ _) hix), Int.natCast_ediv, Int.natCast_pow]; rfl
      rw [hbx] at HN
      clear hae hbx
      have hwl := hb.size
      have hB := Below.refl wr.heap.size wr
      clear hown
      go_wp2_with (fail)
      go_region_held3 (fun w' => w'.cell? ⟨w.heap.size, 0, none⟩ = some (.slice A xs.length cap) ∧ w'.cell? ⟨w.heap.size, 1, none⟩ = some (.slice A2 xs.length cap2) ∧ w'.cell? ⟨w.heap.size, 2, none⟩ = some (.int .i64 n) ∧ Below W.heap.size W w')
        (first | exact HM0.out _ hE | exact HM0.out _ (hb.trans (Below.mono (w := wr) (by (repeat (first | with_reducible exact hB | with_reducible apply Below.drew | with_reducible refine Below.alloc ?_ ?_ _)); all_goals (first | omega | (simp; done) | (simp; omega))) hwl)))
        (first | (go_at_call 241; with_reducible refine (HN.out _ ?_).mono ?_; (exact hb.trans (Below.mono (w := wr) (by (repeat (first | with_reducible exact hB | with_reducible apply Below.drew | with_reducible refine Below.alloc ?_ ?_ _)); all_goals (first | omega | (simp; done) | (simp; omega))) hwl)); rintro e5 w5 ⟨rfl, hb5⟩; have hB := Below.step (a := wr) (by (repeat (first | with_reducible exact hB | with_reducible apply Below.drew | with_reducible refine Below.alloc ?_ ?_ _)); all_goals (first | omega | (simp; done) | (simp; omega))) hb5; have hs5 := hB.size) | ((refine step_push (α := ByteArray) (w0 := W) rfl _ _ rfl rfl HNL.out.symm (HOW.out.later (by (repeat (first | with_reducible exact hB | with_reducible apply Below.drew | with_reducible refine Below.alloc ?_ ?_ _)); all_goals (first | omega | (simp; done) | (simp; omega)))) rfl rfl (src1 hnm (by first | rfl | simp) rfl) (by omega) ?_); intro A6 c6 w6 o6 hE))
      go_wp2
      go_roundw
      case rel => exact ⟨k + 1, A6, c6, hlt, by go_num, rfl, by rw [HSS.out]; exact o6⟩
      case measure => simp [intOf]; omega
    · have hke : k = m := by omega
      subst hke
      have HNL := Lib.hid (sidesD_len n ix xs k)
      have HOF := Lib.hid (hown.from HBW.out)
      clear hown hb
      go_wp2
      go_ret
      exact OwnRes.mk HOF.out rfl HNL.out.symm
end Go.Proofs.YtcbbjfafmmcfiaaGreatDoor
