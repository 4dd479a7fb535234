/- Walks: a change's text. -/
import Derived.Test.YticdcndpbnbkhaaVt
import Derived.Test.YticdcndpbnbkhaaCh
import Derived.Deep.RegionHeld3
namespace Go.Proofs.Yticdcndpbnbkhaa
open Go.RowKit Lay Mk
def shortT (s : ByteArray) : ByteArray := varT s.size ++ s
def changeText (u : Change) : ByteArray × Bool := if changeOk u then (varT u.id.toNat ++ shortT u.name ++ shortT u.value, true) else (⟨#[]⟩, false)
theorem shortT_size {s : ByteArray} (h : s.size ≤ 1000000000) : (shortT s).size ≤ s.size + 5 := by unfold shortT; rw [ByteArray.size_append]; have := varT_le h; omega
theorem impl_shortText (s : ByteArray) (w : World) (hs : s.size ≤ 1000000000) : Calls Try.prog 54 #[.string s] w fun e w' => e = .returned (.string (shortT s)) ∧ Below w.heap.size w w' := by
  go_enter Try.func54, Try.ntmps54
  have hv := varT_le hs
  go_wp2_with (go_at_call 53; refine (impl_varText _ _ hs).mono ?_; rintro e w' ⟨rfl, hb⟩)
  go_ret; exact ⟨rfl, hb⟩

set_option maxRecDepth 20000 in set_option maxHeartbeats 2000000 in
theorem impl_ChangeText0 (x : Change) (w : World) (hn : x.name.size ≤ 1048576) (hv : x.value.size ≤ 1048576) : Calls Try.prog 20 #[.agg (Change.cs x).toArray] w fun e w' => e = .returned (.tuple #[.string (changeText x).1, .bool (changeText x).2]) ∧ Below w.heap.size w w' := by
  have hn2 : x.name.size ≤ maxLen := by unfold maxLen; omega
  have hv2 : x.value.size ≤ maxLen := by unfold maxLen; omega
  have hCh : ∀ W, Calls Try.prog 18 #[.agg (Change.cs x).toArray] W _ := fun W => impl_ChangeOk x W hn2 hv2
  obtain ⟨i, n, v⟩ := x
  simp only [Change.cs] at hCh ⊢
  simp only at hn hv
  go_enter Try.func20, Try.ntmps20
  go_wp2_with (fail)
  generalize hW : w.alloc _ = W
  have hWB : Below w.heap.size w W := by rw [← hW]; exact (Below.refl _ _).alloc (Nat.le_refl _) _
  have hWs : w.heap.size < W.heap.size := by rw [← hW]; simp
  have q0 : W.cell? ⟨w.heap.size, 0, none⟩ = some (.int .i64 i) := by rw [← hW]; exact box_cell _ _ _ _ _ rfl
  have q1 : W.cell? ⟨w.heap.size, 1, none⟩ = some (.string n) := by rw [← hW]; exact box_cell _ _ _ _ _ rfl
  have q2 : W.cell? ⟨w.heap.size, 2, none⟩ = some (.string v) := by rw [← hW]; exact box_cell _ _ _ _ _ rfl
  refine (hCh _).mono ?_
  rintro e w1 ⟨rfl, hb⟩
  have hB : Below W.heap.size W w1 := hb
  by_cases hok : changeOk ⟨i, n, v⟩ = true
  · have hi : 0 ≤ i ∧ i ≤ 99 := by simp [changeOk, inB] at hok; omega
    obtain ⟨hi1, hi2⟩ := hi
    obtain ⟨j, rfl⟩ : ∃ j : Nat, i = (j : Int) := ⟨i.toNat, by omega⟩
    have hc := fun o => hB.cell (p := ⟨w.heap.size, o, none⟩) hWs
    have z1 := varT_le (n := j) (by omega)
    have z2 := shortT_size (s := n) (by omega)
    have z3 := shortT_size (s := v) (by omega)
    have z4 : ¬ 9223372036854775807 < (varT j).size + (shortT n).size := by omega
    have z5 : ¬ 9223372036854775807 < (varT j).size + (shortT n).size + (shortT v).size := by omega
    simp only [hok]
    go_wp2_with (fail)
    have HM := Lib.hid (fun (w' : World) (h : Below W.heap.size W w') => (⟨(h.cell (p := ⟨w.heap.size, 0, none⟩) hWs).trans q0, (h.cell (p := ⟨w.heap.size, 1, none⟩) hWs).trans q1, (h.cell (p := ⟨w.heap.size, 2, none⟩) hWs).trans q2, h⟩ : w'.cell? ⟨w.heap.size, 0, none⟩ = some (.int .i64 j) ∧ w'.cell? ⟨w.heap.size, 1, none⟩ = some (.string n) ∧ w'.cell? ⟨w.heap.size, 2, none⟩ = some (.string v) ∧ Below W.heap.size W w'))
    clear q0 q1 q2 hc
    go_region_held3 (fun w' => w'.cell? ⟨w.heap.size, 0, none⟩ = some (.int .i64 j) ∧ w'.cell? ⟨w.heap.size, 1, none⟩ = some (.string n) ∧ w'.cell? ⟨w.heap.size, 2, none⟩ = some (.string v) ∧ Below W.heap.size W w')
      (first | exact HM.out _ hB | exact HM.out _ hB.drew)
      (first | (go_at_call 53; refine (impl_varText _ _ (by omega)).mono ?_; rintro e w1 ⟨rfl, hb⟩; have hB := Below.step (a := W) (by first | exact hB | exact hB.drew) hb) | (go_at_call 54; refine (impl_shortText _ _ (by omega)).mono ?_; rintro e w1 ⟨rfl, hb⟩; have hB := Below.step (a := W) (by first | exact hB | exact hB.drew) hb))
    go_wp2
    go_ret2
    exact ⟨by simp [changeText, hok], hWB.trans (hB.mono (Nat.le_of_lt hWs))⟩
  · have hok2 : changeOk ⟨i, n, v⟩ = false := by simpa using hok
    simp only [hok2]
    go_wp2
    go_ret2
    exact ⟨by simp [changeText, hok2], hWB.trans (hB.mono (Nat.le_of_lt hWs))⟩


set_option maxRecDepth 20000 in set_option maxHeartbeats 2000000 in
theorem spec_ChangeText0 (x : Change) (w : World) (hn : x.name.size ≤ 1048576) (hv : x.value.size ≤ 1048576) : Calls Try.prog 19 #[.agg (Change.cs x).toArray] w fun e w' => e = .returned (.tuple #[.string (changeText x).1, .bool (changeText x).2]) ∧ Below w.heap.size w w' := by
  have hn2 : x.name.size ≤ maxLen := by unfold maxLen; omega
  have hv2 : x.value.size ≤ maxLen := by unfold maxLen; omega
  have hCh : ∀ W, Calls Try.prog 16 #[.agg (Change.cs x).toArray] W _ := fun W => spec_ChangeOk x W hn2 hv2
  obtain ⟨i, n, v⟩ := x
  simp only [Change.cs] at hCh ⊢
  simp only at hn hv
  go_enter Try.func19, Try.ntmps19
  go_wp2_with (fail)
  generalize hW : w.alloc _ = W
  have hWB : Below w.heap.size w W := by rw [← hW]; exact (Below.refl _ _).alloc (Nat.le_refl _) _
  have hWs : w.heap.size < W.heap.size := by rw [← hW]; simp
  have q0 : W.cell? ⟨w.heap.size, 0, none⟩ = some (.int .i64 i) := by rw [← hW]; exact box_cell _ _ _ _ _ rfl
  have q1 : W.cell? ⟨w.heap.size, 1, none⟩ = some (.string n) := by rw [← hW]; exact box_cell _ _ _ _ _ rfl
  have q2 : W.cell? ⟨w.heap.size, 2, none⟩ = some (.string v) := by rw [← hW]; exact box_cell _ _ _ _ _ rfl
  refine (hCh _).mono ?_
  rintro e w1 ⟨rfl, hb⟩
  have hB : Below W.heap.size W w1 := hb
  by_cases hok : changeOk ⟨i, n, v⟩ = true
  · have hi : 0 ≤ i ∧ i ≤ 99 := by simp [changeOk, inB] at hok; omega
    obtain ⟨hi1, hi2⟩ := hi
    obtain ⟨j, rfl⟩ : ∃ j : Nat, i = (j : Int) := ⟨i.toNat, by omega⟩
    have hc := fun o => hB.cell (p := ⟨w.heap.size, o, none⟩) hWs
    have z1 := varT_le (n := j) (by omega)
    have z2 := varT_le (n := n.size) (by omega)
    have z3 := varT_le (n := v.size) (by omega)
    have z4 : ¬ 9223372036854775807 < (varT j).size + (varT n.size).size := by omega
    have z5 : ¬ 9223372036854775807 < (varT j).size + (varT n.size).size + n.size := by omega
    have z6 : ¬ 9223372036854775807 < (varT j).size + (varT n.size).size + n.size + (varT v.size).size := by omega
    have z7 : ¬ 9223372036854775807 < (varT j).size + (varT n.size).size + n.size + (varT v.size).size + v.size := by omega
    simp only [hok]
    go_wp2_with (fail)
    have HM := Lib.hid (fun (w' : World) (h : Below W.heap.size W w') => (⟨(h.cell (p := ⟨w.heap.size, 0, none⟩) hWs).trans q0, (h.cell (p := ⟨w.heap.size, 1, none⟩) hWs).trans q1, (h.cell (p := ⟨w.heap.size, 2, none⟩) hWs).trans q2, h⟩ : w'.cell? ⟨w.heap.size, 0, none⟩ = some (.int .i64 j) ∧ w'.cell? ⟨w.heap.size, 1, none⟩ = some (.string n) ∧ w'.cell? ⟨w.heap.size, 2, none⟩ = some (.string v) ∧ Below W.heap.size W w'))
    clear q0 q1 q2 hc
    go_region_held3 (fun w' => w'.cell? ⟨w.heap.size, 0, none⟩ = some (.int .i64 j) ∧ w'.cell? ⟨w.heap.size, 1, none⟩ = some (.string n) ∧ w'.cell? ⟨w.heap.size, 2, none⟩ = some (.string v) ∧ Below W.heap.size W w')
      (first | exact HM.out _ hB | exact HM.out _ hB.drew)
      (first | (go_at_call 52; refine (spec_l01Var _ _ (by omega)).mono ?_; rintro e w1 ⟨rfl, hb⟩; have hB := Below.step (a := W) (by first | exact hB | exact hB.drew) hb))
    go_wp2
    go_ret2
    exact ⟨by simp [changeText, hok, shortT, ByteArray.append_assoc], hWB.trans (hB.mono (Nat.le_of_lt hWs))⟩
  · have hok2 : changeOk ⟨i, n, v⟩ = false := by simpa using hok
    simp only [hok2]
    go_wp2
    go_ret2
    exact ⟨by simp [changeText, hok2], hWB.trans (hB.mono (Nat.le_of_lt hWs))⟩
theorem impl_ChangeText (w : World) (x : Change) (cs : List Value) (S : Blks) (hx : rd false w cs x S) (hz : x.sz ≤ 1048576) : Calls Try.prog 20 #[.agg cs.toArray] w fun e w' => e = .returned (.tuple #[.string (changeText x).1, .bool (changeText x).2]) ∧ Below w.heap.size w w' := by
  obtain ⟨rfl, _, _, _⟩ := Change.open hx
  unfold Change.sz at hz
  exact impl_ChangeText0 x w (by omega) (by omega)
theorem spec_ChangeText (w : World) (x : Change) (cs : List Value) (S : Blks) (hx : rd false w cs x S) (hz : x.sz ≤ 1048576) : Calls Try.prog 19 #[.agg cs.toArray] w fun e w' => e = .returned (.tuple #[.string (changeText x).1, .bool (changeText x).2]) ∧ Below w.heap.size w w' := by
  obtain ⟨rfl, _, _, _⟩ := Change.open hx
  unfold Change.sz at hz
  exact spec_ChangeText0 x w (by omega) (by omega)
end Go.Proofs.Yticdcndpbnbkhaa
