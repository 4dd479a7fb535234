/- Walks: a letter's text. -/
import Derived.Test.YticdcndpbnbkhaaVt
import Derived.Test.YticdcndpbnbkhaaSm
import Derived.Deep.RegionHeld
namespace Go.Proofs.Yticdcndpbnbkhaa
open Go.RowKit Lay Mk
def letterText (x : Letter) : ByteArray × Bool := if letterOk x then sealed (bs [UInt8.ofNat x.kind.toNat, UInt8.ofNat x.from_.toNat, UInt8.ofNat x.to.toNat, UInt8.ofNat x.epoch.toNat] ++ varT x.try_.toNat ++ x.root) else (⟨#[]⟩, false)
theorem empty_size {s : ByteArray} (h : s.toList = []) : s.size = 0 := by
  rw [ByteArray.toList_eq] at h
  have : s.data.toList.length = 0 := by rw [h]; rfl
  simpa using this
theorem letterOk_b {x : Letter} (h : letterOk x = true) : (0 ≤ x.kind ∧ x.kind ≤ 5) ∧ (0 ≤ x.from_ ∧ x.from_ ≤ 4) ∧ (0 ≤ x.to ∧ x.to ≤ 4) ∧ (0 ≤ x.epoch ∧ x.epoch ≤ 4) ∧ (1 ≤ x.try_ ∧ x.try_ ≤ 1000) ∧ x.root.size ≤ 16 := by
  unfold letterOk inB at h
  simp only [Bool.and_eq_true, decide_eq_true_eq] at h
  obtain ⟨⟨h1, h2⟩, h3⟩ := h
  split at h3
  · rename_i hk
    simp only [Bool.and_eq_true, decide_eq_true_eq, List.isEmpty_iff] at h3
    have := empty_size h3.2
    omega
  · split at h3
    · simp only [Bool.and_eq_true, decide_eq_true_eq, beq_iff_eq] at h3
      omega
    · split at h3
      · simp only [Bool.and_eq_true, decide_eq_true_eq, List.isEmpty_iff] at h3
        have := empty_size h3.2
        omega
      · cases h3

set_option maxRecDepth 20000 in set_option maxHeartbeats 8000000 in
theorem impl_LetterText0 (x : Letter) (w : World) : Calls Try.prog 40 #[.agg (Letter.cs x).toArray] w fun e w' => e = .returned (.tuple #[.string (letterText x).1, .bool (letterText x).2]) ∧ Below w.heap.size w w' := by
  have hCh : ∀ W, Calls Try.prog 14 #[.agg (Letter.cs x).toArray] W _ := fun W => impl_LetterOk x W
  by_cases hok : letterOk x = true
  · have HX : Hid (letterText x = sealed (bs [UInt8.ofNat x.kind.toNat, UInt8.ofNat x.from_.toNat, UInt8.ofNat x.to.toNat, UInt8.ofNat x.epoch.toNat] ++ varT x.try_.toNat ++ x.root)) := Lib.hid (by simp [letterText, hok])
    obtain ⟨⟨a1, a2⟩, ⟨b1, b2⟩, ⟨c1, c2⟩, ⟨d1, d2⟩, ⟨e1, e2⟩, r1⟩ := letterOk_b hok
    rw [hok] at hCh
    obtain ⟨k, f, t, e, y, r⟩ := x
    simp only [Letter.cs] at *
    obtain ⟨k, rfl⟩ : ∃ n : Nat, k = n := ⟨k.toNat, by omega⟩
    obtain ⟨f, rfl⟩ : ∃ n : Nat, f = n := ⟨f.toNat, by omega⟩
    obtain ⟨t, rfl⟩ : ∃ n : Nat, t = n := ⟨t.toNat, by omega⟩
    obtain ⟨e, rfl⟩ : ∃ n : Nat, e = n := ⟨e.toNat, by omega⟩
    obtain ⟨y, rfl⟩ : ∃ n : Nat, y = n := ⟨y.toNat, by omega⟩
    simp only [Int.toNat_natCast] at HX
    have v1 := varT_le (n := y) (by omega)
    have v2 : (bs [UInt8.ofNat k, UInt8.ofNat f, UInt8.ofNat t, UInt8.ofNat e]).size = 4 := bs_size _
    obtain ⟨h4, hh4⟩ : ∃ s, bs [UInt8.ofNat k, UInt8.ofNat f, UInt8.ofNat t, UInt8.ofNat e] = s := ⟨_, rfl⟩
    have hconv : ∀ (W' : World) (b : Nat), W'.cell? ⟨b, 0, none⟩ = some (.int .u8 k) → W'.cell? ⟨b, 1, none⟩ = some (.int .u8 f) → W'.cell? ⟨b, 2, none⟩ = some (.int .u8 t) → W'.cell? ⟨b, 3, none⟩ = some (.int .u8 e) →
        (convert 78 9 (.slice (some ⟨b, 0, none⟩) 4 4)).run Try.prog W' = .ok (.string h4) W' := by
      intro W' b g0 g1 g2 g3
      rw [← hh4]
      refine run_convert_bytes_back W' _ _ 5 ⟨b, 0, none⟩ 4 [UInt8.ofNat k, UInt8.ofNat f, UInt8.ofNat t, UInt8.ofNat e] Try.underlying78 Try.underlying5 Try.underlying9 (fun j hj => ?_)
      rw [add_none, Nat.zero_add]
      have hj : j < 4 := hj
      rcases (show j = 0 ∨ j = 1 ∨ j = 2 ∨ j = 3 by omega) with rfl | rfl | rfl | rfl
      · rw [g0]; simp; omega
      · rw [g1]; simp; omega
      · rw [g2]; simp; omega
      · rw [g3]; simp; omega
    rw [hh4] at HX v2
    have HH := Lib.hid hh4; clear hh4
    have v3 : ¬ 9223372036854775807 < h4.size + (varT y).size := by omega
    have v4 : ¬ 9223372036854775807 < h4.size + (varT y).size + r.size := by omega
    have v5 : (h4 ++ varT y ++ r).size ≤ 1048576 := by rw [ByteArray.size_append, ByteArray.size_append]; omega
    have V2 := Lib.hid v2; clear v2
    have wk : IntKind.u8.wrap (k : Int) = k := by rw [IntKind.wrap_u8']; omega
    have wf : IntKind.u8.wrap (f : Int) = f := by rw [IntKind.wrap_u8']; omega
    have wt : IntKind.u8.wrap (t : Int) = t := by rw [IntKind.wrap_u8']; omega
    have we : IntKind.u8.wrap (e : Int) = e := by rw [IntKind.wrap_u8']; omega
    go_enter Try.func40, Try.ntmps40
    go_wp2_with (fail)
    generalize hW : w.alloc _ = W
    have hWB : Below w.heap.size w W := by rw [← hW]; exact (Below.refl _ _).alloc (Nat.le_refl _) _
    have hWs : w.heap.size < W.heap.size := by rw [← hW]; simp
    have q0 : W.cell? ⟨w.heap.size, 0, none⟩ = some (.int .i64 k) := by rw [← hW]; exact box_cell _ _ _ _ _ rfl
    have q1 : W.cell? ⟨w.heap.size, 1, none⟩ = some (.int .i64 f) := by rw [← hW]; exact box_cell _ _ _ _ _ rfl
    have q2 : W.cell? ⟨w.heap.size, 2, none⟩ = some (.int .i64 t) := by rw [← hW]; exact box_cell _ _ _ _ _ rfl
    have q3 : W.cell? ⟨w.heap.size, 3, none⟩ = some (.int .i64 e) := by rw [← hW]; exact box_cell _ _ _ _ _ rfl
    have q4 : W.cell? ⟨w.heap.size, 4, none⟩ = some (.int .i64 y) := by rw [← hW]; exact box_cell _ _ _ _ _ rfl
    have q5 : W.cell? ⟨w.heap.size, 5, none⟩ = some (.string r) := by rw [← hW]; exact box_cell _ _ _ _ _ rfl
    clear hW
    refine (hCh _).mono ?_
    rintro e0 w1 ⟨rfl, hb⟩
    have hB : Below W.heap.size W w1 := hb
    have HM := Lib.hid (fun (w' : World) (h : Below W.heap.size W w') => (⟨(h.cell (p := ⟨w.heap.size, 0, none⟩) hWs).trans q0, (h.cell (p := ⟨w.heap.size, 1, none⟩) hWs).trans q1, (h.cell (p := ⟨w.heap.size, 2, none⟩) hWs).trans q2, (h.cell (p := ⟨w.heap.size, 3, none⟩) hWs).trans q3, (h.cell (p := ⟨w.heap.size, 4, none⟩) hWs).trans q4, (h.cell (p := ⟨w.heap.size, 5, none⟩) hWs).trans q5, h⟩ : w'.cell? ⟨w.heap.size, 0, none⟩ = some (.int .i64 k) ∧ w'.cell? ⟨w.heap.size, 1, none⟩ = some (.int .i64 f) ∧ w'.cell? ⟨w.heap.size, 2, none⟩ = some (.int .i64 t) ∧ w'.cell? ⟨w.heap.size, 3, none⟩ = some (.int .i64 e) ∧ w'.cell? ⟨w.heap.size, 4, none⟩ = some (.int .i64 y) ∧ w'.cell? ⟨w.heap.size, 5, none⟩ = some (.string r) ∧ Below W.heap.size W w'))
    clear q0 q1 q2 q3 q4 q5 hok hCh
    go_wp2_with (fail)
    go_region_held (fun w' => w'.cell? ⟨w.heap.size, 0, none⟩ = some (.int .i64 k) ∧ w'.cell? ⟨w.heap.size, 1, none⟩ = some (.int .i64 f) ∧ w'.cell? ⟨w.heap.size, 2, none⟩ = some (.int .i64 t) ∧ w'.cell? ⟨w.heap.size, 3, none⟩ = some (.int .i64 e) ∧ w'.cell? ⟨w.heap.size, 4, none⟩ = some (.int .i64 y) ∧ w'.cell? ⟨w.heap.size, 5, none⟩ = some (.string r) ∧ Below W.heap.size W w')
      (first | exact HM.out _ hB | exact HM.out _ hB.drew | exact HM.out _ (hB.alloc hB.size _) | exact HM.out _ (hB.drew.alloc hB.size _))
      (first | (go_at_call 53; refine (impl_varText _ _ (by omega)).mono ?_; rintro e0 w1 ⟨rfl, hb⟩; have hcc := fun (p : Addr) (h : p.block < _) => hb.cell (p := p) h; have hB := Below.step (a := W) (by first | exact hB | exact hB.drew | exact hB.alloc hB.size _ | exact hB.drew.alloc hB.size _) hb) | (go_at_call 60; refine (impl_Sealed _ _ v5).mono ?_; rintro e0 w1 ⟨rfl, hb⟩; have hB := Below.step (a := W) (by first | exact hB | exact hB.drew | exact hB.alloc hB.size _ | exact hB.drew.alloc hB.size _) hb))
    all_goals
      go_wp2
      go_ret2
      exact ⟨by rw [HX.out]; rfl, hWB.trans (hB.mono (Nat.le_of_lt hWs))⟩
  · have hok2 : letterOk x = false := by simpa using hok
    have HX : Hid (letterText x = (⟨#[]⟩, false)) := Lib.hid (by simp [letterText, hok2])
    rw [hok2] at hCh
    simp only [Letter.cs] at *
    go_enter Try.func40, Try.ntmps40
    go_wp2_with (fail)
    refine (hCh _).mono ?_
    rintro e0 w1 ⟨rfl, hb⟩
    go_wp2
    go_ret2
    exact ⟨by rw [HX.out]; rfl, ((Below.refl _ _).alloc (Nat.le_refl _) _).trans (hb.mono (by simp))⟩
theorem impl_LetterText (w : World) (x : Letter) (cs : List Value) (S : Blks) (hx : rd false w cs x S) (_hz : x.sz ≤ 1048576) : Calls Try.prog 40 #[.agg cs.toArray] w fun e w' => e = .returned (.tuple #[.string (letterText x).1, .bool (letterText x).2]) ∧ Below w.heap.size w w' := by
  obtain ⟨rfl, _⟩ := Letter.open hx
  exact impl_LetterText0 x w
set_option maxRecDepth 20000 in set_option maxHeartbeats 8000000 in
theorem spec_LetterText0 (x : Letter) (w : World) : Calls Try.prog 39 #[.agg (Letter.cs x).toArray] w fun e w' => e = .returned (.tuple #[.string (letterText x).1, .bool (letterText x).2]) ∧ Below w.heap.size w w' := by
  have hCh : ∀ W, Calls Try.prog 12 #[.agg (Letter.cs x).toArray] W _ := fun W => spec_LetterOk x W
  by_cases hok : letterOk x = true
  · have HX : Hid (letterText x = sealed (bs [UInt8.ofNat x.kind.toNat, UInt8.ofNat x.from_.toNat, UInt8.ofNat x.to.toNat, UInt8.ofNat x.epoch.toNat] ++ varT x.try_.toNat ++ x.root)) := Lib.hid (by simp [letterText, hok])
    obtain ⟨⟨a1, a2⟩, ⟨b1, b2⟩, ⟨c1, c2⟩, ⟨d1, d2⟩, ⟨e1, e2⟩, r1⟩ := letterOk_b hok
    rw [hok] at hCh
    obtain ⟨k, f, t, e, y, r⟩ := x
    simp only [Letter.cs] at *
    obtain ⟨k, rfl⟩ : ∃ n : Nat, k = n := ⟨k.toNat, by omega⟩
    obtain ⟨f, rfl⟩ : ∃ n : Nat, f = n := ⟨f.toNat, by omega⟩
    obtain ⟨t, rfl⟩ : ∃ n : Nat, t = n := ⟨t.toNat, by omega⟩
    obtain ⟨e, rfl⟩ : ∃ n : Nat, e = n := ⟨e.toNat, by omega⟩
    obtain ⟨y, rfl⟩ : ∃ n : Nat, y = n := ⟨y.toNat, by omega⟩
    simp only [Int.toNat_natCast] at HX
    have v1 := varT_le (n := y) (by omega)
    have v2 : (bs [UInt8.ofNat k, UInt8.ofNat f, UInt8.ofNat t, UInt8.ofNat e]).size = 4 := bs_size _
    obtain ⟨h4, hh4⟩ : ∃ s, bs [UInt8.ofNat k, UInt8.ofNat f, UInt8.ofNat t, UInt8.ofNat e] = s := ⟨_, rfl⟩
    have hconv : ∀ (W' : World) (b : Nat), W'.cell? ⟨b, 0, none⟩ = some (.int .u8 k) → W'.cell? ⟨b, 1, none⟩ = some (.int .u8 f) → W'.cell? ⟨b, 2, none⟩ = some (.int .u8 t) → W'.cell? ⟨b, 3, none⟩ = some (.int .u8 e) →
        (convert 78 9 (.slice (some ⟨b, 0, none⟩) 4 4)).run Try.prog W' = .ok (.string h4) W' := by
      intro W' b g0 g1 g2 g3
      rw [← hh4]
      refine run_convert_bytes_back W' _ _ 5 ⟨b, 0, none⟩ 4 [UInt8.ofNat k, UInt8.ofNat f, UInt8.ofNat t, UInt8.ofNat e] Try.underlying78 Try.underlying5 Try.underlying9 (fun j hj => ?_)
      rw [add_none, Nat.zero_add]
      have hj : j < 4 := hj
      rcases (show j = 0 ∨ j = 1 ∨ j = 2 ∨ j = 3 by omega) with rfl | rfl | rfl | rfl
      · rw [g0]; simp; omega
      · rw [g1]; simp; omega
      · rw [g2]; simp; omega
      · rw [g3]; simp; omega
    rw [hh4] at HX v2
    have HH := Lib.hid hh4; clear hh4
    have v3 : ¬ 9223372036854775807 < h4.size + (varT y).size := by omega
    have v4 : ¬ 9223372036854775807 < h4.size + (varT y).size + r.size := by omega
    have v5 : (h4 ++ varT y ++ r).size ≤ 1048576 := by rw [ByteArray.size_append, ByteArray.size_append]; omega
    have V2 := Lib.hid v2; clear v2
    have wk : IntKind.u8.wrap (k : Int) = k := by rw [IntKind.wrap_u8']; omega
    have wf : IntKind.u8.wrap (f : Int) = f := by rw [IntKind.wrap_u8']; omega
    have wt : IntKind.u8.wrap (t : Int) = t := by rw [IntKind.wrap_u8']; omega
    have we : IntKind.u8.wrap (e : Int) = e := by rw [IntKind.wrap_u8']; omega
    go_enter Try.func39, Try.ntmps39
    go_wp2_with (fail)
    generalize hW : w.alloc _ = W
    have hWB : Below w.heap.size w W := by rw [← hW]; exact (Below.refl _ _).alloc (Nat.le_refl _) _
    have hWs : w.heap.size < W.heap.size := by rw [← hW]; simp
    have q0 : W.cell? ⟨w.heap.size, 0, none⟩ = some (.int .i64 k) := by rw [← hW]; exact box_cell _ _ _ _ _ rfl
    have q1 : W.cell? ⟨w.heap.size, 1, none⟩ = some (.int .i64 f) := by rw [← hW]; exact box_cell _ _ _ _ _ rfl
    have q2 : W.cell? ⟨w.heap.size, 2, none⟩ = some (.int .i64 t) := by rw [← hW]; exact box_cell _ _ _ _ _ rfl
    have q3 : W.cell? ⟨w.heap.size, 3, none⟩ = some (.int .i64 e) := by rw [← hW]; exact box_cell _ _ _ _ _ rfl
    have q4 : W.cell? ⟨w.heap.size, 4, none⟩ = some (.int .i64 y) := by rw [← hW]; exact box_cell _ _ _ _ _ rfl
    have q5 : W.cell? ⟨w.heap.size, 5, none⟩ = some (.string r) := by rw [← hW]; exact box_cell _ _ _ _ _ rfl
    clear hW
    refine (hCh _).mono ?_
    rintro e0 w1 ⟨rfl, hb⟩
    have hB : Below W.heap.size W w1 := hb
    have HM := Lib.hid (fun (w' : World) (h : Below W.heap.size W w') => (⟨(h.cell (p := ⟨w.heap.size, 0, none⟩) hWs).trans q0, (h.cell (p := ⟨w.heap.size, 1, none⟩) hWs).trans q1, (h.cell (p := ⟨w.heap.size, 2, none⟩) hWs).trans q2, (h.cell (p := ⟨w.heap.size, 3, none⟩) hWs).trans q3, (h.cell (p := ⟨w.heap.size, 4, none⟩) hWs).trans q4, (h.cell (p := ⟨w.heap.size, 5, none⟩) hWs).trans q5, h⟩ : w'.cell? ⟨w.heap.size, 0, none⟩ = some (.int .i64 k) ∧ w'.cell? ⟨w.heap.size, 1, none⟩ = some (.int .i64 f) ∧ w'.cell? ⟨w.heap.size, 2, none⟩ = some (.int .i64 t) ∧ w'.cell? ⟨w.heap.size, 3, none⟩ = some (.int .i64 e) ∧ w'.cell? ⟨w.heap.size, 4, none⟩ = some (.int .i64 y) ∧ w'.cell? ⟨w.heap.size, 5, none⟩ = some (.string r) ∧ Below W.heap.size W w'))
    clear q0 q1 q2 q3 q4 q5 hok hCh
    go_wp2_with (fail)
    go_region_held (fun w' => w'.cell? ⟨w.heap.size, 0, none⟩ = some (.int .i64 k) ∧ w'.cell? ⟨w.heap.size, 1, none⟩ = some (.int .i64 f) ∧ w'.cell? ⟨w.heap.size, 2, none⟩ = some (.int .i64 t) ∧ w'.cell? ⟨w.heap.size, 3, none⟩ = some (.int .i64 e) ∧ w'.cell? ⟨w.heap.size, 4, none⟩ = some (.int .i64 y) ∧ w'.cell? ⟨w.heap.size, 5, none⟩ = some (.string r) ∧ Below W.heap.size W w')
      (first | exact HM.out _ hB | exact HM.out _ hB.drew | exact HM.out _ (hB.alloc hB.size _) | exact HM.out _ (hB.drew.alloc hB.size _))
      (first | (go_at_call 52; refine (spec_l01Var _ _ (by omega)).mono ?_; rintro e0 w1 ⟨rfl, hb⟩; have hcc := fun (p : Addr) (h : p.block < _) => hb.cell (p := p) h; have hB := Below.step (a := W) (by first | exact hB | exact hB.drew | exact hB.alloc hB.size _ | exact hB.drew.alloc hB.size _) hb) | (go_at_call 59; refine (spec_Sealed _ _ v5).mono ?_; rintro e0 w1 ⟨rfl, hb⟩; have hB := Below.step (a := W) (by first | exact hB | exact hB.drew | exact hB.alloc hB.size _ | exact hB.drew.alloc hB.size _) hb))
    all_goals
      go_wp2
      go_ret2
      exact ⟨by rw [HX.out]; rfl, hWB.trans (hB.mono (Nat.le_of_lt hWs))⟩
  · have hok2 : letterOk x = false := by simpa using hok
    have HX : Hid (letterText x = (⟨#[]⟩, false)) := Lib.hid (by simp [letterText, hok2])
    rw [hok2] at hCh
    simp only [Letter.cs] at *
    go_enter Try.func39, Try.ntmps39
    go_wp2_with (fail)
    refine (hCh _).mono ?_
    rintro e0 w1 ⟨rfl, hb⟩
    go_wp2
    go_ret2
    exact ⟨by rw [HX.out]; rfl, ((Below.refl _ _).alloc (Nat.le_refl _) _).trans (hb.mono (by simp))⟩
theorem spec_LetterText (w : World) (x : Letter) (cs : List Value) (S : Blks) (hx : rd false w cs x S) (_hz : x.sz ≤ 1048576) : Calls Try.prog 39 #[.agg cs.toArray] w fun e w' => e = .returned (.tuple #[.string (letterText x).1, .bool (letterText x).2]) ∧ Below w.heap.size w w' := by
  obtain ⟨rfl, _⟩ := Letter.open hx
  exact spec_LetterText0 x w
end Go.Proofs.Yticdcndpbnbkhaa
