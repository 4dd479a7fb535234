/- Walks of the law's helpers: those that this law needs. -/
import Derived.Test.YthgonaodmpegfaaGreatDoorProg
import Derived.Test.YthgonaodmpegfaaGreatDoorTy
import Derived.Lib.Hide
import Derived.Test.YthgonaodmpegfaaGreatDoorSTrustOfTo1
set_option linter.unusedVariables false
set_option linter.unusedSimpArgs false
namespace Go.Proofs.YthgonaodmpegfaaGreatDoor
open Go.RowKit Lay Mk
set_option maxRecDepth 40000 in set_option maxHeartbeats 4000000 in
theorem to_Note (x : Note) (w : World) (cs : List Value) (S : Blks) (hx : rd false w cs x S) (hsz : x.sz ≤ 1048576) :
    Calls Tryz.prog 128 #[.agg cs.toArray] w fun e w' => ∃ cs', e = .returned (.agg cs'.toArray) ∧ rd true w' cs' x (rng w.heap.size w'.heap.size) ∧ Below w.heap.size w w' := by
  obtain ⟨rfl, f0, f1⟩ := Note.open hx
  clear hx
  unfold Note.sz at hsz
  simp only [Note.cs]
  go_enter Tryz.func128, Tryz.ntmps128
  go_wp2
  refine bodyPost_ret (v := .agg #[.int .i64 x.to, .string x.text]) (by simp [results, Tryz.results128, go_sem]) rfl ⟨[.int .i64 x.to, .string x.text], rfl, ?_, by ((repeat (first | with_reducible exact Below.refl _ _ | with_reducible apply Below.drew | with_reducible refine Below.alloc ?_ ?_ _ | with_reducible refine Below.setCell ?_ ?_ _)); all_goals (first | with_reducible exact Nat.le_refl _ | omega | (simp; done) | (simp; omega)))⟩
  exact Note.mk' (m := true) (x := x) f0 f1
theorem info_NoteS : (Tryz.prog.info? 214).map (fun i => (i.zero, i.size, i.bytes)) = some (some (.agg #[.int .i64 0, .string ⟨#[]⟩]), 2, 24) := by kernel_rfl
set_option maxRecDepth 40000 in set_option maxHeartbeats 4000000 in
theorem to_NoteS (xs : List Note) (w : World) (A : Option Addr) (cap : Nat) (S : Blks) (hx : Row false w A cap xs S) (hsz : szL xs ≤ 1048576) :
    Calls Tryz.prog 69 #[.slice A xs.length cap] w fun e w' => ∃ A' cap', e = .returned (.slice A' xs.length cap') ∧ xs.length ≤ cap' ∧ cap' ≤ maxLen ∧ Row true w' A' cap' xs (rng w.heap.size w'.heap.size) ∧ Below w.heap.size w w' := by
  have hl : xs.length ≤ 1048576 := by have := szT_le xs 0; omega
  obtain ⟨i0, hi0, hz0, hz1, hz2⟩ := info_parts info_NoteS
  have hmk := fun W => run_make_rowN (P := Tryz.prog) 80 214 i0 _ Tryz.underlying80 hi0 hz0 .i64 .i64 xs.length xs.length (Nat.le_refl _) (by rw [hz2]; omega) (by omega) W
  rw [hz1] at hmk
  clear hi0 hz0 hz1 hz2
  have hm0 := Row.made (α := Note) (N := 2) w xs.length (#[.int .i64 0, .string ByteArray.empty] : Array Value) rfl rfl
  go_enter Tryz.func69, Tryz.ntmps69
  go_wp2
  go_loopw [4] (fun i wr => ∃ k : Nat, k ≤ xs.length ∧ i = .int .i64 k ∧ Below w.heap.size w wr ∧ w.heap.size + 1 ≤ wr.heap.size ∧ Row true wr (some ⟨w.heap.size, 0, none⟩) xs.length (xs.take k ++ List.replicate (xs.length - k) (Mk.z : Note)) (rng w.heap.size wr.heap.size)) (fun i _ => xs.length - (intOf i).toNat)
  case atStart => exact ⟨0, Nat.zero_le _, rfl, by ((repeat (first | with_reducible exact Below.refl _ _ | with_reducible apply Below.drew | with_reducible refine Below.alloc ?_ ?_ _ | with_reducible refine Below.setCell ?_ ?_ _)); all_goals (first | with_reducible exact Nat.le_refl _ | omega | (simp; done) | (simp; omega))), by simp, by have h := hm0; (try simp only [Nat.mul_one] at h); simp only [World.size_alloc]; exact h⟩
  case round =>
    obtain ⟨k, hkk, rfl, hb, hz, hrow⟩ := hrel
    clear hm0
    by_cases hlt : k < xs.length
    · have hne : xs ≠ [] := by rintro rfl; simp at hlt
      obtain ⟨b1, o1, rfl, hS1, T1, hT1, _, he1⟩ := hx hne
      obtain ⟨c1, ha1, hr1⟩ := he1 k hlt
      have hl1 := ha1.lt (by rintro rfl; have := Lay.len hr1; cases this)
      replace ha1 := ha1.keep (hb.block _ hl1)
      replace hr1 := Lay.later hr1 hb
      have hszk := sz_le_L xs k hlt
      have hst := Lib.hid (take_step xs (Mk.z : Note) k hlt)
      generalize xs[k] = x at hr1 hszk hst
      rcases hrow with ⟨h_, _⟩ | ⟨g2, cur, e_, _, hh, hcz, T, hT, hd, he⟩
      · cases h_
      cases e_
      have hsh : Shp wr w.heap.size (ty Note) (xs.length * 2) := ⟨cur, hh, hcz⟩
      have HE := Lib.hid he; have HD := Lib.hid (hd rfl); have HT := Lib.hid hT
      have ho := old_cells (N := 2) he k (by simp; omega) rfl
      clear he hd hT hh hcz he1 hx
      obtain ⟨v0, ov0⟩ : ∃ v, wr.cell? ⟨w.heap.size, k * 2, none⟩ = some v := by have := ho 0 (by omega); simpa using this
      obtain ⟨v1, ov1⟩ : ∃ v, wr.cell? ⟨w.heap.size, k * 2 + 1, none⟩ = some v := by have := ho 1 (by omega); simpa using this
      have hf0 := fun o => hsh.frozen o
      clear ho
      have ht := Lib.hid hr1
      obtain ⟨rfl, ef0, ef1⟩ := Note.open hr1
      have q0 := ha1 0 _ rfl
      have q1 := ha1 1 _ rfl
      simp only [show Lay.n Note = 2 from rfl, Nat.add_zero] at q0 q1
      clear ha1
      have hszx : x.sz ≤ 1048576 := by have : Mk.sz x = x.sz := rfl; omega
      go_wp2_with (fail)
      refine (to_Note x _ (Note.cs x) _ (Lay.later ht.out (by ((repeat (first | with_reducible exact Below.refl _ _ | with_reducible apply Below.drew | with_reducible refine Below.alloc ?_ ?_ _ | with_reducible refine Below.setCell ?_ ?_ _)); all_goals (first | with_reducible exact Nat.le_refl _ | omega | (simp; done) | (simp; omega))))) hszx).mono ?_
      rintro e1 w1 ⟨cs1, rfl, hn1, hb1⟩
      have hn2 := Lib.hid hn1
      obtain ⟨rfl, nf0, nf1⟩ := Note.open hn1
      simp only [Note.cs]
      have hB1 : Below w.heap.size w w1 := by refine Below.trans (b := _) ?_ (hb1.mono ?_) <;> ((repeat (first | with_reducible exact hb | with_reducible exact Below.refl _ _ | with_reducible apply Below.drew | with_reducible refine Below.alloc ?_ ?_ _ | with_reducible refine Below.setCell ?_ ?_ _)); all_goals (first | with_reducible exact Nat.le_refl _ | omega | (simp; done) | (simp; omega)))
      have hz1 : wr.heap.size ≤ w1.heap.size := by have := hb1.size; (try simp at this); omega
      have hc1 := fun o => hb1.cell (p := ⟨w.heap.size, o, none⟩) (by first | with_reducible exact Nat.le_refl _ | omega | (simp; done) | (simp; omega))
      have hg1 := fun o => hb1.frozen (p := ⟨w.heap.size, o, none⟩) (by first | with_reducible exact Nat.le_refl _ | omega | (simp; done) | (simp; omega))
      have hsh1 : Shp w1 w.heap.size (ty Note) (xs.length * 2) := hsh.of (hb1.block _ (by first | with_reducible exact Nat.le_refl _ | omega | (simp; done) | (simp; omega)))
      have hn3 : rd true w1 [.int .i64 x.to, .string x.text] x (rng wr.heap.size w1.heap.size) := Lay.mono hn2.out (fun b h => by unfold rng at h ⊢; (try simp at h); omega)
      have hq1 : Chg (fun b => b = w.heap.size) wr w1 := (show Chg _ wr _ from by (repeat (first | with_reducible exact Chg.refl _ _ | with_reducible apply Chg.drew))).below hb1 (by first | with_reducible exact Nat.le_refl _ | omega | (simp; done) | (simp; omega))
      go_wp2
      go_roundw
      case rel =>
        refine ⟨k + 1, by omega, by go_num, by ((repeat (first | with_reducible exact hB1 | with_reducible exact Below.refl _ _ | with_reducible apply Below.drew | with_reducible refine Below.alloc ?_ ?_ _ | with_reducible refine Below.setCell ?_ ?_ _)); all_goals (first | with_reducible exact Nat.le_refl _ | omega | (simp; done) | (simp; omega))), by (try simp); omega, ?_⟩
        rw [hst.out]
        refine Row.setU (N := 2) (T := T) (w := wr) (U := (rng wr.heap.size w1.heap.size)) (cs := [.int .i64 x.to, .string x.text]) rfl (by unfold rng; (try simp); omega) (fun b h => by unfold rng at h ⊢; (try simp); omega) HT.out HD.out HE.out (by simp; omega) (show Shp _ _ (ty Note) (xs.length * 2) from by (repeat (first | with_reducible exact hsh1 | with_reducible apply Shp.drew | with_reducible refine Shp.alloc ?_ _ | with_reducible refine Shp.set ?_ _ _))) (fun o ho => ?_) ?_ ?_ ?_ ?_ ?_
        · have n0 : o ≠ k * 2 := by intro h; apply ho; rw [h]; omega
          have n1 : o ≠ k * 2 + 1 := by intro h; apply ho; rw [h]; omega
          simp only [hc1, cell_set_ne _ _ _ o _ n0, cell_set_ne _ _ _ o _ n1]
        · exact (show Chg (fun b => b = w.heap.size) wr _ from by (repeat (first | with_reducible exact hq1 | with_reducible apply Chg.drew | with_reducible refine Chg.setCell ?_ ?_ _ | exact Or.inl rfl)))
        · intro j u hu
          have hj : j < 2 := (List.getElem?_eq_some_iff.1 hu).1
          rcases (by omega : j = 0 ∨ j = 1) with rfl | rfl
          all_goals (have hu := Option.some.inj hu; subst hu; go_simp; try simp)
        · exact (show rd true _ [.int .i64 x.to, .string x.text] x (rng wr.heap.size w1.heap.size) from by (repeat (first | with_reducible exact hn3 | with_reducible apply rd_drewC | with_reducible refine rd_setC ?_ ?_ _ | exact (fun h => by unfold rng at h; simp only at h; omega))))
        · exact fun b h => by unfold rng at h ⊢; (try simp); constructor <;> omega
        · exact fun b h => by unfold rng at h; exact h.1
      case measure => simp [intOf]; omega
    · have hke : k = xs.length := by omega
      go_wp2
      go_ret; subst hke; exact ⟨some ⟨w.heap.size, 0, none⟩, xs.length, rfl, Nat.le_refl _, by unfold maxLen; omega, by simpa using hrow, hb⟩
set_option maxRecDepth 40000 in set_option maxHeartbeats 4000000 in
theorem to_Given (x : Given) (w : World) (cs : List Value) (S : Blks) (hx : rd false w cs x S) (hsz : x.sz ≤ 1048576) :
    Calls Tryz.prog 129 #[.agg cs.toArray] w fun e w' => ∃ cs', e = .returned (.agg cs'.toArray) ∧ rd true w' cs' x (rng w.heap.size w'.heap.size) ∧ Below w.heap.size w w' := by
  obtain ⟨A0, k0, S0, A1, k1, S1, A2, k2, S2, rfl, f0, f1, f2, f3, a0, b0, r0, s0, a1, b1, r1, s1, a2, b2, r2, s2, pw⟩ := Given.open hx
  clear hx
  unfold Given.sz at hsz
  simp only [Given.cs]
  go_enter Tryz.func129, Tryz.ntmps129
  go_wp2_with (fail)
  refine (to_Stamp x.stamp _ _ S (Stamp.mk' (m := false) f2 f3 a0 b0 (r0.later (by ((repeat (first | with_reducible exact Below.refl _ _ | with_reducible apply Below.drew | with_reducible refine Below.alloc ?_ ?_ _ | with_reducible refine Below.setCell ?_ ?_ _)); all_goals (first | with_reducible exact Nat.le_refl _ | omega | (simp; done) | (simp; omega))))) s0 a1 b1 (r1.later (by ((repeat (first | with_reducible exact Below.refl _ _ | with_reducible apply Below.drew | with_reducible refine Below.alloc ?_ ?_ _ | with_reducible refine Below.setCell ?_ ?_ _)); all_goals (first | with_reducible exact Nat.le_refl _ | omega | (simp; done) | (simp; omega))))) s1 a2 b2 (r2.later (by ((repeat (first | with_reducible exact Below.refl _ _ | with_reducible apply Below.drew | with_reducible refine Below.alloc ?_ ?_ _ | with_reducible refine Below.setCell ?_ ?_ _)); all_goals (first | with_reducible exact Nat.le_refl _ | omega | (simp; done) | (simp; omega))))) s2 (by simp)) (by omega)).mono ?_
  rintro e1 w1 ⟨cs1, rfl, hr1, hb1⟩
  obtain ⟨nA0, nk0, nS0, nA1, nk1, nS1, nA2, nk2, nS2, rfl, _, _, na0, nb0, nr0, ns0, na1, nb1, nr1, ns1, na2, nb2, nr2, ns2, pw1⟩ := Stamp.open hr1
  replace pw1 := Lib.hid (pw1 rfl)
  simp only [Stamp.cs]
  have hB1 : Below w.heap.size w w1 := by refine Below.trans (b := _) ?_ (hb1.mono ?_) <;> ((repeat (first | with_reducible exact Below.refl _ _ | with_reducible apply Below.drew | with_reducible refine Below.alloc ?_ ?_ _ | with_reducible refine Below.setCell ?_ ?_ _)); all_goals (first | with_reducible exact Nat.le_refl _ | omega | (simp; done) | (simp; omega)))
  have hz1 : w.heap.size + 3 ≤ w1.heap.size := by have := hb1.size; (try simp at this); omega
  have hc1 := fun o => hb1.cell (p := ⟨w.heap.size, o, none⟩) (by first | with_reducible exact Nat.le_refl _ | omega | (simp; done) | (simp; omega))
  have hd1 := fun o => hb1.cell (p := ⟨w.heap.size + 1, o, none⟩) (by first | with_reducible exact Nat.le_refl _ | omega | (simp; done) | (simp; omega))
  have he1 := fun o => hb1.cell (p := ⟨w.heap.size + 2, o, none⟩) (by first | with_reducible exact Nat.le_refl _ | omega | (simp; done) | (simp; omega))
  have hfd1 := fun o => hb1.frozen (p := ⟨w.heap.size + 1, o, none⟩) (by first | with_reducible exact Nat.le_refl _ | omega | (simp; done) | (simp; omega))
  have hfe1 := fun o => hb1.frozen (p := ⟨w.heap.size + 2, o, none⟩) (by first | with_reducible exact Nat.le_refl _ | omega | (simp; done) | (simp; omega))
  have hw1 := hb1.size
  (try simp at hw1)
  replace nr0 := (nr0.mono (S' := fun b => nS0 b ∧ rng (w.heap.size + 3) w1.heap.size b) (fun b h => ⟨h, by have := ns0 b h; unfold rng at this ⊢; (try simp at this); omega⟩))
  replace nr1 := (nr1.mono (S' := fun b => nS1 b ∧ rng (w.heap.size + 3) w1.heap.size b) (fun b h => ⟨h, by have := ns1 b h; unfold rng at this ⊢; (try simp at this); omega⟩))
  replace nr2 := (nr2.mono (S' := fun b => nS2 b ∧ rng (w.heap.size + 3) w1.heap.size b) (fun b h => ⟨h, by have := ns2 b h; unfold rng at this ⊢; (try simp at this); omega⟩))
  go_wp2
  refine bodyPost_ret (v := .agg #[.int .i64 x.house, .int .i64 x.epoch, .int .i64 x.stamp.by_, .int .i64 x.stamp.sig.at_, .slice nA0 x.stamp.sig.open_.length nk0, .slice nA1 x.stamp.sig.shut.length nk1, .slice nA2 x.stamp.sig.sides.length nk2]) (by simp [results, Tryz.results129, go_sem, hd1, he1]) rfl ⟨[.int .i64 x.house, .int .i64 x.epoch, .int .i64 x.stamp.by_, .int .i64 x.stamp.sig.at_, .slice nA0 x.stamp.sig.open_.length nk0, .slice nA1 x.stamp.sig.shut.length nk1, .slice nA2 x.stamp.sig.sides.length nk2], rfl, ?_, by ((repeat (first | with_reducible exact hB1 | with_reducible exact Below.refl _ _ | with_reducible apply Below.drew | with_reducible refine Below.alloc ?_ ?_ _ | with_reducible refine Below.setCell ?_ ?_ _)); all_goals (first | with_reducible exact Nat.le_refl _ | omega | (simp; done) | (simp; omega)))⟩
  exact Given.mk' (m := true) (x := x) f0 f1 f2 f3 na0 nb0 (show Row true _ nA0 nk0 x.stamp.sig.open_ (fun b => nS0 b ∧ rng (w.heap.size + 3) w1.heap.size b) from by (repeat (first | with_reducible exact nr0 | with_reducible apply Row.drewC | with_reducible refine Row.allocC ?_ _ | with_reducible refine Row.setC ?_ ?_ _ | exact (fun h => by unfold rng at h; simp only at h; omega)))) (fun b h => by replace h := h.2; unfold rng at h ⊢; simp; omega) na1 nb1 (show Row true _ nA1 nk1 x.stamp.sig.shut (fun b => nS1 b ∧ rng (w.heap.size + 3) w1.heap.size b) from by (repeat (first | with_reducible exact nr1 | with_reducible apply Row.drewC | with_reducible refine Row.allocC ?_ _ | with_reducible refine Row.setC ?_ ?_ _ | exact (fun h => by unfold rng at h; simp only at h; omega)))) (fun b h => by replace h := h.2; unfold rng at h ⊢; simp; omega) na2 nb2 (show Row true _ nA2 nk2 x.stamp.sig.sides (fun b => nS2 b ∧ rng (w.heap.size + 3) w1.heap.size b) from by (repeat (first | with_reducible exact nr2 | with_reducible apply Row.drewC | with_reducible refine Row.allocC ?_ _ | with_reducible refine Row.setC ?_ ?_ _ | exact (fun h => by unfold rng at h; simp only at h; omega)))) (fun b h => by replace h := h.2; unfold rng at h ⊢; simp; omega) (fun _ => pwmk3 (disj_sub (pwget3_0_1 pw1.out) (fun b (x : _ ∧ _) => x.1) (fun b (x : _ ∧ _) => x.1)) (disj_sub (pwget3_0_2 pw1.out) (fun b (x : _ ∧ _) => x.1) (fun b (x : _ ∧ _) => x.1)) (disj_sub (pwget3_1_2 pw1.out) (fun b (x : _ ∧ _) => x.1) (fun b (x : _ ∧ _) => x.1)))
theorem info_GivenS : (Tryz.prog.info? 217).map (fun i => (i.zero, i.size, i.bytes)) = some (some (.agg #[.int .i64 0, .int .i64 0, .int .i64 0, .int .i64 0, .slice none 0 0, .slice none 0 0, .slice none 0 0]), 7, 104) := by kernel_rfl
set_option maxRecDepth 40000 in set_option maxHeartbeats 4000000 in
theorem to_GivenS (xs : List Given) (w : World) (A : Option Addr) (cap : Nat) (S : Blks) (hx : Row false w A cap xs S) (hsz : szL xs ≤ 1048576) :
    Calls Tryz.prog 70 #[.slice A xs.length cap] w fun e w' => ∃ A' cap', e = .returned (.slice A' xs.length cap') ∧ xs.length ≤ cap' ∧ cap' ≤ maxLen ∧ Row true w' A' cap' xs (rng w.heap.size w'.heap.size) ∧ Below w.heap.size w w' := by
  have hl : xs.length ≤ 1048576 := by have := szT_le xs 0; omega
  obtain ⟨i0, hi0, hz0, hz1, hz2⟩ := info_parts info_GivenS
  have hmk := fun W => run_make_rowN (P := Tryz.prog) 81 217 i0 _ Tryz.underlying81 hi0 hz0 .i64 .i64 xs.length xs.length (Nat.le_refl _) (by rw [hz2]; omega) (by omega) W
  rw [hz1] at hmk
  clear hi0 hz0 hz1 hz2
  have hm0 := Row.made (α := Given) (N := 7) w xs.length (#[.int .i64 0, .int .i64 0, .int .i64 0, .int .i64 0, .slice none 0 0, .slice none 0 0, .slice none 0 0] : Array Value) rfl rfl
  go_enter Tryz.func70, Tryz.ntmps70
  go_wp2
  go_loopw [4] (fun i wr => ∃ k : Nat, k ≤ xs.length ∧ i = .int .i64 k ∧ Below w.heap.size w wr ∧ w.heap.size + 1 ≤ wr.heap.size ∧ Row true wr (some ⟨w.heap.size, 0, none⟩) xs.length (xs.take k ++ List.replicate (xs.length - k) (Mk.z : Given)) (rng w.heap.size wr.heap.size)) (fun i _ => xs.length - (intOf i).toNat)
  case atStart => exact ⟨0, Nat.zero_le _, rfl, by ((repeat (first | with_reducible exact Below.refl _ _ | with_reducible apply Below.drew | with_reducible refine Below.alloc ?_ ?_ _ | with_reducible refine Below.setCell ?_ ?_ _)); all_goals (first | with_reducible exact Nat.le_refl _ | omega | (simp; done) | (simp; omega))), by simp, by have h := hm0; (try simp only [Nat.mul_one] at h); simp only [World.size_alloc]; exact h⟩
  case round =>
    obtain ⟨k, hkk, rfl, hb, hz, hrow⟩ := hrel
    clear hm0
    by_cases hlt : k < xs.length
    · have hne : xs ≠ [] := by rintro rfl; simp at hlt
      obtain ⟨b1, o1, rfl, hS1, T1, hT1, _, he1⟩ := hx hne
      obtain ⟨c1, ha1, hr1⟩ := he1 k hlt
      have hl1 := ha1.lt (by rintro rfl; have := Lay.len hr1; cases this)
      replace ha1 := ha1.keep (hb.block _ hl1)
      replace hr1 := Lay.later hr1 hb
      have hszk := sz_le_L xs k hlt
      have hst := Lib.hid (take_step xs (Mk.z : Given) k hlt)
      generalize xs[k] = x at hr1 hszk hst
      rcases hrow with ⟨h_, _⟩ | ⟨g2, cur, e_, _, hh, hcz, T, hT, hd, he⟩
      · cases h_
      cases e_
      have hsh : Shp wr w.heap.size (ty Given) (xs.length * 7) := ⟨cur, hh, hcz⟩
      have HE := Lib.hid he; have HD := Lib.hid (hd rfl); have HT := Lib.hid hT
      have ho := old_cells (N := 7) he k (by simp; omega) rfl
      clear he hd hT hh hcz he1 hx
      obtain ⟨v0, ov0⟩ : ∃ v, wr.cell? ⟨w.heap.size, k * 7, none⟩ = some v := by have := ho 0 (by omega); simpa using this
      obtain ⟨v1, ov1⟩ : ∃ v, wr.cell? ⟨w.heap.size, k * 7 + 1, none⟩ = some v := by have := ho 1 (by omega); simpa using this
      obtain ⟨v2, ov2⟩ : ∃ v, wr.cell? ⟨w.heap.size, k * 7 + 2, none⟩ = some v := by have := ho 2 (by omega); simpa using this
      obtain ⟨v3, ov3⟩ : ∃ v, wr.cell? ⟨w.heap.size, k * 7 + 3, none⟩ = some v := by have := ho 3 (by omega); simpa using this
      obtain ⟨v4, ov4⟩ : ∃ v, wr.cell? ⟨w.heap.size, k * 7 + 4, none⟩ = some v := by have := ho 4 (by omega); simpa using this
      obtain ⟨v5, ov5⟩ : ∃ v, wr.cell? ⟨w.heap.size, k * 7 + 5, none⟩ = some v := by have := ho 5 (by omega); simpa using this
      obtain ⟨v6, ov6⟩ : ∃ v, wr.cell? ⟨w.heap.size, k * 7 + 6, none⟩ = some v := by have := ho 6 (by omega); simpa using this
      have hf0 := fun o => hsh.frozen o
      clear ho
      have ht := Lib.hid hr1
      obtain ⟨eA0, ek0, eS0, eA1, ek1, eS1, eA2, ek2, eS2, rfl, ef0, ef1, ef2, ef3, ea0, eb0, er0, es0, ea1, eb1, er1, es1, ea2, eb2, er2, es2, epw⟩ := Given.open hr1
      have q0 := ha1 0 _ rfl
      have q1 := ha1 1 _ rfl
      have q2 := ha1 2 _ rfl
      have q3 := ha1 3 _ rfl
      have q4 := ha1 4 _ rfl
      have q5 := ha1 5 _ rfl
      have q6 := ha1 6 _ rfl
      simp only [show Lay.n Given = 7 from rfl, Nat.add_zero] at q0 q1 q2 q3 q4 q5 q6
      clear ha1
      have hszx : x.sz ≤ 1048576 := by have : Mk.sz x = x.sz := rfl; omega
      go_wp2_with (fail)
      refine (to_Given x _ (Given.cs x eA0 ek0 eA1 ek1 eA2 ek2) _ (Lay.later ht.out (by ((repeat (first | with_reducible exact Below.refl _ _ | with_reducible apply Below.drew | with_reducible refine Below.alloc ?_ ?_ _ | with_reducible refine Below.setCell ?_ ?_ _)); all_goals (first | with_reducible exact Nat.le_refl _ | omega | (simp; done) | (simp; omega))))) hszx).mono ?_
      rintro e1 w1 ⟨cs1, rfl, hn1, hb1⟩
      have hn2 := Lib.hid hn1
      obtain ⟨nA0, nk0, nS0, nA1, nk1, nS1, nA2, nk2, nS2, rfl, nf0, nf1, nf2, nf3, na0, nb0, nr0, ns0, na1, nb1, nr1, ns1, na2, nb2, nr2, ns2, _⟩ := Given.open hn1
      simp only [Given.cs]
      have hB1 : Below w.heap.size w w1 := by refine Below.trans (b := _) ?_ (hb1.mono ?_) <;> ((repeat (first | with_reducible exact hb | with_reducible exact Below.refl _ _ | with_reducible apply Below.drew | with_reducible refine Below.alloc ?_ ?_ _ | with_reducible refine Below.setCell ?_ ?_ _)); all_goals (first | with_reducible exact Nat.le_refl _ | omega | (simp; done) | (simp; omega)))
      have hz1 : wr.heap.size ≤ w1.heap.size := by have := hb1.size; (try simp at this); omega
      have hc1 := fun o => hb1.cell (p := ⟨w.heap.size, o, none⟩) (by first | with_reducible exact Nat.le_refl _ | omega | (simp; done) | (simp; omega))
      have hg1 := fun o => hb1.frozen (p := ⟨w.heap.size, o, none⟩) (by first | with_reducible exact Nat.le_refl _ | omega | (simp; done) | (simp; omega))
      have hsh1 : Shp w1 w.heap.size (ty Given) (xs.length * 7) := hsh.of (hb1.block _ (by first | with_reducible exact Nat.le_refl _ | omega | (simp; done) | (simp; omega)))
      have hn3 : rd true w1 [.int .i64 x.house, .int .i64 x.epoch, .int .i64 x.stamp.by_, .int .i64 x.stamp.sig.at_, .slice nA0 x.stamp.sig.open_.length nk0, .slice nA1 x.stamp.sig.shut.length nk1, .slice nA2 x.stamp.sig.sides.length nk2] x (rng wr.heap.size w1.heap.size) := Lay.mono hn2.out (fun b h => by unfold rng at h ⊢; (try simp at h); omega)
      have hq1 : Chg (fun b => b = w.heap.size) wr w1 := (show Chg _ wr _ from by (repeat (first | with_reducible exact Chg.refl _ _ | with_reducible apply Chg.drew))).below hb1 (by first | with_reducible exact Nat.le_refl _ | omega | (simp; done) | (simp; omega))
      go_wp2
      go_roundw
      case rel =>
        refine ⟨k + 1, by omega, by go_num, by ((repeat (first | with_reducible exact hB1 | with_reducible exact Below.refl _ _ | with_reducible apply Below.drew | with_reducible refine Below.alloc ?_ ?_ _ | with_reducible refine Below.setCell ?_ ?_ _)); all_goals (first | with_reducible exact Nat.le_refl _ | omega | (simp; done) | (simp; omega))), by (try simp); omega, ?_⟩
        rw [hst.out]
        refine Row.setU (N := 7) (T := T) (w := wr) (U := (rng wr.heap.size w1.heap.size)) (cs := [.int .i64 x.house, .int .i64 x.epoch, .int .i64 x.stamp.by_, .int .i64 x.stamp.sig.at_, .slice nA0 x.stamp.sig.open_.length nk0, .slice nA1 x.stamp.sig.shut.length nk1, .slice nA2 x.stamp.sig.sides.length nk2]) rfl (by unfold rng; (try simp); omega) (fun b h => by unfold rng at h ⊢; (try simp); omega) HT.out HD.out HE.out (by simp; omega) (show Shp _ _ (ty Given) (xs.length * 7) from by (repeat (first | with_reducible exact hsh1 | with_reducible apply Shp.drew | with_reducible refine Shp.alloc ?_ _ | with_reducible refine Shp.set ?_ _ _))) (fun o ho => ?_) ?_ ?_ ?_ ?_ ?_
        · have n0 : o ≠ k * 7 := by intro h; apply ho; rw [h]; omega
          have n1 : o ≠ k * 7 + 1 := by intro h; apply ho; rw [h]; omega
          have n2 : o ≠ k * 7 + 2 := by intro h; apply ho; rw [h]; omega
          have n3 : o ≠ k * 7 + 3 := by intro h; apply ho; rw [h]; omega
          have n4 : o ≠ k * 7 + 4 := by intro h; apply ho; rw [h]; omega
          have n5 : o ≠ k * 7 + 5 := by intro h; apply ho; rw [h]; omega
          have n6 : o ≠ k * 7 + 6 := by intro h; apply ho; rw [h]; omega
          simp only [hc1, cell_set_ne _ _ _ o _ n0, cell_set_ne _ _ _ o _ n1, cell_set_ne _ _ _ o _ n2, cell_set_ne _ _ _ o _ n3, cell_set_ne _ _ _ o _ n4, cell_set_ne _ _ _ o _ n5, cell_set_ne _ _ _ o _ n6]
        · exact (show Chg (fun b => b = w.heap.size) wr _ from by (repeat (first | with_reducible exact hq1 | with_reducible apply Chg.drew | with_reducible refine Chg.setCell ?_ ?_ _ | exact Or.inl rfl)))
        · intro j u hu
          have hj : j < 7 := (List.getElem?_eq_some_iff.1 hu).1
          rcases (by omega : j = 0 ∨ j = 1 ∨ j = 2 ∨ j = 3 ∨ j = 4 ∨ j = 5 ∨ j = 6) with rfl | rfl | rfl | rfl | rfl | rfl | rfl
          all_goals (have hu := Option.some.inj hu; subst hu; go_simp; try simp)
        · exact (show rd true _ [.int .i64 x.house, .int .i64 x.epoch, .int .i64 x.stamp.by_, .int .i64 x.stamp.sig.at_, .slice nA0 x.stamp.sig.open_.length nk0, .slice nA1 x.stamp.sig.shut.length nk1, .slice nA2 x.stamp.sig.sides.length nk2] x (rng wr.heap.size w1.heap.size) from by (repeat (first | with_reducible exact hn3 | with_reducible apply rd_drewC | with_reducible refine rd_setC ?_ ?_ _ | exact (fun h => by unfold rng at h; simp only at h; omega))))
        · exact fun b h => by unfold rng at h ⊢; (try simp); constructor <;> omega
        · exact fun b h => by unfold rng at h; exact h.1
      case measure => simp [intOf]; omega
    · have hke : k = xs.length := by omega
      go_wp2
      go_ret; subst hke; exact ⟨some ⟨w.heap.size, 0, none⟩, xs.length, rfl, Nat.le_refl _, by unfold maxLen; omega, by simpa using hrow, hb⟩
set_option maxRecDepth 40000 in set_option maxHeartbeats 4000000 in
theorem to_Wrld (x : Wrld) (w : World) (cs : List Value) (S : Blks) (hx : rd false w cs x S) (hsz : x.sz ≤ 1048576) :
    Calls Tryz.prog 27 #[.agg cs.toArray] w fun e w' => ∃ cs', e = .returned (.agg cs'.toArray) ∧ rd true w' cs' x (rng w.heap.size w'.heap.size) ∧ Below w.heap.size w w' := by
  obtain ⟨A0, k0, S0, A1, k1, S1, A2, k2, S2, A3, k3, S3, A4, k4, S4, A5, k5, S5, rfl, a0, b0, r0, s0, a1, b1, r1, s1, a2, b2, r2, s2, a3, b3, r3, s3, a4, b4, r4, s4, a5, b5, r5, s5, pw⟩ := Wrld.open hx
  clear hx
  unfold Wrld.sz at hsz
  simp only [Wrld.cs]
  go_enter Tryz.func27, Tryz.ntmps27
  go_wp2_with (fail)
  refine (to_HouseS x.houses _ A0 k0 S0 (r0.later (by ((repeat (first | with_reducible exact Below.refl _ _ | with_reducible apply Below.drew | with_reducible refine Below.alloc ?_ ?_ _ | with_reducible refine Below.setCell ?_ ?_ _)); all_goals (first | with_reducible exact Nat.le_refl _ | omega | (simp; done) | (simp; omega))))) (by omega)).mono ?_
  rintro e1 w1 ⟨nA0, nk0, rfl, na0, nb0, nr0, hb1⟩
  have hB1 : Below w.heap.size w w1 := by refine Below.trans (b := _) ?_ (hb1.mono ?_) <;> ((repeat (first | with_reducible exact Below.refl _ _ | with_reducible apply Below.drew | with_reducible refine Below.alloc ?_ ?_ _ | with_reducible refine Below.setCell ?_ ?_ _)); all_goals (first | with_reducible exact Nat.le_refl _ | omega | (simp; done) | (simp; omega)))
  have hz1 : w.heap.size + 3 ≤ w1.heap.size := by have := hb1.size; (try simp at this); omega
  have hc1 := fun o => hb1.cell (p := ⟨w.heap.size, o, none⟩) (by first | with_reducible exact Nat.le_refl _ | omega | (simp; done) | (simp; omega))
  have hd1 := fun o => hb1.cell (p := ⟨w.heap.size + 1, o, none⟩) (by first | with_reducible exact Nat.le_refl _ | omega | (simp; done) | (simp; omega))
  have he1 := fun o => hb1.cell (p := ⟨w.heap.size + 2, o, none⟩) (by first | with_reducible exact Nat.le_refl _ | omega | (simp; done) | (simp; omega))
  have hfd1 := fun o => hb1.frozen (p := ⟨w.heap.size + 1, o, none⟩) (by first | with_reducible exact Nat.le_refl _ | omega | (simp; done) | (simp; omega))
  have hfe1 := fun o => hb1.frozen (p := ⟨w.heap.size + 2, o, none⟩) (by first | with_reducible exact Nat.le_refl _ | omega | (simp; done) | (simp; omega))
  have hw1 := hb1.size
  (try simp at hw1)
  have nS0_ : True := trivial
  replace nr0 := nr0.mono (S' := rng (w.heap.size + 3) w1.heap.size) (fun b h => by unfold rng at h ⊢; (try simp at h); omega)
  go_wp2_with (fail)
  refine (to_AuditorS x.auditors _ A1 k1 S1 (r1.later (by ((repeat (first | with_reducible exact hB1 | with_reducible exact Below.refl _ _ | with_reducible apply Below.drew | with_reducible refine Below.alloc ?_ ?_ _ | with_reducible refine Below.setCell ?_ ?_ _)); all_goals (first | with_reducible exact Nat.le_refl _ | omega | (simp; done) | (simp; omega))))) (by omega)).mono ?_
  rintro e2 w2 ⟨nA1, nk1, rfl, na1, nb1, nr1, hb2⟩
  have hB2 : Below w.heap.size w w2 := by refine Below.trans (b := _) ?_ (hb2.mono ?_) <;> ((repeat (first | with_reducible exact hB1 | with_reducible exact Below.refl _ _ | with_reducible apply Below.drew | with_reducible refine Below.alloc ?_ ?_ _ | with_reducible refine Below.setCell ?_ ?_ _)); all_goals (first | with_reducible exact Nat.le_refl _ | omega | (simp; done) | (simp; omega)))
  have hz2 : w.heap.size + 3 ≤ w2.heap.size := by have := hb2.size; (try simp at this); omega
  have hc2 := fun o => hb2.cell (p := ⟨w.heap.size, o, none⟩) (by first | with_reducible exact Nat.le_refl _ | omega | (simp; done) | (simp; omega))
  have hd2 := fun o => hb2.cell (p := ⟨w.heap.size + 1, o, none⟩) (by first | with_reducible exact Nat.le_refl _ | omega | (simp; done) | (simp; omega))
  have he2 := fun o => hb2.cell (p := ⟨w.heap.size + 2, o, none⟩) (by first | with_reducible exact Nat.le_refl _ | omega | (simp; done) | (simp; omega))
  have hfd2 := fun o => hb2.frozen (p := ⟨w.heap.size + 1, o, none⟩) (by first | with_reducible exact Nat.le_refl _ | omega | (simp; done) | (simp; omega))
  have hfe2 := fun o => hb2.frozen (p := ⟨w.heap.size + 2, o, none⟩) (by first | with_reducible exact Nat.le_refl _ | omega | (simp; done) | (simp; omega))
  have hw2 := hb2.size
  (try simp at hw2)
  have nr0_2 := Row.later (show Row true _ nA0 nk0 x.houses (rng (w.heap.size + 3) w1.heap.size) from by (repeat (first | with_reducible exact nr0 | with_reducible apply Row.drewC | with_reducible refine Row.allocC ?_ _ | with_reducible refine Row.setC ?_ ?_ _ | exact (fun h => by unfold rng at h; simp only at h; omega)))) hb2
  have nS1_ : True := trivial
  replace nr1 := nr1.mono (S' := rng (w1.heap.size) w2.heap.size) (fun b h => by unfold rng at h ⊢; (try simp at h); omega)
  go_wp2_with (fail)
  refine (to_NoteS x.notes _ A2 k2 S2 (r2.later (by ((repeat (first | with_reducible exact hB2 | with_reducible exact Below.refl _ _ | with_reducible apply Below.drew | with_reducible refine Below.alloc ?_ ?_ _ | with_reducible refine Below.setCell ?_ ?_ _)); all_goals (first | with_reducible exact Nat.le_refl _ | omega | (simp; done) | (simp; omega))))) (by omega)).mono ?_
  rintro e3 w3 ⟨nA2, nk2, rfl, na2, nb2, nr2, hb3⟩
  have hB3 : Below w.heap.size w w3 := by refine Below.trans (b := _) ?_ (hb3.mono ?_) <;> ((repeat (first | with_reducible exact hB2 | with_reducible exact Below.refl _ _ | with_reducible apply Below.drew | with_reducible refine Below.alloc ?_ ?_ _ | with_reducible refine Below.setCell ?_ ?_ _)); all_goals (first | with_reducible exact Nat.le_refl _ | omega | (simp; done) | (simp; omega)))
  have hz3 : w.heap.size + 3 ≤ w3.heap.size := by have := hb3.size; (try simp at this); omega
  have hc3 := fun o => hb3.cell (p := ⟨w.heap.size, o, none⟩) (by first | with_reducible exact Nat.le_refl _ | omega | (simp; done) | (simp; omega))
  have hd3 := fun o => hb3.cell (p := ⟨w.heap.size + 1, o, none⟩) (by first | with_reducible exact Nat.le_refl _ | omega | (simp; done) | (simp; omega))
  have he3 := fun o => hb3.cell (p := ⟨w.heap.size + 2, o, none⟩) (by first | with_reducible exact Nat.le_refl _ | omega | (simp; done) | (simp; omega))
  have hfd3 := fun o => hb3.frozen (p := ⟨w.heap.size + 1, o, none⟩) (by first | with_reducible exact Nat.le_refl _ | omega | (simp; done) | (simp; omega))
  have hfe3 := fun o => hb3.frozen (p := ⟨w.heap.size + 2, o, none⟩) (by first | with_reducible exact Nat.le_refl _ | omega | (simp; done) | (simp; omega))
  have hw3 := hb3.size
  (try simp at hw3)
  have nr0_3 := Row.later (show Row true _ nA0 nk0 x.houses (rng (w.heap.size + 3) w1.heap.size) from by (repeat (first | with_reducible exact nr0_2 | with_reducible apply Row.drewC | with_reducible refine Row.allocC ?_ _ | with_reducible refine Row.setC ?_ ?_ _ | exact (fun h => by unfold rng at h; simp only at h; omega)))) hb3
  have nr1_3 := Row.later (show Row true _ nA1 nk1 x.auditors (rng (w1.heap.size) w2.heap.size) from by (repeat (first | with_reducible exact nr1 | with_reducible apply Row.drewC | with_reducible refine Row.allocC ?_ _ | with_reducible refine Row.setC ?_ ?_ _ | exact (fun h => by unfold rng at h; simp only at h; omega)))) hb3
  have nS2_ : True := trivial
  replace nr2 := nr2.mono (S' := rng (w2.heap.size) w3.heap.size) (fun b h => by unfold rng at h ⊢; (try simp at h); omega)
  go_wp2_with (fail)
  refine (to_GivenS x.given _ A3 k3 S3 (r3.later (by ((repeat (first | with_reducible exact hB3 | with_reducible exact Below.refl _ _ | with_reducible apply Below.drew | with_reducible refine Below.alloc ?_ ?_ _ | with_reducible refine Below.setCell ?_ ?_ _)); all_goals (first | with_reducible exact Nat.le_refl _ | omega | (simp; done) | (simp; omega))))) (by omega)).mono ?_
  rintro e4 w4 ⟨nA3, nk3, rfl, na3, nb3, nr3, hb4⟩
  have hB4 : Below w.heap.size w w4 := by refine Below.trans (b := _) ?_ (hb4.mono ?_) <;> ((repeat (first | with_reducible exact hB3 | with_reducible exact Below.refl _ _ | with_reducible apply Below.drew | with_reducible refine Below.alloc ?_ ?_ _ | with_reducible refine Below.setCell ?_ ?_ _)); all_goals (first | with_reducible exact Nat.le_refl _ | omega | (simp; done) | (simp; omega)))
  have hz4 : w.heap.size + 3 ≤ w4.heap.size := by have := hb4.size; (try simp at this); omega
  have hc4 := fun o => hb4.cell (p := ⟨w.heap.size, o, none⟩) (by first | with_reducible exact Nat.le_refl _ | omega | (simp; done) | (simp; omega))
  have hd4 := fun o => hb4.cell (p := ⟨w.heap.size + 1, o, none⟩) (by first | with_reducible exact Nat.le_refl _ | omega | (simp; done) | (simp; omega))
  have he4 := fun o => hb4.cell (p := ⟨w.heap.size + 2, o, none⟩) (by first | with_reducible exact Nat.le_refl _ | omega | (simp; done) | (simp; omega))
  have hfd4 := fun o => hb4.frozen (p := ⟨w.heap.size + 1, o, none⟩) (by first | with_reducible exact Nat.le_refl _ | omega | (simp; done) | (simp; omega))
  have hfe4 := fun o => hb4.frozen (p := ⟨w.heap.size + 2, o, none⟩) (by first | with_reducible exact Nat.le_refl _ | omega | (simp; done) | (simp; omega))
  have hw4 := hb4.size
  (try simp at hw4)
  have nr0_4 := Row.later (show Row true _ nA0 nk0 x.houses (rng (w.heap.size + 3) w1.heap.size) from by (repeat (first | with_reducible exact nr0_3 | with_reducible apply Row.drewC | with_reducible refine Row.allocC ?_ _ | with_reducible refine Row.setC ?_ ?_ _ | exact (fun h => by unfold rng at h; simp only at h; omega)))) hb4
  have nr1_4 := Row.later (show Row true _ nA1 nk1 x.auditors (rng (w1.heap.size) w2.heap.size) from by (repeat (first | with_reducible exact nr1_3 | with_reducible apply Row.drewC | with_reducible refine Row.allocC ?_ _ | with_reducible refine Row.setC ?_ ?_ _ | exact (fun h => by unfold rng at h; simp only at h; omega)))) hb4
  have nr2_4 := Row.later (show Row true _ nA2 nk2 x.notes (rng (w2.heap.size) w3.heap.size) from by (repeat (first | with_reducible exact nr2 | with_reducible apply Row.drewC | with_reducible refine Row.allocC ?_ _ | with_reducible refine Row.setC ?_ ?_ _ | exact (fun h => by unfold rng at h; simp only at h; omega)))) hb4
  have nS3_ : True := trivial
  replace nr3 := nr3.mono (S' := rng (w3.heap.size) w4.heap.size) (fun b h => by unfold rng at h ⊢; (try simp at h); omega)
  go_wp2_with (fail)
  refine (to_BoolS x.evil _ A4 k4 S4 (r4.later (by ((repeat (first | with_reducible exact hB4 | with_reducible exact Below.refl _ _ | with_reducible apply Below.drew | with_reducible refine Below.alloc ?_ ?_ _ | with_reducible refine Below.setCell ?_ ?_ _)); all_goals (first | with_reducible exact Nat.le_refl _ | omega | (simp; done) | (simp; omega))))) (by omega)).mono ?_
  rintro e5 w5 ⟨nA4, nk4, rfl, na4, nb4, nr4, hb5⟩
  have hB5 : Below w.heap.size w w5 := by refine Below.trans (b := _) ?_ (hb5.mono ?_) <;> ((repeat (first | with_reducible exact hB4 | with_reducible exact Below.refl _ _ | with_reducible apply Below.drew | with_reducible refine Below.alloc ?_ ?_ _ | with_reducible refine Below.setCell ?_ ?_ _)); all_goals (first | with_reducible exact Nat.le_refl _ | omega | (simp; done) | (simp; omega)))
  have hz5 : w.heap.size + 3 ≤ w5.heap.size := by have := hb5.size; (try simp at this); omega
  have hc5 := fun o => hb5.cell (p := ⟨w.heap.size, o, none⟩) (by first | with_reducible exact Nat.le_refl _ | omega | (simp; done) | (simp; omega))
  have hd5 := fun o => hb5.cell (p := ⟨w.heap.size + 1, o, none⟩) (by first | with_reducible exact Nat.le_refl _ | omega | (simp; done) | (simp; omega))
  have he5 := fun o => hb5.cell (p := ⟨w.heap.size + 2, o, none⟩) (by first | with_reducible exact Nat.le_refl _ | omega | (simp; done) | (simp; omega))
  have hfd5 := fun o => hb5.frozen (p := ⟨w.heap.size + 1, o, none⟩) (by first | with_reducible exact Nat.le_refl _ | omega | (simp; done) | (simp; omega))
  have hfe5 := fun o => hb5.frozen (p := ⟨w.heap.size + 2, o, none⟩) (by first | with_reducible exact Nat.le_refl _ | omega | (simp; done) | (simp; omega))
  have hw5 := hb5.size
  (try simp at hw5)
  have nr0_5 := Row.later (show Row true _ nA0 nk0 x.houses (rng (w.heap.size + 3) w1.heap.size) from by (repeat (first | with_reducible exact nr0_4 | with_reducible apply Row.drewC | with_reducible refine Row.allocC ?_ _ | with_reducible refine Row.setC ?_ ?_ _ | exact (fun h => by unfold rng at h; simp only at h; omega)))) hb5
  have nr1_5 := Row.later (show Row true _ nA1 nk1 x.auditors (rng (w1.heap.size) w2.heap.size) from by (repeat (first | with_reducible exact nr1_4 | with_reducible apply Row.drewC | with_reducible refine Row.allocC ?_ _ | with_reducible refine Row.setC ?_ ?_ _ | exact (fun h => by unfold rng at h; simp only at h; omega)))) hb5
  have nr2_5 := Row.later (show Row true _ nA2 nk2 x.notes (rng (w2.heap.size) w3.heap.size) from by (repeat (first | with_reducible exact nr2_4 | with_reducible apply Row.drewC | with_reducible refine Row.allocC ?_ _ | with_reducible refine Row.setC ?_ ?_ _ | exact (fun h => by unfold rng at h; simp only at h; omega)))) hb5
  have nr3_5 := Row.later (show Row true _ nA3 nk3 x.given (rng (w3.heap.size) w4.heap.size) from by (repeat (first | with_reducible exact nr3 | with_reducible apply Row.drewC | with_reducible refine Row.allocC ?_ _ | with_reducible refine Row.setC ?_ ?_ _ | exact (fun h => by unfold rng at h; simp only at h; omega)))) hb5
  have nS4_ : True := trivial
  replace nr4 := nr4.mono (S' := rng (w4.heap.size) w5.heap.size) (fun b h => by unfold rng at h ⊢; (try simp at h); omega)
  go_wp2_with (fail)
  refine (to_IntS x.codes _ A5 k5 S5 (r5.later (by ((repeat (first | with_reducible exact hB5 | with_reducible exact Below.refl _ _ | with_reducible apply Below.drew | with_reducible refine Below.alloc ?_ ?_ _ | with_reducible refine Below.setCell ?_ ?_ _)); all_goals (first | with_reducible exact Nat.le_refl _ | omega | (simp; done) | (simp; omega))))) (by omega)).mono ?_
  rintro e6 w6 ⟨nA5, nk5, rfl, na5, nb5, nr5, hb6⟩
  have hB6 : Below w.heap.size w w6 := by refine Below.trans (b := _) ?_ (hb6.mono ?_) <;> ((repeat (first | with_reducible exact hB5 | with_reducible exact Below.refl _ _ | with_reducible apply Below.drew | with_reducible refine Below.alloc ?_ ?_ _ | with_reducible refine Below.setCell ?_ ?_ _)); all_goals (first | with_reducible exact Nat.le_refl _ | omega | (simp; done) | (simp; omega)))
  have hz6 : w.heap.size + 3 ≤ w6.heap.size := by have := hb6.size; (try simp at this); omega
  have hc6 := fun o => hb6.cell (p := ⟨w.heap.size, o, none⟩) (by first | with_reducible exact Nat.le_refl _ | omega | (simp; done) | (simp; omega))
  have hd6 := fun o => hb6.cell (p := ⟨w.heap.size + 1, o, none⟩) (by first | with_reducible exact Nat.le_refl _ | omega | (simp; done) | (simp; omega))
  have he6 := fun o => hb6.cell (p := ⟨w.heap.size + 2, o, none⟩) (by first | with_reducible exact Nat.le_refl _ | omega | (simp; done) | (simp; omega))
  have hfd6 := fun o => hb6.frozen (p := ⟨w.heap.size + 1, o, none⟩) (by first | with_reducible exact Nat.le_refl _ | omega | (simp; done) | (simp; omega))
  have hfe6 := fun o => hb6.frozen (p := ⟨w.heap.size + 2, o, none⟩) (by first | with_reducible exact Nat.le_refl _ | omega | (simp; done) | (simp; omega))
  have hw6 := hb6.size
  (try simp at hw6)
  have nr0_6 := Row.later (show Row true _ nA0 nk0 x.houses (rng (w.heap.size + 3) w1.heap.size) from by (repeat (first | with_reducible exact nr0_5 | with_reducible apply Row.drewC | with_reducible refine Row.allocC ?_ _ | with_reducible refine Row.setC ?_ ?_ _ | exact (fun h => by unfold rng at h; simp only at h; omega)))) hb6
  have nr1_6 := Row.later (show Row true _ nA1 nk1 x.auditors (rng (w1.heap.size) w2.heap.size) from by (repeat (first | with_reducible exact nr1_5 | with_reducible apply Row.drewC | with_reducible refine Row.allocC ?_ _ | with_reducible refine Row.setC ?_ ?_ _ | exact (fun h => by unfold rng at h; simp only at h; omega)))) hb6
  have nr2_6 := Row.later (show Row true _ nA2 nk2 x.notes (rng (w2.heap.size) w3.heap.size) from by (repeat (first | with_reducible exact nr2_5 | with_reducible apply Row.drewC | with_reducible refine Row.allocC ?_ _ | with_reducible refine Row.setC ?_ ?_ _ | exact (fun h => by unfold rng at h; simp only at h; omega)))) hb6
  have nr3_6 := Row.later (show Row true _ nA3 nk3 x.given (rng (w3.heap.size) w4.heap.size) from by (repeat (first | with_reducible exact nr3_5 | with_reducible apply Row.drewC | with_reducible refine Row.allocC ?_ _ | with_reducible refine Row.setC ?_ ?_ _ | exact (fun h => by unfold rng at h; simp only at h; omega)))) hb6
  have nr4_6 := Row.later (show Row true _ nA4 nk4 x.evil (rng (w4.heap.size) w5.heap.size) from by (repeat (first | with_reducible exact nr4 | with_reducible apply Row.drewC | with_reducible refine Row.allocC ?_ _ | with_reducible refine Row.setC ?_ ?_ _ | exact (fun h => by unfold rng at h; simp only at h; omega)))) hb6
  have nS5_ : True := trivial
  replace nr5 := nr5.mono (S' := rng (w5.heap.size) w6.heap.size) (fun b h => by unfold rng at h ⊢; (try simp at h); omega)
  go_wp2
  refine bodyPost_ret (v := .agg #[.slice nA0 x.houses.length nk0, .slice nA1 x.auditors.length nk1, .slice nA2 x.notes.length nk2, .slice nA3 x.given.length nk3, .slice nA4 x.evil.length nk4, .slice nA5 x.codes.length nk5]) (by simp [results, Tryz.results27, go_sem, hd6, he6, hd5, he5, hd4, he4, hd3, he3, hd2, he2, hd1, he1]) rfl ⟨[.slice nA0 x.houses.length nk0, .slice nA1 x.auditors.length nk1, .slice nA2 x.notes.length nk2, .slice nA3 x.given.length nk3, .slice nA4 x.evil.length nk4, .slice nA5 x.codes.length nk5], rfl, ?_, by ((repeat (first | with_reducible exact hB6 | with_reducible exact Below.refl _ _ | with_reducible apply Below.drew | with_reducible refine Below.alloc ?_ ?_ _ | with_reducible refine Below.setCell ?_ ?_ _)); all_goals (first | with_reducible exact Nat.le_refl _ | omega | (simp; done) | (simp; omega)))⟩
  exact Wrld.mk' (m := true) (x := x) na0 nb0 (show Row true _ nA0 nk0 x.houses (rng (w.heap.size + 3) w1.heap.size) from by (repeat (first | with_reducible exact nr0_6 | with_reducible apply Row.drewC | with_reducible refine Row.allocC ?_ _ | with_reducible refine Row.setC ?_ ?_ _ | exact (fun h => by unfold rng at h; simp only at h; omega)))) (fun b h => by unfold rng at h ⊢; simp; omega) na1 nb1 (show Row true _ nA1 nk1 x.auditors (rng (w1.heap.size) w2.heap.size) from by (repeat (first | with_reducible exact nr1_6 | with_reducible apply Row.drewC | with_reducible refine Row.allocC ?_ _ | with_reducible refine Row.setC ?_ ?_ _ | exact (fun h => by unfold rng at h; simp only at h; omega)))) (fun b h => by unfold rng at h ⊢; simp; omega) na2 nb2 (show Row true _ nA2 nk2 x.notes (rng (w2.heap.size) w3.heap.size) from by (repeat (first | with_reducible exact nr2_6 | with_reducible apply Row.drewC | with_reducible refine Row.allocC ?_ _ | with_reducible refine Row.setC ?_ ?_ _ | exact (fun h => by unfold rng at h; simp only at h; omega)))) (fun b h => by unfold rng at h ⊢; simp; omega) na3 nb3 (show Row true _ nA3 nk3 x.given (rng (w3.heap.size) w4.heap.size) from by (repeat (first | with_reducible exact nr3_6 | with_reducible apply Row.drewC | with_reducible refine Row.allocC ?_ _ | with_reducible refine Row.setC ?_ ?_ _ | exact (fun h => by unfold rng at h; simp only at h; omega)))) (fun b h => by unfold rng at h ⊢; simp; omega) na4 nb4 (show Row true _ nA4 nk4 x.evil (rng (w4.heap.size) w5.heap.size) from by (repeat (first | with_reducible exact nr4_6 | with_reducible apply Row.drewC | with_reducible refine Row.allocC ?_ _ | with_reducible refine Row.setC ?_ ?_ _ | exact (fun h => by unfold rng at h; simp only at h; omega)))) (fun b h => by unfold rng at h ⊢; simp; omega) na5 nb5 (show Row true _ nA5 nk5 x.codes (rng (w5.heap.size) w6.heap.size) from by (repeat (first | with_reducible exact nr5 | with_reducible apply Row.drewC | with_reducible refine Row.allocC ?_ _ | with_reducible refine Row.setC ?_ ?_ _ | exact (fun h => by unfold rng at h; simp only at h; omega)))) (fun b h => by unfold rng at h ⊢; simp; omega) (fun _ => pwmk6 (fun b h1 h2 => by unfold rng at h1 h2; omega) (fun b h1 h2 => by unfold rng at h1 h2; omega) (fun b h1 h2 => by unfold rng at h1 h2; omega) (fun b h1 h2 => by unfold rng at h1 h2; omega) (fun b h1 h2 => by unfold rng at h1 h2; omega) (fun b h1 h2 => by unfold rng at h1 h2; omega) (fun b h1 h2 => by unfold rng at h1 h2; omega) (fun b h1 h2 => by unfold rng at h1 h2; omega) (fun b h1 h2 => by unfold rng at h1 h2; omega) (fun b h1 h2 => by unfold rng at h1 h2; omega) (fun b h1 h2 => by unfold rng at h1 h2; omega) (fun b h1 h2 => by unfold rng at h1 h2; omega) (fun b h1 h2 => by unfold rng at h1 h2; omega) (fun b h1 h2 => by unfold rng at h1 h2; omega) (fun b h1 h2 => by unfold rng at h1 h2; omega))
end Go.Proofs.YthgonaodmpegfaaGreatDoor
