/- Walks of the law's helpers: those that this law needs. -/
import Derived.Test.YthgonaodmpegfaaGreatDoorMt
import Derived.Test.YthgonaodmpegfaaGreatDoorTy
import Derived.Test.YthgonaodmpegfaaGreatDoorSTrustOfMa1
set_option linter.unusedVariables false
set_option linter.unusedSimpArgs false
namespace Go.Proofs.YthgonaodmpegfaaGreatDoor
open Go.RowKit Lay Mk
set_option maxRecDepth 40000 in set_option maxHeartbeats 4000000 in
theorem markr_Wrld (x : Wrld) (w : World) (A0 : Option Addr) (k0 : Nat) (S0 : Blks) (A1 : Option Addr) (k1 : Nat) (S1 : Blks) (A2 : Option Addr) (k2 : Nat) (S2 : Blks) (A3 : Option Addr) (k3 : Nat) (S3 : Blks) (A4 : Option Addr) (k4 : Nat) (S4 : Blks) (A5 : Option Addr) (k5 : Nat) (S5 : Blks) (a : Int) (k : Nat) (ha : a = (k : Int)) (hk : k + x.ct ≤ 4611686018427387904) (r0 : Row true w A0 k0 x.houses S0) (l0 : x.houses.length ≤ maxLen) (r1 : Row true w A1 k1 x.auditors S1) (l1 : x.auditors.length ≤ maxLen) (r2 : Row true w A2 k2 x.notes S2) (l2 : x.notes.length ≤ maxLen) (r3 : Row true w A3 k3 x.given S3) (l3 : x.given.length ≤ maxLen) (r4 : Row true w A4 k4 x.evil S4) (l4 : x.evil.length ≤ maxLen) (r5 : Row true w A5 k5 x.codes S5) (l5 : x.codes.length ≤ maxLen) (pw : List.Pairwise disj [S0, S1, S2, S3, S4, S5]) :
    Calls Tryz.prog 30 #[.agg (Wrld.cs x A0 k0 A1 k1 A2 k2 A3 k3 A4 k4 A5 k5).toArray, .int .i64 a] w fun e w' => e = .returned (.int .i64 ((k + x.ct : Nat) : Int)) ∧ (Row true w' A0 k0 (meL x.houses (k)) S0 ∧ Row true w' A1 k1 (meL x.auditors (k + cnL x.houses)) S1 ∧ Row true w' A2 k2 (meL x.notes (k + cnL x.houses + cnL x.auditors)) S2 ∧ Row true w' A3 k3 (meL x.given (k + cnL x.houses + cnL x.auditors + cnL x.notes)) S3 ∧ Row true w' A4 k4 (meL x.evil (k + cnL x.houses + cnL x.auditors + cnL x.notes + cnL x.given)) S4 ∧ Row true w' A5 k5 (meL x.codes (k + cnL x.houses + cnL x.auditors + cnL x.notes + cnL x.given + cnL x.evil)) S5) ∧ Chg (un S0 (un S1 (un S2 (un S3 (un S4 S5))))) w w' := by
  subst ha
  unfold Wrld.ct at hk
  obtain ⟨K0, hK0⟩ : ∃ q, k + cnL x.houses = q := ⟨_, rfl⟩
  obtain ⟨K1, hK1⟩ : ∃ q, K0 + cnL x.auditors = q := ⟨_, rfl⟩
  obtain ⟨K2, hK2⟩ : ∃ q, K1 + cnL x.notes = q := ⟨_, rfl⟩
  obtain ⟨K3, hK3⟩ : ∃ q, K2 + cnL x.given = q := ⟨_, rfl⟩
  obtain ⟨K4, hK4⟩ : ∃ q, K3 + cnL x.evil = q := ⟨_, rfl⟩
  obtain ⟨K5, hK5⟩ : ∃ q, K4 + cnL x.codes = q := ⟨_, rfl⟩
  have hfin : Hid (((k + x.ct : Nat) : Int) = (K5 : Int)) := Lib.hid (by unfold Wrld.ct; omega)
  simp only [hK0, hK1, hK2, hK3, hK4]
  have HK0 := Lib.hid hK0; clear hK0
  have HK1 := Lib.hid hK1; clear hK1
  have HK2 := Lib.hid hK2; clear hK2
  have HK3 := Lib.hid hK3; clear hK3
  have HK4 := Lib.hid hK4; clear hK4
  have HK5 := Lib.hid hK5; clear hK5
  rw [hfin.out]
  have t0_0 := r0.tight
  have t0_1 := r1.tight
  have t0_2 := r2.tight
  have t0_3 := r3.tight
  have t0_4 := r4.tight
  have t0_5 := r5.tight
  clear r0 r1 r2 r3 r4 r5
  have d0_1 := disj_sub (pwget6_0_1 pw) (fun b (x : S0 b ∧ b < w.heap.size) => x.1) (fun b (x : S1 b ∧ b < w.heap.size) => x.1)
  have d0_2 := disj_sub (pwget6_0_2 pw) (fun b (x : S0 b ∧ b < w.heap.size) => x.1) (fun b (x : S2 b ∧ b < w.heap.size) => x.1)
  have d0_3 := disj_sub (pwget6_0_3 pw) (fun b (x : S0 b ∧ b < w.heap.size) => x.1) (fun b (x : S3 b ∧ b < w.heap.size) => x.1)
  have d0_4 := disj_sub (pwget6_0_4 pw) (fun b (x : S0 b ∧ b < w.heap.size) => x.1) (fun b (x : S4 b ∧ b < w.heap.size) => x.1)
  have d0_5 := disj_sub (pwget6_0_5 pw) (fun b (x : S0 b ∧ b < w.heap.size) => x.1) (fun b (x : S5 b ∧ b < w.heap.size) => x.1)
  have d1_2 := disj_sub (pwget6_1_2 pw) (fun b (x : S1 b ∧ b < w.heap.size) => x.1) (fun b (x : S2 b ∧ b < w.heap.size) => x.1)
  have d1_3 := disj_sub (pwget6_1_3 pw) (fun b (x : S1 b ∧ b < w.heap.size) => x.1) (fun b (x : S3 b ∧ b < w.heap.size) => x.1)
  have d1_4 := disj_sub (pwget6_1_4 pw) (fun b (x : S1 b ∧ b < w.heap.size) => x.1) (fun b (x : S4 b ∧ b < w.heap.size) => x.1)
  have d1_5 := disj_sub (pwget6_1_5 pw) (fun b (x : S1 b ∧ b < w.heap.size) => x.1) (fun b (x : S5 b ∧ b < w.heap.size) => x.1)
  have d2_3 := disj_sub (pwget6_2_3 pw) (fun b (x : S2 b ∧ b < w.heap.size) => x.1) (fun b (x : S3 b ∧ b < w.heap.size) => x.1)
  have d2_4 := disj_sub (pwget6_2_4 pw) (fun b (x : S2 b ∧ b < w.heap.size) => x.1) (fun b (x : S4 b ∧ b < w.heap.size) => x.1)
  have d2_5 := disj_sub (pwget6_2_5 pw) (fun b (x : S2 b ∧ b < w.heap.size) => x.1) (fun b (x : S5 b ∧ b < w.heap.size) => x.1)
  have d3_4 := disj_sub (pwget6_3_4 pw) (fun b (x : S3 b ∧ b < w.heap.size) => x.1) (fun b (x : S4 b ∧ b < w.heap.size) => x.1)
  have d3_5 := disj_sub (pwget6_3_5 pw) (fun b (x : S3 b ∧ b < w.heap.size) => x.1) (fun b (x : S5 b ∧ b < w.heap.size) => x.1)
  have d4_5 := disj_sub (pwget6_4_5 pw) (fun b (x : S4 b ∧ b < w.heap.size) => x.1) (fun b (x : S5 b ∧ b < w.heap.size) => x.1)
  clear pw
  have hC0 : Chg (un S0 (un S1 (un S2 (un S3 (un S4 S5))))) w w := Chg.refl _ _
  have hz0 := Nat.le_refl w.heap.size
  simp only [Wrld.cs]
  go_enter Tryz.func30, Tryz.ntmps30
  go_wp2_with (fail)
  refine (mark_HouseS x.houses _ _ _ (fun b => S0 b ∧ b < w.heap.size) _ k (by first | rfl | omega) (by have := HK0.out; have := HK1.out; have := HK2.out; have := HK3.out; have := HK4.out; have := HK5.out; omega) (show Row true _ A0 k0 x.houses (fun b => S0 b ∧ b < w.heap.size) from by (repeat (first | with_reducible exact t0_0 | with_reducible apply Row.drewC | with_reducible refine Row.allocC ?_ _))) l0).mono ?_
  rw [HK0.out]
  rintro e1 w1 ⟨rfl, t1_0, hb1⟩
  have hV1 : ∀ b, (fun b => S0 b ∧ b < w.heap.size) b → b < w.heap.size := (fun b (h : (fun b => S0 b ∧ b < w.heap.size) b) => (show b < w.heap.size from by exact h.2))
  have hz1 : w.heap.size + 1 ≤ w1.heap.size := by have := hb1.size; (try simp at this); omega
  have hC1 : Chg (un S0 (un S1 (un S2 (un S3 (un S4 S5))))) w w1 := Chg.trans (b := _) (by (repeat (first | with_reducible exact hC0 | with_reducible apply Chg.drew | with_reducible refine Chg.alloc ?_ _))) (hb1.mono (fun b _ h => (un_left _ _) b h.1))
  have t1_1 := Row.chg (show Row true _ A1 k1 x.auditors (fun b => S1 b ∧ b < w.heap.size) from by (repeat (first | with_reducible exact t0_1 | with_reducible apply Row.drewC | with_reducible refine Row.allocC ?_ _))) hb1 (disj_symm d0_1)
  have t1_2 := Row.chg (show Row true _ A2 k2 x.notes (fun b => S2 b ∧ b < w.heap.size) from by (repeat (first | with_reducible exact t0_2 | with_reducible apply Row.drewC | with_reducible refine Row.allocC ?_ _))) hb1 (disj_symm d0_2)
  have t1_3 := Row.chg (show Row true _ A3 k3 x.given (fun b => S3 b ∧ b < w.heap.size) from by (repeat (first | with_reducible exact t0_3 | with_reducible apply Row.drewC | with_reducible refine Row.allocC ?_ _))) hb1 (disj_symm d0_3)
  have t1_4 := Row.chg (show Row true _ A4 k4 x.evil (fun b => S4 b ∧ b < w.heap.size) from by (repeat (first | with_reducible exact t0_4 | with_reducible apply Row.drewC | with_reducible refine Row.allocC ?_ _))) hb1 (disj_symm d0_4)
  have t1_5 := Row.chg (show Row true _ A5 k5 x.codes (fun b => S5 b ∧ b < w.heap.size) from by (repeat (first | with_reducible exact t0_5 | with_reducible apply Row.drewC | with_reducible refine Row.allocC ?_ _))) hb1 (disj_symm d0_5)
  have hc1 := fun o => hb1.cellC (p := ⟨w.heap.size, o, none⟩) (by first | with_reducible exact Nat.le_refl _ | omega | (simp; done) | (simp; omega)) (fun h => absurd (hV1 _ h) (Nat.lt_irrefl _))
  go_wp2_with (fail)
  refine (mark_AuditorS x.auditors _ _ _ (fun b => S1 b ∧ b < w.heap.size) _ K0 (by first | rfl | omega) (by have := HK0.out; have := HK1.out; have := HK2.out; have := HK3.out; have := HK4.out; have := HK5.out; omega) (show Row true _ A1 k1 x.auditors (fun b => S1 b ∧ b < w.heap.size) from by (repeat (first | with_reducible exact t1_1 | with_reducible apply Row.drewC | with_reducible refine Row.allocC ?_ _))) l1).mono ?_
  rw [HK1.out]
  rintro e2 w2 ⟨rfl, t2_1, hb2⟩
  have hV2 : ∀ b, (fun b => S1 b ∧ b < w.heap.size) b → b < w.heap.size := (fun b (h : (fun b => S1 b ∧ b < w.heap.size) b) => (show b < w.heap.size from by exact h.2))
  have hz2 : w.heap.size + 1 ≤ w2.heap.size := by have := hb2.size; (try simp at this); omega
  have hC2 : Chg (un S0 (un S1 (un S2 (un S3 (un S4 S5))))) w w2 := Chg.trans (b := _) (by (repeat (first | with_reducible exact hC1 | with_reducible apply Chg.drew | with_reducible refine Chg.alloc ?_ _))) (hb2.mono (fun b _ h => (sub_trans (un_left _ _) (un_right _ _)) b h.1))
  have t2_0 := Row.chg (show Row true _ A0 k0 (meL x.houses k) (fun b => S0 b ∧ b < w.heap.size) from by (repeat (first | with_reducible exact t1_0 | with_reducible apply Row.drewC | with_reducible refine Row.allocC ?_ _))) hb2 d0_1
  have t2_2 := Row.chg (show Row true _ A2 k2 x.notes (fun b => S2 b ∧ b < w.heap.size) from by (repeat (first | with_reducible exact t1_2 | with_reducible apply Row.drewC | with_reducible refine Row.allocC ?_ _))) hb2 (disj_symm d1_2)
  have t2_3 := Row.chg (show Row true _ A3 k3 x.given (fun b => S3 b ∧ b < w.heap.size) from by (repeat (first | with_reducible exact t1_3 | with_reducible apply Row.drewC | with_reducible refine Row.allocC ?_ _))) hb2 (disj_symm d1_3)
  have t2_4 := Row.chg (show Row true _ A4 k4 x.evil (fun b => S4 b ∧ b < w.heap.size) from by (repeat (first | with_reducible exact t1_4 | with_reducible apply Row.drewC | with_reducible refine Row.allocC ?_ _))) hb2 (disj_symm d1_4)
  have t2_5 := Row.chg (show Row true _ A5 k5 x.codes (fun b => S5 b ∧ b < w.heap.size) from by (repeat (first | with_reducible exact t1_5 | with_reducible apply Row.drewC | with_reducible refine Row.allocC ?_ _))) hb2 (disj_symm d1_5)
  have hc2 := fun o => hb2.cellC (p := ⟨w.heap.size, o, none⟩) (by first | with_reducible exact Nat.le_refl _ | omega | (simp; done) | (simp; omega)) (fun h => absurd (hV2 _ h) (Nat.lt_irrefl _))
  go_wp2_with (fail)
  refine (mark_NoteS x.notes _ _ _ (fun b => S2 b ∧ b < w.heap.size) _ K1 (by first | rfl | omega) (by have := HK0.out; have := HK1.out; have := HK2.out; have := HK3.out; have := HK4.out; have := HK5.out; omega) (show Row true _ A2 k2 x.notes (fun b => S2 b ∧ b < w.heap.size) from by (repeat (first | with_reducible exact t2_2 | with_reducible apply Row.drewC | with_reducible refine Row.allocC ?_ _))) l2).mono ?_
  rw [HK2.out]
  rintro e3 w3 ⟨rfl, t3_2, hb3⟩
  have hV3 : ∀ b, (fun b => S2 b ∧ b < w.heap.size) b → b < w.heap.size := (fun b (h : (fun b => S2 b ∧ b < w.heap.size) b) => (show b < w.heap.size from by exact h.2))
  have hz3 : w.heap.size + 1 ≤ w3.heap.size := by have := hb3.size; (try simp at this); omega
  have hC3 : Chg (un S0 (un S1 (un S2 (un S3 (un S4 S5))))) w w3 := Chg.trans (b := _) (by (repeat (first | with_reducible exact hC2 | with_reducible apply Chg.drew | with_reducible refine Chg.alloc ?_ _))) (hb3.mono (fun b _ h => (sub_trans (sub_trans (un_left _ _) (un_right _ _)) (un_right _ _)) b h.1))
  have t3_0 := Row.chg (show Row true _ A0 k0 (meL x.houses k) (fun b => S0 b ∧ b < w.heap.size) from by (repeat (first | with_reducible exact t2_0 | with_reducible apply Row.drewC | with_reducible refine Row.allocC ?_ _))) hb3 d0_2
  have t3_1 := Row.chg (show Row true _ A1 k1 (meL x.auditors K0) (fun b => S1 b ∧ b < w.heap.size) from by (repeat (first | with_reducible exact t2_1 | with_reducible apply Row.drewC | with_reducible refine Row.allocC ?_ _))) hb3 d1_2
  have t3_3 := Row.chg (show Row true _ A3 k3 x.given (fun b => S3 b ∧ b < w.heap.size) from by (repeat (first | with_reducible exact t2_3 | with_reducible apply Row.drewC | with_reducible refine Row.allocC ?_ _))) hb3 (disj_symm d2_3)
  have t3_4 := Row.chg (show Row true _ A4 k4 x.evil (fun b => S4 b ∧ b < w.heap.size) from by (repeat (first | with_reducible exact t2_4 | with_reducible apply Row.drewC | with_reducible refine Row.allocC ?_ _))) hb3 (disj_symm d2_4)
  have t3_5 := Row.chg (show Row true _ A5 k5 x.codes (fun b => S5 b ∧ b < w.heap.size) from by (repeat (first | with_reducible exact t2_5 | with_reducible apply Row.drewC | with_reducible refine Row.allocC ?_ _))) hb3 (disj_symm d2_5)
  have hc3 := fun o => hb3.cellC (p := ⟨w.heap.size, o, none⟩) (by first | with_reducible exact Nat.le_refl _ | omega | (simp; done) | (simp; omega)) (fun h => absurd (hV3 _ h) (Nat.lt_irrefl _))
  go_wp2_with (fail)
  refine (mark_GivenS x.given _ _ _ (fun b => S3 b ∧ b < w.heap.size) _ K2 (by first | rfl | omega) (by have := HK0.out; have := HK1.out; have := HK2.out; have := HK3.out; have := HK4.out; have := HK5.out; omega) (show Row true _ A3 k3 x.given (fun b => S3 b ∧ b < w.heap.size) from by (repeat (first | with_reducible exact t3_3 | with_reducible apply Row.drewC | with_reducible refine Row.allocC ?_ _))) l3).mono ?_
  rw [HK3.out]
  rintro e4 w4 ⟨rfl, t4_3, hb4⟩
  have hV4 : ∀ b, (fun b => S3 b ∧ b < w.heap.size) b → b < w.heap.size := (fun b (h : (fun b => S3 b ∧ b < w.heap.size) b) => (show b < w.heap.size from by exact h.2))
  have hz4 : w.heap.size + 1 ≤ w4.heap.size := by have := hb4.size; (try simp at this); omega
  have hC4 : Chg (un S0 (un S1 (un S2 (un S3 (un S4 S5))))) w w4 := Chg.trans (b := _) (by (repeat (first | with_reducible exact hC3 | with_reducible apply Chg.drew | with_reducible refine Chg.alloc ?_ _))) (hb4.mono (fun b _ h => (sub_trans (sub_trans (sub_trans (un_left _ _) (un_right _ _)) (un_right _ _)) (un_right _ _)) b h.1))
  have t4_0 := Row.chg (show Row true _ A0 k0 (meL x.houses k) (fun b => S0 b ∧ b < w.heap.size) from by (repeat (first | with_reducible exact t3_0 | with_reducible apply Row.drewC | with_reducible refine Row.allocC ?_ _))) hb4 d0_3
  have t4_1 := Row.chg (show Row true _ A1 k1 (meL x.auditors K0) (fun b => S1 b ∧ b < w.heap.size) from by (repeat (first | with_reducible exact t3_1 | with_reducible apply Row.drewC | with_reducible refine Row.allocC ?_ _))) hb4 d1_3
  have t4_2 := Row.chg (show Row true _ A2 k2 (meL x.notes K1) (fun b => S2 b ∧ b < w.heap.size) from by (repeat (first | with_reducible exact t3_2 | with_reducible apply Row.drewC | with_reducible refine Row.allocC ?_ _))) hb4 d2_3
  have t4_4 := Row.chg (show Row true _ A4 k4 x.evil (fun b => S4 b ∧ b < w.heap.size) from by (repeat (first | with_reducible exact t3_4 | with_reducible apply Row.drewC | with_reducible refine Row.allocC ?_ _))) hb4 (disj_symm d3_4)
  have t4_5 := Row.chg (show Row true _ A5 k5 x.codes (fun b => S5 b ∧ b < w.heap.size) from by (repeat (first | with_reducible exact t3_5 | with_reducible apply Row.drewC | with_reducible refine Row.allocC ?_ _))) hb4 (disj_symm d3_5)
  have hc4 := fun o => hb4.cellC (p := ⟨w.heap.size, o, none⟩) (by first | with_reducible exact Nat.le_refl _ | omega | (simp; done) | (simp; omega)) (fun h => absurd (hV4 _ h) (Nat.lt_irrefl _))
  go_wp2_with (fail)
  refine (mark_BoolS x.evil _ _ _ (fun b => S4 b ∧ b < w.heap.size) _ K3 (by first | rfl | omega) (by have := HK0.out; have := HK1.out; have := HK2.out; have := HK3.out; have := HK4.out; have := HK5.out; omega) (show Row true _ A4 k4 x.evil (fun b => S4 b ∧ b < w.heap.size) from by (repeat (first | with_reducible exact t4_4 | with_reducible apply Row.drewC | with_reducible refine Row.allocC ?_ _))) l4).mono ?_
  rw [HK4.out]
  rintro e5 w5 ⟨rfl, t5_4, hb5⟩
  have hV5 : ∀ b, (fun b => S4 b ∧ b < w.heap.size) b → b < w.heap.size := (fun b (h : (fun b => S4 b ∧ b < w.heap.size) b) => (show b < w.heap.size from by exact h.2))
  have hz5 : w.heap.size + 1 ≤ w5.heap.size := by have := hb5.size; (try simp at this); omega
  have hC5 : Chg (un S0 (un S1 (un S2 (un S3 (un S4 S5))))) w w5 := Chg.trans (b := _) (by (repeat (first | with_reducible exact hC4 | with_reducible apply Chg.drew | with_reducible refine Chg.alloc ?_ _))) (hb5.mono (fun b _ h => (sub_trans (sub_trans (sub_trans (sub_trans (un_left _ _) (un_right _ _)) (un_right _ _)) (un_right _ _)) (un_right _ _)) b h.1))
  have t5_0 := Row.chg (show Row true _ A0 k0 (meL x.houses k) (fun b => S0 b ∧ b < w.heap.size) from by (repeat (first | with_reducible exact t4_0 | with_reducible apply Row.drewC | with_reducible refine Row.allocC ?_ _))) hb5 d0_4
  have t5_1 := Row.chg (show Row true _ A1 k1 (meL x.auditors K0) (fun b => S1 b ∧ b < w.heap.size) from by (repeat (first | with_reducible exact t4_1 | with_reducible apply Row.drewC | with_reducible refine Row.allocC ?_ _))) hb5 d1_4
  have t5_2 := Row.chg (show Row true _ A2 k2 (meL x.notes K1) (fun b => S2 b ∧ b < w.heap.size) from by (repeat (first | with_reducible exact t4_2 | with_reducible apply Row.drewC | with_reducible refine Row.allocC ?_ _))) hb5 d2_4
  have t5_3 := Row.chg (show Row true _ A3 k3 (meL x.given K2) (fun b => S3 b ∧ b < w.heap.size) from by (repeat (first | with_reducible exact t4_3 | with_reducible apply Row.drewC | with_reducible refine Row.allocC ?_ _))) hb5 d3_4
  have t5_5 := Row.chg (show Row true _ A5 k5 x.codes (fun b => S5 b ∧ b < w.heap.size) from by (repeat (first | with_reducible exact t4_5 | with_reducible apply Row.drewC | with_reducible refine Row.allocC ?_ _))) hb5 (disj_symm d4_5)
  have hc5 := fun o => hb5.cellC (p := ⟨w.heap.size, o, none⟩) (by first | with_reducible exact Nat.le_refl _ | omega | (simp; done) | (simp; omega)) (fun h => absurd (hV5 _ h) (Nat.lt_irrefl _))
  go_wp2_with (fail)
  refine (mark_IntS x.codes _ _ _ (fun b => S5 b ∧ b < w.heap.size) _ K4 (by first | rfl | omega) (by have := HK0.out; have := HK1.out; have := HK2.out; have := HK3.out; have := HK4.out; have := HK5.out; omega) (show Row true _ A5 k5 x.codes (fun b => S5 b ∧ b < w.heap.size) from by (repeat (first | with_reducible exact t5_5 | with_reducible apply Row.drewC | with_reducible refine Row.allocC ?_ _))) l5).mono ?_
  rw [HK5.out]
  rintro e6 w6 ⟨rfl, t6_5, hb6⟩
  have hV6 : ∀ b, (fun b => S5 b ∧ b < w.heap.size) b → b < w.heap.size := (fun b (h : (fun b => S5 b ∧ b < w.heap.size) b) => (show b < w.heap.size from by exact h.2))
  have hz6 : w.heap.size + 1 ≤ w6.heap.size := by have := hb6.size; (try simp at this); omega
  have hC6 : Chg (un S0 (un S1 (un S2 (un S3 (un S4 S5))))) w w6 := Chg.trans (b := _) (by (repeat (first | with_reducible exact hC5 | with_reducible apply Chg.drew | with_reducible refine Chg.alloc ?_ _))) (hb6.mono (fun b _ h => (sub_trans (sub_trans (sub_trans (sub_trans (sub_trans (sub_refl _) (un_right _ _)) (un_right _ _)) (un_right _ _)) (un_right _ _)) (un_right _ _)) b h.1))
  have t6_0 := Row.chg (show Row true _ A0 k0 (meL x.houses k) (fun b => S0 b ∧ b < w.heap.size) from by (repeat (first | with_reducible exact t5_0 | with_reducible apply Row.drewC | with_reducible refine Row.allocC ?_ _))) hb6 d0_5
  have t6_1 := Row.chg (show Row true _ A1 k1 (meL x.auditors K0) (fun b => S1 b ∧ b < w.heap.size) from by (repeat (first | with_reducible exact t5_1 | with_reducible apply Row.drewC | with_reducible refine Row.allocC ?_ _))) hb6 d1_5
  have t6_2 := Row.chg (show Row true _ A2 k2 (meL x.notes K1) (fun b => S2 b ∧ b < w.heap.size) from by (repeat (first | with_reducible exact t5_2 | with_reducible apply Row.drewC | with_reducible refine Row.allocC ?_ _))) hb6 d2_5
  have t6_3 := Row.chg (show Row true _ A3 k3 (meL x.given K2) (fun b => S3 b ∧ b < w.heap.size) from by (repeat (first | with_reducible exact t5_3 | with_reducible apply Row.drewC | with_reducible refine Row.allocC ?_ _))) hb6 d3_5
  have t6_4 := Row.chg (show Row true _ A4 k4 (meL x.evil K3) (fun b => S4 b ∧ b < w.heap.size) from by (repeat (first | with_reducible exact t5_4 | with_reducible apply Row.drewC | with_reducible refine Row.allocC ?_ _))) hb6 d4_5
  have hc6 := fun o => hb6.cellC (p := ⟨w.heap.size, o, none⟩) (by first | with_reducible exact Nat.le_refl _ | omega | (simp; done) | (simp; omega)) (fun h => absurd (hV6 _ h) (Nat.lt_irrefl _))
  go_wp2
  go_ret
  exact ⟨rfl, ⟨Row.mono (show Row true _ A0 k0 (meL x.houses k) (fun b => S0 b ∧ b < w.heap.size) from by (repeat (first | with_reducible exact t6_0 | with_reducible apply Row.drewC | with_reducible refine Row.allocC ?_ _))) (fun _ x => x.1), Row.mono (show Row true _ A1 k1 (meL x.auditors K0) (fun b => S1 b ∧ b < w.heap.size) from by (repeat (first | with_reducible exact t6_1 | with_reducible apply Row.drewC | with_reducible refine Row.allocC ?_ _))) (fun _ x => x.1), Row.mono (show Row true _ A2 k2 (meL x.notes K1) (fun b => S2 b ∧ b < w.heap.size) from by (repeat (first | with_reducible exact t6_2 | with_reducible apply Row.drewC | with_reducible refine Row.allocC ?_ _))) (fun _ x => x.1), Row.mono (show Row true _ A3 k3 (meL x.given K2) (fun b => S3 b ∧ b < w.heap.size) from by (repeat (first | with_reducible exact t6_3 | with_reducible apply Row.drewC | with_reducible refine Row.allocC ?_ _))) (fun _ x => x.1), Row.mono (show Row true _ A4 k4 (meL x.evil K3) (fun b => S4 b ∧ b < w.heap.size) from by (repeat (first | with_reducible exact t6_4 | with_reducible apply Row.drewC | with_reducible refine Row.allocC ?_ _))) (fun _ x => x.1), Row.mono (show Row true _ A5 k5 (meL x.codes K4) (fun b => S5 b ∧ b < w.heap.size) from by (repeat (first | with_reducible exact t6_5 | with_reducible apply Row.drewC | with_reducible refine Row.allocC ?_ _))) (fun _ x => x.1)⟩, by (repeat (first | with_reducible exact hC6 | with_reducible apply Chg.drew | with_reducible refine Chg.alloc ?_ _))⟩
theorem mark_Wrld (x : Wrld) (w : World) (cs : List Value) (S : Blks) (a : Int) (k : Nat) (ha : a = (k : Int)) (hk : k + x.ct ≤ 4611686018427387904) (hx : rd true w cs x S) :
    Calls Tryz.prog 30 #[.agg cs.toArray, .int .i64 a] w fun e w' => e = .returned (.int .i64 ((k + x.ct : Nat) : Int)) ∧ rd true w' cs (x.mt k) S ∧ Chg S w w' := by
  obtain ⟨A0, k0, S0, A1, k1, S1, A2, k2, S2, A3, k3, S3, A4, k4, S4, A5, k5, S5, rfl, a0, b0, r0, s0, a1, b1, r1, s1, a2, b2, r2, s2, a3, b3, r3, s3, a4, b4, r4, s4, a5, b5, r5, s5, pw⟩ := Wrld.open hx
  refine (markr_Wrld x w A0 k0 S0 A1 k1 S1 A2 k2 S2 A3 k3 S3 A4 k4 S4 A5 k5 S5 a k ha hk r0 (Nat.le_trans a0 b0) r1 (Nat.le_trans a1 b1) r2 (Nat.le_trans a2 b2) r3 (Nat.le_trans a3 b3) r4 (Nat.le_trans a4 b4) r5 (Nat.le_trans a5 b5) (pw rfl)).mono ?_
  rintro e w1 ⟨rfl, ⟨t0, t1, t2, t3, t4, t5⟩, hb⟩
  have hm : rd true w1 (Wrld.cs (⟨meL x.houses (k), meL x.auditors (k + cnL x.houses), meL x.notes (k + cnL x.houses + cnL x.auditors), meL x.given (k + cnL x.houses + cnL x.auditors + cnL x.notes), meL x.evil (k + cnL x.houses + cnL x.auditors + cnL x.notes + cnL x.given), meL x.codes (k + cnL x.houses + cnL x.auditors + cnL x.notes + cnL x.given + cnL x.evil)⟩ : Wrld) A0 k0 A1 k1 A2 k2 A3 k3 A4 k4 A5 k5) (⟨meL x.houses (k), meL x.auditors (k + cnL x.houses), meL x.notes (k + cnL x.houses + cnL x.auditors), meL x.given (k + cnL x.houses + cnL x.auditors + cnL x.notes), meL x.evil (k + cnL x.houses + cnL x.auditors + cnL x.notes + cnL x.given), meL x.codes (k + cnL x.houses + cnL x.auditors + cnL x.notes + cnL x.given + cnL x.evil)⟩ : Wrld) S := Wrld.mk' (x := (⟨meL x.houses (k), meL x.auditors (k + cnL x.houses), meL x.notes (k + cnL x.houses + cnL x.auditors), meL x.given (k + cnL x.houses + cnL x.auditors + cnL x.notes), meL x.evil (k + cnL x.houses + cnL x.auditors + cnL x.notes + cnL x.given), meL x.codes (k + cnL x.houses + cnL x.auditors + cnL x.notes + cnL x.given + cnL x.evil)⟩ : Wrld)) (by rw [meL_length]; exact a0) b0 t0 s0 (by rw [meL_length]; exact a1) b1 t1 s1 (by rw [meL_length]; exact a2) b2 t2 s2 (by rw [meL_length]; exact a3) b3 t3 s3 (by rw [meL_length]; exact a4) b4 t4 s4 (by rw [meL_length]; exact a5) b5 t5 s5 pw
  refine ⟨rfl, ?_, hb.mono (fun b _ h => (show S b from by unfold un at h; (try simp only at h); rcases h with h | (h | (h | (h | (h | h)))) <;> first | exact s0 b h | exact s1 b h | exact s2 b h | exact s3 b h | exact s4 b h | exact s5 b h))⟩
  simpa only [Wrld.cs, meL_length, Wrld.mt] using hm
end Go.Proofs.YthgonaodmpegfaaGreatDoor
