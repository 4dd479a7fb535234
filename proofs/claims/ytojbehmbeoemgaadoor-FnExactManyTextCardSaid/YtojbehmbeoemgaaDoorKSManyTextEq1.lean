/- Walks of the law's helpers: those that this law needs. -/
import Derived.Test.YtojbehmbeoemgaaDoorProg
import Derived.Test.YtojbehmbeoemgaaDoorB1
import Derived.Lib.Hide
set_option linter.unusedVariables false
set_option linter.unusedSimpArgs false
namespace Go.Proofs.YtojbehmbeoemgaaDoor
open Go.RowKit Lay Mk
set_option maxRecDepth 20000 in set_option maxHeartbeats 1000000 in
theorem eq_StringS (xs : List ByteArray) (w : World) (A1 A2 : Option Addr) (d1 d2 : Nat) (S S' : Blks) (hx : Row false w A1 d1 xs S) (hy : Row false w A2 d2 xs S') (hl : xs.length ≤ maxLen) :
    Calls Tryd.prog 39 #[.slice A1 xs.length d1, .slice A2 xs.length d2] w fun e w' => e = .returned (.bool true) ∧ Below w.heap.size w w' := by
  unfold maxLen at hl
  go_enter Tryd.func39, Tryd.ntmps39
  go_wp2
  go_loopw [5] (fun i wr => ∃ k : Nat, k ≤ xs.length ∧ i = .int .i64 k ∧ Below w.heap.size w wr) (fun i _ => xs.length - (intOf i).toNat)
  case atStart => exact ⟨0, Nat.zero_le _, rfl, Below.refl _ _⟩
  case round =>
    obtain ⟨k, hk, rfl, hb⟩ := hrel
    have hz := hb.size
    by_cases hlt : k < xs.length
    · have hne : xs ≠ [] := by rintro rfl; simp at hlt
      obtain ⟨b1, o1, rfl, _, T1, _, _, he1⟩ := hx hne
      obtain ⟨c1, ha1, hr1⟩ := he1 k hlt
      have hl1 := ha1.lt (by rintro rfl; have := Lay.len hr1; cases this)
      replace ha1 := ha1.keep (hb.block _ hl1)
      replace hr1 := Lay.later hr1 hb
      obtain ⟨b2, o2, rfl, _, T2, _, _, he2⟩ := hy hne
      obtain ⟨c2, ha2, hr2⟩ := he2 k hlt
      have hl2 := ha2.lt (by rintro rfl; have := Lay.len hr2; cases this)
      replace ha2 := ha2.keep (hb.block _ hl2)
      replace hr2 := Lay.later hr2 hb
      obtain ⟨rfl, _⟩ := open_str hr1
      have f1 := ha1 0 _ rfl; clear hr1
      simp only [show Lay.n ByteArray = 1 from rfl, Nat.add_zero, Nat.mul_one] at f1
      obtain ⟨rfl, _⟩ := open_str hr2
      have f2 := ha2 0 _ rfl; clear hr2
      simp only [show Lay.n ByteArray = 1 from rfl, Nat.add_zero, Nat.mul_one] at f2
      clear he1 he2 ha1 ha2 hx hy
      go_wp2_with (fail)
      refine still_tail 8 (by kernel_rfl) (by kernel_rfl) ?_
      simp only [List.take_succ_cons, List.take_zero, List.drop_succ_cons, List.drop_zero]
      repeat still_step
      refine wpStill_nil ?_
      go_wp2
      go_roundw
      case rel => exact ⟨k + 1, by omega, by go_num, by (repeat (first | exact hb | exact Below.refl _ _ | apply Below.drew | refine Below.alloc ?_ (by first | with_reducible exact Nat.le_refl _ | omega | (simp; done) | (simp; omega)) _))⟩
      case measure => simp [intOf]; omega
    · go_wp2
      go_ret; exact ⟨rfl, hb⟩
set_option maxRecDepth 20000 in set_option maxHeartbeats 1000000 in
theorem eq_Leaf (x : Leaf) (w : World) (c1 c2 : List Value) (S S' : Blks) (hx : rd false w c1 x S) (hy : rd false w c2 x S') :
    Calls Tryd.prog 94 #[.agg c1.toArray, .agg c2.toArray] w fun e w' => e = .returned (.bool true) ∧ Below w.heap.size w w' := by
  obtain ⟨rfl, f0, f1⟩ := Leaf.open hx
  obtain ⟨rfl, zf0, zf1⟩ := Leaf.open hy
  clear hx hy
  simp only [Leaf.cs]
  go_enter Tryd.func94, Tryd.ntmps94
  go_wp2_with (fail)
  go_ret; exact ⟨rfl, by (repeat (first | exact Below.refl _ _ | apply Below.drew | refine Below.alloc ?_ (by first | with_reducible exact Nat.le_refl _ | omega | (simp; done) | (simp; omega)) _))⟩
set_option maxRecDepth 20000 in set_option maxHeartbeats 1000000 in
theorem eq_LeafS (xs : List Leaf) (w : World) (A1 A2 : Option Addr) (d1 d2 : Nat) (S S' : Blks) (hx : Row false w A1 d1 xs S) (hy : Row false w A2 d2 xs S') (hl : xs.length ≤ maxLen) :
    Calls Tryd.prog 38 #[.slice A1 xs.length d1, .slice A2 xs.length d2] w fun e w' => e = .returned (.bool true) ∧ Below w.heap.size w w' := by
  unfold maxLen at hl
  go_enter Tryd.func38, Tryd.ntmps38
  go_wp2
  go_loopw [5] (fun i wr => ∃ k : Nat, k ≤ xs.length ∧ i = .int .i64 k ∧ Below w.heap.size w wr) (fun i _ => xs.length - (intOf i).toNat)
  case atStart => exact ⟨0, Nat.zero_le _, rfl, Below.refl _ _⟩
  case round =>
    obtain ⟨k, hk, rfl, hb⟩ := hrel
    have hz := hb.size
    by_cases hlt : k < xs.length
    · have hne : xs ≠ [] := by rintro rfl; simp at hlt
      obtain ⟨b1, o1, rfl, _, T1, _, _, he1⟩ := hx hne
      obtain ⟨c1, ha1, hr1⟩ := he1 k hlt
      have hl1 := ha1.lt (by rintro rfl; have := Lay.len hr1; cases this)
      replace ha1 := ha1.keep (hb.block _ hl1)
      replace hr1 := Lay.later hr1 hb
      obtain ⟨b2, o2, rfl, _, T2, _, _, he2⟩ := hy hne
      obtain ⟨c2, ha2, hr2⟩ := he2 k hlt
      have hl2 := ha2.lt (by rintro rfl; have := Lay.len hr2; cases this)
      replace ha2 := ha2.keep (hb.block _ hl2)
      replace hr2 := Lay.later hr2 hb
      have ht1 := Lib.hid hr1
      obtain ⟨rfl, f0, f1⟩ := Leaf.open hr1
      have q0 := ha1 0 _ rfl
      have q1 := ha1 1 _ rfl
      simp only [show Lay.n Leaf = 2 from rfl, Nat.add_zero] at q0 q1
      have ht2 := Lib.hid hr2
      obtain ⟨rfl, zf0, zf1⟩ := Leaf.open hr2
      have zq0 := ha2 0 _ rfl
      have zq1 := ha2 1 _ rfl
      simp only [show Lay.n Leaf = 2 from rfl, Nat.add_zero] at zq0 zq1
      clear he1 he2 ha1 ha2 hx hy
      go_wp2_with (fail)
      refine still_tail 8 (by kernel_rfl) (by kernel_rfl) ?_
      simp only [List.take_succ_cons, List.take_zero, List.drop_succ_cons, List.drop_zero]
      repeat still_step
      refine wpStill_nil ?_
      go_wp2_with (fail)
      refine (eq_Leaf xs[k] _ (Leaf.cs xs[k]) (Leaf.cs xs[k]) _ _ (Lay.later ht1.out (by (repeat (first | exact Below.refl _ _ | apply Below.drew | refine Below.alloc ?_ (by first | with_reducible exact Nat.le_refl _ | omega | (simp; done) | (simp; omega)) _)))) (Lay.later ht2.out (by (repeat (first | exact Below.refl _ _ | apply Below.drew | refine Below.alloc ?_ (by first | with_reducible exact Nat.le_refl _ | omega | (simp; done) | (simp; omega)) _))))).mono ?_
      rintro e1 w1 ⟨rfl, hb1⟩
      have hB1 : Below w.heap.size w w1 := by refine Below.trans ?_ (hb1.mono ?_) <;> first | ((repeat (first | exact hb | exact Below.refl _ _ | apply Below.drew | refine Below.alloc ?_ (by first | with_reducible exact Nat.le_refl _ | omega | (simp; done) | (simp; omega)) _)); done) | (first | with_reducible exact Nat.le_refl _ | omega | (simp; done) | (simp; omega))
      go_wp2
      go_roundw
      case rel => exact ⟨k + 1, by omega, by go_num, hB1⟩
      case measure => simp [intOf]; omega
    · go_wp2
      go_ret; exact ⟨rfl, hb⟩
set_option maxRecDepth 20000 in set_option maxHeartbeats 1000000 in
theorem eq_LeafSS (xs : List (List Leaf)) (w : World) (A1 A2 : Option Addr) (d1 d2 : Nat) (S S' : Blks) (hx : Row false w A1 d1 xs S) (hy : Row false w A2 d2 xs S') (hl : xs.length ≤ maxLen) :
    Calls Tryd.prog 64 #[.slice A1 xs.length d1, .slice A2 xs.length d2] w fun e w' => e = .returned (.bool true) ∧ Below w.heap.size w w' := by
  unfold maxLen at hl
  go_enter Tryd.func64, Tryd.ntmps64
  go_wp2
  go_loopw [5] (fun i wr => ∃ k : Nat, k ≤ xs.length ∧ i = .int .i64 k ∧ Below w.heap.size w wr) (fun i _ => xs.length - (intOf i).toNat)
  case atStart => exact ⟨0, Nat.zero_le _, rfl, Below.refl _ _⟩
  case round =>
    obtain ⟨k, hk, rfl, hb⟩ := hrel
    have hz := hb.size
    by_cases hlt : k < xs.length
    · have hne : xs ≠ [] := by rintro rfl; simp at hlt
      obtain ⟨b1, o1, rfl, _, T1, _, _, he1⟩ := hx hne
      obtain ⟨c1, ha1, hr1⟩ := he1 k hlt
      have hl1 := ha1.lt (by rintro rfl; have := Lay.len hr1; cases this)
      replace ha1 := ha1.keep (hb.block _ hl1)
      replace hr1 := Lay.later hr1 hb
      obtain ⟨b2, o2, rfl, _, T2, _, _, he2⟩ := hy hne
      obtain ⟨c2, ha2, hr2⟩ := he2 k hlt
      have hl2 := ha2.lt (by rintro rfl; have := Lay.len hr2; cases this)
      replace ha2 := ha2.keep (hb.block _ hl2)
      replace hr2 := Lay.later hr2 hb
      obtain ⟨B1, k1, rfl, g1, i1, row1⟩ := open_list hr1
      have f1 := ha1 0 _ rfl; clear hr1
      simp only [show Lay.n (List Leaf) = 1 from rfl, Nat.add_zero, Nat.mul_one] at f1
      obtain ⟨B2, k2, rfl, g2, i2, row2⟩ := open_list hr2
      have f2 := ha2 0 _ rfl; clear hr2
      simp only [show Lay.n (List Leaf) = 1 from rfl, Nat.add_zero, Nat.mul_one] at f2
      clear he1 he2 ha1 ha2 hx hy
      go_wp2_with (fail)
      refine still_tail 8 (by kernel_rfl) (by kernel_rfl) ?_
      simp only [List.take_succ_cons, List.take_zero, List.drop_succ_cons, List.drop_zero]
      repeat still_step
      refine wpStill_nil ?_
      go_wp2_with (fail)
      refine (eq_LeafS xs[k] _ _ _ _ _ _ _ (row1.later (by (repeat (first | exact Below.refl _ _ | apply Below.drew | refine Below.alloc ?_ (by first | with_reducible exact Nat.le_refl _ | omega | (simp; done) | (simp; omega)) _)))) (row2.later (by (repeat (first | exact Below.refl _ _ | apply Below.drew | refine Below.alloc ?_ (by first | with_reducible exact Nat.le_refl _ | omega | (simp; done) | (simp; omega)) _)))) (Nat.le_trans g1 i1)).mono ?_
      rintro e1 w1 ⟨rfl, hb1⟩
      have hB1 : Below w.heap.size w w1 := by refine Below.trans ?_ (hb1.mono ?_) <;> first | ((repeat (first | exact hb | exact Below.refl _ _ | apply Below.drew | refine Below.alloc ?_ (by first | with_reducible exact Nat.le_refl _ | omega | (simp; done) | (simp; omega)) _)); done) | (first | with_reducible exact Nat.le_refl _ | omega | (simp; done) | (simp; omega))
      go_wp2
      go_roundw
      case rel => exact ⟨k + 1, by omega, by go_num, hB1⟩
      case measure => simp [intOf]; omega
    · go_wp2
      go_ret; exact ⟨rfl, hb⟩
set_option maxRecDepth 20000 in set_option maxHeartbeats 1000000 in
theorem eq_Many (x : Many) (w : World) (c1 c2 : List Value) (S S' : Blks) (hx : rd false w c1 x S) (hy : rd false w c2 x S') :
    Calls Tryd.prog 21 #[.agg c1.toArray, .agg c2.toArray] w fun e w' => e = .returned (.bool true) ∧ Below w.heap.size w w' := by
  obtain ⟨A0, k0, S0, A1, k1, S1, A2, k2, S2, rfl, a0, b0, r0, s0, a1, b1, r1, s1, a2, b2, r2, s2, pw⟩ := Many.open hx
  obtain ⟨zA0, zk0, zS0, zA1, zk1, zS1, zA2, zk2, zS2, rfl, za0, zb0, zr0, zs0, za1, zb1, zr1, zs1, za2, zb2, zr2, zs2, zpw⟩ := Many.open hy
  clear hx hy
  simp only [Many.cs]
  go_enter Tryd.func21, Tryd.ntmps21
  go_wp2_with (fail)
  refine (eq_StringS x.names _ _ _ _ _ _ _ (r0.later (by (repeat (first | exact Below.refl _ _ | apply Below.drew | refine Below.alloc ?_ (by first | with_reducible exact Nat.le_refl _ | omega | (simp; done) | (simp; omega)) _)))) (zr0.later (by (repeat (first | exact Below.refl _ _ | apply Below.drew | refine Below.alloc ?_ (by first | with_reducible exact Nat.le_refl _ | omega | (simp; done) | (simp; omega)) _)))) (Nat.le_trans a0 b0)).mono ?_
  rintro e1 w1 ⟨rfl, hb1⟩
  have hB1 : Below w.heap.size w w1 := by refine Below.trans (b := _) ?_ (hb1.mono ?_) <;> first | (repeat (first | exact Below.refl _ _ | apply Below.drew | refine Below.alloc ?_ (by first | with_reducible exact Nat.le_refl _ | omega | (simp; done) | (simp; omega)) _)); done | (first | with_reducible exact Nat.le_refl _ | omega | (simp; done) | (simp; omega))
  have hz1 : w.heap.size + 2 ≤ w1.heap.size := by have := hb1.size; (try simp at this); omega
  have hc1 := fun o => hb1.cell (p := ⟨w.heap.size, o, none⟩) (by first | with_reducible exact Nat.le_refl _ | omega | (simp; done) | (simp; omega))
  have hd1 := fun o => hb1.cell (p := ⟨w.heap.size + 1, o, none⟩) (by first | with_reducible exact Nat.le_refl _ | omega | (simp; done) | (simp; omega))
  go_wp2_with (fail)
  refine (eq_LeafSS x.buckets _ _ _ _ _ _ _ (r1.later (by (repeat (first | exact hB1 | exact Below.refl _ _ | apply Below.drew | refine Below.alloc ?_ (by first | with_reducible exact Nat.le_refl _ | omega | (simp; done) | (simp; omega)) _)))) (zr1.later (by (repeat (first | exact hB1 | exact Below.refl _ _ | apply Below.drew | refine Below.alloc ?_ (by first | with_reducible exact Nat.le_refl _ | omega | (simp; done) | (simp; omega)) _)))) (Nat.le_trans a1 b1)).mono ?_
  rintro e2 w2 ⟨rfl, hb2⟩
  have hB2 : Below w.heap.size w w2 := by refine Below.trans (b := _) ?_ (hb2.mono ?_) <;> first | (repeat (first | exact hB1 | exact Below.refl _ _ | apply Below.drew | refine Below.alloc ?_ (by first | with_reducible exact Nat.le_refl _ | omega | (simp; done) | (simp; omega)) _)); done | (first | with_reducible exact Nat.le_refl _ | omega | (simp; done) | (simp; omega))
  have hz2 : w.heap.size + 2 ≤ w2.heap.size := by have := hb2.size; (try simp at this); omega
  have hc2 := fun o => hb2.cell (p := ⟨w.heap.size, o, none⟩) (by first | with_reducible exact Nat.le_refl _ | omega | (simp; done) | (simp; omega))
  have hd2 := fun o => hb2.cell (p := ⟨w.heap.size + 1, o, none⟩) (by first | with_reducible exact Nat.le_refl _ | omega | (simp; done) | (simp; omega))
  go_wp2_with (fail)
  refine (eq_StringS x.sides _ _ _ _ _ _ _ (r2.later (by (repeat (first | exact hB2 | exact Below.refl _ _ | apply Below.drew | refine Below.alloc ?_ (by first | with_reducible exact Nat.le_refl _ | omega | (simp; done) | (simp; omega)) _)))) (zr2.later (by (repeat (first | exact hB2 | exact Below.refl _ _ | apply Below.drew | refine Below.alloc ?_ (by first | with_reducible exact Nat.le_refl _ | omega | (simp; done) | (simp; omega)) _)))) (Nat.le_trans a2 b2)).mono ?_
  rintro e3 w3 ⟨rfl, hb3⟩
  have hB3 : Below w.heap.size w w3 := by refine Below.trans (b := _) ?_ (hb3.mono ?_) <;> first | (repeat (first | exact hB2 | exact Below.refl _ _ | apply Below.drew | refine Below.alloc ?_ (by first | with_reducible exact Nat.le_refl _ | omega | (simp; done) | (simp; omega)) _)); done | (first | with_reducible exact Nat.le_refl _ | omega | (simp; done) | (simp; omega))
  have hz3 : w.heap.size + 2 ≤ w3.heap.size := by have := hb3.size; (try simp at this); omega
  have hc3 := fun o => hb3.cell (p := ⟨w.heap.size, o, none⟩) (by first | with_reducible exact Nat.le_refl _ | omega | (simp; done) | (simp; omega))
  have hd3 := fun o => hb3.cell (p := ⟨w.heap.size + 1, o, none⟩) (by first | with_reducible exact Nat.le_refl _ | omega | (simp; done) | (simp; omega))
  go_wp2_with (fail)
  go_ret; exact ⟨rfl, by (repeat (first | exact hB3 | exact Below.refl _ _ | apply Below.drew | refine Below.alloc ?_ (by first | with_reducible exact Nat.le_refl _ | omega | (simp; done) | (simp; omega)) _))⟩
end Go.Proofs.YtojbehmbeoemgaaDoor
