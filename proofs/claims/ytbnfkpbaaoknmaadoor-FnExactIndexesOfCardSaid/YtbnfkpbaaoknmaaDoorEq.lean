/- Walks of the laws' helpers that compare. Written by a program (gen_eq.py). -/
import Derived.Test.YtbnfkpbaaoknmaaDoorProg
import Derived.Test.YtbnfkpbaaoknmaaDoorTy
import Derived.Lib.Hide
set_option linter.unusedVariables false
set_option linter.unusedSimpArgs false
namespace Go.Proofs.YtbnfkpbaaoknmaaDoor
open Go.RowKit Lay Mk
set_option maxRecDepth 20000 in set_option maxHeartbeats 1000000 in
theorem eq_Head (x : Head) (w : World) (c1 c2 : List Value) (S S' : Blks) (hx : rd false w c1 x S) (hy : rd false w c2 x S') :
    Calls Tryd.prog 73 #[.agg c1.toArray, .agg c2.toArray] w fun e w' => e = .returned (.bool true) ∧ Below w.heap.size w w' := by
  obtain ⟨rfl, f0, f1, f2, f3⟩ := Head.open hx
  obtain ⟨rfl, zf0, zf1, zf2, zf3⟩ := Head.open hy
  clear hx hy
  simp only [Head.cs]
  go_enter Tryd.func73, Tryd.ntmps73
  go_wp2_with (fail)
  go_ret; exact ⟨rfl, by (repeat (first | exact Below.refl _ _ | apply Below.drew | refine Below.alloc ?_ (by first | with_reducible exact Nat.le_refl _ | omega | (simp; done) | (simp; omega)) _))⟩
set_option maxRecDepth 20000 in set_option maxHeartbeats 1000000 in
theorem eq_HeadS (xs : List Head) (w : World) (A1 A2 : Option Addr) (d1 d2 : Nat) (S S' : Blks) (hx : Row false w A1 d1 xs S) (hy : Row false w A2 d2 xs S') (hl : xs.length ≤ maxLen) :
    Calls Tryd.prog 56 #[.slice A1 xs.length d1, .slice A2 xs.length d2] w fun e w' => e = .returned (.bool true) ∧ Below w.heap.size w w' := by
  unfold maxLen at hl
  go_enter Tryd.func56, Tryd.ntmps56
  go_wp2
  go_loopw [5] (fun i wr => ∃ k : Nat, k ≤ xs.length ∧ i = .int .i64 k ∧ Below w.heap.size w wr) (fun i _ => xs.length - (intOf i).toNat)
  case atStart => exact ⟨0, Nat.zero_le _, rfl, Below.refl _ _⟩
  case round =>
    obtain ⟨k, hk, rfl, hb⟩ := hrel
    have hz := hb.size
    by_cases hlt : k < xs.length
    · have hne : xs ≠ [] := by rintro rfl; simp at hlt
      obtain ⟨b1, o1, rfl, _, T1, _, _, he1⟩ := hx hne
      obtain ⟨c1, ha1, hr1⟩ := he1 k hlt
      have hl1 := ha1.lt (by rintro rfl; have := Lay.len hr1; cases this)
      replace ha1 := ha1.keep (hb.block _ hl1)
      replace hr1 := Lay.later hr1 hb
      obtain ⟨b2, o2, rfl, _, T2, _, _, he2⟩ := hy hne
      obtain ⟨c2, ha2, hr2⟩ := he2 k hlt
      have hl2 := ha2.lt (by rintro rfl; have := Lay.len hr2; cases this)
      replace ha2 := ha2.keep (hb.block _ hl2)
      replace hr2 := Lay.later hr2 hb
      have ht1 := Lib.hid hr1
      obtain ⟨rfl, f0, f1, f2, f3⟩ := Head.open hr1
      have q0 := ha1 0 _ rfl
      have q1 := ha1 1 _ rfl
      have q2 := ha1 2 _ rfl
      have q3 := ha1 3 _ rfl
      simp only [show Lay.n Head = 4 from rfl, Nat.add_zero] at q0 q1 q2 q3
      have ht2 := Lib.hid hr2
      obtain ⟨rfl, zf0, zf1, zf2, zf3⟩ := Head.open hr2
      have zq0 := ha2 0 _ rfl
      have zq1 := ha2 1 _ rfl
      have zq2 := ha2 2 _ rfl
      have zq3 := ha2 3 _ rfl
      simp only [show Lay.n Head = 4 from rfl, Nat.add_zero] at zq0 zq1 zq2 zq3
      clear he1 he2 ha1 ha2 hx hy
      go_wp2_with (fail)
      refine still_tail 8 (by kernel_rfl) (by kernel_rfl) ?_
      simp only [List.take_succ_cons, List.take_zero, List.drop_succ_cons, List.drop_zero]
      repeat still_step
      refine wpStill_nil ?_
      go_wp2_with (fail)
      refine (eq_Head xs[k] _ (Head.cs xs[k]) (Head.cs xs[k]) _ _ (Lay.later ht1.out (by (repeat (first | exact Below.refl _ _ | apply Below.drew | refine Below.alloc ?_ (by first | with_reducible exact Nat.le_refl _ | omega | (simp; done) | (simp; omega)) _)))) (Lay.later ht2.out (by (repeat (first | exact Below.refl _ _ | apply Below.drew | refine Below.alloc ?_ (by first | with_reducible exact Nat.le_refl _ | omega | (simp; done) | (simp; omega)) _))))).mono ?_
      rintro e1 w1 ⟨rfl, hb1⟩
      have hB1 : Below w.heap.size w w1 := by refine Below.trans ?_ (hb1.mono ?_) <;> first | ((repeat (first | exact hb | exact Below.refl _ _ | apply Below.drew | refine Below.alloc ?_ (by first | with_reducible exact Nat.le_refl _ | omega | (simp; done) | (simp; omega)) _)); done) | (first | with_reducible exact Nat.le_refl _ | omega | (simp; done) | (simp; omega))
      go_wp2
      go_roundw
      case rel => exact ⟨k + 1, by omega, by go_num, hB1⟩
      case measure => simp [intOf]; omega
    · go_wp2
      go_ret; exact ⟨rfl, hb⟩
set_option maxRecDepth 20000 in set_option maxHeartbeats 1000000 in
theorem eq_Client (x : Client) (w : World) (c1 c2 : List Value) (S S' : Blks) (hx : rd false w c1 x S) (hy : rd false w c2 x S') :
    Calls Tryd.prog 24 #[.agg c1.toArray, .agg c2.toArray] w fun e w' => e = .returned (.bool true) ∧ Below w.heap.size w w' := by
  obtain ⟨A0, k0, S0, rfl, f0, a0, b0, r0, s0⟩ := Client.open hx
  obtain ⟨zA0, zk0, zS0, rfl, zf0, za0, zb0, zr0, zs0⟩ := Client.open hy
  clear hx hy
  simp only [Client.cs]
  go_enter Tryd.func24, Tryd.ntmps24
  go_wp2_with (fail)
  refine (eq_HeadS x.seen _ _ _ _ _ _ _ (r0.later (by (repeat (first | exact Below.refl _ _ | apply Below.drew | refine Below.alloc ?_ (by first | with_reducible exact Nat.le_refl _ | omega | (simp; done) | (simp; omega)) _)))) (zr0.later (by (repeat (first | exact Below.refl _ _ | apply Below.drew | refine Below.alloc ?_ (by first | with_reducible exact Nat.le_refl _ | omega | (simp; done) | (simp; omega)) _)))) (Nat.le_trans a0 b0)).mono ?_
  rintro e1 w1 ⟨rfl, hb1⟩
  have hB1 : Below w.heap.size w w1 := by refine Below.trans (b := _) ?_ (hb1.mono ?_) <;> first | (repeat (first | exact Below.refl _ _ | apply Below.drew | refine Below.alloc ?_ (by first | with_reducible exact Nat.le_refl _ | omega | (simp; done) | (simp; omega)) _)); done | (first | with_reducible exact Nat.le_refl _ | omega | (simp; done) | (simp; omega))
  have hz1 : w.heap.size + 2 ≤ w1.heap.size := by have := hb1.size; (try simp at this); omega
  have hc1 := fun o => hb1.cell (p := ⟨w.heap.size, o, none⟩) (by first | with_reducible exact Nat.le_refl _ | omega | (simp; done) | (simp; omega))
  have hd1 := fun o => hb1.cell (p := ⟨w.heap.size + 1, o, none⟩) (by first | with_reducible exact Nat.le_refl _ | omega | (simp; done) | (simp; omega))
  go_wp2_with (fail)
  go_ret; exact ⟨rfl, by (repeat (first | exact hB1 | exact Below.refl _ _ | apply Below.drew | refine Below.alloc ?_ (by first | with_reducible exact Nat.le_refl _ | omega | (simp; done) | (simp; omega)) _))⟩
set_option maxRecDepth 20000 in set_option maxHeartbeats 1000000 in
theorem eq_IntS (xs : List Int) (w : World) (A1 A2 : Option Addr) (d1 d2 : Nat) (S S' : Blks) (hx : Row false w A1 d1 xs S) (hy : Row false w A2 d2 xs S') (hl : xs.length ≤ maxLen) :
    Calls Tryd.prog 29 #[.slice A1 xs.length d1, .slice A2 xs.length d2] w fun e w' => e = .returned (.bool true) ∧ Below w.heap.size w w' := by
  unfold maxLen at hl
  go_enter Tryd.func29, Tryd.ntmps29
  go_wp2
  go_loopw [5] (fun i wr => ∃ k : Nat, k ≤ xs.length ∧ i = .int .i64 k ∧ Below w.heap.size w wr) (fun i _ => xs.length - (intOf i).toNat)
  case atStart => exact ⟨0, Nat.zero_le _, rfl, Below.refl _ _⟩
  case round =>
    obtain ⟨k, hk, rfl, hb⟩ := hrel
    have hz := hb.size
    by_cases hlt : k < xs.length
    · have hne : xs ≠ [] := by rintro rfl; simp at hlt
      obtain ⟨b1, o1, rfl, _, T1, _, _, he1⟩ := hx hne
      obtain ⟨c1, ha1, hr1⟩ := he1 k hlt
      have hl1 := ha1.lt (by rintro rfl; have := Lay.len hr1; cases this)
      replace ha1 := ha1.keep (hb.block _ hl1)
      replace hr1 := Lay.later hr1 hb
      obtain ⟨b2, o2, rfl, _, T2, _, _, he2⟩ := hy hne
      obtain ⟨c2, ha2, hr2⟩ := he2 k hlt
      have hl2 := ha2.lt (by rintro rfl; have := Lay.len hr2; cases this)
      replace ha2 := ha2.keep (hb.block _ hl2)
      replace hr2 := Lay.later hr2 hb
      obtain ⟨rfl, _⟩ := open_int hr1
      have f1 := ha1 0 _ rfl; clear hr1
      simp only [show Lay.n Int = 1 from rfl, Nat.add_zero, Nat.mul_one] at f1
      obtain ⟨rfl, _⟩ := open_int hr2
      have f2 := ha2 0 _ rfl; clear hr2
      simp only [show Lay.n Int = 1 from rfl, Nat.add_zero, Nat.mul_one] at f2
      clear he1 he2 ha1 ha2 hx hy
      go_wp2_with (fail)
      refine still_tail 8 (by kernel_rfl) (by kernel_rfl) ?_
      simp only [List.take_succ_cons, List.take_zero, List.drop_succ_cons, List.drop_zero]
      repeat still_step
      refine wpStill_nil ?_
      go_wp2
      go_roundw
      case rel => exact ⟨k + 1, by omega, by go_num, by (repeat (first | exact hb | exact Below.refl _ _ | apply Below.drew | refine Below.alloc ?_ (by first | with_reducible exact Nat.le_refl _ | omega | (simp; done) | (simp; omega)) _))⟩
      case measure => simp [intOf]; omega
    · go_wp2
      go_ret; exact ⟨rfl, hb⟩
set_option maxRecDepth 20000 in set_option maxHeartbeats 1000000 in
theorem eq_StringS (xs : List ByteArray) (w : World) (A1 A2 : Option Addr) (d1 d2 : Nat) (S S' : Blks) (hx : Row false w A1 d1 xs S) (hy : Row false w A2 d2 xs S') (hl : xs.length ≤ maxLen) :
    Calls Tryd.prog 30 #[.slice A1 xs.length d1, .slice A2 xs.length d2] w fun e w' => e = .returned (.bool true) ∧ Below w.heap.size w w' := by
  unfold maxLen at hl
  go_enter Tryd.func30, Tryd.ntmps30
  go_wp2
  go_loopw [5] (fun i wr => ∃ k : Nat, k ≤ xs.length ∧ i = .int .i64 k ∧ Below w.heap.size w wr) (fun i _ => xs.length - (intOf i).toNat)
  case atStart => exact ⟨0, Nat.zero_le _, rfl, Below.refl _ _⟩
  case round =>
    obtain ⟨k, hk, rfl, hb⟩ := hrel
    have hz := hb.size
    by_cases hlt : k < xs.length
    · have hne : xs ≠ [] := by rintro rfl; simp at hlt
      obtain ⟨b1, o1, rfl, _, T1, _, _, he1⟩ := hx hne
      obtain ⟨c1, ha1, hr1⟩ := he1 k hlt
      have hl1 := ha1.lt (by rintro rfl; have := Lay.len hr1; cases this)
      replace ha1 := ha1.keep (hb.block _ hl1)
      replace hr1 := Lay.later hr1 hb
      obtain ⟨b2, o2, rfl, _, T2, _, _, he2⟩ := hy hne
      obtain ⟨c2, ha2, hr2⟩ := he2 k hlt
      have hl2 := ha2.lt (by rintro rfl; have := Lay.len hr2; cases this)
      replace ha2 := ha2.keep (hb.block _ hl2)
      replace hr2 := Lay.later hr2 hb
      obtain ⟨rfl, _⟩ := open_str hr1
      have f1 := ha1 0 _ rfl; clear hr1
      simp only [show Lay.n ByteArray = 1 from rfl, Nat.add_zero, Nat.mul_one] at f1
      obtain ⟨rfl, _⟩ := open_str hr2
      have f2 := ha2 0 _ rfl; clear hr2
      simp only [show Lay.n ByteArray = 1 from rfl, Nat.add_zero, Nat.mul_one] at f2
      clear he1 he2 ha1 ha2 hx hy
      go_wp2_with (fail)
      refine still_tail 8 (by kernel_rfl) (by kernel_rfl) ?_
      simp only [List.take_succ_cons, List.take_zero, List.drop_succ_cons, List.drop_zero]
      repeat still_step
      refine wpStill_nil ?_
      go_wp2
      go_roundw
      case rel => exact ⟨k + 1, by omega, by go_num, by (repeat (first | exact hb | exact Below.refl _ _ | apply Below.drew | refine Below.alloc ?_ (by first | with_reducible exact Nat.le_refl _ | omega | (simp; done) | (simp; omega)) _))⟩
      case measure => simp [intOf]; omega
    · go_wp2
      go_ret; exact ⟨rfl, hb⟩
end Go.Proofs.YtbnfkpbaaoknmaaDoor
