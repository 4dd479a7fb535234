/- Walks of the laws' helpers that count sizes. Written by a program (gen_sz.py). -/
import Derived.Test.YtbnfkpbaaoknmaaDoorProg
import Derived.Test.YtbnfkpbaaoknmaaDoorTy
import Derived.Lib.Hide
set_option linter.unusedVariables false
set_option linter.unusedSimpArgs false
namespace Go.Proofs.YtbnfkpbaaoknmaaDoor
open Go.RowKit Lay Mk
set_option maxRecDepth 20000 in set_option maxHeartbeats 1000000 in
theorem sz_Head (x : Head) (w : World) (cs : List Value) (S : Blks) (left : Int) (hx : rd false w cs x S) (h0 : 0 ≤ left) (h1 : left ≤ 1048576) :
    Calls Tryd.prog 67 #[.agg cs.toArray, .int .i64 left] w fun e w' => (∃ n, e = .returned (.int .i64 n) ∧ SzR n left x.sz) ∧ Below w.heap.size w w' := by
  obtain ⟨rfl, f0, f1, f2, f3⟩ := Head.open hx
  clear hx
  unfold maxLen at f2 f3
  simp only [Head.cs]
  go_enter Tryd.func67, Tryd.ntmps67
  go_wp2_with (fail)
  all_goals (go_ret; refine ⟨⟨_, rfl, ?_⟩, by (repeat (first | exact Below.refl _ _ | apply Below.drew | refine Below.alloc ?_ (by first | with_reducible exact Nat.le_refl _ | omega | (simp; done) | (simp; omega)) _))⟩; first | exact .inl ⟨rfl, by (try simp only [Head.sz]) <;> omega⟩ | exact .inr ⟨by (try simp only [Head.sz]) <;> omega, by (try simp only [Head.sz]) <;> omega⟩)
set_option maxRecDepth 20000 in set_option maxHeartbeats 1000000 in
theorem sz_HeadS (xs : List Head) (w : World) (A : Option Addr) (cap : Nat) (S : Blks) (left : Int) (hx : Row false w A cap xs S) (hl : xs.length ≤ maxLen) (h0 : 0 ≤ left) (h1 : left ≤ 1048576) :
    Calls Tryd.prog 52 #[.slice A xs.length cap, .int .i64 left] w fun e w' => (∃ n, e = .returned (.int .i64 n) ∧ SzR n left (szL xs)) ∧ Below w.heap.size w w' := by
  unfold maxLen at hl
  have hall := szT_all xs
  go_enter Tryd.func52, Tryd.ntmps52
  go_wp2_with (fail)
  · go_ret; refine ⟨⟨_, rfl, ?_⟩, Below.refl _ _⟩; have := szT_le xs 0; exact .inl ⟨rfl, by omega⟩
  have HA := Lib.hid hall; clear hall
  go_loopw [1, 5] (fun l i wr => ∃ k : Nat, k ≤ xs.length ∧ i = .int .i64 k ∧ l = .int .i64 (left - xs.length - (szT xs k : Int)) ∧ 0 ≤ left - xs.length - (szT xs k : Int) ∧ Below w.heap.size w wr) (fun _ i _ => xs.length - (intOf i).toNat)
  case atStart => exact ⟨0, Nat.zero_le _, rfl, by rw [szT_zero]; simp, by rw [szT_zero]; omega, Below.refl _ _⟩
  case round =>
    obtain ⟨k, hk, rfl, rfl, hpos, hb⟩ := hrel
    have hz := hb.size
    by_cases hlt : k < xs.length
    · have hne : xs ≠ [] := by rintro rfl; simp at hlt
      obtain ⟨b1, o1, rfl, hS, T1, hT1, _, he1⟩ := hx hne
      obtain ⟨c1, ha1, hr1⟩ := he1 k hlt
      have hl1 := ha1.lt (by rintro rfl; have := Lay.len hr1; cases this)
      replace ha1 := ha1.keep (hb.block _ hl1)
      replace hr1 := Lay.later hr1 hb
      have hsu := szT_succ xs k hlt
      have hle := szT_le xs (k + 1)
      have hr2 := Lib.hid hr1
      obtain ⟨rfl, f0, f1, f2, f3⟩ := Head.open hr1
      have q0 := ha1 0 _ rfl
      have q1 := ha1 1 _ rfl
      have q2 := ha1 2 _ rfl
      have q3 := ha1 3 _ rfl
      simp only [show Lay.n Head = 4 from rfl, Nat.add_zero] at q0 q1 q2 q3
      have hse : Mk.sz xs[k] = xs[k].sz := rfl
      rw [hse] at hsu
      have HS := Lib.hid hsu; clear hsu hse hle ha1 he1
      go_wp2_with (fail)
      refine (sz_Head xs[k] _ (Head.cs xs[k]) _ _ (Lay.later hr2.out (by (repeat (first | exact Below.refl _ _ | apply Below.drew | refine Below.alloc ?_ (by first | with_reducible exact Nat.le_refl _ | omega | (simp; done) | (simp; omega)) _)))) (by omega) (by omega)).mono ?_
      rintro e1 w1 ⟨⟨n1, rfl, hn1⟩, hb1⟩
      have hB1 : Below w.heap.size w w1 := by refine Below.trans ?_ (hb1.mono ?_) <;> first | ((repeat (first | exact hb | exact Below.refl _ _ | apply Below.drew | refine Below.alloc ?_ (by first | with_reducible exact Nat.le_refl _ | omega | (simp; done) | (simp; omega)) _)); done) | (first | with_reducible exact Nat.le_refl _ | omega | (simp; done) | (simp; omega))
      rcases hn1 with ⟨rfl, hn1⟩ | ⟨rfl, hn1⟩
      · go_wp2
        go_ret; refine ⟨⟨_, rfl, ?_⟩, hB1⟩; have := HS.out; have := HA.out; have := szT_le xs (k + 1); exact .inl ⟨rfl, by omega⟩
      · go_wp2
        go_roundw
        case rel => exact ⟨k + 1, by omega, by go_num, by rw [HS.out]; congr 1; omega, by rw [HS.out]; omega, hB1⟩
        case measure => simp [intOf]; omega
    · have hke : k = xs.length := by omega
      go_wp2
      go_ret; refine ⟨⟨_, rfl, ?_⟩, hb⟩; have := HA.out; subst hke; exact .inr ⟨by omega, by omega⟩
set_option maxRecDepth 20000 in set_option maxHeartbeats 1000000 in
theorem sz_Client (x : Client) (w : World) (cs : List Value) (S : Blks) (left : Int) (hx : rd false w cs x S) (h0 : 0 ≤ left) (h1 : left ≤ 1048576) :
    Calls Tryd.prog 20 #[.agg cs.toArray, .int .i64 left] w fun e w' => (∃ n, e = .returned (.int .i64 n) ∧ SzR n left x.sz) ∧ Below w.heap.size w w' := by
  obtain ⟨A0, k0, S0, rfl, f0, a0, b0, r0, s0⟩ := Client.open hx
  clear hx
  simp only [Client.cs]
  go_enter Tryd.func20, Tryd.ntmps20
  go_wp2_with (fail)
  try any_goals (go_ret; refine ⟨⟨_, rfl, ?_⟩, by (repeat (first | exact Below.refl _ _ | apply Below.drew | refine Below.alloc ?_ (by first | with_reducible exact Nat.le_refl _ | omega | (simp; done) | (simp; omega)) _))⟩; first | exact .inl ⟨rfl, by (try simp only [Client.sz]) <;> omega⟩ | exact .inr ⟨by (try simp only [Client.sz]) <;> omega, by (try simp only [Client.sz]) <;> omega⟩)
  refine (sz_HeadS x.seen _ _ _ _ _ (r0.later (by (repeat (first | exact Below.refl _ _ | apply Below.drew | refine Below.alloc ?_ (by first | with_reducible exact Nat.le_refl _ | omega | (simp; done) | (simp; omega)) _)))) (Nat.le_trans a0 b0) (by omega) (by omega)).mono ?_
  rintro e1 w1 ⟨⟨n1, rfl, hn1⟩, hb1⟩
  have hB1 : Below w.heap.size w w1 := by refine Below.trans (b := _) ?_ (hb1.mono ?_) <;> first | (repeat (first | exact Below.refl _ _ | apply Below.drew | refine Below.alloc ?_ (by first | with_reducible exact Nat.le_refl _ | omega | (simp; done) | (simp; omega)) _)); done | (first | with_reducible exact Nat.le_refl _ | omega | (simp; done) | (simp; omega))
  have hz1 : w.heap.size + 1 ≤ w1.heap.size := by have := hb1.size; (try simp at this); omega
  have hc1 := fun o => hb1.cell (p := ⟨w.heap.size, o, none⟩) (by first | with_reducible exact Nat.le_refl _ | omega | (simp; done) | (simp; omega))
  rcases hn1 with ⟨rfl, hn1⟩ | ⟨rfl, hn1⟩
  · go_wp2_with (fail)
    (go_ret; refine ⟨⟨_, rfl, ?_⟩, by (repeat (first | exact hB1 | exact Below.refl _ _ | apply Below.drew | refine Below.alloc ?_ (by first | with_reducible exact Nat.le_refl _ | omega | (simp; done) | (simp; omega)) _))⟩; first | exact .inl ⟨rfl, by (try simp only [Client.sz]) <;> omega⟩ | exact .inr ⟨by (try simp only [Client.sz]) <;> omega, by (try simp only [Client.sz]) <;> omega⟩)
  go_wp2_with (fail)
  all_goals (go_ret; refine ⟨⟨_, rfl, ?_⟩, by (repeat (first | exact hB1 | exact Below.refl _ _ | apply Below.drew | refine Below.alloc ?_ (by first | with_reducible exact Nat.le_refl _ | omega | (simp; done) | (simp; omega)) _))⟩; first | exact .inl ⟨rfl, by (try simp only [Client.sz]) <;> omega⟩ | exact .inr ⟨by (try simp only [Client.sz]) <;> omega, by (try simp only [Client.sz]) <;> omega⟩)
set_option maxRecDepth 20000 in set_option maxHeartbeats 1000000 in
theorem sz_StringS (xs : List ByteArray) (w : World) (A : Option Addr) (cap : Nat) (S : Blks) (left : Int) (hx : Row false w A cap xs S) (hl : xs.length ≤ maxLen) (h0 : 0 ≤ left) (h1 : left ≤ 1048576) :
    Calls Tryd.prog 25 #[.slice A xs.length cap, .int .i64 left] w fun e w' => (∃ n, e = .returned (.int .i64 n) ∧ SzR n left (szL xs)) ∧ Below w.heap.size w w' := by
  unfold maxLen at hl
  have hall := szT_all xs
  go_enter Tryd.func25, Tryd.ntmps25
  go_wp2_with (fail)
  · go_ret; refine ⟨⟨_, rfl, ?_⟩, Below.refl _ _⟩; have := szT_le xs 0; exact .inl ⟨rfl, by omega⟩
  have HA := Lib.hid hall; clear hall
  go_loopw [1, 5] (fun l i wr => ∃ k : Nat, k ≤ xs.length ∧ i = .int .i64 k ∧ l = .int .i64 (left - xs.length - (szT xs k : Int)) ∧ 0 ≤ left - xs.length - (szT xs k : Int) ∧ Below w.heap.size w wr) (fun _ i _ => xs.length - (intOf i).toNat)
  case atStart => exact ⟨0, Nat.zero_le _, rfl, by rw [szT_zero]; simp, by rw [szT_zero]; omega, Below.refl _ _⟩
  case round =>
    obtain ⟨k, hk, rfl, rfl, hpos, hb⟩ := hrel
    have hz := hb.size
    by_cases hlt : k < xs.length
    · have hne : xs ≠ [] := by rintro rfl; simp at hlt
      obtain ⟨b1, o1, rfl, hS, T1, hT1, _, he1⟩ := hx hne
      obtain ⟨c1, ha1, hr1⟩ := he1 k hlt
      have hl1 := ha1.lt (by rintro rfl; have := Lay.len hr1; cases this)
      replace ha1 := ha1.keep (hb.block _ hl1)
      replace hr1 := Lay.later hr1 hb
      have hsu := szT_succ xs k hlt
      have hle := szT_le xs (k + 1)
      obtain ⟨rfl, g1⟩ := open_str hr1
      have f0 := ha1 0 _ rfl
      simp only [show Lay.n ByteArray = 1 from rfl, Nat.add_zero, Nat.mul_one] at f0
      unfold maxLen at g1
      have hse : Mk.sz xs[k] = xs[k].size := rfl
      rw [hse] at hsu
      have HS := Lib.hid hsu; clear hsu hse hle ha1 he1 hr1
      go_wp2
      · go_ret; refine ⟨⟨_, rfl, ?_⟩, hb⟩; have := HS.out; have := HA.out; have := szT_le xs (k + 1); exact .inl ⟨rfl, by omega⟩
      go_roundw
      case rel => exact ⟨k + 1, by omega, by go_num, by rw [HS.out]; congr 1; omega, by rw [HS.out]; omega, hb⟩
      case measure => simp [intOf]; omega
    · have hke : k = xs.length := by omega
      go_wp2
      go_ret; refine ⟨⟨_, rfl, ?_⟩, hb⟩; have := HA.out; subst hke; exact .inr ⟨by omega, by omega⟩
end Go.Proofs.YtbnfkpbaaoknmaaDoor
