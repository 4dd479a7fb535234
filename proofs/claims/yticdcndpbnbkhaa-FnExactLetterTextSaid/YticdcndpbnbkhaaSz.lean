/- Walks of the laws' helpers that count sizes. Written by a program (gen_sz.py). -/
import Derived.Test.YticdcndpbnbkhaaProg
import Derived.Test.YticdcndpbnbkhaaTy
import Derived.Lib.Hide
namespace Go.Proofs.Yticdcndpbnbkhaa
open Go.RowKit Lay Mk
set_option maxRecDepth 20000 in set_option maxHeartbeats 1000000 in
theorem sz_Letter (x : Letter) (w : World) (cs : List Value) (S : Blks) (left : Int) (hx : rd false w cs x S) (h0 : 0 ≤ left) (h1 : left ≤ 1048576) :
    Calls Try.prog 11 #[.agg cs.toArray, .int .i64 left] w fun e w' => (∃ n, e = .returned (.int .i64 n) ∧ SzR n left x.sz) ∧ Below w.heap.size w w' := by
  obtain ⟨rfl, f0, f1, f2, f3, f4, f5⟩ := Letter.open hx
  clear hx
  unfold maxLen at f5
  simp only [Letter.cs]
  go_enter Try.func11, Try.ntmps11
  go_wp2_with (fail)
  all_goals (go_ret; refine ⟨⟨_, rfl, ?_⟩, by (repeat (first | exact Below.refl _ _ | apply Below.drew | refine Below.alloc ?_ (by first | with_reducible exact Nat.le_refl _ | omega | (simp; done) | (simp; omega)) _))⟩; first | exact .inl ⟨rfl, by (try simp only [Letter.sz]) <;> omega⟩ | exact .inr ⟨by (try simp only [Letter.sz]) <;> omega, by (try simp only [Letter.sz]) <;> omega⟩)
set_option maxRecDepth 20000 in set_option maxHeartbeats 1000000 in
theorem sz_Change (x : Change) (w : World) (cs : List Value) (S : Blks) (left : Int) (hx : rd false w cs x S) (h0 : 0 ≤ left) (h1 : left ≤ 1048576) :
    Calls Try.prog 15 #[.agg cs.toArray, .int .i64 left] w fun e w' => (∃ n, e = .returned (.int .i64 n) ∧ SzR n left x.sz) ∧ Below w.heap.size w w' := by
  obtain ⟨rfl, f0, f1, f2⟩ := Change.open hx
  clear hx
  unfold maxLen at f1 f2
  simp only [Change.cs]
  go_enter Try.func15, Try.ntmps15
  go_wp2_with (fail)
  all_goals (go_ret; refine ⟨⟨_, rfl, ?_⟩, by (repeat (first | exact Below.refl _ _ | apply Below.drew | refine Below.alloc ?_ (by first | with_reducible exact Nat.le_refl _ | omega | (simp; done) | (simp; omega)) _))⟩; first | exact .inl ⟨rfl, by (try simp only [Change.sz]) <;> omega⟩ | exact .inr ⟨by (try simp only [Change.sz]) <;> omega, by (try simp only [Change.sz]) <;> omega⟩)
set_option maxRecDepth 20000 in set_option maxHeartbeats 1000000 in
theorem sz_Move (x : Move) (w : World) (cs : List Value) (S : Blks) (left : Int) (hx : rd false w cs x S) (h0 : 0 ≤ left) (h1 : left ≤ 1048576) :
    Calls Try.prog 26 #[.agg cs.toArray, .int .i64 left] w fun e w' => (∃ n, e = .returned (.int .i64 n) ∧ SzR n left x.sz) ∧ Below w.heap.size w w' := by
  obtain ⟨rfl, f0, f1, f2, f3, f4, f5⟩ := Move.open hx
  clear hx
  unfold maxLen at f4 f5
  simp only [Move.cs]
  go_enter Try.func26, Try.ntmps26
  go_wp2_with (fail)
  try any_goals (go_ret; refine ⟨⟨_, rfl, ?_⟩, by (repeat (first | exact Below.refl _ _ | apply Below.drew | refine Below.alloc ?_ (by first | with_reducible exact Nat.le_refl _ | omega | (simp; done) | (simp; omega)) _))⟩; first | exact .inl ⟨rfl, by (try simp only [Move.sz]) <;> omega⟩ | exact .inr ⟨by (try simp only [Move.sz]) <;> omega, by (try simp only [Move.sz]) <;> omega⟩)
  refine (sz_Change x.change _ _ _ _ (Change.mk' (m := false) (S := S) f3 f4 f5) (by omega) (by omega)).mono ?_
  rintro e1 w1 ⟨⟨n1, rfl, hn1⟩, hb1⟩
  have hB1 : Below w.heap.size w w1 := by refine Below.trans (b := _) ?_ (hb1.mono ?_) <;> first | (repeat (first | exact Below.refl _ _ | apply Below.drew | refine Below.alloc ?_ (by first | with_reducible exact Nat.le_refl _ | omega | (simp; done) | (simp; omega)) _)); done | (first | with_reducible exact Nat.le_refl _ | omega | (simp; done) | (simp; omega))
  have hz1 : w.heap.size + 1 ≤ w1.heap.size := by have := hb1.size; (try simp at this); omega
  have hc1 := fun o => hb1.cell (p := ⟨w.heap.size, o, none⟩) (by first | with_reducible exact Nat.le_refl _ | omega | (simp; done) | (simp; omega))
  rcases hn1 with ⟨rfl, hn1⟩ | ⟨rfl, hn1⟩
  · go_wp2_with (fail)
    (go_ret; refine ⟨⟨_, rfl, ?_⟩, by (repeat (first | exact hB1 | exact Below.refl _ _ | apply Below.drew | refine Below.alloc ?_ (by first | with_reducible exact Nat.le_refl _ | omega | (simp; done) | (simp; omega)) _))⟩; first | exact .inl ⟨rfl, by (try simp only [Move.sz]) <;> omega⟩ | exact .inr ⟨by (try simp only [Move.sz]) <;> omega, by (try simp only [Move.sz]) <;> omega⟩)
  go_wp2_with (fail)
  all_goals (go_ret; refine ⟨⟨_, rfl, ?_⟩, by (repeat (first | exact hB1 | exact Below.refl _ _ | apply Below.drew | refine Below.alloc ?_ (by first | with_reducible exact Nat.le_refl _ | omega | (simp; done) | (simp; omega)) _))⟩; first | exact .inl ⟨rfl, by (try simp only [Move.sz]) <;> omega⟩ | exact .inr ⟨by (try simp only [Move.sz]) <;> omega, by (try simp only [Move.sz]) <;> omega⟩)
set_option maxRecDepth 20000 in set_option maxHeartbeats 1000000 in
theorem sz_StringS (xs : List ByteArray) (w : World) (A : Option Addr) (cap : Nat) (S : Blks) (left : Int) (hx : Row false w A cap xs S) (hl : xs.length ≤ maxLen) (h0 : 0 ≤ left) (h1 : left ≤ 1048576) :
    Calls Try.prog 30 #[.slice A xs.length cap, .int .i64 left] w fun e w' => (∃ n, e = .returned (.int .i64 n) ∧ SzR n left (szL xs)) ∧ Below w.heap.size w w' := by
  unfold maxLen at hl
  have hall := szT_all xs
  go_enter Try.func30, Try.ntmps30
  go_wp2_with (fail)
  · go_ret; refine ⟨⟨_, rfl, ?_⟩, Below.refl _ _⟩; have := szT_le xs 0; exact .inl ⟨rfl, by omega⟩
  have HA := Lib.hid hall; clear hall
  go_loopw [1, 5] (fun l i wr => ∃ k : Nat, k ≤ xs.length ∧ i = .int .i64 k ∧ l = .int .i64 (left - xs.length - (szT xs k : Int)) ∧ 0 ≤ left - xs.length - (szT xs k : Int) ∧ Below w.heap.size w wr) (fun _ i _ => xs.length - (intOf i).toNat)
  case atStart => exact ⟨0, Nat.zero_le _, rfl, by rw [szT_zero]; simp, by rw [szT_zero]; omega, Below.refl _ _⟩
  case round =>
    obtain ⟨k, hk, rfl, rfl, hpos, hb⟩ := hrel
    have hz := hb.size
    by_cases hlt : k < xs.length
    · have hne : xs ≠ [] := by rintro rfl; simp at hlt
      obtain ⟨b1, o1, rfl, hS, T1, hT1, _, he1⟩ := hx hne
      obtain ⟨c1, ha1, hr1⟩ := he1 k hlt
      have hl1 := ha1.lt (by rintro rfl; have := Lay.len hr1; cases this)
      replace ha1 := ha1.keep (hb.block _ hl1)
      replace hr1 := Lay.later hr1 hb
      have hsu := szT_succ xs k hlt
      have hle := szT_le xs (k + 1)
      obtain ⟨rfl, g1⟩ := open_str hr1
      have f0 := ha1 0 _ rfl
      simp only [show Lay.n ByteArray = 1 from rfl, Nat.add_zero, Nat.mul_one] at f0
      unfold maxLen at g1
      have hse : Mk.sz xs[k] = xs[k].size := rfl
      rw [hse] at hsu
      have HS := Lib.hid hsu; clear hsu hse hle ha1 he1 hr1
      go_wp2
      · go_ret; refine ⟨⟨_, rfl, ?_⟩, hb⟩; have := HS.out; have := HA.out; have := szT_le xs (k + 1); exact .inl ⟨rfl, by omega⟩
      go_roundw
      case rel => exact ⟨k + 1, by omega, by go_num, by rw [HS.out]; congr 1; omega, by rw [HS.out]; omega, hb⟩
      case measure => simp [intOf]; omega
    · have hke : k = xs.length := by omega
      go_wp2
      go_ret; refine ⟨⟨_, rfl, ?_⟩, hb⟩; have := HA.out; subst hke; exact .inr ⟨by omega, by omega⟩
set_option maxRecDepth 20000 in set_option maxHeartbeats 1000000 in
theorem sz_Event (x : Event) (w : World) (cs : List Value) (S : Blks) (left : Int) (hx : rd false w cs x S) (h0 : 0 ≤ left) (h1 : left ≤ 1048576) :
    Calls Try.prog 41 #[.agg cs.toArray, .int .i64 left] w fun e w' => (∃ n, e = .returned (.int .i64 n) ∧ SzR n left x.sz) ∧ Below w.heap.size w w' := by
  obtain ⟨rfl, f0, f1, f2, f3, f4, f5, f6, f7, f8, f9⟩ := Event.open hx
  clear hx
  unfold maxLen at f7 f8 f9
  simp only [Event.cs]
  go_enter Try.func41, Try.ntmps41
  go_wp2_with (fail)
  try any_goals (go_ret; refine ⟨⟨_, rfl, ?_⟩, by (repeat (first | exact Below.refl _ _ | apply Below.drew | refine Below.alloc ?_ (by first | with_reducible exact Nat.le_refl _ | omega | (simp; done) | (simp; omega)) _))⟩; first | exact .inl ⟨rfl, by (try simp only [Event.sz]) <;> omega⟩ | exact .inr ⟨by (try simp only [Event.sz]) <;> omega, by (try simp only [Event.sz]) <;> omega⟩)
  refine (sz_Move x.move _ _ _ _ (Move.mk' (m := false) (S := S) f3 f4 f5 f6 f7 f8) (by omega) (by omega)).mono ?_
  rintro e1 w1 ⟨⟨n1, rfl, hn1⟩, hb1⟩
  have hB1 : Below w.heap.size w w1 := by refine Below.trans (b := _) ?_ (hb1.mono ?_) <;> first | (repeat (first | exact Below.refl _ _ | apply Below.drew | refine Below.alloc ?_ (by first | with_reducible exact Nat.le_refl _ | omega | (simp; done) | (simp; omega)) _)); done | (first | with_reducible exact Nat.le_refl _ | omega | (simp; done) | (simp; omega))
  have hz1 : w.heap.size + 1 ≤ w1.heap.size := by have := hb1.size; (try simp at this); omega
  have hc1 := fun o => hb1.cell (p := ⟨w.heap.size, o, none⟩) (by first | with_reducible exact Nat.le_refl _ | omega | (simp; done) | (simp; omega))
  rcases hn1 with ⟨rfl, hn1⟩ | ⟨rfl, hn1⟩
  · go_wp2_with (fail)
    (go_ret; refine ⟨⟨_, rfl, ?_⟩, by (repeat (first | exact hB1 | exact Below.refl _ _ | apply Below.drew | refine Below.alloc ?_ (by first | with_reducible exact Nat.le_refl _ | omega | (simp; done) | (simp; omega)) _))⟩; first | exact .inl ⟨rfl, by (try simp only [Event.sz]) <;> omega⟩ | exact .inr ⟨by (try simp only [Event.sz]) <;> omega, by (try simp only [Event.sz]) <;> omega⟩)
  go_wp2_with (fail)
  all_goals (go_ret; refine ⟨⟨_, rfl, ?_⟩, by (repeat (first | exact hB1 | exact Below.refl _ _ | apply Below.drew | refine Below.alloc ?_ (by first | with_reducible exact Nat.le_refl _ | omega | (simp; done) | (simp; omega)) _))⟩; first | exact .inl ⟨rfl, by (try simp only [Event.sz]) <;> omega⟩ | exact .inr ⟨by (try simp only [Event.sz]) <;> omega, by (try simp only [Event.sz]) <;> omega⟩)
end Go.Proofs.Yticdcndpbnbkhaa
