/- Walks of the law's helpers: those that this law needs. -/
import Derived.Test.YtojbehmbeoemgaaDoorProg
import Derived.Test.YtojbehmbeoemgaaDoorB1
import Derived.Lib.Hide
set_option linter.unusedVariables false
set_option linter.unusedSimpArgs false
namespace Go.Proofs.YtojbehmbeoemgaaDoor
open Go.RowKit Lay Mk
set_option maxRecDepth 20000 in set_option maxHeartbeats 1000000 in
theorem sz_StringS (xs : List ByteArray) (w : World) (A : Option Addr) (cap : Nat) (S : Blks) (left : Int) (hx : Row false w A cap xs S) (hl : xs.length ≤ maxLen) (h0 : 0 ≤ left) (h1 : left ≤ 1048576) :
    Calls Tryd.prog 34 #[.slice A xs.length cap, .int .i64 left] w fun e w' => (∃ n, e = .returned (.int .i64 n) ∧ SzR n left (szL xs)) ∧ Below w.heap.size w w' := by
  unfold maxLen at hl
  have hall := szT_all xs
  go_enter Tryd.func34, Tryd.ntmps34
  go_wp2_with (fail)
  · go_ret; refine ⟨⟨_, rfl, ?_⟩, Below.refl _ _⟩; have := szT_le xs 0; exact .inl ⟨rfl, by omega⟩
  have HA := Lib.hid hall; clear hall
  go_loopw [1, 5] (fun l i wr => ∃ k : Nat, k ≤ xs.length ∧ i = .int .i64 k ∧ l = .int .i64 (left - xs.length - (szT xs k : Int)) ∧ 0 ≤ left - xs.length - (szT xs k : Int) ∧ Below w.heap.size w wr) (fun _ i _ => xs.length - (intOf i).toNat)
  case atStart => exact ⟨0, Nat.zero_le _, rfl, by rw [szT_zero]; simp, by rw [szT_zero]; omega, Below.refl _ _⟩
  case round =>
    obtain ⟨k, hk, rfl, rfl, hpos, hb⟩ := hrel
    have hz := hb.size
    by_cases hlt : k < xs.length
    · have hne : xs ≠ [] := by rintro rfl; simp at hlt
      obtain ⟨b1, o1, rfl, hS, T1, hT1, _, he1⟩ := hx hne
      obtain ⟨c1, ha1, hr1⟩ := he1 k hlt
      have hl1 := ha1.lt (by rintro rfl; have := Lay.len hr1; cases this)
      replace ha1 := ha1.keep (hb.block _ hl1)
      replace hr1 := Lay.later hr1 hb
      have hsu := szT_succ xs k hlt
      have hle := szT_le xs (k + 1)
      obtain ⟨rfl, g1⟩ := open_str hr1
      have f0 := ha1 0 _ rfl
      simp only [show Lay.n ByteArray = 1 from rfl, Nat.add_zero, Nat.mul_one] at f0
      unfold maxLen at g1
      have hse : Mk.sz xs[k] = xs[k].size := rfl
      rw [hse] at hsu
      have HS := Lib.hid hsu; clear hsu hse hle ha1 he1 hr1
      go_wp2
      · go_ret; refine ⟨⟨_, rfl, ?_⟩, hb⟩; have := HS.out; have := HA.out; have := szT_le xs (k + 1); exact .inl ⟨rfl, by omega⟩
      go_roundw
      case rel => exact ⟨k + 1, by omega, by go_num, by rw [HS.out]; congr 1; omega, by rw [HS.out]; omega, hb⟩
      case measure => simp [intOf]; omega
    · have hke : k = xs.length := by omega
      go_wp2
      go_ret; refine ⟨⟨_, rfl, ?_⟩, hb⟩; have := HA.out; subst hke; exact .inr ⟨by omega, by omega⟩
set_option maxRecDepth 20000 in set_option maxHeartbeats 1000000 in
theorem sz_Leaf (x : Leaf) (w : World) (cs : List Value) (S : Blks) (left : Int) (hx : rd false w cs x S) (h0 : 0 ≤ left) (h1 : left ≤ 1048576) :
    Calls Tryd.prog 87 #[.agg cs.toArray, .int .i64 left] w fun e w' => (∃ n, e = .returned (.int .i64 n) ∧ SzR n left x.sz) ∧ Below w.heap.size w w' := by
  obtain ⟨rfl, f0, f1⟩ := Leaf.open hx
  clear hx
  unfold maxLen at f0 f1
  simp only [Leaf.cs]
  go_enter Tryd.func87, Tryd.ntmps87
  go_wp2_with (fail)
  all_goals (go_ret; refine ⟨⟨_, rfl, ?_⟩, by (repeat (first | exact Below.refl _ _ | apply Below.drew | refine Below.alloc ?_ (by first | with_reducible exact Nat.le_refl _ | omega | (simp; done) | (simp; omega)) _))⟩; first | exact .inl ⟨rfl, by (try simp only [Leaf.sz]) <;> omega⟩ | exact .inr ⟨by (try simp only [Leaf.sz]) <;> omega, by (try simp only [Leaf.sz]) <;> omega⟩)
set_option maxRecDepth 20000 in set_option maxHeartbeats 1000000 in
theorem sz_LeafS (xs : List Leaf) (w : World) (A : Option Addr) (cap : Nat) (S : Blks) (left : Int) (hx : Row false w A cap xs S) (hl : xs.length ≤ maxLen) (h0 : 0 ≤ left) (h1 : left ≤ 1048576) :
    Calls Tryd.prog 33 #[.slice A xs.length cap, .int .i64 left] w fun e w' => (∃ n, e = .returned (.int .i64 n) ∧ SzR n left (szL xs)) ∧ Below w.heap.size w w' := by
  unfold maxLen at hl
  have hall := szT_all xs
  go_enter Tryd.func33, Tryd.ntmps33
  go_wp2_with (fail)
  · go_ret; refine ⟨⟨_, rfl, ?_⟩, Below.refl _ _⟩; have := szT_le xs 0; exact .inl ⟨rfl, by omega⟩
  have HA := Lib.hid hall; clear hall
  go_loopw [1, 5] (fun l i wr => ∃ k : Nat, k ≤ xs.length ∧ i = .int .i64 k ∧ l = .int .i64 (left - xs.length - (szT xs k : Int)) ∧ 0 ≤ left - xs.length - (szT xs k : Int) ∧ Below w.heap.size w wr) (fun _ i _ => xs.length - (intOf i).toNat)
  case atStart => exact ⟨0, Nat.zero_le _, rfl, by rw [szT_zero]; simp, by rw [szT_zero]; omega, Below.refl _ _⟩
  case round =>
    obtain ⟨k, hk, rfl, rfl, hpos, hb⟩ := hrel
    have hz := hb.size
    by_cases hlt : k < xs.length
    · have hne : xs ≠ [] := by rintro rfl; simp at hlt
      obtain ⟨b1, o1, rfl, hS, T1, hT1, _, he1⟩ := hx hne
      obtain ⟨c1, ha1, hr1⟩ := he1 k hlt
      have hl1 := ha1.lt (by rintro rfl; have := Lay.len hr1; cases this)
      replace ha1 := ha1.keep (hb.block _ hl1)
      replace hr1 := Lay.later hr1 hb
      have hsu := szT_succ xs k hlt
      have hle := szT_le xs (k + 1)
      have hr2 := Lib.hid hr1
      obtain ⟨rfl, f0, f1⟩ := Leaf.open hr1
      have q0 := ha1 0 _ rfl
      have q1 := ha1 1 _ rfl
      simp only [show Lay.n Leaf = 2 from rfl, Nat.add_zero] at q0 q1
      have hse : Mk.sz xs[k] = xs[k].sz := rfl
      rw [hse] at hsu
      have HS := Lib.hid hsu; clear hsu hse hle ha1 he1
      go_wp2_with (fail)
      refine (sz_Leaf xs[k] _ (Leaf.cs xs[k]) _ _ (Lay.later hr2.out (by (repeat (first | exact Below.refl _ _ | apply Below.drew | refine Below.alloc ?_ (by first | with_reducible exact Nat.le_refl _ | omega | (simp; done) | (simp; omega)) _)))) (by omega) (by omega)).mono ?_
      rintro e1 w1 ⟨⟨n1, rfl, hn1⟩, hb1⟩
      have hB1 : Below w.heap.size w w1 := by refine Below.trans ?_ (hb1.mono ?_) <;> first | ((repeat (first | exact hb | exact Below.refl _ _ | apply Below.drew | refine Below.alloc ?_ (by first | with_reducible exact Nat.le_refl _ | omega | (simp; done) | (simp; omega)) _)); done) | (first | with_reducible exact Nat.le_refl _ | omega | (simp; done) | (simp; omega))
      rcases hn1 with ⟨rfl, hn1⟩ | ⟨rfl, hn1⟩
      · go_wp2
        go_ret; refine ⟨⟨_, rfl, ?_⟩, hB1⟩; have := HS.out; have := HA.out; have := szT_le xs (k + 1); exact .inl ⟨rfl, by omega⟩
      · go_wp2
        go_roundw
        case rel => exact ⟨k + 1, by omega, by go_num, by rw [HS.out]; congr 1; omega, by rw [HS.out]; omega, hB1⟩
        case measure => simp [intOf]; omega
    · have hke : k = xs.length := by omega
      go_wp2
      go_ret; refine ⟨⟨_, rfl, ?_⟩, hb⟩; have := HA.out; subst hke; exact .inr ⟨by omega, by omega⟩
set_option maxRecDepth 20000 in set_option maxHeartbeats 1000000 in
theorem sz_LeafSS (xs : List (List Leaf)) (w : World) (A : Option Addr) (cap : Nat) (S : Blks) (left : Int) (hx : Row false w A cap xs S) (hl : xs.length ≤ maxLen) (h0 : 0 ≤ left) (h1 : left ≤ 1048576) :
    Calls Tryd.prog 58 #[.slice A xs.length cap, .int .i64 left] w fun e w' => (∃ n, e = .returned (.int .i64 n) ∧ SzR n left (szL xs)) ∧ Below w.heap.size w w' := by
  unfold maxLen at hl
  have hall := szT_all xs
  go_enter Tryd.func58, Tryd.ntmps58
  go_wp2_with (fail)
  · go_ret; refine ⟨⟨_, rfl, ?_⟩, Below.refl _ _⟩; have := szT_le xs 0; exact .inl ⟨rfl, by omega⟩
  have HA := Lib.hid hall; clear hall
  go_loopw [1, 5] (fun l i wr => ∃ k : Nat, k ≤ xs.length ∧ i = .int .i64 k ∧ l = .int .i64 (left - xs.length - (szT xs k : Int)) ∧ 0 ≤ left - xs.length - (szT xs k : Int) ∧ Below w.heap.size w wr) (fun _ i _ => xs.length - (intOf i).toNat)
  case atStart => exact ⟨0, Nat.zero_le _, rfl, by rw [szT_zero]; simp, by rw [szT_zero]; omega, Below.refl _ _⟩
  case round =>
    obtain ⟨k, hk, rfl, rfl, hpos, hb⟩ := hrel
    have hz := hb.size
    by_cases hlt : k < xs.length
    · have hne : xs ≠ [] := by rintro rfl; simp at hlt
      obtain ⟨b1, o1, rfl, hS, T1, hT1, _, he1⟩ := hx hne
      obtain ⟨c1, ha1, hr1⟩ := he1 k hlt
      have hl1 := ha1.lt (by rintro rfl; have := Lay.len hr1; cases this)
      replace ha1 := ha1.keep (hb.block _ hl1)
      replace hr1 := Lay.later hr1 hb
      have hsu := szT_succ xs k hlt
      have hle := szT_le xs (k + 1)
      obtain ⟨A2, k2, rfl, g1, g2, hrow⟩ := open_list hr1
      have f0 := ha1 0 _ rfl
      simp only [show Lay.n (List Leaf) = 1 from rfl, Nat.add_zero, Nat.mul_one] at f0
      have hse : Mk.sz xs[k] = szL xs[k] := rfl
      rw [hse] at hsu
      have HS := Lib.hid hsu; clear hsu hse hle ha1 he1
      go_wp2_with (fail)
      refine (sz_LeafS xs[k] _ _ _ _ _ (hrow.later (by (repeat (first | exact Below.refl _ _ | apply Below.drew | refine Below.alloc ?_ (by first | with_reducible exact Nat.le_refl _ | omega | (simp; done) | (simp; omega)) _)))) (Nat.le_trans g1 g2) (by omega) (by omega)).mono ?_
      rintro e1 w1 ⟨⟨n1, rfl, hn1⟩, hb1⟩
      have hB1 : Below w.heap.size w w1 := by refine Below.trans ?_ (hb1.mono ?_) <;> first | ((repeat (first | exact hb | exact Below.refl _ _ | apply Below.drew | refine Below.alloc ?_ (by first | with_reducible exact Nat.le_refl _ | omega | (simp; done) | (simp; omega)) _)); done) | (first | with_reducible exact Nat.le_refl _ | omega | (simp; done) | (simp; omega))
      rcases hn1 with ⟨rfl, hn1⟩ | ⟨rfl, hn1⟩
      · go_wp2
        go_ret; refine ⟨⟨_, rfl, ?_⟩, hB1⟩; have := HS.out; have := HA.out; have := szT_le xs (k + 1); exact .inl ⟨rfl, by omega⟩
      · go_wp2
        go_roundw
        case rel => exact ⟨k + 1, by omega, by go_num, by rw [HS.out]; congr 1; omega, by rw [HS.out]; omega, hB1⟩
        case measure => simp [intOf]; omega
    · have hke : k = xs.length := by omega
      go_wp2
      go_ret; refine ⟨⟨_, rfl, ?_⟩, hb⟩; have := HA.out; subst hke; exact .inr ⟨by omega, by omega⟩
set_option maxRecDepth 20000 in set_option maxHeartbeats 1000000 in
theorem sz_Many (x : Many) (w : World) (cs : List Value) (S : Blks) (left : Int) (hx : rd false w cs x S) (h0 : 0 ≤ left) (h1 : left ≤ 1048576) :
    Calls Tryd.prog 17 #[.agg cs.toArray, .int .i64 left] w fun e w' => (∃ n, e = .returned (.int .i64 n) ∧ SzR n left x.sz) ∧ Below w.heap.size w w' := by
  obtain ⟨A0, k0, S0, A1, k1, S1, A2, k2, S2, rfl, a0, b0, r0, s0, a1, b1, r1, s1, a2, b2, r2, s2, pw⟩ := Many.open hx
  clear hx
  simp only [Many.cs]
  go_enter Tryd.func17, Tryd.ntmps17
  go_wp2_with (fail)
  try any_goals (go_ret; refine ⟨⟨_, rfl, ?_⟩, by (repeat (first | exact Below.refl _ _ | apply Below.drew | refine Below.alloc ?_ (by first | with_reducible exact Nat.le_refl _ | omega | (simp; done) | (simp; omega)) _))⟩; first | exact .inl ⟨rfl, by (try simp only [Many.sz]) <;> omega⟩ | exact .inr ⟨by (try simp only [Many.sz]) <;> omega, by (try simp only [Many.sz]) <;> omega⟩)
  refine (sz_StringS x.names _ _ _ _ _ (r0.later (by (repeat (first | exact Below.refl _ _ | apply Below.drew | refine Below.alloc ?_ (by first | with_reducible exact Nat.le_refl _ | omega | (simp; done) | (simp; omega)) _)))) (Nat.le_trans a0 b0) (by omega) (by omega)).mono ?_
  rintro e1 w1 ⟨⟨n1, rfl, hn1⟩, hb1⟩
  have hB1 : Below w.heap.size w w1 := by refine Below.trans (b := _) ?_ (hb1.mono ?_) <;> first | (repeat (first | exact Below.refl _ _ | apply Below.drew | refine Below.alloc ?_ (by first | with_reducible exact Nat.le_refl _ | omega | (simp; done) | (simp; omega)) _)); done | (first | with_reducible exact Nat.le_refl _ | omega | (simp; done) | (simp; omega))
  have hz1 : w.heap.size + 1 ≤ w1.heap.size := by have := hb1.size; (try simp at this); omega
  have hc1 := fun o => hb1.cell (p := ⟨w.heap.size, o, none⟩) (by first | with_reducible exact Nat.le_refl _ | omega | (simp; done) | (simp; omega))
  rcases hn1 with ⟨rfl, hn1⟩ | ⟨rfl, hn1⟩
  · go_wp2_with (fail)
    (go_ret; refine ⟨⟨_, rfl, ?_⟩, by (repeat (first | exact hB1 | exact Below.refl _ _ | apply Below.drew | refine Below.alloc ?_ (by first | with_reducible exact Nat.le_refl _ | omega | (simp; done) | (simp; omega)) _))⟩; first | exact .inl ⟨rfl, by (try simp only [Many.sz]) <;> omega⟩ | exact .inr ⟨by (try simp only [Many.sz]) <;> omega, by (try simp only [Many.sz]) <;> omega⟩)
  go_wp2_with (fail)
  try any_goals (go_ret; refine ⟨⟨_, rfl, ?_⟩, by (repeat (first | exact hB1 | exact Below.refl _ _ | apply Below.drew | refine Below.alloc ?_ (by first | with_reducible exact Nat.le_refl _ | omega | (simp; done) | (simp; omega)) _))⟩; first | exact .inl ⟨rfl, by (try simp only [Many.sz]) <;> omega⟩ | exact .inr ⟨by (try simp only [Many.sz]) <;> omega, by (try simp only [Many.sz]) <;> omega⟩)
  refine (sz_LeafSS x.buckets _ _ _ _ _ (r1.later (by (repeat (first | exact hB1 | exact Below.refl _ _ | apply Below.drew | refine Below.alloc ?_ (by first | with_reducible exact Nat.le_refl _ | omega | (simp; done) | (simp; omega)) _)))) (Nat.le_trans a1 b1) (by omega) (by omega)).mono ?_
  rintro e2 w2 ⟨⟨n2, rfl, hn2⟩, hb2⟩
  have hB2 : Below w.heap.size w w2 := by refine Below.trans (b := _) ?_ (hb2.mono ?_) <;> first | (repeat (first | exact hB1 | exact Below.refl _ _ | apply Below.drew | refine Below.alloc ?_ (by first | with_reducible exact Nat.le_refl _ | omega | (simp; done) | (simp; omega)) _)); done | (first | with_reducible exact Nat.le_refl _ | omega | (simp; done) | (simp; omega))
  have hz2 : w.heap.size + 1 ≤ w2.heap.size := by have := hb2.size; (try simp at this); omega
  have hc2 := fun o => hb2.cell (p := ⟨w.heap.size, o, none⟩) (by first | with_reducible exact Nat.le_refl _ | omega | (simp; done) | (simp; omega))
  rcases hn2 with ⟨rfl, hn2⟩ | ⟨rfl, hn2⟩
  · go_wp2_with (fail)
    (go_ret; refine ⟨⟨_, rfl, ?_⟩, by (repeat (first | exact hB2 | exact Below.refl _ _ | apply Below.drew | refine Below.alloc ?_ (by first | with_reducible exact Nat.le_refl _ | omega | (simp; done) | (simp; omega)) _))⟩; first | exact .inl ⟨rfl, by (try simp only [Many.sz]) <;> omega⟩ | exact .inr ⟨by (try simp only [Many.sz]) <;> omega, by (try simp only [Many.sz]) <;> omega⟩)
  go_wp2_with (fail)
  try any_goals (go_ret; refine ⟨⟨_, rfl, ?_⟩, by (repeat (first | exact hB2 | exact Below.refl _ _ | apply Below.drew | refine Below.alloc ?_ (by first | with_reducible exact Nat.le_refl _ | omega | (simp; done) | (simp; omega)) _))⟩; first | exact .inl ⟨rfl, by (try simp only [Many.sz]) <;> omega⟩ | exact .inr ⟨by (try simp only [Many.sz]) <;> omega, by (try simp only [Many.sz]) <;> omega⟩)
  refine (sz_StringS x.sides _ _ _ _ _ (r2.later (by (repeat (first | exact hB2 | exact Below.refl _ _ | apply Below.drew | refine Below.alloc ?_ (by first | with_reducible exact Nat.le_refl _ | omega | (simp; done) | (simp; omega)) _)))) (Nat.le_trans a2 b2) (by omega) (by omega)).mono ?_
  rintro e3 w3 ⟨⟨n3, rfl, hn3⟩, hb3⟩
  have hB3 : Below w.heap.size w w3 := by refine Below.trans (b := _) ?_ (hb3.mono ?_) <;> first | (repeat (first | exact hB2 | exact Below.refl _ _ | apply Below.drew | refine Below.alloc ?_ (by first | with_reducible exact Nat.le_refl _ | omega | (simp; done) | (simp; omega)) _)); done | (first | with_reducible exact Nat.le_refl _ | omega | (simp; done) | (simp; omega))
  have hz3 : w.heap.size + 1 ≤ w3.heap.size := by have := hb3.size; (try simp at this); omega
  have hc3 := fun o => hb3.cell (p := ⟨w.heap.size, o, none⟩) (by first | with_reducible exact Nat.le_refl _ | omega | (simp; done) | (simp; omega))
  rcases hn3 with ⟨rfl, hn3⟩ | ⟨rfl, hn3⟩
  · go_wp2_with (fail)
    (go_ret; refine ⟨⟨_, rfl, ?_⟩, by (repeat (first | exact hB3 | exact Below.refl _ _ | apply Below.drew | refine Below.alloc ?_ (by first | with_reducible exact Nat.le_refl _ | omega | (simp; done) | (simp; omega)) _))⟩; first | exact .inl ⟨rfl, by (try simp only [Many.sz]) <;> omega⟩ | exact .inr ⟨by (try simp only [Many.sz]) <;> omega, by (try simp only [Many.sz]) <;> omega⟩)
  go_wp2_with (fail)
  all_goals (go_ret; refine ⟨⟨_, rfl, ?_⟩, by (repeat (first | exact hB3 | exact Below.refl _ _ | apply Below.drew | refine Below.alloc ?_ (by first | with_reducible exact Nat.le_refl _ | omega | (simp; done) | (simp; omega)) _))⟩; first | exact .inl ⟨rfl, by (try simp only [Many.sz]) <;> omega⟩ | exact .inr ⟨by (try simp only [Many.sz]) <;> omega, by (try simp only [Many.sz]) <;> omega⟩)
end Go.Proofs.YtojbehmbeoemgaaDoor
