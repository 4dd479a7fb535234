/- A part of the proof: what the laws need of it. -/
import Derived.Deep.RegionHeld3
import Derived.Test.YtojbehmbeoemgaaDoorHPmL4xBr
import Derived.Test.YtojbehmbeoemgaaDoorHPmTy
set_option linter.unusedVariables false
set_option linter.unusedSimpArgs false
set_option linter.unusedVariables false
set_option linter.unusedSimpArgs false
namespace Go.Proofs.YtojbehmbeoemgaaDoor
open Go.RowKit Lay Mk
set_option maxRecDepth 40000 in set_option maxHeartbeats 4000000 in
theorem held_StringS (xs : List ByteArray) (w : World) (A : Option Addr) (cap : Nat) (S : Blks) (a : Int) (k0 : Nat) (ha : a = (k0 : Int)) (hk : k0 + cnL xs ≤ 4611686018427387904) (hx : Row false w A cap (meL xs k0) S) (hl : xs.length ≤ maxLen) :
    Calls Tryd.prog 97 #[.slice A xs.length cap, .int .i64 a] w fun e w' => e = .returned (.int .i64 ((k0 + cnL xs : Nat) : Int)) ∧ Below w.heap.size w w' := by
  subst ha
  unfold maxLen at hl
  go_enter Tryd.func97, Tryd.ntmps97
  go_wp2
  go_loopw [1, 5] (fun l i wr => ∃ k : Nat, k ≤ xs.length ∧ i = .int .i64 k ∧ l = .int .i64 ((k0 + cnL (xs.take k) : Nat) : Int) ∧ Below w.heap.size w wr) (fun _ i _ => xs.length - (intOf i).toNat)
  case atStart => exact ⟨0, Nat.zero_le _, rfl, by simp [cnL], Below.refl _ _⟩
  case round =>
    obtain ⟨k, hkk, rfl, rfl, hb⟩ := hrel
    have hz := hb.size
    by_cases hlt : k < xs.length
    · have hlt2 : k < (meL xs k0).length := by simpa using hlt
      have hne : meL xs k0 ≠ [] := by intro h; rw [h] at hlt2; simp at hlt2
      obtain ⟨b1, o1, rfl, _, T1, _, _, he1⟩ := hx hne
      obtain ⟨c1, ha1, hr1⟩ := he1 k hlt2
      have hl1 := ha1.lt (by rintro rfl; have := Lay.len hr1; cases this)
      rw [meL_get xs k0 k hlt] at hr1
      have hcs := cnL_take_succ xs k hlt
      have hcl := cnL_take_le xs (k + 1)
      generalize hK : k0 + cnL (xs.take k) = K at hr1
      generalize xs[k] = x at hr1 hcs
      rw [show Mk.cn x = 1 from rfl] at hcs
      have hs2 : Hid (k0 + cnL (xs.take (k + 1)) = K + 1) := Lib.hid (by omega)
      have hKb : K + 1 ≤ 4611686018427387904 := by omega
      clear hcs hK hcl he1 hx
      have hc0 := fun o => hb.cell (p := ⟨b1, o, none⟩) hl1
      have hr1 : rd false w c1 (mtext K) (T1 k) := hr1
      obtain ⟨rfl, _⟩ := open_str hr1
      clear hr1
      have q0 : w.cell? ⟨b1, o1 + k, none⟩ = some (.string (mtext (K))) := by have := ha1 0 _ rfl; simpa [show Lay.n ByteArray = 1 from rfl] using this
      clear ha1
      go_wp2_with (fail)
      go_region_held3 (fun w' => w'.cell? ⟨b1, o1 + k, none⟩ = some (.string (mtext (K))) ∧ Below w.heap.size w w')
        (first | (refine And.intro ?_ ?_ <;> first | exact hb.drew | exact (hb.drew.cell (p := ⟨b1, o1 + k, none⟩) hl1).trans q0 | exact (hb1.cell (p := ⟨b1, o1 + k, none⟩) (by simp; omega)).trans ((hb.drew.cell (p := ⟨b1, o1 + k, none⟩) hl1).trans q0) | exact hb.drew.trans (hb1.mono (by simp; omega)) | (go_keep; done)))
        ((go_at_call 95; refine (mark_Text _ (K) (by first | rfl | omega | (simp; done)) (by omega) _).mono ?_; rintro e1 w1 ⟨rfl, hb1⟩))
      have hB1 : Below w.heap.size w w1 := hb.drew.trans (hb1.mono (by simp; omega))
      have hz1 := hB1.size
      have hc1 := fun o => hB1.cell (p := ⟨b1, o, none⟩) hl1
      go_wp2
      go_roundw
      case rel => exact ⟨k + 1, by omega, by go_num, by first | (rw [hs2.out]; done) | rw [hs2.out]; first | go_num | (congr 1; omega), by (repeat (first | exact hB1 | exact Below.refl _ _ | apply Below.drew | refine Below.alloc ?_ (by first | with_reducible exact Nat.le_refl _ | omega | (simp; done) | (simp; omega)) _))⟩
      case measure => simp [intOf]; omega
    · have hke : k = xs.length := by omega
      go_wp2
      go_ret; refine ⟨?_, hb⟩; subst hke; rw [List.take_of_length_le (Nat.le_refl _)]; rfl
set_option maxRecDepth 40000 in set_option maxHeartbeats 4000000 in
theorem held_LeafS (xs : List Leaf) (w : World) (A : Option Addr) (cap : Nat) (S : Blks) (a : Int) (k0 : Nat) (ha : a = (k0 : Int)) (hk : k0 + cnL xs ≤ 4611686018427387904) (hx : Row false w A cap (meL xs k0) S) (hl : xs.length ≤ maxLen) :
    Calls Tryd.prog 141 #[.slice A xs.length cap, .int .i64 a] w fun e w' => e = .returned (.int .i64 ((k0 + cnL xs : Nat) : Int)) ∧ Below w.heap.size w w' := by
  subst ha
  unfold maxLen at hl
  go_enter Tryd.func141, Tryd.ntmps141
  go_wp2
  go_loopw [1, 5] (fun l i wr => ∃ k : Nat, k ≤ xs.length ∧ i = .int .i64 k ∧ l = .int .i64 ((k0 + cnL (xs.take k) : Nat) : Int) ∧ Below w.heap.size w wr) (fun _ i _ => xs.length - (intOf i).toNat)
  case atStart => exact ⟨0, Nat.zero_le _, rfl, by simp [cnL], Below.refl _ _⟩
  case round =>
    obtain ⟨k, hkk, rfl, rfl, hb⟩ := hrel
    have hz := hb.size
    by_cases hlt : k < xs.length
    · have hlt2 : k < (meL xs k0).length := by simpa using hlt
      have hne : meL xs k0 ≠ [] := by intro h; rw [h] at hlt2; simp at hlt2
      obtain ⟨b1, o1, rfl, _, T1, _, _, he1⟩ := hx hne
      obtain ⟨c1, ha1, hr1⟩ := he1 k hlt2
      have hl1 := ha1.lt (by rintro rfl; have := Lay.len hr1; cases this)
      rw [meL_get xs k0 k hlt] at hr1
      have hcs := cnL_take_succ xs k hlt
      have hcl := cnL_take_le xs (k + 1)
      generalize hK : k0 + cnL (xs.take k) = K at hr1
      generalize xs[k] = x at hr1 hcs
      rw [show Mk.cn x = Leaf.cn x from rfl] at hcs
      have hs2 : Hid (k0 + cnL (xs.take (k + 1)) = K + Leaf.cn x) := Lib.hid (by omega)
      have hKb : K + Leaf.cn x ≤ 4611686018427387904 := by omega
      unfold Leaf.cn at hKb
      clear hcs hK hcl he1 hx
      have hc0 := fun o => hb.cell (p := ⟨b1, o, none⟩) hl1
      have hr1 : rd false w c1 (Leaf.me x K) (T1 k) := hr1
      obtain ⟨rfl, ef0, ef1⟩ := Leaf.open hr1
      have q0 : w.cell? ⟨b1, o1 + k * 2, none⟩ = some (.string (mtext (K))) := by have := ha1 0 _ rfl; simpa [show Lay.n Leaf = 2 from rfl, Leaf.me] using this
      have q1 : w.cell? ⟨b1, o1 + k * 2 + 1, none⟩ = some (.string (mtext (K + 1))) := by have := ha1 1 _ rfl; simpa [show Lay.n Leaf = 2 from rfl, Leaf.me] using this
      clear ha1
      go_wp2_with (fail)
      go_region_held3 (fun w' => w'.cell? ⟨b1, o1 + k * 2, none⟩ = some (.string (mtext (K))) ∧ Below w.heap.size w w')
        (first | (refine And.intro ?_ ?_ <;> first | exact hb.drew | exact (hb.drew.cell (p := ⟨b1, o1 + k * 2, none⟩) hl1).trans q0 | exact (hb1.cell (p := ⟨b1, o1 + k * 2, none⟩) (by simp; omega)).trans ((hb.drew.cell (p := ⟨b1, o1 + k * 2, none⟩) hl1).trans q0) | exact hb.drew.trans (hb1.mono (by simp; omega)) | (go_keep; done)))
        ((go_at_call 95; refine (mark_Text _ (K) (by first | rfl | omega | (simp; done)) (by omega) _).mono ?_; rintro e1 w1 ⟨rfl, hb1⟩))
      have hB1 : Below w.heap.size w w1 := hb.drew.trans (hb1.mono (by simp; omega))
      have hz1 := hB1.size
      have hc1 := fun o => hB1.cell (p := ⟨b1, o, none⟩) hl1
      go_wp2_with (fail)
      go_region_held3 (fun w' => w'.cell? ⟨b1, o1 + k * 2 + 1, none⟩ = some (.string (mtext (K + 1))) ∧ Below w.heap.size w w')
        (first | (refine And.intro ?_ ?_ <;> first | exact hB1.drew | exact (hB1.drew.cell (p := ⟨b1, o1 + k * 2 + 1, none⟩) hl1).trans q1 | exact (hb2.cell (p := ⟨b1, o1 + k * 2 + 1, none⟩) (by simp; omega)).trans ((hB1.drew.cell (p := ⟨b1, o1 + k * 2 + 1, none⟩) hl1).trans q1) | exact hB1.drew.trans (hb2.mono (by simp; omega)) | (go_keep; done)))
        ((go_at_call 95; refine (mark_Text _ (K + 1) (by first | rfl | omega | (simp; done)) (by omega) _).mono ?_; rintro e2 w2 ⟨rfl, hb2⟩))
      have hB2 : Below w.heap.size w w2 := hB1.drew.trans (hb2.mono (by simp; omega))
      have hz2 := hB2.size
      have hc2 := fun o => hB2.cell (p := ⟨b1, o, none⟩) hl1
      go_wp2
      go_roundw
      case rel => exact ⟨k + 1, by omega, by go_num, by first | (rw [hs2.out]; done) | rw [hs2.out]; first | go_num | (congr 1; unfold Leaf.cn; omega), by (repeat (first | exact hB2 | exact Below.refl _ _ | apply Below.drew | refine Below.alloc ?_ (by first | with_reducible exact Nat.le_refl _ | omega | (simp; done) | (simp; omega)) _))⟩
      case measure => simp [intOf]; omega
    · have hke : k = xs.length := by omega
      go_wp2
      go_ret; refine ⟨?_, hb⟩; subst hke; rw [List.take_of_length_le (Nat.le_refl _)]; rfl
set_option maxRecDepth 40000 in set_option maxHeartbeats 4000000 in
theorem held_LeafSS (xs : List (List Leaf)) (w : World) (A : Option Addr) (cap : Nat) (S : Blks) (a : Int) (k0 : Nat) (ha : a = (k0 : Int)) (hk : k0 + cnL xs ≤ 4611686018427387904) (hx : Row false w A cap (meL xs k0) S) (hl : xs.length ≤ maxLen) :
    Calls Tryd.prog 98 #[.slice A xs.length cap, .int .i64 a] w fun e w' => e = .returned (.int .i64 ((k0 + cnL xs : Nat) : Int)) ∧ Below w.heap.size w w' := by
  subst ha
  unfold maxLen at hl
  go_enter Tryd.func98, Tryd.ntmps98
  go_wp2
  go_loopw [1, 5] (fun l i wr => ∃ k : Nat, k ≤ xs.length ∧ i = .int .i64 k ∧ l = .int .i64 ((k0 + cnL (xs.take k) : Nat) : Int) ∧ Below w.heap.size w wr) (fun _ i _ => xs.length - (intOf i).toNat)
  case atStart => exact ⟨0, Nat.zero_le _, rfl, by simp [cnL], Below.refl _ _⟩
  case round =>
    obtain ⟨k, hkk, rfl, rfl, hb⟩ := hrel
    have hz := hb.size
    by_cases hlt : k < xs.length
    · have hlt2 : k < (meL xs k0).length := by simpa using hlt
      have hne : meL xs k0 ≠ [] := by intro h; rw [h] at hlt2; simp at hlt2
      obtain ⟨b1, o1, rfl, _, T1, _, _, he1⟩ := hx hne
      obtain ⟨c1, ha1, hr1⟩ := he1 k hlt2
      have hl1 := ha1.lt (by rintro rfl; have := Lay.len hr1; cases this)
      rw [meL_get xs k0 k hlt] at hr1
      have hcs := cnL_take_succ xs k hlt
      have hcl := cnL_take_le xs (k + 1)
      generalize hK : k0 + cnL (xs.take k) = K at hr1
      generalize xs[k] = x at hr1 hcs
      rw [show Mk.cn x = cnL x from rfl] at hcs
      have hs2 : Hid (k0 + cnL (xs.take (k + 1)) = K + cnL x) := Lib.hid (by omega)
      have hKb : K + cnL x ≤ 4611686018427387904 := by omega
      clear hcs hK hcl he1 hx
      have hc0 := fun o => hb.cell (p := ⟨b1, o, none⟩) hl1
      have hr1 : rd false w c1 (meL x K) (T1 k) := hr1
      obtain ⟨A0, k0_, rfl, a0, b0, r0⟩ := open_list hr1
      rw [meL_length] at a0
      clear hr1
      have q0 : w.cell? ⟨b1, o1 + k, none⟩ = some (.slice A0 x.length k0_) := by have := ha1 0 _ rfl; simpa [show Lay.n (List Leaf) = 1 from rfl] using this
      generalize hK1 : K + cnL x = K1 at *
      have HK1 := Lib.hid hK1; clear hK1
      have hKb1 : K1 + 0 ≤ 4611686018427387904 := by have := HK1.out; omega
      clear ha1
      go_wp2_with (fail)
      refine (held_LeafS x _ _ _ _ _ (K) (by first | rfl | omega | (simp; done)) (by have := HK1.out; omega) (r0.later (by (repeat (first | exact hb | exact Below.refl _ _ | apply Below.drew | refine Below.alloc ?_ (by first | with_reducible exact Nat.le_refl _ | omega | (simp; done) | (simp; omega)) _)))) (Nat.le_trans a0 b0)).mono ?_
      rw [HK1.out]
      rintro e1 w1 ⟨rfl, hb1⟩
      have hB1 : Below w.heap.size w w1 := by refine Below.trans ?_ (hb1.mono ?_) <;> first | ((repeat (first | exact hb | exact Below.refl _ _ | apply Below.drew | refine Below.alloc ?_ (by first | with_reducible exact Nat.le_refl _ | omega | (simp; done) | (simp; omega)) _)); done) | (first | with_reducible exact Nat.le_refl _ | omega | (simp; done) | (simp; omega))
      have hz1 := hB1.size
      have hc1 := fun o => hB1.cell (p := ⟨b1, o, none⟩) hl1
      go_wp2
      go_roundw
      case rel => exact ⟨k + 1, by omega, by go_num, by first | (rw [hs2.out]; done) | rw [hs2.out]; first | go_num | (congr 1; have := HK1.out; omega), by (repeat (first | exact hB1 | exact Below.refl _ _ | apply Below.drew | refine Below.alloc ?_ (by first | with_reducible exact Nat.le_refl _ | omega | (simp; done) | (simp; omega)) _))⟩
      case measure => simp [intOf]; omega
    · have hke : k = xs.length := by omega
      go_wp2
      go_ret; refine ⟨?_, hb⟩; subst hke; rw [List.take_of_length_le (Nat.le_refl _)]; rfl
set_option maxRecDepth 40000 in set_option maxHeartbeats 2000000 in
theorem held_Many (x : Many) (w : World) (cs : List Value) (S : Blks) (a : Int) (k : Nat) (ha : a = (k : Int)) (hk : k + x.ct ≤ 4611686018427387904) (hx : rd false w cs (x.mt k) S) :
    Calls Tryd.prog 43 #[.agg cs.toArray, .int .i64 a] w fun e w' => e = .returned (.int .i64 ((k + x.ct : Nat) : Int)) ∧ Below w.heap.size w w' := by
  subst ha
  obtain ⟨A0, k0, S0, A1, k1, S1, A2, k2, S2, rfl, a0, b0, r0, s0, a1, b1, r1, s1, a2, b2, r2, s2, pw⟩ := Many.open hx
  clear hx
  unfold Many.ct at hk
  simp only [Many.cs, Many.mt, meL_length]
  have R0 : Row false w A0 k0 (meL x.names (k)) S0 := r0
  have L0 : x.names.length ≤ maxLen := by have := Nat.le_trans a0 b0; simpa [Many.mt] using this
  have R1 : Row false w A1 k1 (meL x.buckets (k + cnL x.names)) S1 := r1
  have L1 : x.buckets.length ≤ maxLen := by have := Nat.le_trans a1 b1; simpa [Many.mt] using this
  have R2 : Row false w A2 k2 (meL x.sides (k + cnL x.names + cnL x.buckets)) S2 := r2
  have L2 : x.sides.length ≤ maxLen := by have := Nat.le_trans a2 b2; simpa [Many.mt] using this
  clear r0 r1 r2
  generalize hK0 : k + cnL x.names = K0 at *
  have HK0 := Lib.hid hK0; clear hK0
  generalize hK1 : K0 + cnL x.buckets = K1 at *
  have HK1 := Lib.hid hK1; clear hK1
  generalize hK2 : K1 + cnL x.sides = K2 at *
  have HK2 := Lib.hid hK2; clear hK2
  have hfin : Hid (((k + x.ct : Nat) : Int) = (K2 : Int)) := Lib.hid (by unfold Many.ct; have := HK0.out; have := HK1.out; have := HK2.out; omega)
  rw [hfin.out]
  go_enter Tryd.func43, Tryd.ntmps43
  go_wp2_with (fail)
  refine (held_StringS x.names _ _ _ _ _ k (by first | rfl | omega) (by have := HK0.out; have := HK1.out; have := HK2.out; omega) (R0.later (by (repeat (first | exact Below.refl _ _ | apply Below.drew | refine Below.alloc ?_ (by first | with_reducible exact Nat.le_refl _ | omega | (simp; done) | (simp; omega)) _)))) L0).mono ?_
  rw [HK0.out]
  rintro e1 w1 ⟨rfl, hb1⟩
  have hB1 : Below w.heap.size w w1 := by refine Below.trans (b := _) ?_ (hb1.mono ?_) <;> first | (repeat (first | exact Below.refl _ _ | apply Below.drew | refine Below.alloc ?_ (by first | with_reducible exact Nat.le_refl _ | omega | (simp; done) | (simp; omega)) _)); done | (first | with_reducible exact Nat.le_refl _ | omega | (simp; done) | (simp; omega))
  have hz1 : w.heap.size + 1 ≤ w1.heap.size := by have := hb1.size; (try simp at this); omega
  have hc1 := fun o => hb1.cell (p := ⟨w.heap.size, o, none⟩) (by first | with_reducible exact Nat.le_refl _ | omega | (simp; done) | (simp; omega))
  go_wp2_with (fail)
  refine (held_LeafSS x.buckets _ _ _ _ _ K0 (by first | rfl | omega) (by have := HK0.out; have := HK1.out; have := HK2.out; omega) (R1.later (by (repeat (first | exact hB1 | exact Below.refl _ _ | apply Below.drew | refine Below.alloc ?_ (by first | with_reducible exact Nat.le_refl _ | omega | (simp; done) | (simp; omega)) _)))) L1).mono ?_
  rw [HK1.out]
  rintro e2 w2 ⟨rfl, hb2⟩
  have hB2 : Below w.heap.size w w2 := by refine Below.trans (b := _) ?_ (hb2.mono ?_) <;> first | (repeat (first | exact hB1 | exact Below.refl _ _ | apply Below.drew | refine Below.alloc ?_ (by first | with_reducible exact Nat.le_refl _ | omega | (simp; done) | (simp; omega)) _)); done | (first | with_reducible exact Nat.le_refl _ | omega | (simp; done) | (simp; omega))
  have hz2 : w.heap.size + 1 ≤ w2.heap.size := by have := hb2.size; (try simp at this); omega
  have hc2 := fun o => hb2.cell (p := ⟨w.heap.size, o, none⟩) (by first | with_reducible exact Nat.le_refl _ | omega | (simp; done) | (simp; omega))
  go_wp2_with (fail)
  refine (held_StringS x.sides _ _ _ _ _ K1 (by first | rfl | omega) (by have := HK0.out; have := HK1.out; have := HK2.out; omega) (R2.later (by (repeat (first | exact hB2 | exact Below.refl _ _ | apply Below.drew | refine Below.alloc ?_ (by first | with_reducible exact Nat.le_refl _ | omega | (simp; done) | (simp; omega)) _)))) L2).mono ?_
  rw [HK2.out]
  rintro e3 w3 ⟨rfl, hb3⟩
  have hB3 : Below w.heap.size w w3 := by refine Below.trans (b := _) ?_ (hb3.mono ?_) <;> first | (repeat (first | exact hB2 | exact Below.refl _ _ | apply Below.drew | refine Below.alloc ?_ (by first | with_reducible exact Nat.le_refl _ | omega | (simp; done) | (simp; omega)) _)); done | (first | with_reducible exact Nat.le_refl _ | omega | (simp; done) | (simp; omega))
  have hz3 : w.heap.size + 1 ≤ w3.heap.size := by have := hb3.size; (try simp at this); omega
  have hc3 := fun o => hb3.cell (p := ⟨w.heap.size, o, none⟩) (by first | with_reducible exact Nat.le_refl _ | omega | (simp; done) | (simp; omega))
  go_wp2
  go_ret; exact ⟨rfl, by (repeat (first | exact hB3 | exact Below.refl _ _ | apply Below.drew | refine Below.alloc ?_ (by first | with_reducible exact Nat.le_refl _ | omega | (simp; done) | (simp; omega)) _))⟩
end Go.Proofs.YtojbehmbeoemgaaDoor

set_option linter.unusedVariables false
set_option linter.unusedSimpArgs false
namespace Go.Proofs.YtojbehmbeoemgaaDoor
open Lay Mk
theorem cnL_le {α : Type} [Lay α] [Mk α] (K : Nat) (h : ∀ x : α, cn x ≤ K * (sz x + 1)) : ∀ xs : List α, cnL xs ≤ K * szL xs
  | [] => by simp [cnL, szL]
  | x :: xs => by
    have h1 := h x
    have h2 := cnL_le K h xs
    simp only [cnL, szL, List.map_cons, List.sum_cons, List.length_cons] at *
    have e : K * (xs.length + 1 + (sz x + (xs.map sz).sum)) = K * (sz x + 1) + K * (xs.length + (xs.map sz).sum) := by rw [← Nat.mul_add]; congr 1; omega
    omega
theorem cnb_String (x : ByteArray) : cn x ≤ 1 * (sz x + 1) := by show 1 ≤ _; omega
theorem cnb_StringS (xs : List ByteArray) : cnL xs ≤ 1 * szL xs := cnL_le 1 cnb_String xs
theorem cnb_Leaf (x : Leaf) : cn x ≤ 2 * (sz x + 1) := by
  show Leaf.cn x ≤ 2 * (Leaf.sz x + 1)
  skip
  simp only [Leaf.cn, Leaf.sz] <;> omega
theorem cnb_LeafS (xs : List Leaf) : cnL xs ≤ 2 * szL xs := cnL_le 2 cnb_Leaf xs
end Go.Proofs.YtojbehmbeoemgaaDoor

set_option linter.unusedVariables false
set_option linter.unusedSimpArgs false
namespace Go.Proofs.YtojbehmbeoemgaaDoor
def inB (n lo hi : Int) : Bool := decide (lo ≤ n ∧ n ≤ hi)
def nmB (n : Nat) : Bool := decide ((97 ≤ n ∧ n ≤ 122) ∨ (48 ≤ n ∧ n ≤ 57) ∨ n = 64 ∨ n = 46)
def nameOk (s : ByteArray) : Bool := decide (∀ j (h : j < s.size), nmB s[j].toNat = true) && inB s.size 1 12
def vlB (n : Nat) : Bool := decide (33 ≤ n ∧ n ≤ 126)
def valueOk (s : ByteArray) : Bool := decide (∀ j (h : j < s.size), vlB s[j].toNat = true) && inB s.size 1 12
theorem all_succ {q : Nat → Bool} {s : ByteArray} {k : Nat} (h : k < s.size) (ha : ∀ j (h : j < s.size), j < k → q s[j].toNat = true) (hk : q s[k].toNat = true) : ∀ j (h : j < s.size), j < k + 1 → q s[j].toNat = true := by
  intro j hj hlt
  by_cases e : j = k
  · subst e; exact hk
  · exact ha j hj (by omega)
theorem nameOk_bad {s : ByteArray} {k : Nat} (h : k < s.size) (hk : nmB s[k].toNat = false) : nameOk s = false := by
  unfold nameOk
  rw [decide_eq_false (by intro ha; rw [ha k h] at hk; cases hk)]
  rfl
theorem nameOk_end {s : ByteArray} {k : Nat} (ha : ∀ j (h : j < s.size), j < k → nmB s[j].toNat = true) (hk : k = s.size ∨ 12 < k) (hks : k ≤ s.size) : nameOk s = inB s.size 1 12 := by
  unfold nameOk
  rcases hk with hk | hk
  · rw [decide_eq_true (fun j h => ha j h (by omega))]; simp
  · have : inB s.size 1 12 = false := by simp [inB]; omega
    rw [this]; simp
theorem valueOk_bad {s : ByteArray} {k : Nat} (h : k < s.size) (hk : vlB s[k].toNat = false) : valueOk s = false := by
  unfold valueOk
  rw [decide_eq_false (by intro ha; rw [ha k h] at hk; cases hk)]
  rfl
theorem valueOk_end {s : ByteArray} {k : Nat} (ha : ∀ j (h : j < s.size), j < k → vlB s[j].toNat = true) (hk : k = s.size ∨ 12 < k) (hks : k ≤ s.size) : valueOk s = inB s.size 1 12 := by
  unfold valueOk
  rcases hk with hk | hk
  · rw [decide_eq_true (fun j h => ha j h (by omega))]; simp
  · have : inB s.size 1 12 = false := by simp [inB]; omega
    rw [this]; simp
end Go.Proofs.YtojbehmbeoemgaaDoor
