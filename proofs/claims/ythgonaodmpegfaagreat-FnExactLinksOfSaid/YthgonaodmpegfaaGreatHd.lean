/- Walks of the laws' helpers that look whether the marks stand. Written by a program (gen_hd.py). -/
import Derived.Test.YthgonaodmpegfaaGreatMt
import Derived.Test.YthgonaodmpegfaaGreatTy
import Derived.Deep.RegionHeld3
set_option linter.unusedVariables false
set_option linter.unusedSimpArgs false
namespace Go.Proofs.YthgonaodmpegfaaGreat
open Go.RowKit Lay Mk
set_option maxRecDepth 40000 in set_option maxHeartbeats 4000000 in
theorem held_StringS (xs : List ByteArray) (w : World) (A : Option Addr) (cap : Nat) (S : Blks) (a : Int) (k0 : Nat) (ha : a = (k0 : Int)) (hk : k0 + cnL xs ≤ 4611686018427387904) (hx : Row false w A cap (meL xs k0) S) (hl : xs.length ≤ maxLen) :
    Calls Tryz.prog 51 #[.slice A xs.length cap, .int .i64 a] w fun e w' => e = .returned (.int .i64 ((k0 + cnL xs : Nat) : Int)) ∧ Below w.heap.size w w' := by
  subst ha
  unfold maxLen at hl
  go_enter Tryz.func51, Tryz.ntmps51
  go_wp2
  go_loopw [1, 5] (fun l i wr => ∃ k : Nat, k ≤ xs.length ∧ i = .int .i64 k ∧ l = .int .i64 ((k0 + cnL (xs.take k) : Nat) : Int) ∧ Below w.heap.size w wr) (fun _ i _ => xs.length - (intOf i).toNat)
  case atStart => exact ⟨0, Nat.zero_le _, rfl, by simp [cnL], Below.refl _ _⟩
  case round =>
    obtain ⟨k, hkk, rfl, rfl, hb⟩ := hrel
    have hz := hb.size
    by_cases hlt : k < xs.length
    · have hlt2 : k < (meL xs k0).length := by simpa using hlt
      have hne : meL xs k0 ≠ [] := by intro h; rw [h] at hlt2; simp at hlt2
      obtain ⟨b1, o1, rfl, _, T1, _, _, he1⟩ := hx hne
      obtain ⟨c1, ha1, hr1⟩ := he1 k hlt2
      have hl1 := ha1.lt (by rintro rfl; have := Lay.len hr1; cases this)
      rw [meL_get xs k0 k hlt] at hr1
      have hcs := cnL_take_succ xs k hlt
      have hcl := cnL_take_le xs (k + 1)
      generalize hK : k0 + cnL (xs.take k) = K at hr1
      generalize xs[k] = x at hr1 hcs
      rw [show Mk.cn x = 1 from rfl] at hcs
      have hs2 : Hid (k0 + cnL (xs.take (k + 1)) = K + 1) := Lib.hid (by omega)
      have hKb : K + 1 ≤ 4611686018427387904 := by omega
      clear hcs hK hcl he1 hx
      have hc0 := fun o => hb.cell (p := ⟨b1, o, none⟩) hl1
      have hr1 : rd false w c1 (mtext K) (T1 k) := hr1
      obtain ⟨rfl, _⟩ := open_str hr1
      clear hr1
      have q0 : w.cell? ⟨b1, o1 + k, none⟩ = some (.string (mtext (K))) := by have := ha1 0 _ rfl; simpa [show Lay.n ByteArray = 1 from rfl] using this
      clear ha1
      go_wp2_with (fail)
      go_region_held3 (fun w' => w'.cell? ⟨b1, o1 + k, none⟩ = some (.string (mtext (K))) ∧ Below w.heap.size w w')
        (first | (refine And.intro ?_ ?_ <;> first | exact hb.drew | exact (hb.drew.cell (p := ⟨b1, o1 + k, none⟩) hl1).trans q0 | exact (hb1.cell (p := ⟨b1, o1 + k, none⟩) (by simp; omega)).trans ((hb.drew.cell (p := ⟨b1, o1 + k, none⟩) hl1).trans q0) | exact hb.drew.trans (hb1.mono (by simp; omega)) | (go_keep; done)))
        ((go_at_call 61; refine (mark_Text _ (K) (by first | rfl | omega | (simp; done)) (by omega) _).mono ?_; rintro e1 w1 ⟨rfl, hb1⟩))
      have hB1 : Below w.heap.size w w1 := hb.drew.trans (hb1.mono (by simp; omega))
      have hz1 := hB1.size
      have hc1 := fun o => hB1.cell (p := ⟨b1, o, none⟩) hl1
      go_wp2
      go_roundw
      case rel => exact ⟨k + 1, by omega, by go_num, by rw [hs2.out]; first | go_num | (congr 1; omega), by (repeat (first | exact hB1 | exact Below.refl _ _ | apply Below.drew | refine Below.alloc ?_ (by first | with_reducible exact Nat.le_refl _ | omega | (simp; done) | (simp; omega)) _))⟩
      case measure => simp [intOf]; omega
    · have hke : k = xs.length := by omega
      go_wp2
      go_ret; refine ⟨?_, hb⟩; subst hke; rw [List.take_of_length_le (Nat.le_refl _)]; rfl
set_option maxRecDepth 40000 in set_option maxHeartbeats 4000000 in
theorem held_StampS (xs : List Stamp) (w : World) (A : Option Addr) (cap : Nat) (S : Blks) (a : Int) (k0 : Nat) (ha : a = (k0 : Int)) (hk : k0 + cnL xs ≤ 4611686018427387904) (hx : Row false w A cap (meL xs k0) S) (hl : xs.length ≤ maxLen) :
    Calls Tryz.prog 13 #[.slice A xs.length cap, .int .i64 a] w fun e w' => e = .returned (.int .i64 ((k0 + cnL xs : Nat) : Int)) ∧ Below w.heap.size w w' := by
  subst ha
  unfold maxLen at hl
  go_enter Tryz.func13, Tryz.ntmps13
  go_wp2
  go_loopw [1, 5] (fun l i wr => ∃ k : Nat, k ≤ xs.length ∧ i = .int .i64 k ∧ l = .int .i64 ((k0 + cnL (xs.take k) : Nat) : Int) ∧ Below w.heap.size w wr) (fun _ i _ => xs.length - (intOf i).toNat)
  case atStart => exact ⟨0, Nat.zero_le _, rfl, by simp [cnL], Below.refl _ _⟩
  case round =>
    obtain ⟨k, hkk, rfl, rfl, hb⟩ := hrel
    have hz := hb.size
    by_cases hlt : k < xs.length
    · have hlt2 : k < (meL xs k0).length := by simpa using hlt
      have hne : meL xs k0 ≠ [] := by intro h; rw [h] at hlt2; simp at hlt2
      obtain ⟨b1, o1, rfl, _, T1, _, _, he1⟩ := hx hne
      obtain ⟨c1, ha1, hr1⟩ := he1 k hlt2
      have hl1 := ha1.lt (by rintro rfl; have := Lay.len hr1; cases this)
      rw [meL_get xs k0 k hlt] at hr1
      have hcs := cnL_take_succ xs k hlt
      have hcl := cnL_take_le xs (k + 1)
      generalize hK : k0 + cnL (xs.take k) = K at hr1
      generalize xs[k] = x at hr1 hcs
      rw [show Mk.cn x = Stamp.cn x from rfl] at hcs
      have hs2 : Hid (k0 + cnL (xs.take (k + 1)) = K + Stamp.cn x) := Lib.hid (by omega)
      have hKb : K + Stamp.cn x ≤ 4611686018427387904 := by omega
      unfold Stamp.cn at hKb
      clear hcs hK hcl he1 hx
      have hc0 := fun o => hb.cell (p := ⟨b1, o, none⟩) hl1
      have hr1 : rd false w c1 (Stamp.me x K) (T1 k) := hr1
      obtain ⟨eA0, ek0, eS0, eA1, ek1, eS1, eA2, ek2, eS2, rfl, ef0, ef1, ea0, eb0, er0, es0, ea1, eb1, er1, es1, ea2, eb2, er2, es2, epw⟩ := Stamp.open hr1
      have q0 : w.cell? ⟨b1, o1 + k * 5, none⟩ = some (.int .i64 (((K : Nat)) : Int)) := by have := ha1 0 _ rfl; simpa [show Lay.n Stamp = 5 from rfl, Stamp.me, Int.natCast_add] using this
      have q1 : w.cell? ⟨b1, o1 + k * 5 + 1, none⟩ = some (.int .i64 (((K + 1 : Nat)) : Int)) := by have := ha1 1 _ rfl; simpa [show Lay.n Stamp = 5 from rfl, Stamp.me, Int.natCast_add] using this
      have q2 : w.cell? ⟨b1, o1 + k * 5 + 2, none⟩ = some (.slice eA0 x.sig.open_.length ek0) := by have := ha1 2 _ rfl; simpa [show Lay.n Stamp = 5 from rfl, Stamp.me] using this
      have q3 : w.cell? ⟨b1, o1 + k * 5 + 3, none⟩ = some (.slice eA1 x.sig.shut.length ek1) := by have := ha1 3 _ rfl; simpa [show Lay.n Stamp = 5 from rfl, Stamp.me] using this
      have q4 : w.cell? ⟨b1, o1 + k * 5 + 4, none⟩ = some (.slice eA2 x.sig.sides.length ek2) := by have := ha1 4 _ rfl; simpa [show Lay.n Stamp = 5 from rfl, Stamp.me] using this
      have er0_ : Row false w eA0 ek0 (meL x.sig.open_ (K + 1 + 1)) eS0 := er0
      have ea0_ : x.sig.open_.length ≤ ek0 := by have := ea0; simpa [Stamp.me] using this
      have er1_ : Row false w eA1 ek1 (meL x.sig.shut (K + 1 + 1 + cnL x.sig.open_)) eS1 := er1
      have ea1_ : x.sig.shut.length ≤ ek1 := by have := ea1; simpa [Stamp.me] using this
      have er2_ : Row false w eA2 ek2 (meL x.sig.sides (K + 1 + 1 + cnL x.sig.open_ + cnL x.sig.shut)) eS2 := er2
      have ea2_ : x.sig.sides.length ≤ ek2 := by have := ea2; simpa [Stamp.me] using this
      generalize hK1 : K + 1 + 1 + cnL x.sig.open_ = K1 at *
      have HK1 := Lib.hid hK1; clear hK1
      generalize hK2 : K1 + cnL x.sig.shut = K2 at *
      have HK2 := Lib.hid hK2; clear hK2
      generalize hK3 : K2 + cnL x.sig.sides = K3 at *
      have HK3 := Lib.hid hK3; clear hK3
      have hKb1 : K1 + 0 ≤ 4611686018427387904 := by have := HK1.out; have := HK2.out; have := HK3.out; omega
      have hKb2 : K2 + 0 ≤ 4611686018427387904 := by have := HK1.out; have := HK2.out; have := HK3.out; omega
      have hKb3 : K3 + 0 ≤ 4611686018427387904 := by have := HK1.out; have := HK2.out; have := HK3.out; omega
      clear ha1 er0 er1 er2
      go_wp2_with (fail)
      refine (held_StringS x.sig.open_ _ _ _ _ _ (K + 1 + 1) (by first | rfl | omega | (simp; done)) (by have := HK1.out; omega) (er0_.later (by (repeat (first | exact hb | exact Below.refl _ _ | apply Below.drew | refine Below.alloc ?_ (by first | with_reducible exact Nat.le_refl _ | omega | (simp; done) | (simp; omega)) _)))) (Nat.le_trans ea0_ eb0)).mono ?_
      rw [HK1.out]
      rintro e1 w1 ⟨rfl, hb1⟩
      have hB1 : Below w.heap.size w w1 := by refine Below.trans ?_ (hb1.mono ?_) <;> first | ((repeat (first | exact hb | exact Below.refl _ _ | apply Below.drew | refine Below.alloc ?_ (by first | with_reducible exact Nat.le_refl _ | omega | (simp; done) | (simp; omega)) _)); done) | (first | with_reducible exact Nat.le_refl _ | omega | (simp; done) | (simp; omega))
      have hz1 := hB1.size
      have hc1 := fun o => hB1.cell (p := ⟨b1, o, none⟩) hl1
      go_wp2_with (fail)
      refine (held_StringS x.sig.shut _ _ _ _ _ (K1) (by first | rfl | omega | (simp; done)) (by have := HK2.out; omega) (er1_.later (by (repeat (first | exact hB1 | exact Below.refl _ _ | apply Below.drew | refine Below.alloc ?_ (by first | with_reducible exact Nat.le_refl _ | omega | (simp; done) | (simp; omega)) _)))) (Nat.le_trans ea1_ eb1)).mono ?_
      rw [HK2.out]
      rintro e2 w2 ⟨rfl, hb2⟩
      have hB2 : Below w.heap.size w w2 := by refine Below.trans ?_ (hb2.mono ?_) <;> first | ((repeat (first | exact hB1 | exact Below.refl _ _ | apply Below.drew | refine Below.alloc ?_ (by first | with_reducible exact Nat.le_refl _ | omega | (simp; done) | (simp; omega)) _)); done) | (first | with_reducible exact Nat.le_refl _ | omega | (simp; done) | (simp; omega))
      have hz2 := hB2.size
      have hc2 := fun o => hB2.cell (p := ⟨b1, o, none⟩) hl1
      go_wp2_with (fail)
      refine (held_StringS x.sig.sides _ _ _ _ _ (K2) (by first | rfl | omega | (simp; done)) (by have := HK3.out; omega) (er2_.later (by (repeat (first | exact hB2 | exact Below.refl _ _ | apply Below.drew | refine Below.alloc ?_ (by first | with_reducible exact Nat.le_refl _ | omega | (simp; done) | (simp; omega)) _)))) (Nat.le_trans ea2_ eb2)).mono ?_
      rw [HK3.out]
      rintro e3 w3 ⟨rfl, hb3⟩
      have hB3 : Below w.heap.size w w3 := by refine Below.trans ?_ (hb3.mono ?_) <;> first | ((repeat (first | exact hB2 | exact Below.refl _ _ | apply Below.drew | refine Below.alloc ?_ (by first | with_reducible exact Nat.le_refl _ | omega | (simp; done) | (simp; omega)) _)); done) | (first | with_reducible exact Nat.le_refl _ | omega | (simp; done) | (simp; omega))
      have hz3 := hB3.size
      have hc3 := fun o => hB3.cell (p := ⟨b1, o, none⟩) hl1
      go_wp2
      go_roundw
      case rel => exact ⟨k + 1, by omega, by go_num, by rw [hs2.out]; first | go_num | (congr 1; unfold Stamp.cn; have := HK1.out; have := HK2.out; have := HK3.out; omega), by (repeat (first | exact hB3 | exact Below.refl _ _ | apply Below.drew | refine Below.alloc ?_ (by first | with_reducible exact Nat.le_refl _ | omega | (simp; done) | (simp; omega)) _))⟩
      case measure => simp [intOf]; omega
    · have hke : k = xs.length := by omega
      go_wp2
      go_ret; refine ⟨?_, hb⟩; subst hke; rw [List.take_of_length_le (Nat.le_refl _)]; rfl
set_option maxRecDepth 40000 in set_option maxHeartbeats 4000000 in
theorem held_SealS (xs : List Seal) (w : World) (A : Option Addr) (cap : Nat) (S : Blks) (a : Int) (k0 : Nat) (ha : a = (k0 : Int)) (hk : k0 + cnL xs ≤ 4611686018427387904) (hx : Row false w A cap (meL xs k0) S) (hl : xs.length ≤ maxLen) :
    Calls Tryz.prog 22 #[.slice A xs.length cap, .int .i64 a] w fun e w' => e = .returned (.int .i64 ((k0 + cnL xs : Nat) : Int)) ∧ Below w.heap.size w w' := by
  subst ha
  unfold maxLen at hl
  go_enter Tryz.func22, Tryz.ntmps22
  go_wp2
  go_loopw [1, 5] (fun l i wr => ∃ k : Nat, k ≤ xs.length ∧ i = .int .i64 k ∧ l = .int .i64 ((k0 + cnL (xs.take k) : Nat) : Int) ∧ Below w.heap.size w wr) (fun _ i _ => xs.length - (intOf i).toNat)
  case atStart => exact ⟨0, Nat.zero_le _, rfl, by simp [cnL], Below.refl _ _⟩
  case round =>
    obtain ⟨k, hkk, rfl, rfl, hb⟩ := hrel
    have hz := hb.size
    by_cases hlt : k < xs.length
    · have hlt2 : k < (meL xs k0).length := by simpa using hlt
      have hne : meL xs k0 ≠ [] := by intro h; rw [h] at hlt2; simp at hlt2
      obtain ⟨b1, o1, rfl, _, T1, _, _, he1⟩ := hx hne
      obtain ⟨c1, ha1, hr1⟩ := he1 k hlt2
      have hl1 := ha1.lt (by rintro rfl; have := Lay.len hr1; cases this)
      rw [meL_get xs k0 k hlt] at hr1
      have hcs := cnL_take_succ xs k hlt
      have hcl := cnL_take_le xs (k + 1)
      generalize hK : k0 + cnL (xs.take k) = K at hr1
      generalize xs[k] = x at hr1 hcs
      rw [show Mk.cn x = Seal.cn x from rfl] at hcs
      have hs2 : Hid (k0 + cnL (xs.take (k + 1)) = K + Seal.cn x) := Lib.hid (by omega)
      have hKb : K + Seal.cn x ≤ 4611686018427387904 := by omega
      unfold Seal.cn at hKb
      clear hcs hK hcl he1 hx
      have hc0 := fun o => hb.cell (p := ⟨b1, o, none⟩) hl1
      have hr1 : rd false w c1 (Seal.me x K) (T1 k) := hr1
      obtain ⟨eA0, ek0, eS0, eA1, ek1, eS1, eA2, ek2, eS2, rfl, ef0, ef1, ef2, ef3, ef4, ea0, eb0, er0, es0, ea1, eb1, er1, es1, ea2, eb2, er2, es2, epw⟩ := Seal.open hr1
      have q0 : w.cell? ⟨b1, o1 + k * 8, none⟩ = some (.int .i64 (((K : Nat)) : Int)) := by have := ha1 0 _ rfl; simpa [show Lay.n Seal = 8 from rfl, Seal.me, Int.natCast_add] using this
      have q1 : w.cell? ⟨b1, o1 + k * 8 + 1, none⟩ = some (.int .i64 (((K + 1 : Nat)) : Int)) := by have := ha1 1 _ rfl; simpa [show Lay.n Seal = 8 from rfl, Seal.me, Int.natCast_add] using this
      have q2 : w.cell? ⟨b1, o1 + k * 8 + 2, none⟩ = some (.string (mtext (K + 1 + 1))) := by have := ha1 2 _ rfl; simpa [show Lay.n Seal = 8 from rfl, Seal.me] using this
      have q3 : w.cell? ⟨b1, o1 + k * 8 + 3, none⟩ = some (.string (mtext (K + 1 + 1 + 1))) := by have := ha1 3 _ rfl; simpa [show Lay.n Seal = 8 from rfl, Seal.me] using this
      have q4 : w.cell? ⟨b1, o1 + k * 8 + 4, none⟩ = some (.int .i64 (((K + 1 + 1 + 1 + 1 : Nat)) : Int)) := by have := ha1 4 _ rfl; simpa [show Lay.n Seal = 8 from rfl, Seal.me, Int.natCast_add] using this
      have q5 : w.cell? ⟨b1, o1 + k * 8 + 5, none⟩ = some (.slice eA0 x.sig.open_.length ek0) := by have := ha1 5 _ rfl; simpa [show Lay.n Seal = 8 from rfl, Seal.me] using this
      have q6 : w.cell? ⟨b1, o1 + k * 8 + 6, none⟩ = some (.slice eA1 x.sig.shut.length ek1) := by have := ha1 6 _ rfl; simpa [show Lay.n Seal = 8 from rfl, Seal.me] using this
      have q7 : w.cell? ⟨b1, o1 + k * 8 + 7, none⟩ = some (.slice eA2 x.sig.sides.length ek2) := by have := ha1 7 _ rfl; simpa [show Lay.n Seal = 8 from rfl, Seal.me] using this
      have er0_ : Row false w eA0 ek0 (meL x.sig.open_ (K + 1 + 1 + 1 + 1 + 1)) eS0 := er0
      have ea0_ : x.sig.open_.length ≤ ek0 := by have := ea0; simpa [Seal.me] using this
      have er1_ : Row false w eA1 ek1 (meL x.sig.shut (K + 1 + 1 + 1 + 1 + 1 + cnL x.sig.open_)) eS1 := er1
      have ea1_ : x.sig.shut.length ≤ ek1 := by have := ea1; simpa [Seal.me] using this
      have er2_ : Row false w eA2 ek2 (meL x.sig.sides (K + 1 + 1 + 1 + 1 + 1 + cnL x.sig.open_ + cnL x.sig.shut)) eS2 := er2
      have ea2_ : x.sig.sides.length ≤ ek2 := by have := ea2; simpa [Seal.me] using this
      generalize hK1 : K + 1 + 1 + 1 + 1 + 1 + cnL x.sig.open_ = K1 at *
      have HK1 := Lib.hid hK1; clear hK1
      generalize hK2 : K1 + cnL x.sig.shut = K2 at *
      have HK2 := Lib.hid hK2; clear hK2
      generalize hK3 : K2 + cnL x.sig.sides = K3 at *
      have HK3 := Lib.hid hK3; clear hK3
      have hKb1 : K1 + 0 ≤ 4611686018427387904 := by have := HK1.out; have := HK2.out; have := HK3.out; omega
      have hKb2 : K2 + 0 ≤ 4611686018427387904 := by have := HK1.out; have := HK2.out; have := HK3.out; omega
      have hKb3 : K3 + 0 ≤ 4611686018427387904 := by have := HK1.out; have := HK2.out; have := HK3.out; omega
      clear ha1 er0 er1 er2
      go_wp2_with (fail)
      go_region_held3 (fun w' => w'.cell? ⟨b1, o1 + k * 8 + 2, none⟩ = some (.string (mtext (K + 1 + 1))) ∧ Below w.heap.size w w')
        (first | (refine And.intro ?_ ?_ <;> first | exact hb.drew | exact (hb.drew.cell (p := ⟨b1, o1 + k * 8 + 2, none⟩) hl1).trans q2 | exact (hb1.cell (p := ⟨b1, o1 + k * 8 + 2, none⟩) (by simp; omega)).trans ((hb.drew.cell (p := ⟨b1, o1 + k * 8 + 2, none⟩) hl1).trans q2) | exact hb.drew.trans (hb1.mono (by simp; omega)) | (go_keep; done)))
        ((go_at_call 61; refine (mark_Text _ (K + 1 + 1) (by first | rfl | omega | (simp; done)) (by omega) _).mono ?_; rintro e1 w1 ⟨rfl, hb1⟩))
      have hB1 : Below w.heap.size w w1 := hb.drew.trans (hb1.mono (by simp; omega))
      have hz1 := hB1.size
      have hc1 := fun o => hB1.cell (p := ⟨b1, o, none⟩) hl1
      go_wp2_with (fail)
      go_region_held3 (fun w' => w'.cell? ⟨b1, o1 + k * 8 + 3, none⟩ = some (.string (mtext (K + 1 + 1 + 1))) ∧ Below w.heap.size w w')
        (first | (refine And.intro ?_ ?_ <;> first | exact hB1.drew | exact (hB1.drew.cell (p := ⟨b1, o1 + k * 8 + 3, none⟩) hl1).trans q3 | exact (hb2.cell (p := ⟨b1, o1 + k * 8 + 3, none⟩) (by simp; omega)).trans ((hB1.drew.cell (p := ⟨b1, o1 + k * 8 + 3, none⟩) hl1).trans q3) | exact hB1.drew.trans (hb2.mono (by simp; omega)) | (go_keep; done)))
        ((go_at_call 61; refine (mark_Text _ (K + 1 + 1 + 1) (by first | rfl | omega | (simp; done)) (by omega) _).mono ?_; rintro e2 w2 ⟨rfl, hb2⟩))
      have hB2 : Below w.heap.size w w2 := hB1.drew.trans (hb2.mono (by simp; omega))
      have hz2 := hB2.size
      have hc2 := fun o => hB2.cell (p := ⟨b1, o, none⟩) hl1
      go_wp2_with (fail)
      refine (held_StringS x.sig.open_ _ _ _ _ _ (K + 1 + 1 + 1 + 1 + 1) (by first | rfl | omega | (simp; done)) (by have := HK1.out; omega) (er0_.later (by (repeat (first | exact hB2 | exact Below.refl _ _ | apply Below.drew | refine Below.alloc ?_ (by first | with_reducible exact Nat.le_refl _ | omega | (simp; done) | (simp; omega)) _)))) (Nat.le_trans ea0_ eb0)).mono ?_
      rw [HK1.out]
      rintro e3 w3 ⟨rfl, hb3⟩
      have hB3 : Below w.heap.size w w3 := by refine Below.trans ?_ (hb3.mono ?_) <;> first | ((repeat (first | exact hB2 | exact Below.refl _ _ | apply Below.drew | refine Below.alloc ?_ (by first | with_reducible exact Nat.le_refl _ | omega | (simp; done) | (simp; omega)) _)); done) | (first | with_reducible exact Nat.le_refl _ | omega | (simp; done) | (simp; omega))
      have hz3 := hB3.size
      have hc3 := fun o => hB3.cell (p := ⟨b1, o, none⟩) hl1
      go_wp2_with (fail)
      refine (held_StringS x.sig.shut _ _ _ _ _ (K1) (by first | rfl | omega | (simp; done)) (by have := HK2.out; omega) (er1_.later (by (repeat (first | exact hB3 | exact Below.refl _ _ | apply Below.drew | refine Below.alloc ?_ (by first | with_reducible exact Nat.le_refl _ | omega | (simp; done) | (simp; omega)) _)))) (Nat.le_trans ea1_ eb1)).mono ?_
      rw [HK2.out]
      rintro e4 w4 ⟨rfl, hb4⟩
      have hB4 : Below w.heap.size w w4 := by refine Below.trans ?_ (hb4.mono ?_) <;> first | ((repeat (first | exact hB3 | exact Below.refl _ _ | apply Below.drew | refine Below.alloc ?_ (by first | with_reducible exact Nat.le_refl _ | omega | (simp; done) | (simp; omega)) _)); done) | (first | with_reducible exact Nat.le_refl _ | omega | (simp; done) | (simp; omega))
      have hz4 := hB4.size
      have hc4 := fun o => hB4.cell (p := ⟨b1, o, none⟩) hl1
      go_wp2_with (fail)
      refine (held_StringS x.sig.sides _ _ _ _ _ (K2) (by first | rfl | omega | (simp; done)) (by have := HK3.out; omega) (er2_.later (by (repeat (first | exact hB4 | exact Below.refl _ _ | apply Below.drew | refine Below.alloc ?_ (by first | with_reducible exact Nat.le_refl _ | omega | (simp; done) | (simp; omega)) _)))) (Nat.le_trans ea2_ eb2)).mono ?_
      rw [HK3.out]
      rintro e5 w5 ⟨rfl, hb5⟩
      have hB5 : Below w.heap.size w w5 := by refine Below.trans ?_ (hb5.mono ?_) <;> first | ((repeat (first | exact hB4 | exact Below.refl _ _ | apply Below.drew | refine Below.alloc ?_ (by first | with_reducible exact Nat.le_refl _ | omega | (simp; done) | (simp; omega)) _)); done) | (first | with_reducible exact Nat.le_refl _ | omega | (simp; done) | (simp; omega))
      have hz5 := hB5.size
      have hc5 := fun o => hB5.cell (p := ⟨b1, o, none⟩) hl1
      go_wp2
      go_roundw
      case rel => exact ⟨k + 1, by omega, by go_num, by rw [hs2.out]; first | go_num | (congr 1; unfold Seal.cn; have := HK1.out; have := HK2.out; have := HK3.out; omega), by (repeat (first | exact hB5 | exact Below.refl _ _ | apply Below.drew | refine Below.alloc ?_ (by first | with_reducible exact Nat.le_refl _ | omega | (simp; done) | (simp; omega)) _))⟩
      case measure => simp [intOf]; omega
    · have hke : k = xs.length := by omega
      go_wp2
      go_ret; refine ⟨?_, hb⟩; subst hke; rw [List.take_of_length_le (Nat.le_refl _)]; rfl
end Go.Proofs.YthgonaodmpegfaaGreat
