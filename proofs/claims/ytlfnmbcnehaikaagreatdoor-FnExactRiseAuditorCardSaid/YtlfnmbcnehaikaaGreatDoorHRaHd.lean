/- A part of the proof: what the laws need of it. -/
import Derived.Deep.RegionHeld3
import Derived.Test.YtlfnmbcnehaikaaGreatDoorHRaL4xBr
import Derived.Test.YtlfnmbcnehaikaaGreatDoorHRaTy
set_option linter.unusedVariables false
set_option linter.unusedSimpArgs false
set_option linter.unusedVariables false
set_option linter.unusedSimpArgs false
namespace Go.Proofs.YtlfnmbcnehaikaaGreatDoor
open Go.RowKit Lay Mk
set_option maxRecDepth 40000 in set_option maxHeartbeats 4000000 in
theorem held_FileS (xs : List File) (w : World) (A : Option Addr) (cap : Nat) (S : Blks) (a : Int) (k0 : Nat) (ha : a = (k0 : Int)) (hk : k0 + cnL xs ≤ 4611686018427387904) (hx : Row false w A cap (meL xs k0) S) (hl : xs.length ≤ maxLen) :
    Calls Tryz.prog 89 #[.slice A xs.length cap, .int .i64 a] w fun e w' => e = .returned (.int .i64 ((k0 + cnL xs : Nat) : Int)) ∧ Below w.heap.size w w' := by
  subst ha
  unfold maxLen at hl
  go_enter Tryz.func89, Tryz.ntmps89
  go_wp2
  go_loopw [1, 5] (fun l i wr => ∃ k : Nat, k ≤ xs.length ∧ i = .int .i64 k ∧ l = .int .i64 ((k0 + cnL (xs.take k) : Nat) : Int) ∧ Below w.heap.size w wr) (fun _ i _ => xs.length - (intOf i).toNat)
  case atStart => exact ⟨0, Nat.zero_le _, rfl, by simp [cnL], Below.refl _ _⟩
  case round =>
    obtain ⟨k, hkk, rfl, rfl, hb⟩ := hrel
    have hz := hb.size
    by_cases hlt : k < xs.length
    · have hlt2 : k < (meL xs k0).length := by simpa using hlt
      have hne : meL xs k0 ≠ [] := by intro h; rw [h] at hlt2; simp at hlt2
      obtain ⟨b1, o1, rfl, _, T1, _, _, he1⟩ := hx hne
      obtain ⟨c1, ha1, hr1⟩ := he1 k hlt2
      have hl1 := ha1.lt (by rintro rfl; have := Lay.len hr1; cases this)
      rw [meL_get xs k0 k hlt] at hr1
      have hcs := cnL_take_succ xs k hlt
      have hcl := cnL_take_le xs (k + 1)
      generalize hK : k0 + cnL (xs.take k) = K at hr1
      generalize xs[k] = x at hr1 hcs
      rw [show Mk.cn x = File.cn x from rfl] at hcs
      have hs2 : Hid (k0 + cnL (xs.take (k + 1)) = K + File.cn x) := Lib.hid (by omega)
      have hKb : K + File.cn x ≤ 4611686018427387904 := by omega
      unfold File.cn at hKb
      clear hcs hK hcl he1 hx
      have hc0 := fun o => hb.cell (p := ⟨b1, o, none⟩) hl1
      have hr1 : rd false w c1 (File.me x K) (T1 k) := hr1
      obtain ⟨rfl, ef0, ef1, ef2⟩ := File.open hr1
      have q0 : w.cell? ⟨b1, o1 + k * 3, none⟩ = some (.string (mtext (K))) := by have := ha1 0 _ rfl; simpa [show Lay.n File = 3 from rfl, File.me] using this
      have q1 : w.cell? ⟨b1, o1 + k * 3 + 1, none⟩ = some (.string (mtext (K + 1))) := by have := ha1 1 _ rfl; simpa [show Lay.n File = 3 from rfl, File.me] using this
      have q2 : w.cell? ⟨b1, o1 + k * 3 + 2, none⟩ = some (.int .i64 (((K + 1 + 1 : Nat)) : Int)) := by have := ha1 2 _ rfl; simpa [show Lay.n File = 3 from rfl, File.me, Int.natCast_add] using this
      clear ha1
      go_wp2_with (fail)
      go_region_held3 (fun w' => w'.cell? ⟨b1, o1 + k * 3, none⟩ = some (.string (mtext (K))) ∧ Below w.heap.size w w')
        (first | (refine And.intro ?_ ?_ <;> first | exact hb.drew | exact (hb.drew.cell (p := ⟨b1, o1 + k * 3, none⟩) hl1).trans q0 | exact (hb1.cell (p := ⟨b1, o1 + k * 3, none⟩) (by simp; omega)).trans ((hb.drew.cell (p := ⟨b1, o1 + k * 3, none⟩) hl1).trans q0) | exact hb.drew.trans (hb1.mono (by simp; omega)) | (go_keep; done)))
        ((go_at_call 73; refine (mark_Text _ (K) (by first | rfl | omega | (simp; done)) (by omega) _).mono ?_; rintro e1 w1 ⟨rfl, hb1⟩))
      have hB1 : Below w.heap.size w w1 := hb.drew.trans (hb1.mono (by simp; omega))
      have hz1 := hB1.size
      have hc1 := fun o => hB1.cell (p := ⟨b1, o, none⟩) hl1
      go_wp2_with (fail)
      go_region_held3 (fun w' => w'.cell? ⟨b1, o1 + k * 3 + 1, none⟩ = some (.string (mtext (K + 1))) ∧ Below w.heap.size w w')
        (first | (refine And.intro ?_ ?_ <;> first | exact hB1.drew | exact (hB1.drew.cell (p := ⟨b1, o1 + k * 3 + 1, none⟩) hl1).trans q1 | exact (hb2.cell (p := ⟨b1, o1 + k * 3 + 1, none⟩) (by simp; omega)).trans ((hB1.drew.cell (p := ⟨b1, o1 + k * 3 + 1, none⟩) hl1).trans q1) | exact hB1.drew.trans (hb2.mono (by simp; omega)) | (go_keep; done)))
        ((go_at_call 73; refine (mark_Text _ (K + 1) (by first | rfl | omega | (simp; done)) (by omega) _).mono ?_; rintro e2 w2 ⟨rfl, hb2⟩))
      have hB2 : Below w.heap.size w w2 := hB1.drew.trans (hb2.mono (by simp; omega))
      have hz2 := hB2.size
      have hc2 := fun o => hB2.cell (p := ⟨b1, o, none⟩) hl1
      go_wp2
      go_roundw
      case rel => exact ⟨k + 1, by omega, by go_num, by first | (rw [hs2.out]; done) | rw [hs2.out]; first | go_num | (congr 1; unfold File.cn; omega), by (repeat (first | exact hB2 | exact Below.refl _ _ | apply Below.drew | refine Below.alloc ?_ (by first | with_reducible exact Nat.le_refl _ | omega | (simp; done) | (simp; omega)) _))⟩
      case measure => simp [intOf]; omega
    · have hke : k = xs.length := by omega
      go_wp2
      go_ret; refine ⟨?_, hb⟩; subst hke; rw [List.take_of_length_le (Nat.le_refl _)]; rfl
set_option maxRecDepth 40000 in set_option maxHeartbeats 2000000 in
theorem held_Disk (x : Disk) (w : World) (cs : List Value) (S : Blks) (a : Int) (k : Nat) (ha : a = (k : Int)) (hk : k + x.ct ≤ 4611686018427387904) (hx : rd false w cs (x.mt k) S) :
    Calls Tryz.prog 42 #[.agg cs.toArray, .int .i64 a] w fun e w' => e = .returned (.int .i64 ((k + x.ct : Nat) : Int)) ∧ Below w.heap.size w w' := by
  subst ha
  obtain ⟨A0, k0, S0, rfl, a0, b0, r0, s0⟩ := Disk.open hx
  clear hx
  unfold Disk.ct at hk
  simp only [Disk.cs, Disk.mt, meL_length]
  have R0 : Row false w A0 k0 (meL x.files (k)) S0 := r0
  have L0 : x.files.length ≤ maxLen := by have := Nat.le_trans a0 b0; simpa [Disk.mt] using this
  clear r0
  generalize hK0 : k + cnL x.files = K0 at *
  have HK0 := Lib.hid hK0; clear hK0
  have hfin : Hid (((k + x.ct : Nat) : Int) = (K0 : Int)) := Lib.hid (by unfold Disk.ct; have := HK0.out; omega)
  rw [hfin.out]
  go_enter Tryz.func42, Tryz.ntmps42
  go_wp2_with (fail)
  refine (held_FileS x.files _ _ _ _ _ k (by first | rfl | omega) (by have := HK0.out; omega) (R0.later (by (repeat (first | exact Below.refl _ _ | apply Below.drew | refine Below.alloc ?_ (by first | with_reducible exact Nat.le_refl _ | omega | (simp; done) | (simp; omega)) _)))) L0).mono ?_
  rw [HK0.out]
  rintro e1 w1 ⟨rfl, hb1⟩
  have hB1 : Below w.heap.size w w1 := by refine Below.trans (b := _) ?_ (hb1.mono ?_) <;> first | (repeat (first | exact Below.refl _ _ | apply Below.drew | refine Below.alloc ?_ (by first | with_reducible exact Nat.le_refl _ | omega | (simp; done) | (simp; omega)) _)); done | (first | with_reducible exact Nat.le_refl _ | omega | (simp; done) | (simp; omega))
  have hz1 : w.heap.size + 1 ≤ w1.heap.size := by have := hb1.size; (try simp at this); omega
  have hc1 := fun o => hb1.cell (p := ⟨w.heap.size, o, none⟩) (by first | with_reducible exact Nat.le_refl _ | omega | (simp; done) | (simp; omega))
  go_wp2
  go_ret; exact ⟨rfl, by (repeat (first | exact hB1 | exact Below.refl _ _ | apply Below.drew | refine Below.alloc ?_ (by first | with_reducible exact Nat.le_refl _ | omega | (simp; done) | (simp; omega)) _))⟩
set_option maxRecDepth 40000 in set_option maxHeartbeats 4000000 in
theorem held_StringS (xs : List ByteArray) (w : World) (A : Option Addr) (cap : Nat) (S : Blks) (a : Int) (k0 : Nat) (ha : a = (k0 : Int)) (hk : k0 + cnL xs ≤ 4611686018427387904) (hx : Row false w A cap (meL xs k0) S) (hl : xs.length ≤ maxLen) :
    Calls Tryz.prog 43 #[.slice A xs.length cap, .int .i64 a] w fun e w' => e = .returned (.int .i64 ((k0 + cnL xs : Nat) : Int)) ∧ Below w.heap.size w w' := by
  subst ha
  unfold maxLen at hl
  go_enter Tryz.func43, Tryz.ntmps43
  go_wp2
  go_loopw [1, 5] (fun l i wr => ∃ k : Nat, k ≤ xs.length ∧ i = .int .i64 k ∧ l = .int .i64 ((k0 + cnL (xs.take k) : Nat) : Int) ∧ Below w.heap.size w wr) (fun _ i _ => xs.length - (intOf i).toNat)
  case atStart => exact ⟨0, Nat.zero_le _, rfl, by simp [cnL], Below.refl _ _⟩
  case round =>
    obtain ⟨k, hkk, rfl, rfl, hb⟩ := hrel
    have hz := hb.size
    by_cases hlt : k < xs.length
    · have hlt2 : k < (meL xs k0).length := by simpa using hlt
      have hne : meL xs k0 ≠ [] := by intro h; rw [h] at hlt2; simp at hlt2
      obtain ⟨b1, o1, rfl, _, T1, _, _, he1⟩ := hx hne
      obtain ⟨c1, ha1, hr1⟩ := he1 k hlt2
      have hl1 := ha1.lt (by rintro rfl; have := Lay.len hr1; cases this)
      rw [meL_get xs k0 k hlt] at hr1
      have hcs := cnL_take_succ xs k hlt
      have hcl := cnL_take_le xs (k + 1)
      generalize hK : k0 + cnL (xs.take k) = K at hr1
      generalize xs[k] = x at hr1 hcs
      rw [show Mk.cn x = 1 from rfl] at hcs
      have hs2 : Hid (k0 + cnL (xs.take (k + 1)) = K + 1) := Lib.hid (by omega)
      have hKb : K + 1 ≤ 4611686018427387904 := by omega
      clear hcs hK hcl he1 hx
      have hc0 := fun o => hb.cell (p := ⟨b1, o, none⟩) hl1
      have hr1 : rd false w c1 (mtext K) (T1 k) := hr1
      obtain ⟨rfl, _⟩ := open_str hr1
      clear hr1
      have q0 : w.cell? ⟨b1, o1 + k, none⟩ = some (.string (mtext (K))) := by have := ha1 0 _ rfl; simpa [show Lay.n ByteArray = 1 from rfl] using this
      clear ha1
      go_wp2_with (fail)
      go_region_held3 (fun w' => w'.cell? ⟨b1, o1 + k, none⟩ = some (.string (mtext (K))) ∧ Below w.heap.size w w')
        (first | (refine And.intro ?_ ?_ <;> first | exact hb.drew | exact (hb.drew.cell (p := ⟨b1, o1 + k, none⟩) hl1).trans q0 | exact (hb1.cell (p := ⟨b1, o1 + k, none⟩) (by simp; omega)).trans ((hb.drew.cell (p := ⟨b1, o1 + k, none⟩) hl1).trans q0) | exact hb.drew.trans (hb1.mono (by simp; omega)) | (go_keep; done)))
        ((go_at_call 73; refine (mark_Text _ (K) (by first | rfl | omega | (simp; done)) (by omega) _).mono ?_; rintro e1 w1 ⟨rfl, hb1⟩))
      have hB1 : Below w.heap.size w w1 := hb.drew.trans (hb1.mono (by simp; omega))
      have hz1 := hB1.size
      have hc1 := fun o => hB1.cell (p := ⟨b1, o, none⟩) hl1
      go_wp2
      go_roundw
      case rel => exact ⟨k + 1, by omega, by go_num, by first | (rw [hs2.out]; done) | rw [hs2.out]; first | go_num | (congr 1; omega), by (repeat (first | exact hB1 | exact Below.refl _ _ | apply Below.drew | refine Below.alloc ?_ (by first | with_reducible exact Nat.le_refl _ | omega | (simp; done) | (simp; omega)) _))⟩
      case measure => simp [intOf]; omega
    · have hke : k = xs.length := by omega
      go_wp2
      go_ret; refine ⟨?_, hb⟩; subst hke; rw [List.take_of_length_le (Nat.le_refl _)]; rfl
set_option maxRecDepth 40000 in set_option maxHeartbeats 4000000 in
theorem held_SealS (xs : List Seal) (w : World) (A : Option Addr) (cap : Nat) (S : Blks) (a : Int) (k0 : Nat) (ha : a = (k0 : Int)) (hk : k0 + cnL xs ≤ 4611686018427387904) (hx : Row false w A cap (meL xs k0) S) (hl : xs.length ≤ maxLen) :
    Calls Tryz.prog 44 #[.slice A xs.length cap, .int .i64 a] w fun e w' => e = .returned (.int .i64 ((k0 + cnL xs : Nat) : Int)) ∧ Below w.heap.size w w' := by
  subst ha
  unfold maxLen at hl
  go_enter Tryz.func44, Tryz.ntmps44
  go_wp2
  go_loopw [1, 5] (fun l i wr => ∃ k : Nat, k ≤ xs.length ∧ i = .int .i64 k ∧ l = .int .i64 ((k0 + cnL (xs.take k) : Nat) : Int) ∧ Below w.heap.size w wr) (fun _ i _ => xs.length - (intOf i).toNat)
  case atStart => exact ⟨0, Nat.zero_le _, rfl, by simp [cnL], Below.refl _ _⟩
  case round =>
    obtain ⟨k, hkk, rfl, rfl, hb⟩ := hrel
    have hz := hb.size
    by_cases hlt : k < xs.length
    · have hlt2 : k < (meL xs k0).length := by simpa using hlt
      have hne : meL xs k0 ≠ [] := by intro h; rw [h] at hlt2; simp at hlt2
      obtain ⟨b1, o1, rfl, _, T1, _, _, he1⟩ := hx hne
      obtain ⟨c1, ha1, hr1⟩ := he1 k hlt2
      have hl1 := ha1.lt (by rintro rfl; have := Lay.len hr1; cases this)
      rw [meL_get xs k0 k hlt] at hr1
      have hcs := cnL_take_succ xs k hlt
      have hcl := cnL_take_le xs (k + 1)
      generalize hK : k0 + cnL (xs.take k) = K at hr1
      generalize xs[k] = x at hr1 hcs
      rw [show Mk.cn x = Seal.cn x from rfl] at hcs
      have hs2 : Hid (k0 + cnL (xs.take (k + 1)) = K + Seal.cn x) := Lib.hid (by omega)
      have hKb : K + Seal.cn x ≤ 4611686018427387904 := by omega
      unfold Seal.cn at hKb
      clear hcs hK hcl he1 hx
      have hc0 := fun o => hb.cell (p := ⟨b1, o, none⟩) hl1
      have hr1 : rd false w c1 (Seal.me x K) (T1 k) := hr1
      obtain ⟨eA0, ek0, eS0, eA1, ek1, eS1, eA2, ek2, eS2, rfl, ef0, ef1, ef2, ef3, ef4, ea0, eb0, er0, es0, ea1, eb1, er1, es1, ea2, eb2, er2, es2, epw⟩ := Seal.open hr1
      have q0 : w.cell? ⟨b1, o1 + k * 8, none⟩ = some (.int .i64 (((K : Nat)) : Int)) := by have := ha1 0 _ rfl; simpa [show Lay.n Seal = 8 from rfl, Seal.me, Int.natCast_add] using this
      have q1 : w.cell? ⟨b1, o1 + k * 8 + 1, none⟩ = some (.int .i64 (((K + 1 : Nat)) : Int)) := by have := ha1 1 _ rfl; simpa [show Lay.n Seal = 8 from rfl, Seal.me, Int.natCast_add] using this
      have q2 : w.cell? ⟨b1, o1 + k * 8 + 2, none⟩ = some (.string (mtext (K + 1 + 1))) := by have := ha1 2 _ rfl; simpa [show Lay.n Seal = 8 from rfl, Seal.me] using this
      have q3 : w.cell? ⟨b1, o1 + k * 8 + 3, none⟩ = some (.string (mtext (K + 1 + 1 + 1))) := by have := ha1 3 _ rfl; simpa [show Lay.n Seal = 8 from rfl, Seal.me] using this
      have q4 : w.cell? ⟨b1, o1 + k * 8 + 4, none⟩ = some (.int .i64 (((K + 1 + 1 + 1 + 1 : Nat)) : Int)) := by have := ha1 4 _ rfl; simpa [show Lay.n Seal = 8 from rfl, Seal.me, Int.natCast_add] using this
      have q5 : w.cell? ⟨b1, o1 + k * 8 + 5, none⟩ = some (.slice eA0 x.sig.open_.length ek0) := by have := ha1 5 _ rfl; simpa [show Lay.n Seal = 8 from rfl, Seal.me] using this
      have q6 : w.cell? ⟨b1, o1 + k * 8 + 6, none⟩ = some (.slice eA1 x.sig.shut.length ek1) := by have := ha1 6 _ rfl; simpa [show Lay.n Seal = 8 from rfl, Seal.me] using this
      have q7 : w.cell? ⟨b1, o1 + k * 8 + 7, none⟩ = some (.slice eA2 x.sig.sides.length ek2) := by have := ha1 7 _ rfl; simpa [show Lay.n Seal = 8 from rfl, Seal.me] using this
      have er0_ : Row false w eA0 ek0 (meL x.sig.open_ (K + 1 + 1 + 1 + 1 + 1)) eS0 := er0
      have ea0_ : x.sig.open_.length ≤ ek0 := by have := ea0; simpa [Seal.me] using this
      have er1_ : Row false w eA1 ek1 (meL x.sig.shut (K + 1 + 1 + 1 + 1 + 1 + cnL x.sig.open_)) eS1 := er1
      have ea1_ : x.sig.shut.length ≤ ek1 := by have := ea1; simpa [Seal.me] using this
      have er2_ : Row false w eA2 ek2 (meL x.sig.sides (K + 1 + 1 + 1 + 1 + 1 + cnL x.sig.open_ + cnL x.sig.shut)) eS2 := er2
      have ea2_ : x.sig.sides.length ≤ ek2 := by have := ea2; simpa [Seal.me] using this
      generalize hK1 : K + 1 + 1 + 1 + 1 + 1 + cnL x.sig.open_ = K1 at *
      have HK1 := Lib.hid hK1; clear hK1
      generalize hK2 : K1 + cnL x.sig.shut = K2 at *
      have HK2 := Lib.hid hK2; clear hK2
      generalize hK3 : K2 + cnL x.sig.sides = K3 at *
      have HK3 := Lib.hid hK3; clear hK3
      have hKb1 : K1 + 0 ≤ 4611686018427387904 := by have := HK1.out; have := HK2.out; have := HK3.out; omega
      have hKb2 : K2 + 0 ≤ 4611686018427387904 := by have := HK1.out; have := HK2.out; have := HK3.out; omega
      have hKb3 : K3 + 0 ≤ 4611686018427387904 := by have := HK1.out; have := HK2.out; have := HK3.out; omega
      clear ha1 er0 er1 er2
      go_wp2_with (fail)
      go_region_held3 (fun w' => w'.cell? ⟨b1, o1 + k * 8 + 2, none⟩ = some (.string (mtext (K + 1 + 1))) ∧ Below w.heap.size w w')
        (first | (refine And.intro ?_ ?_ <;> first | exact hb.drew | exact (hb.drew.cell (p := ⟨b1, o1 + k * 8 + 2, none⟩) hl1).trans q2 | exact (hb1.cell (p := ⟨b1, o1 + k * 8 + 2, none⟩) (by simp; omega)).trans ((hb.drew.cell (p := ⟨b1, o1 + k * 8 + 2, none⟩) hl1).trans q2) | exact hb.drew.trans (hb1.mono (by simp; omega)) | (go_keep; done)))
        ((go_at_call 73; refine (mark_Text _ (K + 1 + 1) (by first | rfl | omega | (simp; done)) (by omega) _).mono ?_; rintro e1 w1 ⟨rfl, hb1⟩))
      have hB1 : Below w.heap.size w w1 := hb.drew.trans (hb1.mono (by simp; omega))
      have hz1 := hB1.size
      have hc1 := fun o => hB1.cell (p := ⟨b1, o, none⟩) hl1
      go_wp2_with (fail)
      go_region_held3 (fun w' => w'.cell? ⟨b1, o1 + k * 8 + 3, none⟩ = some (.string (mtext (K + 1 + 1 + 1))) ∧ Below w.heap.size w w')
        (first | (refine And.intro ?_ ?_ <;> first | exact hB1.drew | exact (hB1.drew.cell (p := ⟨b1, o1 + k * 8 + 3, none⟩) hl1).trans q3 | exact (hb2.cell (p := ⟨b1, o1 + k * 8 + 3, none⟩) (by simp; omega)).trans ((hB1.drew.cell (p := ⟨b1, o1 + k * 8 + 3, none⟩) hl1).trans q3) | exact hB1.drew.trans (hb2.mono (by simp; omega)) | (go_keep; done)))
        ((go_at_call 73; refine (mark_Text _ (K + 1 + 1 + 1) (by first | rfl | omega | (simp; done)) (by omega) _).mono ?_; rintro e2 w2 ⟨rfl, hb2⟩))
      have hB2 : Below w.heap.size w w2 := hB1.drew.trans (hb2.mono (by simp; omega))
      have hz2 := hB2.size
      have hc2 := fun o => hB2.cell (p := ⟨b1, o, none⟩) hl1
      go_wp2_with (fail)
      refine (held_StringS x.sig.open_ _ _ _ _ _ (K + 1 + 1 + 1 + 1 + 1) (by first | rfl | omega | (simp; done)) (by have := HK1.out; omega) (er0_.later (by (repeat (first | exact hB2 | exact Below.refl _ _ | apply Below.drew | refine Below.alloc ?_ (by first | with_reducible exact Nat.le_refl _ | omega | (simp; done) | (simp; omega)) _)))) (Nat.le_trans ea0_ eb0)).mono ?_
      rw [HK1.out]
      rintro e3 w3 ⟨rfl, hb3⟩
      have hB3 : Below w.heap.size w w3 := by refine Below.trans ?_ (hb3.mono ?_) <;> first | ((repeat (first | exact hB2 | exact Below.refl _ _ | apply Below.drew | refine Below.alloc ?_ (by first | with_reducible exact Nat.le_refl _ | omega | (simp; done) | (simp; omega)) _)); done) | (first | with_reducible exact Nat.le_refl _ | omega | (simp; done) | (simp; omega))
      have hz3 := hB3.size
      have hc3 := fun o => hB3.cell (p := ⟨b1, o, none⟩) hl1
      go_wp2_with (fail)
      refine (held_StringS x.sig.shut _ _ _ _ _ (K1) (by first | rfl | omega | (simp; done)) (by have := HK2.out; omega) (er1_.later (by (repeat (first | exact hB3 | exact Below.refl _ _ | apply Below.drew | refine Below.alloc ?_ (by first | with_reducible exact Nat.le_refl _ | omega | (simp; done) | (simp; omega)) _)))) (Nat.le_trans ea1_ eb1)).mono ?_
      rw [HK2.out]
      rintro e4 w4 ⟨rfl, hb4⟩
      have hB4 : Below w.heap.size w w4 := by refine Below.trans ?_ (hb4.mono ?_) <;> first | ((repeat (first | exact hB3 | exact Below.refl _ _ | apply Below.drew | refine Below.alloc ?_ (by first | with_reducible exact Nat.le_refl _ | omega | (simp; done) | (simp; omega)) _)); done) | (first | with_reducible exact Nat.le_refl _ | omega | (simp; done) | (simp; omega))
      have hz4 := hB4.size
      have hc4 := fun o => hB4.cell (p := ⟨b1, o, none⟩) hl1
      go_wp2_with (fail)
      refine (held_StringS x.sig.sides _ _ _ _ _ (K2) (by first | rfl | omega | (simp; done)) (by have := HK3.out; omega) (er2_.later (by (repeat (first | exact hB4 | exact Below.refl _ _ | apply Below.drew | refine Below.alloc ?_ (by first | with_reducible exact Nat.le_refl _ | omega | (simp; done) | (simp; omega)) _)))) (Nat.le_trans ea2_ eb2)).mono ?_
      rw [HK3.out]
      rintro e5 w5 ⟨rfl, hb5⟩
      have hB5 : Below w.heap.size w w5 := by refine Below.trans ?_ (hb5.mono ?_) <;> first | ((repeat (first | exact hB4 | exact Below.refl _ _ | apply Below.drew | refine Below.alloc ?_ (by first | with_reducible exact Nat.le_refl _ | omega | (simp; done) | (simp; omega)) _)); done) | (first | with_reducible exact Nat.le_refl _ | omega | (simp; done) | (simp; omega))
      have hz5 := hB5.size
      have hc5 := fun o => hB5.cell (p := ⟨b1, o, none⟩) hl1
      go_wp2
      go_roundw
      case rel => exact ⟨k + 1, by omega, by go_num, by first | (rw [hs2.out]; done) | rw [hs2.out]; first | go_num | (congr 1; unfold Seal.cn; have := HK1.out; have := HK2.out; have := HK3.out; omega), by (repeat (first | exact hB5 | exact Below.refl _ _ | apply Below.drew | refine Below.alloc ?_ (by first | with_reducible exact Nat.le_refl _ | omega | (simp; done) | (simp; omega)) _))⟩
      case measure => simp [intOf]; omega
    · have hke : k = xs.length := by omega
      go_wp2
      go_ret; refine ⟨?_, hb⟩; subst hke; rw [List.take_of_length_le (Nat.le_refl _)]; rfl
set_option maxRecDepth 40000 in set_option maxHeartbeats 4000000 in
theorem held_PairS (xs : List Pair) (w : World) (A : Option Addr) (cap : Nat) (S : Blks) (a : Int) (k0 : Nat) (ha : a = (k0 : Int)) (hk : k0 + cnL xs ≤ 4611686018427387904) (hx : Row false w A cap (meL xs k0) S) (hl : xs.length ≤ maxLen) :
    Calls Tryz.prog 45 #[.slice A xs.length cap, .int .i64 a] w fun e w' => e = .returned (.int .i64 ((k0 + cnL xs : Nat) : Int)) ∧ Below w.heap.size w w' := by
  subst ha
  unfold maxLen at hl
  go_enter Tryz.func45, Tryz.ntmps45
  go_wp2
  go_loopw [1, 5] (fun l i wr => ∃ k : Nat, k ≤ xs.length ∧ i = .int .i64 k ∧ l = .int .i64 ((k0 + cnL (xs.take k) : Nat) : Int) ∧ Below w.heap.size w wr) (fun _ i _ => xs.length - (intOf i).toNat)
  case atStart => exact ⟨0, Nat.zero_le _, rfl, by simp [cnL], Below.refl _ _⟩
  case round =>
    obtain ⟨k, hkk, rfl, rfl, hb⟩ := hrel
    have hz := hb.size
    by_cases hlt : k < xs.length
    · have hlt2 : k < (meL xs k0).length := by simpa using hlt
      have hne : meL xs k0 ≠ [] := by intro h; rw [h] at hlt2; simp at hlt2
      obtain ⟨b1, o1, rfl, _, T1, _, _, he1⟩ := hx hne
      obtain ⟨c1, ha1, hr1⟩ := he1 k hlt2
      have hl1 := ha1.lt (by rintro rfl; have := Lay.len hr1; cases this)
      rw [meL_get xs k0 k hlt] at hr1
      have hcs := cnL_take_succ xs k hlt
      have hcl := cnL_take_le xs (k + 1)
      generalize hK : k0 + cnL (xs.take k) = K at hr1
      generalize xs[k] = x at hr1 hcs
      rw [show Mk.cn x = Pair.cn x from rfl] at hcs
      have hs2 : Hid (k0 + cnL (xs.take (k + 1)) = K + Pair.cn x) := Lib.hid (by omega)
      have hKb : K + Pair.cn x ≤ 4611686018427387904 := by omega
      unfold Pair.cn at hKb
      clear hcs hK hcl he1 hx
      have hc0 := fun o => hb.cell (p := ⟨b1, o, none⟩) hl1
      have hr1 : rd false w c1 (Pair.me x K) (T1 k) := hr1
      obtain ⟨eA0, ek0, eS0, eA1, ek1, eS1, eA2, ek2, eS2, eA3, ek3, eS3, eA4, ek4, eS4, eA5, ek5, eS5, rfl, ef0, ef1, ef2, ef3, ef4, ef8, ef9, ef10, ef11, ef12, ea0, eb0, er0, es0, ea1, eb1, er1, es1, ea2, eb2, er2, es2, ea3, eb3, er3, es3, ea4, eb4, er4, es4, ea5, eb5, er5, es5, epw⟩ := Pair.open hr1
      have q0 : w.cell? ⟨b1, o1 + k * 16, none⟩ = some (.int .i64 (((K : Nat)) : Int)) := by have := ha1 0 _ rfl; simpa [show Lay.n Pair = 16 from rfl, Pair.me, Int.natCast_add] using this
      have q1 : w.cell? ⟨b1, o1 + k * 16 + 1, none⟩ = some (.int .i64 (((K + 1 : Nat)) : Int)) := by have := ha1 1 _ rfl; simpa [show Lay.n Pair = 16 from rfl, Pair.me, Int.natCast_add] using this
      have q2 : w.cell? ⟨b1, o1 + k * 16 + 2, none⟩ = some (.string (mtext (K + 1 + 1))) := by have := ha1 2 _ rfl; simpa [show Lay.n Pair = 16 from rfl, Pair.me] using this
      have q3 : w.cell? ⟨b1, o1 + k * 16 + 3, none⟩ = some (.string (mtext (K + 1 + 1 + 1))) := by have := ha1 3 _ rfl; simpa [show Lay.n Pair = 16 from rfl, Pair.me] using this
      have q4 : w.cell? ⟨b1, o1 + k * 16 + 4, none⟩ = some (.int .i64 (((K + 1 + 1 + 1 + 1 : Nat)) : Int)) := by have := ha1 4 _ rfl; simpa [show Lay.n Pair = 16 from rfl, Pair.me, Int.natCast_add] using this
      have q5 : w.cell? ⟨b1, o1 + k * 16 + 5, none⟩ = some (.slice eA0 x.a.sig.open_.length ek0) := by have := ha1 5 _ rfl; simpa [show Lay.n Pair = 16 from rfl, Pair.me] using this
      have q6 : w.cell? ⟨b1, o1 + k * 16 + 6, none⟩ = some (.slice eA1 x.a.sig.shut.length ek1) := by have := ha1 6 _ rfl; simpa [show Lay.n Pair = 16 from rfl, Pair.me] using this
      have q7 : w.cell? ⟨b1, o1 + k * 16 + 7, none⟩ = some (.slice eA2 x.a.sig.sides.length ek2) := by have := ha1 7 _ rfl; simpa [show Lay.n Pair = 16 from rfl, Pair.me] using this
      have q8 : w.cell? ⟨b1, o1 + k * 16 + 8, none⟩ = some (.int .i64 (((K + 1 + 1 + 1 + 1 + 1 + cnL x.a.sig.open_ + cnL x.a.sig.shut + cnL x.a.sig.sides : Nat)) : Int)) := by have := ha1 8 _ rfl; simpa [show Lay.n Pair = 16 from rfl, Pair.me, Int.natCast_add] using this
      have q9 : w.cell? ⟨b1, o1 + k * 16 + 9, none⟩ = some (.int .i64 (((K + 1 + 1 + 1 + 1 + 1 + cnL x.a.sig.open_ + cnL x.a.sig.shut + cnL x.a.sig.sides + 1 : Nat)) : Int)) := by have := ha1 9 _ rfl; simpa [show Lay.n Pair = 16 from rfl, Pair.me, Int.natCast_add] using this
      have q10 : w.cell? ⟨b1, o1 + k * 16 + 10, none⟩ = some (.string (mtext (K + 1 + 1 + 1 + 1 + 1 + cnL x.a.sig.open_ + cnL x.a.sig.shut + cnL x.a.sig.sides + 1 + 1))) := by have := ha1 10 _ rfl; simpa [show Lay.n Pair = 16 from rfl, Pair.me] using this
      have q11 : w.cell? ⟨b1, o1 + k * 16 + 11, none⟩ = some (.string (mtext (K + 1 + 1 + 1 + 1 + 1 + cnL x.a.sig.open_ + cnL x.a.sig.shut + cnL x.a.sig.sides + 1 + 1 + 1))) := by have := ha1 11 _ rfl; simpa [show Lay.n Pair = 16 from rfl, Pair.me] using this
      have q12 : w.cell? ⟨b1, o1 + k * 16 + 12, none⟩ = some (.int .i64 (((K + 1 + 1 + 1 + 1 + 1 + cnL x.a.sig.open_ + cnL x.a.sig.shut + cnL x.a.sig.sides + 1 + 1 + 1 + 1 : Nat)) : Int)) := by have := ha1 12 _ rfl; simpa [show Lay.n Pair = 16 from rfl, Pair.me, Int.natCast_add] using this
      have q13 : w.cell? ⟨b1, o1 + k * 16 + 13, none⟩ = some (.slice eA3 x.b.sig.open_.length ek3) := by have := ha1 13 _ rfl; simpa [show Lay.n Pair = 16 from rfl, Pair.me] using this
      have q14 : w.cell? ⟨b1, o1 + k * 16 + 14, none⟩ = some (.slice eA4 x.b.sig.shut.length ek4) := by have := ha1 14 _ rfl; simpa [show Lay.n Pair = 16 from rfl, Pair.me] using this
      have q15 : w.cell? ⟨b1, o1 + k * 16 + 15, none⟩ = some (.slice eA5 x.b.sig.sides.length ek5) := by have := ha1 15 _ rfl; simpa [show Lay.n Pair = 16 from rfl, Pair.me] using this
      have er0_ : Row false w eA0 ek0 (meL x.a.sig.open_ (K + 1 + 1 + 1 + 1 + 1)) eS0 := er0
      have ea0_ : x.a.sig.open_.length ≤ ek0 := by have := ea0; simpa [Pair.me] using this
      have er1_ : Row false w eA1 ek1 (meL x.a.sig.shut (K + 1 + 1 + 1 + 1 + 1 + cnL x.a.sig.open_)) eS1 := er1
      have ea1_ : x.a.sig.shut.length ≤ ek1 := by have := ea1; simpa [Pair.me] using this
      have er2_ : Row false w eA2 ek2 (meL x.a.sig.sides (K + 1 + 1 + 1 + 1 + 1 + cnL x.a.sig.open_ + cnL x.a.sig.shut)) eS2 := er2
      have ea2_ : x.a.sig.sides.length ≤ ek2 := by have := ea2; simpa [Pair.me] using this
      have er3_ : Row false w eA3 ek3 (meL x.b.sig.open_ (K + 1 + 1 + 1 + 1 + 1 + cnL x.a.sig.open_ + cnL x.a.sig.shut + cnL x.a.sig.sides + 1 + 1 + 1 + 1 + 1)) eS3 := er3
      have ea3_ : x.b.sig.open_.length ≤ ek3 := by have := ea3; simpa [Pair.me] using this
      have er4_ : Row false w eA4 ek4 (meL x.b.sig.shut (K + 1 + 1 + 1 + 1 + 1 + cnL x.a.sig.open_ + cnL x.a.sig.shut + cnL x.a.sig.sides + 1 + 1 + 1 + 1 + 1 + cnL x.b.sig.open_)) eS4 := er4
      have ea4_ : x.b.sig.shut.length ≤ ek4 := by have := ea4; simpa [Pair.me] using this
      have er5_ : Row false w eA5 ek5 (meL x.b.sig.sides (K + 1 + 1 + 1 + 1 + 1 + cnL x.a.sig.open_ + cnL x.a.sig.shut + cnL x.a.sig.sides + 1 + 1 + 1 + 1 + 1 + cnL x.b.sig.open_ + cnL x.b.sig.shut)) eS5 := er5
      have ea5_ : x.b.sig.sides.length ≤ ek5 := by have := ea5; simpa [Pair.me] using this
      generalize hK1 : K + 1 + 1 + 1 + 1 + 1 + cnL x.a.sig.open_ = K1 at *
      have HK1 := Lib.hid hK1; clear hK1
      generalize hK2 : K1 + cnL x.a.sig.shut = K2 at *
      have HK2 := Lib.hid hK2; clear hK2
      generalize hK3 : K2 + cnL x.a.sig.sides = K3 at *
      have HK3 := Lib.hid hK3; clear hK3
      generalize hK4 : K3 + 1 + 1 + 1 + 1 + 1 + cnL x.b.sig.open_ = K4 at *
      have HK4 := Lib.hid hK4; clear hK4
      generalize hK5 : K4 + cnL x.b.sig.shut = K5 at *
      have HK5 := Lib.hid hK5; clear hK5
      generalize hK6 : K5 + cnL x.b.sig.sides = K6 at *
      have HK6 := Lib.hid hK6; clear hK6
      have hKb1 : K1 + 0 ≤ 4611686018427387904 := by have := HK1.out; have := HK2.out; have := HK3.out; have := HK4.out; have := HK5.out; have := HK6.out; omega
      have hKb2 : K2 + 0 ≤ 4611686018427387904 := by have := HK1.out; have := HK2.out; have := HK3.out; have := HK4.out; have := HK5.out; have := HK6.out; omega
      have hKb3 : K3 + 5 ≤ 4611686018427387904 := by have := HK1.out; have := HK2.out; have := HK3.out; have := HK4.out; have := HK5.out; have := HK6.out; omega
      have hKb4 : K4 + 0 ≤ 4611686018427387904 := by have := HK1.out; have := HK2.out; have := HK3.out; have := HK4.out; have := HK5.out; have := HK6.out; omega
      have hKb5 : K5 + 0 ≤ 4611686018427387904 := by have := HK1.out; have := HK2.out; have := HK3.out; have := HK4.out; have := HK5.out; have := HK6.out; omega
      have hKb6 : K6 + 0 ≤ 4611686018427387904 := by have := HK1.out; have := HK2.out; have := HK3.out; have := HK4.out; have := HK5.out; have := HK6.out; omega
      clear ha1 er0 er1 er2 er3 er4 er5
      go_wp2_with (fail)
      go_region_held3 (fun w' => w'.cell? ⟨b1, o1 + k * 16 + 2, none⟩ = some (.string (mtext (K + 1 + 1))) ∧ Below w.heap.size w w')
        (first | (refine And.intro ?_ ?_ <;> first | exact hb.drew | exact (hb.drew.cell (p := ⟨b1, o1 + k * 16 + 2, none⟩) hl1).trans q2 | exact (hb1.cell (p := ⟨b1, o1 + k * 16 + 2, none⟩) (by simp; omega)).trans ((hb.drew.cell (p := ⟨b1, o1 + k * 16 + 2, none⟩) hl1).trans q2) | exact hb.drew.trans (hb1.mono (by simp; omega)) | (go_keep; done)))
        ((go_at_call 73; refine (mark_Text _ (K + 1 + 1) (by first | rfl | omega | (simp; done)) (by omega) _).mono ?_; rintro e1 w1 ⟨rfl, hb1⟩))
      have hB1 : Below w.heap.size w w1 := hb.drew.trans (hb1.mono (by simp; omega))
      have hz1 := hB1.size
      have hc1 := fun o => hB1.cell (p := ⟨b1, o, none⟩) hl1
      go_wp2_with (fail)
      go_region_held3 (fun w' => w'.cell? ⟨b1, o1 + k * 16 + 3, none⟩ = some (.string (mtext (K + 1 + 1 + 1))) ∧ Below w.heap.size w w')
        (first | (refine And.intro ?_ ?_ <;> first | exact hB1.drew | exact (hB1.drew.cell (p := ⟨b1, o1 + k * 16 + 3, none⟩) hl1).trans q3 | exact (hb2.cell (p := ⟨b1, o1 + k * 16 + 3, none⟩) (by simp; omega)).trans ((hB1.drew.cell (p := ⟨b1, o1 + k * 16 + 3, none⟩) hl1).trans q3) | exact hB1.drew.trans (hb2.mono (by simp; omega)) | (go_keep; done)))
        ((go_at_call 73; refine (mark_Text _ (K + 1 + 1 + 1) (by first | rfl | omega | (simp; done)) (by omega) _).mono ?_; rintro e2 w2 ⟨rfl, hb2⟩))
      have hB2 : Below w.heap.size w w2 := hB1.drew.trans (hb2.mono (by simp; omega))
      have hz2 := hB2.size
      have hc2 := fun o => hB2.cell (p := ⟨b1, o, none⟩) hl1
      go_wp2_with (fail)
      refine (held_StringS x.a.sig.open_ _ _ _ _ _ (K + 1 + 1 + 1 + 1 + 1) (by first | rfl | omega | (simp; done)) (by have := HK1.out; omega) (er0_.later (by (repeat (first | exact hB2 | exact Below.refl _ _ | apply Below.drew | refine Below.alloc ?_ (by first | with_reducible exact Nat.le_refl _ | omega | (simp; done) | (simp; omega)) _)))) (Nat.le_trans ea0_ eb0)).mono ?_
      rw [HK1.out]
      rintro e3 w3 ⟨rfl, hb3⟩
      have hB3 : Below w.heap.size w w3 := by refine Below.trans ?_ (hb3.mono ?_) <;> first | ((repeat (first | exact hB2 | exact Below.refl _ _ | apply Below.drew | refine Below.alloc ?_ (by first | with_reducible exact Nat.le_refl _ | omega | (simp; done) | (simp; omega)) _)); done) | (first | with_reducible exact Nat.le_refl _ | omega | (simp; done) | (simp; omega))
      have hz3 := hB3.size
      have hc3 := fun o => hB3.cell (p := ⟨b1, o, none⟩) hl1
      go_wp2_with (fail)
      refine (held_StringS x.a.sig.shut _ _ _ _ _ (K1) (by first | rfl | omega | (simp; done)) (by have := HK2.out; omega) (er1_.later (by (repeat (first | exact hB3 | exact Below.refl _ _ | apply Below.drew | refine Below.alloc ?_ (by first | with_reducible exact Nat.le_refl _ | omega | (simp; done) | (simp; omega)) _)))) (Nat.le_trans ea1_ eb1)).mono ?_
      rw [HK2.out]
      rintro e4 w4 ⟨rfl, hb4⟩
      have hB4 : Below w.heap.size w w4 := by refine Below.trans ?_ (hb4.mono ?_) <;> first | ((repeat (first | exact hB3 | exact Below.refl _ _ | apply Below.drew | refine Below.alloc ?_ (by first | with_reducible exact Nat.le_refl _ | omega | (simp; done) | (simp; omega)) _)); done) | (first | with_reducible exact Nat.le_refl _ | omega | (simp; done) | (simp; omega))
      have hz4 := hB4.size
      have hc4 := fun o => hB4.cell (p := ⟨b1, o, none⟩) hl1
      go_wp2_with (fail)
      refine (held_StringS x.a.sig.sides _ _ _ _ _ (K2) (by first | rfl | omega | (simp; done)) (by have := HK3.out; omega) (er2_.later (by (repeat (first | exact hB4 | exact Below.refl _ _ | apply Below.drew | refine Below.alloc ?_ (by first | with_reducible exact Nat.le_refl _ | omega | (simp; done) | (simp; omega)) _)))) (Nat.le_trans ea2_ eb2)).mono ?_
      rw [HK3.out]
      rintro e5 w5 ⟨rfl, hb5⟩
      have hB5 : Below w.heap.size w w5 := by refine Below.trans ?_ (hb5.mono ?_) <;> first | ((repeat (first | exact hB4 | exact Below.refl _ _ | apply Below.drew | refine Below.alloc ?_ (by first | with_reducible exact Nat.le_refl _ | omega | (simp; done) | (simp; omega)) _)); done) | (first | with_reducible exact Nat.le_refl _ | omega | (simp; done) | (simp; omega))
      have hz5 := hB5.size
      have hc5 := fun o => hB5.cell (p := ⟨b1, o, none⟩) hl1
      go_wp2_with (fail)
      go_region_held3 (fun w' => w'.cell? ⟨b1, o1 + k * 16 + 10, none⟩ = some (.string (mtext (K3 + 1 + 1))) ∧ Below w.heap.size w w')
        (first | (refine And.intro ?_ ?_ <;> first | exact hB5.drew | exact (hB5.drew.cell (p := ⟨b1, o1 + k * 16 + 10, none⟩) hl1).trans q10 | exact (hb6.cell (p := ⟨b1, o1 + k * 16 + 10, none⟩) (by simp; omega)).trans ((hB5.drew.cell (p := ⟨b1, o1 + k * 16 + 10, none⟩) hl1).trans q10) | exact hB5.drew.trans (hb6.mono (by simp; omega)) | (go_keep; done)))
        ((go_at_call 73; refine (mark_Text _ (K3 + 1 + 1) (by first | rfl | omega | (simp; done)) (by omega) _).mono ?_; rintro e6 w6 ⟨rfl, hb6⟩))
      have hB6 : Below w.heap.size w w6 := hB5.drew.trans (hb6.mono (by simp; omega))
      have hz6 := hB6.size
      have hc6 := fun o => hB6.cell (p := ⟨b1, o, none⟩) hl1
      go_wp2_with (fail)
      go_region_held3 (fun w' => w'.cell? ⟨b1, o1 + k * 16 + 11, none⟩ = some (.string (mtext (K3 + 1 + 1 + 1))) ∧ Below w.heap.size w w')
        (first | (refine And.intro ?_ ?_ <;> first | exact hB6.drew | exact (hB6.drew.cell (p := ⟨b1, o1 + k * 16 + 11, none⟩) hl1).trans q11 | exact (hb7.cell (p := ⟨b1, o1 + k * 16 + 11, none⟩) (by simp; omega)).trans ((hB6.drew.cell (p := ⟨b1, o1 + k * 16 + 11, none⟩) hl1).trans q11) | exact hB6.drew.trans (hb7.mono (by simp; omega)) | (go_keep; done)))
        ((go_at_call 73; refine (mark_Text _ (K3 + 1 + 1 + 1) (by first | rfl | omega | (simp; done)) (by omega) _).mono ?_; rintro e7 w7 ⟨rfl, hb7⟩))
      have hB7 : Below w.heap.size w w7 := hB6.drew.trans (hb7.mono (by simp; omega))
      have hz7 := hB7.size
      have hc7 := fun o => hB7.cell (p := ⟨b1, o, none⟩) hl1
      go_wp2_with (fail)
      refine (held_StringS x.b.sig.open_ _ _ _ _ _ (K3 + 1 + 1 + 1 + 1 + 1) (by first | rfl | omega | (simp; done)) (by have := HK4.out; omega) (er3_.later (by (repeat (first | exact hB7 | exact Below.refl _ _ | apply Below.drew | refine Below.alloc ?_ (by first | with_reducible exact Nat.le_refl _ | omega | (simp; done) | (simp; omega)) _)))) (Nat.le_trans ea3_ eb3)).mono ?_
      rw [HK4.out]
      rintro e8 w8 ⟨rfl, hb8⟩
      have hB8 : Below w.heap.size w w8 := by refine Below.trans ?_ (hb8.mono ?_) <;> first | ((repeat (first | exact hB7 | exact Below.refl _ _ | apply Below.drew | refine Below.alloc ?_ (by first | with_reducible exact Nat.le_refl _ | omega | (simp; done) | (simp; omega)) _)); done) | (first | with_reducible exact Nat.le_refl _ | omega | (simp; done) | (simp; omega))
      have hz8 := hB8.size
      have hc8 := fun o => hB8.cell (p := ⟨b1, o, none⟩) hl1
      go_wp2_with (fail)
      refine (held_StringS x.b.sig.shut _ _ _ _ _ (K4) (by first | rfl | omega | (simp; done)) (by have := HK5.out; omega) (er4_.later (by (repeat (first | exact hB8 | exact Below.refl _ _ | apply Below.drew | refine Below.alloc ?_ (by first | with_reducible exact Nat.le_refl _ | omega | (simp; done) | (simp; omega)) _)))) (Nat.le_trans ea4_ eb4)).mono ?_
      rw [HK5.out]
      rintro e9 w9 ⟨rfl, hb9⟩
      have hB9 : Below w.heap.size w w9 := by refine Below.trans ?_ (hb9.mono ?_) <;> first | ((repeat (first | exact hB8 | exact Below.refl _ _ | apply Below.drew | refine Below.alloc ?_ (by first | with_reducible exact Nat.le_refl _ | omega | (simp; done) | (simp; omega)) _)); done) | (first | with_reducible exact Nat.le_refl _ | omega | (simp; done) | (simp; omega))
      have hz9 := hB9.size
      have hc9 := fun o => hB9.cell (p := ⟨b1, o, none⟩) hl1
      go_wp2_with (fail)
      refine (held_StringS x.b.sig.sides _ _ _ _ _ (K5) (by first | rfl | omega | (simp; done)) (by have := HK6.out; omega) (er5_.later (by (repeat (first | exact hB9 | exact Below.refl _ _ | apply Below.drew | refine Below.alloc ?_ (by first | with_reducible exact Nat.le_refl _ | omega | (simp; done) | (simp; omega)) _)))) (Nat.le_trans ea5_ eb5)).mono ?_
      rw [HK6.out]
      rintro e10 w10 ⟨rfl, hb10⟩
      have hB10 : Below w.heap.size w w10 := by refine Below.trans ?_ (hb10.mono ?_) <;> first | ((repeat (first | exact hB9 | exact Below.refl _ _ | apply Below.drew | refine Below.alloc ?_ (by first | with_reducible exact Nat.le_refl _ | omega | (simp; done) | (simp; omega)) _)); done) | (first | with_reducible exact Nat.le_refl _ | omega | (simp; done) | (simp; omega))
      have hz10 := hB10.size
      have hc10 := fun o => hB10.cell (p := ⟨b1, o, none⟩) hl1
      go_wp2
      go_roundw
      case rel => exact ⟨k + 1, by omega, by go_num, by first | (rw [hs2.out]; done) | rw [hs2.out]; first | go_num | (congr 1; unfold Pair.cn; have := HK1.out; have := HK2.out; have := HK3.out; have := HK4.out; have := HK5.out; have := HK6.out; omega), by (repeat (first | exact hB10 | exact Below.refl _ _ | apply Below.drew | refine Below.alloc ?_ (by first | with_reducible exact Nat.le_refl _ | omega | (simp; done) | (simp; omega)) _))⟩
      case measure => simp [intOf]; omega
    · have hke : k = xs.length := by omega
      go_wp2
      go_ret; refine ⟨?_, hb⟩; subst hke; rw [List.take_of_length_le (Nat.le_refl _)]; rfl
set_option maxRecDepth 40000 in set_option maxHeartbeats 2000000 in
theorem held_Auditor (x : Auditor) (w : World) (cs : List Value) (S : Blks) (a : Int) (k : Nat) (ha : a = (k : Int)) (hk : k + x.ct ≤ 4611686018427387904) (hx : rd false w cs (x.mt k) S) :
    Calls Tryz.prog 15 #[.agg cs.toArray, .int .i64 a] w fun e w' => e = .returned (.int .i64 ((k + x.ct : Nat) : Int)) ∧ Below w.heap.size w w' := by
  subst ha
  obtain ⟨A0, k0, S0, A1, k1, S1, A2, k2, S2, A3, k3, S3, rfl, f0, a0, b0, r0, s0, a1, b1, r1, s1, a2, b2, r2, s2, a3, b3, r3, s3, pw⟩ := Auditor.open hx
  clear hx
  unfold Auditor.ct at hk
  simp only [Auditor.cs, Auditor.mt, meL_length]
  have R0 : Row false w A0 k0 (meL x.disk.files (k)) S0 := r0
  have L0 : x.disk.files.length ≤ maxLen := by have := Nat.le_trans a0 b0; simpa [Auditor.mt] using this
  have R1 : Row false w A1 k1 (meL x.pool (k + cnL x.disk.files)) S1 := r1
  have L1 : x.pool.length ≤ maxLen := by have := Nat.le_trans a1 b1; simpa [Auditor.mt] using this
  have R2 : Row false w A2 k2 (meL x.pins (k + cnL x.disk.files + cnL x.pool)) S2 := r2
  have L2 : x.pins.length ≤ maxLen := by have := Nat.le_trans a2 b2; simpa [Auditor.mt] using this
  have R3 : Row false w A3 k3 (meL x.pairs (k + cnL x.disk.files + cnL x.pool + cnL x.pins)) S3 := r3
  have L3 : x.pairs.length ≤ maxLen := by have := Nat.le_trans a3 b3; simpa [Auditor.mt] using this
  clear r0 r1 r2 r3
  generalize hK0 : k + cnL x.disk.files = K0 at *
  have HK0 := Lib.hid hK0; clear hK0
  generalize hK1 : K0 + cnL x.pool = K1 at *
  have HK1 := Lib.hid hK1; clear hK1
  generalize hK2 : K1 + cnL x.pins = K2 at *
  have HK2 := Lib.hid hK2; clear hK2
  generalize hK3 : K2 + cnL x.pairs = K3 at *
  have HK3 := Lib.hid hK3; clear hK3
  have hfin : Hid (((k + x.ct : Nat) : Int) = (K3 : Int)) := Lib.hid (by unfold Auditor.ct; have := HK0.out; have := HK1.out; have := HK2.out; have := HK3.out; omega)
  rw [hfin.out]
  go_enter Tryz.func15, Tryz.ntmps15
  go_wp2_with (fail)
  refine (held_Disk x.disk _ _ _ _ k (by first | rfl | omega) (by have := HK0.out; have := HK1.out; have := HK2.out; have := HK3.out; unfold Disk.ct; omega) (Lay.later (by have h := Disk.mk' (w := w) (x := Disk.mt x.disk k) (m := false) (S := S) (by simpa [Disk.mt, Auditor.mt] using a0) b0 (by have h := R0; exact h) s0; simpa [Disk.cs, Disk.mt] using h) (by (repeat (first | exact Below.refl _ _ | apply Below.drew | refine Below.alloc ?_ (by first | with_reducible exact Nat.le_refl _ | omega | (simp; done) | (simp; omega)) _))))).mono ?_
  rw [show k + (x.disk).ct = K0 from by have := HK0.out; have := HK1.out; have := HK2.out; have := HK3.out; unfold Disk.ct; omega]
  rintro e1 w1 ⟨rfl, hb1⟩
  have hB1 : Below w.heap.size w w1 := by refine Below.trans (b := _) ?_ (hb1.mono ?_) <;> first | (repeat (first | exact Below.refl _ _ | apply Below.drew | refine Below.alloc ?_ (by first | with_reducible exact Nat.le_refl _ | omega | (simp; done) | (simp; omega)) _)); done | (first | with_reducible exact Nat.le_refl _ | omega | (simp; done) | (simp; omega))
  have hz1 : w.heap.size + 1 ≤ w1.heap.size := by have := hb1.size; (try simp at this); omega
  have hc1 := fun o => hb1.cell (p := ⟨w.heap.size, o, none⟩) (by first | with_reducible exact Nat.le_refl _ | omega | (simp; done) | (simp; omega))
  go_wp2_with (fail)
  refine (held_StringS x.pool _ _ _ _ _ K0 (by first | rfl | omega) (by have := HK0.out; have := HK1.out; have := HK2.out; have := HK3.out; omega) (R1.later (by (repeat (first | exact hB1 | exact Below.refl _ _ | apply Below.drew | refine Below.alloc ?_ (by first | with_reducible exact Nat.le_refl _ | omega | (simp; done) | (simp; omega)) _)))) L1).mono ?_
  rw [HK1.out]
  rintro e2 w2 ⟨rfl, hb2⟩
  have hB2 : Below w.heap.size w w2 := by refine Below.trans (b := _) ?_ (hb2.mono ?_) <;> first | (repeat (first | exact hB1 | exact Below.refl _ _ | apply Below.drew | refine Below.alloc ?_ (by first | with_reducible exact Nat.le_refl _ | omega | (simp; done) | (simp; omega)) _)); done | (first | with_reducible exact Nat.le_refl _ | omega | (simp; done) | (simp; omega))
  have hz2 : w.heap.size + 1 ≤ w2.heap.size := by have := hb2.size; (try simp at this); omega
  have hc2 := fun o => hb2.cell (p := ⟨w.heap.size, o, none⟩) (by first | with_reducible exact Nat.le_refl _ | omega | (simp; done) | (simp; omega))
  go_wp2_with (fail)
  refine (held_SealS x.pins _ _ _ _ _ K1 (by first | rfl | omega) (by have := HK0.out; have := HK1.out; have := HK2.out; have := HK3.out; omega) (R2.later (by (repeat (first | exact hB2 | exact Below.refl _ _ | apply Below.drew | refine Below.alloc ?_ (by first | with_reducible exact Nat.le_refl _ | omega | (simp; done) | (simp; omega)) _)))) L2).mono ?_
  rw [HK2.out]
  rintro e3 w3 ⟨rfl, hb3⟩
  have hB3 : Below w.heap.size w w3 := by refine Below.trans (b := _) ?_ (hb3.mono ?_) <;> first | (repeat (first | exact hB2 | exact Below.refl _ _ | apply Below.drew | refine Below.alloc ?_ (by first | with_reducible exact Nat.le_refl _ | omega | (simp; done) | (simp; omega)) _)); done | (first | with_reducible exact Nat.le_refl _ | omega | (simp; done) | (simp; omega))
  have hz3 : w.heap.size + 1 ≤ w3.heap.size := by have := hb3.size; (try simp at this); omega
  have hc3 := fun o => hb3.cell (p := ⟨w.heap.size, o, none⟩) (by first | with_reducible exact Nat.le_refl _ | omega | (simp; done) | (simp; omega))
  go_wp2_with (fail)
  refine (held_PairS x.pairs _ _ _ _ _ K2 (by first | rfl | omega) (by have := HK0.out; have := HK1.out; have := HK2.out; have := HK3.out; omega) (R3.later (by (repeat (first | exact hB3 | exact Below.refl _ _ | apply Below.drew | refine Below.alloc ?_ (by first | with_reducible exact Nat.le_refl _ | omega | (simp; done) | (simp; omega)) _)))) L3).mono ?_
  rw [HK3.out]
  rintro e4 w4 ⟨rfl, hb4⟩
  have hB4 : Below w.heap.size w w4 := by refine Below.trans (b := _) ?_ (hb4.mono ?_) <;> first | (repeat (first | exact hB3 | exact Below.refl _ _ | apply Below.drew | refine Below.alloc ?_ (by first | with_reducible exact Nat.le_refl _ | omega | (simp; done) | (simp; omega)) _)); done | (first | with_reducible exact Nat.le_refl _ | omega | (simp; done) | (simp; omega))
  have hz4 : w.heap.size + 1 ≤ w4.heap.size := by have := hb4.size; (try simp at this); omega
  have hc4 := fun o => hb4.cell (p := ⟨w.heap.size, o, none⟩) (by first | with_reducible exact Nat.le_refl _ | omega | (simp; done) | (simp; omega))
  go_wp2
  go_ret; exact ⟨rfl, by (repeat (first | exact hB4 | exact Below.refl _ _ | apply Below.drew | refine Below.alloc ?_ (by first | with_reducible exact Nat.le_refl _ | omega | (simp; done) | (simp; omega)) _))⟩
end Go.Proofs.YtlfnmbcnehaikaaGreatDoor
