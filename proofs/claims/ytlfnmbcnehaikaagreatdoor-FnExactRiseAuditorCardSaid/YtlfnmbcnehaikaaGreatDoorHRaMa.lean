/- A part of the proof: what the laws need of it. -/
import Derived.Test.YtlfnmbcnehaikaaGreatDoorHRaL4xBr
import Derived.Test.YtlfnmbcnehaikaaGreatDoorHRaTy
set_option linter.unusedVariables false
set_option linter.unusedSimpArgs false
set_option linter.unusedVariables false
set_option linter.unusedSimpArgs false
namespace Go.Proofs.YtlfnmbcnehaikaaGreatDoor
open Go.RowKit Lay Mk
theorem I64_nat {k : Nat} (h : k ≤ 4611686018427387904) : I64 (k : Int) := by unfold I64; omega
theorem _root_.Go.RowKit.Below.chg_ {w w1 : World} (h : Below w.heap.size w w1) (U : Blks) : Chg U w w1 := ⟨h.os, h.tape, h.output, h.size, fun k hk _ => h.block k hk⟩
theorem Shp.ofb {w w1 : World} {g t m : Nat} (h : Shp w g t m) (hb : Below w.heap.size w w1) : Shp w1 g t m := h.of (hb.block g h.lt)
theorem Shp.ofc {w w1 : World} {g t m : Nat} {S : Blks} (h : Shp w g t m) (hb : Chg S w w1) (hn : ¬ S g) : Shp w1 g t m := h.of (hb.block g h.lt hn)
theorem Chg.cellC {w w1 : World} {S : Blks} (hb : Chg S w w1) {p : Addr} (h : p.block < w.heap.size) (hn : ¬ S p.block) : w1.cell? p = w.cell? p := World.cell?_of_block (hb.block p.block h hn)
set_option maxRecDepth 40000 in set_option maxHeartbeats 4000000 in
theorem mark_FileS (xs : List File) (w : World) (A : Option Addr) (cap : Nat) (S : Blks) (a : Int) (k0 : Nat) (ha : a = (k0 : Int)) (hk : k0 + cnL xs ≤ 4611686018427387904) (hx : Row true w A cap xs S) (hl : xs.length ≤ maxLen) :
    Calls Tryz.prog 39 #[.slice A xs.length cap, .int .i64 a] w fun e w' => e = .returned (.int .i64 ((k0 + cnL xs : Nat) : Int)) ∧ Row true w' A cap (meL xs k0) S ∧ Chg S w w' := by
  subst ha
  unfold maxLen at hl
  have hxx := hx
  rcases hx with ⟨rfl, rfl, rfl⟩ | ⟨g, cur_, rfl, hg, hh_, hcs_, _⟩
  · go_enter Tryz.func39, Tryz.ntmps39
    go_wp2
    go_loopw [1, 5] (fun l i wr => i = .int .i64 0 ∧ l = .int .i64 (k0 : Int) ∧ wr = w) (fun _ _ _ => 0)
    case atStart => exact ⟨rfl, rfl, rfl⟩
    case round =>
      obtain ⟨rfl, rfl, rfl⟩ := hrel
      go_wp2
      go_ret; exact ⟨rfl, .inl ⟨rfl, rfl, rfl⟩, Chg.refl _ _⟩
  have hsh0 : Shp w g (ty File) (cap * 3) := ⟨cur_, hh_, hcs_⟩
  clear hh_ hcs_
  go_enter Tryz.func39, Tryz.ntmps39
  go_wp2
  go_loopw [1, 5] (fun l i wr => ∃ k : Nat, k ≤ xs.length ∧ i = .int .i64 k ∧ l = .int .i64 ((k0 + cnL (xs.take k) : Nat) : Int) ∧ Chg S w wr ∧ Row true wr (some ⟨g, 0, none⟩) cap (meL (xs.take k) k0 ++ xs.drop k) S) (fun _ i _ => xs.length - (intOf i).toNat)
  case atStart => exact ⟨0, Nat.zero_le _, rfl, by simp [cnL], Chg.refl _ _, by simpa [meL] using hxx⟩
  case round =>
    obtain ⟨k, hkk, rfl, rfl, hch, hrow⟩ := hrel
    clear hxx
    by_cases hlt : k < xs.length
    · have hylen : (meL (xs.take k) k0 ++ xs.drop k).length = xs.length := by simp; omega
      have hstep := meL_step xs k0 k hlt
      have hat := meL_at xs k0 k hlt (by rw [hylen]; exact hlt)
      generalize hys : meL (xs.take k) k0 ++ xs.drop k = ys at hrow hylen hat hstep
      have hlty : k < ys.length := by omega
      have hcs := cnL_take_succ xs k hlt
      have hcl := cnL_take_le xs (k + 1)
      generalize hK : k0 + cnL (xs.take k) = K at hstep
      generalize xs[k] = x at hat hcs hstep
      rw [show Mk.cn x = File.cn x from rfl] at hcs
      have hs2 : Hid (k0 + cnL (xs.take (k + 1)) = K + File.cn x) := Lib.hid (by omega)
      have hKb : K + File.cn x ≤ 4611686018427387904 := by omega
      unfold File.cn at hKb
      have hst : Hid (meL (xs.take (k + 1)) k0 ++ xs.drop (k + 1) = ys.set k (File.me x K)) := Lib.hid hstep
      rcases hrow with ⟨h_, _⟩ | ⟨g2, cur, e_, _, hh, hcz, T, hT, hd, he⟩
      · cases h_
      cases e_
      have hsh : Shp wr g (ty File) (cap * 3) := ⟨cur, hh, hcz⟩
      have hd := hd rfl
      have hgl := hsh.lt
      have hgT : ¬ T k g := fun h => (hT k g h).2 rfl
      obtain ⟨c1, ha1, hr1⟩ := he k hlty
      rw [hat] at hr1
      have HE := Lib.hid he; have HD := Lib.hid hd; have HT := Lib.hid hT
      clear hcs hcl hstep hat hys he hd hT hh hcz
      obtain ⟨rfl, ef0, ef1, ef2⟩ := File.open hr1
      have q0 : wr.cell? ⟨g, k * 3, none⟩ = some (.string x.name) := by have := ha1 0 _ rfl; simpa [show Lay.n File = 3 from rfl] using this
      have q1 : wr.cell? ⟨g, k * 3 + 1, none⟩ = some (.string x.text) := by have := ha1 1 _ rfl; simpa [show Lay.n File = 3 from rfl] using this
      have q2 : wr.cell? ⟨g, k * 3 + 2, none⟩ = some (.int .i64 x.kept) := by have := ha1 2 _ rfl; simpa [show Lay.n File = 3 from rfl] using this
      clear ha1
      have hf0 := fun o => hsh.frozen o
      have hme : Hid (File.me x K = (⟨mtext (K), mtext (K + 1), (((K + 1 + 1) : Nat) : Int)⟩ : File)) := Lib.hid (by simp only [File.me])
      have hKb0 : K + 3 ≤ 4611686018427387904 := by omega
      have hC0 : Chg (fun b => b = g ∨ T k b) wr wr := Chg.refl _ _
      have hS0 := hsh
      go_wp2_with (fail)
      refine (mark_Text _ (K) (by first | rfl | omega | (simp; done)) (by omega) _).mono ?_
      rintro e1 w1 ⟨rfl, hb1⟩
      have hC1 : Chg (fun b => b = g ∨ T k b) wr w1 := Chg.trans (b := _) (by (repeat (first | with_reducible exact hC0 | with_reducible apply Chg.drew | with_reducible refine Chg.alloc ?_ _ | with_reducible refine Chg.setCell ?_ (.inl (.inl rfl)) _))) (hb1.chg_ (fun b => b = g ∨ T k b))
      have hS1 : Shp w1 g (ty File) (cap * 3) := Shp.ofb (by (repeat (first | with_reducible exact hS0 | with_reducible apply Shp.drew | with_reducible refine Shp.alloc ?_ _ | with_reducible refine Shp.set ?_ _ _))) hb1
      have hc1 := fun o => hb1.cell (p := ⟨g, o, none⟩) (Shp.lt (show Shp _ g (ty File) (cap * 3) from by (repeat (first | with_reducible exact hS0 | with_reducible apply Shp.drew | with_reducible refine Shp.alloc ?_ _ | with_reducible refine Shp.set ?_ _ _))))
      have hf1 := fun o => hS1.frozen o
      go_wp2_with (fail)
      refine (mark_Text _ (K + 1) (by first | rfl | omega | (simp; done)) (by omega) _).mono ?_
      rintro e2 w2 ⟨rfl, hb2⟩
      have hC2 : Chg (fun b => b = g ∨ T k b) wr w2 := Chg.trans (b := _) (by (repeat (first | with_reducible exact hC1 | with_reducible apply Chg.drew | with_reducible refine Chg.alloc ?_ _ | with_reducible refine Chg.setCell ?_ (.inl (.inl rfl)) _))) (hb2.chg_ (fun b => b = g ∨ T k b))
      have hS2 : Shp w2 g (ty File) (cap * 3) := Shp.ofb (by (repeat (first | with_reducible exact hS1 | with_reducible apply Shp.drew | with_reducible refine Shp.alloc ?_ _ | with_reducible refine Shp.set ?_ _ _))) hb2
      have hc2 := fun o => hb2.cell (p := ⟨g, o, none⟩) (Shp.lt (show Shp _ g (ty File) (cap * 3) from by (repeat (first | with_reducible exact hS1 | with_reducible apply Shp.drew | with_reducible refine Shp.alloc ?_ _ | with_reducible refine Shp.set ?_ _ _))))
      have hf2 := fun o => hS2.frozen o
      go_wp2
      go_roundw
      case rel =>
        refine ⟨k + 1, by omega, by go_num, by rw [hs2.out]; first | go_num | (congr 1; unfold File.cn; omega), ?_, ?_⟩
        · refine Chg.trans hch (Chg.mono (show Chg (fun b => b = g ∨ T k b) wr _ from by (repeat (first | with_reducible exact hC2 | with_reducible apply Chg.drew | with_reducible refine Chg.alloc ?_ _ | with_reducible refine Chg.setCell ?_ (.inl (.inl rfl)) _))) (fun b _ h => h.elim (fun e => e ▸ hg) (fun h => (HT.out k b h).1)))
        · rw [hst.out, hme.out]
          refine Row.setN (N := 3) (T := T) (w := wr) (cs := [.string (mtext (K)), .string (mtext (K + 1)), .int .i64 (((K + 1 + 1) : Nat) : Int)]) rfl hg HT.out HD.out HE.out hlty (show Shp _ g (ty File) (cap * 3) from by (repeat (first | with_reducible exact hS2 | with_reducible apply Shp.drew | with_reducible refine Shp.alloc ?_ _ | with_reducible refine Shp.set ?_ _ _))) (fun o ho => ?_) (show Chg (fun b => b = g ∨ T k b) wr _ from by (repeat (first | with_reducible exact hC2 | with_reducible apply Chg.drew | with_reducible refine Chg.alloc ?_ _ | with_reducible refine Chg.setCell ?_ (.inl (.inl rfl)) _))) ?_ ?_
          · have n0 : o ≠ k * 3 := by intro h; apply ho; rw [h]; omega
            have n1 : o ≠ k * 3 + 1 := by intro h; apply ho; rw [h]; omega
            have n2 : o ≠ k * 3 + 2 := by intro h; apply ho; rw [h]; omega
            simp only [hc2, hc1, cell_set_ne _ _ _ o _ n0, cell_set_ne _ _ _ o _ n1, cell_set_ne _ _ _ o _ n2]
          · intro j u hu
            have hj : j < 3 := (List.getElem?_eq_some_iff.1 hu).1
            rcases (by omega : j = 0 ∨ j = 1 ∨ j = 2) with rfl | rfl | rfl
            all_goals (have hu := Option.some.inj hu; subst hu; go_simp; try simp)
          · exact File.mk' (m := true) (x := (⟨mtext (K), mtext (K + 1), (((K + 1 + 1) : Nat) : Int)⟩ : File)) (S := T k) (mtext_size (K) (by omega)) (mtext_size (K + 1) (by omega)) (I64_nat (by omega))
      case measure => simp [intOf]; omega
    · have hke : k = xs.length := by omega
      go_wp2
      go_ret; subst hke; refine ⟨by rw [List.take_of_length_le (Nat.le_refl _)]; rfl, by simpa using hrow, hch⟩
set_option maxRecDepth 40000 in set_option maxHeartbeats 4000000 in
theorem markr_Disk (x : Disk) (w : World) (A0 : Option Addr) (k0 : Nat) (S0 : Blks) (a : Int) (k : Nat) (ha : a = (k : Int)) (hk : k + x.ct ≤ 4611686018427387904) (r0 : Row true w A0 k0 x.files S0) (l0 : x.files.length ≤ maxLen) :
    Calls Tryz.prog 13 #[.agg (Disk.cs x A0 k0).toArray, .int .i64 a] w fun e w' => e = .returned (.int .i64 ((k + x.ct : Nat) : Int)) ∧ (Row true w' A0 k0 (meL x.files (k)) S0) ∧ Chg S0 w w' := by
  subst ha
  unfold Disk.ct at hk
  obtain ⟨K0, hK0⟩ : ∃ q, k + cnL x.files = q := ⟨_, rfl⟩
  have hfin : Hid (((k + x.ct : Nat) : Int) = (K0 : Int)) := Lib.hid (by unfold Disk.ct; omega)
  have HK0 := Lib.hid hK0; clear hK0
  rw [hfin.out]
  have t0_0 := r0.tight
  clear r0
  have hC0 : Chg S0 w w := Chg.refl _ _
  have hz0 := Nat.le_refl w.heap.size
  simp only [Disk.cs]
  go_enter Tryz.func13, Tryz.ntmps13
  go_wp2_with (fail)
  refine (mark_FileS x.files _ _ _ (fun b => S0 b ∧ b < w.heap.size) _ k (by first | rfl | omega) (by have := HK0.out; omega) (show Row true _ A0 k0 x.files (fun b => S0 b ∧ b < w.heap.size) from by (repeat (first | with_reducible exact t0_0 | with_reducible apply Row.drewC | with_reducible refine Row.allocC ?_ _))) l0).mono ?_
  rw [HK0.out]
  rintro e1 w1 ⟨rfl, t1_0, hb1⟩
  have hV1 : ∀ b, (fun b => S0 b ∧ b < w.heap.size) b → b < w.heap.size := (fun b (h : (fun b => S0 b ∧ b < w.heap.size) b) => (show b < w.heap.size from by exact h.2))
  have hz1 : w.heap.size + 1 ≤ w1.heap.size := by have := hb1.size; (try simp at this); omega
  have hC1 : Chg S0 w w1 := Chg.trans (b := _) (by (repeat (first | with_reducible exact hC0 | with_reducible apply Chg.drew | with_reducible refine Chg.alloc ?_ _))) (hb1.mono (fun b _ h => (sub_refl _) b h.1))
  have hc1 := fun o => hb1.cellC (p := ⟨w.heap.size, o, none⟩) (by first | with_reducible exact Nat.le_refl _ | omega | (simp; done) | (simp; omega)) (fun h => absurd (hV1 _ h) (Nat.lt_irrefl _))
  go_wp2
  go_ret
  exact ⟨rfl, Row.mono (show Row true _ A0 k0 (meL x.files k) (fun b => S0 b ∧ b < w.heap.size) from by (repeat (first | with_reducible exact t1_0 | with_reducible apply Row.drewC | with_reducible refine Row.allocC ?_ _))) (fun _ x => x.1), by (repeat (first | with_reducible exact hC1 | with_reducible apply Chg.drew | with_reducible refine Chg.alloc ?_ _))⟩
set_option maxRecDepth 40000 in set_option maxHeartbeats 4000000 in
theorem mark_StringS (xs : List ByteArray) (w : World) (A : Option Addr) (cap : Nat) (S : Blks) (a : Int) (k0 : Nat) (ha : a = (k0 : Int)) (hk : k0 + cnL xs ≤ 4611686018427387904) (hx : Row true w A cap xs S) (hl : xs.length ≤ maxLen) :
    Calls Tryz.prog 27 #[.slice A xs.length cap, .int .i64 a] w fun e w' => e = .returned (.int .i64 ((k0 + cnL xs : Nat) : Int)) ∧ Row true w' A cap (meL xs k0) S ∧ Chg S w w' := by
  subst ha
  unfold maxLen at hl
  have hxx := hx
  rcases hx with ⟨rfl, rfl, rfl⟩ | ⟨g, cur_, rfl, hg, hh_, hcs_, _⟩
  · go_enter Tryz.func27, Tryz.ntmps27
    go_wp2
    go_loopw [1, 5] (fun l i wr => i = .int .i64 0 ∧ l = .int .i64 (k0 : Int) ∧ wr = w) (fun _ _ _ => 0)
    case atStart => exact ⟨rfl, rfl, rfl⟩
    case round =>
      obtain ⟨rfl, rfl, rfl⟩ := hrel
      go_wp2
      go_ret; exact ⟨rfl, .inl ⟨rfl, rfl, rfl⟩, Chg.refl _ _⟩
  have hsh0 : Shp w g (ty ByteArray) (cap * 1) := ⟨cur_, hh_, hcs_⟩
  clear hh_ hcs_
  go_enter Tryz.func27, Tryz.ntmps27
  go_wp2
  go_loopw [1, 5] (fun l i wr => ∃ k : Nat, k ≤ xs.length ∧ i = .int .i64 k ∧ l = .int .i64 ((k0 + cnL (xs.take k) : Nat) : Int) ∧ Chg S w wr ∧ Row true wr (some ⟨g, 0, none⟩) cap (meL (xs.take k) k0 ++ xs.drop k) S) (fun _ i _ => xs.length - (intOf i).toNat)
  case atStart => exact ⟨0, Nat.zero_le _, rfl, by simp [cnL], Chg.refl _ _, by simpa [meL] using hxx⟩
  case round =>
    obtain ⟨k, hkk, rfl, rfl, hch, hrow⟩ := hrel
    clear hxx
    by_cases hlt : k < xs.length
    · have hylen : (meL (xs.take k) k0 ++ xs.drop k).length = xs.length := by simp; omega
      have hstep := meL_step xs k0 k hlt
      have hat := meL_at xs k0 k hlt (by rw [hylen]; exact hlt)
      generalize hys : meL (xs.take k) k0 ++ xs.drop k = ys at hrow hylen hat hstep
      have hlty : k < ys.length := by omega
      have hcs := cnL_take_succ xs k hlt
      have hcl := cnL_take_le xs (k + 1)
      generalize hK : k0 + cnL (xs.take k) = K at hstep
      generalize xs[k] = x at hat hcs hstep
      rw [show Mk.cn x = 1 from rfl] at hcs
      have hs2 : Hid (k0 + cnL (xs.take (k + 1)) = K + 1) := Lib.hid (by omega)
      have hKb : K + 1 ≤ 4611686018427387904 := by omega
      have hst : Hid (meL (xs.take (k + 1)) k0 ++ xs.drop (k + 1) = ys.set k (mtext K)) := Lib.hid hstep
      rcases hrow with ⟨h_, _⟩ | ⟨g2, cur, e_, _, hh, hcz, T, hT, hd, he⟩
      · cases h_
      cases e_
      have hsh : Shp wr g (ty ByteArray) (cap * 1) := ⟨cur, hh, hcz⟩
      have hd := hd rfl
      have hgl := hsh.lt
      have hgT : ¬ T k g := fun h => (hT k g h).2 rfl
      obtain ⟨c1, ha1, hr1⟩ := he k hlty
      rw [hat] at hr1
      have HE := Lib.hid he; have HD := Lib.hid hd; have HT := Lib.hid hT
      clear hcs hcl hstep hat hys he hd hT hh hcz
      have hr1 : rd true wr c1 (x : ByteArray) (T k) := hr1
      obtain ⟨rfl, _⟩ := open_str hr1
      clear hr1
      have q0 : wr.cell? ⟨g, k, none⟩ = some (.string x) := by have := ha1 0 _ rfl; simpa [show Lay.n ByteArray = 1 from rfl] using this
      clear ha1
      have hf0 := fun o => hsh.frozen o
      have hKb0 : K + 1 ≤ 4611686018427387904 := by omega
      have hC0 : Chg (fun b => b = g ∨ T k b) wr wr := Chg.refl _ _
      have hS0 := hsh
      go_wp2_with (fail)
      refine (mark_Text _ (K) (by first | rfl | omega | (simp; done)) (by omega) _).mono ?_
      rintro e1 w1 ⟨rfl, hb1⟩
      have hC1 : Chg (fun b => b = g ∨ T k b) wr w1 := Chg.trans (b := _) (by (repeat (first | with_reducible exact hC0 | with_reducible apply Chg.drew | with_reducible refine Chg.alloc ?_ _ | with_reducible refine Chg.setCell ?_ (.inl (.inl rfl)) _))) (hb1.chg_ (fun b => b = g ∨ T k b))
      have hS1 : Shp w1 g (ty ByteArray) (cap * 1) := Shp.ofb (by (repeat (first | with_reducible exact hS0 | with_reducible apply Shp.drew | with_reducible refine Shp.alloc ?_ _ | with_reducible refine Shp.set ?_ _ _))) hb1
      have hc1 := fun o => hb1.cell (p := ⟨g, o, none⟩) (Shp.lt (show Shp _ g (ty ByteArray) (cap * 1) from by (repeat (first | with_reducible exact hS0 | with_reducible apply Shp.drew | with_reducible refine Shp.alloc ?_ _ | with_reducible refine Shp.set ?_ _ _))))
      have hf1 := fun o => hS1.frozen o
      go_wp2
      go_roundw
      case rel =>
        refine ⟨k + 1, by omega, by go_num, by rw [hs2.out]; first | go_num | (congr 1; omega), ?_, ?_⟩
        · refine Chg.trans hch (Chg.mono (show Chg (fun b => b = g ∨ T k b) wr _ from by (repeat (first | with_reducible exact hC1 | with_reducible apply Chg.drew | with_reducible refine Chg.alloc ?_ _ | with_reducible refine Chg.setCell ?_ (.inl (.inl rfl)) _))) (fun b _ h => h.elim (fun e => e ▸ hg) (fun h => (HT.out k b h).1)))
        · rw [hst.out]
          refine Row.setN (N := 1) (T := T) (w := wr) (cs := [.string (mtext (K))]) rfl hg HT.out HD.out HE.out hlty (show Shp _ g (ty ByteArray) (cap * 1) from by (repeat (first | with_reducible exact hS1 | with_reducible apply Shp.drew | with_reducible refine Shp.alloc ?_ _ | with_reducible refine Shp.set ?_ _ _))) (fun o ho => ?_) (show Chg (fun b => b = g ∨ T k b) wr _ from by (repeat (first | with_reducible exact hC1 | with_reducible apply Chg.drew | with_reducible refine Chg.alloc ?_ _ | with_reducible refine Chg.setCell ?_ (.inl (.inl rfl)) _))) ?_ ?_
          · have n0 : o ≠ k := by intro h; apply ho; rw [h]; omega
            simp only [hc1, cell_set_ne _ _ _ o _ n0]
          · intro j u hu
            have hj : j < 1 := (List.getElem?_eq_some_iff.1 hu).1
            obtain rfl : j = 0 := by omega
            all_goals (have hu := Option.some.inj hu; subst hu; go_simp; try simp)
          · exact ⟨rfl, mtext_size _ (by omega)⟩
      case measure => simp [intOf]; omega
    · have hke : k = xs.length := by omega
      go_wp2
      go_ret; subst hke; refine ⟨by rw [List.take_of_length_le (Nat.le_refl _)]; rfl, by simpa using hrow, hch⟩
set_option maxRecDepth 40000 in set_option maxHeartbeats 4000000 in
theorem mark_SealS (xs : List Seal) (w : World) (A : Option Addr) (cap : Nat) (S : Blks) (a : Int) (k0 : Nat) (ha : a = (k0 : Int)) (hk : k0 + cnL xs ≤ 4611686018427387904) (hx : Row true w A cap xs S) (hl : xs.length ≤ maxLen) :
    Calls Tryz.prog 40 #[.slice A xs.length cap, .int .i64 a] w fun e w' => e = .returned (.int .i64 ((k0 + cnL xs : Nat) : Int)) ∧ Row true w' A cap (meL xs k0) S ∧ Chg S w w' := by
  subst ha
  unfold maxLen at hl
  have hxx := hx
  rcases hx with ⟨rfl, rfl, rfl⟩ | ⟨g, cur_, rfl, hg, hh_, hcs_, _⟩
  · go_enter Tryz.func40, Tryz.ntmps40
    go_wp2
    go_loopw [1, 5] (fun l i wr => i = .int .i64 0 ∧ l = .int .i64 (k0 : Int) ∧ wr = w) (fun _ _ _ => 0)
    case atStart => exact ⟨rfl, rfl, rfl⟩
    case round =>
      obtain ⟨rfl, rfl, rfl⟩ := hrel
      go_wp2
      go_ret; exact ⟨rfl, .inl ⟨rfl, rfl, rfl⟩, Chg.refl _ _⟩
  have hsh0 : Shp w g (ty Seal) (cap * 8) := ⟨cur_, hh_, hcs_⟩
  clear hh_ hcs_
  go_enter Tryz.func40, Tryz.ntmps40
  go_wp2
  go_loopw [1, 5] (fun l i wr => ∃ k : Nat, k ≤ xs.length ∧ i = .int .i64 k ∧ l = .int .i64 ((k0 + cnL (xs.take k) : Nat) : Int) ∧ Chg S w wr ∧ Row true wr (some ⟨g, 0, none⟩) cap (meL (xs.take k) k0 ++ xs.drop k) S) (fun _ i _ => xs.length - (intOf i).toNat)
  case atStart => exact ⟨0, Nat.zero_le _, rfl, by simp [cnL], Chg.refl _ _, by simpa [meL] using hxx⟩
  case round =>
    obtain ⟨k, hkk, rfl, rfl, hch, hrow⟩ := hrel
    clear hxx
    by_cases hlt : k < xs.length
    · have hylen : (meL (xs.take k) k0 ++ xs.drop k).length = xs.length := by simp; omega
      have hstep := meL_step xs k0 k hlt
      have hat := meL_at xs k0 k hlt (by rw [hylen]; exact hlt)
      generalize hys : meL (xs.take k) k0 ++ xs.drop k = ys at hrow hylen hat hstep
      have hlty : k < ys.length := by omega
      have hcs := cnL_take_succ xs k hlt
      have hcl := cnL_take_le xs (k + 1)
      generalize hK : k0 + cnL (xs.take k) = K at hstep
      generalize xs[k] = x at hat hcs hstep
      rw [show Mk.cn x = Seal.cn x from rfl] at hcs
      have hs2 : Hid (k0 + cnL (xs.take (k + 1)) = K + Seal.cn x) := Lib.hid (by omega)
      have hKb : K + Seal.cn x ≤ 4611686018427387904 := by omega
      unfold Seal.cn at hKb
      have hst : Hid (meL (xs.take (k + 1)) k0 ++ xs.drop (k + 1) = ys.set k (Seal.me x K)) := Lib.hid hstep
      rcases hrow with ⟨h_, _⟩ | ⟨g2, cur, e_, _, hh, hcz, T, hT, hd, he⟩
      · cases h_
      cases e_
      have hsh : Shp wr g (ty Seal) (cap * 8) := ⟨cur, hh, hcz⟩
      have hd := hd rfl
      have hgl := hsh.lt
      have hgT : ¬ T k g := fun h => (hT k g h).2 rfl
      obtain ⟨c1, ha1, hr1⟩ := he k hlty
      rw [hat] at hr1
      have HE := Lib.hid he; have HD := Lib.hid hd; have HT := Lib.hid hT
      clear hcs hcl hstep hat hys he hd hT hh hcz
      obtain ⟨eA0, ek0, eS0, eA1, ek1, eS1, eA2, ek2, eS2, rfl, ef0, ef1, ef2, ef3, ef4, ea0, eb0, er0, es0, ea1, eb1, er1, es1, ea2, eb2, er2, es2, epw⟩ := Seal.open hr1
      have epw_ := Lib.hid (epw rfl); clear epw
      have q0 : wr.cell? ⟨g, k * 8, none⟩ = some (.int .i64 x.head.house) := by have := ha1 0 _ rfl; simpa [show Lay.n Seal = 8 from rfl] using this
      have q1 : wr.cell? ⟨g, k * 8 + 1, none⟩ = some (.int .i64 x.head.epoch) := by have := ha1 1 _ rfl; simpa [show Lay.n Seal = 8 from rfl] using this
      have q2 : wr.cell? ⟨g, k * 8 + 2, none⟩ = some (.string x.head.root) := by have := ha1 2 _ rfl; simpa [show Lay.n Seal = 8 from rfl] using this
      have q3 : wr.cell? ⟨g, k * 8 + 3, none⟩ = some (.string x.head.prev) := by have := ha1 3 _ rfl; simpa [show Lay.n Seal = 8 from rfl] using this
      have q4 : wr.cell? ⟨g, k * 8 + 4, none⟩ = some (.int .i64 x.sig.at_) := by have := ha1 4 _ rfl; simpa [show Lay.n Seal = 8 from rfl] using this
      have q5 : wr.cell? ⟨g, k * 8 + 5, none⟩ = some (.slice eA0 x.sig.open_.length ek0) := by have := ha1 5 _ rfl; simpa [show Lay.n Seal = 8 from rfl] using this
      have q6 : wr.cell? ⟨g, k * 8 + 6, none⟩ = some (.slice eA1 x.sig.shut.length ek1) := by have := ha1 6 _ rfl; simpa [show Lay.n Seal = 8 from rfl] using this
      have q7 : wr.cell? ⟨g, k * 8 + 7, none⟩ = some (.slice eA2 x.sig.sides.length ek2) := by have := ha1 7 _ rfl; simpa [show Lay.n Seal = 8 from rfl] using this
      clear ha1
      have hf0 := fun o => hsh.frozen o
      obtain ⟨K1, hK1⟩ : ∃ q, K + 1 + 1 + 1 + 1 + 1 + cnL x.sig.open_ = q := ⟨_, rfl⟩
      have HK1 := Lib.hid hK1; clear hK1
      obtain ⟨K2, hK2⟩ : ∃ q, K1 + cnL x.sig.shut = q := ⟨_, rfl⟩
      have HK2 := Lib.hid hK2; clear hK2
      obtain ⟨K3, hK3⟩ : ∃ q, K2 + cnL x.sig.sides = q := ⟨_, rfl⟩
      have HK3 := Lib.hid hK3; clear hK3
      have hme : Hid (Seal.me x K = (⟨(⟨(((K) : Nat) : Int), (((K + 1) : Nat) : Int), mtext (K + 1 + 1), mtext (K + 1 + 1 + 1)⟩ : Head), (⟨(((K + 1 + 1 + 1 + 1) : Nat) : Int), meL x.sig.open_ (K + 1 + 1 + 1 + 1 + 1), meL x.sig.shut (K1), meL x.sig.sides (K2)⟩ : Sig)⟩ : Seal)) := Lib.hid (by simp only [Seal.me, HK1.out, HK2.out, HK3.out])
      have hKb0 : K + 5 ≤ 4611686018427387904 := by have := HK1.out; have := HK2.out; have := HK3.out; omega
      have hKb1 : K1 + 0 ≤ 4611686018427387904 := by have := HK1.out; have := HK2.out; have := HK3.out; omega
      have hKb2 : K2 + 0 ≤ 4611686018427387904 := by have := HK1.out; have := HK2.out; have := HK3.out; omega
      have hKb3 : K3 + 0 ≤ 4611686018427387904 := by have := HK1.out; have := HK2.out; have := HK3.out; omega
      have hC0 : Chg (fun b => b = g ∨ T k b) wr wr := Chg.refl _ _
      have hS0 := hsh
      go_wp2_with (fail)
      refine (mark_Text _ (K + 1 + 1) (by first | rfl | omega | (simp; done)) (by omega) _).mono ?_
      rintro e1 w1 ⟨rfl, hb1⟩
      have hC1 : Chg (fun b => b = g ∨ T k b) wr w1 := Chg.trans (b := _) (by (repeat (first | with_reducible exact hC0 | with_reducible apply Chg.drew | with_reducible refine Chg.alloc ?_ _ | with_reducible refine Chg.setCell ?_ (.inl (.inl rfl)) _))) (hb1.chg_ (fun b => b = g ∨ T k b))
      have hS1 : Shp w1 g (ty Seal) (cap * 8) := Shp.ofb (by (repeat (first | with_reducible exact hS0 | with_reducible apply Shp.drew | with_reducible refine Shp.alloc ?_ _ | with_reducible refine Shp.set ?_ _ _))) hb1
      have hr0_1 := Row.later (show Row true _ eA0 ek0 x.sig.open_ eS0 from by (repeat (first | with_reducible exact er0 | with_reducible apply Row.drewC | with_reducible refine Row.allocC ?_ _ | with_reducible refine Row.setC ?_ ?_ _ | exact (fun h => hgT (es0 _ h))))) hb1
      have hr1_1 := Row.later (show Row true _ eA1 ek1 x.sig.shut eS1 from by (repeat (first | with_reducible exact er1 | with_reducible apply Row.drewC | with_reducible refine Row.allocC ?_ _ | with_reducible refine Row.setC ?_ ?_ _ | exact (fun h => hgT (es1 _ h))))) hb1
      have hr2_1 := Row.later (show Row true _ eA2 ek2 x.sig.sides eS2 from by (repeat (first | with_reducible exact er2 | with_reducible apply Row.drewC | with_reducible refine Row.allocC ?_ _ | with_reducible refine Row.setC ?_ ?_ _ | exact (fun h => hgT (es2 _ h))))) hb1
      have hc1 := fun o => hb1.cell (p := ⟨g, o, none⟩) (Shp.lt (show Shp _ g (ty Seal) (cap * 8) from by (repeat (first | with_reducible exact hS0 | with_reducible apply Shp.drew | with_reducible refine Shp.alloc ?_ _ | with_reducible refine Shp.set ?_ _ _))))
      have hf1 := fun o => hS1.frozen o
      go_wp2_with (fail)
      refine (mark_Text _ (K + 1 + 1 + 1) (by first | rfl | omega | (simp; done)) (by omega) _).mono ?_
      rintro e2 w2 ⟨rfl, hb2⟩
      have hC2 : Chg (fun b => b = g ∨ T k b) wr w2 := Chg.trans (b := _) (by (repeat (first | with_reducible exact hC1 | with_reducible apply Chg.drew | with_reducible refine Chg.alloc ?_ _ | with_reducible refine Chg.setCell ?_ (.inl (.inl rfl)) _))) (hb2.chg_ (fun b => b = g ∨ T k b))
      have hS2 : Shp w2 g (ty Seal) (cap * 8) := Shp.ofb (by (repeat (first | with_reducible exact hS1 | with_reducible apply Shp.drew | with_reducible refine Shp.alloc ?_ _ | with_reducible refine Shp.set ?_ _ _))) hb2
      have hr0_2 := Row.later (show Row true _ eA0 ek0 x.sig.open_ eS0 from by (repeat (first | with_reducible exact hr0_1 | with_reducible apply Row.drewC | with_reducible refine Row.allocC ?_ _ | with_reducible refine Row.setC ?_ ?_ _ | exact (fun h => hgT (es0 _ h))))) hb2
      have hr1_2 := Row.later (show Row true _ eA1 ek1 x.sig.shut eS1 from by (repeat (first | with_reducible exact hr1_1 | with_reducible apply Row.drewC | with_reducible refine Row.allocC ?_ _ | with_reducible refine Row.setC ?_ ?_ _ | exact (fun h => hgT (es1 _ h))))) hb2
      have hr2_2 := Row.later (show Row true _ eA2 ek2 x.sig.sides eS2 from by (repeat (first | with_reducible exact hr2_1 | with_reducible apply Row.drewC | with_reducible refine Row.allocC ?_ _ | with_reducible refine Row.setC ?_ ?_ _ | exact (fun h => hgT (es2 _ h))))) hb2
      have hc2 := fun o => hb2.cell (p := ⟨g, o, none⟩) (Shp.lt (show Shp _ g (ty Seal) (cap * 8) from by (repeat (first | with_reducible exact hS1 | with_reducible apply Shp.drew | with_reducible refine Shp.alloc ?_ _ | with_reducible refine Shp.set ?_ _ _))))
      have hf2 := fun o => hS2.frozen o
      go_wp2_with (fail)
      refine (mark_StringS x.sig.open_ _ _ _ _ _ (K + 1 + 1 + 1 + 1 + 1) (by first | rfl | omega | (simp; done)) (by have := HK1.out; omega) (show Row true _ eA0 ek0 x.sig.open_ eS0 from by (repeat (first | with_reducible exact hr0_2 | with_reducible apply Row.drewC | with_reducible refine Row.allocC ?_ _ | with_reducible refine Row.setC ?_ ?_ _ | exact (fun h => hgT (es0 _ h))))) (Nat.le_trans ea0 eb0)).mono ?_
      rw [HK1.out]
      rintro e3 w3 ⟨rfl, hr0_3, hb3⟩
      have hC3 : Chg (fun b => b = g ∨ T k b) wr w3 := Chg.trans (b := _) (by (repeat (first | with_reducible exact hC2 | with_reducible apply Chg.drew | with_reducible refine Chg.alloc ?_ _ | with_reducible refine Chg.setCell ?_ (.inl (.inl rfl)) _))) (hb3.mono (fun b _ h => .inr (es0 b h)))
      have hS3 : Shp w3 g (ty Seal) (cap * 8) := Shp.ofc (by (repeat (first | with_reducible exact hS2 | with_reducible apply Shp.drew | with_reducible refine Shp.alloc ?_ _ | with_reducible refine Shp.set ?_ _ _))) hb3 (fun h => hgT (es0 _ h))
      have hr1_3 := Row.chg (show Row true _ eA1 ek1 x.sig.shut eS1 from by (repeat (first | with_reducible exact hr1_2 | with_reducible apply Row.drewC | with_reducible refine Row.allocC ?_ _ | with_reducible refine Row.setC ?_ ?_ _ | exact (fun h => hgT (es1 _ h))))) hb3 (disj_symm (pwget3_0_1 epw_.out))
      have hr2_3 := Row.chg (show Row true _ eA2 ek2 x.sig.sides eS2 from by (repeat (first | with_reducible exact hr2_2 | with_reducible apply Row.drewC | with_reducible refine Row.allocC ?_ _ | with_reducible refine Row.setC ?_ ?_ _ | exact (fun h => hgT (es2 _ h))))) hb3 (disj_symm (pwget3_0_2 epw_.out))
      have hc3 := fun o => hb3.cellC (p := ⟨g, o, none⟩) (Shp.lt (show Shp _ g (ty Seal) (cap * 8) from by (repeat (first | with_reducible exact hS2 | with_reducible apply Shp.drew | with_reducible refine Shp.alloc ?_ _ | with_reducible refine Shp.set ?_ _ _)))) (fun h => hgT (es0 _ h))
      have hf3 := fun o => hS3.frozen o
      go_wp2_with (fail)
      refine (mark_StringS x.sig.shut _ _ _ _ _ (K1) (by first | rfl | omega | (simp; done)) (by have := HK2.out; omega) (show Row true _ eA1 ek1 x.sig.shut eS1 from by (repeat (first | with_reducible exact hr1_3 | with_reducible apply Row.drewC | with_reducible refine Row.allocC ?_ _ | with_reducible refine Row.setC ?_ ?_ _ | exact (fun h => hgT (es1 _ h))))) (Nat.le_trans ea1 eb1)).mono ?_
      rw [HK2.out]
      rintro e4 w4 ⟨rfl, hr1_4, hb4⟩
      have hC4 : Chg (fun b => b = g ∨ T k b) wr w4 := Chg.trans (b := _) (by (repeat (first | with_reducible exact hC3 | with_reducible apply Chg.drew | with_reducible refine Chg.alloc ?_ _ | with_reducible refine Chg.setCell ?_ (.inl (.inl rfl)) _))) (hb4.mono (fun b _ h => .inr (es1 b h)))
      have hS4 : Shp w4 g (ty Seal) (cap * 8) := Shp.ofc (by (repeat (first | with_reducible exact hS3 | with_reducible apply Shp.drew | with_reducible refine Shp.alloc ?_ _ | with_reducible refine Shp.set ?_ _ _))) hb4 (fun h => hgT (es1 _ h))
      have hr0_4 := Row.chg (show Row true _ eA0 ek0 (meL x.sig.open_ (K + 1 + 1 + 1 + 1 + 1)) eS0 from by (repeat (first | with_reducible exact hr0_3 | with_reducible apply Row.drewC | with_reducible refine Row.allocC ?_ _ | with_reducible refine Row.setC ?_ ?_ _ | exact (fun h => hgT (es0 _ h))))) hb4 (pwget3_0_1 epw_.out)
      have hr2_4 := Row.chg (show Row true _ eA2 ek2 x.sig.sides eS2 from by (repeat (first | with_reducible exact hr2_3 | with_reducible apply Row.drewC | with_reducible refine Row.allocC ?_ _ | with_reducible refine Row.setC ?_ ?_ _ | exact (fun h => hgT (es2 _ h))))) hb4 (disj_symm (pwget3_1_2 epw_.out))
      have hc4 := fun o => hb4.cellC (p := ⟨g, o, none⟩) (Shp.lt (show Shp _ g (ty Seal) (cap * 8) from by (repeat (first | with_reducible exact hS3 | with_reducible apply Shp.drew | with_reducible refine Shp.alloc ?_ _ | with_reducible refine Shp.set ?_ _ _)))) (fun h => hgT (es1 _ h))
      have hf4 := fun o => hS4.frozen o
      go_wp2_with (fail)
      refine (mark_StringS x.sig.sides _ _ _ _ _ (K2) (by first | rfl | omega | (simp; done)) (by have := HK3.out; omega) (show Row true _ eA2 ek2 x.sig.sides eS2 from by (repeat (first | with_reducible exact hr2_4 | with_reducible apply Row.drewC | with_reducible refine Row.allocC ?_ _ | with_reducible refine Row.setC ?_ ?_ _ | exact (fun h => hgT (es2 _ h))))) (Nat.le_trans ea2 eb2)).mono ?_
      rw [HK3.out]
      rintro e5 w5 ⟨rfl, hr2_5, hb5⟩
      have hC5 : Chg (fun b => b = g ∨ T k b) wr w5 := Chg.trans (b := _) (by (repeat (first | with_reducible exact hC4 | with_reducible apply Chg.drew | with_reducible refine Chg.alloc ?_ _ | with_reducible refine Chg.setCell ?_ (.inl (.inl rfl)) _))) (hb5.mono (fun b _ h => .inr (es2 b h)))
      have hS5 : Shp w5 g (ty Seal) (cap * 8) := Shp.ofc (by (repeat (first | with_reducible exact hS4 | with_reducible apply Shp.drew | with_reducible refine Shp.alloc ?_ _ | with_reducible refine Shp.set ?_ _ _))) hb5 (fun h => hgT (es2 _ h))
      have hr0_5 := Row.chg (show Row true _ eA0 ek0 (meL x.sig.open_ (K + 1 + 1 + 1 + 1 + 1)) eS0 from by (repeat (first | with_reducible exact hr0_4 | with_reducible apply Row.drewC | with_reducible refine Row.allocC ?_ _ | with_reducible refine Row.setC ?_ ?_ _ | exact (fun h => hgT (es0 _ h))))) hb5 (pwget3_0_2 epw_.out)
      have hr1_5 := Row.chg (show Row true _ eA1 ek1 (meL x.sig.shut (K1)) eS1 from by (repeat (first | with_reducible exact hr1_4 | with_reducible apply Row.drewC | with_reducible refine Row.allocC ?_ _ | with_reducible refine Row.setC ?_ ?_ _ | exact (fun h => hgT (es1 _ h))))) hb5 (pwget3_1_2 epw_.out)
      have hc5 := fun o => hb5.cellC (p := ⟨g, o, none⟩) (Shp.lt (show Shp _ g (ty Seal) (cap * 8) from by (repeat (first | with_reducible exact hS4 | with_reducible apply Shp.drew | with_reducible refine Shp.alloc ?_ _ | with_reducible refine Shp.set ?_ _ _)))) (fun h => hgT (es2 _ h))
      have hf5 := fun o => hS5.frozen o
      go_wp2
      go_roundw
      case rel =>
        refine ⟨k + 1, by omega, by go_num, by rw [hs2.out]; first | go_num | (congr 1; unfold Seal.cn; have := HK1.out; have := HK2.out; have := HK3.out; omega), ?_, ?_⟩
        · refine Chg.trans hch (Chg.mono (show Chg (fun b => b = g ∨ T k b) wr _ from by (repeat (first | with_reducible exact hC5 | with_reducible apply Chg.drew | with_reducible refine Chg.alloc ?_ _ | with_reducible refine Chg.setCell ?_ (.inl (.inl rfl)) _))) (fun b _ h => h.elim (fun e => e ▸ hg) (fun h => (HT.out k b h).1)))
        · rw [hst.out, hme.out]
          refine Row.setN (N := 8) (T := T) (w := wr) (cs := [.int .i64 (((K) : Nat) : Int), .int .i64 (((K + 1) : Nat) : Int), .string (mtext (K + 1 + 1)), .string (mtext (K + 1 + 1 + 1)), .int .i64 (((K + 1 + 1 + 1 + 1) : Nat) : Int), .slice eA0 (meL x.sig.open_ (K + 1 + 1 + 1 + 1 + 1)).length ek0, .slice eA1 (meL x.sig.shut (K1)).length ek1, .slice eA2 (meL x.sig.sides (K2)).length ek2]) rfl hg HT.out HD.out HE.out hlty (show Shp _ g (ty Seal) (cap * 8) from by (repeat (first | with_reducible exact hS5 | with_reducible apply Shp.drew | with_reducible refine Shp.alloc ?_ _ | with_reducible refine Shp.set ?_ _ _))) (fun o ho => ?_) (show Chg (fun b => b = g ∨ T k b) wr _ from by (repeat (first | with_reducible exact hC5 | with_reducible apply Chg.drew | with_reducible refine Chg.alloc ?_ _ | with_reducible refine Chg.setCell ?_ (.inl (.inl rfl)) _))) ?_ ?_
          · have n0 : o ≠ k * 8 := by intro h; apply ho; rw [h]; omega
            have n1 : o ≠ k * 8 + 1 := by intro h; apply ho; rw [h]; omega
            have n2 : o ≠ k * 8 + 2 := by intro h; apply ho; rw [h]; omega
            have n3 : o ≠ k * 8 + 3 := by intro h; apply ho; rw [h]; omega
            have n4 : o ≠ k * 8 + 4 := by intro h; apply ho; rw [h]; omega
            have n5 : o ≠ k * 8 + 5 := by intro h; apply ho; rw [h]; omega
            have n6 : o ≠ k * 8 + 6 := by intro h; apply ho; rw [h]; omega
            have n7 : o ≠ k * 8 + 7 := by intro h; apply ho; rw [h]; omega
            simp only [hc5, hc4, hc3, hc2, hc1, cell_set_ne _ _ _ o _ n0, cell_set_ne _ _ _ o _ n1, cell_set_ne _ _ _ o _ n2, cell_set_ne _ _ _ o _ n3, cell_set_ne _ _ _ o _ n4, cell_set_ne _ _ _ o _ n5, cell_set_ne _ _ _ o _ n6, cell_set_ne _ _ _ o _ n7]
          · intro j u hu
            have hj : j < 8 := (List.getElem?_eq_some_iff.1 hu).1
            rcases (by omega : j = 0 ∨ j = 1 ∨ j = 2 ∨ j = 3 ∨ j = 4 ∨ j = 5 ∨ j = 6 ∨ j = 7) with rfl | rfl | rfl | rfl | rfl | rfl | rfl | rfl
            all_goals (have hu := Option.some.inj hu; subst hu; go_simp; try simp)
          · exact Seal.mk' (m := true) (x := (⟨(⟨(((K) : Nat) : Int), (((K + 1) : Nat) : Int), mtext (K + 1 + 1), mtext (K + 1 + 1 + 1)⟩ : Head), (⟨(((K + 1 + 1 + 1 + 1) : Nat) : Int), meL x.sig.open_ (K + 1 + 1 + 1 + 1 + 1), meL x.sig.shut (K1), meL x.sig.sides (K2)⟩ : Sig)⟩ : Seal)) (S := T k) (I64_nat (by have := HK1.out; have := HK2.out; have := HK3.out; omega)) (I64_nat (by have := HK1.out; have := HK2.out; have := HK3.out; omega)) (mtext_size (K + 1 + 1) (by have := HK1.out; have := HK2.out; have := HK3.out; omega)) (mtext_size (K + 1 + 1 + 1) (by have := HK1.out; have := HK2.out; have := HK3.out; omega)) (I64_nat (by have := HK1.out; have := HK2.out; have := HK3.out; omega)) (by rw [meL_length]; exact ea0) eb0 (show Row true _ eA0 ek0 (meL x.sig.open_ (K + 1 + 1 + 1 + 1 + 1)) eS0 from by (repeat (first | with_reducible exact hr0_5 | with_reducible apply Row.drewC | with_reducible refine Row.allocC ?_ _ | with_reducible refine Row.setC ?_ ?_ _ | exact (fun h => hgT (es0 _ h))))) es0 (by rw [meL_length]; exact ea1) eb1 (show Row true _ eA1 ek1 (meL x.sig.shut (K1)) eS1 from by (repeat (first | with_reducible exact hr1_5 | with_reducible apply Row.drewC | with_reducible refine Row.allocC ?_ _ | with_reducible refine Row.setC ?_ ?_ _ | exact (fun h => hgT (es1 _ h))))) es1 (by rw [meL_length]; exact ea2) eb2 (show Row true _ eA2 ek2 (meL x.sig.sides (K2)) eS2 from by (repeat (first | with_reducible exact hr2_5 | with_reducible apply Row.drewC | with_reducible refine Row.allocC ?_ _ | with_reducible refine Row.setC ?_ ?_ _ | exact (fun h => hgT (es2 _ h))))) es2 (fun _ => epw_.out)
      case measure => simp [intOf]; omega
    · have hke : k = xs.length := by omega
      go_wp2
      go_ret; subst hke; refine ⟨by rw [List.take_of_length_le (Nat.le_refl _)]; rfl, by simpa using hrow, hch⟩
set_option maxRecDepth 40000 in set_option maxHeartbeats 4000000 in
theorem mark_PairS (xs : List Pair) (w : World) (A : Option Addr) (cap : Nat) (S : Blks) (a : Int) (k0 : Nat) (ha : a = (k0 : Int)) (hk : k0 + cnL xs ≤ 4611686018427387904) (hx : Row true w A cap xs S) (hl : xs.length ≤ maxLen) :
    Calls Tryz.prog 41 #[.slice A xs.length cap, .int .i64 a] w fun e w' => e = .returned (.int .i64 ((k0 + cnL xs : Nat) : Int)) ∧ Row true w' A cap (meL xs k0) S ∧ Chg S w w' := by
  subst ha
  unfold maxLen at hl
  have hxx := hx
  rcases hx with ⟨rfl, rfl, rfl⟩ | ⟨g, cur_, rfl, hg, hh_, hcs_, _⟩
  · go_enter Tryz.func41, Tryz.ntmps41
    go_wp2
    go_loopw [1, 5] (fun l i wr => i = .int .i64 0 ∧ l = .int .i64 (k0 : Int) ∧ wr = w) (fun _ _ _ => 0)
    case atStart => exact ⟨rfl, rfl, rfl⟩
    case round =>
      obtain ⟨rfl, rfl, rfl⟩ := hrel
      go_wp2
      go_ret; exact ⟨rfl, .inl ⟨rfl, rfl, rfl⟩, Chg.refl _ _⟩
  have hsh0 : Shp w g (ty Pair) (cap * 16) := ⟨cur_, hh_, hcs_⟩
  clear hh_ hcs_
  go_enter Tryz.func41, Tryz.ntmps41
  go_wp2
  go_loopw [1, 5] (fun l i wr => ∃ k : Nat, k ≤ xs.length ∧ i = .int .i64 k ∧ l = .int .i64 ((k0 + cnL (xs.take k) : Nat) : Int) ∧ Chg S w wr ∧ Row true wr (some ⟨g, 0, none⟩) cap (meL (xs.take k) k0 ++ xs.drop k) S) (fun _ i _ => xs.length - (intOf i).toNat)
  case atStart => exact ⟨0, Nat.zero_le _, rfl, by simp [cnL], Chg.refl _ _, by simpa [meL] using hxx⟩
  case round =>
    obtain ⟨k, hkk, rfl, rfl, hch, hrow⟩ := hrel
    clear hxx
    by_cases hlt : k < xs.length
    · have hylen : (meL (xs.take k) k0 ++ xs.drop k).length = xs.length := by simp; omega
      have hstep := meL_step xs k0 k hlt
      have hat := meL_at xs k0 k hlt (by rw [hylen]; exact hlt)
      generalize hys : meL (xs.take k) k0 ++ xs.drop k = ys at hrow hylen hat hstep
      have hlty : k < ys.length := by omega
      have hcs := cnL_take_succ xs k hlt
      have hcl := cnL_take_le xs (k + 1)
      generalize hK : k0 + cnL (xs.take k) = K at hstep
      generalize xs[k] = x at hat hcs hstep
      rw [show Mk.cn x = Pair.cn x from rfl] at hcs
      have hs2 : Hid (k0 + cnL (xs.take (k + 1)) = K + Pair.cn x) := Lib.hid (by omega)
      have hKb : K + Pair.cn x ≤ 4611686018427387904 := by omega
      unfold Pair.cn at hKb
      have hst : Hid (meL (xs.take (k + 1)) k0 ++ xs.drop (k + 1) = ys.set k (Pair.me x K)) := Lib.hid hstep
      rcases hrow with ⟨h_, _⟩ | ⟨g2, cur, e_, _, hh, hcz, T, hT, hd, he⟩
      · cases h_
      cases e_
      have hsh : Shp wr g (ty Pair) (cap * 16) := ⟨cur, hh, hcz⟩
      have hd := hd rfl
      have hgl := hsh.lt
      have hgT : ¬ T k g := fun h => (hT k g h).2 rfl
      obtain ⟨c1, ha1, hr1⟩ := he k hlty
      rw [hat] at hr1
      have HE := Lib.hid he; have HD := Lib.hid hd; have HT := Lib.hid hT
      clear hcs hcl hstep hat hys he hd hT hh hcz
      obtain ⟨eA0, ek0, eS0, eA1, ek1, eS1, eA2, ek2, eS2, eA3, ek3, eS3, eA4, ek4, eS4, eA5, ek5, eS5, rfl, ef0, ef1, ef2, ef3, ef4, ef8, ef9, ef10, ef11, ef12, ea0, eb0, er0, es0, ea1, eb1, er1, es1, ea2, eb2, er2, es2, ea3, eb3, er3, es3, ea4, eb4, er4, es4, ea5, eb5, er5, es5, epw⟩ := Pair.open hr1
      have epw_ := Lib.hid (epw rfl); clear epw
      have q0 : wr.cell? ⟨g, k * 16, none⟩ = some (.int .i64 x.a.head.house) := by have := ha1 0 _ rfl; simpa [show Lay.n Pair = 16 from rfl] using this
      have q1 : wr.cell? ⟨g, k * 16 + 1, none⟩ = some (.int .i64 x.a.head.epoch) := by have := ha1 1 _ rfl; simpa [show Lay.n Pair = 16 from rfl] using this
      have q2 : wr.cell? ⟨g, k * 16 + 2, none⟩ = some (.string x.a.head.root) := by have := ha1 2 _ rfl; simpa [show Lay.n Pair = 16 from rfl] using this
      have q3 : wr.cell? ⟨g, k * 16 + 3, none⟩ = some (.string x.a.head.prev) := by have := ha1 3 _ rfl; simpa [show Lay.n Pair = 16 from rfl] using this
      have q4 : wr.cell? ⟨g, k * 16 + 4, none⟩ = some (.int .i64 x.a.sig.at_) := by have := ha1 4 _ rfl; simpa [show Lay.n Pair = 16 from rfl] using this
      have q5 : wr.cell? ⟨g, k * 16 + 5, none⟩ = some (.slice eA0 x.a.sig.open_.length ek0) := by have := ha1 5 _ rfl; simpa [show Lay.n Pair = 16 from rfl] using this
      have q6 : wr.cell? ⟨g, k * 16 + 6, none⟩ = some (.slice eA1 x.a.sig.shut.length ek1) := by have := ha1 6 _ rfl; simpa [show Lay.n Pair = 16 from rfl] using this
      have q7 : wr.cell? ⟨g, k * 16 + 7, none⟩ = some (.slice eA2 x.a.sig.sides.length ek2) := by have := ha1 7 _ rfl; simpa [show Lay.n Pair = 16 from rfl] using this
      have q8 : wr.cell? ⟨g, k * 16 + 8, none⟩ = some (.int .i64 x.b.head.house) := by have := ha1 8 _ rfl; simpa [show Lay.n Pair = 16 from rfl] using this
      have q9 : wr.cell? ⟨g, k * 16 + 9, none⟩ = some (.int .i64 x.b.head.epoch) := by have := ha1 9 _ rfl; simpa [show Lay.n Pair = 16 from rfl] using this
      have q10 : wr.cell? ⟨g, k * 16 + 10, none⟩ = some (.string x.b.head.root) := by have := ha1 10 _ rfl; simpa [show Lay.n Pair = 16 from rfl] using this
      have q11 : wr.cell? ⟨g, k * 16 + 11, none⟩ = some (.string x.b.head.prev) := by have := ha1 11 _ rfl; simpa [show Lay.n Pair = 16 from rfl] using this
      have q12 : wr.cell? ⟨g, k * 16 + 12, none⟩ = some (.int .i64 x.b.sig.at_) := by have := ha1 12 _ rfl; simpa [show Lay.n Pair = 16 from rfl] using this
      have q13 : wr.cell? ⟨g, k * 16 + 13, none⟩ = some (.slice eA3 x.b.sig.open_.length ek3) := by have := ha1 13 _ rfl; simpa [show Lay.n Pair = 16 from rfl] using this
      have q14 : wr.cell? ⟨g, k * 16 + 14, none⟩ = some (.slice eA4 x.b.sig.shut.length ek4) := by have := ha1 14 _ rfl; simpa [show Lay.n Pair = 16 from rfl] using this
      have q15 : wr.cell? ⟨g, k * 16 + 15, none⟩ = some (.slice eA5 x.b.sig.sides.length ek5) := by have := ha1 15 _ rfl; simpa [show Lay.n Pair = 16 from rfl] using this
      clear ha1
      have hf0 := fun o => hsh.frozen o
      obtain ⟨K1, hK1⟩ : ∃ q, K + 1 + 1 + 1 + 1 + 1 + cnL x.a.sig.open_ = q := ⟨_, rfl⟩
      have HK1 := Lib.hid hK1; clear hK1
      obtain ⟨K2, hK2⟩ : ∃ q, K1 + cnL x.a.sig.shut = q := ⟨_, rfl⟩
      have HK2 := Lib.hid hK2; clear hK2
      obtain ⟨K3, hK3⟩ : ∃ q, K2 + cnL x.a.sig.sides = q := ⟨_, rfl⟩
      have HK3 := Lib.hid hK3; clear hK3
      obtain ⟨K4, hK4⟩ : ∃ q, K3 + 1 + 1 + 1 + 1 + 1 + cnL x.b.sig.open_ = q := ⟨_, rfl⟩
      have HK4 := Lib.hid hK4; clear hK4
      obtain ⟨K5, hK5⟩ : ∃ q, K4 + cnL x.b.sig.shut = q := ⟨_, rfl⟩
      have HK5 := Lib.hid hK5; clear hK5
      obtain ⟨K6, hK6⟩ : ∃ q, K5 + cnL x.b.sig.sides = q := ⟨_, rfl⟩
      have HK6 := Lib.hid hK6; clear hK6
      have hme : Hid (Pair.me x K = (⟨(⟨(⟨(((K) : Nat) : Int), (((K + 1) : Nat) : Int), mtext (K + 1 + 1), mtext (K + 1 + 1 + 1)⟩ : Head), (⟨(((K + 1 + 1 + 1 + 1) : Nat) : Int), meL x.a.sig.open_ (K + 1 + 1 + 1 + 1 + 1), meL x.a.sig.shut (K1), meL x.a.sig.sides (K2)⟩ : Sig)⟩ : Seal), (⟨(⟨(((K3) : Nat) : Int), (((K3 + 1) : Nat) : Int), mtext (K3 + 1 + 1), mtext (K3 + 1 + 1 + 1)⟩ : Head), (⟨(((K3 + 1 + 1 + 1 + 1) : Nat) : Int), meL x.b.sig.open_ (K3 + 1 + 1 + 1 + 1 + 1), meL x.b.sig.shut (K4), meL x.b.sig.sides (K5)⟩ : Sig)⟩ : Seal)⟩ : Pair)) := Lib.hid (by simp only [Pair.me, HK1.out, HK2.out, HK3.out, HK4.out, HK5.out, HK6.out])
      have hKb0 : K + 5 ≤ 4611686018427387904 := by have := HK1.out; have := HK2.out; have := HK3.out; have := HK4.out; have := HK5.out; have := HK6.out; omega
      have hKb1 : K1 + 0 ≤ 4611686018427387904 := by have := HK1.out; have := HK2.out; have := HK3.out; have := HK4.out; have := HK5.out; have := HK6.out; omega
      have hKb2 : K2 + 0 ≤ 4611686018427387904 := by have := HK1.out; have := HK2.out; have := HK3.out; have := HK4.out; have := HK5.out; have := HK6.out; omega
      have hKb3 : K3 + 5 ≤ 4611686018427387904 := by have := HK1.out; have := HK2.out; have := HK3.out; have := HK4.out; have := HK5.out; have := HK6.out; omega
      have hKb4 : K4 + 0 ≤ 4611686018427387904 := by have := HK1.out; have := HK2.out; have := HK3.out; have := HK4.out; have := HK5.out; have := HK6.out; omega
      have hKb5 : K5 + 0 ≤ 4611686018427387904 := by have := HK1.out; have := HK2.out; have := HK3.out; have := HK4.out; have := HK5.out; have := HK6.out; omega
      have hKb6 : K6 + 0 ≤ 4611686018427387904 := by have := HK1.out; have := HK2.out; have := HK3.out; have := HK4.out; have := HK5.out; have := HK6.out; omega
      have hC0 : Chg (fun b => b = g ∨ T k b) wr wr := Chg.refl _ _
      have hS0 := hsh
      go_wp2_with (fail)
      refine (mark_Text _ (K + 1 + 1) (by first | rfl | omega | (simp; done)) (by omega) _).mono ?_
      rintro e1 w1 ⟨rfl, hb1⟩
      have hC1 : Chg (fun b => b = g ∨ T k b) wr w1 := Chg.trans (b := _) (by (repeat (first | with_reducible exact hC0 | with_reducible apply Chg.drew | with_reducible refine Chg.alloc ?_ _ | with_reducible refine Chg.setCell ?_ (.inl (.inl rfl)) _))) (hb1.chg_ (fun b => b = g ∨ T k b))
      have hS1 : Shp w1 g (ty Pair) (cap * 16) := Shp.ofb (by (repeat (first | with_reducible exact hS0 | with_reducible apply Shp.drew | with_reducible refine Shp.alloc ?_ _ | with_reducible refine Shp.set ?_ _ _))) hb1
      have hr0_1 := Row.later (show Row true _ eA0 ek0 x.a.sig.open_ eS0 from by (repeat (first | with_reducible exact er0 | with_reducible apply Row.drewC | with_reducible refine Row.allocC ?_ _ | with_reducible refine Row.setC ?_ ?_ _ | exact (fun h => hgT (es0 _ h))))) hb1
      have hr1_1 := Row.later (show Row true _ eA1 ek1 x.a.sig.shut eS1 from by (repeat (first | with_reducible exact er1 | with_reducible apply Row.drewC | with_reducible refine Row.allocC ?_ _ | with_reducible refine Row.setC ?_ ?_ _ | exact (fun h => hgT (es1 _ h))))) hb1
      have hr2_1 := Row.later (show Row true _ eA2 ek2 x.a.sig.sides eS2 from by (repeat (first | with_reducible exact er2 | with_reducible apply Row.drewC | with_reducible refine Row.allocC ?_ _ | with_reducible refine Row.setC ?_ ?_ _ | exact (fun h => hgT (es2 _ h))))) hb1
      have hr3_1 := Row.later (show Row true _ eA3 ek3 x.b.sig.open_ eS3 from by (repeat (first | with_reducible exact er3 | with_reducible apply Row.drewC | with_reducible refine Row.allocC ?_ _ | with_reducible refine Row.setC ?_ ?_ _ | exact (fun h => hgT (es3 _ h))))) hb1
      have hr4_1 := Row.later (show Row true _ eA4 ek4 x.b.sig.shut eS4 from by (repeat (first | with_reducible exact er4 | with_reducible apply Row.drewC | with_reducible refine Row.allocC ?_ _ | with_reducible refine Row.setC ?_ ?_ _ | exact (fun h => hgT (es4 _ h))))) hb1
      have hr5_1 := Row.later (show Row true _ eA5 ek5 x.b.sig.sides eS5 from by (repeat (first | with_reducible exact er5 | with_reducible apply Row.drewC | with_reducible refine Row.allocC ?_ _ | with_reducible refine Row.setC ?_ ?_ _ | exact (fun h => hgT (es5 _ h))))) hb1
      have hc1 := fun o => hb1.cell (p := ⟨g, o, none⟩) (Shp.lt (show Shp _ g (ty Pair) (cap * 16) from by (repeat (first | with_reducible exact hS0 | with_reducible apply Shp.drew | with_reducible refine Shp.alloc ?_ _ | with_reducible refine Shp.set ?_ _ _))))
      have hf1 := fun o => hS1.frozen o
      go_wp2_with (fail)
      refine (mark_Text _ (K + 1 + 1 + 1) (by first | rfl | omega | (simp; done)) (by omega) _).mono ?_
      rintro e2 w2 ⟨rfl, hb2⟩
      have hC2 : Chg (fun b => b = g ∨ T k b) wr w2 := Chg.trans (b := _) (by (repeat (first | with_reducible exact hC1 | with_reducible apply Chg.drew | with_reducible refine Chg.alloc ?_ _ | with_reducible refine Chg.setCell ?_ (.inl (.inl rfl)) _))) (hb2.chg_ (fun b => b = g ∨ T k b))
      have hS2 : Shp w2 g (ty Pair) (cap * 16) := Shp.ofb (by (repeat (first | with_reducible exact hS1 | with_reducible apply Shp.drew | with_reducible refine Shp.alloc ?_ _ | with_reducible refine Shp.set ?_ _ _))) hb2
      have hr0_2 := Row.later (show Row true _ eA0 ek0 x.a.sig.open_ eS0 from by (repeat (first | with_reducible exact hr0_1 | with_reducible apply Row.drewC | with_reducible refine Row.allocC ?_ _ | with_reducible refine Row.setC ?_ ?_ _ | exact (fun h => hgT (es0 _ h))))) hb2
      have hr1_2 := Row.later (show Row true _ eA1 ek1 x.a.sig.shut eS1 from by (repeat (first | with_reducible exact hr1_1 | with_reducible apply Row.drewC | with_reducible refine Row.allocC ?_ _ | with_reducible refine Row.setC ?_ ?_ _ | exact (fun h => hgT (es1 _ h))))) hb2
      have hr2_2 := Row.later (show Row true _ eA2 ek2 x.a.sig.sides eS2 from by (repeat (first | with_reducible exact hr2_1 | with_reducible apply Row.drewC | with_reducible refine Row.allocC ?_ _ | with_reducible refine Row.setC ?_ ?_ _ | exact (fun h => hgT (es2 _ h))))) hb2
      have hr3_2 := Row.later (show Row true _ eA3 ek3 x.b.sig.open_ eS3 from by (repeat (first | with_reducible exact hr3_1 | with_reducible apply Row.drewC | with_reducible refine Row.allocC ?_ _ | with_reducible refine Row.setC ?_ ?_ _ | exact (fun h => hgT (es3 _ h))))) hb2
      have hr4_2 := Row.later (show Row true _ eA4 ek4 x.b.sig.shut eS4 from by (repeat (first | with_reducible exact hr4_1 | with_reducible apply Row.drewC | with_reducible refine Row.allocC ?_ _ | with_reducible refine Row.setC ?_ ?_ _ | exact (fun h => hgT (es4 _ h))))) hb2
      have hr5_2 := Row.later (show Row true _ eA5 ek5 x.b.sig.sides eS5 from by (repeat (first | with_reducible exact hr5_1 | with_reducible apply Row.drewC | with_reducible refine Row.allocC ?_ _ | with_reducible refine Row.setC ?_ ?_ _ | exact (fun h => hgT (es5 _ h))))) hb2
      have hc2 := fun o => hb2.cell (p := ⟨g, o, none⟩) (Shp.lt (show Shp _ g (ty Pair) (cap * 16) from by (repeat (first | with_reducible exact hS1 | with_reducible apply Shp.drew | with_reducible refine Shp.alloc ?_ _ | with_reducible refine Shp.set ?_ _ _))))
      have hf2 := fun o => hS2.frozen o
      go_wp2_with (fail)
      refine (mark_StringS x.a.sig.open_ _ _ _ _ _ (K + 1 + 1 + 1 + 1 + 1) (by first | rfl | omega | (simp; done)) (by have := HK1.out; omega) (show Row true _ eA0 ek0 x.a.sig.open_ eS0 from by (repeat (first | with_reducible exact hr0_2 | with_reducible apply Row.drewC | with_reducible refine Row.allocC ?_ _ | with_reducible refine Row.setC ?_ ?_ _ | exact (fun h => hgT (es0 _ h))))) (Nat.le_trans ea0 eb0)).mono ?_
      rw [HK1.out]
      rintro e3 w3 ⟨rfl, hr0_3, hb3⟩
      have hC3 : Chg (fun b => b = g ∨ T k b) wr w3 := Chg.trans (b := _) (by (repeat (first | with_reducible exact hC2 | with_reducible apply Chg.drew | with_reducible refine Chg.alloc ?_ _ | with_reducible refine Chg.setCell ?_ (.inl (.inl rfl)) _))) (hb3.mono (fun b _ h => .inr (es0 b h)))
      have hS3 : Shp w3 g (ty Pair) (cap * 16) := Shp.ofc (by (repeat (first | with_reducible exact hS2 | with_reducible apply Shp.drew | with_reducible refine Shp.alloc ?_ _ | with_reducible refine Shp.set ?_ _ _))) hb3 (fun h => hgT (es0 _ h))
      have hr1_3 := Row.chg (show Row true _ eA1 ek1 x.a.sig.shut eS1 from by (repeat (first | with_reducible exact hr1_2 | with_reducible apply Row.drewC | with_reducible refine Row.allocC ?_ _ | with_reducible refine Row.setC ?_ ?_ _ | exact (fun h => hgT (es1 _ h))))) hb3 (disj_symm (pwget6_0_1 epw_.out))
      have hr2_3 := Row.chg (show Row true _ eA2 ek2 x.a.sig.sides eS2 from by (repeat (first | with_reducible exact hr2_2 | with_reducible apply Row.drewC | with_reducible refine Row.allocC ?_ _ | with_reducible refine Row.setC ?_ ?_ _ | exact (fun h => hgT (es2 _ h))))) hb3 (disj_symm (pwget6_0_2 epw_.out))
      have hr3_3 := Row.chg (show Row true _ eA3 ek3 x.b.sig.open_ eS3 from by (repeat (first | with_reducible exact hr3_2 | with_reducible apply Row.drewC | with_reducible refine Row.allocC ?_ _ | with_reducible refine Row.setC ?_ ?_ _ | exact (fun h => hgT (es3 _ h))))) hb3 (disj_symm (pwget6_0_3 epw_.out))
      have hr4_3 := Row.chg (show Row true _ eA4 ek4 x.b.sig.shut eS4 from by (repeat (first | with_reducible exact hr4_2 | with_reducible apply Row.drewC | with_reducible refine Row.allocC ?_ _ | with_reducible refine Row.setC ?_ ?_ _ | exact (fun h => hgT (es4 _ h))))) hb3 (disj_symm (pwget6_0_4 epw_.out))
      have hr5_3 := Row.chg (show Row true _ eA5 ek5 x.b.sig.sides eS5 from by (repeat (first | with_reducible exact hr5_2 | with_reducible apply Row.drewC | with_reducible refine Row.allocC ?_ _ | with_reducible refine Row.setC ?_ ?_ _ | exact (fun h => hgT (es5 _ h))))) hb3 (disj_symm (pwget6_0_5 epw_.out))
      have hc3 := fun o => hb3.cellC (p := ⟨g, o, none⟩) (Shp.lt (show Shp _ g (ty Pair) (cap * 16) from by (repeat (first | with_reducible exact hS2 | with_reducible apply Shp.drew | with_reducible refine Shp.alloc ?_ _ | with_reducible refine Shp.set ?_ _ _)))) (fun h => hgT (es0 _ h))
      have hf3 := fun o => hS3.frozen o
      go_wp2_with (fail)
      refine (mark_StringS x.a.sig.shut _ _ _ _ _ (K1) (by first | rfl | omega | (simp; done)) (by have := HK2.out; omega) (show Row true _ eA1 ek1 x.a.sig.shut eS1 from by (repeat (first | with_reducible exact hr1_3 | with_reducible apply Row.drewC | with_reducible refine Row.allocC ?_ _ | with_reducible refine Row.setC ?_ ?_ _ | exact (fun h => hgT (es1 _ h))))) (Nat.le_trans ea1 eb1)).mono ?_
      rw [HK2.out]
      rintro e4 w4 ⟨rfl, hr1_4, hb4⟩
      have hC4 : Chg (fun b => b = g ∨ T k b) wr w4 := Chg.trans (b := _) (by (repeat (first | with_reducible exact hC3 | with_reducible apply Chg.drew | with_reducible refine Chg.alloc ?_ _ | with_reducible refine Chg.setCell ?_ (.inl (.inl rfl)) _))) (hb4.mono (fun b _ h => .inr (es1 b h)))
      have hS4 : Shp w4 g (ty Pair) (cap * 16) := Shp.ofc (by (repeat (first | with_reducible exact hS3 | with_reducible apply Shp.drew | with_reducible refine Shp.alloc ?_ _ | with_reducible refine Shp.set ?_ _ _))) hb4 (fun h => hgT (es1 _ h))
      have hr0_4 := Row.chg (show Row true _ eA0 ek0 (meL x.a.sig.open_ (K + 1 + 1 + 1 + 1 + 1)) eS0 from by (repeat (first | with_reducible exact hr0_3 | with_reducible apply Row.drewC | with_reducible refine Row.allocC ?_ _ | with_reducible refine Row.setC ?_ ?_ _ | exact (fun h => hgT (es0 _ h))))) hb4 (pwget6_0_1 epw_.out)
      have hr2_4 := Row.chg (show Row true _ eA2 ek2 x.a.sig.sides eS2 from by (repeat (first | with_reducible exact hr2_3 | with_reducible apply Row.drewC | with_reducible refine Row.allocC ?_ _ | with_reducible refine Row.setC ?_ ?_ _ | exact (fun h => hgT (es2 _ h))))) hb4 (disj_symm (pwget6_1_2 epw_.out))
      have hr3_4 := Row.chg (show Row true _ eA3 ek3 x.b.sig.open_ eS3 from by (repeat (first | with_reducible exact hr3_3 | with_reducible apply Row.drewC | with_reducible refine Row.allocC ?_ _ | with_reducible refine Row.setC ?_ ?_ _ | exact (fun h => hgT (es3 _ h))))) hb4 (disj_symm (pwget6_1_3 epw_.out))
      have hr4_4 := Row.chg (show Row true _ eA4 ek4 x.b.sig.shut eS4 from by (repeat (first | with_reducible exact hr4_3 | with_reducible apply Row.drewC | with_reducible refine Row.allocC ?_ _ | with_reducible refine Row.setC ?_ ?_ _ | exact (fun h => hgT (es4 _ h))))) hb4 (disj_symm (pwget6_1_4 epw_.out))
      have hr5_4 := Row.chg (show Row true _ eA5 ek5 x.b.sig.sides eS5 from by (repeat (first | with_reducible exact hr5_3 | with_reducible apply Row.drewC | with_reducible refine Row.allocC ?_ _ | with_reducible refine Row.setC ?_ ?_ _ | exact (fun h => hgT (es5 _ h))))) hb4 (disj_symm (pwget6_1_5 epw_.out))
      have hc4 := fun o => hb4.cellC (p := ⟨g, o, none⟩) (Shp.lt (show Shp _ g (ty Pair) (cap * 16) from by (repeat (first | with_reducible exact hS3 | with_reducible apply Shp.drew | with_reducible refine Shp.alloc ?_ _ | with_reducible refine Shp.set ?_ _ _)))) (fun h => hgT (es1 _ h))
      have hf4 := fun o => hS4.frozen o
      go_wp2_with (fail)
      refine (mark_StringS x.a.sig.sides _ _ _ _ _ (K2) (by first | rfl | omega | (simp; done)) (by have := HK3.out; omega) (show Row true _ eA2 ek2 x.a.sig.sides eS2 from by (repeat (first | with_reducible exact hr2_4 | with_reducible apply Row.drewC | with_reducible refine Row.allocC ?_ _ | with_reducible refine Row.setC ?_ ?_ _ | exact (fun h => hgT (es2 _ h))))) (Nat.le_trans ea2 eb2)).mono ?_
      rw [HK3.out]
      rintro e5 w5 ⟨rfl, hr2_5, hb5⟩
      have hC5 : Chg (fun b => b = g ∨ T k b) wr w5 := Chg.trans (b := _) (by (repeat (first | with_reducible exact hC4 | with_reducible apply Chg.drew | with_reducible refine Chg.alloc ?_ _ | with_reducible refine Chg.setCell ?_ (.inl (.inl rfl)) _))) (hb5.mono (fun b _ h => .inr (es2 b h)))
      have hS5 : Shp w5 g (ty Pair) (cap * 16) := Shp.ofc (by (repeat (first | with_reducible exact hS4 | with_reducible apply Shp.drew | with_reducible refine Shp.alloc ?_ _ | with_reducible refine Shp.set ?_ _ _))) hb5 (fun h => hgT (es2 _ h))
      have hr0_5 := Row.chg (show Row true _ eA0 ek0 (meL x.a.sig.open_ (K + 1 + 1 + 1 + 1 + 1)) eS0 from by (repeat (first | with_reducible exact hr0_4 | with_reducible apply Row.drewC | with_reducible refine Row.allocC ?_ _ | with_reducible refine Row.setC ?_ ?_ _ | exact (fun h => hgT (es0 _ h))))) hb5 (pwget6_0_2 epw_.out)
      have hr1_5 := Row.chg (show Row true _ eA1 ek1 (meL x.a.sig.shut (K1)) eS1 from by (repeat (first | with_reducible exact hr1_4 | with_reducible apply Row.drewC | with_reducible refine Row.allocC ?_ _ | with_reducible refine Row.setC ?_ ?_ _ | exact (fun h => hgT (es1 _ h))))) hb5 (pwget6_1_2 epw_.out)
      have hr3_5 := Row.chg (show Row true _ eA3 ek3 x.b.sig.open_ eS3 from by (repeat (first | with_reducible exact hr3_4 | with_reducible apply Row.drewC | with_reducible refine Row.allocC ?_ _ | with_reducible refine Row.setC ?_ ?_ _ | exact (fun h => hgT (es3 _ h))))) hb5 (disj_symm (pwget6_2_3 epw_.out))
      have hr4_5 := Row.chg (show Row true _ eA4 ek4 x.b.sig.shut eS4 from by (repeat (first | with_reducible exact hr4_4 | with_reducible apply Row.drewC | with_reducible refine Row.allocC ?_ _ | with_reducible refine Row.setC ?_ ?_ _ | exact (fun h => hgT (es4 _ h))))) hb5 (disj_symm (pwget6_2_4 epw_.out))
      have hr5_5 := Row.chg (show Row true _ eA5 ek5 x.b.sig.sides eS5 from by (repeat (first | with_reducible exact hr5_4 | with_reducible apply Row.drewC | with_reducible refine Row.allocC ?_ _ | with_reducible refine Row.setC ?_ ?_ _ | exact (fun h => hgT (es5 _ h))))) hb5 (disj_symm (pwget6_2_5 epw_.out))
      have hc5 := fun o => hb5.cellC (p := ⟨g, o, none⟩) (Shp.lt (show Shp _ g (ty Pair) (cap * 16) from by (repeat (first | with_reducible exact hS4 | with_reducible apply Shp.drew | with_reducible refine Shp.alloc ?_ _ | with_reducible refine Shp.set ?_ _ _)))) (fun h => hgT (es2 _ h))
      have hf5 := fun o => hS5.frozen o
      go_wp2_with (fail)
      refine (mark_Text _ (K3 + 1 + 1) (by first | rfl | omega | (simp; done)) (by omega) _).mono ?_
      rintro e6 w6 ⟨rfl, hb6⟩
      have hC6 : Chg (fun b => b = g ∨ T k b) wr w6 := Chg.trans (b := _) (by (repeat (first | with_reducible exact hC5 | with_reducible apply Chg.drew | with_reducible refine Chg.alloc ?_ _ | with_reducible refine Chg.setCell ?_ (.inl (.inl rfl)) _))) (hb6.chg_ (fun b => b = g ∨ T k b))
      have hS6 : Shp w6 g (ty Pair) (cap * 16) := Shp.ofb (by (repeat (first | with_reducible exact hS5 | with_reducible apply Shp.drew | with_reducible refine Shp.alloc ?_ _ | with_reducible refine Shp.set ?_ _ _))) hb6
      have hr0_6 := Row.later (show Row true _ eA0 ek0 (meL x.a.sig.open_ (K + 1 + 1 + 1 + 1 + 1)) eS0 from by (repeat (first | with_reducible exact hr0_5 | with_reducible apply Row.drewC | with_reducible refine Row.allocC ?_ _ | with_reducible refine Row.setC ?_ ?_ _ | exact (fun h => hgT (es0 _ h))))) hb6
      have hr1_6 := Row.later (show Row true _ eA1 ek1 (meL x.a.sig.shut (K1)) eS1 from by (repeat (first | with_reducible exact hr1_5 | with_reducible apply Row.drewC | with_reducible refine Row.allocC ?_ _ | with_reducible refine Row.setC ?_ ?_ _ | exact (fun h => hgT (es1 _ h))))) hb6
      have hr2_6 := Row.later (show Row true _ eA2 ek2 (meL x.a.sig.sides (K2)) eS2 from by (repeat (first | with_reducible exact hr2_5 | with_reducible apply Row.drewC | with_reducible refine Row.allocC ?_ _ | with_reducible refine Row.setC ?_ ?_ _ | exact (fun h => hgT (es2 _ h))))) hb6
      have hr3_6 := Row.later (show Row true _ eA3 ek3 x.b.sig.open_ eS3 from by (repeat (first | with_reducible exact hr3_5 | with_reducible apply Row.drewC | with_reducible refine Row.allocC ?_ _ | with_reducible refine Row.setC ?_ ?_ _ | exact (fun h => hgT (es3 _ h))))) hb6
      have hr4_6 := Row.later (show Row true _ eA4 ek4 x.b.sig.shut eS4 from by (repeat (first | with_reducible exact hr4_5 | with_reducible apply Row.drewC | with_reducible refine Row.allocC ?_ _ | with_reducible refine Row.setC ?_ ?_ _ | exact (fun h => hgT (es4 _ h))))) hb6
      have hr5_6 := Row.later (show Row true _ eA5 ek5 x.b.sig.sides eS5 from by (repeat (first | with_reducible exact hr5_5 | with_reducible apply Row.drewC | with_reducible refine Row.allocC ?_ _ | with_reducible refine Row.setC ?_ ?_ _ | exact (fun h => hgT (es5 _ h))))) hb6
      have hc6 := fun o => hb6.cell (p := ⟨g, o, none⟩) (Shp.lt (show Shp _ g (ty Pair) (cap * 16) from by (repeat (first | with_reducible exact hS5 | with_reducible apply Shp.drew | with_reducible refine Shp.alloc ?_ _ | with_reducible refine Shp.set ?_ _ _))))
      have hf6 := fun o => hS6.frozen o
      go_wp2_with (fail)
      refine (mark_Text _ (K3 + 1 + 1 + 1) (by first | rfl | omega | (simp; done)) (by omega) _).mono ?_
      rintro e7 w7 ⟨rfl, hb7⟩
      have hC7 : Chg (fun b => b = g ∨ T k b) wr w7 := Chg.trans (b := _) (by (repeat (first | with_reducible exact hC6 | with_reducible apply Chg.drew | with_reducible refine Chg.alloc ?_ _ | with_reducible refine Chg.setCell ?_ (.inl (.inl rfl)) _))) (hb7.chg_ (fun b => b = g ∨ T k b))
      have hS7 : Shp w7 g (ty Pair) (cap * 16) := Shp.ofb (by (repeat (first | with_reducible exact hS6 | with_reducible apply Shp.drew | with_reducible refine Shp.alloc ?_ _ | with_reducible refine Shp.set ?_ _ _))) hb7
      have hr0_7 := Row.later (show Row true _ eA0 ek0 (meL x.a.sig.open_ (K + 1 + 1 + 1 + 1 + 1)) eS0 from by (repeat (first | with_reducible exact hr0_6 | with_reducible apply Row.drewC | with_reducible refine Row.allocC ?_ _ | with_reducible refine Row.setC ?_ ?_ _ | exact (fun h => hgT (es0 _ h))))) hb7
      have hr1_7 := Row.later (show Row true _ eA1 ek1 (meL x.a.sig.shut (K1)) eS1 from by (repeat (first | with_reducible exact hr1_6 | with_reducible apply Row.drewC | with_reducible refine Row.allocC ?_ _ | with_reducible refine Row.setC ?_ ?_ _ | exact (fun h => hgT (es1 _ h))))) hb7
      have hr2_7 := Row.later (show Row true _ eA2 ek2 (meL x.a.sig.sides (K2)) eS2 from by (repeat (first | with_reducible exact hr2_6 | with_reducible apply Row.drewC | with_reducible refine Row.allocC ?_ _ | with_reducible refine Row.setC ?_ ?_ _ | exact (fun h => hgT (es2 _ h))))) hb7
      have hr3_7 := Row.later (show Row true _ eA3 ek3 x.b.sig.open_ eS3 from by (repeat (first | with_reducible exact hr3_6 | with_reducible apply Row.drewC | with_reducible refine Row.allocC ?_ _ | with_reducible refine Row.setC ?_ ?_ _ | exact (fun h => hgT (es3 _ h))))) hb7
      have hr4_7 := Row.later (show Row true _ eA4 ek4 x.b.sig.shut eS4 from by (repeat (first | with_reducible exact hr4_6 | with_reducible apply Row.drewC | with_reducible refine Row.allocC ?_ _ | with_reducible refine Row.setC ?_ ?_ _ | exact (fun h => hgT (es4 _ h))))) hb7
      have hr5_7 := Row.later (show Row true _ eA5 ek5 x.b.sig.sides eS5 from by (repeat (first | with_reducible exact hr5_6 | with_reducible apply Row.drewC | with_reducible refine Row.allocC ?_ _ | with_reducible refine Row.setC ?_ ?_ _ | exact (fun h => hgT (es5 _ h))))) hb7
      have hc7 := fun o => hb7.cell (p := ⟨g, o, none⟩) (Shp.lt (show Shp _ g (ty Pair) (cap * 16) from by (repeat (first | with_reducible exact hS6 | with_reducible apply Shp.drew | with_reducible refine Shp.alloc ?_ _ | with_reducible refine Shp.set ?_ _ _))))
      have hf7 := fun o => hS7.frozen o
      go_wp2_with (fail)
      refine (mark_StringS x.b.sig.open_ _ _ _ _ _ (K3 + 1 + 1 + 1 + 1 + 1) (by first | rfl | omega | (simp; done)) (by have := HK4.out; omega) (show Row true _ eA3 ek3 x.b.sig.open_ eS3 from by (repeat (first | with_reducible exact hr3_7 | with_reducible apply Row.drewC | with_reducible refine Row.allocC ?_ _ | with_reducible refine Row.setC ?_ ?_ _ | exact (fun h => hgT (es3 _ h))))) (Nat.le_trans ea3 eb3)).mono ?_
      rw [HK4.out]
      rintro e8 w8 ⟨rfl, hr3_8, hb8⟩
      have hC8 : Chg (fun b => b = g ∨ T k b) wr w8 := Chg.trans (b := _) (by (repeat (first | with_reducible exact hC7 | with_reducible apply Chg.drew | with_reducible refine Chg.alloc ?_ _ | with_reducible refine Chg.setCell ?_ (.inl (.inl rfl)) _))) (hb8.mono (fun b _ h => .inr (es3 b h)))
      have hS8 : Shp w8 g (ty Pair) (cap * 16) := Shp.ofc (by (repeat (first | with_reducible exact hS7 | with_reducible apply Shp.drew | with_reducible refine Shp.alloc ?_ _ | with_reducible refine Shp.set ?_ _ _))) hb8 (fun h => hgT (es3 _ h))
      have hr0_8 := Row.chg (show Row true _ eA0 ek0 (meL x.a.sig.open_ (K + 1 + 1 + 1 + 1 + 1)) eS0 from by (repeat (first | with_reducible exact hr0_7 | with_reducible apply Row.drewC | with_reducible refine Row.allocC ?_ _ | with_reducible refine Row.setC ?_ ?_ _ | exact (fun h => hgT (es0 _ h))))) hb8 (pwget6_0_3 epw_.out)
      have hr1_8 := Row.chg (show Row true _ eA1 ek1 (meL x.a.sig.shut (K1)) eS1 from by (repeat (first | with_reducible exact hr1_7 | with_reducible apply Row.drewC | with_reducible refine Row.allocC ?_ _ | with_reducible refine Row.setC ?_ ?_ _ | exact (fun h => hgT (es1 _ h))))) hb8 (pwget6_1_3 epw_.out)
      have hr2_8 := Row.chg (show Row true _ eA2 ek2 (meL x.a.sig.sides (K2)) eS2 from by (repeat (first | with_reducible exact hr2_7 | with_reducible apply Row.drewC | with_reducible refine Row.allocC ?_ _ | with_reducible refine Row.setC ?_ ?_ _ | exact (fun h => hgT (es2 _ h))))) hb8 (pwget6_2_3 epw_.out)
      have hr4_8 := Row.chg (show Row true _ eA4 ek4 x.b.sig.shut eS4 from by (repeat (first | with_reducible exact hr4_7 | with_reducible apply Row.drewC | with_reducible refine Row.allocC ?_ _ | with_reducible refine Row.setC ?_ ?_ _ | exact (fun h => hgT (es4 _ h))))) hb8 (disj_symm (pwget6_3_4 epw_.out))
      have hr5_8 := Row.chg (show Row true _ eA5 ek5 x.b.sig.sides eS5 from by (repeat (first | with_reducible exact hr5_7 | with_reducible apply Row.drewC | with_reducible refine Row.allocC ?_ _ | with_reducible refine Row.setC ?_ ?_ _ | exact (fun h => hgT (es5 _ h))))) hb8 (disj_symm (pwget6_3_5 epw_.out))
      have hc8 := fun o => hb8.cellC (p := ⟨g, o, none⟩) (Shp.lt (show Shp _ g (ty Pair) (cap * 16) from by (repeat (first | with_reducible exact hS7 | with_reducible apply Shp.drew | with_reducible refine Shp.alloc ?_ _ | with_reducible refine Shp.set ?_ _ _)))) (fun h => hgT (es3 _ h))
      have hf8 := fun o => hS8.frozen o
      go_wp2_with (fail)
      refine (mark_StringS x.b.sig.shut _ _ _ _ _ (K4) (by first | rfl | omega | (simp; done)) (by have := HK5.out; omega) (show Row true _ eA4 ek4 x.b.sig.shut eS4 from by (repeat (first | with_reducible exact hr4_8 | with_reducible apply Row.drewC | with_reducible refine Row.allocC ?_ _ | with_reducible refine Row.setC ?_ ?_ _ | exact (fun h => hgT (es4 _ h))))) (Nat.le_trans ea4 eb4)).mono ?_
      rw [HK5.out]
      rintro e9 w9 ⟨rfl, hr4_9, hb9⟩
      have hC9 : Chg (fun b => b = g ∨ T k b) wr w9 := Chg.trans (b := _) (by (repeat (first | with_reducible exact hC8 | with_reducible apply Chg.drew | with_reducible refine Chg.alloc ?_ _ | with_reducible refine Chg.setCell ?_ (.inl (.inl rfl)) _))) (hb9.mono (fun b _ h => .inr (es4 b h)))
      have hS9 : Shp w9 g (ty Pair) (cap * 16) := Shp.ofc (by (repeat (first | with_reducible exact hS8 | with_reducible apply Shp.drew | with_reducible refine Shp.alloc ?_ _ | with_reducible refine Shp.set ?_ _ _))) hb9 (fun h => hgT (es4 _ h))
      have hr0_9 := Row.chg (show Row true _ eA0 ek0 (meL x.a.sig.open_ (K + 1 + 1 + 1 + 1 + 1)) eS0 from by (repeat (first | with_reducible exact hr0_8 | with_reducible apply Row.drewC | with_reducible refine Row.allocC ?_ _ | with_reducible refine Row.setC ?_ ?_ _ | exact (fun h => hgT (es0 _ h))))) hb9 (pwget6_0_4 epw_.out)
      have hr1_9 := Row.chg (show Row true _ eA1 ek1 (meL x.a.sig.shut (K1)) eS1 from by (repeat (first | with_reducible exact hr1_8 | with_reducible apply Row.drewC | with_reducible refine Row.allocC ?_ _ | with_reducible refine Row.setC ?_ ?_ _ | exact (fun h => hgT (es1 _ h))))) hb9 (pwget6_1_4 epw_.out)
      have hr2_9 := Row.chg (show Row true _ eA2 ek2 (meL x.a.sig.sides (K2)) eS2 from by (repeat (first | with_reducible exact hr2_8 | with_reducible apply Row.drewC | with_reducible refine Row.allocC ?_ _ | with_reducible refine Row.setC ?_ ?_ _ | exact (fun h => hgT (es2 _ h))))) hb9 (pwget6_2_4 epw_.out)
      have hr3_9 := Row.chg (show Row true _ eA3 ek3 (meL x.b.sig.open_ (K3 + 1 + 1 + 1 + 1 + 1)) eS3 from by (repeat (first | with_reducible exact hr3_8 | with_reducible apply Row.drewC | with_reducible refine Row.allocC ?_ _ | with_reducible refine Row.setC ?_ ?_ _ | exact (fun h => hgT (es3 _ h))))) hb9 (pwget6_3_4 epw_.out)
      have hr5_9 := Row.chg (show Row true _ eA5 ek5 x.b.sig.sides eS5 from by (repeat (first | with_reducible exact hr5_8 | with_reducible apply Row.drewC | with_reducible refine Row.allocC ?_ _ | with_reducible refine Row.setC ?_ ?_ _ | exact (fun h => hgT (es5 _ h))))) hb9 (disj_symm (pwget6_4_5 epw_.out))
      have hc9 := fun o => hb9.cellC (p := ⟨g, o, none⟩) (Shp.lt (show Shp _ g (ty Pair) (cap * 16) from by (repeat (first | with_reducible exact hS8 | with_reducible apply Shp.drew | with_reducible refine Shp.alloc ?_ _ | with_reducible refine Shp.set ?_ _ _)))) (fun h => hgT (es4 _ h))
      have hf9 := fun o => hS9.frozen o
      go_wp2_with (fail)
      refine (mark_StringS x.b.sig.sides _ _ _ _ _ (K5) (by first | rfl | omega | (simp; done)) (by have := HK6.out; omega) (show Row true _ eA5 ek5 x.b.sig.sides eS5 from by (repeat (first | with_reducible exact hr5_9 | with_reducible apply Row.drewC | with_reducible refine Row.allocC ?_ _ | with_reducible refine Row.setC ?_ ?_ _ | exact (fun h => hgT (es5 _ h))))) (Nat.le_trans ea5 eb5)).mono ?_
      rw [HK6.out]
      rintro e10 w10 ⟨rfl, hr5_10, hb10⟩
      have hC10 : Chg (fun b => b = g ∨ T k b) wr w10 := Chg.trans (b := _) (by (repeat (first | with_reducible exact hC9 | with_reducible apply Chg.drew | with_reducible refine Chg.alloc ?_ _ | with_reducible refine Chg.setCell ?_ (.inl (.inl rfl)) _))) (hb10.mono (fun b _ h => .inr (es5 b h)))
      have hS10 : Shp w10 g (ty Pair) (cap * 16) := Shp.ofc (by (repeat (first | with_reducible exact hS9 | with_reducible apply Shp.drew | with_reducible refine Shp.alloc ?_ _ | with_reducible refine Shp.set ?_ _ _))) hb10 (fun h => hgT (es5 _ h))
      have hr0_10 := Row.chg (show Row true _ eA0 ek0 (meL x.a.sig.open_ (K + 1 + 1 + 1 + 1 + 1)) eS0 from by (repeat (first | with_reducible exact hr0_9 | with_reducible apply Row.drewC | with_reducible refine Row.allocC ?_ _ | with_reducible refine Row.setC ?_ ?_ _ | exact (fun h => hgT (es0 _ h))))) hb10 (pwget6_0_5 epw_.out)
      have hr1_10 := Row.chg (show Row true _ eA1 ek1 (meL x.a.sig.shut (K1)) eS1 from by (repeat (first | with_reducible exact hr1_9 | with_reducible apply Row.drewC | with_reducible refine Row.allocC ?_ _ | with_reducible refine Row.setC ?_ ?_ _ | exact (fun h => hgT (es1 _ h))))) hb10 (pwget6_1_5 epw_.out)
      have hr2_10 := Row.chg (show Row true _ eA2 ek2 (meL x.a.sig.sides (K2)) eS2 from by (repeat (first | with_reducible exact hr2_9 | with_reducible apply Row.drewC | with_reducible refine Row.allocC ?_ _ | with_reducible refine Row.setC ?_ ?_ _ | exact (fun h => hgT (es2 _ h))))) hb10 (pwget6_2_5 epw_.out)
      have hr3_10 := Row.chg (show Row true _ eA3 ek3 (meL x.b.sig.open_ (K3 + 1 + 1 + 1 + 1 + 1)) eS3 from by (repeat (first | with_reducible exact hr3_9 | with_reducible apply Row.drewC | with_reducible refine Row.allocC ?_ _ | with_reducible refine Row.setC ?_ ?_ _ | exact (fun h => hgT (es3 _ h))))) hb10 (pwget6_3_5 epw_.out)
      have hr4_10 := Row.chg (show Row true _ eA4 ek4 (meL x.b.sig.shut (K4)) eS4 from by (repeat (first | with_reducible exact hr4_9 | with_reducible apply Row.drewC | with_reducible refine Row.allocC ?_ _ | with_reducible refine Row.setC ?_ ?_ _ | exact (fun h => hgT (es4 _ h))))) hb10 (pwget6_4_5 epw_.out)
      have hc10 := fun o => hb10.cellC (p := ⟨g, o, none⟩) (Shp.lt (show Shp _ g (ty Pair) (cap * 16) from by (repeat (first | with_reducible exact hS9 | with_reducible apply Shp.drew | with_reducible refine Shp.alloc ?_ _ | with_reducible refine Shp.set ?_ _ _)))) (fun h => hgT (es5 _ h))
      have hf10 := fun o => hS10.frozen o
      go_wp2
      go_roundw
      case rel =>
        refine ⟨k + 1, by omega, by go_num, by rw [hs2.out]; first | go_num | (congr 1; unfold Pair.cn; have := HK1.out; have := HK2.out; have := HK3.out; have := HK4.out; have := HK5.out; have := HK6.out; omega), ?_, ?_⟩
        · refine Chg.trans hch (Chg.mono (show Chg (fun b => b = g ∨ T k b) wr _ from by (repeat (first | with_reducible exact hC10 | with_reducible apply Chg.drew | with_reducible refine Chg.alloc ?_ _ | with_reducible refine Chg.setCell ?_ (.inl (.inl rfl)) _))) (fun b _ h => h.elim (fun e => e ▸ hg) (fun h => (HT.out k b h).1)))
        · rw [hst.out, hme.out]
          refine Row.setN (N := 16) (T := T) (w := wr) (cs := [.int .i64 (((K) : Nat) : Int), .int .i64 (((K + 1) : Nat) : Int), .string (mtext (K + 1 + 1)), .string (mtext (K + 1 + 1 + 1)), .int .i64 (((K + 1 + 1 + 1 + 1) : Nat) : Int), .slice eA0 (meL x.a.sig.open_ (K + 1 + 1 + 1 + 1 + 1)).length ek0, .slice eA1 (meL x.a.sig.shut (K1)).length ek1, .slice eA2 (meL x.a.sig.sides (K2)).length ek2, .int .i64 (((K3) : Nat) : Int), .int .i64 (((K3 + 1) : Nat) : Int), .string (mtext (K3 + 1 + 1)), .string (mtext (K3 + 1 + 1 + 1)), .int .i64 (((K3 + 1 + 1 + 1 + 1) : Nat) : Int), .slice eA3 (meL x.b.sig.open_ (K3 + 1 + 1 + 1 + 1 + 1)).length ek3, .slice eA4 (meL x.b.sig.shut (K4)).length ek4, .slice eA5 (meL x.b.sig.sides (K5)).length ek5]) rfl hg HT.out HD.out HE.out hlty (show Shp _ g (ty Pair) (cap * 16) from by (repeat (first | with_reducible exact hS10 | with_reducible apply Shp.drew | with_reducible refine Shp.alloc ?_ _ | with_reducible refine Shp.set ?_ _ _))) (fun o ho => ?_) (show Chg (fun b => b = g ∨ T k b) wr _ from by (repeat (first | with_reducible exact hC10 | with_reducible apply Chg.drew | with_reducible refine Chg.alloc ?_ _ | with_reducible refine Chg.setCell ?_ (.inl (.inl rfl)) _))) ?_ ?_
          · have n0 : o ≠ k * 16 := by intro h; apply ho; rw [h]; omega
            have n1 : o ≠ k * 16 + 1 := by intro h; apply ho; rw [h]; omega
            have n2 : o ≠ k * 16 + 2 := by intro h; apply ho; rw [h]; omega
            have n3 : o ≠ k * 16 + 3 := by intro h; apply ho; rw [h]; omega
            have n4 : o ≠ k * 16 + 4 := by intro h; apply ho; rw [h]; omega
            have n5 : o ≠ k * 16 + 5 := by intro h; apply ho; rw [h]; omega
            have n6 : o ≠ k * 16 + 6 := by intro h; apply ho; rw [h]; omega
            have n7 : o ≠ k * 16 + 7 := by intro h; apply ho; rw [h]; omega
            have n8 : o ≠ k * 16 + 8 := by intro h; apply ho; rw [h]; omega
            have n9 : o ≠ k * 16 + 9 := by intro h; apply ho; rw [h]; omega
            have n10 : o ≠ k * 16 + 10 := by intro h; apply ho; rw [h]; omega
            have n11 : o ≠ k * 16 + 11 := by intro h; apply ho; rw [h]; omega
            have n12 : o ≠ k * 16 + 12 := by intro h; apply ho; rw [h]; omega
            have n13 : o ≠ k * 16 + 13 := by intro h; apply ho; rw [h]; omega
            have n14 : o ≠ k * 16 + 14 := by intro h; apply ho; rw [h]; omega
            have n15 : o ≠ k * 16 + 15 := by intro h; apply ho; rw [h]; omega
            simp only [hc10, hc9, hc8, hc7, hc6, hc5, hc4, hc3, hc2, hc1, cell_set_ne _ _ _ o _ n0, cell_set_ne _ _ _ o _ n1, cell_set_ne _ _ _ o _ n2, cell_set_ne _ _ _ o _ n3, cell_set_ne _ _ _ o _ n4, cell_set_ne _ _ _ o _ n5, cell_set_ne _ _ _ o _ n6, cell_set_ne _ _ _ o _ n7, cell_set_ne _ _ _ o _ n8, cell_set_ne _ _ _ o _ n9, cell_set_ne _ _ _ o _ n10, cell_set_ne _ _ _ o _ n11, cell_set_ne _ _ _ o _ n12, cell_set_ne _ _ _ o _ n13, cell_set_ne _ _ _ o _ n14, cell_set_ne _ _ _ o _ n15]
          · intro j u hu
            have hj : j < 16 := (List.getElem?_eq_some_iff.1 hu).1
            rcases (by omega : j = 0 ∨ j = 1 ∨ j = 2 ∨ j = 3 ∨ j = 4 ∨ j = 5 ∨ j = 6 ∨ j = 7 ∨ j = 8 ∨ j = 9 ∨ j = 10 ∨ j = 11 ∨ j = 12 ∨ j = 13 ∨ j = 14 ∨ j = 15) with rfl | rfl | rfl | rfl | rfl | rfl | rfl | rfl | rfl | rfl | rfl | rfl | rfl | rfl | rfl | rfl
            all_goals (have hu := Option.some.inj hu; subst hu; go_simp; try simp)
          · exact Pair.mk' (m := true) (x := (⟨(⟨(⟨(((K) : Nat) : Int), (((K + 1) : Nat) : Int), mtext (K + 1 + 1), mtext (K + 1 + 1 + 1)⟩ : Head), (⟨(((K + 1 + 1 + 1 + 1) : Nat) : Int), meL x.a.sig.open_ (K + 1 + 1 + 1 + 1 + 1), meL x.a.sig.shut (K1), meL x.a.sig.sides (K2)⟩ : Sig)⟩ : Seal), (⟨(⟨(((K3) : Nat) : Int), (((K3 + 1) : Nat) : Int), mtext (K3 + 1 + 1), mtext (K3 + 1 + 1 + 1)⟩ : Head), (⟨(((K3 + 1 + 1 + 1 + 1) : Nat) : Int), meL x.b.sig.open_ (K3 + 1 + 1 + 1 + 1 + 1), meL x.b.sig.shut (K4), meL x.b.sig.sides (K5)⟩ : Sig)⟩ : Seal)⟩ : Pair)) (S := T k) (I64_nat (by have := HK1.out; have := HK2.out; have := HK3.out; have := HK4.out; have := HK5.out; have := HK6.out; omega)) (I64_nat (by have := HK1.out; have := HK2.out; have := HK3.out; have := HK4.out; have := HK5.out; have := HK6.out; omega)) (mtext_size (K + 1 + 1) (by have := HK1.out; have := HK2.out; have := HK3.out; have := HK4.out; have := HK5.out; have := HK6.out; omega)) (mtext_size (K + 1 + 1 + 1) (by have := HK1.out; have := HK2.out; have := HK3.out; have := HK4.out; have := HK5.out; have := HK6.out; omega)) (I64_nat (by have := HK1.out; have := HK2.out; have := HK3.out; have := HK4.out; have := HK5.out; have := HK6.out; omega)) (by rw [meL_length]; exact ea0) eb0 (show Row true _ eA0 ek0 (meL x.a.sig.open_ (K + 1 + 1 + 1 + 1 + 1)) eS0 from by (repeat (first | with_reducible exact hr0_10 | with_reducible apply Row.drewC | with_reducible refine Row.allocC ?_ _ | with_reducible refine Row.setC ?_ ?_ _ | exact (fun h => hgT (es0 _ h))))) es0 (by rw [meL_length]; exact ea1) eb1 (show Row true _ eA1 ek1 (meL x.a.sig.shut (K1)) eS1 from by (repeat (first | with_reducible exact hr1_10 | with_reducible apply Row.drewC | with_reducible refine Row.allocC ?_ _ | with_reducible refine Row.setC ?_ ?_ _ | exact (fun h => hgT (es1 _ h))))) es1 (by rw [meL_length]; exact ea2) eb2 (show Row true _ eA2 ek2 (meL x.a.sig.sides (K2)) eS2 from by (repeat (first | with_reducible exact hr2_10 | with_reducible apply Row.drewC | with_reducible refine Row.allocC ?_ _ | with_reducible refine Row.setC ?_ ?_ _ | exact (fun h => hgT (es2 _ h))))) es2 (I64_nat (by have := HK1.out; have := HK2.out; have := HK3.out; have := HK4.out; have := HK5.out; have := HK6.out; omega)) (I64_nat (by have := HK1.out; have := HK2.out; have := HK3.out; have := HK4.out; have := HK5.out; have := HK6.out; omega)) (mtext_size (K3 + 1 + 1) (by have := HK1.out; have := HK2.out; have := HK3.out; have := HK4.out; have := HK5.out; have := HK6.out; omega)) (mtext_size (K3 + 1 + 1 + 1) (by have := HK1.out; have := HK2.out; have := HK3.out; have := HK4.out; have := HK5.out; have := HK6.out; omega)) (I64_nat (by have := HK1.out; have := HK2.out; have := HK3.out; have := HK4.out; have := HK5.out; have := HK6.out; omega)) (by rw [meL_length]; exact ea3) eb3 (show Row true _ eA3 ek3 (meL x.b.sig.open_ (K3 + 1 + 1 + 1 + 1 + 1)) eS3 from by (repeat (first | with_reducible exact hr3_10 | with_reducible apply Row.drewC | with_reducible refine Row.allocC ?_ _ | with_reducible refine Row.setC ?_ ?_ _ | exact (fun h => hgT (es3 _ h))))) es3 (by rw [meL_length]; exact ea4) eb4 (show Row true _ eA4 ek4 (meL x.b.sig.shut (K4)) eS4 from by (repeat (first | with_reducible exact hr4_10 | with_reducible apply Row.drewC | with_reducible refine Row.allocC ?_ _ | with_reducible refine Row.setC ?_ ?_ _ | exact (fun h => hgT (es4 _ h))))) es4 (by rw [meL_length]; exact ea5) eb5 (show Row true _ eA5 ek5 (meL x.b.sig.sides (K5)) eS5 from by (repeat (first | with_reducible exact hr5_10 | with_reducible apply Row.drewC | with_reducible refine Row.allocC ?_ _ | with_reducible refine Row.setC ?_ ?_ _ | exact (fun h => hgT (es5 _ h))))) es5 (fun _ => epw_.out)
      case measure => simp [intOf]; omega
    · have hke : k = xs.length := by omega
      go_wp2
      go_ret; subst hke; refine ⟨by rw [List.take_of_length_le (Nat.le_refl _)]; rfl, by simpa using hrow, hch⟩
set_option maxRecDepth 40000 in set_option maxHeartbeats 4000000 in
theorem markr_Auditor (x : Auditor) (w : World) (A0 : Option Addr) (k0 : Nat) (S0 : Blks) (A1 : Option Addr) (k1 : Nat) (S1 : Blks) (A2 : Option Addr) (k2 : Nat) (S2 : Blks) (A3 : Option Addr) (k3 : Nat) (S3 : Blks) (a : Int) (k : Nat) (ha : a = (k : Int)) (hk : k + x.ct ≤ 4611686018427387904) (r0 : Row true w A0 k0 x.disk.files S0) (l0 : x.disk.files.length ≤ maxLen) (r1 : Row true w A1 k1 x.pool S1) (l1 : x.pool.length ≤ maxLen) (r2 : Row true w A2 k2 x.pins S2) (l2 : x.pins.length ≤ maxLen) (r3 : Row true w A3 k3 x.pairs S3) (l3 : x.pairs.length ≤ maxLen) (pw : List.Pairwise disj [S0, S1, S2, S3]) :
    Calls Tryz.prog 14 #[.agg (Auditor.cs x A0 k0 A1 k1 A2 k2 A3 k3).toArray, .int .i64 a] w fun e w' => e = .returned (.int .i64 ((k + x.ct : Nat) : Int)) ∧ (Row true w' A0 k0 (meL x.disk.files (k)) S0 ∧ Row true w' A1 k1 (meL x.pool (k + cnL x.disk.files)) S1 ∧ Row true w' A2 k2 (meL x.pins (k + cnL x.disk.files + cnL x.pool)) S2 ∧ Row true w' A3 k3 (meL x.pairs (k + cnL x.disk.files + cnL x.pool + cnL x.pins)) S3) ∧ Chg (un S0 (un S1 (un S2 S3))) w w' := by
  subst ha
  unfold Auditor.ct at hk
  obtain ⟨K0, hK0⟩ : ∃ q, k + cnL x.disk.files = q := ⟨_, rfl⟩
  obtain ⟨K1, hK1⟩ : ∃ q, K0 + cnL x.pool = q := ⟨_, rfl⟩
  obtain ⟨K2, hK2⟩ : ∃ q, K1 + cnL x.pins = q := ⟨_, rfl⟩
  obtain ⟨K3, hK3⟩ : ∃ q, K2 + cnL x.pairs = q := ⟨_, rfl⟩
  have hfin : Hid (((k + x.ct : Nat) : Int) = (K3 : Int)) := Lib.hid (by unfold Auditor.ct; omega)
  simp only [hK0, hK1, hK2]
  have HK0 := Lib.hid hK0; clear hK0
  have HK1 := Lib.hid hK1; clear hK1
  have HK2 := Lib.hid hK2; clear hK2
  have HK3 := Lib.hid hK3; clear hK3
  rw [hfin.out]
  have t0_0 := r0.tight
  have t0_1 := r1.tight
  have t0_2 := r2.tight
  have t0_3 := r3.tight
  clear r0 r1 r2 r3
  have d0_1 := disj_sub (pwget4_0_1 pw) (fun b (x : S0 b ∧ b < w.heap.size) => x.1) (fun b (x : S1 b ∧ b < w.heap.size) => x.1)
  have d0_2 := disj_sub (pwget4_0_2 pw) (fun b (x : S0 b ∧ b < w.heap.size) => x.1) (fun b (x : S2 b ∧ b < w.heap.size) => x.1)
  have d0_3 := disj_sub (pwget4_0_3 pw) (fun b (x : S0 b ∧ b < w.heap.size) => x.1) (fun b (x : S3 b ∧ b < w.heap.size) => x.1)
  have d1_2 := disj_sub (pwget4_1_2 pw) (fun b (x : S1 b ∧ b < w.heap.size) => x.1) (fun b (x : S2 b ∧ b < w.heap.size) => x.1)
  have d1_3 := disj_sub (pwget4_1_3 pw) (fun b (x : S1 b ∧ b < w.heap.size) => x.1) (fun b (x : S3 b ∧ b < w.heap.size) => x.1)
  have d2_3 := disj_sub (pwget4_2_3 pw) (fun b (x : S2 b ∧ b < w.heap.size) => x.1) (fun b (x : S3 b ∧ b < w.heap.size) => x.1)
  clear pw
  have hC0 : Chg (un S0 (un S1 (un S2 S3))) w w := Chg.refl _ _
  have hz0 := Nat.le_refl w.heap.size
  simp only [Auditor.cs]
  go_enter Tryz.func14, Tryz.ntmps14
  go_wp2_with (fail)
  refine (markr_Disk x.disk _ A0 k0 (fun b => S0 b ∧ b < w.heap.size) _ k (by first | rfl | omega) (by have := HK0.out; have := HK1.out; have := HK2.out; have := HK3.out; unfold Disk.ct; omega) (show Row true _ A0 k0 x.disk.files (fun b => S0 b ∧ b < w.heap.size) from by (repeat (first | with_reducible exact t0_0 | with_reducible apply Row.drewC | with_reducible refine Row.allocC ?_ _))) l0).mono ?_
  rw [show k + (x.disk).ct = K0 from by have := HK0.out; have := HK1.out; have := HK2.out; have := HK3.out; unfold Disk.ct; omega]
  rintro e1 w1 ⟨rfl, t1_0, hb1⟩
  have hV1 : ∀ b, (fun b => S0 b ∧ b < w.heap.size) b → b < w.heap.size := (fun b (h : (fun b => S0 b ∧ b < w.heap.size) b) => (show b < w.heap.size from by exact h.2))
  have hz1 : w.heap.size + 1 ≤ w1.heap.size := by have := hb1.size; (try simp at this); omega
  have hC1 : Chg (un S0 (un S1 (un S2 S3))) w w1 := Chg.trans (b := _) (by (repeat (first | with_reducible exact hC0 | with_reducible apply Chg.drew | with_reducible refine Chg.alloc ?_ _))) (hb1.mono (fun b _ h => (un_left _ _) b h.1))
  have t1_1 := Row.chg (show Row true _ A1 k1 x.pool (fun b => S1 b ∧ b < w.heap.size) from by (repeat (first | with_reducible exact t0_1 | with_reducible apply Row.drewC | with_reducible refine Row.allocC ?_ _))) hb1 (disj_symm d0_1)
  have t1_2 := Row.chg (show Row true _ A2 k2 x.pins (fun b => S2 b ∧ b < w.heap.size) from by (repeat (first | with_reducible exact t0_2 | with_reducible apply Row.drewC | with_reducible refine Row.allocC ?_ _))) hb1 (disj_symm d0_2)
  have t1_3 := Row.chg (show Row true _ A3 k3 x.pairs (fun b => S3 b ∧ b < w.heap.size) from by (repeat (first | with_reducible exact t0_3 | with_reducible apply Row.drewC | with_reducible refine Row.allocC ?_ _))) hb1 (disj_symm d0_3)
  have hc1 := fun o => hb1.cellC (p := ⟨w.heap.size, o, none⟩) (by first | with_reducible exact Nat.le_refl _ | omega | (simp; done) | (simp; omega)) (fun h => absurd (hV1 _ h) (Nat.lt_irrefl _))
  go_wp2_with (fail)
  refine (mark_StringS x.pool _ _ _ (fun b => S1 b ∧ b < w.heap.size) _ K0 (by first | rfl | omega) (by have := HK0.out; have := HK1.out; have := HK2.out; have := HK3.out; omega) (show Row true _ A1 k1 x.pool (fun b => S1 b ∧ b < w.heap.size) from by (repeat (first | with_reducible exact t1_1 | with_reducible apply Row.drewC | with_reducible refine Row.allocC ?_ _))) l1).mono ?_
  rw [HK1.out]
  rintro e2 w2 ⟨rfl, t2_1, hb2⟩
  have hV2 : ∀ b, (fun b => S1 b ∧ b < w.heap.size) b → b < w.heap.size := (fun b (h : (fun b => S1 b ∧ b < w.heap.size) b) => (show b < w.heap.size from by exact h.2))
  have hz2 : w.heap.size + 1 ≤ w2.heap.size := by have := hb2.size; (try simp at this); omega
  have hC2 : Chg (un S0 (un S1 (un S2 S3))) w w2 := Chg.trans (b := _) (by (repeat (first | with_reducible exact hC1 | with_reducible apply Chg.drew | with_reducible refine Chg.alloc ?_ _))) (hb2.mono (fun b _ h => (sub_trans (un_left _ _) (un_right _ _)) b h.1))
  have t2_0 := Row.chg (show Row true _ A0 k0 (meL x.disk.files k) (fun b => S0 b ∧ b < w.heap.size) from by (repeat (first | with_reducible exact t1_0 | with_reducible apply Row.drewC | with_reducible refine Row.allocC ?_ _))) hb2 d0_1
  have t2_2 := Row.chg (show Row true _ A2 k2 x.pins (fun b => S2 b ∧ b < w.heap.size) from by (repeat (first | with_reducible exact t1_2 | with_reducible apply Row.drewC | with_reducible refine Row.allocC ?_ _))) hb2 (disj_symm d1_2)
  have t2_3 := Row.chg (show Row true _ A3 k3 x.pairs (fun b => S3 b ∧ b < w.heap.size) from by (repeat (first | with_reducible exact t1_3 | with_reducible apply Row.drewC | with_reducible refine Row.allocC ?_ _))) hb2 (disj_symm d1_3)
  have hc2 := fun o => hb2.cellC (p := ⟨w.heap.size, o, none⟩) (by first | with_reducible exact Nat.le_refl _ | omega | (simp; done) | (simp; omega)) (fun h => absurd (hV2 _ h) (Nat.lt_irrefl _))
  go_wp2_with (fail)
  refine (mark_SealS x.pins _ _ _ (fun b => S2 b ∧ b < w.heap.size) _ K1 (by first | rfl | omega) (by have := HK0.out; have := HK1.out; have := HK2.out; have := HK3.out; omega) (show Row true _ A2 k2 x.pins (fun b => S2 b ∧ b < w.heap.size) from by (repeat (first | with_reducible exact t2_2 | with_reducible apply Row.drewC | with_reducible refine Row.allocC ?_ _))) l2).mono ?_
  rw [HK2.out]
  rintro e3 w3 ⟨rfl, t3_2, hb3⟩
  have hV3 : ∀ b, (fun b => S2 b ∧ b < w.heap.size) b → b < w.heap.size := (fun b (h : (fun b => S2 b ∧ b < w.heap.size) b) => (show b < w.heap.size from by exact h.2))
  have hz3 : w.heap.size + 1 ≤ w3.heap.size := by have := hb3.size; (try simp at this); omega
  have hC3 : Chg (un S0 (un S1 (un S2 S3))) w w3 := Chg.trans (b := _) (by (repeat (first | with_reducible exact hC2 | with_reducible apply Chg.drew | with_reducible refine Chg.alloc ?_ _))) (hb3.mono (fun b _ h => (sub_trans (sub_trans (un_left _ _) (un_right _ _)) (un_right _ _)) b h.1))
  have t3_0 := Row.chg (show Row true _ A0 k0 (meL x.disk.files k) (fun b => S0 b ∧ b < w.heap.size) from by (repeat (first | with_reducible exact t2_0 | with_reducible apply Row.drewC | with_reducible refine Row.allocC ?_ _))) hb3 d0_2
  have t3_1 := Row.chg (show Row true _ A1 k1 (meL x.pool K0) (fun b => S1 b ∧ b < w.heap.size) from by (repeat (first | with_reducible exact t2_1 | with_reducible apply Row.drewC | with_reducible refine Row.allocC ?_ _))) hb3 d1_2
  have t3_3 := Row.chg (show Row true _ A3 k3 x.pairs (fun b => S3 b ∧ b < w.heap.size) from by (repeat (first | with_reducible exact t2_3 | with_reducible apply Row.drewC | with_reducible refine Row.allocC ?_ _))) hb3 (disj_symm d2_3)
  have hc3 := fun o => hb3.cellC (p := ⟨w.heap.size, o, none⟩) (by first | with_reducible exact Nat.le_refl _ | omega | (simp; done) | (simp; omega)) (fun h => absurd (hV3 _ h) (Nat.lt_irrefl _))
  go_wp2_with (fail)
  refine (mark_PairS x.pairs _ _ _ (fun b => S3 b ∧ b < w.heap.size) _ K2 (by first | rfl | omega) (by have := HK0.out; have := HK1.out; have := HK2.out; have := HK3.out; omega) (show Row true _ A3 k3 x.pairs (fun b => S3 b ∧ b < w.heap.size) from by (repeat (first | with_reducible exact t3_3 | with_reducible apply Row.drewC | with_reducible refine Row.allocC ?_ _))) l3).mono ?_
  rw [HK3.out]
  rintro e4 w4 ⟨rfl, t4_3, hb4⟩
  have hV4 : ∀ b, (fun b => S3 b ∧ b < w.heap.size) b → b < w.heap.size := (fun b (h : (fun b => S3 b ∧ b < w.heap.size) b) => (show b < w.heap.size from by exact h.2))
  have hz4 : w.heap.size + 1 ≤ w4.heap.size := by have := hb4.size; (try simp at this); omega
  have hC4 : Chg (un S0 (un S1 (un S2 S3))) w w4 := Chg.trans (b := _) (by (repeat (first | with_reducible exact hC3 | with_reducible apply Chg.drew | with_reducible refine Chg.alloc ?_ _))) (hb4.mono (fun b _ h => (sub_trans (sub_trans (sub_trans (sub_refl _) (un_right _ _)) (un_right _ _)) (un_right _ _)) b h.1))
  have t4_0 := Row.chg (show Row true _ A0 k0 (meL x.disk.files k) (fun b => S0 b ∧ b < w.heap.size) from by (repeat (first | with_reducible exact t3_0 | with_reducible apply Row.drewC | with_reducible refine Row.allocC ?_ _))) hb4 d0_3
  have t4_1 := Row.chg (show Row true _ A1 k1 (meL x.pool K0) (fun b => S1 b ∧ b < w.heap.size) from by (repeat (first | with_reducible exact t3_1 | with_reducible apply Row.drewC | with_reducible refine Row.allocC ?_ _))) hb4 d1_3
  have t4_2 := Row.chg (show Row true _ A2 k2 (meL x.pins K1) (fun b => S2 b ∧ b < w.heap.size) from by (repeat (first | with_reducible exact t3_2 | with_reducible apply Row.drewC | with_reducible refine Row.allocC ?_ _))) hb4 d2_3
  have hc4 := fun o => hb4.cellC (p := ⟨w.heap.size, o, none⟩) (by first | with_reducible exact Nat.le_refl _ | omega | (simp; done) | (simp; omega)) (fun h => absurd (hV4 _ h) (Nat.lt_irrefl _))
  go_wp2
  go_ret
  exact ⟨rfl, ⟨Row.mono (show Row true _ A0 k0 (meL x.disk.files k) (fun b => S0 b ∧ b < w.heap.size) from by (repeat (first | with_reducible exact t4_0 | with_reducible apply Row.drewC | with_reducible refine Row.allocC ?_ _))) (fun _ x => x.1), Row.mono (show Row true _ A1 k1 (meL x.pool K0) (fun b => S1 b ∧ b < w.heap.size) from by (repeat (first | with_reducible exact t4_1 | with_reducible apply Row.drewC | with_reducible refine Row.allocC ?_ _))) (fun _ x => x.1), Row.mono (show Row true _ A2 k2 (meL x.pins K1) (fun b => S2 b ∧ b < w.heap.size) from by (repeat (first | with_reducible exact t4_2 | with_reducible apply Row.drewC | with_reducible refine Row.allocC ?_ _))) (fun _ x => x.1), Row.mono (show Row true _ A3 k3 (meL x.pairs K2) (fun b => S3 b ∧ b < w.heap.size) from by (repeat (first | with_reducible exact t4_3 | with_reducible apply Row.drewC | with_reducible refine Row.allocC ?_ _))) (fun _ x => x.1)⟩, by (repeat (first | with_reducible exact hC4 | with_reducible apply Chg.drew | with_reducible refine Chg.alloc ?_ _))⟩
theorem mark_Auditor (x : Auditor) (w : World) (cs : List Value) (S : Blks) (a : Int) (k : Nat) (ha : a = (k : Int)) (hk : k + x.ct ≤ 4611686018427387904) (hx : rd true w cs x S) :
    Calls Tryz.prog 14 #[.agg cs.toArray, .int .i64 a] w fun e w' => e = .returned (.int .i64 ((k + x.ct : Nat) : Int)) ∧ rd true w' cs (x.mt k) S ∧ Chg S w w' := by
  obtain ⟨A0, k0, S0, A1, k1, S1, A2, k2, S2, A3, k3, S3, rfl, f0, a0, b0, r0, s0, a1, b1, r1, s1, a2, b2, r2, s2, a3, b3, r3, s3, pw⟩ := Auditor.open hx
  refine (markr_Auditor x w A0 k0 S0 A1 k1 S1 A2 k2 S2 A3 k3 S3 a k ha hk r0 (Nat.le_trans a0 b0) r1 (Nat.le_trans a1 b1) r2 (Nat.le_trans a2 b2) r3 (Nat.le_trans a3 b3) (pw rfl)).mono ?_
  rintro e w1 ⟨rfl, ⟨t0, t1, t2, t3⟩, hb⟩
  have hm : rd true w1 (Auditor.cs (⟨x.house, x.up, (⟨meL x.disk.files (k)⟩ : Disk), meL x.pool (k + cnL x.disk.files), meL x.pins (k + cnL x.disk.files + cnL x.pool), meL x.pairs (k + cnL x.disk.files + cnL x.pool + cnL x.pins)⟩ : Auditor) A0 k0 A1 k1 A2 k2 A3 k3) (⟨x.house, x.up, (⟨meL x.disk.files (k)⟩ : Disk), meL x.pool (k + cnL x.disk.files), meL x.pins (k + cnL x.disk.files + cnL x.pool), meL x.pairs (k + cnL x.disk.files + cnL x.pool + cnL x.pins)⟩ : Auditor) S := Auditor.mk' (x := (⟨x.house, x.up, (⟨meL x.disk.files (k)⟩ : Disk), meL x.pool (k + cnL x.disk.files), meL x.pins (k + cnL x.disk.files + cnL x.pool), meL x.pairs (k + cnL x.disk.files + cnL x.pool + cnL x.pins)⟩ : Auditor)) f0 (by rw [meL_length]; exact a0) b0 t0 s0 (by rw [meL_length]; exact a1) b1 t1 s1 (by rw [meL_length]; exact a2) b2 t2 s2 (by rw [meL_length]; exact a3) b3 t3 s3 pw
  refine ⟨rfl, ?_, hb.mono (fun b _ h => (show S b from by unfold un at h; (try simp only at h); rcases h with h | (h | (h | h)) <;> first | exact s0 b h | exact s1 b h | exact s2 b h | exact s3 b h))⟩
  simpa only [Auditor.cs, meL_length, Auditor.mt] using hm
end Go.Proofs.YtlfnmbcnehaikaaGreatDoor
