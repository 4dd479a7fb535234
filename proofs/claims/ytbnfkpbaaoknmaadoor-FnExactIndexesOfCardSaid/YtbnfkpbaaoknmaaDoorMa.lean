/- Walks of the laws' helpers that mark. Written by a program (gen_mk.py). -/
import Derived.Test.YtbnfkpbaaoknmaaDoorMt
import Derived.Test.YtbnfkpbaaoknmaaDoorTy
set_option linter.unusedVariables false
set_option linter.unusedSimpArgs false
namespace Go.Proofs.YtbnfkpbaaoknmaaDoor
open Go.RowKit Lay Mk
theorem I64_nat {k : Nat} (h : k ≤ 4611686018427387904) : I64 (k : Int) := by unfold I64; omega
theorem _root_.Go.RowKit.Below.chg_ {w w1 : World} (h : Below w.heap.size w w1) (U : Blks) : Chg U w w1 := ⟨h.os, h.tape, h.output, h.size, fun k hk _ => h.block k hk⟩
theorem Shp.ofb {w w1 : World} {g t m : Nat} (h : Shp w g t m) (hb : Below w.heap.size w w1) : Shp w1 g t m := h.of (hb.block g h.lt)
theorem Shp.ofc {w w1 : World} {g t m : Nat} {S : Blks} (h : Shp w g t m) (hb : Chg S w w1) (hn : ¬ S g) : Shp w1 g t m := h.of (hb.block g h.lt hn)
theorem Chg.cellC {w w1 : World} {S : Blks} (hb : Chg S w w1) {p : Addr} (h : p.block < w.heap.size) (hn : ¬ S p.block) : w1.cell? p = w.cell? p := World.cell?_of_block (hb.block p.block h hn)
set_option maxRecDepth 40000 in set_option maxHeartbeats 4000000 in
theorem mark_StringS (xs : List ByteArray) (w : World) (A : Option Addr) (cap : Nat) (S : Blks) (a : Int) (k0 : Nat) (ha : a = (k0 : Int)) (hk : k0 + cnL xs ≤ 4611686018427387904) (hx : Row true w A cap xs S) (hl : xs.length ≤ maxLen) :
    Calls Tryd.prog 31 #[.slice A xs.length cap, .int .i64 a] w fun e w' => e = .returned (.int .i64 ((k0 + cnL xs : Nat) : Int)) ∧ Row true w' A cap (meL xs k0) S ∧ Chg S w w' := by
  subst ha
  unfold maxLen at hl
  have hxx := hx
  rcases hx with ⟨rfl, rfl, rfl⟩ | ⟨g, cur_, rfl, hg, hh_, hcs_, _⟩
  · go_enter Tryd.func31, Tryd.ntmps31
    go_wp2
    go_loopw [1, 5] (fun l i wr => i = .int .i64 0 ∧ l = .int .i64 (k0 : Int) ∧ wr = w) (fun _ _ _ => 0)
    case atStart => exact ⟨rfl, rfl, rfl⟩
    case round =>
      obtain ⟨rfl, rfl, rfl⟩ := hrel
      go_wp2
      go_ret; exact ⟨rfl, .inl ⟨rfl, rfl, rfl⟩, Chg.refl _ _⟩
  have hsh0 : Shp w g (ty ByteArray) (cap * 1) := ⟨cur_, hh_, hcs_⟩
  clear hh_ hcs_
  go_enter Tryd.func31, Tryd.ntmps31
  go_wp2
  go_loopw [1, 5] (fun l i wr => ∃ k : Nat, k ≤ xs.length ∧ i = .int .i64 k ∧ l = .int .i64 ((k0 + cnL (xs.take k) : Nat) : Int) ∧ Chg S w wr ∧ Row true wr (some ⟨g, 0, none⟩) cap (meL (xs.take k) k0 ++ xs.drop k) S) (fun _ i _ => xs.length - (intOf i).toNat)
  case atStart => exact ⟨0, Nat.zero_le _, rfl, by simp [cnL], Chg.refl _ _, by simpa [meL] using hxx⟩
  case round =>
    obtain ⟨k, hkk, rfl, rfl, hch, hrow⟩ := hrel
    clear hxx
    by_cases hlt : k < xs.length
    · have hylen : (meL (xs.take k) k0 ++ xs.drop k).length = xs.length := by simp; omega
      have hstep := meL_step xs k0 k hlt
      have hat := meL_at xs k0 k hlt (by rw [hylen]; exact hlt)
      generalize hys : meL (xs.take k) k0 ++ xs.drop k = ys at hrow hylen hat hstep
      have hlty : k < ys.length := by omega
      have hcs := cnL_take_succ xs k hlt
      have hcl := cnL_take_le xs (k + 1)
      generalize hK : k0 + cnL (xs.take k) = K at hstep
      generalize xs[k] = x at hat hcs hstep
      rw [show Mk.cn x = 1 from rfl] at hcs
      have hs2 : Hid (k0 + cnL (xs.take (k + 1)) = K + 1) := Lib.hid (by omega)
      have hKb : K + 1 ≤ 4611686018427387904 := by omega
      have hst : Hid (meL (xs.take (k + 1)) k0 ++ xs.drop (k + 1) = ys.set k (mtext K)) := Lib.hid hstep
      rcases hrow with ⟨h_, _⟩ | ⟨g2, cur, e_, _, hh, hcz, T, hT, hd, he⟩
      · cases h_
      cases e_
      have hsh : Shp wr g (ty ByteArray) (cap * 1) := ⟨cur, hh, hcz⟩
      have hd := hd rfl
      have hgl := hsh.lt
      have hgT : ¬ T k g := fun h => (hT k g h).2 rfl
      obtain ⟨c1, ha1, hr1⟩ := he k hlty
      rw [hat] at hr1
      have HE := Lib.hid he; have HD := Lib.hid hd; have HT := Lib.hid hT
      clear hcs hcl hstep hat hys he hd hT hh hcz
      have hr1 : rd true wr c1 (x : ByteArray) (T k) := hr1
      obtain ⟨rfl, _⟩ := open_str hr1
      clear hr1
      have q0 : wr.cell? ⟨g, k, none⟩ = some (.string x) := by have := ha1 0 _ rfl; simpa [show Lay.n ByteArray = 1 from rfl] using this
      clear ha1
      have hf0 := fun o => hsh.frozen o
      have hKb0 : K + 1 ≤ 4611686018427387904 := by omega
      have hC0 : Chg (fun b => b = g ∨ T k b) wr wr := Chg.refl _ _
      have hS0 := hsh
      go_wp2_with (fail)
      refine (mark_Text _ (K) (by first | rfl | omega | (simp; done)) (by omega) _).mono ?_
      rintro e1 w1 ⟨rfl, hb1⟩
      have hC1 : Chg (fun b => b = g ∨ T k b) wr w1 := Chg.trans (b := _) (by (repeat (first | with_reducible exact hC0 | with_reducible apply Chg.drew | with_reducible refine Chg.alloc ?_ _ | with_reducible refine Chg.setCell ?_ (.inl (.inl rfl)) _))) (hb1.chg_ (fun b => b = g ∨ T k b))
      have hS1 : Shp w1 g (ty ByteArray) (cap * 1) := Shp.ofb (by (repeat (first | with_reducible exact hS0 | with_reducible apply Shp.drew | with_reducible refine Shp.alloc ?_ _ | with_reducible refine Shp.set ?_ _ _))) hb1
      have hc1 := fun o => hb1.cell (p := ⟨g, o, none⟩) (Shp.lt (show Shp _ g (ty ByteArray) (cap * 1) from by (repeat (first | with_reducible exact hS0 | with_reducible apply Shp.drew | with_reducible refine Shp.alloc ?_ _ | with_reducible refine Shp.set ?_ _ _))))
      have hf1 := fun o => hS1.frozen o
      go_wp2
      go_roundw
      case rel =>
        refine ⟨k + 1, by omega, by go_num, by rw [hs2.out]; first | go_num | (congr 1; omega), ?_, ?_⟩
        · refine Chg.trans hch (Chg.mono (show Chg (fun b => b = g ∨ T k b) wr _ from by (repeat (first | with_reducible exact hC1 | with_reducible apply Chg.drew | with_reducible refine Chg.alloc ?_ _ | with_reducible refine Chg.setCell ?_ (.inl (.inl rfl)) _))) (fun b _ h => h.elim (fun e => e ▸ hg) (fun h => (HT.out k b h).1)))
        · rw [hst.out]
          refine Row.setN (N := 1) (T := T) (w := wr) (cs := [.string (mtext (K))]) rfl hg HT.out HD.out HE.out hlty (show Shp _ g (ty ByteArray) (cap * 1) from by (repeat (first | with_reducible exact hS1 | with_reducible apply Shp.drew | with_reducible refine Shp.alloc ?_ _ | with_reducible refine Shp.set ?_ _ _))) (fun o ho => ?_) (show Chg (fun b => b = g ∨ T k b) wr _ from by (repeat (first | with_reducible exact hC1 | with_reducible apply Chg.drew | with_reducible refine Chg.alloc ?_ _ | with_reducible refine Chg.setCell ?_ (.inl (.inl rfl)) _))) ?_ ?_
          · have n0 : o ≠ k := by intro h; apply ho; rw [h]; omega
            simp only [hc1, cell_set_ne _ _ _ o _ n0]
          · intro j u hu
            have hj : j < 1 := (List.getElem?_eq_some_iff.1 hu).1
            obtain rfl : j = 0 := by omega
            all_goals (have hu := Option.some.inj hu; subst hu; go_simp; try simp)
          · exact ⟨rfl, mtext_size _ (by omega)⟩
      case measure => simp [intOf]; omega
    · have hke : k = xs.length := by omega
      go_wp2
      go_ret; subst hke; refine ⟨by rw [List.take_of_length_le (Nat.le_refl _)]; rfl, by simpa using hrow, hch⟩
set_option maxRecDepth 40000 in set_option maxHeartbeats 4000000 in
theorem mark_IntS (xs : List Int) (w : World) (A : Option Addr) (cap : Nat) (S : Blks) (a : Int) (k0 : Nat) (ha : a = (k0 : Int)) (hk : k0 + cnL xs ≤ 4611686018427387904) (hx : Row true w A cap xs S) (hl : xs.length ≤ maxLen) :
    Calls Tryd.prog 32 #[.slice A xs.length cap, .int .i64 a] w fun e w' => e = .returned (.int .i64 ((k0 + cnL xs : Nat) : Int)) ∧ Row true w' A cap (meL xs k0) S ∧ Chg S w w' := by
  subst ha
  unfold maxLen at hl
  have hxx := hx
  rcases hx with ⟨rfl, rfl, rfl⟩ | ⟨g, cur_, rfl, hg, hh_, hcs_, _⟩
  · go_enter Tryd.func32, Tryd.ntmps32
    go_wp2
    go_loopw [1, 5] (fun l i wr => i = .int .i64 0 ∧ l = .int .i64 (k0 : Int) ∧ wr = w) (fun _ _ _ => 0)
    case atStart => exact ⟨rfl, rfl, rfl⟩
    case round =>
      obtain ⟨rfl, rfl, rfl⟩ := hrel
      go_wp2
      go_ret; exact ⟨rfl, .inl ⟨rfl, rfl, rfl⟩, Chg.refl _ _⟩
  have hsh0 : Shp w g (ty Int) (cap * 1) := ⟨cur_, hh_, hcs_⟩
  clear hh_ hcs_
  go_enter Tryd.func32, Tryd.ntmps32
  go_wp2
  go_loopw [1, 5] (fun l i wr => ∃ k : Nat, k ≤ xs.length ∧ i = .int .i64 k ∧ l = .int .i64 ((k0 + cnL (xs.take k) : Nat) : Int) ∧ Chg S w wr ∧ Row true wr (some ⟨g, 0, none⟩) cap (meL (xs.take k) k0 ++ xs.drop k) S) (fun _ i _ => xs.length - (intOf i).toNat)
  case atStart => exact ⟨0, Nat.zero_le _, rfl, by simp [cnL], Chg.refl _ _, by simpa [meL] using hxx⟩
  case round =>
    obtain ⟨k, hkk, rfl, rfl, hch, hrow⟩ := hrel
    clear hxx
    by_cases hlt : k < xs.length
    · have hylen : (meL (xs.take k) k0 ++ xs.drop k).length = xs.length := by simp; omega
      have hstep := meL_step xs k0 k hlt
      have hat := meL_at xs k0 k hlt (by rw [hylen]; exact hlt)
      generalize hys : meL (xs.take k) k0 ++ xs.drop k = ys at hrow hylen hat hstep
      have hlty : k < ys.length := by omega
      have hcs := cnL_take_succ xs k hlt
      have hcl := cnL_take_le xs (k + 1)
      generalize hK : k0 + cnL (xs.take k) = K at hstep
      generalize xs[k] = x at hat hcs hstep
      rw [show Mk.cn x = 1 from rfl] at hcs
      have hs2 : Hid (k0 + cnL (xs.take (k + 1)) = K + 1) := Lib.hid (by omega)
      have hKb : K + 1 ≤ 4611686018427387904 := by omega
      have hst : Hid (meL (xs.take (k + 1)) k0 ++ xs.drop (k + 1) = ys.set k (((K : Nat) : Int))) := Lib.hid hstep
      rcases hrow with ⟨h_, _⟩ | ⟨g2, cur, e_, _, hh, hcz, T, hT, hd, he⟩
      · cases h_
      cases e_
      have hsh : Shp wr g (ty Int) (cap * 1) := ⟨cur, hh, hcz⟩
      have hd := hd rfl
      have hgl := hsh.lt
      have hgT : ¬ T k g := fun h => (hT k g h).2 rfl
      obtain ⟨c1, ha1, hr1⟩ := he k hlty
      rw [hat] at hr1
      have HE := Lib.hid he; have HD := Lib.hid hd; have HT := Lib.hid hT
      clear hcs hcl hstep hat hys he hd hT hh hcz
      have hr1 : rd true wr c1 (x : Int) (T k) := hr1
      obtain ⟨rfl, _⟩ := open_int hr1
      clear hr1
      have q0 : wr.cell? ⟨g, k, none⟩ = some (.int .i64 x) := by have := ha1 0 _ rfl; simpa [show Lay.n Int = 1 from rfl] using this
      clear ha1
      have hf0 := fun o => hsh.frozen o
      have hKb0 : K + 1 ≤ 4611686018427387904 := by omega
      have hC0 : Chg (fun b => b = g ∨ T k b) wr wr := Chg.refl _ _
      have hS0 := hsh
      go_wp2
      go_roundw
      case rel =>
        refine ⟨k + 1, by omega, by go_num, by rw [hs2.out]; first | go_num | (congr 1; omega), ?_, ?_⟩
        · refine Chg.trans hch (Chg.mono (show Chg (fun b => b = g ∨ T k b) wr _ from by (repeat (first | with_reducible exact hC0 | with_reducible apply Chg.drew | with_reducible refine Chg.alloc ?_ _ | with_reducible refine Chg.setCell ?_ (.inl (.inl rfl)) _))) (fun b _ h => h.elim (fun e => e ▸ hg) (fun h => (HT.out k b h).1)))
        · rw [hst.out]
          refine Row.setN (N := 1) (T := T) (w := wr) (cs := [.int .i64 (((K) : Nat) : Int)]) rfl hg HT.out HD.out HE.out hlty (show Shp _ g (ty Int) (cap * 1) from by (repeat (first | with_reducible exact hS0 | with_reducible apply Shp.drew | with_reducible refine Shp.alloc ?_ _ | with_reducible refine Shp.set ?_ _ _))) (fun o ho => ?_) (show Chg (fun b => b = g ∨ T k b) wr _ from by (repeat (first | with_reducible exact hC0 | with_reducible apply Chg.drew | with_reducible refine Chg.alloc ?_ _ | with_reducible refine Chg.setCell ?_ (.inl (.inl rfl)) _))) ?_ ?_
          · have n0 : o ≠ k := by intro h; apply ho; rw [h]; omega
            simp only [cell_set_ne _ _ _ o _ n0]
          · intro j u hu
            have hj : j < 1 := (List.getElem?_eq_some_iff.1 hu).1
            obtain rfl : j = 0 := by omega
            all_goals (have hu := Option.some.inj hu; subst hu; go_simp; try simp)
          · exact ⟨rfl, I64_nat (by omega)⟩
      case measure => simp [intOf]; omega
    · have hke : k = xs.length := by omega
      go_wp2
      go_ret; subst hke; refine ⟨by rw [List.take_of_length_le (Nat.le_refl _)]; rfl, by simpa using hrow, hch⟩
end Go.Proofs.YtbnfkpbaaoknmaaDoor
