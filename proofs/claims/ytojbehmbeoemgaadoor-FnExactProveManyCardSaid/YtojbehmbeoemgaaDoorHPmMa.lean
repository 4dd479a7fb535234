/- A part of the proof: what the laws need of it. -/
import Derived.Test.YtojbehmbeoemgaaDoorHPmL4xBr
import Derived.Test.YtojbehmbeoemgaaDoorHPmTy
set_option linter.unusedVariables false
set_option linter.unusedSimpArgs false
set_option linter.unusedVariables false
set_option linter.unusedSimpArgs false
namespace Go.Proofs.YtojbehmbeoemgaaDoor
open Go.RowKit Lay Mk
theorem _root_.Go.RowKit.Below.chg_ {w w1 : World} (h : Below w.heap.size w w1) (U : Blks) : Chg U w w1 := ⟨h.os, h.tape, h.output, h.size, fun k hk _ => h.block k hk⟩
theorem Shp.ofb {w w1 : World} {g t m : Nat} (h : Shp w g t m) (hb : Below w.heap.size w w1) : Shp w1 g t m := h.of (hb.block g h.lt)
theorem Shp.ofc {w w1 : World} {g t m : Nat} {S : Blks} (h : Shp w g t m) (hb : Chg S w w1) (hn : ¬ S g) : Shp w1 g t m := h.of (hb.block g h.lt hn)
theorem Chg.cellC {w w1 : World} {S : Blks} (hb : Chg S w w1) {p : Addr} (h : p.block < w.heap.size) (hn : ¬ S p.block) : w1.cell? p = w.cell? p := World.cell?_of_block (hb.block p.block h hn)
set_option maxRecDepth 40000 in set_option maxHeartbeats 4000000 in
theorem mark_LeafS (xs : List Leaf) (w : World) (A : Option Addr) (cap : Nat) (S : Blks) (a : Int) (k0 : Nat) (ha : a = (k0 : Int)) (hk : k0 + cnL xs ≤ 4611686018427387904) (hx : Row true w A cap xs S) (hl : xs.length ≤ maxLen) :
    Calls Tryd.prog 40 #[.slice A xs.length cap, .int .i64 a] w fun e w' => e = .returned (.int .i64 ((k0 + cnL xs : Nat) : Int)) ∧ Row true w' A cap (meL xs k0) S ∧ Chg S w w' := by
  subst ha
  unfold maxLen at hl
  have hxx := hx
  rcases hx with ⟨rfl, rfl, rfl⟩ | ⟨g, cur_, rfl, hg, hh_, hcs_, _⟩
  · go_enter Tryd.func40, Tryd.ntmps40
    go_wp2
    go_loopw [1, 5] (fun l i wr => i = .int .i64 0 ∧ l = .int .i64 (k0 : Int) ∧ wr = w) (fun _ _ _ => 0)
    case atStart => exact ⟨rfl, rfl, rfl⟩
    case round =>
      obtain ⟨rfl, rfl, rfl⟩ := hrel
      go_wp2
      go_ret; exact ⟨rfl, .inl ⟨rfl, rfl, rfl⟩, Chg.refl _ _⟩
  have hsh0 : Shp w g (ty Leaf) (cap * 2) := ⟨cur_, hh_, hcs_⟩
  clear hh_ hcs_
  go_enter Tryd.func40, Tryd.ntmps40
  go_wp2
  go_loopw [1, 5] (fun l i wr => ∃ k : Nat, k ≤ xs.length ∧ i = .int .i64 k ∧ l = .int .i64 ((k0 + cnL (xs.take k) : Nat) : Int) ∧ Chg S w wr ∧ Row true wr (some ⟨g, 0, none⟩) cap (meL (xs.take k) k0 ++ xs.drop k) S) (fun _ i _ => xs.length - (intOf i).toNat)
  case atStart => exact ⟨0, Nat.zero_le _, rfl, by simp [cnL], Chg.refl _ _, by simpa [meL] using hxx⟩
  case round =>
    obtain ⟨k, hkk, rfl, rfl, hch, hrow⟩ := hrel
    clear hxx
    by_cases hlt : k < xs.length
    · have hylen : (meL (xs.take k) k0 ++ xs.drop k).length = xs.length := by simp; omega
      have hstep := meL_step xs k0 k hlt
      have hat := meL_at xs k0 k hlt (by rw [hylen]; exact hlt)
      generalize hys : meL (xs.take k) k0 ++ xs.drop k = ys at hrow hylen hat hstep
      have hlty : k < ys.length := by omega
      have hcs := cnL_take_succ xs k hlt
      have hcl := cnL_take_le xs (k + 1)
      generalize hK : k0 + cnL (xs.take k) = K at hstep
      generalize xs[k] = x at hat hcs hstep
      rw [show Mk.cn x = Leaf.cn x from rfl] at hcs
      have hs2 : Hid (k0 + cnL (xs.take (k + 1)) = K + Leaf.cn x) := Lib.hid (by omega)
      have hKb : K + Leaf.cn x ≤ 4611686018427387904 := by omega
      unfold Leaf.cn at hKb
      have hst : Hid (meL (xs.take (k + 1)) k0 ++ xs.drop (k + 1) = ys.set k (Leaf.me x K)) := Lib.hid hstep
      rcases hrow with ⟨h_, _⟩ | ⟨g2, cur, e_, _, hh, hcz, T, hT, hd, he⟩
      · cases h_
      cases e_
      have hsh : Shp wr g (ty Leaf) (cap * 2) := ⟨cur, hh, hcz⟩
      have hd := hd rfl
      have hgl := hsh.lt
      have hgT : ¬ T k g := fun h => (hT k g h).2 rfl
      obtain ⟨c1, ha1, hr1⟩ := he k hlty
      rw [hat] at hr1
      have HE := Lib.hid he; have HD := Lib.hid hd; have HT := Lib.hid hT
      clear hcs hcl hstep hat hys he hd hT hh hcz
      obtain ⟨rfl, ef0, ef1⟩ := Leaf.open hr1
      have q0 : wr.cell? ⟨g, k * 2, none⟩ = some (.string x.name) := by have := ha1 0 _ rfl; simpa [show Lay.n Leaf = 2 from rfl] using this
      have q1 : wr.cell? ⟨g, k * 2 + 1, none⟩ = some (.string x.value) := by have := ha1 1 _ rfl; simpa [show Lay.n Leaf = 2 from rfl] using this
      clear ha1
      have hf0 := fun o => hsh.frozen o
      have hme : Hid (Leaf.me x K = (⟨mtext (K), mtext (K + 1)⟩ : Leaf)) := Lib.hid (by simp only [Leaf.me])
      have hKb0 : K + 2 ≤ 4611686018427387904 := by omega
      have hC0 : Chg (fun b => b = g ∨ T k b) wr wr := Chg.refl _ _
      have hS0 := hsh
      go_wp2_with (fail)
      refine (mark_Text _ (K) (by first | rfl | omega | (simp; done)) (by omega) _).mono ?_
      rintro e1 w1 ⟨rfl, hb1⟩
      have hC1 : Chg (fun b => b = g ∨ T k b) wr w1 := Chg.trans (b := _) (by (repeat (first | with_reducible exact hC0 | with_reducible apply Chg.drew | with_reducible refine Chg.alloc ?_ _ | with_reducible refine Chg.setCell ?_ (.inl (.inl rfl)) _))) (hb1.chg_ (fun b => b = g ∨ T k b))
      have hS1 : Shp w1 g (ty Leaf) (cap * 2) := Shp.ofb (by (repeat (first | with_reducible exact hS0 | with_reducible apply Shp.drew | with_reducible refine Shp.alloc ?_ _ | with_reducible refine Shp.set ?_ _ _))) hb1
      have hc1 := fun o => hb1.cell (p := ⟨g, o, none⟩) (Shp.lt (show Shp _ g (ty Leaf) (cap * 2) from by (repeat (first | with_reducible exact hS0 | with_reducible apply Shp.drew | with_reducible refine Shp.alloc ?_ _ | with_reducible refine Shp.set ?_ _ _))))
      have hf1 := fun o => hS1.frozen o
      go_wp2_with (fail)
      refine (mark_Text _ (K + 1) (by first | rfl | omega | (simp; done)) (by omega) _).mono ?_
      rintro e2 w2 ⟨rfl, hb2⟩
      have hC2 : Chg (fun b => b = g ∨ T k b) wr w2 := Chg.trans (b := _) (by (repeat (first | with_reducible exact hC1 | with_reducible apply Chg.drew | with_reducible refine Chg.alloc ?_ _ | with_reducible refine Chg.setCell ?_ (.inl (.inl rfl)) _))) (hb2.chg_ (fun b => b = g ∨ T k b))
      have hS2 : Shp w2 g (ty Leaf) (cap * 2) := Shp.ofb (by (repeat (first | with_reducible exact hS1 | with_reducible apply Shp.drew | with_reducible refine Shp.alloc ?_ _ | with_reducible refine Shp.set ?_ _ _))) hb2
      have hc2 := fun o => hb2.cell (p := ⟨g, o, none⟩) (Shp.lt (show Shp _ g (ty Leaf) (cap * 2) from by (repeat (first | with_reducible exact hS1 | with_reducible apply Shp.drew | with_reducible refine Shp.alloc ?_ _ | with_reducible refine Shp.set ?_ _ _))))
      have hf2 := fun o => hS2.frozen o
      go_wp2
      go_roundw
      case rel =>
        refine ⟨k + 1, by omega, by go_num, by rw [hs2.out]; first | go_num | (congr 1; unfold Leaf.cn; omega), ?_, ?_⟩
        · refine Chg.trans hch (Chg.mono (show Chg (fun b => b = g ∨ T k b) wr _ from by (repeat (first | with_reducible exact hC2 | with_reducible apply Chg.drew | with_reducible refine Chg.alloc ?_ _ | with_reducible refine Chg.setCell ?_ (.inl (.inl rfl)) _))) (fun b _ h => h.elim (fun e => e ▸ hg) (fun h => (HT.out k b h).1)))
        · rw [hst.out, hme.out]
          refine Row.setN (N := 2) (T := T) (w := wr) (cs := [.string (mtext (K)), .string (mtext (K + 1))]) rfl hg HT.out HD.out HE.out hlty (show Shp _ g (ty Leaf) (cap * 2) from by (repeat (first | with_reducible exact hS2 | with_reducible apply Shp.drew | with_reducible refine Shp.alloc ?_ _ | with_reducible refine Shp.set ?_ _ _))) (fun o ho => ?_) (show Chg (fun b => b = g ∨ T k b) wr _ from by (repeat (first | with_reducible exact hC2 | with_reducible apply Chg.drew | with_reducible refine Chg.alloc ?_ _ | with_reducible refine Chg.setCell ?_ (.inl (.inl rfl)) _))) ?_ ?_
          · have n0 : o ≠ k * 2 := by intro h; apply ho; rw [h]; omega
            have n1 : o ≠ k * 2 + 1 := by intro h; apply ho; rw [h]; omega
            simp only [hc2, hc1, cell_set_ne _ _ _ o _ n0, cell_set_ne _ _ _ o _ n1]
          · intro j u hu
            have hj : j < 2 := (List.getElem?_eq_some_iff.1 hu).1
            rcases (by omega : j = 0 ∨ j = 1) with rfl | rfl
            all_goals (have hu := Option.some.inj hu; subst hu; go_simp; try simp)
          · exact Leaf.mk' (m := true) (x := (⟨mtext (K), mtext (K + 1)⟩ : Leaf)) (S := T k) (mtext_size (K) (by omega)) (mtext_size (K + 1) (by omega))
      case measure => simp [intOf]; omega
    · have hke : k = xs.length := by omega
      go_wp2
      go_ret; subst hke; refine ⟨by rw [List.take_of_length_le (Nat.le_refl _)]; rfl, by simpa using hrow, hch⟩
set_option maxRecDepth 40000 in set_option maxHeartbeats 4000000 in
theorem mark_StringS (xs : List ByteArray) (w : World) (A : Option Addr) (cap : Nat) (S : Blks) (a : Int) (k0 : Nat) (ha : a = (k0 : Int)) (hk : k0 + cnL xs ≤ 4611686018427387904) (hx : Row true w A cap xs S) (hl : xs.length ≤ maxLen) :
    Calls Tryd.prog 41 #[.slice A xs.length cap, .int .i64 a] w fun e w' => e = .returned (.int .i64 ((k0 + cnL xs : Nat) : Int)) ∧ Row true w' A cap (meL xs k0) S ∧ Chg S w w' := by
  subst ha
  unfold maxLen at hl
  have hxx := hx
  rcases hx with ⟨rfl, rfl, rfl⟩ | ⟨g, cur_, rfl, hg, hh_, hcs_, _⟩
  · go_enter Tryd.func41, Tryd.ntmps41
    go_wp2
    go_loopw [1, 5] (fun l i wr => i = .int .i64 0 ∧ l = .int .i64 (k0 : Int) ∧ wr = w) (fun _ _ _ => 0)
    case atStart => exact ⟨rfl, rfl, rfl⟩
    case round =>
      obtain ⟨rfl, rfl, rfl⟩ := hrel
      go_wp2
      go_ret; exact ⟨rfl, .inl ⟨rfl, rfl, rfl⟩, Chg.refl _ _⟩
  have hsh0 : Shp w g (ty ByteArray) (cap * 1) := ⟨cur_, hh_, hcs_⟩
  clear hh_ hcs_
  go_enter Tryd.func41, Tryd.ntmps41
  go_wp2
  go_loopw [1, 5] (fun l i wr => ∃ k : Nat, k ≤ xs.length ∧ i = .int .i64 k ∧ l = .int .i64 ((k0 + cnL (xs.take k) : Nat) : Int) ∧ Chg S w wr ∧ Row true wr (some ⟨g, 0, none⟩) cap (meL (xs.take k) k0 ++ xs.drop k) S) (fun _ i _ => xs.length - (intOf i).toNat)
  case atStart => exact ⟨0, Nat.zero_le _, rfl, by simp [cnL], Chg.refl _ _, by simpa [meL] using hxx⟩
  case round =>
    obtain ⟨k, hkk, rfl, rfl, hch, hrow⟩ := hrel
    clear hxx
    by_cases hlt : k < xs.length
    · have hylen : (meL (xs.take k) k0 ++ xs.drop k).length = xs.length := by simp; omega
      have hstep := meL_step xs k0 k hlt
      have hat := meL_at xs k0 k hlt (by rw [hylen]; exact hlt)
      generalize hys : meL (xs.take k) k0 ++ xs.drop k = ys at hrow hylen hat hstep
      have hlty : k < ys.length := by omega
      have hcs := cnL_take_succ xs k hlt
      have hcl := cnL_take_le xs (k + 1)
      generalize hK : k0 + cnL (xs.take k) = K at hstep
      generalize xs[k] = x at hat hcs hstep
      rw [show Mk.cn x = 1 from rfl] at hcs
      have hs2 : Hid (k0 + cnL (xs.take (k + 1)) = K + 1) := Lib.hid (by omega)
      have hKb : K + 1 ≤ 4611686018427387904 := by omega
      have hst : Hid (meL (xs.take (k + 1)) k0 ++ xs.drop (k + 1) = ys.set k (mtext K)) := Lib.hid hstep
      rcases hrow with ⟨h_, _⟩ | ⟨g2, cur, e_, _, hh, hcz, T, hT, hd, he⟩
      · cases h_
      cases e_
      have hsh : Shp wr g (ty ByteArray) (cap * 1) := ⟨cur, hh, hcz⟩
      have hd := hd rfl
      have hgl := hsh.lt
      have hgT : ¬ T k g := fun h => (hT k g h).2 rfl
      obtain ⟨c1, ha1, hr1⟩ := he k hlty
      rw [hat] at hr1
      have HE := Lib.hid he; have HD := Lib.hid hd; have HT := Lib.hid hT
      clear hcs hcl hstep hat hys he hd hT hh hcz
      have hr1 : rd true wr c1 (x : ByteArray) (T k) := hr1
      obtain ⟨rfl, _⟩ := open_str hr1
      clear hr1
      have q0 : wr.cell? ⟨g, k, none⟩ = some (.string x) := by have := ha1 0 _ rfl; simpa [show Lay.n ByteArray = 1 from rfl] using this
      clear ha1
      have hf0 := fun o => hsh.frozen o
      have hKb0 : K + 1 ≤ 4611686018427387904 := by omega
      have hC0 : Chg (fun b => b = g ∨ T k b) wr wr := Chg.refl _ _
      have hS0 := hsh
      go_wp2_with (fail)
      refine (mark_Text _ (K) (by first | rfl | omega | (simp; done)) (by omega) _).mono ?_
      rintro e1 w1 ⟨rfl, hb1⟩
      have hC1 : Chg (fun b => b = g ∨ T k b) wr w1 := Chg.trans (b := _) (by (repeat (first | with_reducible exact hC0 | with_reducible apply Chg.drew | with_reducible refine Chg.alloc ?_ _ | with_reducible refine Chg.setCell ?_ (.inl (.inl rfl)) _))) (hb1.chg_ (fun b => b = g ∨ T k b))
      have hS1 : Shp w1 g (ty ByteArray) (cap * 1) := Shp.ofb (by (repeat (first | with_reducible exact hS0 | with_reducible apply Shp.drew | with_reducible refine Shp.alloc ?_ _ | with_reducible refine Shp.set ?_ _ _))) hb1
      have hc1 := fun o => hb1.cell (p := ⟨g, o, none⟩) (Shp.lt (show Shp _ g (ty ByteArray) (cap * 1) from by (repeat (first | with_reducible exact hS0 | with_reducible apply Shp.drew | with_reducible refine Shp.alloc ?_ _ | with_reducible refine Shp.set ?_ _ _))))
      have hf1 := fun o => hS1.frozen o
      go_wp2
      go_roundw
      case rel =>
        refine ⟨k + 1, by omega, by go_num, by rw [hs2.out]; first | go_num | (congr 1; omega), ?_, ?_⟩
        · refine Chg.trans hch (Chg.mono (show Chg (fun b => b = g ∨ T k b) wr _ from by (repeat (first | with_reducible exact hC1 | with_reducible apply Chg.drew | with_reducible refine Chg.alloc ?_ _ | with_reducible refine Chg.setCell ?_ (.inl (.inl rfl)) _))) (fun b _ h => h.elim (fun e => e ▸ hg) (fun h => (HT.out k b h).1)))
        · rw [hst.out]
          refine Row.setN (N := 1) (T := T) (w := wr) (cs := [.string (mtext (K))]) rfl hg HT.out HD.out HE.out hlty (show Shp _ g (ty ByteArray) (cap * 1) from by (repeat (first | with_reducible exact hS1 | with_reducible apply Shp.drew | with_reducible refine Shp.alloc ?_ _ | with_reducible refine Shp.set ?_ _ _))) (fun o ho => ?_) (show Chg (fun b => b = g ∨ T k b) wr _ from by (repeat (first | with_reducible exact hC1 | with_reducible apply Chg.drew | with_reducible refine Chg.alloc ?_ _ | with_reducible refine Chg.setCell ?_ (.inl (.inl rfl)) _))) ?_ ?_
          · have n0 : o ≠ k := by intro h; apply ho; rw [h]; omega
            simp only [hc1, cell_set_ne _ _ _ o _ n0]
          · intro j u hu
            have hj : j < 1 := (List.getElem?_eq_some_iff.1 hu).1
            obtain rfl : j = 0 := by omega
            all_goals (have hu := Option.some.inj hu; subst hu; go_simp; try simp)
          · exact ⟨rfl, mtext_size _ (by omega)⟩
      case measure => simp [intOf]; omega
    · have hke : k = xs.length := by omega
      go_wp2
      go_ret; subst hke; refine ⟨by rw [List.take_of_length_le (Nat.le_refl _)]; rfl, by simpa using hrow, hch⟩
set_option maxRecDepth 40000 in set_option maxHeartbeats 4000000 in
theorem mark_LeafSS (xs : List (List Leaf)) (w : World) (A : Option Addr) (cap : Nat) (S : Blks) (a : Int) (k0 : Nat) (ha : a = (k0 : Int)) (hk : k0 + cnL xs ≤ 4611686018427387904) (hx : Row true w A cap xs S) (hl : xs.length ≤ maxLen) :
    Calls Tryd.prog 96 #[.slice A xs.length cap, .int .i64 a] w fun e w' => e = .returned (.int .i64 ((k0 + cnL xs : Nat) : Int)) ∧ Row true w' A cap (meL xs k0) S ∧ Chg S w w' := by
  subst ha
  unfold maxLen at hl
  have hxx := hx
  rcases hx with ⟨rfl, rfl, rfl⟩ | ⟨g, cur_, rfl, hg, hh_, hcs_, _⟩
  · go_enter Tryd.func96, Tryd.ntmps96
    go_wp2
    go_loopw [1, 5] (fun l i wr => i = .int .i64 0 ∧ l = .int .i64 (k0 : Int) ∧ wr = w) (fun _ _ _ => 0)
    case atStart => exact ⟨rfl, rfl, rfl⟩
    case round =>
      obtain ⟨rfl, rfl, rfl⟩ := hrel
      go_wp2
      go_ret; exact ⟨rfl, .inl ⟨rfl, rfl, rfl⟩, Chg.refl _ _⟩
  have hsh0 : Shp w g (ty (List Leaf)) (cap * 1) := ⟨cur_, hh_, hcs_⟩
  clear hh_ hcs_
  go_enter Tryd.func96, Tryd.ntmps96
  go_wp2
  go_loopw [1, 5] (fun l i wr => ∃ k : Nat, k ≤ xs.length ∧ i = .int .i64 k ∧ l = .int .i64 ((k0 + cnL (xs.take k) : Nat) : Int) ∧ Chg S w wr ∧ Row true wr (some ⟨g, 0, none⟩) cap (meL (xs.take k) k0 ++ xs.drop k) S) (fun _ i _ => xs.length - (intOf i).toNat)
  case atStart => exact ⟨0, Nat.zero_le _, rfl, by simp [cnL], Chg.refl _ _, by simpa [meL] using hxx⟩
  case round =>
    obtain ⟨k, hkk, rfl, rfl, hch, hrow⟩ := hrel
    clear hxx
    by_cases hlt : k < xs.length
    · have hylen : (meL (xs.take k) k0 ++ xs.drop k).length = xs.length := by simp; omega
      have hstep := meL_step xs k0 k hlt
      have hat := meL_at xs k0 k hlt (by rw [hylen]; exact hlt)
      generalize hys : meL (xs.take k) k0 ++ xs.drop k = ys at hrow hylen hat hstep
      have hlty : k < ys.length := by omega
      have hcs := cnL_take_succ xs k hlt
      have hcl := cnL_take_le xs (k + 1)
      generalize hK : k0 + cnL (xs.take k) = K at hstep
      generalize xs[k] = x at hat hcs hstep
      rw [show Mk.cn x = cnL x from rfl] at hcs
      have hs2 : Hid (k0 + cnL (xs.take (k + 1)) = K + cnL x) := Lib.hid (by omega)
      have hKb : K + cnL x ≤ 4611686018427387904 := by omega
      have hst : Hid (meL (xs.take (k + 1)) k0 ++ xs.drop (k + 1) = ys.set k (meL x K)) := Lib.hid hstep
      rcases hrow with ⟨h_, _⟩ | ⟨g2, cur, e_, _, hh, hcz, T, hT, hd, he⟩
      · cases h_
      cases e_
      have hsh : Shp wr g (ty (List Leaf)) (cap * 1) := ⟨cur, hh, hcz⟩
      have hd := hd rfl
      have hgl := hsh.lt
      have hgT : ¬ T k g := fun h => (hT k g h).2 rfl
      obtain ⟨c1, ha1, hr1⟩ := he k hlty
      rw [hat] at hr1
      have HE := Lib.hid he; have HD := Lib.hid hd; have HT := Lib.hid hT
      clear hcs hcl hstep hat hys he hd hT hh hcz
      obtain ⟨eA0, ek0, rfl, ea0, eb0, er0⟩ := open_list hr1
      have es0 : sub (T k) (T k) := sub_refl _
      clear hr1
      have q0 : wr.cell? ⟨g, k, none⟩ = some (.slice eA0 x.length ek0) := by have := ha1 0 _ rfl; simpa [show Lay.n (List Leaf) = 1 from rfl] using this
      clear ha1
      have hf0 := fun o => hsh.frozen o
      obtain ⟨K1, hK1⟩ : ∃ q, K + cnL x = q := ⟨_, rfl⟩
      have HK1 := Lib.hid hK1; clear hK1
      have hKb0 : K + 0 ≤ 4611686018427387904 := by have := HK1.out; omega
      have hKb1 : K1 + 0 ≤ 4611686018427387904 := by have := HK1.out; omega
      have hC0 : Chg (fun b => b = g ∨ T k b) wr wr := Chg.refl _ _
      have hS0 := hsh
      go_wp2_with (fail)
      refine (mark_LeafS x _ _ _ _ _ (K) (by first | rfl | omega | (simp; done)) (by have := HK1.out; omega) (show Row true _ eA0 ek0 x (T k) from by (repeat (first | with_reducible exact er0 | with_reducible apply Row.drewC | with_reducible refine Row.allocC ?_ _ | with_reducible refine Row.setC ?_ ?_ _ | exact (fun h => hgT (es0 _ h))))) (Nat.le_trans ea0 eb0)).mono ?_
      rw [HK1.out]
      rintro e1 w1 ⟨rfl, hr0_1, hb1⟩
      have hC1 : Chg (fun b => b = g ∨ T k b) wr w1 := Chg.trans (b := _) (by (repeat (first | with_reducible exact hC0 | with_reducible apply Chg.drew | with_reducible refine Chg.alloc ?_ _ | with_reducible refine Chg.setCell ?_ (.inl (.inl rfl)) _))) (hb1.mono (fun b _ h => .inr (es0 b h)))
      have hS1 : Shp w1 g (ty (List Leaf)) (cap * 1) := Shp.ofc (by (repeat (first | with_reducible exact hS0 | with_reducible apply Shp.drew | with_reducible refine Shp.alloc ?_ _ | with_reducible refine Shp.set ?_ _ _))) hb1 (fun h => hgT (es0 _ h))
      have hc1 := fun o => hb1.cellC (p := ⟨g, o, none⟩) (Shp.lt (show Shp _ g (ty (List Leaf)) (cap * 1) from by (repeat (first | with_reducible exact hS0 | with_reducible apply Shp.drew | with_reducible refine Shp.alloc ?_ _ | with_reducible refine Shp.set ?_ _ _)))) (fun h => hgT (es0 _ h))
      have hf1 := fun o => hS1.frozen o
      go_wp2
      go_roundw
      case rel =>
        refine ⟨k + 1, by omega, by go_num, by rw [hs2.out]; first | go_num | (congr 1; have := HK1.out; omega), ?_, ?_⟩
        · refine Chg.trans hch (Chg.mono (show Chg (fun b => b = g ∨ T k b) wr _ from by (repeat (first | with_reducible exact hC1 | with_reducible apply Chg.drew | with_reducible refine Chg.alloc ?_ _ | with_reducible refine Chg.setCell ?_ (.inl (.inl rfl)) _))) (fun b _ h => h.elim (fun e => e ▸ hg) (fun h => (HT.out k b h).1)))
        · rw [hst.out]
          refine Row.setN (N := 1) (T := T) (w := wr) (cs := [.slice eA0 (meL x (K)).length ek0]) rfl hg HT.out HD.out HE.out hlty (show Shp _ g (ty (List Leaf)) (cap * 1) from by (repeat (first | with_reducible exact hS1 | with_reducible apply Shp.drew | with_reducible refine Shp.alloc ?_ _ | with_reducible refine Shp.set ?_ _ _))) (fun o ho => ?_) (show Chg (fun b => b = g ∨ T k b) wr _ from by (repeat (first | with_reducible exact hC1 | with_reducible apply Chg.drew | with_reducible refine Chg.alloc ?_ _ | with_reducible refine Chg.setCell ?_ (.inl (.inl rfl)) _))) ?_ ?_
          · have n0 : o ≠ k := by intro h; apply ho; rw [h]; omega
            simp only [hc1, cell_set_ne _ _ _ o _ n0]
          · intro j u hu
            have hj : j < 1 := (List.getElem?_eq_some_iff.1 hu).1
            obtain rfl : j = 0 := by omega
            all_goals (have hu := Option.some.inj hu; subst hu; go_simp; try simp)
          · have hf_ := (show Row true _ eA0 ek0 (meL x K) _ from by (repeat (first | with_reducible exact hr0_1 | with_reducible apply Row.drewC | with_reducible refine Row.allocC ?_ _)))
            exact ⟨eA0, ek0, rfl, by rw [meL_length]; exact ea0, eb0, hf_⟩
      case measure => simp [intOf]; omega
    · have hke : k = xs.length := by omega
      go_wp2
      go_ret; subst hke; refine ⟨by rw [List.take_of_length_le (Nat.le_refl _)]; rfl, by simpa using hrow, hch⟩
set_option maxRecDepth 40000 in set_option maxHeartbeats 4000000 in
theorem markr_Many (x : Many) (w : World) (A0 : Option Addr) (k0 : Nat) (S0 : Blks) (A1 : Option Addr) (k1 : Nat) (S1 : Blks) (A2 : Option Addr) (k2 : Nat) (S2 : Blks) (a : Int) (k : Nat) (ha : a = (k : Int)) (hk : k + x.ct ≤ 4611686018427387904) (r0 : Row true w A0 k0 x.names S0) (l0 : x.names.length ≤ maxLen) (r1 : Row true w A1 k1 x.buckets S1) (l1 : x.buckets.length ≤ maxLen) (r2 : Row true w A2 k2 x.sides S2) (l2 : x.sides.length ≤ maxLen) (pw : List.Pairwise disj [S0, S1, S2]) :
    Calls Tryd.prog 42 #[.agg (Many.cs x A0 k0 A1 k1 A2 k2).toArray, .int .i64 a] w fun e w' => e = .returned (.int .i64 ((k + x.ct : Nat) : Int)) ∧ (Row true w' A0 k0 (meL x.names (k)) S0 ∧ Row true w' A1 k1 (meL x.buckets (k + cnL x.names)) S1 ∧ Row true w' A2 k2 (meL x.sides (k + cnL x.names + cnL x.buckets)) S2) ∧ Chg (un S0 (un S1 S2)) w w' := by
  subst ha
  unfold Many.ct at hk
  obtain ⟨K0, hK0⟩ : ∃ q, k + cnL x.names = q := ⟨_, rfl⟩
  obtain ⟨K1, hK1⟩ : ∃ q, K0 + cnL x.buckets = q := ⟨_, rfl⟩
  obtain ⟨K2, hK2⟩ : ∃ q, K1 + cnL x.sides = q := ⟨_, rfl⟩
  have hfin : Hid (((k + x.ct : Nat) : Int) = (K2 : Int)) := Lib.hid (by unfold Many.ct; omega)
  simp only [hK0, hK1]
  have HK0 := Lib.hid hK0; clear hK0
  have HK1 := Lib.hid hK1; clear hK1
  have HK2 := Lib.hid hK2; clear hK2
  rw [hfin.out]
  have t0_0 := r0.tight
  have t0_1 := r1.tight
  have t0_2 := r2.tight
  clear r0 r1 r2
  have d0_1 := disj_sub (pwget3_0_1 pw) (fun b (x : S0 b ∧ b < w.heap.size) => x.1) (fun b (x : S1 b ∧ b < w.heap.size) => x.1)
  have d0_2 := disj_sub (pwget3_0_2 pw) (fun b (x : S0 b ∧ b < w.heap.size) => x.1) (fun b (x : S2 b ∧ b < w.heap.size) => x.1)
  have d1_2 := disj_sub (pwget3_1_2 pw) (fun b (x : S1 b ∧ b < w.heap.size) => x.1) (fun b (x : S2 b ∧ b < w.heap.size) => x.1)
  clear pw
  have hC0 : Chg (un S0 (un S1 S2)) w w := Chg.refl _ _
  have hz0 := Nat.le_refl w.heap.size
  simp only [Many.cs]
  go_enter Tryd.func42, Tryd.ntmps42
  go_wp2_with (fail)
  refine (mark_StringS x.names _ _ _ (fun b => S0 b ∧ b < w.heap.size) _ k (by first | rfl | omega) (by have := HK0.out; have := HK1.out; have := HK2.out; omega) (show Row true _ A0 k0 x.names (fun b => S0 b ∧ b < w.heap.size) from by (repeat (first | with_reducible exact t0_0 | with_reducible apply Row.drewC | with_reducible refine Row.allocC ?_ _))) l0).mono ?_
  rw [HK0.out]
  rintro e1 w1 ⟨rfl, t1_0, hb1⟩
  have hV1 : ∀ b, (fun b => S0 b ∧ b < w.heap.size) b → b < w.heap.size := (fun b (h : (fun b => S0 b ∧ b < w.heap.size) b) => (show b < w.heap.size from by exact h.2))
  have hz1 : w.heap.size + 1 ≤ w1.heap.size := by have := hb1.size; (try simp at this); omega
  have hC1 : Chg (un S0 (un S1 S2)) w w1 := Chg.trans (b := _) (by (repeat (first | with_reducible exact hC0 | with_reducible apply Chg.drew | with_reducible refine Chg.alloc ?_ _))) (hb1.mono (fun b _ h => (un_left _ _) b h.1))
  have t1_1 := Row.chg (show Row true _ A1 k1 x.buckets (fun b => S1 b ∧ b < w.heap.size) from by (repeat (first | with_reducible exact t0_1 | with_reducible apply Row.drewC | with_reducible refine Row.allocC ?_ _))) hb1 (disj_symm d0_1)
  have t1_2 := Row.chg (show Row true _ A2 k2 x.sides (fun b => S2 b ∧ b < w.heap.size) from by (repeat (first | with_reducible exact t0_2 | with_reducible apply Row.drewC | with_reducible refine Row.allocC ?_ _))) hb1 (disj_symm d0_2)
  have hc1 := fun o => hb1.cellC (p := ⟨w.heap.size, o, none⟩) (by first | with_reducible exact Nat.le_refl _ | omega | (simp; done) | (simp; omega)) (fun h => absurd (hV1 _ h) (Nat.lt_irrefl _))
  go_wp2_with (fail)
  refine (mark_LeafSS x.buckets _ _ _ (fun b => S1 b ∧ b < w.heap.size) _ K0 (by first | rfl | omega) (by have := HK0.out; have := HK1.out; have := HK2.out; omega) (show Row true _ A1 k1 x.buckets (fun b => S1 b ∧ b < w.heap.size) from by (repeat (first | with_reducible exact t1_1 | with_reducible apply Row.drewC | with_reducible refine Row.allocC ?_ _))) l1).mono ?_
  rw [HK1.out]
  rintro e2 w2 ⟨rfl, t2_1, hb2⟩
  have hV2 : ∀ b, (fun b => S1 b ∧ b < w.heap.size) b → b < w.heap.size := (fun b (h : (fun b => S1 b ∧ b < w.heap.size) b) => (show b < w.heap.size from by exact h.2))
  have hz2 : w.heap.size + 1 ≤ w2.heap.size := by have := hb2.size; (try simp at this); omega
  have hC2 : Chg (un S0 (un S1 S2)) w w2 := Chg.trans (b := _) (by (repeat (first | with_reducible exact hC1 | with_reducible apply Chg.drew | with_reducible refine Chg.alloc ?_ _))) (hb2.mono (fun b _ h => (sub_trans (un_left _ _) (un_right _ _)) b h.1))
  have t2_0 := Row.chg (show Row true _ A0 k0 (meL x.names k) (fun b => S0 b ∧ b < w.heap.size) from by (repeat (first | with_reducible exact t1_0 | with_reducible apply Row.drewC | with_reducible refine Row.allocC ?_ _))) hb2 d0_1
  have t2_2 := Row.chg (show Row true _ A2 k2 x.sides (fun b => S2 b ∧ b < w.heap.size) from by (repeat (first | with_reducible exact t1_2 | with_reducible apply Row.drewC | with_reducible refine Row.allocC ?_ _))) hb2 (disj_symm d1_2)
  have hc2 := fun o => hb2.cellC (p := ⟨w.heap.size, o, none⟩) (by first | with_reducible exact Nat.le_refl _ | omega | (simp; done) | (simp; omega)) (fun h => absurd (hV2 _ h) (Nat.lt_irrefl _))
  go_wp2_with (fail)
  refine (mark_StringS x.sides _ _ _ (fun b => S2 b ∧ b < w.heap.size) _ K1 (by first | rfl | omega) (by have := HK0.out; have := HK1.out; have := HK2.out; omega) (show Row true _ A2 k2 x.sides (fun b => S2 b ∧ b < w.heap.size) from by (repeat (first | with_reducible exact t2_2 | with_reducible apply Row.drewC | with_reducible refine Row.allocC ?_ _))) l2).mono ?_
  rw [HK2.out]
  rintro e3 w3 ⟨rfl, t3_2, hb3⟩
  have hV3 : ∀ b, (fun b => S2 b ∧ b < w.heap.size) b → b < w.heap.size := (fun b (h : (fun b => S2 b ∧ b < w.heap.size) b) => (show b < w.heap.size from by exact h.2))
  have hz3 : w.heap.size + 1 ≤ w3.heap.size := by have := hb3.size; (try simp at this); omega
  have hC3 : Chg (un S0 (un S1 S2)) w w3 := Chg.trans (b := _) (by (repeat (first | with_reducible exact hC2 | with_reducible apply Chg.drew | with_reducible refine Chg.alloc ?_ _))) (hb3.mono (fun b _ h => (sub_trans (sub_trans (sub_refl _) (un_right _ _)) (un_right _ _)) b h.1))
  have t3_0 := Row.chg (show Row true _ A0 k0 (meL x.names k) (fun b => S0 b ∧ b < w.heap.size) from by (repeat (first | with_reducible exact t2_0 | with_reducible apply Row.drewC | with_reducible refine Row.allocC ?_ _))) hb3 d0_2
  have t3_1 := Row.chg (show Row true _ A1 k1 (meL x.buckets K0) (fun b => S1 b ∧ b < w.heap.size) from by (repeat (first | with_reducible exact t2_1 | with_reducible apply Row.drewC | with_reducible refine Row.allocC ?_ _))) hb3 d1_2
  have hc3 := fun o => hb3.cellC (p := ⟨w.heap.size, o, none⟩) (by first | with_reducible exact Nat.le_refl _ | omega | (simp; done) | (simp; omega)) (fun h => absurd (hV3 _ h) (Nat.lt_irrefl _))
  go_wp2
  go_ret
  exact ⟨rfl, ⟨Row.mono (show Row true _ A0 k0 (meL x.names k) (fun b => S0 b ∧ b < w.heap.size) from by (repeat (first | with_reducible exact t3_0 | with_reducible apply Row.drewC | with_reducible refine Row.allocC ?_ _))) (fun _ x => x.1), Row.mono (show Row true _ A1 k1 (meL x.buckets K0) (fun b => S1 b ∧ b < w.heap.size) from by (repeat (first | with_reducible exact t3_1 | with_reducible apply Row.drewC | with_reducible refine Row.allocC ?_ _))) (fun _ x => x.1), Row.mono (show Row true _ A2 k2 (meL x.sides K1) (fun b => S2 b ∧ b < w.heap.size) from by (repeat (first | with_reducible exact t3_2 | with_reducible apply Row.drewC | with_reducible refine Row.allocC ?_ _))) (fun _ x => x.1)⟩, by (repeat (first | with_reducible exact hC3 | with_reducible apply Chg.drew | with_reducible refine Chg.alloc ?_ _))⟩
theorem mark_Many (x : Many) (w : World) (cs : List Value) (S : Blks) (a : Int) (k : Nat) (ha : a = (k : Int)) (hk : k + x.ct ≤ 4611686018427387904) (hx : rd true w cs x S) :
    Calls Tryd.prog 42 #[.agg cs.toArray, .int .i64 a] w fun e w' => e = .returned (.int .i64 ((k + x.ct : Nat) : Int)) ∧ rd true w' cs (x.mt k) S ∧ Chg S w w' := by
  obtain ⟨A0, k0, S0, A1, k1, S1, A2, k2, S2, rfl, a0, b0, r0, s0, a1, b1, r1, s1, a2, b2, r2, s2, pw⟩ := Many.open hx
  refine (markr_Many x w A0 k0 S0 A1 k1 S1 A2 k2 S2 a k ha hk r0 (Nat.le_trans a0 b0) r1 (Nat.le_trans a1 b1) r2 (Nat.le_trans a2 b2) (pw rfl)).mono ?_
  rintro e w1 ⟨rfl, ⟨t0, t1, t2⟩, hb⟩
  have hm : rd true w1 (Many.cs (⟨meL x.names (k), meL x.buckets (k + cnL x.names), meL x.sides (k + cnL x.names + cnL x.buckets)⟩ : Many) A0 k0 A1 k1 A2 k2) (⟨meL x.names (k), meL x.buckets (k + cnL x.names), meL x.sides (k + cnL x.names + cnL x.buckets)⟩ : Many) S := Many.mk' (x := (⟨meL x.names (k), meL x.buckets (k + cnL x.names), meL x.sides (k + cnL x.names + cnL x.buckets)⟩ : Many)) (by rw [meL_length]; exact a0) b0 t0 s0 (by rw [meL_length]; exact a1) b1 t1 s1 (by rw [meL_length]; exact a2) b2 t2 s2 pw
  refine ⟨rfl, ?_, hb.mono (fun b _ h => (show S b from by unfold un at h; (try simp only at h); rcases h with h | (h | h) <;> first | exact s0 b h | exact s1 b h | exact s2 b h))⟩
  simpa only [Many.cs, meL_length, Many.mt] using hm
end Go.Proofs.YtojbehmbeoemgaaDoor
