/- Walks of the law's helpers: those that this law needs. -/
import Derived.Test.YthgonaodmpegfaaGreatDoorMt
import Derived.Test.YthgonaodmpegfaaGreatDoorTy
set_option linter.unusedVariables false
set_option linter.unusedSimpArgs false
namespace Go.Proofs.YthgonaodmpegfaaGreatDoor
open Go.RowKit Lay Mk
theorem I64_nat {k : Nat} (h : k ≤ 4611686018427387904) : I64 (k : Int) := by unfold I64; omega
theorem _root_.Go.RowKit.Below.chg_ {w w1 : World} (h : Below w.heap.size w w1) (U : Blks) : Chg U w w1 := ⟨h.os, h.tape, h.output, h.size, fun k hk _ => h.block k hk⟩
theorem Shp.ofb {w w1 : World} {g t m : Nat} (h : Shp w g t m) (hb : Below w.heap.size w w1) : Shp w1 g t m := h.of (hb.block g h.lt)
theorem Shp.ofc {w w1 : World} {g t m : Nat} {S : Blks} (h : Shp w g t m) (hb : Chg S w w1) (hn : ¬ S g) : Shp w1 g t m := h.of (hb.block g h.lt hn)
theorem Chg.cellC {w w1 : World} {S : Blks} (hb : Chg S w w1) {p : Addr} (h : p.block < w.heap.size) (hn : ¬ S p.block) : w1.cell? p = w.cell? p := World.cell?_of_block (hb.block p.block h hn)
set_option maxRecDepth 40000 in set_option maxHeartbeats 4000000 in
theorem mark_StringS (xs : List ByteArray) (w : World) (A : Option Addr) (cap : Nat) (S : Blks) (a : Int) (k0 : Nat) (ha : a = (k0 : Int)) (hk : k0 + cnL xs ≤ 4611686018427387904) (hx : Row true w A cap xs S) (hl : xs.length ≤ maxLen) :
    Calls Tryz.prog 23 #[.slice A xs.length cap, .int .i64 a] w fun e w' => e = .returned (.int .i64 ((k0 + cnL xs : Nat) : Int)) ∧ Row true w' A cap (meL xs k0) S ∧ Chg S w w' := by
  subst ha
  unfold maxLen at hl
  have hxx := hx
  rcases hx with ⟨rfl, rfl, rfl⟩ | ⟨g, cur_, rfl, hg, hh_, hcs_, _⟩
  · go_enter Tryz.func23, Tryz.ntmps23
    go_wp2
    go_loopw [1, 5] (fun l i wr => i = .int .i64 0 ∧ l = .int .i64 (k0 : Int) ∧ wr = w) (fun _ _ _ => 0)
    case atStart => exact ⟨rfl, rfl, rfl⟩
    case round =>
      obtain ⟨rfl, rfl, rfl⟩ := hrel
      go_wp2
      go_ret; exact ⟨rfl, .inl ⟨rfl, rfl, rfl⟩, Chg.refl _ _⟩
  have hsh0 : Shp w g (ty ByteArray) (cap * 1) := ⟨cur_, hh_, hcs_⟩
  clear hh_ hcs_
  go_enter Tryz.func23, Tryz.ntmps23
  go_wp2
  go_loopw [1, 5] (fun l i wr => ∃ k : Nat, k ≤ xs.length ∧ i = .int .i64 k ∧ l = .int .i64 ((k0 + cnL (xs.take k) : Nat) : Int) ∧ Chg S w wr ∧ Row true wr (some ⟨g, 0, none⟩) cap (meL (xs.take k) k0 ++ xs.drop k) S) (fun _ i _ => xs.length - (intOf i).toNat)
  case atStart => exact ⟨0, Nat.zero_le _, rfl, by simp [cnL], Chg.refl _ _, by simpa [meL] using hxx⟩
  case round =>
    obtain ⟨k, hkk, rfl, rfl, hch, hrow⟩ := hrel
    clear hxx
    by_cases hlt : k < xs.length
    · have hylen : (meL (xs.take k) k0 ++ xs.drop k).length = xs.length := by simp; omega
      have hstep := meL_step xs k0 k hlt
      have hat := meL_at xs k0 k hlt (by rw [hylen]; exact hlt)
      generalize hys : meL (xs.take k) k0 ++ xs.drop k = ys at hrow hylen hat hstep
      have hlty : k < ys.length := by omega
      have hcs := cnL_take_succ xs k hlt
      have hcl := cnL_take_le xs (k + 1)
      generalize hK : k0 + cnL (xs.take k) = K at hstep
      generalize xs[k] = x at hat hcs hstep
      rw [show Mk.cn x = 1 from rfl] at hcs
      have hs2 : Hid (k0 + cnL (xs.take (k + 1)) = K + 1) := Lib.hid (by omega)
      have hKb : K + 1 ≤ 4611686018427387904 := by omega
      have hst : Hid (meL (xs.take (k + 1)) k0 ++ xs.drop (k + 1) = ys.set k (mtext K)) := Lib.hid hstep
      rcases hrow with ⟨h_, _⟩ | ⟨g2, cur, e_, _, hh, hcz, T, hT, hd, he⟩
      · cases h_
      cases e_
      have hsh : Shp wr g (ty ByteArray) (cap * 1) := ⟨cur, hh, hcz⟩
      have hd := hd rfl
      have hgl := hsh.lt
      have hgT : ¬ T k g := fun h => (hT k g h).2 rfl
      obtain ⟨c1, ha1, hr1⟩ := he k hlty
      rw [hat] at hr1
      have HE := Lib.hid he; have HD := Lib.hid hd; have HT := Lib.hid hT
      clear hcs hcl hstep hat hys he hd hT hh hcz
      have hr1 : rd true wr c1 (x : ByteArray) (T k) := hr1
      obtain ⟨rfl, _⟩ := open_str hr1
      clear hr1
      have q0 : wr.cell? ⟨g, k, none⟩ = some (.string x) := by have := ha1 0 _ rfl; simpa [show Lay.n ByteArray = 1 from rfl] using this
      clear ha1
      have hf0 := fun o => hsh.frozen o
      have hKb0 : K + 1 ≤ 4611686018427387904 := by omega
      have hC0 : Chg (fun b => b = g ∨ T k b) wr wr := Chg.refl _ _
      have hS0 := hsh
      go_wp2_with (fail)
      refine (mark_Text _ (K) (by first | rfl | omega | (simp; done)) (by omega) _).mono ?_
      rintro e1 w1 ⟨rfl, hb1⟩
      have hC1 : Chg (fun b => b = g ∨ T k b) wr w1 := Chg.trans (b := _) (by (repeat (first | with_reducible exact hC0 | with_reducible apply Chg.drew | with_reducible refine Chg.alloc ?_ _ | with_reducible refine Chg.setCell ?_ (.inl (.inl rfl)) _))) (hb1.chg_ (fun b => b = g ∨ T k b))
      have hS1 : Shp w1 g (ty ByteArray) (cap * 1) := Shp.ofb (by (repeat (first | with_reducible exact hS0 | with_reducible apply Shp.drew | with_reducible refine Shp.alloc ?_ _ | with_reducible refine Shp.set ?_ _ _))) hb1
      have hc1 := fun o => hb1.cell (p := ⟨g, o, none⟩) (Shp.lt (show Shp _ g (ty ByteArray) (cap * 1) from by (repeat (first | with_reducible exact hS0 | with_reducible apply Shp.drew | with_reducible refine Shp.alloc ?_ _ | with_reducible refine Shp.set ?_ _ _))))
      have hf1 := fun o => hS1.frozen o
      go_wp2
      go_roundw
      case rel =>
        refine ⟨k + 1, by omega, by go_num, by rw [hs2.out]; first | go_num | (congr 1; omega), ?_, ?_⟩
        · refine Chg.trans hch (Chg.mono (show Chg (fun b => b = g ∨ T k b) wr _ from by (repeat (first | with_reducible exact hC1 | with_reducible apply Chg.drew | with_reducible refine Chg.alloc ?_ _ | with_reducible refine Chg.setCell ?_ (.inl (.inl rfl)) _))) (fun b _ h => h.elim (fun e => e ▸ hg) (fun h => (HT.out k b h).1)))
        · rw [hst.out]
          refine Row.setN (N := 1) (T := T) (w := wr) (cs := [.string (mtext (K))]) rfl hg HT.out HD.out HE.out hlty (show Shp _ g (ty ByteArray) (cap * 1) from by (repeat (first | with_reducible exact hS1 | with_reducible apply Shp.drew | with_reducible refine Shp.alloc ?_ _ | with_reducible refine Shp.set ?_ _ _))) (fun o ho => ?_) (show Chg (fun b => b = g ∨ T k b) wr _ from by (repeat (first | with_reducible exact hC1 | with_reducible apply Chg.drew | with_reducible refine Chg.alloc ?_ _ | with_reducible refine Chg.setCell ?_ (.inl (.inl rfl)) _))) ?_ ?_
          · have n0 : o ≠ k := by intro h; apply ho; rw [h]; omega
            simp only [hc1, cell_set_ne _ _ _ o _ n0]
          · intro j u hu
            have hj : j < 1 := (List.getElem?_eq_some_iff.1 hu).1
            obtain rfl : j = 0 := by omega
            all_goals (have hu := Option.some.inj hu; subst hu; go_simp; try simp)
          · exact ⟨rfl, mtext_size _ (by omega)⟩
      case measure => simp [intOf]; omega
    · have hke : k = xs.length := by omega
      go_wp2
      go_ret; subst hke; refine ⟨by rw [List.take_of_length_le (Nat.le_refl _)]; rfl, by simpa using hrow, hch⟩
set_option maxRecDepth 40000 in set_option maxHeartbeats 4000000 in
theorem markr_Trust (x : Trust) (w : World) (A0 : Option Addr) (k0 : Nat) (S0 : Blks) (a : Int) (k : Nat) (ha : a = (k : Int)) (hk : k + x.ct ≤ 4611686018427387904) (r0 : Row true w A0 k0 x.roots S0) (l0 : x.roots.length ≤ maxLen) :
    Calls Tryz.prog 21 #[.agg (Trust.cs x A0 k0).toArray, .int .i64 a] w fun e w' => e = .returned (.int .i64 ((k + x.ct : Nat) : Int)) ∧ (Row true w' A0 k0 (meL x.roots (k)) S0) ∧ Chg S0 w w' := by
  subst ha
  unfold Trust.ct at hk
  obtain ⟨K0, hK0⟩ : ∃ q, k + cnL x.roots = q := ⟨_, rfl⟩
  have hfin : Hid (((k + x.ct : Nat) : Int) = (K0 : Int)) := Lib.hid (by unfold Trust.ct; omega)
  have HK0 := Lib.hid hK0; clear hK0
  rw [hfin.out]
  have t0_0 := r0.tight
  clear r0
  have hC0 : Chg S0 w w := Chg.refl _ _
  have hz0 := Nat.le_refl w.heap.size
  simp only [Trust.cs]
  go_enter Tryz.func21, Tryz.ntmps21
  go_wp2_with (fail)
  refine (mark_StringS x.roots _ _ _ (fun b => S0 b ∧ b < w.heap.size) _ k (by first | rfl | omega) (by have := HK0.out; omega) (show Row true _ A0 k0 x.roots (fun b => S0 b ∧ b < w.heap.size) from by (repeat (first | with_reducible exact t0_0 | with_reducible apply Row.drewC | with_reducible refine Row.allocC ?_ _))) l0).mono ?_
  rw [HK0.out]
  rintro e1 w1 ⟨rfl, t1_0, hb1⟩
  have hV1 : ∀ b, (fun b => S0 b ∧ b < w.heap.size) b → b < w.heap.size := (fun b (h : (fun b => S0 b ∧ b < w.heap.size) b) => (show b < w.heap.size from by exact h.2))
  have hz1 : w.heap.size + 1 ≤ w1.heap.size := by have := hb1.size; (try simp at this); omega
  have hC1 : Chg S0 w w1 := Chg.trans (b := _) (by (repeat (first | with_reducible exact hC0 | with_reducible apply Chg.drew | with_reducible refine Chg.alloc ?_ _))) (hb1.mono (fun b _ h => (sub_refl _) b h.1))
  have hc1 := fun o => hb1.cellC (p := ⟨w.heap.size, o, none⟩) (by first | with_reducible exact Nat.le_refl _ | omega | (simp; done) | (simp; omega)) (fun h => absurd (hV1 _ h) (Nat.lt_irrefl _))
  go_wp2
  go_ret
  exact ⟨rfl, Row.mono (show Row true _ A0 k0 (meL x.roots k) (fun b => S0 b ∧ b < w.heap.size) from by (repeat (first | with_reducible exact t1_0 | with_reducible apply Row.drewC | with_reducible refine Row.allocC ?_ _))) (fun _ x => x.1), by (repeat (first | with_reducible exact hC1 | with_reducible apply Chg.drew | with_reducible refine Chg.alloc ?_ _))⟩
theorem mark_Trust (x : Trust) (w : World) (cs : List Value) (S : Blks) (a : Int) (k : Nat) (ha : a = (k : Int)) (hk : k + x.ct ≤ 4611686018427387904) (hx : rd true w cs x S) :
    Calls Tryz.prog 21 #[.agg cs.toArray, .int .i64 a] w fun e w' => e = .returned (.int .i64 ((k + x.ct : Nat) : Int)) ∧ rd true w' cs (x.mt k) S ∧ Chg S w w' := by
  obtain ⟨A0, k0, S0, rfl, f1, f2, a0, b0, r0, s0⟩ := Trust.open hx
  refine (markr_Trust x w A0 k0 S0 a k ha hk r0 (Nat.le_trans a0 b0)).mono ?_
  rintro e w1 ⟨rfl, t0, hb⟩
  have hm : rd true w1 (Trust.cs (⟨meL x.roots (k), x.k, x.need⟩ : Trust) A0 k0) (⟨meL x.roots (k), x.k, x.need⟩ : Trust) S := Trust.mk' (x := (⟨meL x.roots (k), x.k, x.need⟩ : Trust)) (by rw [meL_length]; exact a0) b0 t0 s0 f1 f2
  refine ⟨rfl, ?_, hb.mono (fun b _ h => (show S b from s0 b h))⟩
  simpa only [Trust.cs, meL_length, Trust.mt] using hm
set_option maxRecDepth 40000 in set_option maxHeartbeats 4000000 in
theorem mark_LeafS (xs : List Leaf) (w : World) (A : Option Addr) (cap : Nat) (S : Blks) (a : Int) (k0 : Nat) (ha : a = (k0 : Int)) (hk : k0 + cnL xs ≤ 4611686018427387904) (hx : Row true w A cap xs S) (hl : xs.length ≤ maxLen) :
    Calls Tryz.prog 122 #[.slice A xs.length cap, .int .i64 a] w fun e w' => e = .returned (.int .i64 ((k0 + cnL xs : Nat) : Int)) ∧ Row true w' A cap (meL xs k0) S ∧ Chg S w w' := by
  subst ha
  unfold maxLen at hl
  have hxx := hx
  rcases hx with ⟨rfl, rfl, rfl⟩ | ⟨g, cur_, rfl, hg, hh_, hcs_, _⟩
  · go_enter Tryz.func122, Tryz.ntmps122
    go_wp2
    go_loopw [1, 5] (fun l i wr => i = .int .i64 0 ∧ l = .int .i64 (k0 : Int) ∧ wr = w) (fun _ _ _ => 0)
    case atStart => exact ⟨rfl, rfl, rfl⟩
    case round =>
      obtain ⟨rfl, rfl, rfl⟩ := hrel
      go_wp2
      go_ret; exact ⟨rfl, .inl ⟨rfl, rfl, rfl⟩, Chg.refl _ _⟩
  have hsh0 : Shp w g (ty Leaf) (cap * 2) := ⟨cur_, hh_, hcs_⟩
  clear hh_ hcs_
  go_enter Tryz.func122, Tryz.ntmps122
  go_wp2
  go_loopw [1, 5] (fun l i wr => ∃ k : Nat, k ≤ xs.length ∧ i = .int .i64 k ∧ l = .int .i64 ((k0 + cnL (xs.take k) : Nat) : Int) ∧ Chg S w wr ∧ Row true wr (some ⟨g, 0, none⟩) cap (meL (xs.take k) k0 ++ xs.drop k) S) (fun _ i _ => xs.length - (intOf i).toNat)
  case atStart => exact ⟨0, Nat.zero_le _, rfl, by simp [cnL], Chg.refl _ _, by simpa [meL] using hxx⟩
  case round =>
    obtain ⟨k, hkk, rfl, rfl, hch, hrow⟩ := hrel
    clear hxx
    by_cases hlt : k < xs.length
    · have hylen : (meL (xs.take k) k0 ++ xs.drop k).length = xs.length := by simp; omega
      have hstep := meL_step xs k0 k hlt
      have hat := meL_at xs k0 k hlt (by rw [hylen]; exact hlt)
      generalize hys : meL (xs.take k) k0 ++ xs.drop k = ys at hrow hylen hat hstep
      have hlty : k < ys.length := by omega
      have hcs := cnL_take_succ xs k hlt
      have hcl := cnL_take_le xs (k + 1)
      generalize hK : k0 + cnL (xs.take k) = K at hstep
      generalize xs[k] = x at hat hcs hstep
      rw [show Mk.cn x = Leaf.cn x from rfl] at hcs
      have hs2 : Hid (k0 + cnL (xs.take (k + 1)) = K + Leaf.cn x) := Lib.hid (by omega)
      have hKb : K + Leaf.cn x ≤ 4611686018427387904 := by omega
      unfold Leaf.cn at hKb
      have hst : Hid (meL (xs.take (k + 1)) k0 ++ xs.drop (k + 1) = ys.set k (Leaf.me x K)) := Lib.hid hstep
      rcases hrow with ⟨h_, _⟩ | ⟨g2, cur, e_, _, hh, hcz, T, hT, hd, he⟩
      · cases h_
      cases e_
      have hsh : Shp wr g (ty Leaf) (cap * 2) := ⟨cur, hh, hcz⟩
      have hd := hd rfl
      have hgl := hsh.lt
      have hgT : ¬ T k g := fun h => (hT k g h).2 rfl
      obtain ⟨c1, ha1, hr1⟩ := he k hlty
      rw [hat] at hr1
      have HE := Lib.hid he; have HD := Lib.hid hd; have HT := Lib.hid hT
      clear hcs hcl hstep hat hys he hd hT hh hcz
      obtain ⟨rfl, ef0, ef1⟩ := Leaf.open hr1
      have q0 : wr.cell? ⟨g, k * 2, none⟩ = some (.string x.name) := by have := ha1 0 _ rfl; simpa [show Lay.n Leaf = 2 from rfl] using this
      have q1 : wr.cell? ⟨g, k * 2 + 1, none⟩ = some (.string x.value) := by have := ha1 1 _ rfl; simpa [show Lay.n Leaf = 2 from rfl] using this
      clear ha1
      have hf0 := fun o => hsh.frozen o
      have hme : Hid (Leaf.me x K = (⟨mtext (K), mtext (K + 1)⟩ : Leaf)) := Lib.hid (by simp only [Leaf.me])
      have hKb0 : K + 2 ≤ 4611686018427387904 := by omega
      have hC0 : Chg (fun b => b = g ∨ T k b) wr wr := Chg.refl _ _
      have hS0 := hsh
      go_wp2_with (fail)
      refine (mark_Text _ (K) (by first | rfl | omega | (simp; done)) (by omega) _).mono ?_
      rintro e1 w1 ⟨rfl, hb1⟩
      have hC1 : Chg (fun b => b = g ∨ T k b) wr w1 := Chg.trans (b := _) (by (repeat (first | with_reducible exact hC0 | with_reducible apply Chg.drew | with_reducible refine Chg.alloc ?_ _ | with_reducible refine Chg.setCell ?_ (.inl (.inl rfl)) _))) (hb1.chg_ (fun b => b = g ∨ T k b))
      have hS1 : Shp w1 g (ty Leaf) (cap * 2) := Shp.ofb (by (repeat (first | with_reducible exact hS0 | with_reducible apply Shp.drew | with_reducible refine Shp.alloc ?_ _ | with_reducible refine Shp.set ?_ _ _))) hb1
      have hc1 := fun o => hb1.cell (p := ⟨g, o, none⟩) (Shp.lt (show Shp _ g (ty Leaf) (cap * 2) from by (repeat (first | with_reducible exact hS0 | with_reducible apply Shp.drew | with_reducible refine Shp.alloc ?_ _ | with_reducible refine Shp.set ?_ _ _))))
      have hf1 := fun o => hS1.frozen o
      go_wp2_with (fail)
      refine (mark_Text _ (K + 1) (by first | rfl | omega | (simp; done)) (by omega) _).mono ?_
      rintro e2 w2 ⟨rfl, hb2⟩
      have hC2 : Chg (fun b => b = g ∨ T k b) wr w2 := Chg.trans (b := _) (by (repeat (first | with_reducible exact hC1 | with_reducible apply Chg.drew | with_reducible refine Chg.alloc ?_ _ | with_reducible refine Chg.setCell ?_ (.inl (.inl rfl)) _))) (hb2.chg_ (fun b => b = g ∨ T k b))
      have hS2 : Shp w2 g (ty Leaf) (cap * 2) := Shp.ofb (by (repeat (first | with_reducible exact hS1 | with_reducible apply Shp.drew | with_reducible refine Shp.alloc ?_ _ | with_reducible refine Shp.set ?_ _ _))) hb2
      have hc2 := fun o => hb2.cell (p := ⟨g, o, none⟩) (Shp.lt (show Shp _ g (ty Leaf) (cap * 2) from by (repeat (first | with_reducible exact hS1 | with_reducible apply Shp.drew | with_reducible refine Shp.alloc ?_ _ | with_reducible refine Shp.set ?_ _ _))))
      have hf2 := fun o => hS2.frozen o
      go_wp2
      go_roundw
      case rel =>
        refine ⟨k + 1, by omega, by go_num, by rw [hs2.out]; first | go_num | (congr 1; unfold Leaf.cn; omega), ?_, ?_⟩
        · refine Chg.trans hch (Chg.mono (show Chg (fun b => b = g ∨ T k b) wr _ from by (repeat (first | with_reducible exact hC2 | with_reducible apply Chg.drew | with_reducible refine Chg.alloc ?_ _ | with_reducible refine Chg.setCell ?_ (.inl (.inl rfl)) _))) (fun b _ h => h.elim (fun e => e ▸ hg) (fun h => (HT.out k b h).1)))
        · rw [hst.out, hme.out]
          refine Row.setN (N := 2) (T := T) (w := wr) (cs := [.string (mtext (K)), .string (mtext (K + 1))]) rfl hg HT.out HD.out HE.out hlty (show Shp _ g (ty Leaf) (cap * 2) from by (repeat (first | with_reducible exact hS2 | with_reducible apply Shp.drew | with_reducible refine Shp.alloc ?_ _ | with_reducible refine Shp.set ?_ _ _))) (fun o ho => ?_) (show Chg (fun b => b = g ∨ T k b) wr _ from by (repeat (first | with_reducible exact hC2 | with_reducible apply Chg.drew | with_reducible refine Chg.alloc ?_ _ | with_reducible refine Chg.setCell ?_ (.inl (.inl rfl)) _))) ?_ ?_
          · have n0 : o ≠ k * 2 := by intro h; apply ho; rw [h]; omega
            have n1 : o ≠ k * 2 + 1 := by intro h; apply ho; rw [h]; omega
            simp only [hc2, hc1, cell_set_ne _ _ _ o _ n0, cell_set_ne _ _ _ o _ n1]
          · intro j u hu
            have hj : j < 2 := (List.getElem?_eq_some_iff.1 hu).1
            rcases (by omega : j = 0 ∨ j = 1) with rfl | rfl
            all_goals (have hu := Option.some.inj hu; subst hu; go_simp; try simp)
          · exact Leaf.mk' (m := true) (x := (⟨mtext (K), mtext (K + 1)⟩ : Leaf)) (S := T k) (mtext_size (K) (by omega)) (mtext_size (K + 1) (by omega))
      case measure => simp [intOf]; omega
    · have hke : k = xs.length := by omega
      go_wp2
      go_ret; subst hke; refine ⟨by rw [List.take_of_length_le (Nat.le_refl _)]; rfl, by simpa using hrow, hch⟩
set_option maxRecDepth 40000 in set_option maxHeartbeats 4000000 in
theorem mark_FileS (xs : List File) (w : World) (A : Option Addr) (cap : Nat) (S : Blks) (a : Int) (k0 : Nat) (ha : a = (k0 : Int)) (hk : k0 + cnL xs ≤ 4611686018427387904) (hx : Row true w A cap xs S) (hl : xs.length ≤ maxLen) :
    Calls Tryz.prog 133 #[.slice A xs.length cap, .int .i64 a] w fun e w' => e = .returned (.int .i64 ((k0 + cnL xs : Nat) : Int)) ∧ Row true w' A cap (meL xs k0) S ∧ Chg S w w' := by
  subst ha
  unfold maxLen at hl
  have hxx := hx
  rcases hx with ⟨rfl, rfl, rfl⟩ | ⟨g, cur_, rfl, hg, hh_, hcs_, _⟩
  · go_enter Tryz.func133, Tryz.ntmps133
    go_wp2
    go_loopw [1, 5] (fun l i wr => i = .int .i64 0 ∧ l = .int .i64 (k0 : Int) ∧ wr = w) (fun _ _ _ => 0)
    case atStart => exact ⟨rfl, rfl, rfl⟩
    case round =>
      obtain ⟨rfl, rfl, rfl⟩ := hrel
      go_wp2
      go_ret; exact ⟨rfl, .inl ⟨rfl, rfl, rfl⟩, Chg.refl _ _⟩
  have hsh0 : Shp w g (ty File) (cap * 3) := ⟨cur_, hh_, hcs_⟩
  clear hh_ hcs_
  go_enter Tryz.func133, Tryz.ntmps133
  go_wp2
  go_loopw [1, 5] (fun l i wr => ∃ k : Nat, k ≤ xs.length ∧ i = .int .i64 k ∧ l = .int .i64 ((k0 + cnL (xs.take k) : Nat) : Int) ∧ Chg S w wr ∧ Row true wr (some ⟨g, 0, none⟩) cap (meL (xs.take k) k0 ++ xs.drop k) S) (fun _ i _ => xs.length - (intOf i).toNat)
  case atStart => exact ⟨0, Nat.zero_le _, rfl, by simp [cnL], Chg.refl _ _, by simpa [meL] using hxx⟩
  case round =>
    obtain ⟨k, hkk, rfl, rfl, hch, hrow⟩ := hrel
    clear hxx
    by_cases hlt : k < xs.length
    · have hylen : (meL (xs.take k) k0 ++ xs.drop k).length = xs.length := by simp; omega
      have hstep := meL_step xs k0 k hlt
      have hat := meL_at xs k0 k hlt (by rw [hylen]; exact hlt)
      generalize hys : meL (xs.take k) k0 ++ xs.drop k = ys at hrow hylen hat hstep
      have hlty : k < ys.length := by omega
      have hcs := cnL_take_succ xs k hlt
      have hcl := cnL_take_le xs (k + 1)
      generalize hK : k0 + cnL (xs.take k) = K at hstep
      generalize xs[k] = x at hat hcs hstep
      rw [show Mk.cn x = File.cn x from rfl] at hcs
      have hs2 : Hid (k0 + cnL (xs.take (k + 1)) = K + File.cn x) := Lib.hid (by omega)
      have hKb : K + File.cn x ≤ 4611686018427387904 := by omega
      unfold File.cn at hKb
      have hst : Hid (meL (xs.take (k + 1)) k0 ++ xs.drop (k + 1) = ys.set k (File.me x K)) := Lib.hid hstep
      rcases hrow with ⟨h_, _⟩ | ⟨g2, cur, e_, _, hh, hcz, T, hT, hd, he⟩
      · cases h_
      cases e_
      have hsh : Shp wr g (ty File) (cap * 3) := ⟨cur, hh, hcz⟩
      have hd := hd rfl
      have hgl := hsh.lt
      have hgT : ¬ T k g := fun h => (hT k g h).2 rfl
      obtain ⟨c1, ha1, hr1⟩ := he k hlty
      rw [hat] at hr1
      have HE := Lib.hid he; have HD := Lib.hid hd; have HT := Lib.hid hT
      clear hcs hcl hstep hat hys he hd hT hh hcz
      obtain ⟨rfl, ef0, ef1, ef2⟩ := File.open hr1
      have q0 : wr.cell? ⟨g, k * 3, none⟩ = some (.string x.name) := by have := ha1 0 _ rfl; simpa [show Lay.n File = 3 from rfl] using this
      have q1 : wr.cell? ⟨g, k * 3 + 1, none⟩ = some (.string x.text) := by have := ha1 1 _ rfl; simpa [show Lay.n File = 3 from rfl] using this
      have q2 : wr.cell? ⟨g, k * 3 + 2, none⟩ = some (.int .i64 x.kept) := by have := ha1 2 _ rfl; simpa [show Lay.n File = 3 from rfl] using this
      clear ha1
      have hf0 := fun o => hsh.frozen o
      have hme : Hid (File.me x K = (⟨mtext (K), mtext (K + 1), (((K + 1 + 1) : Nat) : Int)⟩ : File)) := Lib.hid (by simp only [File.me])
      have hKb0 : K + 3 ≤ 4611686018427387904 := by omega
      have hC0 : Chg (fun b => b = g ∨ T k b) wr wr := Chg.refl _ _
      have hS0 := hsh
      go_wp2_with (fail)
      refine (mark_Text _ (K) (by first | rfl | omega | (simp; done)) (by omega) _).mono ?_
      rintro e1 w1 ⟨rfl, hb1⟩
      have hC1 : Chg (fun b => b = g ∨ T k b) wr w1 := Chg.trans (b := _) (by (repeat (first | with_reducible exact hC0 | with_reducible apply Chg.drew | with_reducible refine Chg.alloc ?_ _ | with_reducible refine Chg.setCell ?_ (.inl (.inl rfl)) _))) (hb1.chg_ (fun b => b = g ∨ T k b))
      have hS1 : Shp w1 g (ty File) (cap * 3) := Shp.ofb (by (repeat (first | with_reducible exact hS0 | with_reducible apply Shp.drew | with_reducible refine Shp.alloc ?_ _ | with_reducible refine Shp.set ?_ _ _))) hb1
      have hc1 := fun o => hb1.cell (p := ⟨g, o, none⟩) (Shp.lt (show Shp _ g (ty File) (cap * 3) from by (repeat (first | with_reducible exact hS0 | with_reducible apply Shp.drew | with_reducible refine Shp.alloc ?_ _ | with_reducible refine Shp.set ?_ _ _))))
      have hf1 := fun o => hS1.frozen o
      go_wp2_with (fail)
      refine (mark_Text _ (K + 1) (by first | rfl | omega | (simp; done)) (by omega) _).mono ?_
      rintro e2 w2 ⟨rfl, hb2⟩
      have hC2 : Chg (fun b => b = g ∨ T k b) wr w2 := Chg.trans (b := _) (by (repeat (first | with_reducible exact hC1 | with_reducible apply Chg.drew | with_reducible refine Chg.alloc ?_ _ | with_reducible refine Chg.setCell ?_ (.inl (.inl rfl)) _))) (hb2.chg_ (fun b => b = g ∨ T k b))
      have hS2 : Shp w2 g (ty File) (cap * 3) := Shp.ofb (by (repeat (first | with_reducible exact hS1 | with_reducible apply Shp.drew | with_reducible refine Shp.alloc ?_ _ | with_reducible refine Shp.set ?_ _ _))) hb2
      have hc2 := fun o => hb2.cell (p := ⟨g, o, none⟩) (Shp.lt (show Shp _ g (ty File) (cap * 3) from by (repeat (first | with_reducible exact hS1 | with_reducible apply Shp.drew | with_reducible refine Shp.alloc ?_ _ | with_reducible refine Shp.set ?_ _ _))))
      have hf2 := fun o => hS2.frozen o
      go_wp2
      go_roundw
      case rel =>
        refine ⟨k + 1, by omega, by go_num, by rw [hs2.out]; first | go_num | (congr 1; unfold File.cn; omega), ?_, ?_⟩
        · refine Chg.trans hch (Chg.mono (show Chg (fun b => b = g ∨ T k b) wr _ from by (repeat (first | with_reducible exact hC2 | with_reducible apply Chg.drew | with_reducible refine Chg.alloc ?_ _ | with_reducible refine Chg.setCell ?_ (.inl (.inl rfl)) _))) (fun b _ h => h.elim (fun e => e ▸ hg) (fun h => (HT.out k b h).1)))
        · rw [hst.out, hme.out]
          refine Row.setN (N := 3) (T := T) (w := wr) (cs := [.string (mtext (K)), .string (mtext (K + 1)), .int .i64 (((K + 1 + 1) : Nat) : Int)]) rfl hg HT.out HD.out HE.out hlty (show Shp _ g (ty File) (cap * 3) from by (repeat (first | with_reducible exact hS2 | with_reducible apply Shp.drew | with_reducible refine Shp.alloc ?_ _ | with_reducible refine Shp.set ?_ _ _))) (fun o ho => ?_) (show Chg (fun b => b = g ∨ T k b) wr _ from by (repeat (first | with_reducible exact hC2 | with_reducible apply Chg.drew | with_reducible refine Chg.alloc ?_ _ | with_reducible refine Chg.setCell ?_ (.inl (.inl rfl)) _))) ?_ ?_
          · have n0 : o ≠ k * 3 := by intro h; apply ho; rw [h]; omega
            have n1 : o ≠ k * 3 + 1 := by intro h; apply ho; rw [h]; omega
            have n2 : o ≠ k * 3 + 2 := by intro h; apply ho; rw [h]; omega
            simp only [hc2, hc1, cell_set_ne _ _ _ o _ n0, cell_set_ne _ _ _ o _ n1, cell_set_ne _ _ _ o _ n2]
          · intro j u hu
            have hj : j < 3 := (List.getElem?_eq_some_iff.1 hu).1
            rcases (by omega : j = 0 ∨ j = 1 ∨ j = 2) with rfl | rfl | rfl
            all_goals (have hu := Option.some.inj hu; subst hu; go_simp; try simp)
          · exact File.mk' (m := true) (x := (⟨mtext (K), mtext (K + 1), (((K + 1 + 1) : Nat) : Int)⟩ : File)) (S := T k) (mtext_size (K) (by omega)) (mtext_size (K + 1) (by omega)) (I64_nat (by omega))
      case measure => simp [intOf]; omega
    · have hke : k = xs.length := by omega
      go_wp2
      go_ret; subst hke; refine ⟨by rw [List.take_of_length_le (Nat.le_refl _)]; rfl, by simpa using hrow, hch⟩
set_option maxRecDepth 40000 in set_option maxHeartbeats 4000000 in
theorem mark_SealS (xs : List Seal) (w : World) (A : Option Addr) (cap : Nat) (S : Blks) (a : Int) (k0 : Nat) (ha : a = (k0 : Int)) (hk : k0 + cnL xs ≤ 4611686018427387904) (hx : Row true w A cap xs S) (hl : xs.length ≤ maxLen) :
    Calls Tryz.prog 134 #[.slice A xs.length cap, .int .i64 a] w fun e w' => e = .returned (.int .i64 ((k0 + cnL xs : Nat) : Int)) ∧ Row true w' A cap (meL xs k0) S ∧ Chg S w w' := by
  subst ha
  unfold maxLen at hl
  have hxx := hx
  rcases hx with ⟨rfl, rfl, rfl⟩ | ⟨g, cur_, rfl, hg, hh_, hcs_, _⟩
  · go_enter Tryz.func134, Tryz.ntmps134
    go_wp2
    go_loopw [1, 5] (fun l i wr => i = .int .i64 0 ∧ l = .int .i64 (k0 : Int) ∧ wr = w) (fun _ _ _ => 0)
    case atStart => exact ⟨rfl, rfl, rfl⟩
    case round =>
      obtain ⟨rfl, rfl, rfl⟩ := hrel
      go_wp2
      go_ret; exact ⟨rfl, .inl ⟨rfl, rfl, rfl⟩, Chg.refl _ _⟩
  have hsh0 : Shp w g (ty Seal) (cap * 8) := ⟨cur_, hh_, hcs_⟩
  clear hh_ hcs_
  go_enter Tryz.func134, Tryz.ntmps134
  go_wp2
  go_loopw [1, 5] (fun l i wr => ∃ k : Nat, k ≤ xs.length ∧ i = .int .i64 k ∧ l = .int .i64 ((k0 + cnL (xs.take k) : Nat) : Int) ∧ Chg S w wr ∧ Row true wr (some ⟨g, 0, none⟩) cap (meL (xs.take k) k0 ++ xs.drop k) S) (fun _ i _ => xs.length - (intOf i).toNat)
  case atStart => exact ⟨0, Nat.zero_le _, rfl, by simp [cnL], Chg.refl _ _, by simpa [meL] using hxx⟩
  case round =>
    obtain ⟨k, hkk, rfl, rfl, hch, hrow⟩ := hrel
    clear hxx
    by_cases hlt : k < xs.length
    · have hylen : (meL (xs.take k) k0 ++ xs.drop k).length = xs.length := by simp; omega
      have hstep := meL_step xs k0 k hlt
      have hat := meL_at xs k0 k hlt (by rw [hylen]; exact hlt)
      generalize hys : meL (xs.take k) k0 ++ xs.drop k = ys at hrow hylen hat hstep
      have hlty : k < ys.length := by omega
      have hcs := cnL_take_succ xs k hlt
      have hcl := cnL_take_le xs (k + 1)
      generalize hK : k0 + cnL (xs.take k) = K at hstep
      generalize xs[k] = x at hat hcs hstep
      rw [show Mk.cn x = Seal.cn x from rfl] at hcs
      have hs2 : Hid (k0 + cnL (xs.take (k + 1)) = K + Seal.cn x) := Lib.hid (by omega)
      have hKb : K + Seal.cn x ≤ 4611686018427387904 := by omega
      unfold Seal.cn at hKb
      have hst : Hid (meL (xs.take (k + 1)) k0 ++ xs.drop (k + 1) = ys.set k (Seal.me x K)) := Lib.hid hstep
      rcases hrow with ⟨h_, _⟩ | ⟨g2, cur, e_, _, hh, hcz, T, hT, hd, he⟩
      · cases h_
      cases e_
      have hsh : Shp wr g (ty Seal) (cap * 8) := ⟨cur, hh, hcz⟩
      have hd := hd rfl
      have hgl := hsh.lt
      have hgT : ¬ T k g := fun h => (hT k g h).2 rfl
      obtain ⟨c1, ha1, hr1⟩ := he k hlty
      rw [hat] at hr1
      have HE := Lib.hid he; have HD := Lib.hid hd; have HT := Lib.hid hT
      clear hcs hcl hstep hat hys he hd hT hh hcz
      obtain ⟨eA0, ek0, eS0, eA1, ek1, eS1, eA2, ek2, eS2, rfl, ef0, ef1, ef2, ef3, ef4, ea0, eb0, er0, es0, ea1, eb1, er1, es1, ea2, eb2, er2, es2, epw⟩ := Seal.open hr1
      have epw_ := Lib.hid (epw rfl); clear epw
      have q0 : wr.cell? ⟨g, k * 8, none⟩ = some (.int .i64 x.head.house) := by have := ha1 0 _ rfl; simpa [show Lay.n Seal = 8 from rfl] using this
      have q1 : wr.cell? ⟨g, k * 8 + 1, none⟩ = some (.int .i64 x.head.epoch) := by have := ha1 1 _ rfl; simpa [show Lay.n Seal = 8 from rfl] using this
      have q2 : wr.cell? ⟨g, k * 8 + 2, none⟩ = some (.string x.head.root) := by have := ha1 2 _ rfl; simpa [show Lay.n Seal = 8 from rfl] using this
      have q3 : wr.cell? ⟨g, k * 8 + 3, none⟩ = some (.string x.head.prev) := by have := ha1 3 _ rfl; simpa [show Lay.n Seal = 8 from rfl] using this
      have q4 : wr.cell? ⟨g, k * 8 + 4, none⟩ = some (.int .i64 x.sig.at_) := by have := ha1 4 _ rfl; simpa [show Lay.n Seal = 8 from rfl] using this
      have q5 : wr.cell? ⟨g, k * 8 + 5, none⟩ = some (.slice eA0 x.sig.open_.length ek0) := by have := ha1 5 _ rfl; simpa [show Lay.n Seal = 8 from rfl] using this
      have q6 : wr.cell? ⟨g, k * 8 + 6, none⟩ = some (.slice eA1 x.sig.shut.length ek1) := by have := ha1 6 _ rfl; simpa [show Lay.n Seal = 8 from rfl] using this
      have q7 : wr.cell? ⟨g, k * 8 + 7, none⟩ = some (.slice eA2 x.sig.sides.length ek2) := by have := ha1 7 _ rfl; simpa [show Lay.n Seal = 8 from rfl] using this
      clear ha1
      have hf0 := fun o => hsh.frozen o
      obtain ⟨K1, hK1⟩ : ∃ q, K + 1 + 1 + 1 + 1 + 1 + cnL x.sig.open_ = q := ⟨_, rfl⟩
      have HK1 := Lib.hid hK1; clear hK1
      obtain ⟨K2, hK2⟩ : ∃ q, K1 + cnL x.sig.shut = q := ⟨_, rfl⟩
      have HK2 := Lib.hid hK2; clear hK2
      obtain ⟨K3, hK3⟩ : ∃ q, K2 + cnL x.sig.sides = q := ⟨_, rfl⟩
      have HK3 := Lib.hid hK3; clear hK3
      have hme : Hid (Seal.me x K = (⟨(⟨(((K) : Nat) : Int), (((K + 1) : Nat) : Int), mtext (K + 1 + 1), mtext (K + 1 + 1 + 1)⟩ : Head), (⟨(((K + 1 + 1 + 1 + 1) : Nat) : Int), meL x.sig.open_ (K + 1 + 1 + 1 + 1 + 1), meL x.sig.shut (K1), meL x.sig.sides (K2)⟩ : Sig)⟩ : Seal)) := Lib.hid (by simp only [Seal.me, HK1.out, HK2.out, HK3.out])
      have hKb0 : K + 5 ≤ 4611686018427387904 := by have := HK1.out; have := HK2.out; have := HK3.out; omega
      have hKb1 : K1 + 0 ≤ 4611686018427387904 := by have := HK1.out; have := HK2.out; have := HK3.out; omega
      have hKb2 : K2 + 0 ≤ 4611686018427387904 := by have := HK1.out; have := HK2.out; have := HK3.out; omega
      have hKb3 : K3 + 0 ≤ 4611686018427387904 := by have := HK1.out; have := HK2.out; have := HK3.out; omega
      have hC0 : Chg (fun b => b = g ∨ T k b) wr wr := Chg.refl _ _
      have hS0 := hsh
      go_wp2_with (fail)
      refine (mark_Text _ (K + 1 + 1) (by first | rfl | omega | (simp; done)) (by omega) _).mono ?_
      rintro e1 w1 ⟨rfl, hb1⟩
      have hC1 : Chg (fun b => b = g ∨ T k b) wr w1 := Chg.trans (b := _) (by (repeat (first | with_reducible exact hC0 | with_reducible apply Chg.drew | with_reducible refine Chg.alloc ?_ _ | with_reducible refine Chg.setCell ?_ (.inl (.inl rfl)) _))) (hb1.chg_ (fun b => b = g ∨ T k b))
      have hS1 : Shp w1 g (ty Seal) (cap * 8) := Shp.ofb (by (repeat (first | with_reducible exact hS0 | with_reducible apply Shp.drew | with_reducible refine Shp.alloc ?_ _ | with_reducible refine Shp.set ?_ _ _))) hb1
      have hr0_1 := Row.later (show Row true _ eA0 ek0 x.sig.open_ eS0 from by (repeat (first | with_reducible exact er0 | with_reducible apply Row.drewC | with_reducible refine Row.allocC ?_ _ | with_reducible refine Row.setC ?_ ?_ _ | exact (fun h => hgT (es0 _ h))))) hb1
      have hr1_1 := Row.later (show Row true _ eA1 ek1 x.sig.shut eS1 from by (repeat (first | with_reducible exact er1 | with_reducible apply Row.drewC | with_reducible refine Row.allocC ?_ _ | with_reducible refine Row.setC ?_ ?_ _ | exact (fun h => hgT (es1 _ h))))) hb1
      have hr2_1 := Row.later (show Row true _ eA2 ek2 x.sig.sides eS2 from by (repeat (first | with_reducible exact er2 | with_reducible apply Row.drewC | with_reducible refine Row.allocC ?_ _ | with_reducible refine Row.setC ?_ ?_ _ | exact (fun h => hgT (es2 _ h))))) hb1
      have hc1 := fun o => hb1.cell (p := ⟨g, o, none⟩) (Shp.lt (show Shp _ g (ty Seal) (cap * 8) from by (repeat (first | with_reducible exact hS0 | with_reducible apply Shp.drew | with_reducible refine Shp.alloc ?_ _ | with_reducible refine Shp.set ?_ _ _))))
      have hf1 := fun o => hS1.frozen o
      go_wp2_with (fail)
      refine (mark_Text _ (K + 1 + 1 + 1) (by first | rfl | omega | (simp; done)) (by omega) _).mono ?_
      rintro e2 w2 ⟨rfl, hb2⟩
      have hC2 : Chg (fun b => b = g ∨ T k b) wr w2 := Chg.trans (b := _) (by (repeat (first | with_reducible exact hC1 | with_reducible apply Chg.drew | with_reducible refine Chg.alloc ?_ _ | with_reducible refine Chg.setCell ?_ (.inl (.inl rfl)) _))) (hb2.chg_ (fun b => b = g ∨ T k b))
      have hS2 : Shp w2 g (ty Seal) (cap * 8) := Shp.ofb (by (repeat (first | with_reducible exact hS1 | with_reducible apply Shp.drew | with_reducible refine Shp.alloc ?_ _ | with_reducible refine Shp.set ?_ _ _))) hb2
      have hr0_2 := Row.later (show Row true _ eA0 ek0 x.sig.open_ eS0 from by (repeat (first | with_reducible exact hr0_1 | with_reducible apply Row.drewC | with_reducible refine Row.allocC ?_ _ | with_reducible refine Row.setC ?_ ?_ _ | exact (fun h => hgT (es0 _ h))))) hb2
      have hr1_2 := Row.later (show Row true _ eA1 ek1 x.sig.shut eS1 from by (repeat (first | with_reducible exact hr1_1 | with_reducible apply Row.drewC | with_reducible refine Row.allocC ?_ _ | with_reducible refine Row.setC ?_ ?_ _ | exact (fun h => hgT (es1 _ h))))) hb2
      have hr2_2 := Row.later (show Row true _ eA2 ek2 x.sig.sides eS2 from by (repeat (first | with_reducible exact hr2_1 | with_reducible apply Row.drewC | with_reducible refine Row.allocC ?_ _ | with_reducible refine Row.setC ?_ ?_ _ | exact (fun h => hgT (es2 _ h))))) hb2
      have hc2 := fun o => hb2.cell (p := ⟨g, o, none⟩) (Shp.lt (show Shp _ g (ty Seal) (cap * 8) from by (repeat (first | with_reducible exact hS1 | with_reducible apply Shp.drew | with_reducible refine Shp.alloc ?_ _ | with_reducible refine Shp.set ?_ _ _))))
      have hf2 := fun o => hS2.frozen o
      go_wp2_with (fail)
      refine (mark_StringS x.sig.open_ _ _ _ _ _ (K + 1 + 1 + 1 + 1 + 1) (by first | rfl | omega | (simp; done)) (by have := HK1.out; omega) (show Row true _ eA0 ek0 x.sig.open_ eS0 from by (repeat (first | with_reducible exact hr0_2 | with_reducible apply Row.drewC | with_reducible refine Row.allocC ?_ _ | with_reducible refine Row.setC ?_ ?_ _ | exact (fun h => hgT (es0 _ h))))) (Nat.le_trans ea0 eb0)).mono ?_
      rw [HK1.out]
      rintro e3 w3 ⟨rfl, hr0_3, hb3⟩
      have hC3 : Chg (fun b => b = g ∨ T k b) wr w3 := Chg.trans (b := _) (by (repeat (first | with_reducible exact hC2 | with_reducible apply Chg.drew | with_reducible refine Chg.alloc ?_ _ | with_reducible refine Chg.setCell ?_ (.inl (.inl rfl)) _))) (hb3.mono (fun b _ h => .inr (es0 b h)))
      have hS3 : Shp w3 g (ty Seal) (cap * 8) := Shp.ofc (by (repeat (first | with_reducible exact hS2 | with_reducible apply Shp.drew | with_reducible refine Shp.alloc ?_ _ | with_reducible refine Shp.set ?_ _ _))) hb3 (fun h => hgT (es0 _ h))
      have hr1_3 := Row.chg (show Row true _ eA1 ek1 x.sig.shut eS1 from by (repeat (first | with_reducible exact hr1_2 | with_reducible apply Row.drewC | with_reducible refine Row.allocC ?_ _ | with_reducible refine Row.setC ?_ ?_ _ | exact (fun h => hgT (es1 _ h))))) hb3 (disj_symm (pwget3_0_1 epw_.out))
      have hr2_3 := Row.chg (show Row true _ eA2 ek2 x.sig.sides eS2 from by (repeat (first | with_reducible exact hr2_2 | with_reducible apply Row.drewC | with_reducible refine Row.allocC ?_ _ | with_reducible refine Row.setC ?_ ?_ _ | exact (fun h => hgT (es2 _ h))))) hb3 (disj_symm (pwget3_0_2 epw_.out))
      have hc3 := fun o => hb3.cellC (p := ⟨g, o, none⟩) (Shp.lt (show Shp _ g (ty Seal) (cap * 8) from by (repeat (first | with_reducible exact hS2 | with_reducible apply Shp.drew | with_reducible refine Shp.alloc ?_ _ | with_reducible refine Shp.set ?_ _ _)))) (fun h => hgT (es0 _ h))
      have hf3 := fun o => hS3.frozen o
      go_wp2_with (fail)
      refine (mark_StringS x.sig.shut _ _ _ _ _ (K1) (by first | rfl | omega | (simp; done)) (by have := HK2.out; omega) (show Row true _ eA1 ek1 x.sig.shut eS1 from by (repeat (first | with_reducible exact hr1_3 | with_reducible apply Row.drewC | with_reducible refine Row.allocC ?_ _ | with_reducible refine Row.setC ?_ ?_ _ | exact (fun h => hgT (es1 _ h))))) (Nat.le_trans ea1 eb1)).mono ?_
      rw [HK2.out]
      rintro e4 w4 ⟨rfl, hr1_4, hb4⟩
      have hC4 : Chg (fun b => b = g ∨ T k b) wr w4 := Chg.trans (b := _) (by (repeat (first | with_reducible exact hC3 | with_reducible apply Chg.drew | with_reducible refine Chg.alloc ?_ _ | with_reducible refine Chg.setCell ?_ (.inl (.inl rfl)) _))) (hb4.mono (fun b _ h => .inr (es1 b h)))
      have hS4 : Shp w4 g (ty Seal) (cap * 8) := Shp.ofc (by (repeat (first | with_reducible exact hS3 | with_reducible apply Shp.drew | with_reducible refine Shp.alloc ?_ _ | with_reducible refine Shp.set ?_ _ _))) hb4 (fun h => hgT (es1 _ h))
      have hr0_4 := Row.chg (show Row true _ eA0 ek0 (meL x.sig.open_ (K + 1 + 1 + 1 + 1 + 1)) eS0 from by (repeat (first | with_reducible exact hr0_3 | with_reducible apply Row.drewC | with_reducible refine Row.allocC ?_ _ | with_reducible refine Row.setC ?_ ?_ _ | exact (fun h => hgT (es0 _ h))))) hb4 (pwget3_0_1 epw_.out)
      have hr2_4 := Row.chg (show Row true _ eA2 ek2 x.sig.sides eS2 from by (repeat (first | with_reducible exact hr2_3 | with_reducible apply Row.drewC | with_reducible refine Row.allocC ?_ _ | with_reducible refine Row.setC ?_ ?_ _ | exact (fun h => hgT (es2 _ h))))) hb4 (disj_symm (pwget3_1_2 epw_.out))
      have hc4 := fun o => hb4.cellC (p := ⟨g, o, none⟩) (Shp.lt (show Shp _ g (ty Seal) (cap * 8) from by (repeat (first | with_reducible exact hS3 | with_reducible apply Shp.drew | with_reducible refine Shp.alloc ?_ _ | with_reducible refine Shp.set ?_ _ _)))) (fun h => hgT (es1 _ h))
      have hf4 := fun o => hS4.frozen o
      go_wp2_with (fail)
      refine (mark_StringS x.sig.sides _ _ _ _ _ (K2) (by first | rfl | omega | (simp; done)) (by have := HK3.out; omega) (show Row true _ eA2 ek2 x.sig.sides eS2 from by (repeat (first | with_reducible exact hr2_4 | with_reducible apply Row.drewC | with_reducible refine Row.allocC ?_ _ | with_reducible refine Row.setC ?_ ?_ _ | exact (fun h => hgT (es2 _ h))))) (Nat.le_trans ea2 eb2)).mono ?_
      rw [HK3.out]
      rintro e5 w5 ⟨rfl, hr2_5, hb5⟩
      have hC5 : Chg (fun b => b = g ∨ T k b) wr w5 := Chg.trans (b := _) (by (repeat (first | with_reducible exact hC4 | with_reducible apply Chg.drew | with_reducible refine Chg.alloc ?_ _ | with_reducible refine Chg.setCell ?_ (.inl (.inl rfl)) _))) (hb5.mono (fun b _ h => .inr (es2 b h)))
      have hS5 : Shp w5 g (ty Seal) (cap * 8) := Shp.ofc (by (repeat (first | with_reducible exact hS4 | with_reducible apply Shp.drew | with_reducible refine Shp.alloc ?_ _ | with_reducible refine Shp.set ?_ _ _))) hb5 (fun h => hgT (es2 _ h))
      have hr0_5 := Row.chg (show Row true _ eA0 ek0 (meL x.sig.open_ (K + 1 + 1 + 1 + 1 + 1)) eS0 from by (repeat (first | with_reducible exact hr0_4 | with_reducible apply Row.drewC | with_reducible refine Row.allocC ?_ _ | with_reducible refine Row.setC ?_ ?_ _ | exact (fun h => hgT (es0 _ h))))) hb5 (pwget3_0_2 epw_.out)
      have hr1_5 := Row.chg (show Row true _ eA1 ek1 (meL x.sig.shut (K1)) eS1 from by (repeat (first | with_reducible exact hr1_4 | with_reducible apply Row.drewC | with_reducible refine Row.allocC ?_ _ | with_reducible refine Row.setC ?_ ?_ _ | exact (fun h => hgT (es1 _ h))))) hb5 (pwget3_1_2 epw_.out)
      have hc5 := fun o => hb5.cellC (p := ⟨g, o, none⟩) (Shp.lt (show Shp _ g (ty Seal) (cap * 8) from by (repeat (first | with_reducible exact hS4 | with_reducible apply Shp.drew | with_reducible refine Shp.alloc ?_ _ | with_reducible refine Shp.set ?_ _ _)))) (fun h => hgT (es2 _ h))
      have hf5 := fun o => hS5.frozen o
      go_wp2
      go_roundw
      case rel =>
        refine ⟨k + 1, by omega, by go_num, by rw [hs2.out]; first | go_num | (congr 1; unfold Seal.cn; have := HK1.out; have := HK2.out; have := HK3.out; omega), ?_, ?_⟩
        · refine Chg.trans hch (Chg.mono (show Chg (fun b => b = g ∨ T k b) wr _ from by (repeat (first | with_reducible exact hC5 | with_reducible apply Chg.drew | with_reducible refine Chg.alloc ?_ _ | with_reducible refine Chg.setCell ?_ (.inl (.inl rfl)) _))) (fun b _ h => h.elim (fun e => e ▸ hg) (fun h => (HT.out k b h).1)))
        · rw [hst.out, hme.out]
          refine Row.setN (N := 8) (T := T) (w := wr) (cs := [.int .i64 (((K) : Nat) : Int), .int .i64 (((K + 1) : Nat) : Int), .string (mtext (K + 1 + 1)), .string (mtext (K + 1 + 1 + 1)), .int .i64 (((K + 1 + 1 + 1 + 1) : Nat) : Int), .slice eA0 (meL x.sig.open_ (K + 1 + 1 + 1 + 1 + 1)).length ek0, .slice eA1 (meL x.sig.shut (K1)).length ek1, .slice eA2 (meL x.sig.sides (K2)).length ek2]) rfl hg HT.out HD.out HE.out hlty (show Shp _ g (ty Seal) (cap * 8) from by (repeat (first | with_reducible exact hS5 | with_reducible apply Shp.drew | with_reducible refine Shp.alloc ?_ _ | with_reducible refine Shp.set ?_ _ _))) (fun o ho => ?_) (show Chg (fun b => b = g ∨ T k b) wr _ from by (repeat (first | with_reducible exact hC5 | with_reducible apply Chg.drew | with_reducible refine Chg.alloc ?_ _ | with_reducible refine Chg.setCell ?_ (.inl (.inl rfl)) _))) ?_ ?_
          · have n0 : o ≠ k * 8 := by intro h; apply ho; rw [h]; omega
            have n1 : o ≠ k * 8 + 1 := by intro h; apply ho; rw [h]; omega
            have n2 : o ≠ k * 8 + 2 := by intro h; apply ho; rw [h]; omega
            have n3 : o ≠ k * 8 + 3 := by intro h; apply ho; rw [h]; omega
            have n4 : o ≠ k * 8 + 4 := by intro h; apply ho; rw [h]; omega
            have n5 : o ≠ k * 8 + 5 := by intro h; apply ho; rw [h]; omega
            have n6 : o ≠ k * 8 + 6 := by intro h; apply ho; rw [h]; omega
            have n7 : o ≠ k * 8 + 7 := by intro h; apply ho; rw [h]; omega
            simp only [hc5, hc4, hc3, hc2, hc1, cell_set_ne _ _ _ o _ n0, cell_set_ne _ _ _ o _ n1, cell_set_ne _ _ _ o _ n2, cell_set_ne _ _ _ o _ n3, cell_set_ne _ _ _ o _ n4, cell_set_ne _ _ _ o _ n5, cell_set_ne _ _ _ o _ n6, cell_set_ne _ _ _ o _ n7]
          · intro j u hu
            have hj : j < 8 := (List.getElem?_eq_some_iff.1 hu).1
            rcases (by omega : j = 0 ∨ j = 1 ∨ j = 2 ∨ j = 3 ∨ j = 4 ∨ j = 5 ∨ j = 6 ∨ j = 7) with rfl | rfl | rfl | rfl | rfl | rfl | rfl | rfl
            all_goals (have hu := Option.some.inj hu; subst hu; go_simp; try simp)
          · exact Seal.mk' (m := true) (x := (⟨(⟨(((K) : Nat) : Int), (((K + 1) : Nat) : Int), mtext (K + 1 + 1), mtext (K + 1 + 1 + 1)⟩ : Head), (⟨(((K + 1 + 1 + 1 + 1) : Nat) : Int), meL x.sig.open_ (K + 1 + 1 + 1 + 1 + 1), meL x.sig.shut (K1), meL x.sig.sides (K2)⟩ : Sig)⟩ : Seal)) (S := T k) (I64_nat (by have := HK1.out; have := HK2.out; have := HK3.out; omega)) (I64_nat (by have := HK1.out; have := HK2.out; have := HK3.out; omega)) (mtext_size (K + 1 + 1) (by have := HK1.out; have := HK2.out; have := HK3.out; omega)) (mtext_size (K + 1 + 1 + 1) (by have := HK1.out; have := HK2.out; have := HK3.out; omega)) (I64_nat (by have := HK1.out; have := HK2.out; have := HK3.out; omega)) (by rw [meL_length]; exact ea0) eb0 (show Row true _ eA0 ek0 (meL x.sig.open_ (K + 1 + 1 + 1 + 1 + 1)) eS0 from by (repeat (first | with_reducible exact hr0_5 | with_reducible apply Row.drewC | with_reducible refine Row.allocC ?_ _ | with_reducible refine Row.setC ?_ ?_ _ | exact (fun h => hgT (es0 _ h))))) es0 (by rw [meL_length]; exact ea1) eb1 (show Row true _ eA1 ek1 (meL x.sig.shut (K1)) eS1 from by (repeat (first | with_reducible exact hr1_5 | with_reducible apply Row.drewC | with_reducible refine Row.allocC ?_ _ | with_reducible refine Row.setC ?_ ?_ _ | exact (fun h => hgT (es1 _ h))))) es1 (by rw [meL_length]; exact ea2) eb2 (show Row true _ eA2 ek2 (meL x.sig.sides (K2)) eS2 from by (repeat (first | with_reducible exact hr2_5 | with_reducible apply Row.drewC | with_reducible refine Row.allocC ?_ _ | with_reducible refine Row.setC ?_ ?_ _ | exact (fun h => hgT (es2 _ h))))) es2 (fun _ => epw_.out)
      case measure => simp [intOf]; omega
    · have hke : k = xs.length := by omega
      go_wp2
      go_ret; subst hke; refine ⟨by rw [List.take_of_length_le (Nat.le_refl _)]; rfl, by simpa using hrow, hch⟩
set_option maxRecDepth 40000 in set_option maxHeartbeats 4000000 in
theorem mark_IntS (xs : List Int) (w : World) (A : Option Addr) (cap : Nat) (S : Blks) (a : Int) (k0 : Nat) (ha : a = (k0 : Int)) (hk : k0 + cnL xs ≤ 4611686018427387904) (hx : Row true w A cap xs S) (hl : xs.length ≤ maxLen) :
    Calls Tryz.prog 82 #[.slice A xs.length cap, .int .i64 a] w fun e w' => e = .returned (.int .i64 ((k0 + cnL xs : Nat) : Int)) ∧ Row true w' A cap (meL xs k0) S ∧ Chg S w w' := by
  subst ha
  unfold maxLen at hl
  have hxx := hx
  rcases hx with ⟨rfl, rfl, rfl⟩ | ⟨g, cur_, rfl, hg, hh_, hcs_, _⟩
  · go_enter Tryz.func82, Tryz.ntmps82
    go_wp2
    go_loopw [1, 5] (fun l i wr => i = .int .i64 0 ∧ l = .int .i64 (k0 : Int) ∧ wr = w) (fun _ _ _ => 0)
    case atStart => exact ⟨rfl, rfl, rfl⟩
    case round =>
      obtain ⟨rfl, rfl, rfl⟩ := hrel
      go_wp2
      go_ret; exact ⟨rfl, .inl ⟨rfl, rfl, rfl⟩, Chg.refl _ _⟩
  have hsh0 : Shp w g (ty Int) (cap * 1) := ⟨cur_, hh_, hcs_⟩
  clear hh_ hcs_
  go_enter Tryz.func82, Tryz.ntmps82
  go_wp2
  go_loopw [1, 5] (fun l i wr => ∃ k : Nat, k ≤ xs.length ∧ i = .int .i64 k ∧ l = .int .i64 ((k0 + cnL (xs.take k) : Nat) : Int) ∧ Chg S w wr ∧ Row true wr (some ⟨g, 0, none⟩) cap (meL (xs.take k) k0 ++ xs.drop k) S) (fun _ i _ => xs.length - (intOf i).toNat)
  case atStart => exact ⟨0, Nat.zero_le _, rfl, by simp [cnL], Chg.refl _ _, by simpa [meL] using hxx⟩
  case round =>
    obtain ⟨k, hkk, rfl, rfl, hch, hrow⟩ := hrel
    clear hxx
    by_cases hlt : k < xs.length
    · have hylen : (meL (xs.take k) k0 ++ xs.drop k).length = xs.length := by simp; omega
      have hstep := meL_step xs k0 k hlt
      have hat := meL_at xs k0 k hlt (by rw [hylen]; exact hlt)
      generalize hys : meL (xs.take k) k0 ++ xs.drop k = ys at hrow hylen hat hstep
      have hlty : k < ys.length := by omega
      have hcs := cnL_take_succ xs k hlt
      have hcl := cnL_take_le xs (k + 1)
      generalize hK : k0 + cnL (xs.take k) = K at hstep
      generalize xs[k] = x at hat hcs hstep
      rw [show Mk.cn x = 1 from rfl] at hcs
      have hs2 : Hid (k0 + cnL (xs.take (k + 1)) = K + 1) := Lib.hid (by omega)
      have hKb : K + 1 ≤ 4611686018427387904 := by omega
      have hst : Hid (meL (xs.take (k + 1)) k0 ++ xs.drop (k + 1) = ys.set k (((K : Nat) : Int))) := Lib.hid hstep
      rcases hrow with ⟨h_, _⟩ | ⟨g2, cur, e_, _, hh, hcz, T, hT, hd, he⟩
      · cases h_
      cases e_
      have hsh : Shp wr g (ty Int) (cap * 1) := ⟨cur, hh, hcz⟩
      have hd := hd rfl
      have hgl := hsh.lt
      have hgT : ¬ T k g := fun h => (hT k g h).2 rfl
      obtain ⟨c1, ha1, hr1⟩ := he k hlty
      rw [hat] at hr1
      have HE := Lib.hid he; have HD := Lib.hid hd; have HT := Lib.hid hT
      clear hcs hcl hstep hat hys he hd hT hh hcz
      have hr1 : rd true wr c1 (x : Int) (T k) := hr1
      obtain ⟨rfl, _⟩ := open_int hr1
      clear hr1
      have q0 : wr.cell? ⟨g, k, none⟩ = some (.int .i64 x) := by have := ha1 0 _ rfl; simpa [show Lay.n Int = 1 from rfl] using this
      clear ha1
      have hf0 := fun o => hsh.frozen o
      have hKb0 : K + 1 ≤ 4611686018427387904 := by omega
      have hC0 : Chg (fun b => b = g ∨ T k b) wr wr := Chg.refl _ _
      have hS0 := hsh
      go_wp2
      go_roundw
      case rel =>
        refine ⟨k + 1, by omega, by go_num, by rw [hs2.out]; first | go_num | (congr 1; omega), ?_, ?_⟩
        · refine Chg.trans hch (Chg.mono (show Chg (fun b => b = g ∨ T k b) wr _ from by (repeat (first | with_reducible exact hC0 | with_reducible apply Chg.drew | with_reducible refine Chg.alloc ?_ _ | with_reducible refine Chg.setCell ?_ (.inl (.inl rfl)) _))) (fun b _ h => h.elim (fun e => e ▸ hg) (fun h => (HT.out k b h).1)))
        · rw [hst.out]
          refine Row.setN (N := 1) (T := T) (w := wr) (cs := [.int .i64 (((K) : Nat) : Int)]) rfl hg HT.out HD.out HE.out hlty (show Shp _ g (ty Int) (cap * 1) from by (repeat (first | with_reducible exact hS0 | with_reducible apply Shp.drew | with_reducible refine Shp.alloc ?_ _ | with_reducible refine Shp.set ?_ _ _))) (fun o ho => ?_) (show Chg (fun b => b = g ∨ T k b) wr _ from by (repeat (first | with_reducible exact hC0 | with_reducible apply Chg.drew | with_reducible refine Chg.alloc ?_ _ | with_reducible refine Chg.setCell ?_ (.inl (.inl rfl)) _))) ?_ ?_
          · have n0 : o ≠ k := by intro h; apply ho; rw [h]; omega
            simp only [cell_set_ne _ _ _ o _ n0]
          · intro j u hu
            have hj : j < 1 := (List.getElem?_eq_some_iff.1 hu).1
            obtain rfl : j = 0 := by omega
            all_goals (have hu := Option.some.inj hu; subst hu; go_simp; try simp)
          · exact ⟨rfl, I64_nat (by omega)⟩
      case measure => simp [intOf]; omega
    · have hke : k = xs.length := by omega
      go_wp2
      go_ret; subst hke; refine ⟨by rw [List.take_of_length_le (Nat.le_refl _)]; rfl, by simpa using hrow, hch⟩
set_option maxRecDepth 40000 in set_option maxHeartbeats 4000000 in
theorem mark_BoolS (xs : List Bool) (w : World) (A : Option Addr) (cap : Nat) (S : Blks) (a : Int) (k0 : Nat) (ha : a = (k0 : Int)) (hk : k0 + cnL xs ≤ 4611686018427387904) (hx : Row true w A cap xs S) (hl : xs.length ≤ maxLen) :
    Calls Tryz.prog 81 #[.slice A xs.length cap, .int .i64 a] w fun e w' => e = .returned (.int .i64 ((k0 + cnL xs : Nat) : Int)) ∧ Row true w' A cap (meL xs k0) S ∧ Chg S w w' := by
  subst ha
  unfold maxLen at hl
  have hxx := hx
  rcases hx with ⟨rfl, rfl, rfl⟩ | ⟨g, cur_, rfl, hg, hh_, hcs_, _⟩
  · go_enter Tryz.func81, Tryz.ntmps81
    go_wp2
    go_loopw [1, 5] (fun l i wr => i = .int .i64 0 ∧ l = .int .i64 (k0 : Int) ∧ wr = w) (fun _ _ _ => 0)
    case atStart => exact ⟨rfl, rfl, rfl⟩
    case round =>
      obtain ⟨rfl, rfl, rfl⟩ := hrel
      go_wp2
      go_ret; exact ⟨rfl, .inl ⟨rfl, rfl, rfl⟩, Chg.refl _ _⟩
  have hsh0 : Shp w g (ty Bool) (cap * 1) := ⟨cur_, hh_, hcs_⟩
  clear hh_ hcs_
  go_enter Tryz.func81, Tryz.ntmps81
  go_wp2
  go_loopw [1, 5] (fun l i wr => ∃ k : Nat, k ≤ xs.length ∧ i = .int .i64 k ∧ l = .int .i64 ((k0 + cnL (xs.take k) : Nat) : Int) ∧ Chg S w wr ∧ Row true wr (some ⟨g, 0, none⟩) cap (meL (xs.take k) k0 ++ xs.drop k) S) (fun _ i _ => xs.length - (intOf i).toNat)
  case atStart => exact ⟨0, Nat.zero_le _, rfl, by simp [cnL], Chg.refl _ _, by simpa [meL] using hxx⟩
  case round =>
    obtain ⟨k, hkk, rfl, rfl, hch, hrow⟩ := hrel
    clear hxx
    by_cases hlt : k < xs.length
    · have hylen : (meL (xs.take k) k0 ++ xs.drop k).length = xs.length := by simp; omega
      have hstep := meL_step xs k0 k hlt
      have hat := meL_at xs k0 k hlt (by rw [hylen]; exact hlt)
      generalize hys : meL (xs.take k) k0 ++ xs.drop k = ys at hrow hylen hat hstep
      have hlty : k < ys.length := by omega
      have hcs := cnL_take_succ xs k hlt
      have hcl := cnL_take_le xs (k + 1)
      generalize hK : k0 + cnL (xs.take k) = K at hstep
      generalize xs[k] = x at hat hcs hstep
      rw [show Mk.cn x = 1 from rfl] at hcs
      have hs2 : Hid (k0 + cnL (xs.take (k + 1)) = K + 1) := Lib.hid (by omega)
      have hKb : K + 1 ≤ 4611686018427387904 := by omega
      have hst : Hid (meL (xs.take (k + 1)) k0 ++ xs.drop (k + 1) = ys.set k ((((K : Nat) : Int) % 3 == 0))) := Lib.hid hstep
      rcases hrow with ⟨h_, _⟩ | ⟨g2, cur, e_, _, hh, hcz, T, hT, hd, he⟩
      · cases h_
      cases e_
      have hsh : Shp wr g (ty Bool) (cap * 1) := ⟨cur, hh, hcz⟩
      have hd := hd rfl
      have hgl := hsh.lt
      have hgT : ¬ T k g := fun h => (hT k g h).2 rfl
      obtain ⟨c1, ha1, hr1⟩ := he k hlty
      rw [hat] at hr1
      have HE := Lib.hid he; have HD := Lib.hid hd; have HT := Lib.hid hT
      clear hcs hcl hstep hat hys he hd hT hh hcz
      have hr1 : rd true wr c1 (x : Bool) (T k) := hr1
      obtain rfl := open_bool hr1
      clear hr1
      have q0 : wr.cell? ⟨g, k, none⟩ = some (.bool x) := by have := ha1 0 _ rfl; simpa [show Lay.n Bool = 1 from rfl] using this
      clear ha1
      have hf0 := fun o => hsh.frozen o
      have hKb0 : K + 1 ≤ 4611686018427387904 := by omega
      have hC0 : Chg (fun b => b = g ∨ T k b) wr wr := Chg.refl _ _
      have hS0 := hsh
      go_wp2
      go_roundw
      case rel =>
        refine ⟨k + 1, by omega, by go_num, by rw [hs2.out]; first | go_num | (congr 1; omega), ?_, ?_⟩
        · refine Chg.trans hch (Chg.mono (show Chg (fun b => b = g ∨ T k b) wr _ from by (repeat (first | with_reducible exact hC0 | with_reducible apply Chg.drew | with_reducible refine Chg.alloc ?_ _ | with_reducible refine Chg.setCell ?_ (.inl (.inl rfl)) _))) (fun b _ h => h.elim (fun e => e ▸ hg) (fun h => (HT.out k b h).1)))
        · rw [hst.out]
          refine Row.setN (N := 1) (T := T) (w := wr) (cs := [.bool ((((K) : Nat) : Int) % 3 == 0)]) rfl hg HT.out HD.out HE.out hlty (show Shp _ g (ty Bool) (cap * 1) from by (repeat (first | with_reducible exact hS0 | with_reducible apply Shp.drew | with_reducible refine Shp.alloc ?_ _ | with_reducible refine Shp.set ?_ _ _))) (fun o ho => ?_) (show Chg (fun b => b = g ∨ T k b) wr _ from by (repeat (first | with_reducible exact hC0 | with_reducible apply Chg.drew | with_reducible refine Chg.alloc ?_ _ | with_reducible refine Chg.setCell ?_ (.inl (.inl rfl)) _))) ?_ ?_
          · have n0 : o ≠ k := by intro h; apply ho; rw [h]; omega
            simp only [cell_set_ne _ _ _ o _ n0]
          · intro j u hu
            have hj : j < 1 := (List.getElem?_eq_some_iff.1 hu).1
            obtain rfl : j = 0 := by omega
            all_goals (have hu := Option.some.inj hu; subst hu; go_simp; try simp)
          · exact rfl
      case measure => simp [intOf]; omega
    · have hke : k = xs.length := by omega
      go_wp2
      go_ret; subst hke; refine ⟨by rw [List.take_of_length_le (Nat.le_refl _)]; rfl, by simpa using hrow, hch⟩
set_option maxRecDepth 40000 in set_option maxHeartbeats 4000000 in
theorem mark_LeafSS (xs : List (List Leaf)) (w : World) (A : Option Addr) (cap : Nat) (S : Blks) (a : Int) (k0 : Nat) (ha : a = (k0 : Int)) (hk : k0 + cnL xs ≤ 4611686018427387904) (hx : Row true w A cap xs S) (hl : xs.length ≤ maxLen) :
    Calls Tryz.prog 191 #[.slice A xs.length cap, .int .i64 a] w fun e w' => e = .returned (.int .i64 ((k0 + cnL xs : Nat) : Int)) ∧ Row true w' A cap (meL xs k0) S ∧ Chg S w w' := by
  subst ha
  unfold maxLen at hl
  have hxx := hx
  rcases hx with ⟨rfl, rfl, rfl⟩ | ⟨g, cur_, rfl, hg, hh_, hcs_, _⟩
  · go_enter Tryz.func191, Tryz.ntmps191
    go_wp2
    go_loopw [1, 5] (fun l i wr => i = .int .i64 0 ∧ l = .int .i64 (k0 : Int) ∧ wr = w) (fun _ _ _ => 0)
    case atStart => exact ⟨rfl, rfl, rfl⟩
    case round =>
      obtain ⟨rfl, rfl, rfl⟩ := hrel
      go_wp2
      go_ret; exact ⟨rfl, .inl ⟨rfl, rfl, rfl⟩, Chg.refl _ _⟩
  have hsh0 : Shp w g (ty (List Leaf)) (cap * 1) := ⟨cur_, hh_, hcs_⟩
  clear hh_ hcs_
  go_enter Tryz.func191, Tryz.ntmps191
  go_wp2
  go_loopw [1, 5] (fun l i wr => ∃ k : Nat, k ≤ xs.length ∧ i = .int .i64 k ∧ l = .int .i64 ((k0 + cnL (xs.take k) : Nat) : Int) ∧ Chg S w wr ∧ Row true wr (some ⟨g, 0, none⟩) cap (meL (xs.take k) k0 ++ xs.drop k) S) (fun _ i _ => xs.length - (intOf i).toNat)
  case atStart => exact ⟨0, Nat.zero_le _, rfl, by simp [cnL], Chg.refl _ _, by simpa [meL] using hxx⟩
  case round =>
    obtain ⟨k, hkk, rfl, rfl, hch, hrow⟩ := hrel
    clear hxx
    by_cases hlt : k < xs.length
    · have hylen : (meL (xs.take k) k0 ++ xs.drop k).length = xs.length := by simp; omega
      have hstep := meL_step xs k0 k hlt
      have hat := meL_at xs k0 k hlt (by rw [hylen]; exact hlt)
      generalize hys : meL (xs.take k) k0 ++ xs.drop k = ys at hrow hylen hat hstep
      have hlty : k < ys.length := by omega
      have hcs := cnL_take_succ xs k hlt
      have hcl := cnL_take_le xs (k + 1)
      generalize hK : k0 + cnL (xs.take k) = K at hstep
      generalize xs[k] = x at hat hcs hstep
      rw [show Mk.cn x = cnL x from rfl] at hcs
      have hs2 : Hid (k0 + cnL (xs.take (k + 1)) = K + cnL x) := Lib.hid (by omega)
      have hKb : K + cnL x ≤ 4611686018427387904 := by omega
      have hst : Hid (meL (xs.take (k + 1)) k0 ++ xs.drop (k + 1) = ys.set k (meL x K)) := Lib.hid hstep
      rcases hrow with ⟨h_, _⟩ | ⟨g2, cur, e_, _, hh, hcz, T, hT, hd, he⟩
      · cases h_
      cases e_
      have hsh : Shp wr g (ty (List Leaf)) (cap * 1) := ⟨cur, hh, hcz⟩
      have hd := hd rfl
      have hgl := hsh.lt
      have hgT : ¬ T k g := fun h => (hT k g h).2 rfl
      obtain ⟨c1, ha1, hr1⟩ := he k hlty
      rw [hat] at hr1
      have HE := Lib.hid he; have HD := Lib.hid hd; have HT := Lib.hid hT
      clear hcs hcl hstep hat hys he hd hT hh hcz
      obtain ⟨eA0, ek0, rfl, ea0, eb0, er0⟩ := open_list hr1
      have es0 : sub (T k) (T k) := sub_refl _
      clear hr1
      have q0 : wr.cell? ⟨g, k, none⟩ = some (.slice eA0 x.length ek0) := by have := ha1 0 _ rfl; simpa [show Lay.n (List Leaf) = 1 from rfl] using this
      clear ha1
      have hf0 := fun o => hsh.frozen o
      obtain ⟨K1, hK1⟩ : ∃ q, K + cnL x = q := ⟨_, rfl⟩
      have HK1 := Lib.hid hK1; clear hK1
      have hKb0 : K + 0 ≤ 4611686018427387904 := by have := HK1.out; omega
      have hKb1 : K1 + 0 ≤ 4611686018427387904 := by have := HK1.out; omega
      have hC0 : Chg (fun b => b = g ∨ T k b) wr wr := Chg.refl _ _
      have hS0 := hsh
      go_wp2_with (fail)
      refine (mark_LeafS x _ _ _ _ _ (K) (by first | rfl | omega | (simp; done)) (by have := HK1.out; omega) (show Row true _ eA0 ek0 x (T k) from by (repeat (first | with_reducible exact er0 | with_reducible apply Row.drewC | with_reducible refine Row.allocC ?_ _ | with_reducible refine Row.setC ?_ ?_ _ | exact (fun h => hgT (es0 _ h))))) (Nat.le_trans ea0 eb0)).mono ?_
      rw [HK1.out]
      rintro e1 w1 ⟨rfl, hr0_1, hb1⟩
      have hC1 : Chg (fun b => b = g ∨ T k b) wr w1 := Chg.trans (b := _) (by (repeat (first | with_reducible exact hC0 | with_reducible apply Chg.drew | with_reducible refine Chg.alloc ?_ _ | with_reducible refine Chg.setCell ?_ (.inl (.inl rfl)) _))) (hb1.mono (fun b _ h => .inr (es0 b h)))
      have hS1 : Shp w1 g (ty (List Leaf)) (cap * 1) := Shp.ofc (by (repeat (first | with_reducible exact hS0 | with_reducible apply Shp.drew | with_reducible refine Shp.alloc ?_ _ | with_reducible refine Shp.set ?_ _ _))) hb1 (fun h => hgT (es0 _ h))
      have hc1 := fun o => hb1.cellC (p := ⟨g, o, none⟩) (Shp.lt (show Shp _ g (ty (List Leaf)) (cap * 1) from by (repeat (first | with_reducible exact hS0 | with_reducible apply Shp.drew | with_reducible refine Shp.alloc ?_ _ | with_reducible refine Shp.set ?_ _ _)))) (fun h => hgT (es0 _ h))
      have hf1 := fun o => hS1.frozen o
      go_wp2
      go_roundw
      case rel =>
        refine ⟨k + 1, by omega, by go_num, by rw [hs2.out]; first | go_num | (congr 1; have := HK1.out; omega), ?_, ?_⟩
        · refine Chg.trans hch (Chg.mono (show Chg (fun b => b = g ∨ T k b) wr _ from by (repeat (first | with_reducible exact hC1 | with_reducible apply Chg.drew | with_reducible refine Chg.alloc ?_ _ | with_reducible refine Chg.setCell ?_ (.inl (.inl rfl)) _))) (fun b _ h => h.elim (fun e => e ▸ hg) (fun h => (HT.out k b h).1)))
        · rw [hst.out]
          refine Row.setN (N := 1) (T := T) (w := wr) (cs := [.slice eA0 (meL x (K)).length ek0]) rfl hg HT.out HD.out HE.out hlty (show Shp _ g (ty (List Leaf)) (cap * 1) from by (repeat (first | with_reducible exact hS1 | with_reducible apply Shp.drew | with_reducible refine Shp.alloc ?_ _ | with_reducible refine Shp.set ?_ _ _))) (fun o ho => ?_) (show Chg (fun b => b = g ∨ T k b) wr _ from by (repeat (first | with_reducible exact hC1 | with_reducible apply Chg.drew | with_reducible refine Chg.alloc ?_ _ | with_reducible refine Chg.setCell ?_ (.inl (.inl rfl)) _))) ?_ ?_
          · have n0 : o ≠ k := by intro h; apply ho; rw [h]; omega
            simp only [hc1, cell_set_ne _ _ _ o _ n0]
          · intro j u hu
            have hj : j < 1 := (List.getElem?_eq_some_iff.1 hu).1
            obtain rfl : j = 0 := by omega
            all_goals (have hu := Option.some.inj hu; subst hu; go_simp; try simp)
          · have hf_ := (show Row true _ eA0 ek0 (meL x K) _ from by (repeat (first | with_reducible exact hr0_1 | with_reducible apply Row.drewC | with_reducible refine Row.allocC ?_ _)))
            exact ⟨eA0, ek0, rfl, by rw [meL_length]; exact ea0, eb0, hf_⟩
      case measure => simp [intOf]; omega
    · have hke : k = xs.length := by omega
      go_wp2
      go_ret; subst hke; refine ⟨by rw [List.take_of_length_le (Nat.le_refl _)]; rfl, by simpa using hrow, hch⟩
set_option maxRecDepth 40000 in set_option maxHeartbeats 4000000 in
theorem mark_ChangeS (xs : List Change) (w : World) (A : Option Addr) (cap : Nat) (S : Blks) (a : Int) (k0 : Nat) (ha : a = (k0 : Int)) (hk : k0 + cnL xs ≤ 4611686018427387904) (hx : Row true w A cap xs S) (hl : xs.length ≤ maxLen) :
    Calls Tryz.prog 192 #[.slice A xs.length cap, .int .i64 a] w fun e w' => e = .returned (.int .i64 ((k0 + cnL xs : Nat) : Int)) ∧ Row true w' A cap (meL xs k0) S ∧ Chg S w w' := by
  subst ha
  unfold maxLen at hl
  have hxx := hx
  rcases hx with ⟨rfl, rfl, rfl⟩ | ⟨g, cur_, rfl, hg, hh_, hcs_, _⟩
  · go_enter Tryz.func192, Tryz.ntmps192
    go_wp2
    go_loopw [1, 5] (fun l i wr => i = .int .i64 0 ∧ l = .int .i64 (k0 : Int) ∧ wr = w) (fun _ _ _ => 0)
    case atStart => exact ⟨rfl, rfl, rfl⟩
    case round =>
      obtain ⟨rfl, rfl, rfl⟩ := hrel
      go_wp2
      go_ret; exact ⟨rfl, .inl ⟨rfl, rfl, rfl⟩, Chg.refl _ _⟩
  have hsh0 : Shp w g (ty Change) (cap * 3) := ⟨cur_, hh_, hcs_⟩
  clear hh_ hcs_
  go_enter Tryz.func192, Tryz.ntmps192
  go_wp2
  go_loopw [1, 5] (fun l i wr => ∃ k : Nat, k ≤ xs.length ∧ i = .int .i64 k ∧ l = .int .i64 ((k0 + cnL (xs.take k) : Nat) : Int) ∧ Chg S w wr ∧ Row true wr (some ⟨g, 0, none⟩) cap (meL (xs.take k) k0 ++ xs.drop k) S) (fun _ i _ => xs.length - (intOf i).toNat)
  case atStart => exact ⟨0, Nat.zero_le _, rfl, by simp [cnL], Chg.refl _ _, by simpa [meL] using hxx⟩
  case round =>
    obtain ⟨k, hkk, rfl, rfl, hch, hrow⟩ := hrel
    clear hxx
    by_cases hlt : k < xs.length
    · have hylen : (meL (xs.take k) k0 ++ xs.drop k).length = xs.length := by simp; omega
      have hstep := meL_step xs k0 k hlt
      have hat := meL_at xs k0 k hlt (by rw [hylen]; exact hlt)
      generalize hys : meL (xs.take k) k0 ++ xs.drop k = ys at hrow hylen hat hstep
      have hlty : k < ys.length := by omega
      have hcs := cnL_take_succ xs k hlt
      have hcl := cnL_take_le xs (k + 1)
      generalize hK : k0 + cnL (xs.take k) = K at hstep
      generalize xs[k] = x at hat hcs hstep
      rw [show Mk.cn x = Change.cn x from rfl] at hcs
      have hs2 : Hid (k0 + cnL (xs.take (k + 1)) = K + Change.cn x) := Lib.hid (by omega)
      have hKb : K + Change.cn x ≤ 4611686018427387904 := by omega
      unfold Change.cn at hKb
      have hst : Hid (meL (xs.take (k + 1)) k0 ++ xs.drop (k + 1) = ys.set k (Change.me x K)) := Lib.hid hstep
      rcases hrow with ⟨h_, _⟩ | ⟨g2, cur, e_, _, hh, hcz, T, hT, hd, he⟩
      · cases h_
      cases e_
      have hsh : Shp wr g (ty Change) (cap * 3) := ⟨cur, hh, hcz⟩
      have hd := hd rfl
      have hgl := hsh.lt
      have hgT : ¬ T k g := fun h => (hT k g h).2 rfl
      obtain ⟨c1, ha1, hr1⟩ := he k hlty
      rw [hat] at hr1
      have HE := Lib.hid he; have HD := Lib.hid hd; have HT := Lib.hid hT
      clear hcs hcl hstep hat hys he hd hT hh hcz
      obtain ⟨rfl, ef0, ef1, ef2⟩ := Change.open hr1
      have q0 : wr.cell? ⟨g, k * 3, none⟩ = some (.int .i64 x.id) := by have := ha1 0 _ rfl; simpa [show Lay.n Change = 3 from rfl] using this
      have q1 : wr.cell? ⟨g, k * 3 + 1, none⟩ = some (.string x.name) := by have := ha1 1 _ rfl; simpa [show Lay.n Change = 3 from rfl] using this
      have q2 : wr.cell? ⟨g, k * 3 + 2, none⟩ = some (.string x.value) := by have := ha1 2 _ rfl; simpa [show Lay.n Change = 3 from rfl] using this
      clear ha1
      have hf0 := fun o => hsh.frozen o
      have hme : Hid (Change.me x K = (⟨(((K) : Nat) : Int), mtext (K + 1), mtext (K + 1 + 1)⟩ : Change)) := Lib.hid (by simp only [Change.me])
      have hKb0 : K + 3 ≤ 4611686018427387904 := by omega
      have hC0 : Chg (fun b => b = g ∨ T k b) wr wr := Chg.refl _ _
      have hS0 := hsh
      go_wp2_with (fail)
      refine (mark_Text _ (K + 1) (by first | rfl | omega | (simp; done)) (by omega) _).mono ?_
      rintro e1 w1 ⟨rfl, hb1⟩
      have hC1 : Chg (fun b => b = g ∨ T k b) wr w1 := Chg.trans (b := _) (by (repeat (first | with_reducible exact hC0 | with_reducible apply Chg.drew | with_reducible refine Chg.alloc ?_ _ | with_reducible refine Chg.setCell ?_ (.inl (.inl rfl)) _))) (hb1.chg_ (fun b => b = g ∨ T k b))
      have hS1 : Shp w1 g (ty Change) (cap * 3) := Shp.ofb (by (repeat (first | with_reducible exact hS0 | with_reducible apply Shp.drew | with_reducible refine Shp.alloc ?_ _ | with_reducible refine Shp.set ?_ _ _))) hb1
      have hc1 := fun o => hb1.cell (p := ⟨g, o, none⟩) (Shp.lt (show Shp _ g (ty Change) (cap * 3) from by (repeat (first | with_reducible exact hS0 | with_reducible apply Shp.drew | with_reducible refine Shp.alloc ?_ _ | with_reducible refine Shp.set ?_ _ _))))
      have hf1 := fun o => hS1.frozen o
      go_wp2_with (fail)
      refine (mark_Text _ (K + 1 + 1) (by first | rfl | omega | (simp; done)) (by omega) _).mono ?_
      rintro e2 w2 ⟨rfl, hb2⟩
      have hC2 : Chg (fun b => b = g ∨ T k b) wr w2 := Chg.trans (b := _) (by (repeat (first | with_reducible exact hC1 | with_reducible apply Chg.drew | with_reducible refine Chg.alloc ?_ _ | with_reducible refine Chg.setCell ?_ (.inl (.inl rfl)) _))) (hb2.chg_ (fun b => b = g ∨ T k b))
      have hS2 : Shp w2 g (ty Change) (cap * 3) := Shp.ofb (by (repeat (first | with_reducible exact hS1 | with_reducible apply Shp.drew | with_reducible refine Shp.alloc ?_ _ | with_reducible refine Shp.set ?_ _ _))) hb2
      have hc2 := fun o => hb2.cell (p := ⟨g, o, none⟩) (Shp.lt (show Shp _ g (ty Change) (cap * 3) from by (repeat (first | with_reducible exact hS1 | with_reducible apply Shp.drew | with_reducible refine Shp.alloc ?_ _ | with_reducible refine Shp.set ?_ _ _))))
      have hf2 := fun o => hS2.frozen o
      go_wp2
      go_roundw
      case rel =>
        refine ⟨k + 1, by omega, by go_num, by rw [hs2.out]; first | go_num | (congr 1; unfold Change.cn; omega), ?_, ?_⟩
        · refine Chg.trans hch (Chg.mono (show Chg (fun b => b = g ∨ T k b) wr _ from by (repeat (first | with_reducible exact hC2 | with_reducible apply Chg.drew | with_reducible refine Chg.alloc ?_ _ | with_reducible refine Chg.setCell ?_ (.inl (.inl rfl)) _))) (fun b _ h => h.elim (fun e => e ▸ hg) (fun h => (HT.out k b h).1)))
        · rw [hst.out, hme.out]
          refine Row.setN (N := 3) (T := T) (w := wr) (cs := [.int .i64 (((K) : Nat) : Int), .string (mtext (K + 1)), .string (mtext (K + 1 + 1))]) rfl hg HT.out HD.out HE.out hlty (show Shp _ g (ty Change) (cap * 3) from by (repeat (first | with_reducible exact hS2 | with_reducible apply Shp.drew | with_reducible refine Shp.alloc ?_ _ | with_reducible refine Shp.set ?_ _ _))) (fun o ho => ?_) (show Chg (fun b => b = g ∨ T k b) wr _ from by (repeat (first | with_reducible exact hC2 | with_reducible apply Chg.drew | with_reducible refine Chg.alloc ?_ _ | with_reducible refine Chg.setCell ?_ (.inl (.inl rfl)) _))) ?_ ?_
          · have n0 : o ≠ k * 3 := by intro h; apply ho; rw [h]; omega
            have n1 : o ≠ k * 3 + 1 := by intro h; apply ho; rw [h]; omega
            have n2 : o ≠ k * 3 + 2 := by intro h; apply ho; rw [h]; omega
            simp only [hc2, hc1, cell_set_ne _ _ _ o _ n0, cell_set_ne _ _ _ o _ n1, cell_set_ne _ _ _ o _ n2]
          · intro j u hu
            have hj : j < 3 := (List.getElem?_eq_some_iff.1 hu).1
            rcases (by omega : j = 0 ∨ j = 1 ∨ j = 2) with rfl | rfl | rfl
            all_goals (have hu := Option.some.inj hu; subst hu; go_simp; try simp)
          · exact Change.mk' (m := true) (x := (⟨(((K) : Nat) : Int), mtext (K + 1), mtext (K + 1 + 1)⟩ : Change)) (S := T k) (I64_nat (by omega)) (mtext_size (K + 1) (by omega)) (mtext_size (K + 1 + 1) (by omega))
      case measure => simp [intOf]; omega
    · have hke : k = xs.length := by omega
      go_wp2
      go_ret; subst hke; refine ⟨by rw [List.take_of_length_le (Nat.le_refl _)]; rfl, by simpa using hrow, hch⟩
set_option maxRecDepth 40000 in set_option maxHeartbeats 4000000 in
theorem mark_ServerS (xs : List Server) (w : World) (A : Option Addr) (cap : Nat) (S : Blks) (a : Int) (k0 : Nat) (ha : a = (k0 : Int)) (hk : k0 + cnL xs ≤ 4611686018427387904) (hx : Row true w A cap xs S) (hl : xs.length ≤ maxLen) :
    Calls Tryz.prog 135 #[.slice A xs.length cap, .int .i64 a] w fun e w' => e = .returned (.int .i64 ((k0 + cnL xs : Nat) : Int)) ∧ Row true w' A cap (meL xs k0) S ∧ Chg S w w' := by
  subst ha
  unfold maxLen at hl
  have hxx := hx
  rcases hx with ⟨rfl, rfl, rfl⟩ | ⟨g, cur_, rfl, hg, hh_, hcs_, _⟩
  · go_enter Tryz.func135, Tryz.ntmps135
    go_wp2
    go_loopw [1, 5] (fun l i wr => i = .int .i64 0 ∧ l = .int .i64 (k0 : Int) ∧ wr = w) (fun _ _ _ => 0)
    case atStart => exact ⟨rfl, rfl, rfl⟩
    case round =>
      obtain ⟨rfl, rfl, rfl⟩ := hrel
      go_wp2
      go_ret; exact ⟨rfl, .inl ⟨rfl, rfl, rfl⟩, Chg.refl _ _⟩
  have hsh0 : Shp w g (ty Server) (cap * 11) := ⟨cur_, hh_, hcs_⟩
  clear hh_ hcs_
  go_enter Tryz.func135, Tryz.ntmps135
  go_wp2
  go_loopw [1, 5] (fun l i wr => ∃ k : Nat, k ≤ xs.length ∧ i = .int .i64 k ∧ l = .int .i64 ((k0 + cnL (xs.take k) : Nat) : Int) ∧ Chg S w wr ∧ Row true wr (some ⟨g, 0, none⟩) cap (meL (xs.take k) k0 ++ xs.drop k) S) (fun _ i _ => xs.length - (intOf i).toNat)
  case atStart => exact ⟨0, Nat.zero_le _, rfl, by simp [cnL], Chg.refl _ _, by simpa [meL] using hxx⟩
  case round =>
    obtain ⟨k, hkk, rfl, rfl, hch, hrow⟩ := hrel
    clear hxx
    by_cases hlt : k < xs.length
    · have hylen : (meL (xs.take k) k0 ++ xs.drop k).length = xs.length := by simp; omega
      have hstep := meL_step xs k0 k hlt
      have hat := meL_at xs k0 k hlt (by rw [hylen]; exact hlt)
      generalize hys : meL (xs.take k) k0 ++ xs.drop k = ys at hrow hylen hat hstep
      have hlty : k < ys.length := by omega
      have hcs := cnL_take_succ xs k hlt
      have hcl := cnL_take_le xs (k + 1)
      generalize hK : k0 + cnL (xs.take k) = K at hstep
      generalize xs[k] = x at hat hcs hstep
      rw [show Mk.cn x = Server.cn x from rfl] at hcs
      have hs2 : Hid (k0 + cnL (xs.take (k + 1)) = K + Server.cn x) := Lib.hid (by omega)
      have hKb : K + Server.cn x ≤ 4611686018427387904 := by omega
      unfold Server.cn at hKb
      have hst : Hid (meL (xs.take (k + 1)) k0 ++ xs.drop (k + 1) = ys.set k (Server.me x K)) := Lib.hid hstep
      rcases hrow with ⟨h_, _⟩ | ⟨g2, cur, e_, _, hh, hcz, T, hT, hd, he⟩
      · cases h_
      cases e_
      have hsh : Shp wr g (ty Server) (cap * 11) := ⟨cur, hh, hcz⟩
      have hd := hd rfl
      have hgl := hsh.lt
      have hgT : ¬ T k g := fun h => (hT k g h).2 rfl
      obtain ⟨c1, ha1, hr1⟩ := he k hlty
      rw [hat] at hr1
      have HE := Lib.hid he; have HD := Lib.hid hd; have HT := Lib.hid hT
      clear hcs hcl hstep hat hys he hd hT hh hcz
      obtain ⟨eA0, ek0, eS0, eA1, ek1, eS1, eA2, ek2, eS2, eA3, ek3, eS3, rfl, ef0, ef1, ef4, ef8, ef9, ef10, ea0, eb0, er0, es0, ea1, eb1, er1, es1, ea2, eb2, er2, es2, ea3, eb3, er3, es3, epw⟩ := Server.open hr1
      have epw_ := Lib.hid (epw rfl); clear epw
      have q0 : wr.cell? ⟨g, k * 11, none⟩ = some (.int .i64 x.at_) := by have := ha1 0 _ rfl; simpa [show Lay.n Server = 11 from rfl] using this
      have q1 : wr.cell? ⟨g, k * 11 + 1, none⟩ = some (.int .i64 x.k) := by have := ha1 1 _ rfl; simpa [show Lay.n Server = 11 from rfl] using this
      have q2 : wr.cell? ⟨g, k * 11 + 2, none⟩ = some (.bool x.up) := by have := ha1 2 _ rfl; simpa [show Lay.n Server = 11 from rfl] using this
      have q3 : wr.cell? ⟨g, k * 11 + 3, none⟩ = some (.slice eA0 x.disk.files.length ek0) := by have := ha1 3 _ rfl; simpa [show Lay.n Server = 11 from rfl] using this
      have q4 : wr.cell? ⟨g, k * 11 + 4, none⟩ = some (.int .i64 x.epoch) := by have := ha1 4 _ rfl; simpa [show Lay.n Server = 11 from rfl] using this
      have q5 : wr.cell? ⟨g, k * 11 + 5, none⟩ = some (.slice eA1 x.views.length ek1) := by have := ha1 5 _ rfl; simpa [show Lay.n Server = 11 from rfl] using this
      have q6 : wr.cell? ⟨g, k * 11 + 6, none⟩ = some (.slice eA2 x.taken.length ek2) := by have := ha1 6 _ rfl; simpa [show Lay.n Server = 11 from rfl] using this
      have q7 : wr.cell? ⟨g, k * 11 + 7, none⟩ = some (.slice eA3 x.all.length ek3) := by have := ha1 7 _ rfl; simpa [show Lay.n Server = 11 from rfl] using this
      have q8 : wr.cell? ⟨g, k * 11 + 8, none⟩ = some (.int .i64 x.ready.epoch) := by have := ha1 8 _ rfl; simpa [show Lay.n Server = 11 from rfl] using this
      have q9 : wr.cell? ⟨g, k * 11 + 9, none⟩ = some (.int .i64 x.ready.try_) := by have := ha1 9 _ rfl; simpa [show Lay.n Server = 11 from rfl] using this
      have q10 : wr.cell? ⟨g, k * 11 + 10, none⟩ = some (.int .i64 x.ready.take) := by have := ha1 10 _ rfl; simpa [show Lay.n Server = 11 from rfl] using this
      clear ha1
      have hf0 := fun o => hsh.frozen o
      obtain ⟨K1, hK1⟩ : ∃ q, K + 1 + 1 + 1 + cnL x.disk.files = q := ⟨_, rfl⟩
      have HK1 := Lib.hid hK1; clear hK1
      obtain ⟨K2, hK2⟩ : ∃ q, K1 + 1 + cnL x.views = q := ⟨_, rfl⟩
      have HK2 := Lib.hid hK2; clear hK2
      obtain ⟨K3, hK3⟩ : ∃ q, K2 + cnL x.taken = q := ⟨_, rfl⟩
      have HK3 := Lib.hid hK3; clear hK3
      obtain ⟨K4, hK4⟩ : ∃ q, K3 + cnL x.all = q := ⟨_, rfl⟩
      have HK4 := Lib.hid hK4; clear hK4
      have hme : Hid (Server.me x K = (⟨(((K) : Nat) : Int), (((K + 1) : Nat) : Int), ((((K + 1 + 1) : Nat) : Int) % 3 == 0), (⟨meL x.disk.files (K + 1 + 1 + 1)⟩ : Disk), (((K1) : Nat) : Int), meL x.views (K1 + 1), meL x.taken (K2), meL x.all (K3), (⟨(((K4) : Nat) : Int), (((K4 + 1) : Nat) : Int), (((K4 + 1 + 1) : Nat) : Int)⟩ : Ready)⟩ : Server)) := Lib.hid (by simp only [Server.me, HK1.out, HK2.out, HK3.out, HK4.out])
      have hKb0 : K + 3 ≤ 4611686018427387904 := by have := HK1.out; have := HK2.out; have := HK3.out; have := HK4.out; omega
      have hKb1 : K1 + 1 ≤ 4611686018427387904 := by have := HK1.out; have := HK2.out; have := HK3.out; have := HK4.out; omega
      have hKb2 : K2 + 0 ≤ 4611686018427387904 := by have := HK1.out; have := HK2.out; have := HK3.out; have := HK4.out; omega
      have hKb3 : K3 + 0 ≤ 4611686018427387904 := by have := HK1.out; have := HK2.out; have := HK3.out; have := HK4.out; omega
      have hKb4 : K4 + 3 ≤ 4611686018427387904 := by have := HK1.out; have := HK2.out; have := HK3.out; have := HK4.out; omega
      have hC0 : Chg (fun b => b = g ∨ T k b) wr wr := Chg.refl _ _
      have hS0 := hsh
      go_wp2_with (fail)
      refine (mark_FileS x.disk.files _ _ _ _ _ (K + 1 + 1 + 1) (by first | rfl | omega | (simp; done)) (by have := HK1.out; omega) (show Row true _ eA0 ek0 x.disk.files eS0 from by (repeat (first | with_reducible exact er0 | with_reducible apply Row.drewC | with_reducible refine Row.allocC ?_ _ | with_reducible refine Row.setC ?_ ?_ _ | exact (fun h => hgT (es0 _ h))))) (Nat.le_trans ea0 eb0)).mono ?_
      rw [HK1.out]
      rintro e1 w1 ⟨rfl, hr0_1, hb1⟩
      have hC1 : Chg (fun b => b = g ∨ T k b) wr w1 := Chg.trans (b := _) (by (repeat (first | with_reducible exact hC0 | with_reducible apply Chg.drew | with_reducible refine Chg.alloc ?_ _ | with_reducible refine Chg.setCell ?_ (.inl (.inl rfl)) _))) (hb1.mono (fun b _ h => .inr (es0 b h)))
      have hS1 : Shp w1 g (ty Server) (cap * 11) := Shp.ofc (by (repeat (first | with_reducible exact hS0 | with_reducible apply Shp.drew | with_reducible refine Shp.alloc ?_ _ | with_reducible refine Shp.set ?_ _ _))) hb1 (fun h => hgT (es0 _ h))
      have hr1_1 := Row.chg (show Row true _ eA1 ek1 x.views eS1 from by (repeat (first | with_reducible exact er1 | with_reducible apply Row.drewC | with_reducible refine Row.allocC ?_ _ | with_reducible refine Row.setC ?_ ?_ _ | exact (fun h => hgT (es1 _ h))))) hb1 (disj_symm (pwget4_0_1 epw_.out))
      have hr2_1 := Row.chg (show Row true _ eA2 ek2 x.taken eS2 from by (repeat (first | with_reducible exact er2 | with_reducible apply Row.drewC | with_reducible refine Row.allocC ?_ _ | with_reducible refine Row.setC ?_ ?_ _ | exact (fun h => hgT (es2 _ h))))) hb1 (disj_symm (pwget4_0_2 epw_.out))
      have hr3_1 := Row.chg (show Row true _ eA3 ek3 x.all eS3 from by (repeat (first | with_reducible exact er3 | with_reducible apply Row.drewC | with_reducible refine Row.allocC ?_ _ | with_reducible refine Row.setC ?_ ?_ _ | exact (fun h => hgT (es3 _ h))))) hb1 (disj_symm (pwget4_0_3 epw_.out))
      have hc1 := fun o => hb1.cellC (p := ⟨g, o, none⟩) (Shp.lt (show Shp _ g (ty Server) (cap * 11) from by (repeat (first | with_reducible exact hS0 | with_reducible apply Shp.drew | with_reducible refine Shp.alloc ?_ _ | with_reducible refine Shp.set ?_ _ _)))) (fun h => hgT (es0 _ h))
      have hf1 := fun o => hS1.frozen o
      go_wp2_with (fail)
      refine (mark_LeafSS x.views _ _ _ _ _ (K1 + 1) (by first | rfl | omega | (simp; done)) (by have := HK2.out; omega) (show Row true _ eA1 ek1 x.views eS1 from by (repeat (first | with_reducible exact hr1_1 | with_reducible apply Row.drewC | with_reducible refine Row.allocC ?_ _ | with_reducible refine Row.setC ?_ ?_ _ | exact (fun h => hgT (es1 _ h))))) (Nat.le_trans ea1 eb1)).mono ?_
      rw [HK2.out]
      rintro e2 w2 ⟨rfl, hr1_2, hb2⟩
      have hC2 : Chg (fun b => b = g ∨ T k b) wr w2 := Chg.trans (b := _) (by (repeat (first | with_reducible exact hC1 | with_reducible apply Chg.drew | with_reducible refine Chg.alloc ?_ _ | with_reducible refine Chg.setCell ?_ (.inl (.inl rfl)) _))) (hb2.mono (fun b _ h => .inr (es1 b h)))
      have hS2 : Shp w2 g (ty Server) (cap * 11) := Shp.ofc (by (repeat (first | with_reducible exact hS1 | with_reducible apply Shp.drew | with_reducible refine Shp.alloc ?_ _ | with_reducible refine Shp.set ?_ _ _))) hb2 (fun h => hgT (es1 _ h))
      have hr0_2 := Row.chg (show Row true _ eA0 ek0 (meL x.disk.files (K + 1 + 1 + 1)) eS0 from by (repeat (first | with_reducible exact hr0_1 | with_reducible apply Row.drewC | with_reducible refine Row.allocC ?_ _ | with_reducible refine Row.setC ?_ ?_ _ | exact (fun h => hgT (es0 _ h))))) hb2 (pwget4_0_1 epw_.out)
      have hr2_2 := Row.chg (show Row true _ eA2 ek2 x.taken eS2 from by (repeat (first | with_reducible exact hr2_1 | with_reducible apply Row.drewC | with_reducible refine Row.allocC ?_ _ | with_reducible refine Row.setC ?_ ?_ _ | exact (fun h => hgT (es2 _ h))))) hb2 (disj_symm (pwget4_1_2 epw_.out))
      have hr3_2 := Row.chg (show Row true _ eA3 ek3 x.all eS3 from by (repeat (first | with_reducible exact hr3_1 | with_reducible apply Row.drewC | with_reducible refine Row.allocC ?_ _ | with_reducible refine Row.setC ?_ ?_ _ | exact (fun h => hgT (es3 _ h))))) hb2 (disj_symm (pwget4_1_3 epw_.out))
      have hc2 := fun o => hb2.cellC (p := ⟨g, o, none⟩) (Shp.lt (show Shp _ g (ty Server) (cap * 11) from by (repeat (first | with_reducible exact hS1 | with_reducible apply Shp.drew | with_reducible refine Shp.alloc ?_ _ | with_reducible refine Shp.set ?_ _ _)))) (fun h => hgT (es1 _ h))
      have hf2 := fun o => hS2.frozen o
      go_wp2_with (fail)
      refine (mark_IntS x.taken _ _ _ _ _ (K2) (by first | rfl | omega | (simp; done)) (by have := HK3.out; omega) (show Row true _ eA2 ek2 x.taken eS2 from by (repeat (first | with_reducible exact hr2_2 | with_reducible apply Row.drewC | with_reducible refine Row.allocC ?_ _ | with_reducible refine Row.setC ?_ ?_ _ | exact (fun h => hgT (es2 _ h))))) (Nat.le_trans ea2 eb2)).mono ?_
      rw [HK3.out]
      rintro e3 w3 ⟨rfl, hr2_3, hb3⟩
      have hC3 : Chg (fun b => b = g ∨ T k b) wr w3 := Chg.trans (b := _) (by (repeat (first | with_reducible exact hC2 | with_reducible apply Chg.drew | with_reducible refine Chg.alloc ?_ _ | with_reducible refine Chg.setCell ?_ (.inl (.inl rfl)) _))) (hb3.mono (fun b _ h => .inr (es2 b h)))
      have hS3 : Shp w3 g (ty Server) (cap * 11) := Shp.ofc (by (repeat (first | with_reducible exact hS2 | with_reducible apply Shp.drew | with_reducible refine Shp.alloc ?_ _ | with_reducible refine Shp.set ?_ _ _))) hb3 (fun h => hgT (es2 _ h))
      have hr0_3 := Row.chg (show Row true _ eA0 ek0 (meL x.disk.files (K + 1 + 1 + 1)) eS0 from by (repeat (first | with_reducible exact hr0_2 | with_reducible apply Row.drewC | with_reducible refine Row.allocC ?_ _ | with_reducible refine Row.setC ?_ ?_ _ | exact (fun h => hgT (es0 _ h))))) hb3 (pwget4_0_2 epw_.out)
      have hr1_3 := Row.chg (show Row true _ eA1 ek1 (meL x.views (K1 + 1)) eS1 from by (repeat (first | with_reducible exact hr1_2 | with_reducible apply Row.drewC | with_reducible refine Row.allocC ?_ _ | with_reducible refine Row.setC ?_ ?_ _ | exact (fun h => hgT (es1 _ h))))) hb3 (pwget4_1_2 epw_.out)
      have hr3_3 := Row.chg (show Row true _ eA3 ek3 x.all eS3 from by (repeat (first | with_reducible exact hr3_2 | with_reducible apply Row.drewC | with_reducible refine Row.allocC ?_ _ | with_reducible refine Row.setC ?_ ?_ _ | exact (fun h => hgT (es3 _ h))))) hb3 (disj_symm (pwget4_2_3 epw_.out))
      have hc3 := fun o => hb3.cellC (p := ⟨g, o, none⟩) (Shp.lt (show Shp _ g (ty Server) (cap * 11) from by (repeat (first | with_reducible exact hS2 | with_reducible apply Shp.drew | with_reducible refine Shp.alloc ?_ _ | with_reducible refine Shp.set ?_ _ _)))) (fun h => hgT (es2 _ h))
      have hf3 := fun o => hS3.frozen o
      go_wp2_with (fail)
      refine (mark_ChangeS x.all _ _ _ _ _ (K3) (by first | rfl | omega | (simp; done)) (by have := HK4.out; omega) (show Row true _ eA3 ek3 x.all eS3 from by (repeat (first | with_reducible exact hr3_3 | with_reducible apply Row.drewC | with_reducible refine Row.allocC ?_ _ | with_reducible refine Row.setC ?_ ?_ _ | exact (fun h => hgT (es3 _ h))))) (Nat.le_trans ea3 eb3)).mono ?_
      rw [HK4.out]
      rintro e4 w4 ⟨rfl, hr3_4, hb4⟩
      have hC4 : Chg (fun b => b = g ∨ T k b) wr w4 := Chg.trans (b := _) (by (repeat (first | with_reducible exact hC3 | with_reducible apply Chg.drew | with_reducible refine Chg.alloc ?_ _ | with_reducible refine Chg.setCell ?_ (.inl (.inl rfl)) _))) (hb4.mono (fun b _ h => .inr (es3 b h)))
      have hS4 : Shp w4 g (ty Server) (cap * 11) := Shp.ofc (by (repeat (first | with_reducible exact hS3 | with_reducible apply Shp.drew | with_reducible refine Shp.alloc ?_ _ | with_reducible refine Shp.set ?_ _ _))) hb4 (fun h => hgT (es3 _ h))
      have hr0_4 := Row.chg (show Row true _ eA0 ek0 (meL x.disk.files (K + 1 + 1 + 1)) eS0 from by (repeat (first | with_reducible exact hr0_3 | with_reducible apply Row.drewC | with_reducible refine Row.allocC ?_ _ | with_reducible refine Row.setC ?_ ?_ _ | exact (fun h => hgT (es0 _ h))))) hb4 (pwget4_0_3 epw_.out)
      have hr1_4 := Row.chg (show Row true _ eA1 ek1 (meL x.views (K1 + 1)) eS1 from by (repeat (first | with_reducible exact hr1_3 | with_reducible apply Row.drewC | with_reducible refine Row.allocC ?_ _ | with_reducible refine Row.setC ?_ ?_ _ | exact (fun h => hgT (es1 _ h))))) hb4 (pwget4_1_3 epw_.out)
      have hr2_4 := Row.chg (show Row true _ eA2 ek2 (meL x.taken (K2)) eS2 from by (repeat (first | with_reducible exact hr2_3 | with_reducible apply Row.drewC | with_reducible refine Row.allocC ?_ _ | with_reducible refine Row.setC ?_ ?_ _ | exact (fun h => hgT (es2 _ h))))) hb4 (pwget4_2_3 epw_.out)
      have hc4 := fun o => hb4.cellC (p := ⟨g, o, none⟩) (Shp.lt (show Shp _ g (ty Server) (cap * 11) from by (repeat (first | with_reducible exact hS3 | with_reducible apply Shp.drew | with_reducible refine Shp.alloc ?_ _ | with_reducible refine Shp.set ?_ _ _)))) (fun h => hgT (es3 _ h))
      have hf4 := fun o => hS4.frozen o
      go_wp2
      go_roundw
      case rel =>
        refine ⟨k + 1, by omega, by go_num, by rw [hs2.out]; first | go_num | (congr 1; unfold Server.cn; have := HK1.out; have := HK2.out; have := HK3.out; have := HK4.out; omega), ?_, ?_⟩
        · refine Chg.trans hch (Chg.mono (show Chg (fun b => b = g ∨ T k b) wr _ from by (repeat (first | with_reducible exact hC4 | with_reducible apply Chg.drew | with_reducible refine Chg.alloc ?_ _ | with_reducible refine Chg.setCell ?_ (.inl (.inl rfl)) _))) (fun b _ h => h.elim (fun e => e ▸ hg) (fun h => (HT.out k b h).1)))
        · rw [hst.out, hme.out]
          refine Row.setN (N := 11) (T := T) (w := wr) (cs := [.int .i64 (((K) : Nat) : Int), .int .i64 (((K + 1) : Nat) : Int), .bool ((((K + 1 + 1) : Nat) : Int) % 3 == 0), .slice eA0 (meL x.disk.files (K + 1 + 1 + 1)).length ek0, .int .i64 (((K1) : Nat) : Int), .slice eA1 (meL x.views (K1 + 1)).length ek1, .slice eA2 (meL x.taken (K2)).length ek2, .slice eA3 (meL x.all (K3)).length ek3, .int .i64 (((K4) : Nat) : Int), .int .i64 (((K4 + 1) : Nat) : Int), .int .i64 (((K4 + 1 + 1) : Nat) : Int)]) rfl hg HT.out HD.out HE.out hlty (show Shp _ g (ty Server) (cap * 11) from by (repeat (first | with_reducible exact hS4 | with_reducible apply Shp.drew | with_reducible refine Shp.alloc ?_ _ | with_reducible refine Shp.set ?_ _ _))) (fun o ho => ?_) (show Chg (fun b => b = g ∨ T k b) wr _ from by (repeat (first | with_reducible exact hC4 | with_reducible apply Chg.drew | with_reducible refine Chg.alloc ?_ _ | with_reducible refine Chg.setCell ?_ (.inl (.inl rfl)) _))) ?_ ?_
          · have n0 : o ≠ k * 11 := by intro h; apply ho; rw [h]; omega
            have n1 : o ≠ k * 11 + 1 := by intro h; apply ho; rw [h]; omega
            have n2 : o ≠ k * 11 + 2 := by intro h; apply ho; rw [h]; omega
            have n3 : o ≠ k * 11 + 3 := by intro h; apply ho; rw [h]; omega
            have n4 : o ≠ k * 11 + 4 := by intro h; apply ho; rw [h]; omega
            have n5 : o ≠ k * 11 + 5 := by intro h; apply ho; rw [h]; omega
            have n6 : o ≠ k * 11 + 6 := by intro h; apply ho; rw [h]; omega
            have n7 : o ≠ k * 11 + 7 := by intro h; apply ho; rw [h]; omega
            have n8 : o ≠ k * 11 + 8 := by intro h; apply ho; rw [h]; omega
            have n9 : o ≠ k * 11 + 9 := by intro h; apply ho; rw [h]; omega
            have n10 : o ≠ k * 11 + 10 := by intro h; apply ho; rw [h]; omega
            simp only [hc4, hc3, hc2, hc1, cell_set_ne _ _ _ o _ n0, cell_set_ne _ _ _ o _ n1, cell_set_ne _ _ _ o _ n2, cell_set_ne _ _ _ o _ n3, cell_set_ne _ _ _ o _ n4, cell_set_ne _ _ _ o _ n5, cell_set_ne _ _ _ o _ n6, cell_set_ne _ _ _ o _ n7, cell_set_ne _ _ _ o _ n8, cell_set_ne _ _ _ o _ n9, cell_set_ne _ _ _ o _ n10]
          · intro j u hu
            have hj : j < 11 := (List.getElem?_eq_some_iff.1 hu).1
            rcases (by omega : j = 0 ∨ j = 1 ∨ j = 2 ∨ j = 3 ∨ j = 4 ∨ j = 5 ∨ j = 6 ∨ j = 7 ∨ j = 8 ∨ j = 9 ∨ j = 10) with rfl | rfl | rfl | rfl | rfl | rfl | rfl | rfl | rfl | rfl | rfl
            all_goals (have hu := Option.some.inj hu; subst hu; go_simp; try simp)
          · exact Server.mk' (m := true) (x := (⟨(((K) : Nat) : Int), (((K + 1) : Nat) : Int), ((((K + 1 + 1) : Nat) : Int) % 3 == 0), (⟨meL x.disk.files (K + 1 + 1 + 1)⟩ : Disk), (((K1) : Nat) : Int), meL x.views (K1 + 1), meL x.taken (K2), meL x.all (K3), (⟨(((K4) : Nat) : Int), (((K4 + 1) : Nat) : Int), (((K4 + 1 + 1) : Nat) : Int)⟩ : Ready)⟩ : Server)) (S := T k) (I64_nat (by have := HK1.out; have := HK2.out; have := HK3.out; have := HK4.out; omega)) (I64_nat (by have := HK1.out; have := HK2.out; have := HK3.out; have := HK4.out; omega)) (by rw [meL_length]; exact ea0) eb0 (show Row true _ eA0 ek0 (meL x.disk.files (K + 1 + 1 + 1)) eS0 from by (repeat (first | with_reducible exact hr0_4 | with_reducible apply Row.drewC | with_reducible refine Row.allocC ?_ _ | with_reducible refine Row.setC ?_ ?_ _ | exact (fun h => hgT (es0 _ h))))) es0 (I64_nat (by have := HK1.out; have := HK2.out; have := HK3.out; have := HK4.out; omega)) (by rw [meL_length]; exact ea1) eb1 (show Row true _ eA1 ek1 (meL x.views (K1 + 1)) eS1 from by (repeat (first | with_reducible exact hr1_4 | with_reducible apply Row.drewC | with_reducible refine Row.allocC ?_ _ | with_reducible refine Row.setC ?_ ?_ _ | exact (fun h => hgT (es1 _ h))))) es1 (by rw [meL_length]; exact ea2) eb2 (show Row true _ eA2 ek2 (meL x.taken (K2)) eS2 from by (repeat (first | with_reducible exact hr2_4 | with_reducible apply Row.drewC | with_reducible refine Row.allocC ?_ _ | with_reducible refine Row.setC ?_ ?_ _ | exact (fun h => hgT (es2 _ h))))) es2 (by rw [meL_length]; exact ea3) eb3 (show Row true _ eA3 ek3 (meL x.all (K3)) eS3 from by (repeat (first | with_reducible exact hr3_4 | with_reducible apply Row.drewC | with_reducible refine Row.allocC ?_ _ | with_reducible refine Row.setC ?_ ?_ _ | exact (fun h => hgT (es3 _ h))))) es3 (I64_nat (by have := HK1.out; have := HK2.out; have := HK3.out; have := HK4.out; omega)) (I64_nat (by have := HK1.out; have := HK2.out; have := HK3.out; have := HK4.out; omega)) (I64_nat (by have := HK1.out; have := HK2.out; have := HK3.out; have := HK4.out; omega)) (fun _ => epw_.out)
      case measure => simp [intOf]; omega
    · have hke : k = xs.length := by omega
      go_wp2
      go_ret; subst hke; refine ⟨by rw [List.take_of_length_le (Nat.le_refl _)]; rfl, by simpa using hrow, hch⟩
set_option maxRecDepth 40000 in set_option maxHeartbeats 4000000 in
theorem mark_HouseS (xs : List House) (w : World) (A : Option Addr) (cap : Nat) (S : Blks) (a : Int) (k0 : Nat) (ha : a = (k0 : Int)) (hk : k0 + cnL xs ≤ 4611686018427387904) (hx : Row true w A cap xs S) (hl : xs.length ≤ maxLen) :
    Calls Tryz.prog 77 #[.slice A xs.length cap, .int .i64 a] w fun e w' => e = .returned (.int .i64 ((k0 + cnL xs : Nat) : Int)) ∧ Row true w' A cap (meL xs k0) S ∧ Chg S w w' := by
  subst ha
  unfold maxLen at hl
  have hxx := hx
  rcases hx with ⟨rfl, rfl, rfl⟩ | ⟨g, cur_, rfl, hg, hh_, hcs_, _⟩
  · go_enter Tryz.func77, Tryz.ntmps77
    go_wp2
    go_loopw [1, 5] (fun l i wr => i = .int .i64 0 ∧ l = .int .i64 (k0 : Int) ∧ wr = w) (fun _ _ _ => 0)
    case atStart => exact ⟨rfl, rfl, rfl⟩
    case round =>
      obtain ⟨rfl, rfl, rfl⟩ := hrel
      go_wp2
      go_ret; exact ⟨rfl, .inl ⟨rfl, rfl, rfl⟩, Chg.refl _ _⟩
  have hsh0 : Shp w g (ty House) (cap * 14) := ⟨cur_, hh_, hcs_⟩
  clear hh_ hcs_
  go_enter Tryz.func77, Tryz.ntmps77
  go_wp2
  go_loopw [1, 5] (fun l i wr => ∃ k : Nat, k ≤ xs.length ∧ i = .int .i64 k ∧ l = .int .i64 ((k0 + cnL (xs.take k) : Nat) : Int) ∧ Chg S w wr ∧ Row true wr (some ⟨g, 0, none⟩) cap (meL (xs.take k) k0 ++ xs.drop k) S) (fun _ i _ => xs.length - (intOf i).toNat)
  case atStart => exact ⟨0, Nat.zero_le _, rfl, by simp [cnL], Chg.refl _ _, by simpa [meL] using hxx⟩
  case round =>
    obtain ⟨k, hkk, rfl, rfl, hch, hrow⟩ := hrel
    clear hxx
    by_cases hlt : k < xs.length
    · have hylen : (meL (xs.take k) k0 ++ xs.drop k).length = xs.length := by simp; omega
      have hstep := meL_step xs k0 k hlt
      have hat := meL_at xs k0 k hlt (by rw [hylen]; exact hlt)
      generalize hys : meL (xs.take k) k0 ++ xs.drop k = ys at hrow hylen hat hstep
      have hlty : k < ys.length := by omega
      have hcs := cnL_take_succ xs k hlt
      have hcl := cnL_take_le xs (k + 1)
      generalize hK : k0 + cnL (xs.take k) = K at hstep
      generalize xs[k] = x at hat hcs hstep
      rw [show Mk.cn x = House.cn x from rfl] at hcs
      have hs2 : Hid (k0 + cnL (xs.take (k + 1)) = K + House.cn x) := Lib.hid (by omega)
      have hKb : K + House.cn x ≤ 4611686018427387904 := by omega
      unfold House.cn at hKb
      have hst : Hid (meL (xs.take (k + 1)) k0 ++ xs.drop (k + 1) = ys.set k (House.me x K)) := Lib.hid hstep
      rcases hrow with ⟨h_, _⟩ | ⟨g2, cur, e_, _, hh, hcz, T, hT, hd, he⟩
      · cases h_
      cases e_
      have hsh : Shp wr g (ty House) (cap * 14) := ⟨cur, hh, hcz⟩
      have hd := hd rfl
      have hgl := hsh.lt
      have hgT : ¬ T k g := fun h => (hT k g h).2 rfl
      obtain ⟨c1, ha1, hr1⟩ := he k hlty
      rw [hat] at hr1
      have HE := Lib.hid he; have HD := Lib.hid hd; have HT := Lib.hid hT
      clear hcs hcl hstep hat hys he hd hT hh hcz
      obtain ⟨eA0, ek0, eS0, eA1, ek1, eS1, eA2, ek2, eS2, eA3, ek3, eS3, eA4, ek4, eS4, eA5, ek5, eS5, eA6, ek6, eS6, eA7, ek7, eS7, eA8, ek8, eS8, rfl, ef0, ef1, ef7, ea0, eb0, er0, es0, ea1, eb1, er1, es1, ea2, eb2, er2, es2, ea3, eb3, er3, es3, ea4, eb4, er4, es4, ea5, eb5, er5, es5, ea6, eb6, er6, es6, ea7, eb7, er7, es7, ea8, eb8, er8, es8, epw⟩ := House.open hr1
      have epw_ := Lib.hid (epw rfl); clear epw
      have q0 : wr.cell? ⟨g, k * 14, none⟩ = some (.int .i64 x.coord.house) := by have := ha1 0 _ rfl; simpa [show Lay.n House = 14 from rfl] using this
      have q1 : wr.cell? ⟨g, k * 14 + 1, none⟩ = some (.int .i64 x.coord.k) := by have := ha1 1 _ rfl; simpa [show Lay.n House = 14 from rfl] using this
      have q2 : wr.cell? ⟨g, k * 14 + 2, none⟩ = some (.bool x.coord.up) := by have := ha1 2 _ rfl; simpa [show Lay.n House = 14 from rfl] using this
      have q3 : wr.cell? ⟨g, k * 14 + 3, none⟩ = some (.slice eA0 x.coord.disk.files.length ek0) := by have := ha1 3 _ rfl; simpa [show Lay.n House = 14 from rfl] using this
      have q4 : wr.cell? ⟨g, k * 14 + 4, none⟩ = some (.slice eA1 x.coord.pool.length ek1) := by have := ha1 4 _ rfl; simpa [show Lay.n House = 14 from rfl] using this
      have q5 : wr.cell? ⟨g, k * 14 + 5, none⟩ = some (.slice eA2 x.coord.seals.length ek2) := by have := ha1 5 _ rfl; simpa [show Lay.n House = 14 from rfl] using this
      have q6 : wr.cell? ⟨g, k * 14 + 6, none⟩ = some (.slice eA3 x.coord.tries.length ek3) := by have := ha1 6 _ rfl; simpa [show Lay.n House = 14 from rfl] using this
      have q7 : wr.cell? ⟨g, k * 14 + 7, none⟩ = some (.int .i64 x.coord.try_) := by have := ha1 7 _ rfl; simpa [show Lay.n House = 14 from rfl] using this
      have q8 : wr.cell? ⟨g, k * 14 + 8, none⟩ = some (.bool x.coord.asking) := by have := ha1 8 _ rfl; simpa [show Lay.n House = 14 from rfl] using this
      have q9 : wr.cell? ⟨g, k * 14 + 9, none⟩ = some (.slice eA4 x.coord.votes.length ek4) := by have := ha1 9 _ rfl; simpa [show Lay.n House = 14 from rfl] using this
      have q10 : wr.cell? ⟨g, k * 14 + 10, none⟩ = some (.slice eA5 x.coord.dones.length ek5) := by have := ha1 10 _ rfl; simpa [show Lay.n House = 14 from rfl] using this
      have q11 : wr.cell? ⟨g, k * 14 + 11, none⟩ = some (.slice eA6 x.servers.length ek6) := by have := ha1 11 _ rfl; simpa [show Lay.n House = 14 from rfl] using this
      have q12 : wr.cell? ⟨g, k * 14 + 12, none⟩ = some (.slice eA7 x.net.length ek7) := by have := ha1 12 _ rfl; simpa [show Lay.n House = 14 from rfl] using this
      have q13 : wr.cell? ⟨g, k * 14 + 13, none⟩ = some (.slice eA8 x.codes.length ek8) := by have := ha1 13 _ rfl; simpa [show Lay.n House = 14 from rfl] using this
      clear ha1
      have hf0 := fun o => hsh.frozen o
      obtain ⟨K1, hK1⟩ : ∃ q, K + 1 + 1 + 1 + cnL x.coord.disk.files = q := ⟨_, rfl⟩
      have HK1 := Lib.hid hK1; clear hK1
      obtain ⟨K2, hK2⟩ : ∃ q, K1 + cnL x.coord.pool = q := ⟨_, rfl⟩
      have HK2 := Lib.hid hK2; clear hK2
      obtain ⟨K3, hK3⟩ : ∃ q, K2 + cnL x.coord.seals = q := ⟨_, rfl⟩
      have HK3 := Lib.hid hK3; clear hK3
      obtain ⟨K4, hK4⟩ : ∃ q, K3 + cnL x.coord.tries = q := ⟨_, rfl⟩
      have HK4 := Lib.hid hK4; clear hK4
      obtain ⟨K5, hK5⟩ : ∃ q, K4 + 1 + 1 + cnL x.coord.votes = q := ⟨_, rfl⟩
      have HK5 := Lib.hid hK5; clear hK5
      obtain ⟨K6, hK6⟩ : ∃ q, K5 + cnL x.coord.dones = q := ⟨_, rfl⟩
      have HK6 := Lib.hid hK6; clear hK6
      obtain ⟨K7, hK7⟩ : ∃ q, K6 + cnL x.servers = q := ⟨_, rfl⟩
      have HK7 := Lib.hid hK7; clear hK7
      obtain ⟨K8, hK8⟩ : ∃ q, K7 + cnL x.net = q := ⟨_, rfl⟩
      have HK8 := Lib.hid hK8; clear hK8
      obtain ⟨K9, hK9⟩ : ∃ q, K8 + cnL x.codes = q := ⟨_, rfl⟩
      have HK9 := Lib.hid hK9; clear hK9
      have hme : Hid (House.me x K = (⟨(⟨(((K) : Nat) : Int), (((K + 1) : Nat) : Int), ((((K + 1 + 1) : Nat) : Int) % 3 == 0), (⟨meL x.coord.disk.files (K + 1 + 1 + 1)⟩ : Disk), meL x.coord.pool (K1), meL x.coord.seals (K2), meL x.coord.tries (K3), (((K4) : Nat) : Int), ((((K4 + 1) : Nat) : Int) % 3 == 0), meL x.coord.votes (K4 + 1 + 1), meL x.coord.dones (K5)⟩ : Coord), meL x.servers (K6), meL x.net (K7), meL x.codes (K8)⟩ : House)) := Lib.hid (by simp only [House.me, HK1.out, HK2.out, HK3.out, HK4.out, HK5.out, HK6.out, HK7.out, HK8.out, HK9.out])
      have hKb0 : K + 3 ≤ 4611686018427387904 := by have := HK1.out; have := HK2.out; have := HK3.out; have := HK4.out; have := HK5.out; have := HK6.out; have := HK7.out; have := HK8.out; have := HK9.out; omega
      have hKb1 : K1 + 0 ≤ 4611686018427387904 := by have := HK1.out; have := HK2.out; have := HK3.out; have := HK4.out; have := HK5.out; have := HK6.out; have := HK7.out; have := HK8.out; have := HK9.out; omega
      have hKb2 : K2 + 0 ≤ 4611686018427387904 := by have := HK1.out; have := HK2.out; have := HK3.out; have := HK4.out; have := HK5.out; have := HK6.out; have := HK7.out; have := HK8.out; have := HK9.out; omega
      have hKb3 : K3 + 0 ≤ 4611686018427387904 := by have := HK1.out; have := HK2.out; have := HK3.out; have := HK4.out; have := HK5.out; have := HK6.out; have := HK7.out; have := HK8.out; have := HK9.out; omega
      have hKb4 : K4 + 2 ≤ 4611686018427387904 := by have := HK1.out; have := HK2.out; have := HK3.out; have := HK4.out; have := HK5.out; have := HK6.out; have := HK7.out; have := HK8.out; have := HK9.out; omega
      have hKb5 : K5 + 0 ≤ 4611686018427387904 := by have := HK1.out; have := HK2.out; have := HK3.out; have := HK4.out; have := HK5.out; have := HK6.out; have := HK7.out; have := HK8.out; have := HK9.out; omega
      have hKb6 : K6 + 0 ≤ 4611686018427387904 := by have := HK1.out; have := HK2.out; have := HK3.out; have := HK4.out; have := HK5.out; have := HK6.out; have := HK7.out; have := HK8.out; have := HK9.out; omega
      have hKb7 : K7 + 0 ≤ 4611686018427387904 := by have := HK1.out; have := HK2.out; have := HK3.out; have := HK4.out; have := HK5.out; have := HK6.out; have := HK7.out; have := HK8.out; have := HK9.out; omega
      have hKb8 : K8 + 0 ≤ 4611686018427387904 := by have := HK1.out; have := HK2.out; have := HK3.out; have := HK4.out; have := HK5.out; have := HK6.out; have := HK7.out; have := HK8.out; have := HK9.out; omega
      have hKb9 : K9 + 0 ≤ 4611686018427387904 := by have := HK1.out; have := HK2.out; have := HK3.out; have := HK4.out; have := HK5.out; have := HK6.out; have := HK7.out; have := HK8.out; have := HK9.out; omega
      have hC0 : Chg (fun b => b = g ∨ T k b) wr wr := Chg.refl _ _
      have hS0 := hsh
      go_wp2_with (fail)
      refine (mark_FileS x.coord.disk.files _ _ _ _ _ (K + 1 + 1 + 1) (by first | rfl | omega | (simp; done)) (by have := HK1.out; omega) (show Row true _ eA0 ek0 x.coord.disk.files eS0 from by (repeat (first | with_reducible exact er0 | with_reducible apply Row.drewC | with_reducible refine Row.allocC ?_ _ | with_reducible refine Row.setC ?_ ?_ _ | exact (fun h => hgT (es0 _ h))))) (Nat.le_trans ea0 eb0)).mono ?_
      rw [HK1.out]
      rintro e1 w1 ⟨rfl, hr0_1, hb1⟩
      have hC1 : Chg (fun b => b = g ∨ T k b) wr w1 := Chg.trans (b := _) (by (repeat (first | with_reducible exact hC0 | with_reducible apply Chg.drew | with_reducible refine Chg.alloc ?_ _ | with_reducible refine Chg.setCell ?_ (.inl (.inl rfl)) _))) (hb1.mono (fun b _ h => .inr (es0 b h)))
      have hS1 : Shp w1 g (ty House) (cap * 14) := Shp.ofc (by (repeat (first | with_reducible exact hS0 | with_reducible apply Shp.drew | with_reducible refine Shp.alloc ?_ _ | with_reducible refine Shp.set ?_ _ _))) hb1 (fun h => hgT (es0 _ h))
      have hr1_1 := Row.chg (show Row true _ eA1 ek1 x.coord.pool eS1 from by (repeat (first | with_reducible exact er1 | with_reducible apply Row.drewC | with_reducible refine Row.allocC ?_ _ | with_reducible refine Row.setC ?_ ?_ _ | exact (fun h => hgT (es1 _ h))))) hb1 (disj_symm (pwget9_0_1 epw_.out))
      have hr2_1 := Row.chg (show Row true _ eA2 ek2 x.coord.seals eS2 from by (repeat (first | with_reducible exact er2 | with_reducible apply Row.drewC | with_reducible refine Row.allocC ?_ _ | with_reducible refine Row.setC ?_ ?_ _ | exact (fun h => hgT (es2 _ h))))) hb1 (disj_symm (pwget9_0_2 epw_.out))
      have hr3_1 := Row.chg (show Row true _ eA3 ek3 x.coord.tries eS3 from by (repeat (first | with_reducible exact er3 | with_reducible apply Row.drewC | with_reducible refine Row.allocC ?_ _ | with_reducible refine Row.setC ?_ ?_ _ | exact (fun h => hgT (es3 _ h))))) hb1 (disj_symm (pwget9_0_3 epw_.out))
      have hr4_1 := Row.chg (show Row true _ eA4 ek4 x.coord.votes eS4 from by (repeat (first | with_reducible exact er4 | with_reducible apply Row.drewC | with_reducible refine Row.allocC ?_ _ | with_reducible refine Row.setC ?_ ?_ _ | exact (fun h => hgT (es4 _ h))))) hb1 (disj_symm (pwget9_0_4 epw_.out))
      have hr5_1 := Row.chg (show Row true _ eA5 ek5 x.coord.dones eS5 from by (repeat (first | with_reducible exact er5 | with_reducible apply Row.drewC | with_reducible refine Row.allocC ?_ _ | with_reducible refine Row.setC ?_ ?_ _ | exact (fun h => hgT (es5 _ h))))) hb1 (disj_symm (pwget9_0_5 epw_.out))
      have hr6_1 := Row.chg (show Row true _ eA6 ek6 x.servers eS6 from by (repeat (first | with_reducible exact er6 | with_reducible apply Row.drewC | with_reducible refine Row.allocC ?_ _ | with_reducible refine Row.setC ?_ ?_ _ | exact (fun h => hgT (es6 _ h))))) hb1 (disj_symm (pwget9_0_6 epw_.out))
      have hr7_1 := Row.chg (show Row true _ eA7 ek7 x.net eS7 from by (repeat (first | with_reducible exact er7 | with_reducible apply Row.drewC | with_reducible refine Row.allocC ?_ _ | with_reducible refine Row.setC ?_ ?_ _ | exact (fun h => hgT (es7 _ h))))) hb1 (disj_symm (pwget9_0_7 epw_.out))
      have hr8_1 := Row.chg (show Row true _ eA8 ek8 x.codes eS8 from by (repeat (first | with_reducible exact er8 | with_reducible apply Row.drewC | with_reducible refine Row.allocC ?_ _ | with_reducible refine Row.setC ?_ ?_ _ | exact (fun h => hgT (es8 _ h))))) hb1 (disj_symm (pwget9_0_8 epw_.out))
      have hc1 := fun o => hb1.cellC (p := ⟨g, o, none⟩) (Shp.lt (show Shp _ g (ty House) (cap * 14) from by (repeat (first | with_reducible exact hS0 | with_reducible apply Shp.drew | with_reducible refine Shp.alloc ?_ _ | with_reducible refine Shp.set ?_ _ _)))) (fun h => hgT (es0 _ h))
      have hf1 := fun o => hS1.frozen o
      go_wp2_with (fail)
      refine (mark_StringS x.coord.pool _ _ _ _ _ (K1) (by first | rfl | omega | (simp; done)) (by have := HK2.out; omega) (show Row true _ eA1 ek1 x.coord.pool eS1 from by (repeat (first | with_reducible exact hr1_1 | with_reducible apply Row.drewC | with_reducible refine Row.allocC ?_ _ | with_reducible refine Row.setC ?_ ?_ _ | exact (fun h => hgT (es1 _ h))))) (Nat.le_trans ea1 eb1)).mono ?_
      rw [HK2.out]
      rintro e2 w2 ⟨rfl, hr1_2, hb2⟩
      have hC2 : Chg (fun b => b = g ∨ T k b) wr w2 := Chg.trans (b := _) (by (repeat (first | with_reducible exact hC1 | with_reducible apply Chg.drew | with_reducible refine Chg.alloc ?_ _ | with_reducible refine Chg.setCell ?_ (.inl (.inl rfl)) _))) (hb2.mono (fun b _ h => .inr (es1 b h)))
      have hS2 : Shp w2 g (ty House) (cap * 14) := Shp.ofc (by (repeat (first | with_reducible exact hS1 | with_reducible apply Shp.drew | with_reducible refine Shp.alloc ?_ _ | with_reducible refine Shp.set ?_ _ _))) hb2 (fun h => hgT (es1 _ h))
      have hr0_2 := Row.chg (show Row true _ eA0 ek0 (meL x.coord.disk.files (K + 1 + 1 + 1)) eS0 from by (repeat (first | with_reducible exact hr0_1 | with_reducible apply Row.drewC | with_reducible refine Row.allocC ?_ _ | with_reducible refine Row.setC ?_ ?_ _ | exact (fun h => hgT (es0 _ h))))) hb2 (pwget9_0_1 epw_.out)
      have hr2_2 := Row.chg (show Row true _ eA2 ek2 x.coord.seals eS2 from by (repeat (first | with_reducible exact hr2_1 | with_reducible apply Row.drewC | with_reducible refine Row.allocC ?_ _ | with_reducible refine Row.setC ?_ ?_ _ | exact (fun h => hgT (es2 _ h))))) hb2 (disj_symm (pwget9_1_2 epw_.out))
      have hr3_2 := Row.chg (show Row true _ eA3 ek3 x.coord.tries eS3 from by (repeat (first | with_reducible exact hr3_1 | with_reducible apply Row.drewC | with_reducible refine Row.allocC ?_ _ | with_reducible refine Row.setC ?_ ?_ _ | exact (fun h => hgT (es3 _ h))))) hb2 (disj_symm (pwget9_1_3 epw_.out))
      have hr4_2 := Row.chg (show Row true _ eA4 ek4 x.coord.votes eS4 from by (repeat (first | with_reducible exact hr4_1 | with_reducible apply Row.drewC | with_reducible refine Row.allocC ?_ _ | with_reducible refine Row.setC ?_ ?_ _ | exact (fun h => hgT (es4 _ h))))) hb2 (disj_symm (pwget9_1_4 epw_.out))
      have hr5_2 := Row.chg (show Row true _ eA5 ek5 x.coord.dones eS5 from by (repeat (first | with_reducible exact hr5_1 | with_reducible apply Row.drewC | with_reducible refine Row.allocC ?_ _ | with_reducible refine Row.setC ?_ ?_ _ | exact (fun h => hgT (es5 _ h))))) hb2 (disj_symm (pwget9_1_5 epw_.out))
      have hr6_2 := Row.chg (show Row true _ eA6 ek6 x.servers eS6 from by (repeat (first | with_reducible exact hr6_1 | with_reducible apply Row.drewC | with_reducible refine Row.allocC ?_ _ | with_reducible refine Row.setC ?_ ?_ _ | exact (fun h => hgT (es6 _ h))))) hb2 (disj_symm (pwget9_1_6 epw_.out))
      have hr7_2 := Row.chg (show Row true _ eA7 ek7 x.net eS7 from by (repeat (first | with_reducible exact hr7_1 | with_reducible apply Row.drewC | with_reducible refine Row.allocC ?_ _ | with_reducible refine Row.setC ?_ ?_ _ | exact (fun h => hgT (es7 _ h))))) hb2 (disj_symm (pwget9_1_7 epw_.out))
      have hr8_2 := Row.chg (show Row true _ eA8 ek8 x.codes eS8 from by (repeat (first | with_reducible exact hr8_1 | with_reducible apply Row.drewC | with_reducible refine Row.allocC ?_ _ | with_reducible refine Row.setC ?_ ?_ _ | exact (fun h => hgT (es8 _ h))))) hb2 (disj_symm (pwget9_1_8 epw_.out))
      have hc2 := fun o => hb2.cellC (p := ⟨g, o, none⟩) (Shp.lt (show Shp _ g (ty House) (cap * 14) from by (repeat (first | with_reducible exact hS1 | with_reducible apply Shp.drew | with_reducible refine Shp.alloc ?_ _ | with_reducible refine Shp.set ?_ _ _)))) (fun h => hgT (es1 _ h))
      have hf2 := fun o => hS2.frozen o
      go_wp2_with (fail)
      refine (mark_SealS x.coord.seals _ _ _ _ _ (K2) (by first | rfl | omega | (simp; done)) (by have := HK3.out; omega) (show Row true _ eA2 ek2 x.coord.seals eS2 from by (repeat (first | with_reducible exact hr2_2 | with_reducible apply Row.drewC | with_reducible refine Row.allocC ?_ _ | with_reducible refine Row.setC ?_ ?_ _ | exact (fun h => hgT (es2 _ h))))) (Nat.le_trans ea2 eb2)).mono ?_
      rw [HK3.out]
      rintro e3 w3 ⟨rfl, hr2_3, hb3⟩
      have hC3 : Chg (fun b => b = g ∨ T k b) wr w3 := Chg.trans (b := _) (by (repeat (first | with_reducible exact hC2 | with_reducible apply Chg.drew | with_reducible refine Chg.alloc ?_ _ | with_reducible refine Chg.setCell ?_ (.inl (.inl rfl)) _))) (hb3.mono (fun b _ h => .inr (es2 b h)))
      have hS3 : Shp w3 g (ty House) (cap * 14) := Shp.ofc (by (repeat (first | with_reducible exact hS2 | with_reducible apply Shp.drew | with_reducible refine Shp.alloc ?_ _ | with_reducible refine Shp.set ?_ _ _))) hb3 (fun h => hgT (es2 _ h))
      have hr0_3 := Row.chg (show Row true _ eA0 ek0 (meL x.coord.disk.files (K + 1 + 1 + 1)) eS0 from by (repeat (first | with_reducible exact hr0_2 | with_reducible apply Row.drewC | with_reducible refine Row.allocC ?_ _ | with_reducible refine Row.setC ?_ ?_ _ | exact (fun h => hgT (es0 _ h))))) hb3 (pwget9_0_2 epw_.out)
      have hr1_3 := Row.chg (show Row true _ eA1 ek1 (meL x.coord.pool (K1)) eS1 from by (repeat (first | with_reducible exact hr1_2 | with_reducible apply Row.drewC | with_reducible refine Row.allocC ?_ _ | with_reducible refine Row.setC ?_ ?_ _ | exact (fun h => hgT (es1 _ h))))) hb3 (pwget9_1_2 epw_.out)
      have hr3_3 := Row.chg (show Row true _ eA3 ek3 x.coord.tries eS3 from by (repeat (first | with_reducible exact hr3_2 | with_reducible apply Row.drewC | with_reducible refine Row.allocC ?_ _ | with_reducible refine Row.setC ?_ ?_ _ | exact (fun h => hgT (es3 _ h))))) hb3 (disj_symm (pwget9_2_3 epw_.out))
      have hr4_3 := Row.chg (show Row true _ eA4 ek4 x.coord.votes eS4 from by (repeat (first | with_reducible exact hr4_2 | with_reducible apply Row.drewC | with_reducible refine Row.allocC ?_ _ | with_reducible refine Row.setC ?_ ?_ _ | exact (fun h => hgT (es4 _ h))))) hb3 (disj_symm (pwget9_2_4 epw_.out))
      have hr5_3 := Row.chg (show Row true _ eA5 ek5 x.coord.dones eS5 from by (repeat (first | with_reducible exact hr5_2 | with_reducible apply Row.drewC | with_reducible refine Row.allocC ?_ _ | with_reducible refine Row.setC ?_ ?_ _ | exact (fun h => hgT (es5 _ h))))) hb3 (disj_symm (pwget9_2_5 epw_.out))
      have hr6_3 := Row.chg (show Row true _ eA6 ek6 x.servers eS6 from by (repeat (first | with_reducible exact hr6_2 | with_reducible apply Row.drewC | with_reducible refine Row.allocC ?_ _ | with_reducible refine Row.setC ?_ ?_ _ | exact (fun h => hgT (es6 _ h))))) hb3 (disj_symm (pwget9_2_6 epw_.out))
      have hr7_3 := Row.chg (show Row true _ eA7 ek7 x.net eS7 from by (repeat (first | with_reducible exact hr7_2 | with_reducible apply Row.drewC | with_reducible refine Row.allocC ?_ _ | with_reducible refine Row.setC ?_ ?_ _ | exact (fun h => hgT (es7 _ h))))) hb3 (disj_symm (pwget9_2_7 epw_.out))
      have hr8_3 := Row.chg (show Row true _ eA8 ek8 x.codes eS8 from by (repeat (first | with_reducible exact hr8_2 | with_reducible apply Row.drewC | with_reducible refine Row.allocC ?_ _ | with_reducible refine Row.setC ?_ ?_ _ | exact (fun h => hgT (es8 _ h))))) hb3 (disj_symm (pwget9_2_8 epw_.out))
      have hc3 := fun o => hb3.cellC (p := ⟨g, o, none⟩) (Shp.lt (show Shp _ g (ty House) (cap * 14) from by (repeat (first | with_reducible exact hS2 | with_reducible apply Shp.drew | with_reducible refine Shp.alloc ?_ _ | with_reducible refine Shp.set ?_ _ _)))) (fun h => hgT (es2 _ h))
      have hf3 := fun o => hS3.frozen o
      go_wp2_with (fail)
      refine (mark_IntS x.coord.tries _ _ _ _ _ (K3) (by first | rfl | omega | (simp; done)) (by have := HK4.out; omega) (show Row true _ eA3 ek3 x.coord.tries eS3 from by (repeat (first | with_reducible exact hr3_3 | with_reducible apply Row.drewC | with_reducible refine Row.allocC ?_ _ | with_reducible refine Row.setC ?_ ?_ _ | exact (fun h => hgT (es3 _ h))))) (Nat.le_trans ea3 eb3)).mono ?_
      rw [HK4.out]
      rintro e4 w4 ⟨rfl, hr3_4, hb4⟩
      have hC4 : Chg (fun b => b = g ∨ T k b) wr w4 := Chg.trans (b := _) (by (repeat (first | with_reducible exact hC3 | with_reducible apply Chg.drew | with_reducible refine Chg.alloc ?_ _ | with_reducible refine Chg.setCell ?_ (.inl (.inl rfl)) _))) (hb4.mono (fun b _ h => .inr (es3 b h)))
      have hS4 : Shp w4 g (ty House) (cap * 14) := Shp.ofc (by (repeat (first | with_reducible exact hS3 | with_reducible apply Shp.drew | with_reducible refine Shp.alloc ?_ _ | with_reducible refine Shp.set ?_ _ _))) hb4 (fun h => hgT (es3 _ h))
      have hr0_4 := Row.chg (show Row true _ eA0 ek0 (meL x.coord.disk.files (K + 1 + 1 + 1)) eS0 from by (repeat (first | with_reducible exact hr0_3 | with_reducible apply Row.drewC | with_reducible refine Row.allocC ?_ _ | with_reducible refine Row.setC ?_ ?_ _ | exact (fun h => hgT (es0 _ h))))) hb4 (pwget9_0_3 epw_.out)
      have hr1_4 := Row.chg (show Row true _ eA1 ek1 (meL x.coord.pool (K1)) eS1 from by (repeat (first | with_reducible exact hr1_3 | with_reducible apply Row.drewC | with_reducible refine Row.allocC ?_ _ | with_reducible refine Row.setC ?_ ?_ _ | exact (fun h => hgT (es1 _ h))))) hb4 (pwget9_1_3 epw_.out)
      have hr2_4 := Row.chg (show Row true _ eA2 ek2 (meL x.coord.seals (K2)) eS2 from by (repeat (first | with_reducible exact hr2_3 | with_reducible apply Row.drewC | with_reducible refine Row.allocC ?_ _ | with_reducible refine Row.setC ?_ ?_ _ | exact (fun h => hgT (es2 _ h))))) hb4 (pwget9_2_3 epw_.out)
      have hr4_4 := Row.chg (show Row true _ eA4 ek4 x.coord.votes eS4 from by (repeat (first | with_reducible exact hr4_3 | with_reducible apply Row.drewC | with_reducible refine Row.allocC ?_ _ | with_reducible refine Row.setC ?_ ?_ _ | exact (fun h => hgT (es4 _ h))))) hb4 (disj_symm (pwget9_3_4 epw_.out))
      have hr5_4 := Row.chg (show Row true _ eA5 ek5 x.coord.dones eS5 from by (repeat (first | with_reducible exact hr5_3 | with_reducible apply Row.drewC | with_reducible refine Row.allocC ?_ _ | with_reducible refine Row.setC ?_ ?_ _ | exact (fun h => hgT (es5 _ h))))) hb4 (disj_symm (pwget9_3_5 epw_.out))
      have hr6_4 := Row.chg (show Row true _ eA6 ek6 x.servers eS6 from by (repeat (first | with_reducible exact hr6_3 | with_reducible apply Row.drewC | with_reducible refine Row.allocC ?_ _ | with_reducible refine Row.setC ?_ ?_ _ | exact (fun h => hgT (es6 _ h))))) hb4 (disj_symm (pwget9_3_6 epw_.out))
      have hr7_4 := Row.chg (show Row true _ eA7 ek7 x.net eS7 from by (repeat (first | with_reducible exact hr7_3 | with_reducible apply Row.drewC | with_reducible refine Row.allocC ?_ _ | with_reducible refine Row.setC ?_ ?_ _ | exact (fun h => hgT (es7 _ h))))) hb4 (disj_symm (pwget9_3_7 epw_.out))
      have hr8_4 := Row.chg (show Row true _ eA8 ek8 x.codes eS8 from by (repeat (first | with_reducible exact hr8_3 | with_reducible apply Row.drewC | with_reducible refine Row.allocC ?_ _ | with_reducible refine Row.setC ?_ ?_ _ | exact (fun h => hgT (es8 _ h))))) hb4 (disj_symm (pwget9_3_8 epw_.out))
      have hc4 := fun o => hb4.cellC (p := ⟨g, o, none⟩) (Shp.lt (show Shp _ g (ty House) (cap * 14) from by (repeat (first | with_reducible exact hS3 | with_reducible apply Shp.drew | with_reducible refine Shp.alloc ?_ _ | with_reducible refine Shp.set ?_ _ _)))) (fun h => hgT (es3 _ h))
      have hf4 := fun o => hS4.frozen o
      go_wp2_with (fail)
      refine (mark_StringS x.coord.votes _ _ _ _ _ (K4 + 1 + 1) (by first | rfl | omega | (simp; done)) (by have := HK5.out; omega) (show Row true _ eA4 ek4 x.coord.votes eS4 from by (repeat (first | with_reducible exact hr4_4 | with_reducible apply Row.drewC | with_reducible refine Row.allocC ?_ _ | with_reducible refine Row.setC ?_ ?_ _ | exact (fun h => hgT (es4 _ h))))) (Nat.le_trans ea4 eb4)).mono ?_
      rw [HK5.out]
      rintro e5 w5 ⟨rfl, hr4_5, hb5⟩
      have hC5 : Chg (fun b => b = g ∨ T k b) wr w5 := Chg.trans (b := _) (by (repeat (first | with_reducible exact hC4 | with_reducible apply Chg.drew | with_reducible refine Chg.alloc ?_ _ | with_reducible refine Chg.setCell ?_ (.inl (.inl rfl)) _))) (hb5.mono (fun b _ h => .inr (es4 b h)))
      have hS5 : Shp w5 g (ty House) (cap * 14) := Shp.ofc (by (repeat (first | with_reducible exact hS4 | with_reducible apply Shp.drew | with_reducible refine Shp.alloc ?_ _ | with_reducible refine Shp.set ?_ _ _))) hb5 (fun h => hgT (es4 _ h))
      have hr0_5 := Row.chg (show Row true _ eA0 ek0 (meL x.coord.disk.files (K + 1 + 1 + 1)) eS0 from by (repeat (first | with_reducible exact hr0_4 | with_reducible apply Row.drewC | with_reducible refine Row.allocC ?_ _ | with_reducible refine Row.setC ?_ ?_ _ | exact (fun h => hgT (es0 _ h))))) hb5 (pwget9_0_4 epw_.out)
      have hr1_5 := Row.chg (show Row true _ eA1 ek1 (meL x.coord.pool (K1)) eS1 from by (repeat (first | with_reducible exact hr1_4 | with_reducible apply Row.drewC | with_reducible refine Row.allocC ?_ _ | with_reducible refine Row.setC ?_ ?_ _ | exact (fun h => hgT (es1 _ h))))) hb5 (pwget9_1_4 epw_.out)
      have hr2_5 := Row.chg (show Row true _ eA2 ek2 (meL x.coord.seals (K2)) eS2 from by (repeat (first | with_reducible exact hr2_4 | with_reducible apply Row.drewC | with_reducible refine Row.allocC ?_ _ | with_reducible refine Row.setC ?_ ?_ _ | exact (fun h => hgT (es2 _ h))))) hb5 (pwget9_2_4 epw_.out)
      have hr3_5 := Row.chg (show Row true _ eA3 ek3 (meL x.coord.tries (K3)) eS3 from by (repeat (first | with_reducible exact hr3_4 | with_reducible apply Row.drewC | with_reducible refine Row.allocC ?_ _ | with_reducible refine Row.setC ?_ ?_ _ | exact (fun h => hgT (es3 _ h))))) hb5 (pwget9_3_4 epw_.out)
      have hr5_5 := Row.chg (show Row true _ eA5 ek5 x.coord.dones eS5 from by (repeat (first | with_reducible exact hr5_4 | with_reducible apply Row.drewC | with_reducible refine Row.allocC ?_ _ | with_reducible refine Row.setC ?_ ?_ _ | exact (fun h => hgT (es5 _ h))))) hb5 (disj_symm (pwget9_4_5 epw_.out))
      have hr6_5 := Row.chg (show Row true _ eA6 ek6 x.servers eS6 from by (repeat (first | with_reducible exact hr6_4 | with_reducible apply Row.drewC | with_reducible refine Row.allocC ?_ _ | with_reducible refine Row.setC ?_ ?_ _ | exact (fun h => hgT (es6 _ h))))) hb5 (disj_symm (pwget9_4_6 epw_.out))
      have hr7_5 := Row.chg (show Row true _ eA7 ek7 x.net eS7 from by (repeat (first | with_reducible exact hr7_4 | with_reducible apply Row.drewC | with_reducible refine Row.allocC ?_ _ | with_reducible refine Row.setC ?_ ?_ _ | exact (fun h => hgT (es7 _ h))))) hb5 (disj_symm (pwget9_4_7 epw_.out))
      have hr8_5 := Row.chg (show Row true _ eA8 ek8 x.codes eS8 from by (repeat (first | with_reducible exact hr8_4 | with_reducible apply Row.drewC | with_reducible refine Row.allocC ?_ _ | with_reducible refine Row.setC ?_ ?_ _ | exact (fun h => hgT (es8 _ h))))) hb5 (disj_symm (pwget9_4_8 epw_.out))
      have hc5 := fun o => hb5.cellC (p := ⟨g, o, none⟩) (Shp.lt (show Shp _ g (ty House) (cap * 14) from by (repeat (first | with_reducible exact hS4 | with_reducible apply Shp.drew | with_reducible refine Shp.alloc ?_ _ | with_reducible refine Shp.set ?_ _ _)))) (fun h => hgT (es4 _ h))
      have hf5 := fun o => hS5.frozen o
      go_wp2_with (fail)
      refine (mark_BoolS x.coord.dones _ _ _ _ _ (K5) (by first | rfl | omega | (simp; done)) (by have := HK6.out; omega) (show Row true _ eA5 ek5 x.coord.dones eS5 from by (repeat (first | with_reducible exact hr5_5 | with_reducible apply Row.drewC | with_reducible refine Row.allocC ?_ _ | with_reducible refine Row.setC ?_ ?_ _ | exact (fun h => hgT (es5 _ h))))) (Nat.le_trans ea5 eb5)).mono ?_
      rw [HK6.out]
      rintro e6 w6 ⟨rfl, hr5_6, hb6⟩
      have hC6 : Chg (fun b => b = g ∨ T k b) wr w6 := Chg.trans (b := _) (by (repeat (first | with_reducible exact hC5 | with_reducible apply Chg.drew | with_reducible refine Chg.alloc ?_ _ | with_reducible refine Chg.setCell ?_ (.inl (.inl rfl)) _))) (hb6.mono (fun b _ h => .inr (es5 b h)))
      have hS6 : Shp w6 g (ty House) (cap * 14) := Shp.ofc (by (repeat (first | with_reducible exact hS5 | with_reducible apply Shp.drew | with_reducible refine Shp.alloc ?_ _ | with_reducible refine Shp.set ?_ _ _))) hb6 (fun h => hgT (es5 _ h))
      have hr0_6 := Row.chg (show Row true _ eA0 ek0 (meL x.coord.disk.files (K + 1 + 1 + 1)) eS0 from by (repeat (first | with_reducible exact hr0_5 | with_reducible apply Row.drewC | with_reducible refine Row.allocC ?_ _ | with_reducible refine Row.setC ?_ ?_ _ | exact (fun h => hgT (es0 _ h))))) hb6 (pwget9_0_5 epw_.out)
      have hr1_6 := Row.chg (show Row true _ eA1 ek1 (meL x.coord.pool (K1)) eS1 from by (repeat (first | with_reducible exact hr1_5 | with_reducible apply Row.drewC | with_reducible refine Row.allocC ?_ _ | with_reducible refine Row.setC ?_ ?_ _ | exact (fun h => hgT (es1 _ h))))) hb6 (pwget9_1_5 epw_.out)
      have hr2_6 := Row.chg (show Row true _ eA2 ek2 (meL x.coord.seals (K2)) eS2 from by (repeat (first | with_reducible exact hr2_5 | with_reducible apply Row.drewC | with_reducible refine Row.allocC ?_ _ | with_reducible refine Row.setC ?_ ?_ _ | exact (fun h => hgT (es2 _ h))))) hb6 (pwget9_2_5 epw_.out)
      have hr3_6 := Row.chg (show Row true _ eA3 ek3 (meL x.coord.tries (K3)) eS3 from by (repeat (first | with_reducible exact hr3_5 | with_reducible apply Row.drewC | with_reducible refine Row.allocC ?_ _ | with_reducible refine Row.setC ?_ ?_ _ | exact (fun h => hgT (es3 _ h))))) hb6 (pwget9_3_5 epw_.out)
      have hr4_6 := Row.chg (show Row true _ eA4 ek4 (meL x.coord.votes (K4 + 1 + 1)) eS4 from by (repeat (first | with_reducible exact hr4_5 | with_reducible apply Row.drewC | with_reducible refine Row.allocC ?_ _ | with_reducible refine Row.setC ?_ ?_ _ | exact (fun h => hgT (es4 _ h))))) hb6 (pwget9_4_5 epw_.out)
      have hr6_6 := Row.chg (show Row true _ eA6 ek6 x.servers eS6 from by (repeat (first | with_reducible exact hr6_5 | with_reducible apply Row.drewC | with_reducible refine Row.allocC ?_ _ | with_reducible refine Row.setC ?_ ?_ _ | exact (fun h => hgT (es6 _ h))))) hb6 (disj_symm (pwget9_5_6 epw_.out))
      have hr7_6 := Row.chg (show Row true _ eA7 ek7 x.net eS7 from by (repeat (first | with_reducible exact hr7_5 | with_reducible apply Row.drewC | with_reducible refine Row.allocC ?_ _ | with_reducible refine Row.setC ?_ ?_ _ | exact (fun h => hgT (es7 _ h))))) hb6 (disj_symm (pwget9_5_7 epw_.out))
      have hr8_6 := Row.chg (show Row true _ eA8 ek8 x.codes eS8 from by (repeat (first | with_reducible exact hr8_5 | with_reducible apply Row.drewC | with_reducible refine Row.allocC ?_ _ | with_reducible refine Row.setC ?_ ?_ _ | exact (fun h => hgT (es8 _ h))))) hb6 (disj_symm (pwget9_5_8 epw_.out))
      have hc6 := fun o => hb6.cellC (p := ⟨g, o, none⟩) (Shp.lt (show Shp _ g (ty House) (cap * 14) from by (repeat (first | with_reducible exact hS5 | with_reducible apply Shp.drew | with_reducible refine Shp.alloc ?_ _ | with_reducible refine Shp.set ?_ _ _)))) (fun h => hgT (es5 _ h))
      have hf6 := fun o => hS6.frozen o
      go_wp2_with (fail)
      refine (mark_ServerS x.servers _ _ _ _ _ (K6) (by first | rfl | omega | (simp; done)) (by have := HK7.out; omega) (show Row true _ eA6 ek6 x.servers eS6 from by (repeat (first | with_reducible exact hr6_6 | with_reducible apply Row.drewC | with_reducible refine Row.allocC ?_ _ | with_reducible refine Row.setC ?_ ?_ _ | exact (fun h => hgT (es6 _ h))))) (Nat.le_trans ea6 eb6)).mono ?_
      rw [HK7.out]
      rintro e7 w7 ⟨rfl, hr6_7, hb7⟩
      have hC7 : Chg (fun b => b = g ∨ T k b) wr w7 := Chg.trans (b := _) (by (repeat (first | with_reducible exact hC6 | with_reducible apply Chg.drew | with_reducible refine Chg.alloc ?_ _ | with_reducible refine Chg.setCell ?_ (.inl (.inl rfl)) _))) (hb7.mono (fun b _ h => .inr (es6 b h)))
      have hS7 : Shp w7 g (ty House) (cap * 14) := Shp.ofc (by (repeat (first | with_reducible exact hS6 | with_reducible apply Shp.drew | with_reducible refine Shp.alloc ?_ _ | with_reducible refine Shp.set ?_ _ _))) hb7 (fun h => hgT (es6 _ h))
      have hr0_7 := Row.chg (show Row true _ eA0 ek0 (meL x.coord.disk.files (K + 1 + 1 + 1)) eS0 from by (repeat (first | with_reducible exact hr0_6 | with_reducible apply Row.drewC | with_reducible refine Row.allocC ?_ _ | with_reducible refine Row.setC ?_ ?_ _ | exact (fun h => hgT (es0 _ h))))) hb7 (pwget9_0_6 epw_.out)
      have hr1_7 := Row.chg (show Row true _ eA1 ek1 (meL x.coord.pool (K1)) eS1 from by (repeat (first | with_reducible exact hr1_6 | with_reducible apply Row.drewC | with_reducible refine Row.allocC ?_ _ | with_reducible refine Row.setC ?_ ?_ _ | exact (fun h => hgT (es1 _ h))))) hb7 (pwget9_1_6 epw_.out)
      have hr2_7 := Row.chg (show Row true _ eA2 ek2 (meL x.coord.seals (K2)) eS2 from by (repeat (first | with_reducible exact hr2_6 | with_reducible apply Row.drewC | with_reducible refine Row.allocC ?_ _ | with_reducible refine Row.setC ?_ ?_ _ | exact (fun h => hgT (es2 _ h))))) hb7 (pwget9_2_6 epw_.out)
      have hr3_7 := Row.chg (show Row true _ eA3 ek3 (meL x.coord.tries (K3)) eS3 from by (repeat (first | with_reducible exact hr3_6 | with_reducible apply Row.drewC | with_reducible refine Row.allocC ?_ _ | with_reducible refine Row.setC ?_ ?_ _ | exact (fun h => hgT (es3 _ h))))) hb7 (pwget9_3_6 epw_.out)
      have hr4_7 := Row.chg (show Row true _ eA4 ek4 (meL x.coord.votes (K4 + 1 + 1)) eS4 from by (repeat (first | with_reducible exact hr4_6 | with_reducible apply Row.drewC | with_reducible refine Row.allocC ?_ _ | with_reducible refine Row.setC ?_ ?_ _ | exact (fun h => hgT (es4 _ h))))) hb7 (pwget9_4_6 epw_.out)
      have hr5_7 := Row.chg (show Row true _ eA5 ek5 (meL x.coord.dones (K5)) eS5 from by (repeat (first | with_reducible exact hr5_6 | with_reducible apply Row.drewC | with_reducible refine Row.allocC ?_ _ | with_reducible refine Row.setC ?_ ?_ _ | exact (fun h => hgT (es5 _ h))))) hb7 (pwget9_5_6 epw_.out)
      have hr7_7 := Row.chg (show Row true _ eA7 ek7 x.net eS7 from by (repeat (first | with_reducible exact hr7_6 | with_reducible apply Row.drewC | with_reducible refine Row.allocC ?_ _ | with_reducible refine Row.setC ?_ ?_ _ | exact (fun h => hgT (es7 _ h))))) hb7 (disj_symm (pwget9_6_7 epw_.out))
      have hr8_7 := Row.chg (show Row true _ eA8 ek8 x.codes eS8 from by (repeat (first | with_reducible exact hr8_6 | with_reducible apply Row.drewC | with_reducible refine Row.allocC ?_ _ | with_reducible refine Row.setC ?_ ?_ _ | exact (fun h => hgT (es8 _ h))))) hb7 (disj_symm (pwget9_6_8 epw_.out))
      have hc7 := fun o => hb7.cellC (p := ⟨g, o, none⟩) (Shp.lt (show Shp _ g (ty House) (cap * 14) from by (repeat (first | with_reducible exact hS6 | with_reducible apply Shp.drew | with_reducible refine Shp.alloc ?_ _ | with_reducible refine Shp.set ?_ _ _)))) (fun h => hgT (es6 _ h))
      have hf7 := fun o => hS7.frozen o
      go_wp2_with (fail)
      refine (mark_StringS x.net _ _ _ _ _ (K7) (by first | rfl | omega | (simp; done)) (by have := HK8.out; omega) (show Row true _ eA7 ek7 x.net eS7 from by (repeat (first | with_reducible exact hr7_7 | with_reducible apply Row.drewC | with_reducible refine Row.allocC ?_ _ | with_reducible refine Row.setC ?_ ?_ _ | exact (fun h => hgT (es7 _ h))))) (Nat.le_trans ea7 eb7)).mono ?_
      rw [HK8.out]
      rintro e8 w8 ⟨rfl, hr7_8, hb8⟩
      have hC8 : Chg (fun b => b = g ∨ T k b) wr w8 := Chg.trans (b := _) (by (repeat (first | with_reducible exact hC7 | with_reducible apply Chg.drew | with_reducible refine Chg.alloc ?_ _ | with_reducible refine Chg.setCell ?_ (.inl (.inl rfl)) _))) (hb8.mono (fun b _ h => .inr (es7 b h)))
      have hS8 : Shp w8 g (ty House) (cap * 14) := Shp.ofc (by (repeat (first | with_reducible exact hS7 | with_reducible apply Shp.drew | with_reducible refine Shp.alloc ?_ _ | with_reducible refine Shp.set ?_ _ _))) hb8 (fun h => hgT (es7 _ h))
      have hr0_8 := Row.chg (show Row true _ eA0 ek0 (meL x.coord.disk.files (K + 1 + 1 + 1)) eS0 from by (repeat (first | with_reducible exact hr0_7 | with_reducible apply Row.drewC | with_reducible refine Row.allocC ?_ _ | with_reducible refine Row.setC ?_ ?_ _ | exact (fun h => hgT (es0 _ h))))) hb8 (pwget9_0_7 epw_.out)
      have hr1_8 := Row.chg (show Row true _ eA1 ek1 (meL x.coord.pool (K1)) eS1 from by (repeat (first | with_reducible exact hr1_7 | with_reducible apply Row.drewC | with_reducible refine Row.allocC ?_ _ | with_reducible refine Row.setC ?_ ?_ _ | exact (fun h => hgT (es1 _ h))))) hb8 (pwget9_1_7 epw_.out)
      have hr2_8 := Row.chg (show Row true _ eA2 ek2 (meL x.coord.seals (K2)) eS2 from by (repeat (first | with_reducible exact hr2_7 | with_reducible apply Row.drewC | with_reducible refine Row.allocC ?_ _ | with_reducible refine Row.setC ?_ ?_ _ | exact (fun h => hgT (es2 _ h))))) hb8 (pwget9_2_7 epw_.out)
      have hr3_8 := Row.chg (show Row true _ eA3 ek3 (meL x.coord.tries (K3)) eS3 from by (repeat (first | with_reducible exact hr3_7 | with_reducible apply Row.drewC | with_reducible refine Row.allocC ?_ _ | with_reducible refine Row.setC ?_ ?_ _ | exact (fun h => hgT (es3 _ h))))) hb8 (pwget9_3_7 epw_.out)
      have hr4_8 := Row.chg (show Row true _ eA4 ek4 (meL x.coord.votes (K4 + 1 + 1)) eS4 from by (repeat (first | with_reducible exact hr4_7 | with_reducible apply Row.drewC | with_reducible refine Row.allocC ?_ _ | with_reducible refine Row.setC ?_ ?_ _ | exact (fun h => hgT (es4 _ h))))) hb8 (pwget9_4_7 epw_.out)
      have hr5_8 := Row.chg (show Row true _ eA5 ek5 (meL x.coord.dones (K5)) eS5 from by (repeat (first | with_reducible exact hr5_7 | with_reducible apply Row.drewC | with_reducible refine Row.allocC ?_ _ | with_reducible refine Row.setC ?_ ?_ _ | exact (fun h => hgT (es5 _ h))))) hb8 (pwget9_5_7 epw_.out)
      have hr6_8 := Row.chg (show Row true _ eA6 ek6 (meL x.servers (K6)) eS6 from by (repeat (first | with_reducible exact hr6_7 | with_reducible apply Row.drewC | with_reducible refine Row.allocC ?_ _ | with_reducible refine Row.setC ?_ ?_ _ | exact (fun h => hgT (es6 _ h))))) hb8 (pwget9_6_7 epw_.out)
      have hr8_8 := Row.chg (show Row true _ eA8 ek8 x.codes eS8 from by (repeat (first | with_reducible exact hr8_7 | with_reducible apply Row.drewC | with_reducible refine Row.allocC ?_ _ | with_reducible refine Row.setC ?_ ?_ _ | exact (fun h => hgT (es8 _ h))))) hb8 (disj_symm (pwget9_7_8 epw_.out))
      have hc8 := fun o => hb8.cellC (p := ⟨g, o, none⟩) (Shp.lt (show Shp _ g (ty House) (cap * 14) from by (repeat (first | with_reducible exact hS7 | with_reducible apply Shp.drew | with_reducible refine Shp.alloc ?_ _ | with_reducible refine Shp.set ?_ _ _)))) (fun h => hgT (es7 _ h))
      have hf8 := fun o => hS8.frozen o
      go_wp2_with (fail)
      refine (mark_IntS x.codes _ _ _ _ _ (K8) (by first | rfl | omega | (simp; done)) (by have := HK9.out; omega) (show Row true _ eA8 ek8 x.codes eS8 from by (repeat (first | with_reducible exact hr8_8 | with_reducible apply Row.drewC | with_reducible refine Row.allocC ?_ _ | with_reducible refine Row.setC ?_ ?_ _ | exact (fun h => hgT (es8 _ h))))) (Nat.le_trans ea8 eb8)).mono ?_
      rw [HK9.out]
      rintro e9 w9 ⟨rfl, hr8_9, hb9⟩
      have hC9 : Chg (fun b => b = g ∨ T k b) wr w9 := Chg.trans (b := _) (by (repeat (first | with_reducible exact hC8 | with_reducible apply Chg.drew | with_reducible refine Chg.alloc ?_ _ | with_reducible refine Chg.setCell ?_ (.inl (.inl rfl)) _))) (hb9.mono (fun b _ h => .inr (es8 b h)))
      have hS9 : Shp w9 g (ty House) (cap * 14) := Shp.ofc (by (repeat (first | with_reducible exact hS8 | with_reducible apply Shp.drew | with_reducible refine Shp.alloc ?_ _ | with_reducible refine Shp.set ?_ _ _))) hb9 (fun h => hgT (es8 _ h))
      have hr0_9 := Row.chg (show Row true _ eA0 ek0 (meL x.coord.disk.files (K + 1 + 1 + 1)) eS0 from by (repeat (first | with_reducible exact hr0_8 | with_reducible apply Row.drewC | with_reducible refine Row.allocC ?_ _ | with_reducible refine Row.setC ?_ ?_ _ | exact (fun h => hgT (es0 _ h))))) hb9 (pwget9_0_8 epw_.out)
      have hr1_9 := Row.chg (show Row true _ eA1 ek1 (meL x.coord.pool (K1)) eS1 from by (repeat (first | with_reducible exact hr1_8 | with_reducible apply Row.drewC | with_reducible refine Row.allocC ?_ _ | with_reducible refine Row.setC ?_ ?_ _ | exact (fun h => hgT (es1 _ h))))) hb9 (pwget9_1_8 epw_.out)
      have hr2_9 := Row.chg (show Row true _ eA2 ek2 (meL x.coord.seals (K2)) eS2 from by (repeat (first | with_reducible exact hr2_8 | with_reducible apply Row.drewC | with_reducible refine Row.allocC ?_ _ | with_reducible refine Row.setC ?_ ?_ _ | exact (fun h => hgT (es2 _ h))))) hb9 (pwget9_2_8 epw_.out)
      have hr3_9 := Row.chg (show Row true _ eA3 ek3 (meL x.coord.tries (K3)) eS3 from by (repeat (first | with_reducible exact hr3_8 | with_reducible apply Row.drewC | with_reducible refine Row.allocC ?_ _ | with_reducible refine Row.setC ?_ ?_ _ | exact (fun h => hgT (es3 _ h))))) hb9 (pwget9_3_8 epw_.out)
      have hr4_9 := Row.chg (show Row true _ eA4 ek4 (meL x.coord.votes (K4 + 1 + 1)) eS4 from by (repeat (first | with_reducible exact hr4_8 | with_reducible apply Row.drewC | with_reducible refine Row.allocC ?_ _ | with_reducible refine Row.setC ?_ ?_ _ | exact (fun h => hgT (es4 _ h))))) hb9 (pwget9_4_8 epw_.out)
      have hr5_9 := Row.chg (show Row true _ eA5 ek5 (meL x.coord.dones (K5)) eS5 from by (repeat (first | with_reducible exact hr5_8 | with_reducible apply Row.drewC | with_reducible refine Row.allocC ?_ _ | with_reducible refine Row.setC ?_ ?_ _ | exact (fun h => hgT (es5 _ h))))) hb9 (pwget9_5_8 epw_.out)
      have hr6_9 := Row.chg (show Row true _ eA6 ek6 (meL x.servers (K6)) eS6 from by (repeat (first | with_reducible exact hr6_8 | with_reducible apply Row.drewC | with_reducible refine Row.allocC ?_ _ | with_reducible refine Row.setC ?_ ?_ _ | exact (fun h => hgT (es6 _ h))))) hb9 (pwget9_6_8 epw_.out)
      have hr7_9 := Row.chg (show Row true _ eA7 ek7 (meL x.net (K7)) eS7 from by (repeat (first | with_reducible exact hr7_8 | with_reducible apply Row.drewC | with_reducible refine Row.allocC ?_ _ | with_reducible refine Row.setC ?_ ?_ _ | exact (fun h => hgT (es7 _ h))))) hb9 (pwget9_7_8 epw_.out)
      have hc9 := fun o => hb9.cellC (p := ⟨g, o, none⟩) (Shp.lt (show Shp _ g (ty House) (cap * 14) from by (repeat (first | with_reducible exact hS8 | with_reducible apply Shp.drew | with_reducible refine Shp.alloc ?_ _ | with_reducible refine Shp.set ?_ _ _)))) (fun h => hgT (es8 _ h))
      have hf9 := fun o => hS9.frozen o
      go_wp2
      go_roundw
      case rel =>
        refine ⟨k + 1, by omega, by go_num, by rw [hs2.out]; first | go_num | (congr 1; unfold House.cn; have := HK1.out; have := HK2.out; have := HK3.out; have := HK4.out; have := HK5.out; have := HK6.out; have := HK7.out; have := HK8.out; have := HK9.out; omega), ?_, ?_⟩
        · refine Chg.trans hch (Chg.mono (show Chg (fun b => b = g ∨ T k b) wr _ from by (repeat (first | with_reducible exact hC9 | with_reducible apply Chg.drew | with_reducible refine Chg.alloc ?_ _ | with_reducible refine Chg.setCell ?_ (.inl (.inl rfl)) _))) (fun b _ h => h.elim (fun e => e ▸ hg) (fun h => (HT.out k b h).1)))
        · rw [hst.out, hme.out]
          refine Row.setN (N := 14) (T := T) (w := wr) (cs := [.int .i64 (((K) : Nat) : Int), .int .i64 (((K + 1) : Nat) : Int), .bool ((((K + 1 + 1) : Nat) : Int) % 3 == 0), .slice eA0 (meL x.coord.disk.files (K + 1 + 1 + 1)).length ek0, .slice eA1 (meL x.coord.pool (K1)).length ek1, .slice eA2 (meL x.coord.seals (K2)).length ek2, .slice eA3 (meL x.coord.tries (K3)).length ek3, .int .i64 (((K4) : Nat) : Int), .bool ((((K4 + 1) : Nat) : Int) % 3 == 0), .slice eA4 (meL x.coord.votes (K4 + 1 + 1)).length ek4, .slice eA5 (meL x.coord.dones (K5)).length ek5, .slice eA6 (meL x.servers (K6)).length ek6, .slice eA7 (meL x.net (K7)).length ek7, .slice eA8 (meL x.codes (K8)).length ek8]) rfl hg HT.out HD.out HE.out hlty (show Shp _ g (ty House) (cap * 14) from by (repeat (first | with_reducible exact hS9 | with_reducible apply Shp.drew | with_reducible refine Shp.alloc ?_ _ | with_reducible refine Shp.set ?_ _ _))) (fun o ho => ?_) (show Chg (fun b => b = g ∨ T k b) wr _ from by (repeat (first | with_reducible exact hC9 | with_reducible apply Chg.drew | with_reducible refine Chg.alloc ?_ _ | with_reducible refine Chg.setCell ?_ (.inl (.inl rfl)) _))) ?_ ?_
          · have n0 : o ≠ k * 14 := by intro h; apply ho; rw [h]; omega
            have n1 : o ≠ k * 14 + 1 := by intro h; apply ho; rw [h]; omega
            have n2 : o ≠ k * 14 + 2 := by intro h; apply ho; rw [h]; omega
            have n3 : o ≠ k * 14 + 3 := by intro h; apply ho; rw [h]; omega
            have n4 : o ≠ k * 14 + 4 := by intro h; apply ho; rw [h]; omega
            have n5 : o ≠ k * 14 + 5 := by intro h; apply ho; rw [h]; omega
            have n6 : o ≠ k * 14 + 6 := by intro h; apply ho; rw [h]; omega
            have n7 : o ≠ k * 14 + 7 := by intro h; apply ho; rw [h]; omega
            have n8 : o ≠ k * 14 + 8 := by intro h; apply ho; rw [h]; omega
            have n9 : o ≠ k * 14 + 9 := by intro h; apply ho; rw [h]; omega
            have n10 : o ≠ k * 14 + 10 := by intro h; apply ho; rw [h]; omega
            have n11 : o ≠ k * 14 + 11 := by intro h; apply ho; rw [h]; omega
            have n12 : o ≠ k * 14 + 12 := by intro h; apply ho; rw [h]; omega
            have n13 : o ≠ k * 14 + 13 := by intro h; apply ho; rw [h]; omega
            simp only [hc9, hc8, hc7, hc6, hc5, hc4, hc3, hc2, hc1, cell_set_ne _ _ _ o _ n0, cell_set_ne _ _ _ o _ n1, cell_set_ne _ _ _ o _ n2, cell_set_ne _ _ _ o _ n3, cell_set_ne _ _ _ o _ n4, cell_set_ne _ _ _ o _ n5, cell_set_ne _ _ _ o _ n6, cell_set_ne _ _ _ o _ n7, cell_set_ne _ _ _ o _ n8, cell_set_ne _ _ _ o _ n9, cell_set_ne _ _ _ o _ n10, cell_set_ne _ _ _ o _ n11, cell_set_ne _ _ _ o _ n12, cell_set_ne _ _ _ o _ n13]
          · intro j u hu
            have hj : j < 14 := (List.getElem?_eq_some_iff.1 hu).1
            rcases (by omega : j = 0 ∨ j = 1 ∨ j = 2 ∨ j = 3 ∨ j = 4 ∨ j = 5 ∨ j = 6 ∨ j = 7 ∨ j = 8 ∨ j = 9 ∨ j = 10 ∨ j = 11 ∨ j = 12 ∨ j = 13) with rfl | rfl | rfl | rfl | rfl | rfl | rfl | rfl | rfl | rfl | rfl | rfl | rfl | rfl
            all_goals (have hu := Option.some.inj hu; subst hu; go_simp; try simp)
          · exact House.mk' (m := true) (x := (⟨(⟨(((K) : Nat) : Int), (((K + 1) : Nat) : Int), ((((K + 1 + 1) : Nat) : Int) % 3 == 0), (⟨meL x.coord.disk.files (K + 1 + 1 + 1)⟩ : Disk), meL x.coord.pool (K1), meL x.coord.seals (K2), meL x.coord.tries (K3), (((K4) : Nat) : Int), ((((K4 + 1) : Nat) : Int) % 3 == 0), meL x.coord.votes (K4 + 1 + 1), meL x.coord.dones (K5)⟩ : Coord), meL x.servers (K6), meL x.net (K7), meL x.codes (K8)⟩ : House)) (S := T k) (I64_nat (by have := HK1.out; have := HK2.out; have := HK3.out; have := HK4.out; have := HK5.out; have := HK6.out; have := HK7.out; have := HK8.out; have := HK9.out; omega)) (I64_nat (by have := HK1.out; have := HK2.out; have := HK3.out; have := HK4.out; have := HK5.out; have := HK6.out; have := HK7.out; have := HK8.out; have := HK9.out; omega)) (by rw [meL_length]; exact ea0) eb0 (show Row true _ eA0 ek0 (meL x.coord.disk.files (K + 1 + 1 + 1)) eS0 from by (repeat (first | with_reducible exact hr0_9 | with_reducible apply Row.drewC | with_reducible refine Row.allocC ?_ _ | with_reducible refine Row.setC ?_ ?_ _ | exact (fun h => hgT (es0 _ h))))) es0 (by rw [meL_length]; exact ea1) eb1 (show Row true _ eA1 ek1 (meL x.coord.pool (K1)) eS1 from by (repeat (first | with_reducible exact hr1_9 | with_reducible apply Row.drewC | with_reducible refine Row.allocC ?_ _ | with_reducible refine Row.setC ?_ ?_ _ | exact (fun h => hgT (es1 _ h))))) es1 (by rw [meL_length]; exact ea2) eb2 (show Row true _ eA2 ek2 (meL x.coord.seals (K2)) eS2 from by (repeat (first | with_reducible exact hr2_9 | with_reducible apply Row.drewC | with_reducible refine Row.allocC ?_ _ | with_reducible refine Row.setC ?_ ?_ _ | exact (fun h => hgT (es2 _ h))))) es2 (by rw [meL_length]; exact ea3) eb3 (show Row true _ eA3 ek3 (meL x.coord.tries (K3)) eS3 from by (repeat (first | with_reducible exact hr3_9 | with_reducible apply Row.drewC | with_reducible refine Row.allocC ?_ _ | with_reducible refine Row.setC ?_ ?_ _ | exact (fun h => hgT (es3 _ h))))) es3 (I64_nat (by have := HK1.out; have := HK2.out; have := HK3.out; have := HK4.out; have := HK5.out; have := HK6.out; have := HK7.out; have := HK8.out; have := HK9.out; omega)) (by rw [meL_length]; exact ea4) eb4 (show Row true _ eA4 ek4 (meL x.coord.votes (K4 + 1 + 1)) eS4 from by (repeat (first | with_reducible exact hr4_9 | with_reducible apply Row.drewC | with_reducible refine Row.allocC ?_ _ | with_reducible refine Row.setC ?_ ?_ _ | exact (fun h => hgT (es4 _ h))))) es4 (by rw [meL_length]; exact ea5) eb5 (show Row true _ eA5 ek5 (meL x.coord.dones (K5)) eS5 from by (repeat (first | with_reducible exact hr5_9 | with_reducible apply Row.drewC | with_reducible refine Row.allocC ?_ _ | with_reducible refine Row.setC ?_ ?_ _ | exact (fun h => hgT (es5 _ h))))) es5 (by rw [meL_length]; exact ea6) eb6 (show Row true _ eA6 ek6 (meL x.servers (K6)) eS6 from by (repeat (first | with_reducible exact hr6_9 | with_reducible apply Row.drewC | with_reducible refine Row.allocC ?_ _ | with_reducible refine Row.setC ?_ ?_ _ | exact (fun h => hgT (es6 _ h))))) es6 (by rw [meL_length]; exact ea7) eb7 (show Row true _ eA7 ek7 (meL x.net (K7)) eS7 from by (repeat (first | with_reducible exact hr7_9 | with_reducible apply Row.drewC | with_reducible refine Row.allocC ?_ _ | with_reducible refine Row.setC ?_ ?_ _ | exact (fun h => hgT (es7 _ h))))) es7 (by rw [meL_length]; exact ea8) eb8 (show Row true _ eA8 ek8 (meL x.codes (K8)) eS8 from by (repeat (first | with_reducible exact hr8_9 | with_reducible apply Row.drewC | with_reducible refine Row.allocC ?_ _ | with_reducible refine Row.setC ?_ ?_ _ | exact (fun h => hgT (es8 _ h))))) es8 (fun _ => epw_.out)
      case measure => simp [intOf]; omega
    · have hke : k = xs.length := by omega
      go_wp2
      go_ret; subst hke; refine ⟨by rw [List.take_of_length_le (Nat.le_refl _)]; rfl, by simpa using hrow, hch⟩
set_option maxRecDepth 40000 in set_option maxHeartbeats 4000000 in
theorem mark_PairS (xs : List Pair) (w : World) (A : Option Addr) (cap : Nat) (S : Blks) (a : Int) (k0 : Nat) (ha : a = (k0 : Int)) (hk : k0 + cnL xs ≤ 4611686018427387904) (hx : Row true w A cap xs S) (hl : xs.length ≤ maxLen) :
    Calls Tryz.prog 136 #[.slice A xs.length cap, .int .i64 a] w fun e w' => e = .returned (.int .i64 ((k0 + cnL xs : Nat) : Int)) ∧ Row true w' A cap (meL xs k0) S ∧ Chg S w w' := by
  subst ha
  unfold maxLen at hl
  have hxx := hx
  rcases hx with ⟨rfl, rfl, rfl⟩ | ⟨g, cur_, rfl, hg, hh_, hcs_, _⟩
  · go_enter Tryz.func136, Tryz.ntmps136
    go_wp2
    go_loopw [1, 5] (fun l i wr => i = .int .i64 0 ∧ l = .int .i64 (k0 : Int) ∧ wr = w) (fun _ _ _ => 0)
    case atStart => exact ⟨rfl, rfl, rfl⟩
    case round =>
      obtain ⟨rfl, rfl, rfl⟩ := hrel
      go_wp2
      go_ret; exact ⟨rfl, .inl ⟨rfl, rfl, rfl⟩, Chg.refl _ _⟩
  have hsh0 : Shp w g (ty Pair) (cap * 16) := ⟨cur_, hh_, hcs_⟩
  clear hh_ hcs_
  go_enter Tryz.func136, Tryz.ntmps136
  go_wp2
  go_loopw [1, 5] (fun l i wr => ∃ k : Nat, k ≤ xs.length ∧ i = .int .i64 k ∧ l = .int .i64 ((k0 + cnL (xs.take k) : Nat) : Int) ∧ Chg S w wr ∧ Row true wr (some ⟨g, 0, none⟩) cap (meL (xs.take k) k0 ++ xs.drop k) S) (fun _ i _ => xs.length - (intOf i).toNat)
  case atStart => exact ⟨0, Nat.zero_le _, rfl, by simp [cnL], Chg.refl _ _, by simpa [meL] using hxx⟩
  case round =>
    obtain ⟨k, hkk, rfl, rfl, hch, hrow⟩ := hrel
    clear hxx
    by_cases hlt : k < xs.length
    · have hylen : (meL (xs.take k) k0 ++ xs.drop k).length = xs.length := by simp; omega
      have hstep := meL_step xs k0 k hlt
      have hat := meL_at xs k0 k hlt (by rw [hylen]; exact hlt)
      generalize hys : meL (xs.take k) k0 ++ xs.drop k = ys at hrow hylen hat hstep
      have hlty : k < ys.length := by omega
      have hcs := cnL_take_succ xs k hlt
      have hcl := cnL_take_le xs (k + 1)
      generalize hK : k0 + cnL (xs.take k) = K at hstep
      generalize xs[k] = x at hat hcs hstep
      rw [show Mk.cn x = Pair.cn x from rfl] at hcs
      have hs2 : Hid (k0 + cnL (xs.take (k + 1)) = K + Pair.cn x) := Lib.hid (by omega)
      have hKb : K + Pair.cn x ≤ 4611686018427387904 := by omega
      unfold Pair.cn at hKb
      have hst : Hid (meL (xs.take (k + 1)) k0 ++ xs.drop (k + 1) = ys.set k (Pair.me x K)) := Lib.hid hstep
      rcases hrow with ⟨h_, _⟩ | ⟨g2, cur, e_, _, hh, hcz, T, hT, hd, he⟩
      · cases h_
      cases e_
      have hsh : Shp wr g (ty Pair) (cap * 16) := ⟨cur, hh, hcz⟩
      have hd := hd rfl
      have hgl := hsh.lt
      have hgT : ¬ T k g := fun h => (hT k g h).2 rfl
      obtain ⟨c1, ha1, hr1⟩ := he k hlty
      rw [hat] at hr1
      have HE := Lib.hid he; have HD := Lib.hid hd; have HT := Lib.hid hT
      clear hcs hcl hstep hat hys he hd hT hh hcz
      obtain ⟨eA0, ek0, eS0, eA1, ek1, eS1, eA2, ek2, eS2, eA3, ek3, eS3, eA4, ek4, eS4, eA5, ek5, eS5, rfl, ef0, ef1, ef2, ef3, ef4, ef8, ef9, ef10, ef11, ef12, ea0, eb0, er0, es0, ea1, eb1, er1, es1, ea2, eb2, er2, es2, ea3, eb3, er3, es3, ea4, eb4, er4, es4, ea5, eb5, er5, es5, epw⟩ := Pair.open hr1
      have epw_ := Lib.hid (epw rfl); clear epw
      have q0 : wr.cell? ⟨g, k * 16, none⟩ = some (.int .i64 x.a.head.house) := by have := ha1 0 _ rfl; simpa [show Lay.n Pair = 16 from rfl] using this
      have q1 : wr.cell? ⟨g, k * 16 + 1, none⟩ = some (.int .i64 x.a.head.epoch) := by have := ha1 1 _ rfl; simpa [show Lay.n Pair = 16 from rfl] using this
      have q2 : wr.cell? ⟨g, k * 16 + 2, none⟩ = some (.string x.a.head.root) := by have := ha1 2 _ rfl; simpa [show Lay.n Pair = 16 from rfl] using this
      have q3 : wr.cell? ⟨g, k * 16 + 3, none⟩ = some (.string x.a.head.prev) := by have := ha1 3 _ rfl; simpa [show Lay.n Pair = 16 from rfl] using this
      have q4 : wr.cell? ⟨g, k * 16 + 4, none⟩ = some (.int .i64 x.a.sig.at_) := by have := ha1 4 _ rfl; simpa [show Lay.n Pair = 16 from rfl] using this
      have q5 : wr.cell? ⟨g, k * 16 + 5, none⟩ = some (.slice eA0 x.a.sig.open_.length ek0) := by have := ha1 5 _ rfl; simpa [show Lay.n Pair = 16 from rfl] using this
      have q6 : wr.cell? ⟨g, k * 16 + 6, none⟩ = some (.slice eA1 x.a.sig.shut.length ek1) := by have := ha1 6 _ rfl; simpa [show Lay.n Pair = 16 from rfl] using this
      have q7 : wr.cell? ⟨g, k * 16 + 7, none⟩ = some (.slice eA2 x.a.sig.sides.length ek2) := by have := ha1 7 _ rfl; simpa [show Lay.n Pair = 16 from rfl] using this
      have q8 : wr.cell? ⟨g, k * 16 + 8, none⟩ = some (.int .i64 x.b.head.house) := by have := ha1 8 _ rfl; simpa [show Lay.n Pair = 16 from rfl] using this
      have q9 : wr.cell? ⟨g, k * 16 + 9, none⟩ = some (.int .i64 x.b.head.epoch) := by have := ha1 9 _ rfl; simpa [show Lay.n Pair = 16 from rfl] using this
      have q10 : wr.cell? ⟨g, k * 16 + 10, none⟩ = some (.string x.b.head.root) := by have := ha1 10 _ rfl; simpa [show Lay.n Pair = 16 from rfl] using this
      have q11 : wr.cell? ⟨g, k * 16 + 11, none⟩ = some (.string x.b.head.prev) := by have := ha1 11 _ rfl; simpa [show Lay.n Pair = 16 from rfl] using this
      have q12 : wr.cell? ⟨g, k * 16 + 12, none⟩ = some (.int .i64 x.b.sig.at_) := by have := ha1 12 _ rfl; simpa [show Lay.n Pair = 16 from rfl] using this
      have q13 : wr.cell? ⟨g, k * 16 + 13, none⟩ = some (.slice eA3 x.b.sig.open_.length ek3) := by have := ha1 13 _ rfl; simpa [show Lay.n Pair = 16 from rfl] using this
      have q14 : wr.cell? ⟨g, k * 16 + 14, none⟩ = some (.slice eA4 x.b.sig.shut.length ek4) := by have := ha1 14 _ rfl; simpa [show Lay.n Pair = 16 from rfl] using this
      have q15 : wr.cell? ⟨g, k * 16 + 15, none⟩ = some (.slice eA5 x.b.sig.sides.length ek5) := by have := ha1 15 _ rfl; simpa [show Lay.n Pair = 16 from rfl] using this
      clear ha1
      have hf0 := fun o => hsh.frozen o
      obtain ⟨K1, hK1⟩ : ∃ q, K + 1 + 1 + 1 + 1 + 1 + cnL x.a.sig.open_ = q := ⟨_, rfl⟩
      have HK1 := Lib.hid hK1; clear hK1
      obtain ⟨K2, hK2⟩ : ∃ q, K1 + cnL x.a.sig.shut = q := ⟨_, rfl⟩
      have HK2 := Lib.hid hK2; clear hK2
      obtain ⟨K3, hK3⟩ : ∃ q, K2 + cnL x.a.sig.sides = q := ⟨_, rfl⟩
      have HK3 := Lib.hid hK3; clear hK3
      obtain ⟨K4, hK4⟩ : ∃ q, K3 + 1 + 1 + 1 + 1 + 1 + cnL x.b.sig.open_ = q := ⟨_, rfl⟩
      have HK4 := Lib.hid hK4; clear hK4
      obtain ⟨K5, hK5⟩ : ∃ q, K4 + cnL x.b.sig.shut = q := ⟨_, rfl⟩
      have HK5 := Lib.hid hK5; clear hK5
      obtain ⟨K6, hK6⟩ : ∃ q, K5 + cnL x.b.sig.sides = q := ⟨_, rfl⟩
      have HK6 := Lib.hid hK6; clear hK6
      have hme : Hid (Pair.me x K = (⟨(⟨(⟨(((K) : Nat) : Int), (((K + 1) : Nat) : Int), mtext (K + 1 + 1), mtext (K + 1 + 1 + 1)⟩ : Head), (⟨(((K + 1 + 1 + 1 + 1) : Nat) : Int), meL x.a.sig.open_ (K + 1 + 1 + 1 + 1 + 1), meL x.a.sig.shut (K1), meL x.a.sig.sides (K2)⟩ : Sig)⟩ : Seal), (⟨(⟨(((K3) : Nat) : Int), (((K3 + 1) : Nat) : Int), mtext (K3 + 1 + 1), mtext (K3 + 1 + 1 + 1)⟩ : Head), (⟨(((K3 + 1 + 1 + 1 + 1) : Nat) : Int), meL x.b.sig.open_ (K3 + 1 + 1 + 1 + 1 + 1), meL x.b.sig.shut (K4), meL x.b.sig.sides (K5)⟩ : Sig)⟩ : Seal)⟩ : Pair)) := Lib.hid (by simp only [Pair.me, HK1.out, HK2.out, HK3.out, HK4.out, HK5.out, HK6.out])
      have hKb0 : K + 5 ≤ 4611686018427387904 := by have := HK1.out; have := HK2.out; have := HK3.out; have := HK4.out; have := HK5.out; have := HK6.out; omega
      have hKb1 : K1 + 0 ≤ 4611686018427387904 := by have := HK1.out; have := HK2.out; have := HK3.out; have := HK4.out; have := HK5.out; have := HK6.out; omega
      have hKb2 : K2 + 0 ≤ 4611686018427387904 := by have := HK1.out; have := HK2.out; have := HK3.out; have := HK4.out; have := HK5.out; have := HK6.out; omega
      have hKb3 : K3 + 5 ≤ 4611686018427387904 := by have := HK1.out; have := HK2.out; have := HK3.out; have := HK4.out; have := HK5.out; have := HK6.out; omega
      have hKb4 : K4 + 0 ≤ 4611686018427387904 := by have := HK1.out; have := HK2.out; have := HK3.out; have := HK4.out; have := HK5.out; have := HK6.out; omega
      have hKb5 : K5 + 0 ≤ 4611686018427387904 := by have := HK1.out; have := HK2.out; have := HK3.out; have := HK4.out; have := HK5.out; have := HK6.out; omega
      have hKb6 : K6 + 0 ≤ 4611686018427387904 := by have := HK1.out; have := HK2.out; have := HK3.out; have := HK4.out; have := HK5.out; have := HK6.out; omega
      have hC0 : Chg (fun b => b = g ∨ T k b) wr wr := Chg.refl _ _
      have hS0 := hsh
      go_wp2_with (fail)
      refine (mark_Text _ (K + 1 + 1) (by first | rfl | omega | (simp; done)) (by omega) _).mono ?_
      rintro e1 w1 ⟨rfl, hb1⟩
      have hC1 : Chg (fun b => b = g ∨ T k b) wr w1 := Chg.trans (b := _) (by (repeat (first | with_reducible exact hC0 | with_reducible apply Chg.drew | with_reducible refine Chg.alloc ?_ _ | with_reducible refine Chg.setCell ?_ (.inl (.inl rfl)) _))) (hb1.chg_ (fun b => b = g ∨ T k b))
      have hS1 : Shp w1 g (ty Pair) (cap * 16) := Shp.ofb (by (repeat (first | with_reducible exact hS0 | with_reducible apply Shp.drew | with_reducible refine Shp.alloc ?_ _ | with_reducible refine Shp.set ?_ _ _))) hb1
      have hr0_1 := Row.later (show Row true _ eA0 ek0 x.a.sig.open_ eS0 from by (repeat (first | with_reducible exact er0 | with_reducible apply Row.drewC | with_reducible refine Row.allocC ?_ _ | with_reducible refine Row.setC ?_ ?_ _ | exact (fun h => hgT (es0 _ h))))) hb1
      have hr1_1 := Row.later (show Row true _ eA1 ek1 x.a.sig.shut eS1 from by (repeat (first | with_reducible exact er1 | with_reducible apply Row.drewC | with_reducible refine Row.allocC ?_ _ | with_reducible refine Row.setC ?_ ?_ _ | exact (fun h => hgT (es1 _ h))))) hb1
      have hr2_1 := Row.later (show Row true _ eA2 ek2 x.a.sig.sides eS2 from by (repeat (first | with_reducible exact er2 | with_reducible apply Row.drewC | with_reducible refine Row.allocC ?_ _ | with_reducible refine Row.setC ?_ ?_ _ | exact (fun h => hgT (es2 _ h))))) hb1
      have hr3_1 := Row.later (show Row true _ eA3 ek3 x.b.sig.open_ eS3 from by (repeat (first | with_reducible exact er3 | with_reducible apply Row.drewC | with_reducible refine Row.allocC ?_ _ | with_reducible refine Row.setC ?_ ?_ _ | exact (fun h => hgT (es3 _ h))))) hb1
      have hr4_1 := Row.later (show Row true _ eA4 ek4 x.b.sig.shut eS4 from by (repeat (first | with_reducible exact er4 | with_reducible apply Row.drewC | with_reducible refine Row.allocC ?_ _ | with_reducible refine Row.setC ?_ ?_ _ | exact (fun h => hgT (es4 _ h))))) hb1
      have hr5_1 := Row.later (show Row true _ eA5 ek5 x.b.sig.sides eS5 from by (repeat (first | with_reducible exact er5 | with_reducible apply Row.drewC | with_reducible refine Row.allocC ?_ _ | with_reducible refine Row.setC ?_ ?_ _ | exact (fun h => hgT (es5 _ h))))) hb1
      have hc1 := fun o => hb1.cell (p := ⟨g, o, none⟩) (Shp.lt (show Shp _ g (ty Pair) (cap * 16) from by (repeat (first | with_reducible exact hS0 | with_reducible apply Shp.drew | with_reducible refine Shp.alloc ?_ _ | with_reducible refine Shp.set ?_ _ _))))
      have hf1 := fun o => hS1.frozen o
      go_wp2_with (fail)
      refine (mark_Text _ (K + 1 + 1 + 1) (by first | rfl | omega | (simp; done)) (by omega) _).mono ?_
      rintro e2 w2 ⟨rfl, hb2⟩
      have hC2 : Chg (fun b => b = g ∨ T k b) wr w2 := Chg.trans (b := _) (by (repeat (first | with_reducible exact hC1 | with_reducible apply Chg.drew | with_reducible refine Chg.alloc ?_ _ | with_reducible refine Chg.setCell ?_ (.inl (.inl rfl)) _))) (hb2.chg_ (fun b => b = g ∨ T k b))
      have hS2 : Shp w2 g (ty Pair) (cap * 16) := Shp.ofb (by (repeat (first | with_reducible exact hS1 | with_reducible apply Shp.drew | with_reducible refine Shp.alloc ?_ _ | with_reducible refine Shp.set ?_ _ _))) hb2
      have hr0_2 := Row.later (show Row true _ eA0 ek0 x.a.sig.open_ eS0 from by (repeat (first | with_reducible exact hr0_1 | with_reducible apply Row.drewC | with_reducible refine Row.allocC ?_ _ | with_reducible refine Row.setC ?_ ?_ _ | exact (fun h => hgT (es0 _ h))))) hb2
      have hr1_2 := Row.later (show Row true _ eA1 ek1 x.a.sig.shut eS1 from by (repeat (first | with_reducible exact hr1_1 | with_reducible apply Row.drewC | with_reducible refine Row.allocC ?_ _ | with_reducible refine Row.setC ?_ ?_ _ | exact (fun h => hgT (es1 _ h))))) hb2
      have hr2_2 := Row.later (show Row true _ eA2 ek2 x.a.sig.sides eS2 from by (repeat (first | with_reducible exact hr2_1 | with_reducible apply Row.drewC | with_reducible refine Row.allocC ?_ _ | with_reducible refine Row.setC ?_ ?_ _ | exact (fun h => hgT (es2 _ h))))) hb2
      have hr3_2 := Row.later (show Row true _ eA3 ek3 x.b.sig.open_ eS3 from by (repeat (first | with_reducible exact hr3_1 | with_reducible apply Row.drewC | with_reducible refine Row.allocC ?_ _ | with_reducible refine Row.setC ?_ ?_ _ | exact (fun h => hgT (es3 _ h))))) hb2
      have hr4_2 := Row.later (show Row true _ eA4 ek4 x.b.sig.shut eS4 from by (repeat (first | with_reducible exact hr4_1 | with_reducible apply Row.drewC | with_reducible refine Row.allocC ?_ _ | with_reducible refine Row.setC ?_ ?_ _ | exact (fun h => hgT (es4 _ h))))) hb2
      have hr5_2 := Row.later (show Row true _ eA5 ek5 x.b.sig.sides eS5 from by (repeat (first | with_reducible exact hr5_1 | with_reducible apply Row.drewC | with_reducible refine Row.allocC ?_ _ | with_reducible refine Row.setC ?_ ?_ _ | exact (fun h => hgT (es5 _ h))))) hb2
      have hc2 := fun o => hb2.cell (p := ⟨g, o, none⟩) (Shp.lt (show Shp _ g (ty Pair) (cap * 16) from by (repeat (first | with_reducible exact hS1 | with_reducible apply Shp.drew | with_reducible refine Shp.alloc ?_ _ | with_reducible refine Shp.set ?_ _ _))))
      have hf2 := fun o => hS2.frozen o
      go_wp2_with (fail)
      refine (mark_StringS x.a.sig.open_ _ _ _ _ _ (K + 1 + 1 + 1 + 1 + 1) (by first | rfl | omega | (simp; done)) (by have := HK1.out; omega) (show Row true _ eA0 ek0 x.a.sig.open_ eS0 from by (repeat (first | with_reducible exact hr0_2 | with_reducible apply Row.drewC | with_reducible refine Row.allocC ?_ _ | with_reducible refine Row.setC ?_ ?_ _ | exact (fun h => hgT (es0 _ h))))) (Nat.le_trans ea0 eb0)).mono ?_
      rw [HK1.out]
      rintro e3 w3 ⟨rfl, hr0_3, hb3⟩
      have hC3 : Chg (fun b => b = g ∨ T k b) wr w3 := Chg.trans (b := _) (by (repeat (first | with_reducible exact hC2 | with_reducible apply Chg.drew | with_reducible refine Chg.alloc ?_ _ | with_reducible refine Chg.setCell ?_ (.inl (.inl rfl)) _))) (hb3.mono (fun b _ h => .inr (es0 b h)))
      have hS3 : Shp w3 g (ty Pair) (cap * 16) := Shp.ofc (by (repeat (first | with_reducible exact hS2 | with_reducible apply Shp.drew | with_reducible refine Shp.alloc ?_ _ | with_reducible refine Shp.set ?_ _ _))) hb3 (fun h => hgT (es0 _ h))
      have hr1_3 := Row.chg (show Row true _ eA1 ek1 x.a.sig.shut eS1 from by (repeat (first | with_reducible exact hr1_2 | with_reducible apply Row.drewC | with_reducible refine Row.allocC ?_ _ | with_reducible refine Row.setC ?_ ?_ _ | exact (fun h => hgT (es1 _ h))))) hb3 (disj_symm (pwget6_0_1 epw_.out))
      have hr2_3 := Row.chg (show Row true _ eA2 ek2 x.a.sig.sides eS2 from by (repeat (first | with_reducible exact hr2_2 | with_reducible apply Row.drewC | with_reducible refine Row.allocC ?_ _ | with_reducible refine Row.setC ?_ ?_ _ | exact (fun h => hgT (es2 _ h))))) hb3 (disj_symm (pwget6_0_2 epw_.out))
      have hr3_3 := Row.chg (show Row true _ eA3 ek3 x.b.sig.open_ eS3 from by (repeat (first | with_reducible exact hr3_2 | with_reducible apply Row.drewC | with_reducible refine Row.allocC ?_ _ | with_reducible refine Row.setC ?_ ?_ _ | exact (fun h => hgT (es3 _ h))))) hb3 (disj_symm (pwget6_0_3 epw_.out))
      have hr4_3 := Row.chg (show Row true _ eA4 ek4 x.b.sig.shut eS4 from by (repeat (first | with_reducible exact hr4_2 | with_reducible apply Row.drewC | with_reducible refine Row.allocC ?_ _ | with_reducible refine Row.setC ?_ ?_ _ | exact (fun h => hgT (es4 _ h))))) hb3 (disj_symm (pwget6_0_4 epw_.out))
      have hr5_3 := Row.chg (show Row true _ eA5 ek5 x.b.sig.sides eS5 from by (repeat (first | with_reducible exact hr5_2 | with_reducible apply Row.drewC | with_reducible refine Row.allocC ?_ _ | with_reducible refine Row.setC ?_ ?_ _ | exact (fun h => hgT (es5 _ h))))) hb3 (disj_symm (pwget6_0_5 epw_.out))
      have hc3 := fun o => hb3.cellC (p := ⟨g, o, none⟩) (Shp.lt (show Shp _ g (ty Pair) (cap * 16) from by (repeat (first | with_reducible exact hS2 | with_reducible apply Shp.drew | with_reducible refine Shp.alloc ?_ _ | with_reducible refine Shp.set ?_ _ _)))) (fun h => hgT (es0 _ h))
      have hf3 := fun o => hS3.frozen o
      go_wp2_with (fail)
      refine (mark_StringS x.a.sig.shut _ _ _ _ _ (K1) (by first | rfl | omega | (simp; done)) (by have := HK2.out; omega) (show Row true _ eA1 ek1 x.a.sig.shut eS1 from by (repeat (first | with_reducible exact hr1_3 | with_reducible apply Row.drewC | with_reducible refine Row.allocC ?_ _ | with_reducible refine Row.setC ?_ ?_ _ | exact (fun h => hgT (es1 _ h))))) (Nat.le_trans ea1 eb1)).mono ?_
      rw [HK2.out]
      rintro e4 w4 ⟨rfl, hr1_4, hb4⟩
      have hC4 : Chg (fun b => b = g ∨ T k b) wr w4 := Chg.trans (b := _) (by (repeat (first | with_reducible exact hC3 | with_reducible apply Chg.drew | with_reducible refine Chg.alloc ?_ _ | with_reducible refine Chg.setCell ?_ (.inl (.inl rfl)) _))) (hb4.mono (fun b _ h => .inr (es1 b h)))
      have hS4 : Shp w4 g (ty Pair) (cap * 16) := Shp.ofc (by (repeat (first | with_reducible exact hS3 | with_reducible apply Shp.drew | with_reducible refine Shp.alloc ?_ _ | with_reducible refine Shp.set ?_ _ _))) hb4 (fun h => hgT (es1 _ h))
      have hr0_4 := Row.chg (show Row true _ eA0 ek0 (meL x.a.sig.open_ (K + 1 + 1 + 1 + 1 + 1)) eS0 from by (repeat (first | with_reducible exact hr0_3 | with_reducible apply Row.drewC | with_reducible refine Row.allocC ?_ _ | with_reducible refine Row.setC ?_ ?_ _ | exact (fun h => hgT (es0 _ h))))) hb4 (pwget6_0_1 epw_.out)
      have hr2_4 := Row.chg (show Row true _ eA2 ek2 x.a.sig.sides eS2 from by (repeat (first | with_reducible exact hr2_3 | with_reducible apply Row.drewC | with_reducible refine Row.allocC ?_ _ | with_reducible refine Row.setC ?_ ?_ _ | exact (fun h => hgT (es2 _ h))))) hb4 (disj_symm (pwget6_1_2 epw_.out))
      have hr3_4 := Row.chg (show Row true _ eA3 ek3 x.b.sig.open_ eS3 from by (repeat (first | with_reducible exact hr3_3 | with_reducible apply Row.drewC | with_reducible refine Row.allocC ?_ _ | with_reducible refine Row.setC ?_ ?_ _ | exact (fun h => hgT (es3 _ h))))) hb4 (disj_symm (pwget6_1_3 epw_.out))
      have hr4_4 := Row.chg (show Row true _ eA4 ek4 x.b.sig.shut eS4 from by (repeat (first | with_reducible exact hr4_3 | with_reducible apply Row.drewC | with_reducible refine Row.allocC ?_ _ | with_reducible refine Row.setC ?_ ?_ _ | exact (fun h => hgT (es4 _ h))))) hb4 (disj_symm (pwget6_1_4 epw_.out))
      have hr5_4 := Row.chg (show Row true _ eA5 ek5 x.b.sig.sides eS5 from by (repeat (first | with_reducible exact hr5_3 | with_reducible apply Row.drewC | with_reducible refine Row.allocC ?_ _ | with_reducible refine Row.setC ?_ ?_ _ | exact (fun h => hgT (es5 _ h))))) hb4 (disj_symm (pwget6_1_5 epw_.out))
      have hc4 := fun o => hb4.cellC (p := ⟨g, o, none⟩) (Shp.lt (show Shp _ g (ty Pair) (cap * 16) from by (repeat (first | with_reducible exact hS3 | with_reducible apply Shp.drew | with_reducible refine Shp.alloc ?_ _ | with_reducible refine Shp.set ?_ _ _)))) (fun h => hgT (es1 _ h))
      have hf4 := fun o => hS4.frozen o
      go_wp2_with (fail)
      refine (mark_StringS x.a.sig.sides _ _ _ _ _ (K2) (by first | rfl | omega | (simp; done)) (by have := HK3.out; omega) (show Row true _ eA2 ek2 x.a.sig.sides eS2 from by (repeat (first | with_reducible exact hr2_4 | with_reducible apply Row.drewC | with_reducible refine Row.allocC ?_ _ | with_reducible refine Row.setC ?_ ?_ _ | exact (fun h => hgT (es2 _ h))))) (Nat.le_trans ea2 eb2)).mono ?_
      rw [HK3.out]
      rintro e5 w5 ⟨rfl, hr2_5, hb5⟩
      have hC5 : Chg (fun b => b = g ∨ T k b) wr w5 := Chg.trans (b := _) (by (repeat (first | with_reducible exact hC4 | with_reducible apply Chg.drew | with_reducible refine Chg.alloc ?_ _ | with_reducible refine Chg.setCell ?_ (.inl (.inl rfl)) _))) (hb5.mono (fun b _ h => .inr (es2 b h)))
      have hS5 : Shp w5 g (ty Pair) (cap * 16) := Shp.ofc (by (repeat (first | with_reducible exact hS4 | with_reducible apply Shp.drew | with_reducible refine Shp.alloc ?_ _ | with_reducible refine Shp.set ?_ _ _))) hb5 (fun h => hgT (es2 _ h))
      have hr0_5 := Row.chg (show Row true _ eA0 ek0 (meL x.a.sig.open_ (K + 1 + 1 + 1 + 1 + 1)) eS0 from by (repeat (first | with_reducible exact hr0_4 | with_reducible apply Row.drewC | with_reducible refine Row.allocC ?_ _ | with_reducible refine Row.setC ?_ ?_ _ | exact (fun h => hgT (es0 _ h))))) hb5 (pwget6_0_2 epw_.out)
      have hr1_5 := Row.chg (show Row true _ eA1 ek1 (meL x.a.sig.shut (K1)) eS1 from by (repeat (first | with_reducible exact hr1_4 | with_reducible apply Row.drewC | with_reducible refine Row.allocC ?_ _ | with_reducible refine Row.setC ?_ ?_ _ | exact (fun h => hgT (es1 _ h))))) hb5 (pwget6_1_2 epw_.out)
      have hr3_5 := Row.chg (show Row true _ eA3 ek3 x.b.sig.open_ eS3 from by (repeat (first | with_reducible exact hr3_4 | with_reducible apply Row.drewC | with_reducible refine Row.allocC ?_ _ | with_reducible refine Row.setC ?_ ?_ _ | exact (fun h => hgT (es3 _ h))))) hb5 (disj_symm (pwget6_2_3 epw_.out))
      have hr4_5 := Row.chg (show Row true _ eA4 ek4 x.b.sig.shut eS4 from by (repeat (first | with_reducible exact hr4_4 | with_reducible apply Row.drewC | with_reducible refine Row.allocC ?_ _ | with_reducible refine Row.setC ?_ ?_ _ | exact (fun h => hgT (es4 _ h))))) hb5 (disj_symm (pwget6_2_4 epw_.out))
      have hr5_5 := Row.chg (show Row true _ eA5 ek5 x.b.sig.sides eS5 from by (repeat (first | with_reducible exact hr5_4 | with_reducible apply Row.drewC | with_reducible refine Row.allocC ?_ _ | with_reducible refine Row.setC ?_ ?_ _ | exact (fun h => hgT (es5 _ h))))) hb5 (disj_symm (pwget6_2_5 epw_.out))
      have hc5 := fun o => hb5.cellC (p := ⟨g, o, none⟩) (Shp.lt (show Shp _ g (ty Pair) (cap * 16) from by (repeat (first | with_reducible exact hS4 | with_reducible apply Shp.drew | with_reducible refine Shp.alloc ?_ _ | with_reducible refine Shp.set ?_ _ _)))) (fun h => hgT (es2 _ h))
      have hf5 := fun o => hS5.frozen o
      go_wp2_with (fail)
      refine (mark_Text _ (K3 + 1 + 1) (by first | rfl | omega | (simp; done)) (by omega) _).mono ?_
      rintro e6 w6 ⟨rfl, hb6⟩
      have hC6 : Chg (fun b => b = g ∨ T k b) wr w6 := Chg.trans (b := _) (by (repeat (first | with_reducible exact hC5 | with_reducible apply Chg.drew | with_reducible refine Chg.alloc ?_ _ | with_reducible refine Chg.setCell ?_ (.inl (.inl rfl)) _))) (hb6.chg_ (fun b => b = g ∨ T k b))
      have hS6 : Shp w6 g (ty Pair) (cap * 16) := Shp.ofb (by (repeat (first | with_reducible exact hS5 | with_reducible apply Shp.drew | with_reducible refine Shp.alloc ?_ _ | with_reducible refine Shp.set ?_ _ _))) hb6
      have hr0_6 := Row.later (show Row true _ eA0 ek0 (meL x.a.sig.open_ (K + 1 + 1 + 1 + 1 + 1)) eS0 from by (repeat (first | with_reducible exact hr0_5 | with_reducible apply Row.drewC | with_reducible refine Row.allocC ?_ _ | with_reducible refine Row.setC ?_ ?_ _ | exact (fun h => hgT (es0 _ h))))) hb6
      have hr1_6 := Row.later (show Row true _ eA1 ek1 (meL x.a.sig.shut (K1)) eS1 from by (repeat (first | with_reducible exact hr1_5 | with_reducible apply Row.drewC | with_reducible refine Row.allocC ?_ _ | with_reducible refine Row.setC ?_ ?_ _ | exact (fun h => hgT (es1 _ h))))) hb6
      have hr2_6 := Row.later (show Row true _ eA2 ek2 (meL x.a.sig.sides (K2)) eS2 from by (repeat (first | with_reducible exact hr2_5 | with_reducible apply Row.drewC | with_reducible refine Row.allocC ?_ _ | with_reducible refine Row.setC ?_ ?_ _ | exact (fun h => hgT (es2 _ h))))) hb6
      have hr3_6 := Row.later (show Row true _ eA3 ek3 x.b.sig.open_ eS3 from by (repeat (first | with_reducible exact hr3_5 | with_reducible apply Row.drewC | with_reducible refine Row.allocC ?_ _ | with_reducible refine Row.setC ?_ ?_ _ | exact (fun h => hgT (es3 _ h))))) hb6
      have hr4_6 := Row.later (show Row true _ eA4 ek4 x.b.sig.shut eS4 from by (repeat (first | with_reducible exact hr4_5 | with_reducible apply Row.drewC | with_reducible refine Row.allocC ?_ _ | with_reducible refine Row.setC ?_ ?_ _ | exact (fun h => hgT (es4 _ h))))) hb6
      have hr5_6 := Row.later (show Row true _ eA5 ek5 x.b.sig.sides eS5 from by (repeat (first | with_reducible exact hr5_5 | with_reducible apply Row.drewC | with_reducible refine Row.allocC ?_ _ | with_reducible refine Row.setC ?_ ?_ _ | exact (fun h => hgT (es5 _ h))))) hb6
      have hc6 := fun o => hb6.cell (p := ⟨g, o, none⟩) (Shp.lt (show Shp _ g (ty Pair) (cap * 16) from by (repeat (first | with_reducible exact hS5 | with_reducible apply Shp.drew | with_reducible refine Shp.alloc ?_ _ | with_reducible refine Shp.set ?_ _ _))))
      have hf6 := fun o => hS6.frozen o
      go_wp2_with (fail)
      refine (mark_Text _ (K3 + 1 + 1 + 1) (by first | rfl | omega | (simp; done)) (by omega) _).mono ?_
      rintro e7 w7 ⟨rfl, hb7⟩
      have hC7 : Chg (fun b => b = g ∨ T k b) wr w7 := Chg.trans (b := _) (by (repeat (first | with_reducible exact hC6 | with_reducible apply Chg.drew | with_reducible refine Chg.alloc ?_ _ | with_reducible refine Chg.setCell ?_ (.inl (.inl rfl)) _))) (hb7.chg_ (fun b => b = g ∨ T k b))
      have hS7 : Shp w7 g (ty Pair) (cap * 16) := Shp.ofb (by (repeat (first | with_reducible exact hS6 | with_reducible apply Shp.drew | with_reducible refine Shp.alloc ?_ _ | with_reducible refine Shp.set ?_ _ _))) hb7
      have hr0_7 := Row.later (show Row true _ eA0 ek0 (meL x.a.sig.open_ (K + 1 + 1 + 1 + 1 + 1)) eS0 from by (repeat (first | with_reducible exact hr0_6 | with_reducible apply Row.drewC | with_reducible refine Row.allocC ?_ _ | with_reducible refine Row.setC ?_ ?_ _ | exact (fun h => hgT (es0 _ h))))) hb7
      have hr1_7 := Row.later (show Row true _ eA1 ek1 (meL x.a.sig.shut (K1)) eS1 from by (repeat (first | with_reducible exact hr1_6 | with_reducible apply Row.drewC | with_reducible refine Row.allocC ?_ _ | with_reducible refine Row.setC ?_ ?_ _ | exact (fun h => hgT (es1 _ h))))) hb7
      have hr2_7 := Row.later (show Row true _ eA2 ek2 (meL x.a.sig.sides (K2)) eS2 from by (repeat (first | with_reducible exact hr2_6 | with_reducible apply Row.drewC | with_reducible refine Row.allocC ?_ _ | with_reducible refine Row.setC ?_ ?_ _ | exact (fun h => hgT (es2 _ h))))) hb7
      have hr3_7 := Row.later (show Row true _ eA3 ek3 x.b.sig.open_ eS3 from by (repeat (first | with_reducible exact hr3_6 | with_reducible apply Row.drewC | with_reducible refine Row.allocC ?_ _ | with_reducible refine Row.setC ?_ ?_ _ | exact (fun h => hgT (es3 _ h))))) hb7
      have hr4_7 := Row.later (show Row true _ eA4 ek4 x.b.sig.shut eS4 from by (repeat (first | with_reducible exact hr4_6 | with_reducible apply Row.drewC | with_reducible refine Row.allocC ?_ _ | with_reducible refine Row.setC ?_ ?_ _ | exact (fun h => hgT (es4 _ h))))) hb7
      have hr5_7 := Row.later (show Row true _ eA5 ek5 x.b.sig.sides eS5 from by (repeat (first | with_reducible exact hr5_6 | with_reducible apply Row.drewC | with_reducible refine Row.allocC ?_ _ | with_reducible refine Row.setC ?_ ?_ _ | exact (fun h => hgT (es5 _ h))))) hb7
      have hc7 := fun o => hb7.cell (p := ⟨g, o, none⟩) (Shp.lt (show Shp _ g (ty Pair) (cap * 16) from by (repeat (first | with_reducible exact hS6 | with_reducible apply Shp.drew | with_reducible refine Shp.alloc ?_ _ | with_reducible refine Shp.set ?_ _ _))))
      have hf7 := fun o => hS7.frozen o
      go_wp2_with (fail)
      refine (mark_StringS x.b.sig.open_ _ _ _ _ _ (K3 + 1 + 1 + 1 + 1 + 1) (by first | rfl | omega | (simp; done)) (by have := HK4.out; omega) (show Row true _ eA3 ek3 x.b.sig.open_ eS3 from by (repeat (first | with_reducible exact hr3_7 | with_reducible apply Row.drewC | with_reducible refine Row.allocC ?_ _ | with_reducible refine Row.setC ?_ ?_ _ | exact (fun h => hgT (es3 _ h))))) (Nat.le_trans ea3 eb3)).mono ?_
      rw [HK4.out]
      rintro e8 w8 ⟨rfl, hr3_8, hb8⟩
      have hC8 : Chg (fun b => b = g ∨ T k b) wr w8 := Chg.trans (b := _) (by (repeat (first | with_reducible exact hC7 | with_reducible apply Chg.drew | with_reducible refine Chg.alloc ?_ _ | with_reducible refine Chg.setCell ?_ (.inl (.inl rfl)) _))) (hb8.mono (fun b _ h => .inr (es3 b h)))
      have hS8 : Shp w8 g (ty Pair) (cap * 16) := Shp.ofc (by (repeat (first | with_reducible exact hS7 | with_reducible apply Shp.drew | with_reducible refine Shp.alloc ?_ _ | with_reducible refine Shp.set ?_ _ _))) hb8 (fun h => hgT (es3 _ h))
      have hr0_8 := Row.chg (show Row true _ eA0 ek0 (meL x.a.sig.open_ (K + 1 + 1 + 1 + 1 + 1)) eS0 from by (repeat (first | with_reducible exact hr0_7 | with_reducible apply Row.drewC | with_reducible refine Row.allocC ?_ _ | with_reducible refine Row.setC ?_ ?_ _ | exact (fun h => hgT (es0 _ h))))) hb8 (pwget6_0_3 epw_.out)
      have hr1_8 := Row.chg (show Row true _ eA1 ek1 (meL x.a.sig.shut (K1)) eS1 from by (repeat (first | with_reducible exact hr1_7 | with_reducible apply Row.drewC | with_reducible refine Row.allocC ?_ _ | with_reducible refine Row.setC ?_ ?_ _ | exact (fun h => hgT (es1 _ h))))) hb8 (pwget6_1_3 epw_.out)
      have hr2_8 := Row.chg (show Row true _ eA2 ek2 (meL x.a.sig.sides (K2)) eS2 from by (repeat (first | with_reducible exact hr2_7 | with_reducible apply Row.drewC | with_reducible refine Row.allocC ?_ _ | with_reducible refine Row.setC ?_ ?_ _ | exact (fun h => hgT (es2 _ h))))) hb8 (pwget6_2_3 epw_.out)
      have hr4_8 := Row.chg (show Row true _ eA4 ek4 x.b.sig.shut eS4 from by (repeat (first | with_reducible exact hr4_7 | with_reducible apply Row.drewC | with_reducible refine Row.allocC ?_ _ | with_reducible refine Row.setC ?_ ?_ _ | exact (fun h => hgT (es4 _ h))))) hb8 (disj_symm (pwget6_3_4 epw_.out))
      have hr5_8 := Row.chg (show Row true _ eA5 ek5 x.b.sig.sides eS5 from by (repeat (first | with_reducible exact hr5_7 | with_reducible apply Row.drewC | with_reducible refine Row.allocC ?_ _ | with_reducible refine Row.setC ?_ ?_ _ | exact (fun h => hgT (es5 _ h))))) hb8 (disj_symm (pwget6_3_5 epw_.out))
      have hc8 := fun o => hb8.cellC (p := ⟨g, o, none⟩) (Shp.lt (show Shp _ g (ty Pair) (cap * 16) from by (repeat (first | with_reducible exact hS7 | with_reducible apply Shp.drew | with_reducible refine Shp.alloc ?_ _ | with_reducible refine Shp.set ?_ _ _)))) (fun h => hgT (es3 _ h))
      have hf8 := fun o => hS8.frozen o
      go_wp2_with (fail)
      refine (mark_StringS x.b.sig.shut _ _ _ _ _ (K4) (by first | rfl | omega | (simp; done)) (by have := HK5.out; omega) (show Row true _ eA4 ek4 x.b.sig.shut eS4 from by (repeat (first | with_reducible exact hr4_8 | with_reducible apply Row.drewC | with_reducible refine Row.allocC ?_ _ | with_reducible refine Row.setC ?_ ?_ _ | exact (fun h => hgT (es4 _ h))))) (Nat.le_trans ea4 eb4)).mono ?_
      rw [HK5.out]
      rintro e9 w9 ⟨rfl, hr4_9, hb9⟩
      have hC9 : Chg (fun b => b = g ∨ T k b) wr w9 := Chg.trans (b := _) (by (repeat (first | with_reducible exact hC8 | with_reducible apply Chg.drew | with_reducible refine Chg.alloc ?_ _ | with_reducible refine Chg.setCell ?_ (.inl (.inl rfl)) _))) (hb9.mono (fun b _ h => .inr (es4 b h)))
      have hS9 : Shp w9 g (ty Pair) (cap * 16) := Shp.ofc (by (repeat (first | with_reducible exact hS8 | with_reducible apply Shp.drew | with_reducible refine Shp.alloc ?_ _ | with_reducible refine Shp.set ?_ _ _))) hb9 (fun h => hgT (es4 _ h))
      have hr0_9 := Row.chg (show Row true _ eA0 ek0 (meL x.a.sig.open_ (K + 1 + 1 + 1 + 1 + 1)) eS0 from by (repeat (first | with_reducible exact hr0_8 | with_reducible apply Row.drewC | with_reducible refine Row.allocC ?_ _ | with_reducible refine Row.setC ?_ ?_ _ | exact (fun h => hgT (es0 _ h))))) hb9 (pwget6_0_4 epw_.out)
      have hr1_9 := Row.chg (show Row true _ eA1 ek1 (meL x.a.sig.shut (K1)) eS1 from by (repeat (first | with_reducible exact hr1_8 | with_reducible apply Row.drewC | with_reducible refine Row.allocC ?_ _ | with_reducible refine Row.setC ?_ ?_ _ | exact (fun h => hgT (es1 _ h))))) hb9 (pwget6_1_4 epw_.out)
      have hr2_9 := Row.chg (show Row true _ eA2 ek2 (meL x.a.sig.sides (K2)) eS2 from by (repeat (first | with_reducible exact hr2_8 | with_reducible apply Row.drewC | with_reducible refine Row.allocC ?_ _ | with_reducible refine Row.setC ?_ ?_ _ | exact (fun h => hgT (es2 _ h))))) hb9 (pwget6_2_4 epw_.out)
      have hr3_9 := Row.chg (show Row true _ eA3 ek3 (meL x.b.sig.open_ (K3 + 1 + 1 + 1 + 1 + 1)) eS3 from by (repeat (first | with_reducible exact hr3_8 | with_reducible apply Row.drewC | with_reducible refine Row.allocC ?_ _ | with_reducible refine Row.setC ?_ ?_ _ | exact (fun h => hgT (es3 _ h))))) hb9 (pwget6_3_4 epw_.out)
      have hr5_9 := Row.chg (show Row true _ eA5 ek5 x.b.sig.sides eS5 from by (repeat (first | with_reducible exact hr5_8 | with_reducible apply Row.drewC | with_reducible refine Row.allocC ?_ _ | with_reducible refine Row.setC ?_ ?_ _ | exact (fun h => hgT (es5 _ h))))) hb9 (disj_symm (pwget6_4_5 epw_.out))
      have hc9 := fun o => hb9.cellC (p := ⟨g, o, none⟩) (Shp.lt (show Shp _ g (ty Pair) (cap * 16) from by (repeat (first | with_reducible exact hS8 | with_reducible apply Shp.drew | with_reducible refine Shp.alloc ?_ _ | with_reducible refine Shp.set ?_ _ _)))) (fun h => hgT (es4 _ h))
      have hf9 := fun o => hS9.frozen o
      go_wp2_with (fail)
      refine (mark_StringS x.b.sig.sides _ _ _ _ _ (K5) (by first | rfl | omega | (simp; done)) (by have := HK6.out; omega) (show Row true _ eA5 ek5 x.b.sig.sides eS5 from by (repeat (first | with_reducible exact hr5_9 | with_reducible apply Row.drewC | with_reducible refine Row.allocC ?_ _ | with_reducible refine Row.setC ?_ ?_ _ | exact (fun h => hgT (es5 _ h))))) (Nat.le_trans ea5 eb5)).mono ?_
      rw [HK6.out]
      rintro e10 w10 ⟨rfl, hr5_10, hb10⟩
      have hC10 : Chg (fun b => b = g ∨ T k b) wr w10 := Chg.trans (b := _) (by (repeat (first | with_reducible exact hC9 | with_reducible apply Chg.drew | with_reducible refine Chg.alloc ?_ _ | with_reducible refine Chg.setCell ?_ (.inl (.inl rfl)) _))) (hb10.mono (fun b _ h => .inr (es5 b h)))
      have hS10 : Shp w10 g (ty Pair) (cap * 16) := Shp.ofc (by (repeat (first | with_reducible exact hS9 | with_reducible apply Shp.drew | with_reducible refine Shp.alloc ?_ _ | with_reducible refine Shp.set ?_ _ _))) hb10 (fun h => hgT (es5 _ h))
      have hr0_10 := Row.chg (show Row true _ eA0 ek0 (meL x.a.sig.open_ (K + 1 + 1 + 1 + 1 + 1)) eS0 from by (repeat (first | with_reducible exact hr0_9 | with_reducible apply Row.drewC | with_reducible refine Row.allocC ?_ _ | with_reducible refine Row.setC ?_ ?_ _ | exact (fun h => hgT (es0 _ h))))) hb10 (pwget6_0_5 epw_.out)
      have hr1_10 := Row.chg (show Row true _ eA1 ek1 (meL x.a.sig.shut (K1)) eS1 from by (repeat (first | with_reducible exact hr1_9 | with_reducible apply Row.drewC | with_reducible refine Row.allocC ?_ _ | with_reducible refine Row.setC ?_ ?_ _ | exact (fun h => hgT (es1 _ h))))) hb10 (pwget6_1_5 epw_.out)
      have hr2_10 := Row.chg (show Row true _ eA2 ek2 (meL x.a.sig.sides (K2)) eS2 from by (repeat (first | with_reducible exact hr2_9 | with_reducible apply Row.drewC | with_reducible refine Row.allocC ?_ _ | with_reducible refine Row.setC ?_ ?_ _ | exact (fun h => hgT (es2 _ h))))) hb10 (pwget6_2_5 epw_.out)
      have hr3_10 := Row.chg (show Row true _ eA3 ek3 (meL x.b.sig.open_ (K3 + 1 + 1 + 1 + 1 + 1)) eS3 from by (repeat (first | with_reducible exact hr3_9 | with_reducible apply Row.drewC | with_reducible refine Row.allocC ?_ _ | with_reducible refine Row.setC ?_ ?_ _ | exact (fun h => hgT (es3 _ h))))) hb10 (pwget6_3_5 epw_.out)
      have hr4_10 := Row.chg (show Row true _ eA4 ek4 (meL x.b.sig.shut (K4)) eS4 from by (repeat (first | with_reducible exact hr4_9 | with_reducible apply Row.drewC | with_reducible refine Row.allocC ?_ _ | with_reducible refine Row.setC ?_ ?_ _ | exact (fun h => hgT (es4 _ h))))) hb10 (pwget6_4_5 epw_.out)
      have hc10 := fun o => hb10.cellC (p := ⟨g, o, none⟩) (Shp.lt (show Shp _ g (ty Pair) (cap * 16) from by (repeat (first | with_reducible exact hS9 | with_reducible apply Shp.drew | with_reducible refine Shp.alloc ?_ _ | with_reducible refine Shp.set ?_ _ _)))) (fun h => hgT (es5 _ h))
      have hf10 := fun o => hS10.frozen o
      go_wp2
      go_roundw
      case rel =>
        refine ⟨k + 1, by omega, by go_num, by rw [hs2.out]; first | go_num | (congr 1; unfold Pair.cn; have := HK1.out; have := HK2.out; have := HK3.out; have := HK4.out; have := HK5.out; have := HK6.out; omega), ?_, ?_⟩
        · refine Chg.trans hch (Chg.mono (show Chg (fun b => b = g ∨ T k b) wr _ from by (repeat (first | with_reducible exact hC10 | with_reducible apply Chg.drew | with_reducible refine Chg.alloc ?_ _ | with_reducible refine Chg.setCell ?_ (.inl (.inl rfl)) _))) (fun b _ h => h.elim (fun e => e ▸ hg) (fun h => (HT.out k b h).1)))
        · rw [hst.out, hme.out]
          refine Row.setN (N := 16) (T := T) (w := wr) (cs := [.int .i64 (((K) : Nat) : Int), .int .i64 (((K + 1) : Nat) : Int), .string (mtext (K + 1 + 1)), .string (mtext (K + 1 + 1 + 1)), .int .i64 (((K + 1 + 1 + 1 + 1) : Nat) : Int), .slice eA0 (meL x.a.sig.open_ (K + 1 + 1 + 1 + 1 + 1)).length ek0, .slice eA1 (meL x.a.sig.shut (K1)).length ek1, .slice eA2 (meL x.a.sig.sides (K2)).length ek2, .int .i64 (((K3) : Nat) : Int), .int .i64 (((K3 + 1) : Nat) : Int), .string (mtext (K3 + 1 + 1)), .string (mtext (K3 + 1 + 1 + 1)), .int .i64 (((K3 + 1 + 1 + 1 + 1) : Nat) : Int), .slice eA3 (meL x.b.sig.open_ (K3 + 1 + 1 + 1 + 1 + 1)).length ek3, .slice eA4 (meL x.b.sig.shut (K4)).length ek4, .slice eA5 (meL x.b.sig.sides (K5)).length ek5]) rfl hg HT.out HD.out HE.out hlty (show Shp _ g (ty Pair) (cap * 16) from by (repeat (first | with_reducible exact hS10 | with_reducible apply Shp.drew | with_reducible refine Shp.alloc ?_ _ | with_reducible refine Shp.set ?_ _ _))) (fun o ho => ?_) (show Chg (fun b => b = g ∨ T k b) wr _ from by (repeat (first | with_reducible exact hC10 | with_reducible apply Chg.drew | with_reducible refine Chg.alloc ?_ _ | with_reducible refine Chg.setCell ?_ (.inl (.inl rfl)) _))) ?_ ?_
          · have n0 : o ≠ k * 16 := by intro h; apply ho; rw [h]; omega
            have n1 : o ≠ k * 16 + 1 := by intro h; apply ho; rw [h]; omega
            have n2 : o ≠ k * 16 + 2 := by intro h; apply ho; rw [h]; omega
            have n3 : o ≠ k * 16 + 3 := by intro h; apply ho; rw [h]; omega
            have n4 : o ≠ k * 16 + 4 := by intro h; apply ho; rw [h]; omega
            have n5 : o ≠ k * 16 + 5 := by intro h; apply ho; rw [h]; omega
            have n6 : o ≠ k * 16 + 6 := by intro h; apply ho; rw [h]; omega
            have n7 : o ≠ k * 16 + 7 := by intro h; apply ho; rw [h]; omega
            have n8 : o ≠ k * 16 + 8 := by intro h; apply ho; rw [h]; omega
            have n9 : o ≠ k * 16 + 9 := by intro h; apply ho; rw [h]; omega
            have n10 : o ≠ k * 16 + 10 := by intro h; apply ho; rw [h]; omega
            have n11 : o ≠ k * 16 + 11 := by intro h; apply ho; rw [h]; omega
            have n12 : o ≠ k * 16 + 12 := by intro h; apply ho; rw [h]; omega
            have n13 : o ≠ k * 16 + 13 := by intro h; apply ho; rw [h]; omega
            have n14 : o ≠ k * 16 + 14 := by intro h; apply ho; rw [h]; omega
            have n15 : o ≠ k * 16 + 15 := by intro h; apply ho; rw [h]; omega
            simp only [hc10, hc9, hc8, hc7, hc6, hc5, hc4, hc3, hc2, hc1, cell_set_ne _ _ _ o _ n0, cell_set_ne _ _ _ o _ n1, cell_set_ne _ _ _ o _ n2, cell_set_ne _ _ _ o _ n3, cell_set_ne _ _ _ o _ n4, cell_set_ne _ _ _ o _ n5, cell_set_ne _ _ _ o _ n6, cell_set_ne _ _ _ o _ n7, cell_set_ne _ _ _ o _ n8, cell_set_ne _ _ _ o _ n9, cell_set_ne _ _ _ o _ n10, cell_set_ne _ _ _ o _ n11, cell_set_ne _ _ _ o _ n12, cell_set_ne _ _ _ o _ n13, cell_set_ne _ _ _ o _ n14, cell_set_ne _ _ _ o _ n15]
          · intro j u hu
            have hj : j < 16 := (List.getElem?_eq_some_iff.1 hu).1
            rcases (by omega : j = 0 ∨ j = 1 ∨ j = 2 ∨ j = 3 ∨ j = 4 ∨ j = 5 ∨ j = 6 ∨ j = 7 ∨ j = 8 ∨ j = 9 ∨ j = 10 ∨ j = 11 ∨ j = 12 ∨ j = 13 ∨ j = 14 ∨ j = 15) with rfl | rfl | rfl | rfl | rfl | rfl | rfl | rfl | rfl | rfl | rfl | rfl | rfl | rfl | rfl | rfl
            all_goals (have hu := Option.some.inj hu; subst hu; go_simp; try simp)
          · exact Pair.mk' (m := true) (x := (⟨(⟨(⟨(((K) : Nat) : Int), (((K + 1) : Nat) : Int), mtext (K + 1 + 1), mtext (K + 1 + 1 + 1)⟩ : Head), (⟨(((K + 1 + 1 + 1 + 1) : Nat) : Int), meL x.a.sig.open_ (K + 1 + 1 + 1 + 1 + 1), meL x.a.sig.shut (K1), meL x.a.sig.sides (K2)⟩ : Sig)⟩ : Seal), (⟨(⟨(((K3) : Nat) : Int), (((K3 + 1) : Nat) : Int), mtext (K3 + 1 + 1), mtext (K3 + 1 + 1 + 1)⟩ : Head), (⟨(((K3 + 1 + 1 + 1 + 1) : Nat) : Int), meL x.b.sig.open_ (K3 + 1 + 1 + 1 + 1 + 1), meL x.b.sig.shut (K4), meL x.b.sig.sides (K5)⟩ : Sig)⟩ : Seal)⟩ : Pair)) (S := T k) (I64_nat (by have := HK1.out; have := HK2.out; have := HK3.out; have := HK4.out; have := HK5.out; have := HK6.out; omega)) (I64_nat (by have := HK1.out; have := HK2.out; have := HK3.out; have := HK4.out; have := HK5.out; have := HK6.out; omega)) (mtext_size (K + 1 + 1) (by have := HK1.out; have := HK2.out; have := HK3.out; have := HK4.out; have := HK5.out; have := HK6.out; omega)) (mtext_size (K + 1 + 1 + 1) (by have := HK1.out; have := HK2.out; have := HK3.out; have := HK4.out; have := HK5.out; have := HK6.out; omega)) (I64_nat (by have := HK1.out; have := HK2.out; have := HK3.out; have := HK4.out; have := HK5.out; have := HK6.out; omega)) (by rw [meL_length]; exact ea0) eb0 (show Row true _ eA0 ek0 (meL x.a.sig.open_ (K + 1 + 1 + 1 + 1 + 1)) eS0 from by (repeat (first | with_reducible exact hr0_10 | with_reducible apply Row.drewC | with_reducible refine Row.allocC ?_ _ | with_reducible refine Row.setC ?_ ?_ _ | exact (fun h => hgT (es0 _ h))))) es0 (by rw [meL_length]; exact ea1) eb1 (show Row true _ eA1 ek1 (meL x.a.sig.shut (K1)) eS1 from by (repeat (first | with_reducible exact hr1_10 | with_reducible apply Row.drewC | with_reducible refine Row.allocC ?_ _ | with_reducible refine Row.setC ?_ ?_ _ | exact (fun h => hgT (es1 _ h))))) es1 (by rw [meL_length]; exact ea2) eb2 (show Row true _ eA2 ek2 (meL x.a.sig.sides (K2)) eS2 from by (repeat (first | with_reducible exact hr2_10 | with_reducible apply Row.drewC | with_reducible refine Row.allocC ?_ _ | with_reducible refine Row.setC ?_ ?_ _ | exact (fun h => hgT (es2 _ h))))) es2 (I64_nat (by have := HK1.out; have := HK2.out; have := HK3.out; have := HK4.out; have := HK5.out; have := HK6.out; omega)) (I64_nat (by have := HK1.out; have := HK2.out; have := HK3.out; have := HK4.out; have := HK5.out; have := HK6.out; omega)) (mtext_size (K3 + 1 + 1) (by have := HK1.out; have := HK2.out; have := HK3.out; have := HK4.out; have := HK5.out; have := HK6.out; omega)) (mtext_size (K3 + 1 + 1 + 1) (by have := HK1.out; have := HK2.out; have := HK3.out; have := HK4.out; have := HK5.out; have := HK6.out; omega)) (I64_nat (by have := HK1.out; have := HK2.out; have := HK3.out; have := HK4.out; have := HK5.out; have := HK6.out; omega)) (by rw [meL_length]; exact ea3) eb3 (show Row true _ eA3 ek3 (meL x.b.sig.open_ (K3 + 1 + 1 + 1 + 1 + 1)) eS3 from by (repeat (first | with_reducible exact hr3_10 | with_reducible apply Row.drewC | with_reducible refine Row.allocC ?_ _ | with_reducible refine Row.setC ?_ ?_ _ | exact (fun h => hgT (es3 _ h))))) es3 (by rw [meL_length]; exact ea4) eb4 (show Row true _ eA4 ek4 (meL x.b.sig.shut (K4)) eS4 from by (repeat (first | with_reducible exact hr4_10 | with_reducible apply Row.drewC | with_reducible refine Row.allocC ?_ _ | with_reducible refine Row.setC ?_ ?_ _ | exact (fun h => hgT (es4 _ h))))) es4 (by rw [meL_length]; exact ea5) eb5 (show Row true _ eA5 ek5 (meL x.b.sig.sides (K5)) eS5 from by (repeat (first | with_reducible exact hr5_10 | with_reducible apply Row.drewC | with_reducible refine Row.allocC ?_ _ | with_reducible refine Row.setC ?_ ?_ _ | exact (fun h => hgT (es5 _ h))))) es5 (fun _ => epw_.out)
      case measure => simp [intOf]; omega
    · have hke : k = xs.length := by omega
      go_wp2
      go_ret; subst hke; refine ⟨by rw [List.take_of_length_le (Nat.le_refl _)]; rfl, by simpa using hrow, hch⟩
set_option maxRecDepth 40000 in set_option maxHeartbeats 4000000 in
theorem mark_AuditorS (xs : List Auditor) (w : World) (A : Option Addr) (cap : Nat) (S : Blks) (a : Int) (k0 : Nat) (ha : a = (k0 : Int)) (hk : k0 + cnL xs ≤ 4611686018427387904) (hx : Row true w A cap xs S) (hl : xs.length ≤ maxLen) :
    Calls Tryz.prog 78 #[.slice A xs.length cap, .int .i64 a] w fun e w' => e = .returned (.int .i64 ((k0 + cnL xs : Nat) : Int)) ∧ Row true w' A cap (meL xs k0) S ∧ Chg S w w' := by
  subst ha
  unfold maxLen at hl
  have hxx := hx
  rcases hx with ⟨rfl, rfl, rfl⟩ | ⟨g, cur_, rfl, hg, hh_, hcs_, _⟩
  · go_enter Tryz.func78, Tryz.ntmps78
    go_wp2
    go_loopw [1, 5] (fun l i wr => i = .int .i64 0 ∧ l = .int .i64 (k0 : Int) ∧ wr = w) (fun _ _ _ => 0)
    case atStart => exact ⟨rfl, rfl, rfl⟩
    case round =>
      obtain ⟨rfl, rfl, rfl⟩ := hrel
      go_wp2
      go_ret; exact ⟨rfl, .inl ⟨rfl, rfl, rfl⟩, Chg.refl _ _⟩
  have hsh0 : Shp w g (ty Auditor) (cap * 6) := ⟨cur_, hh_, hcs_⟩
  clear hh_ hcs_
  go_enter Tryz.func78, Tryz.ntmps78
  go_wp2
  go_loopw [1, 5] (fun l i wr => ∃ k : Nat, k ≤ xs.length ∧ i = .int .i64 k ∧ l = .int .i64 ((k0 + cnL (xs.take k) : Nat) : Int) ∧ Chg S w wr ∧ Row true wr (some ⟨g, 0, none⟩) cap (meL (xs.take k) k0 ++ xs.drop k) S) (fun _ i _ => xs.length - (intOf i).toNat)
  case atStart => exact ⟨0, Nat.zero_le _, rfl, by simp [cnL], Chg.refl _ _, by simpa [meL] using hxx⟩
  case round =>
    obtain ⟨k, hkk, rfl, rfl, hch, hrow⟩ := hrel
    clear hxx
    by_cases hlt : k < xs.length
    · have hylen : (meL (xs.take k) k0 ++ xs.drop k).length = xs.length := by simp; omega
      have hstep := meL_step xs k0 k hlt
      have hat := meL_at xs k0 k hlt (by rw [hylen]; exact hlt)
      generalize hys : meL (xs.take k) k0 ++ xs.drop k = ys at hrow hylen hat hstep
      have hlty : k < ys.length := by omega
      have hcs := cnL_take_succ xs k hlt
      have hcl := cnL_take_le xs (k + 1)
      generalize hK : k0 + cnL (xs.take k) = K at hstep
      generalize xs[k] = x at hat hcs hstep
      rw [show Mk.cn x = Auditor.cn x from rfl] at hcs
      have hs2 : Hid (k0 + cnL (xs.take (k + 1)) = K + Auditor.cn x) := Lib.hid (by omega)
      have hKb : K + Auditor.cn x ≤ 4611686018427387904 := by omega
      unfold Auditor.cn at hKb
      have hst : Hid (meL (xs.take (k + 1)) k0 ++ xs.drop (k + 1) = ys.set k (Auditor.me x K)) := Lib.hid hstep
      rcases hrow with ⟨h_, _⟩ | ⟨g2, cur, e_, _, hh, hcz, T, hT, hd, he⟩
      · cases h_
      cases e_
      have hsh : Shp wr g (ty Auditor) (cap * 6) := ⟨cur, hh, hcz⟩
      have hd := hd rfl
      have hgl := hsh.lt
      have hgT : ¬ T k g := fun h => (hT k g h).2 rfl
      obtain ⟨c1, ha1, hr1⟩ := he k hlty
      rw [hat] at hr1
      have HE := Lib.hid he; have HD := Lib.hid hd; have HT := Lib.hid hT
      clear hcs hcl hstep hat hys he hd hT hh hcz
      obtain ⟨eA0, ek0, eS0, eA1, ek1, eS1, eA2, ek2, eS2, eA3, ek3, eS3, rfl, ef0, ea0, eb0, er0, es0, ea1, eb1, er1, es1, ea2, eb2, er2, es2, ea3, eb3, er3, es3, epw⟩ := Auditor.open hr1
      have epw_ := Lib.hid (epw rfl); clear epw
      have q0 : wr.cell? ⟨g, k * 6, none⟩ = some (.int .i64 x.house) := by have := ha1 0 _ rfl; simpa [show Lay.n Auditor = 6 from rfl] using this
      have q1 : wr.cell? ⟨g, k * 6 + 1, none⟩ = some (.bool x.up) := by have := ha1 1 _ rfl; simpa [show Lay.n Auditor = 6 from rfl] using this
      have q2 : wr.cell? ⟨g, k * 6 + 2, none⟩ = some (.slice eA0 x.disk.files.length ek0) := by have := ha1 2 _ rfl; simpa [show Lay.n Auditor = 6 from rfl] using this
      have q3 : wr.cell? ⟨g, k * 6 + 3, none⟩ = some (.slice eA1 x.pool.length ek1) := by have := ha1 3 _ rfl; simpa [show Lay.n Auditor = 6 from rfl] using this
      have q4 : wr.cell? ⟨g, k * 6 + 4, none⟩ = some (.slice eA2 x.pins.length ek2) := by have := ha1 4 _ rfl; simpa [show Lay.n Auditor = 6 from rfl] using this
      have q5 : wr.cell? ⟨g, k * 6 + 5, none⟩ = some (.slice eA3 x.pairs.length ek3) := by have := ha1 5 _ rfl; simpa [show Lay.n Auditor = 6 from rfl] using this
      clear ha1
      have hf0 := fun o => hsh.frozen o
      obtain ⟨K1, hK1⟩ : ∃ q, K + 1 + 1 + cnL x.disk.files = q := ⟨_, rfl⟩
      have HK1 := Lib.hid hK1; clear hK1
      obtain ⟨K2, hK2⟩ : ∃ q, K1 + cnL x.pool = q := ⟨_, rfl⟩
      have HK2 := Lib.hid hK2; clear hK2
      obtain ⟨K3, hK3⟩ : ∃ q, K2 + cnL x.pins = q := ⟨_, rfl⟩
      have HK3 := Lib.hid hK3; clear hK3
      obtain ⟨K4, hK4⟩ : ∃ q, K3 + cnL x.pairs = q := ⟨_, rfl⟩
      have HK4 := Lib.hid hK4; clear hK4
      have hme : Hid (Auditor.me x K = (⟨(((K) : Nat) : Int), ((((K + 1) : Nat) : Int) % 3 == 0), (⟨meL x.disk.files (K + 1 + 1)⟩ : Disk), meL x.pool (K1), meL x.pins (K2), meL x.pairs (K3)⟩ : Auditor)) := Lib.hid (by simp only [Auditor.me, HK1.out, HK2.out, HK3.out, HK4.out])
      have hKb0 : K + 2 ≤ 4611686018427387904 := by have := HK1.out; have := HK2.out; have := HK3.out; have := HK4.out; omega
      have hKb1 : K1 + 0 ≤ 4611686018427387904 := by have := HK1.out; have := HK2.out; have := HK3.out; have := HK4.out; omega
      have hKb2 : K2 + 0 ≤ 4611686018427387904 := by have := HK1.out; have := HK2.out; have := HK3.out; have := HK4.out; omega
      have hKb3 : K3 + 0 ≤ 4611686018427387904 := by have := HK1.out; have := HK2.out; have := HK3.out; have := HK4.out; omega
      have hKb4 : K4 + 0 ≤ 4611686018427387904 := by have := HK1.out; have := HK2.out; have := HK3.out; have := HK4.out; omega
      have hC0 : Chg (fun b => b = g ∨ T k b) wr wr := Chg.refl _ _
      have hS0 := hsh
      go_wp2_with (fail)
      refine (mark_FileS x.disk.files _ _ _ _ _ (K + 1 + 1) (by first | rfl | omega | (simp; done)) (by have := HK1.out; omega) (show Row true _ eA0 ek0 x.disk.files eS0 from by (repeat (first | with_reducible exact er0 | with_reducible apply Row.drewC | with_reducible refine Row.allocC ?_ _ | with_reducible refine Row.setC ?_ ?_ _ | exact (fun h => hgT (es0 _ h))))) (Nat.le_trans ea0 eb0)).mono ?_
      rw [HK1.out]
      rintro e1 w1 ⟨rfl, hr0_1, hb1⟩
      have hC1 : Chg (fun b => b = g ∨ T k b) wr w1 := Chg.trans (b := _) (by (repeat (first | with_reducible exact hC0 | with_reducible apply Chg.drew | with_reducible refine Chg.alloc ?_ _ | with_reducible refine Chg.setCell ?_ (.inl (.inl rfl)) _))) (hb1.mono (fun b _ h => .inr (es0 b h)))
      have hS1 : Shp w1 g (ty Auditor) (cap * 6) := Shp.ofc (by (repeat (first | with_reducible exact hS0 | with_reducible apply Shp.drew | with_reducible refine Shp.alloc ?_ _ | with_reducible refine Shp.set ?_ _ _))) hb1 (fun h => hgT (es0 _ h))
      have hr1_1 := Row.chg (show Row true _ eA1 ek1 x.pool eS1 from by (repeat (first | with_reducible exact er1 | with_reducible apply Row.drewC | with_reducible refine Row.allocC ?_ _ | with_reducible refine Row.setC ?_ ?_ _ | exact (fun h => hgT (es1 _ h))))) hb1 (disj_symm (pwget4_0_1 epw_.out))
      have hr2_1 := Row.chg (show Row true _ eA2 ek2 x.pins eS2 from by (repeat (first | with_reducible exact er2 | with_reducible apply Row.drewC | with_reducible refine Row.allocC ?_ _ | with_reducible refine Row.setC ?_ ?_ _ | exact (fun h => hgT (es2 _ h))))) hb1 (disj_symm (pwget4_0_2 epw_.out))
      have hr3_1 := Row.chg (show Row true _ eA3 ek3 x.pairs eS3 from by (repeat (first | with_reducible exact er3 | with_reducible apply Row.drewC | with_reducible refine Row.allocC ?_ _ | with_reducible refine Row.setC ?_ ?_ _ | exact (fun h => hgT (es3 _ h))))) hb1 (disj_symm (pwget4_0_3 epw_.out))
      have hc1 := fun o => hb1.cellC (p := ⟨g, o, none⟩) (Shp.lt (show Shp _ g (ty Auditor) (cap * 6) from by (repeat (first | with_reducible exact hS0 | with_reducible apply Shp.drew | with_reducible refine Shp.alloc ?_ _ | with_reducible refine Shp.set ?_ _ _)))) (fun h => hgT (es0 _ h))
      have hf1 := fun o => hS1.frozen o
      go_wp2_with (fail)
      refine (mark_StringS x.pool _ _ _ _ _ (K1) (by first | rfl | omega | (simp; done)) (by have := HK2.out; omega) (show Row true _ eA1 ek1 x.pool eS1 from by (repeat (first | with_reducible exact hr1_1 | with_reducible apply Row.drewC | with_reducible refine Row.allocC ?_ _ | with_reducible refine Row.setC ?_ ?_ _ | exact (fun h => hgT (es1 _ h))))) (Nat.le_trans ea1 eb1)).mono ?_
      rw [HK2.out]
      rintro e2 w2 ⟨rfl, hr1_2, hb2⟩
      have hC2 : Chg (fun b => b = g ∨ T k b) wr w2 := Chg.trans (b := _) (by (repeat (first | with_reducible exact hC1 | with_reducible apply Chg.drew | with_reducible refine Chg.alloc ?_ _ | with_reducible refine Chg.setCell ?_ (.inl (.inl rfl)) _))) (hb2.mono (fun b _ h => .inr (es1 b h)))
      have hS2 : Shp w2 g (ty Auditor) (cap * 6) := Shp.ofc (by (repeat (first | with_reducible exact hS1 | with_reducible apply Shp.drew | with_reducible refine Shp.alloc ?_ _ | with_reducible refine Shp.set ?_ _ _))) hb2 (fun h => hgT (es1 _ h))
      have hr0_2 := Row.chg (show Row true _ eA0 ek0 (meL x.disk.files (K + 1 + 1)) eS0 from by (repeat (first | with_reducible exact hr0_1 | with_reducible apply Row.drewC | with_reducible refine Row.allocC ?_ _ | with_reducible refine Row.setC ?_ ?_ _ | exact (fun h => hgT (es0 _ h))))) hb2 (pwget4_0_1 epw_.out)
      have hr2_2 := Row.chg (show Row true _ eA2 ek2 x.pins eS2 from by (repeat (first | with_reducible exact hr2_1 | with_reducible apply Row.drewC | with_reducible refine Row.allocC ?_ _ | with_reducible refine Row.setC ?_ ?_ _ | exact (fun h => hgT (es2 _ h))))) hb2 (disj_symm (pwget4_1_2 epw_.out))
      have hr3_2 := Row.chg (show Row true _ eA3 ek3 x.pairs eS3 from by (repeat (first | with_reducible exact hr3_1 | with_reducible apply Row.drewC | with_reducible refine Row.allocC ?_ _ | with_reducible refine Row.setC ?_ ?_ _ | exact (fun h => hgT (es3 _ h))))) hb2 (disj_symm (pwget4_1_3 epw_.out))
      have hc2 := fun o => hb2.cellC (p := ⟨g, o, none⟩) (Shp.lt (show Shp _ g (ty Auditor) (cap * 6) from by (repeat (first | with_reducible exact hS1 | with_reducible apply Shp.drew | with_reducible refine Shp.alloc ?_ _ | with_reducible refine Shp.set ?_ _ _)))) (fun h => hgT (es1 _ h))
      have hf2 := fun o => hS2.frozen o
      go_wp2_with (fail)
      refine (mark_SealS x.pins _ _ _ _ _ (K2) (by first | rfl | omega | (simp; done)) (by have := HK3.out; omega) (show Row true _ eA2 ek2 x.pins eS2 from by (repeat (first | with_reducible exact hr2_2 | with_reducible apply Row.drewC | with_reducible refine Row.allocC ?_ _ | with_reducible refine Row.setC ?_ ?_ _ | exact (fun h => hgT (es2 _ h))))) (Nat.le_trans ea2 eb2)).mono ?_
      rw [HK3.out]
      rintro e3 w3 ⟨rfl, hr2_3, hb3⟩
      have hC3 : Chg (fun b => b = g ∨ T k b) wr w3 := Chg.trans (b := _) (by (repeat (first | with_reducible exact hC2 | with_reducible apply Chg.drew | with_reducible refine Chg.alloc ?_ _ | with_reducible refine Chg.setCell ?_ (.inl (.inl rfl)) _))) (hb3.mono (fun b _ h => .inr (es2 b h)))
      have hS3 : Shp w3 g (ty Auditor) (cap * 6) := Shp.ofc (by (repeat (first | with_reducible exact hS2 | with_reducible apply Shp.drew | with_reducible refine Shp.alloc ?_ _ | with_reducible refine Shp.set ?_ _ _))) hb3 (fun h => hgT (es2 _ h))
      have hr0_3 := Row.chg (show Row true _ eA0 ek0 (meL x.disk.files (K + 1 + 1)) eS0 from by (repeat (first | with_reducible exact hr0_2 | with_reducible apply Row.drewC | with_reducible refine Row.allocC ?_ _ | with_reducible refine Row.setC ?_ ?_ _ | exact (fun h => hgT (es0 _ h))))) hb3 (pwget4_0_2 epw_.out)
      have hr1_3 := Row.chg (show Row true _ eA1 ek1 (meL x.pool (K1)) eS1 from by (repeat (first | with_reducible exact hr1_2 | with_reducible apply Row.drewC | with_reducible refine Row.allocC ?_ _ | with_reducible refine Row.setC ?_ ?_ _ | exact (fun h => hgT (es1 _ h))))) hb3 (pwget4_1_2 epw_.out)
      have hr3_3 := Row.chg (show Row true _ eA3 ek3 x.pairs eS3 from by (repeat (first | with_reducible exact hr3_2 | with_reducible apply Row.drewC | with_reducible refine Row.allocC ?_ _ | with_reducible refine Row.setC ?_ ?_ _ | exact (fun h => hgT (es3 _ h))))) hb3 (disj_symm (pwget4_2_3 epw_.out))
      have hc3 := fun o => hb3.cellC (p := ⟨g, o, none⟩) (Shp.lt (show Shp _ g (ty Auditor) (cap * 6) from by (repeat (first | with_reducible exact hS2 | with_reducible apply Shp.drew | with_reducible refine Shp.alloc ?_ _ | with_reducible refine Shp.set ?_ _ _)))) (fun h => hgT (es2 _ h))
      have hf3 := fun o => hS3.frozen o
      go_wp2_with (fail)
      refine (mark_PairS x.pairs _ _ _ _ _ (K3) (by first | rfl | omega | (simp; done)) (by have := HK4.out; omega) (show Row true _ eA3 ek3 x.pairs eS3 from by (repeat (first | with_reducible exact hr3_3 | with_reducible apply Row.drewC | with_reducible refine Row.allocC ?_ _ | with_reducible refine Row.setC ?_ ?_ _ | exact (fun h => hgT (es3 _ h))))) (Nat.le_trans ea3 eb3)).mono ?_
      rw [HK4.out]
      rintro e4 w4 ⟨rfl, hr3_4, hb4⟩
      have hC4 : Chg (fun b => b = g ∨ T k b) wr w4 := Chg.trans (b := _) (by (repeat (first | with_reducible exact hC3 | with_reducible apply Chg.drew | with_reducible refine Chg.alloc ?_ _ | with_reducible refine Chg.setCell ?_ (.inl (.inl rfl)) _))) (hb4.mono (fun b _ h => .inr (es3 b h)))
      have hS4 : Shp w4 g (ty Auditor) (cap * 6) := Shp.ofc (by (repeat (first | with_reducible exact hS3 | with_reducible apply Shp.drew | with_reducible refine Shp.alloc ?_ _ | with_reducible refine Shp.set ?_ _ _))) hb4 (fun h => hgT (es3 _ h))
      have hr0_4 := Row.chg (show Row true _ eA0 ek0 (meL x.disk.files (K + 1 + 1)) eS0 from by (repeat (first | with_reducible exact hr0_3 | with_reducible apply Row.drewC | with_reducible refine Row.allocC ?_ _ | with_reducible refine Row.setC ?_ ?_ _ | exact (fun h => hgT (es0 _ h))))) hb4 (pwget4_0_3 epw_.out)
      have hr1_4 := Row.chg (show Row true _ eA1 ek1 (meL x.pool (K1)) eS1 from by (repeat (first | with_reducible exact hr1_3 | with_reducible apply Row.drewC | with_reducible refine Row.allocC ?_ _ | with_reducible refine Row.setC ?_ ?_ _ | exact (fun h => hgT (es1 _ h))))) hb4 (pwget4_1_3 epw_.out)
      have hr2_4 := Row.chg (show Row true _ eA2 ek2 (meL x.pins (K2)) eS2 from by (repeat (first | with_reducible exact hr2_3 | with_reducible apply Row.drewC | with_reducible refine Row.allocC ?_ _ | with_reducible refine Row.setC ?_ ?_ _ | exact (fun h => hgT (es2 _ h))))) hb4 (pwget4_2_3 epw_.out)
      have hc4 := fun o => hb4.cellC (p := ⟨g, o, none⟩) (Shp.lt (show Shp _ g (ty Auditor) (cap * 6) from by (repeat (first | with_reducible exact hS3 | with_reducible apply Shp.drew | with_reducible refine Shp.alloc ?_ _ | with_reducible refine Shp.set ?_ _ _)))) (fun h => hgT (es3 _ h))
      have hf4 := fun o => hS4.frozen o
      go_wp2
      go_roundw
      case rel =>
        refine ⟨k + 1, by omega, by go_num, by rw [hs2.out]; first | go_num | (congr 1; unfold Auditor.cn; have := HK1.out; have := HK2.out; have := HK3.out; have := HK4.out; omega), ?_, ?_⟩
        · refine Chg.trans hch (Chg.mono (show Chg (fun b => b = g ∨ T k b) wr _ from by (repeat (first | with_reducible exact hC4 | with_reducible apply Chg.drew | with_reducible refine Chg.alloc ?_ _ | with_reducible refine Chg.setCell ?_ (.inl (.inl rfl)) _))) (fun b _ h => h.elim (fun e => e ▸ hg) (fun h => (HT.out k b h).1)))
        · rw [hst.out, hme.out]
          refine Row.setN (N := 6) (T := T) (w := wr) (cs := [.int .i64 (((K) : Nat) : Int), .bool ((((K + 1) : Nat) : Int) % 3 == 0), .slice eA0 (meL x.disk.files (K + 1 + 1)).length ek0, .slice eA1 (meL x.pool (K1)).length ek1, .slice eA2 (meL x.pins (K2)).length ek2, .slice eA3 (meL x.pairs (K3)).length ek3]) rfl hg HT.out HD.out HE.out hlty (show Shp _ g (ty Auditor) (cap * 6) from by (repeat (first | with_reducible exact hS4 | with_reducible apply Shp.drew | with_reducible refine Shp.alloc ?_ _ | with_reducible refine Shp.set ?_ _ _))) (fun o ho => ?_) (show Chg (fun b => b = g ∨ T k b) wr _ from by (repeat (first | with_reducible exact hC4 | with_reducible apply Chg.drew | with_reducible refine Chg.alloc ?_ _ | with_reducible refine Chg.setCell ?_ (.inl (.inl rfl)) _))) ?_ ?_
          · have n0 : o ≠ k * 6 := by intro h; apply ho; rw [h]; omega
            have n1 : o ≠ k * 6 + 1 := by intro h; apply ho; rw [h]; omega
            have n2 : o ≠ k * 6 + 2 := by intro h; apply ho; rw [h]; omega
            have n3 : o ≠ k * 6 + 3 := by intro h; apply ho; rw [h]; omega
            have n4 : o ≠ k * 6 + 4 := by intro h; apply ho; rw [h]; omega
            have n5 : o ≠ k * 6 + 5 := by intro h; apply ho; rw [h]; omega
            simp only [hc4, hc3, hc2, hc1, cell_set_ne _ _ _ o _ n0, cell_set_ne _ _ _ o _ n1, cell_set_ne _ _ _ o _ n2, cell_set_ne _ _ _ o _ n3, cell_set_ne _ _ _ o _ n4, cell_set_ne _ _ _ o _ n5]
          · intro j u hu
            have hj : j < 6 := (List.getElem?_eq_some_iff.1 hu).1
            rcases (by omega : j = 0 ∨ j = 1 ∨ j = 2 ∨ j = 3 ∨ j = 4 ∨ j = 5) with rfl | rfl | rfl | rfl | rfl | rfl
            all_goals (have hu := Option.some.inj hu; subst hu; go_simp; try simp)
          · exact Auditor.mk' (m := true) (x := (⟨(((K) : Nat) : Int), ((((K + 1) : Nat) : Int) % 3 == 0), (⟨meL x.disk.files (K + 1 + 1)⟩ : Disk), meL x.pool (K1), meL x.pins (K2), meL x.pairs (K3)⟩ : Auditor)) (S := T k) (I64_nat (by have := HK1.out; have := HK2.out; have := HK3.out; have := HK4.out; omega)) (by rw [meL_length]; exact ea0) eb0 (show Row true _ eA0 ek0 (meL x.disk.files (K + 1 + 1)) eS0 from by (repeat (first | with_reducible exact hr0_4 | with_reducible apply Row.drewC | with_reducible refine Row.allocC ?_ _ | with_reducible refine Row.setC ?_ ?_ _ | exact (fun h => hgT (es0 _ h))))) es0 (by rw [meL_length]; exact ea1) eb1 (show Row true _ eA1 ek1 (meL x.pool (K1)) eS1 from by (repeat (first | with_reducible exact hr1_4 | with_reducible apply Row.drewC | with_reducible refine Row.allocC ?_ _ | with_reducible refine Row.setC ?_ ?_ _ | exact (fun h => hgT (es1 _ h))))) es1 (by rw [meL_length]; exact ea2) eb2 (show Row true _ eA2 ek2 (meL x.pins (K2)) eS2 from by (repeat (first | with_reducible exact hr2_4 | with_reducible apply Row.drewC | with_reducible refine Row.allocC ?_ _ | with_reducible refine Row.setC ?_ ?_ _ | exact (fun h => hgT (es2 _ h))))) es2 (by rw [meL_length]; exact ea3) eb3 (show Row true _ eA3 ek3 (meL x.pairs (K3)) eS3 from by (repeat (first | with_reducible exact hr3_4 | with_reducible apply Row.drewC | with_reducible refine Row.allocC ?_ _ | with_reducible refine Row.setC ?_ ?_ _ | exact (fun h => hgT (es3 _ h))))) es3 (fun _ => epw_.out)
      case measure => simp [intOf]; omega
    · have hke : k = xs.length := by omega
      go_wp2
      go_ret; subst hke; refine ⟨by rw [List.take_of_length_le (Nat.le_refl _)]; rfl, by simpa using hrow, hch⟩
set_option maxRecDepth 40000 in set_option maxHeartbeats 4000000 in
theorem mark_NoteS (xs : List Note) (w : World) (A : Option Addr) (cap : Nat) (S : Blks) (a : Int) (k0 : Nat) (ha : a = (k0 : Int)) (hk : k0 + cnL xs ≤ 4611686018427387904) (hx : Row true w A cap xs S) (hl : xs.length ≤ maxLen) :
    Calls Tryz.prog 79 #[.slice A xs.length cap, .int .i64 a] w fun e w' => e = .returned (.int .i64 ((k0 + cnL xs : Nat) : Int)) ∧ Row true w' A cap (meL xs k0) S ∧ Chg S w w' := by
  subst ha
  unfold maxLen at hl
  have hxx := hx
  rcases hx with ⟨rfl, rfl, rfl⟩ | ⟨g, cur_, rfl, hg, hh_, hcs_, _⟩
  · go_enter Tryz.func79, Tryz.ntmps79
    go_wp2
    go_loopw [1, 5] (fun l i wr => i = .int .i64 0 ∧ l = .int .i64 (k0 : Int) ∧ wr = w) (fun _ _ _ => 0)
    case atStart => exact ⟨rfl, rfl, rfl⟩
    case round =>
      obtain ⟨rfl, rfl, rfl⟩ := hrel
      go_wp2
      go_ret; exact ⟨rfl, .inl ⟨rfl, rfl, rfl⟩, Chg.refl _ _⟩
  have hsh0 : Shp w g (ty Note) (cap * 2) := ⟨cur_, hh_, hcs_⟩
  clear hh_ hcs_
  go_enter Tryz.func79, Tryz.ntmps79
  go_wp2
  go_loopw [1, 5] (fun l i wr => ∃ k : Nat, k ≤ xs.length ∧ i = .int .i64 k ∧ l = .int .i64 ((k0 + cnL (xs.take k) : Nat) : Int) ∧ Chg S w wr ∧ Row true wr (some ⟨g, 0, none⟩) cap (meL (xs.take k) k0 ++ xs.drop k) S) (fun _ i _ => xs.length - (intOf i).toNat)
  case atStart => exact ⟨0, Nat.zero_le _, rfl, by simp [cnL], Chg.refl _ _, by simpa [meL] using hxx⟩
  case round =>
    obtain ⟨k, hkk, rfl, rfl, hch, hrow⟩ := hrel
    clear hxx
    by_cases hlt : k < xs.length
    · have hylen : (meL (xs.take k) k0 ++ xs.drop k).length = xs.length := by simp; omega
      have hstep := meL_step xs k0 k hlt
      have hat := meL_at xs k0 k hlt (by rw [hylen]; exact hlt)
      generalize hys : meL (xs.take k) k0 ++ xs.drop k = ys at hrow hylen hat hstep
      have hlty : k < ys.length := by omega
      have hcs := cnL_take_succ xs k hlt
      have hcl := cnL_take_le xs (k + 1)
      generalize hK : k0 + cnL (xs.take k) = K at hstep
      generalize xs[k] = x at hat hcs hstep
      rw [show Mk.cn x = Note.cn x from rfl] at hcs
      have hs2 : Hid (k0 + cnL (xs.take (k + 1)) = K + Note.cn x) := Lib.hid (by omega)
      have hKb : K + Note.cn x ≤ 4611686018427387904 := by omega
      unfold Note.cn at hKb
      have hst : Hid (meL (xs.take (k + 1)) k0 ++ xs.drop (k + 1) = ys.set k (Note.me x K)) := Lib.hid hstep
      rcases hrow with ⟨h_, _⟩ | ⟨g2, cur, e_, _, hh, hcz, T, hT, hd, he⟩
      · cases h_
      cases e_
      have hsh : Shp wr g (ty Note) (cap * 2) := ⟨cur, hh, hcz⟩
      have hd := hd rfl
      have hgl := hsh.lt
      have hgT : ¬ T k g := fun h => (hT k g h).2 rfl
      obtain ⟨c1, ha1, hr1⟩ := he k hlty
      rw [hat] at hr1
      have HE := Lib.hid he; have HD := Lib.hid hd; have HT := Lib.hid hT
      clear hcs hcl hstep hat hys he hd hT hh hcz
      obtain ⟨rfl, ef0, ef1⟩ := Note.open hr1
      have q0 : wr.cell? ⟨g, k * 2, none⟩ = some (.int .i64 x.to) := by have := ha1 0 _ rfl; simpa [show Lay.n Note = 2 from rfl] using this
      have q1 : wr.cell? ⟨g, k * 2 + 1, none⟩ = some (.string x.text) := by have := ha1 1 _ rfl; simpa [show Lay.n Note = 2 from rfl] using this
      clear ha1
      have hf0 := fun o => hsh.frozen o
      have hme : Hid (Note.me x K = (⟨(((K) : Nat) : Int), mtext (K + 1)⟩ : Note)) := Lib.hid (by simp only [Note.me])
      have hKb0 : K + 2 ≤ 4611686018427387904 := by omega
      have hC0 : Chg (fun b => b = g ∨ T k b) wr wr := Chg.refl _ _
      have hS0 := hsh
      go_wp2_with (fail)
      refine (mark_Text _ (K + 1) (by first | rfl | omega | (simp; done)) (by omega) _).mono ?_
      rintro e1 w1 ⟨rfl, hb1⟩
      have hC1 : Chg (fun b => b = g ∨ T k b) wr w1 := Chg.trans (b := _) (by (repeat (first | with_reducible exact hC0 | with_reducible apply Chg.drew | with_reducible refine Chg.alloc ?_ _ | with_reducible refine Chg.setCell ?_ (.inl (.inl rfl)) _))) (hb1.chg_ (fun b => b = g ∨ T k b))
      have hS1 : Shp w1 g (ty Note) (cap * 2) := Shp.ofb (by (repeat (first | with_reducible exact hS0 | with_reducible apply Shp.drew | with_reducible refine Shp.alloc ?_ _ | with_reducible refine Shp.set ?_ _ _))) hb1
      have hc1 := fun o => hb1.cell (p := ⟨g, o, none⟩) (Shp.lt (show Shp _ g (ty Note) (cap * 2) from by (repeat (first | with_reducible exact hS0 | with_reducible apply Shp.drew | with_reducible refine Shp.alloc ?_ _ | with_reducible refine Shp.set ?_ _ _))))
      have hf1 := fun o => hS1.frozen o
      go_wp2
      go_roundw
      case rel =>
        refine ⟨k + 1, by omega, by go_num, by rw [hs2.out]; first | go_num | (congr 1; unfold Note.cn; omega), ?_, ?_⟩
        · refine Chg.trans hch (Chg.mono (show Chg (fun b => b = g ∨ T k b) wr _ from by (repeat (first | with_reducible exact hC1 | with_reducible apply Chg.drew | with_reducible refine Chg.alloc ?_ _ | with_reducible refine Chg.setCell ?_ (.inl (.inl rfl)) _))) (fun b _ h => h.elim (fun e => e ▸ hg) (fun h => (HT.out k b h).1)))
        · rw [hst.out, hme.out]
          refine Row.setN (N := 2) (T := T) (w := wr) (cs := [.int .i64 (((K) : Nat) : Int), .string (mtext (K + 1))]) rfl hg HT.out HD.out HE.out hlty (show Shp _ g (ty Note) (cap * 2) from by (repeat (first | with_reducible exact hS1 | with_reducible apply Shp.drew | with_reducible refine Shp.alloc ?_ _ | with_reducible refine Shp.set ?_ _ _))) (fun o ho => ?_) (show Chg (fun b => b = g ∨ T k b) wr _ from by (repeat (first | with_reducible exact hC1 | with_reducible apply Chg.drew | with_reducible refine Chg.alloc ?_ _ | with_reducible refine Chg.setCell ?_ (.inl (.inl rfl)) _))) ?_ ?_
          · have n0 : o ≠ k * 2 := by intro h; apply ho; rw [h]; omega
            have n1 : o ≠ k * 2 + 1 := by intro h; apply ho; rw [h]; omega
            simp only [hc1, cell_set_ne _ _ _ o _ n0, cell_set_ne _ _ _ o _ n1]
          · intro j u hu
            have hj : j < 2 := (List.getElem?_eq_some_iff.1 hu).1
            rcases (by omega : j = 0 ∨ j = 1) with rfl | rfl
            all_goals (have hu := Option.some.inj hu; subst hu; go_simp; try simp)
          · exact Note.mk' (m := true) (x := (⟨(((K) : Nat) : Int), mtext (K + 1)⟩ : Note)) (S := T k) (I64_nat (by omega)) (mtext_size (K + 1) (by omega))
      case measure => simp [intOf]; omega
    · have hke : k = xs.length := by omega
      go_wp2
      go_ret; subst hke; refine ⟨by rw [List.take_of_length_le (Nat.le_refl _)]; rfl, by simpa using hrow, hch⟩
set_option maxRecDepth 40000 in set_option maxHeartbeats 4000000 in
theorem mark_GivenS (xs : List Given) (w : World) (A : Option Addr) (cap : Nat) (S : Blks) (a : Int) (k0 : Nat) (ha : a = (k0 : Int)) (hk : k0 + cnL xs ≤ 4611686018427387904) (hx : Row true w A cap xs S) (hl : xs.length ≤ maxLen) :
    Calls Tryz.prog 80 #[.slice A xs.length cap, .int .i64 a] w fun e w' => e = .returned (.int .i64 ((k0 + cnL xs : Nat) : Int)) ∧ Row true w' A cap (meL xs k0) S ∧ Chg S w w' := by
  subst ha
  unfold maxLen at hl
  have hxx := hx
  rcases hx with ⟨rfl, rfl, rfl⟩ | ⟨g, cur_, rfl, hg, hh_, hcs_, _⟩
  · go_enter Tryz.func80, Tryz.ntmps80
    go_wp2
    go_loopw [1, 5] (fun l i wr => i = .int .i64 0 ∧ l = .int .i64 (k0 : Int) ∧ wr = w) (fun _ _ _ => 0)
    case atStart => exact ⟨rfl, rfl, rfl⟩
    case round =>
      obtain ⟨rfl, rfl, rfl⟩ := hrel
      go_wp2
      go_ret; exact ⟨rfl, .inl ⟨rfl, rfl, rfl⟩, Chg.refl _ _⟩
  have hsh0 : Shp w g (ty Given) (cap * 7) := ⟨cur_, hh_, hcs_⟩
  clear hh_ hcs_
  go_enter Tryz.func80, Tryz.ntmps80
  go_wp2
  go_loopw [1, 5] (fun l i wr => ∃ k : Nat, k ≤ xs.length ∧ i = .int .i64 k ∧ l = .int .i64 ((k0 + cnL (xs.take k) : Nat) : Int) ∧ Chg S w wr ∧ Row true wr (some ⟨g, 0, none⟩) cap (meL (xs.take k) k0 ++ xs.drop k) S) (fun _ i _ => xs.length - (intOf i).toNat)
  case atStart => exact ⟨0, Nat.zero_le _, rfl, by simp [cnL], Chg.refl _ _, by simpa [meL] using hxx⟩
  case round =>
    obtain ⟨k, hkk, rfl, rfl, hch, hrow⟩ := hrel
    clear hxx
    by_cases hlt : k < xs.length
    · have hylen : (meL (xs.take k) k0 ++ xs.drop k).length = xs.length := by simp; omega
      have hstep := meL_step xs k0 k hlt
      have hat := meL_at xs k0 k hlt (by rw [hylen]; exact hlt)
      generalize hys : meL (xs.take k) k0 ++ xs.drop k = ys at hrow hylen hat hstep
      have hlty : k < ys.length := by omega
      have hcs := cnL_take_succ xs k hlt
      have hcl := cnL_take_le xs (k + 1)
      generalize hK : k0 + cnL (xs.take k) = K at hstep
      generalize xs[k] = x at hat hcs hstep
      rw [show Mk.cn x = Given.cn x from rfl] at hcs
      have hs2 : Hid (k0 + cnL (xs.take (k + 1)) = K + Given.cn x) := Lib.hid (by omega)
      have hKb : K + Given.cn x ≤ 4611686018427387904 := by omega
      unfold Given.cn at hKb
      have hst : Hid (meL (xs.take (k + 1)) k0 ++ xs.drop (k + 1) = ys.set k (Given.me x K)) := Lib.hid hstep
      rcases hrow with ⟨h_, _⟩ | ⟨g2, cur, e_, _, hh, hcz, T, hT, hd, he⟩
      · cases h_
      cases e_
      have hsh : Shp wr g (ty Given) (cap * 7) := ⟨cur, hh, hcz⟩
      have hd := hd rfl
      have hgl := hsh.lt
      have hgT : ¬ T k g := fun h => (hT k g h).2 rfl
      obtain ⟨c1, ha1, hr1⟩ := he k hlty
      rw [hat] at hr1
      have HE := Lib.hid he; have HD := Lib.hid hd; have HT := Lib.hid hT
      clear hcs hcl hstep hat hys he hd hT hh hcz
      obtain ⟨eA0, ek0, eS0, eA1, ek1, eS1, eA2, ek2, eS2, rfl, ef0, ef1, ef2, ef3, ea0, eb0, er0, es0, ea1, eb1, er1, es1, ea2, eb2, er2, es2, epw⟩ := Given.open hr1
      have epw_ := Lib.hid (epw rfl); clear epw
      have q0 : wr.cell? ⟨g, k * 7, none⟩ = some (.int .i64 x.house) := by have := ha1 0 _ rfl; simpa [show Lay.n Given = 7 from rfl] using this
      have q1 : wr.cell? ⟨g, k * 7 + 1, none⟩ = some (.int .i64 x.epoch) := by have := ha1 1 _ rfl; simpa [show Lay.n Given = 7 from rfl] using this
      have q2 : wr.cell? ⟨g, k * 7 + 2, none⟩ = some (.int .i64 x.stamp.by_) := by have := ha1 2 _ rfl; simpa [show Lay.n Given = 7 from rfl] using this
      have q3 : wr.cell? ⟨g, k * 7 + 3, none⟩ = some (.int .i64 x.stamp.sig.at_) := by have := ha1 3 _ rfl; simpa [show Lay.n Given = 7 from rfl] using this
      have q4 : wr.cell? ⟨g, k * 7 + 4, none⟩ = some (.slice eA0 x.stamp.sig.open_.length ek0) := by have := ha1 4 _ rfl; simpa [show Lay.n Given = 7 from rfl] using this
      have q5 : wr.cell? ⟨g, k * 7 + 5, none⟩ = some (.slice eA1 x.stamp.sig.shut.length ek1) := by have := ha1 5 _ rfl; simpa [show Lay.n Given = 7 from rfl] using this
      have q6 : wr.cell? ⟨g, k * 7 + 6, none⟩ = some (.slice eA2 x.stamp.sig.sides.length ek2) := by have := ha1 6 _ rfl; simpa [show Lay.n Given = 7 from rfl] using this
      clear ha1
      have hf0 := fun o => hsh.frozen o
      obtain ⟨K1, hK1⟩ : ∃ q, K + 1 + 1 + 1 + 1 + cnL x.stamp.sig.open_ = q := ⟨_, rfl⟩
      have HK1 := Lib.hid hK1; clear hK1
      obtain ⟨K2, hK2⟩ : ∃ q, K1 + cnL x.stamp.sig.shut = q := ⟨_, rfl⟩
      have HK2 := Lib.hid hK2; clear hK2
      obtain ⟨K3, hK3⟩ : ∃ q, K2 + cnL x.stamp.sig.sides = q := ⟨_, rfl⟩
      have HK3 := Lib.hid hK3; clear hK3
      have hme : Hid (Given.me x K = (⟨(((K) : Nat) : Int), (((K + 1) : Nat) : Int), (⟨(((K + 1 + 1) : Nat) : Int), (⟨(((K + 1 + 1 + 1) : Nat) : Int), meL x.stamp.sig.open_ (K + 1 + 1 + 1 + 1), meL x.stamp.sig.shut (K1), meL x.stamp.sig.sides (K2)⟩ : Sig)⟩ : Stamp)⟩ : Given)) := Lib.hid (by simp only [Given.me, HK1.out, HK2.out, HK3.out])
      have hKb0 : K + 4 ≤ 4611686018427387904 := by have := HK1.out; have := HK2.out; have := HK3.out; omega
      have hKb1 : K1 + 0 ≤ 4611686018427387904 := by have := HK1.out; have := HK2.out; have := HK3.out; omega
      have hKb2 : K2 + 0 ≤ 4611686018427387904 := by have := HK1.out; have := HK2.out; have := HK3.out; omega
      have hKb3 : K3 + 0 ≤ 4611686018427387904 := by have := HK1.out; have := HK2.out; have := HK3.out; omega
      have hC0 : Chg (fun b => b = g ∨ T k b) wr wr := Chg.refl _ _
      have hS0 := hsh
      go_wp2_with (fail)
      refine (mark_StringS x.stamp.sig.open_ _ _ _ _ _ (K + 1 + 1 + 1 + 1) (by first | rfl | omega | (simp; done)) (by have := HK1.out; omega) (show Row true _ eA0 ek0 x.stamp.sig.open_ eS0 from by (repeat (first | with_reducible exact er0 | with_reducible apply Row.drewC | with_reducible refine Row.allocC ?_ _ | with_reducible refine Row.setC ?_ ?_ _ | exact (fun h => hgT (es0 _ h))))) (Nat.le_trans ea0 eb0)).mono ?_
      rw [HK1.out]
      rintro e1 w1 ⟨rfl, hr0_1, hb1⟩
      have hC1 : Chg (fun b => b = g ∨ T k b) wr w1 := Chg.trans (b := _) (by (repeat (first | with_reducible exact hC0 | with_reducible apply Chg.drew | with_reducible refine Chg.alloc ?_ _ | with_reducible refine Chg.setCell ?_ (.inl (.inl rfl)) _))) (hb1.mono (fun b _ h => .inr (es0 b h)))
      have hS1 : Shp w1 g (ty Given) (cap * 7) := Shp.ofc (by (repeat (first | with_reducible exact hS0 | with_reducible apply Shp.drew | with_reducible refine Shp.alloc ?_ _ | with_reducible refine Shp.set ?_ _ _))) hb1 (fun h => hgT (es0 _ h))
      have hr1_1 := Row.chg (show Row true _ eA1 ek1 x.stamp.sig.shut eS1 from by (repeat (first | with_reducible exact er1 | with_reducible apply Row.drewC | with_reducible refine Row.allocC ?_ _ | with_reducible refine Row.setC ?_ ?_ _ | exact (fun h => hgT (es1 _ h))))) hb1 (disj_symm (pwget3_0_1 epw_.out))
      have hr2_1 := Row.chg (show Row true _ eA2 ek2 x.stamp.sig.sides eS2 from by (repeat (first | with_reducible exact er2 | with_reducible apply Row.drewC | with_reducible refine Row.allocC ?_ _ | with_reducible refine Row.setC ?_ ?_ _ | exact (fun h => hgT (es2 _ h))))) hb1 (disj_symm (pwget3_0_2 epw_.out))
      have hc1 := fun o => hb1.cellC (p := ⟨g, o, none⟩) (Shp.lt (show Shp _ g (ty Given) (cap * 7) from by (repeat (first | with_reducible exact hS0 | with_reducible apply Shp.drew | with_reducible refine Shp.alloc ?_ _ | with_reducible refine Shp.set ?_ _ _)))) (fun h => hgT (es0 _ h))
      have hf1 := fun o => hS1.frozen o
      go_wp2_with (fail)
      refine (mark_StringS x.stamp.sig.shut _ _ _ _ _ (K1) (by first | rfl | omega | (simp; done)) (by have := HK2.out; omega) (show Row true _ eA1 ek1 x.stamp.sig.shut eS1 from by (repeat (first | with_reducible exact hr1_1 | with_reducible apply Row.drewC | with_reducible refine Row.allocC ?_ _ | with_reducible refine Row.setC ?_ ?_ _ | exact (fun h => hgT (es1 _ h))))) (Nat.le_trans ea1 eb1)).mono ?_
      rw [HK2.out]
      rintro e2 w2 ⟨rfl, hr1_2, hb2⟩
      have hC2 : Chg (fun b => b = g ∨ T k b) wr w2 := Chg.trans (b := _) (by (repeat (first | with_reducible exact hC1 | with_reducible apply Chg.drew | with_reducible refine Chg.alloc ?_ _ | with_reducible refine Chg.setCell ?_ (.inl (.inl rfl)) _))) (hb2.mono (fun b _ h => .inr (es1 b h)))
      have hS2 : Shp w2 g (ty Given) (cap * 7) := Shp.ofc (by (repeat (first | with_reducible exact hS1 | with_reducible apply Shp.drew | with_reducible refine Shp.alloc ?_ _ | with_reducible refine Shp.set ?_ _ _))) hb2 (fun h => hgT (es1 _ h))
      have hr0_2 := Row.chg (show Row true _ eA0 ek0 (meL x.stamp.sig.open_ (K + 1 + 1 + 1 + 1)) eS0 from by (repeat (first | with_reducible exact hr0_1 | with_reducible apply Row.drewC | with_reducible refine Row.allocC ?_ _ | with_reducible refine Row.setC ?_ ?_ _ | exact (fun h => hgT (es0 _ h))))) hb2 (pwget3_0_1 epw_.out)
      have hr2_2 := Row.chg (show Row true _ eA2 ek2 x.stamp.sig.sides eS2 from by (repeat (first | with_reducible exact hr2_1 | with_reducible apply Row.drewC | with_reducible refine Row.allocC ?_ _ | with_reducible refine Row.setC ?_ ?_ _ | exact (fun h => hgT (es2 _ h))))) hb2 (disj_symm (pwget3_1_2 epw_.out))
      have hc2 := fun o => hb2.cellC (p := ⟨g, o, none⟩) (Shp.lt (show Shp _ g (ty Given) (cap * 7) from by (repeat (first | with_reducible exact hS1 | with_reducible apply Shp.drew | with_reducible refine Shp.alloc ?_ _ | with_reducible refine Shp.set ?_ _ _)))) (fun h => hgT (es1 _ h))
      have hf2 := fun o => hS2.frozen o
      go_wp2_with (fail)
      refine (mark_StringS x.stamp.sig.sides _ _ _ _ _ (K2) (by first | rfl | omega | (simp; done)) (by have := HK3.out; omega) (show Row true _ eA2 ek2 x.stamp.sig.sides eS2 from by (repeat (first | with_reducible exact hr2_2 | with_reducible apply Row.drewC | with_reducible refine Row.allocC ?_ _ | with_reducible refine Row.setC ?_ ?_ _ | exact (fun h => hgT (es2 _ h))))) (Nat.le_trans ea2 eb2)).mono ?_
      rw [HK3.out]
      rintro e3 w3 ⟨rfl, hr2_3, hb3⟩
      have hC3 : Chg (fun b => b = g ∨ T k b) wr w3 := Chg.trans (b := _) (by (repeat (first | with_reducible exact hC2 | with_reducible apply Chg.drew | with_reducible refine Chg.alloc ?_ _ | with_reducible refine Chg.setCell ?_ (.inl (.inl rfl)) _))) (hb3.mono (fun b _ h => .inr (es2 b h)))
      have hS3 : Shp w3 g (ty Given) (cap * 7) := Shp.ofc (by (repeat (first | with_reducible exact hS2 | with_reducible apply Shp.drew | with_reducible refine Shp.alloc ?_ _ | with_reducible refine Shp.set ?_ _ _))) hb3 (fun h => hgT (es2 _ h))
      have hr0_3 := Row.chg (show Row true _ eA0 ek0 (meL x.stamp.sig.open_ (K + 1 + 1 + 1 + 1)) eS0 from by (repeat (first | with_reducible exact hr0_2 | with_reducible apply Row.drewC | with_reducible refine Row.allocC ?_ _ | with_reducible refine Row.setC ?_ ?_ _ | exact (fun h => hgT (es0 _ h))))) hb3 (pwget3_0_2 epw_.out)
      have hr1_3 := Row.chg (show Row true _ eA1 ek1 (meL x.stamp.sig.shut (K1)) eS1 from by (repeat (first | with_reducible exact hr1_2 | with_reducible apply Row.drewC | with_reducible refine Row.allocC ?_ _ | with_reducible refine Row.setC ?_ ?_ _ | exact (fun h => hgT (es1 _ h))))) hb3 (pwget3_1_2 epw_.out)
      have hc3 := fun o => hb3.cellC (p := ⟨g, o, none⟩) (Shp.lt (show Shp _ g (ty Given) (cap * 7) from by (repeat (first | with_reducible exact hS2 | with_reducible apply Shp.drew | with_reducible refine Shp.alloc ?_ _ | with_reducible refine Shp.set ?_ _ _)))) (fun h => hgT (es2 _ h))
      have hf3 := fun o => hS3.frozen o
      go_wp2
      go_roundw
      case rel =>
        refine ⟨k + 1, by omega, by go_num, by rw [hs2.out]; first | go_num | (congr 1; unfold Given.cn; have := HK1.out; have := HK2.out; have := HK3.out; omega), ?_, ?_⟩
        · refine Chg.trans hch (Chg.mono (show Chg (fun b => b = g ∨ T k b) wr _ from by (repeat (first | with_reducible exact hC3 | with_reducible apply Chg.drew | with_reducible refine Chg.alloc ?_ _ | with_reducible refine Chg.setCell ?_ (.inl (.inl rfl)) _))) (fun b _ h => h.elim (fun e => e ▸ hg) (fun h => (HT.out k b h).1)))
        · rw [hst.out, hme.out]
          refine Row.setN (N := 7) (T := T) (w := wr) (cs := [.int .i64 (((K) : Nat) : Int), .int .i64 (((K + 1) : Nat) : Int), .int .i64 (((K + 1 + 1) : Nat) : Int), .int .i64 (((K + 1 + 1 + 1) : Nat) : Int), .slice eA0 (meL x.stamp.sig.open_ (K + 1 + 1 + 1 + 1)).length ek0, .slice eA1 (meL x.stamp.sig.shut (K1)).length ek1, .slice eA2 (meL x.stamp.sig.sides (K2)).length ek2]) rfl hg HT.out HD.out HE.out hlty (show Shp _ g (ty Given) (cap * 7) from by (repeat (first | with_reducible exact hS3 | with_reducible apply Shp.drew | with_reducible refine Shp.alloc ?_ _ | with_reducible refine Shp.set ?_ _ _))) (fun o ho => ?_) (show Chg (fun b => b = g ∨ T k b) wr _ from by (repeat (first | with_reducible exact hC3 | with_reducible apply Chg.drew | with_reducible refine Chg.alloc ?_ _ | with_reducible refine Chg.setCell ?_ (.inl (.inl rfl)) _))) ?_ ?_
          · have n0 : o ≠ k * 7 := by intro h; apply ho; rw [h]; omega
            have n1 : o ≠ k * 7 + 1 := by intro h; apply ho; rw [h]; omega
            have n2 : o ≠ k * 7 + 2 := by intro h; apply ho; rw [h]; omega
            have n3 : o ≠ k * 7 + 3 := by intro h; apply ho; rw [h]; omega
            have n4 : o ≠ k * 7 + 4 := by intro h; apply ho; rw [h]; omega
            have n5 : o ≠ k * 7 + 5 := by intro h; apply ho; rw [h]; omega
            have n6 : o ≠ k * 7 + 6 := by intro h; apply ho; rw [h]; omega
            simp only [hc3, hc2, hc1, cell_set_ne _ _ _ o _ n0, cell_set_ne _ _ _ o _ n1, cell_set_ne _ _ _ o _ n2, cell_set_ne _ _ _ o _ n3, cell_set_ne _ _ _ o _ n4, cell_set_ne _ _ _ o _ n5, cell_set_ne _ _ _ o _ n6]
          · intro j u hu
            have hj : j < 7 := (List.getElem?_eq_some_iff.1 hu).1
            rcases (by omega : j = 0 ∨ j = 1 ∨ j = 2 ∨ j = 3 ∨ j = 4 ∨ j = 5 ∨ j = 6) with rfl | rfl | rfl | rfl | rfl | rfl | rfl
            all_goals (have hu := Option.some.inj hu; subst hu; go_simp; try simp)
          · exact Given.mk' (m := true) (x := (⟨(((K) : Nat) : Int), (((K + 1) : Nat) : Int), (⟨(((K + 1 + 1) : Nat) : Int), (⟨(((K + 1 + 1 + 1) : Nat) : Int), meL x.stamp.sig.open_ (K + 1 + 1 + 1 + 1), meL x.stamp.sig.shut (K1), meL x.stamp.sig.sides (K2)⟩ : Sig)⟩ : Stamp)⟩ : Given)) (S := T k) (I64_nat (by have := HK1.out; have := HK2.out; have := HK3.out; omega)) (I64_nat (by have := HK1.out; have := HK2.out; have := HK3.out; omega)) (I64_nat (by have := HK1.out; have := HK2.out; have := HK3.out; omega)) (I64_nat (by have := HK1.out; have := HK2.out; have := HK3.out; omega)) (by rw [meL_length]; exact ea0) eb0 (show Row true _ eA0 ek0 (meL x.stamp.sig.open_ (K + 1 + 1 + 1 + 1)) eS0 from by (repeat (first | with_reducible exact hr0_3 | with_reducible apply Row.drewC | with_reducible refine Row.allocC ?_ _ | with_reducible refine Row.setC ?_ ?_ _ | exact (fun h => hgT (es0 _ h))))) es0 (by rw [meL_length]; exact ea1) eb1 (show Row true _ eA1 ek1 (meL x.stamp.sig.shut (K1)) eS1 from by (repeat (first | with_reducible exact hr1_3 | with_reducible apply Row.drewC | with_reducible refine Row.allocC ?_ _ | with_reducible refine Row.setC ?_ ?_ _ | exact (fun h => hgT (es1 _ h))))) es1 (by rw [meL_length]; exact ea2) eb2 (show Row true _ eA2 ek2 (meL x.stamp.sig.sides (K2)) eS2 from by (repeat (first | with_reducible exact hr2_3 | with_reducible apply Row.drewC | with_reducible refine Row.allocC ?_ _ | with_reducible refine Row.setC ?_ ?_ _ | exact (fun h => hgT (es2 _ h))))) es2 (fun _ => epw_.out)
      case measure => simp [intOf]; omega
    · have hke : k = xs.length := by omega
      go_wp2
      go_ret; subst hke; refine ⟨by rw [List.take_of_length_le (Nat.le_refl _)]; rfl, by simpa using hrow, hch⟩
end Go.Proofs.YthgonaodmpegfaaGreatDoor
