/- A part of the proof: what the laws need of it. -/
import Derived.Deep.DeepCutAuto
import Derived.Deep.CutBlock
import Derived.Test.YtgllafgpmenjjaaGreatDoorHPaXv
set_option linter.unusedVariables false
set_option linter.unusedSimpArgs false
set_option linter.unusedVariables false
set_option linter.unusedSimpArgs false
namespace Go.Proofs.YtgllafgpmenjjaaGreatDoor
open Go.RowKit Lay Mk
theorem past_two (w : World) : Below w.heap.size w ((w.alloc (.cells #[.slice none 0 0, .int .i64 0, .int .i64 0] 51)).alloc (.cells #[.slice none 0 0] 79)) ∧ ((w.alloc (.cells #[.slice none 0 0, .int .i64 0, .int .i64 0] 51)).alloc (.cells #[.slice none 0 0] 79)).heap.size = w.heap.size + 1 + 1 ∧ ((w.alloc (.cells #[.slice none 0 0, .int .i64 0, .int .i64 0] 51)).alloc (.cells #[.slice none 0 0] 79)).heap[w.heap.size]? = some (.cells #[.slice none 0 0, .int .i64 0, .int .i64 0] 51 (0, 0)) ∧ ((w.alloc (.cells #[.slice none 0 0, .int .i64 0, .int .i64 0] 51)).alloc (.cells #[.slice none 0 0] 79)).heap[w.heap.size + 1]? = some (.cells #[.slice none 0 0] 79 (0, 0)) := by
  refine ⟨((Below.refl _ _).alloc (Nat.le_refl _) _).alloc (by simp) _, by simp, ?_, ?_⟩
  · rw [Below.heap_alloc _ _ _ (by simp)]; exact heap_alloc_new w _
  · have := heap_alloc_new (w.alloc (.cells #[.slice none 0 0, .int .i64 0, .int .i64 0] 51)) (.cells #[.slice none 0 0] 79)
    rw [World.size_alloc] at this; exact this
theorem cur_lt {w : World} {g : Nat} {xs : List UInt8} {A : Option Addr} {cap : Nat} (h : Cur w g xs A cap) : g < w.heap.size := by
  obtain ⟨i, h, _, h2⟩ := h; exact (Array.getElem?_eq_some_iff.1 h2).1
theorem wholes_put {w w1 : World} {g c m : Nat} {x0 : Whole} {R : List Whole} {L : List Leaf} {A' : Option Addr} {c' : Nat} (h : Row (α := Bor Whole) true w (some ⟨g, 0, none⟩) c (x0 :: R) (nw m)) (hb : Below w.heap.size w w1) (hr : Row false w1 A' c' L (nw w.heap.size)) (hl : L.length ≤ c') (hm : c' ≤ maxLen) :
    Row (α := Whole) false (w1.setCell ⟨g, 0, none⟩ (.slice A' L.length c')) (some ⟨g, 0, none⟩) c ((⟨⟨L, x0.proof.sides⟩, x0.tops, x0.seal_, x0.stamps⟩ : Whole) :: R) (nw m) := by
  rcases h with ⟨h, _⟩ | ⟨g1, cur, e, hg, h1, h2, h3⟩
  · cases h
  injection e with e
  injection e with e
  subst e
  have hgl : g < w.heap.size := heap_lt h1
  have h3 := h3.tight
  obtain ⟨T, t1, -, t3⟩ := h3
  have hmg : m ≤ g := hg
  intro _
  refine ⟨g, 0, rfl, hg, fun i => match i with | 0 => (fun b => T 0 b ∨ w.heap.size ≤ b) | j + 1 => T (j + 1), fun i b hb2 => ?_, fun hm => (by cases hm), fun i hi => ?_⟩
  · show m ≤ b
    rcases i with _ | i
    · have hb2 : T 0 b ∨ w.heap.size ≤ b := hb2
      rcases hb2 with hb2 | hb2
      · exact (t1 0 b hb2).1.1
      · omega
    · have hb2 : T (i + 1) b := hb2
      exact (t1 (i + 1) b hb2).1.1
  have hkeep : ∀ j b, T j b → (w1.setCell ⟨g, 0, none⟩ (.slice A' L.length c')).heap[b]? = w.heap[b]? := fun j b hj => by
    have q1 := (t1 j b hj).1.2
    have q2 : b < w.heap.size := (t1 j b hj).2
    rw [Below.heap_setCell w1 _ _ b (fun e => q1 e)]
    exact hb.block b q2
  have hcell : ∀ o u, o ≠ 0 → w.cell? ⟨g, o, none⟩ = some u → (w1.setCell ⟨g, 0, none⟩ (.slice A' L.length c')).cell? ⟨g, o, none⟩ = some u := fun o u ho hu => by
    rw [World.cell?_setCell_other _ _ _ _ (fun e => ho (by injection e with e1 e2; exact e2.symm))]
    exact (hb.cell (p := ⟨g, o, none⟩) hgl).trans hu
  rcases i with _ | j
  · skip
    obtain ⟨cs, h4, h5⟩ := t3 0 (Nat.succ_pos _)
    obtain ⟨A0, k0, S0, A1, k1, S1, A2, k2, S2, A3, k3, S3, A4, k4, S4, A5, k5, S5, A6, k6, S6, e, f3, f4, f5, f6, f7, a0, b0, r0, s0, a1, b1, r1, s1, a2, b2, r2, s2, a3, b3, r3, s3, a4, b4, r4, s4, a5, b5, r5, s5, a6, b6, r6, s6, -⟩ := Whole.open (x := x0) (show rd (α := Whole) false w cs x0 (T 0) from h5)
    subst e
    rw [show n (Bor Whole) = 12 from rfl] at h4
    simp only [Nat.zero_mul, Nat.add_zero] at h4
    have K : ∀ {α : Type} [Lay α] {A : Option Addr} {k : Nat} {xs : List α} {U : Blks}, Row false w A k xs U → sub U (T 0) → Row false (w1.setCell ⟨g, 0, none⟩ (.slice A' L.length c')) A k xs U := fun r s => r.keep (fun b hb2 => hkeep 0 b (s b hb2))
    refine ⟨Whole.cs (⟨⟨L, x0.proof.sides⟩, x0.tops, x0.seal_, x0.stamps⟩ : Whole) A' c' A1 k1 A2 k2 A3 k3 A4 k4 A5 k5 A6 k6, ?_, ?_⟩
    · rw [show n Whole = 12 from rfl, Nat.zero_mul, Nat.add_zero]
      intro j u hj
      by_cases hj0 : j = 0
      · subst hj0
        have hu : u = .slice A' L.length c' := by
          have : Value.slice A' L.length c' = u := by simpa [Whole.cs] using hj
          exact this.symm
        rw [hu]
        exact World.cell?_setCell_same _ _ _ ((hb.cell (p := ⟨g, 0 + 0, none⟩) hgl).trans (h4 0 _ rfl))
      · refine hcell (0 + j) u (by omega) (h4 j u ?_)
        rw [← hj]
        unfold Whole.cs
        rcases j with _ | j
        · exact absurd rfl hj0
        · rfl
    · show rd (α := Whole) false _ _ (⟨⟨L, x0.proof.sides⟩, x0.tops, x0.seal_, x0.stamps⟩ : Whole) (fun b => T 0 b ∨ w.heap.size ≤ b)
      exact Whole.mk' (m := false) (x := ⟨⟨L, x0.proof.sides⟩, x0.tops, x0.seal_, x0.stamps⟩) (S0 := nw w.heap.size) hl hm (hr.tight.keep (fun b hb2 => Below.heap_setCell w1 ⟨g, 0, none⟩ _ b (fun e => by have e : b = g := e; have h9 : w.heap.size ≤ b := hb2.1; omega)) |>.mono (fun b hb2 => hb2.1)) (fun b hb2 => Or.inr hb2) a1 b1 (K r1 s1) (fun b hb2 => Or.inl (s1 b hb2)) a2 b2 (K r2 s2) (fun b hb2 => Or.inl (s2 b hb2)) f3 f4 f5 f6 f7 a3 b3 (K r3 s3) (fun b hb2 => Or.inl (s3 b hb2)) a4 b4 (K r4 s4) (fun b hb2 => Or.inl (s4 b hb2)) a5 b5 (K r5 s5) (fun b hb2 => Or.inl (s5 b hb2)) a6 b6 (K r6 s6) (fun b hb2 => Or.inl (s6 b hb2)) (fun hm => by cases hm)
  · obtain ⟨cs, h4, h5⟩ := t3 (j + 1) hi
    refine ⟨cs, fun q u hq => ?_, Lay.keep (α := Whole) (show rd (α := Whole) false w cs _ _ from h5) (fun b hb2 => hkeep (j + 1) b hb2)⟩
    rw [show n Whole = 12 from rfl]
    refine hcell _ u (by omega) ?_
    have := h4 q u hq
    rw [show n (Bor Whole) = 12 from rfl] at this
    exact this
set_option maxRecDepth 20000 in set_option maxHeartbeats 8000000 in
theorem spec_DrawPast (w : World) (xs : List UInt8) (A : Option Addr) (cap : Nat) (S : Blks) (hx : Row false w A cap xs S) (hS : ∀ b, S b → b < w.heap.size) (hl : xs.length ≤ 1048576) : Calls Tryz.prog 26 #[.slice A xs.length cap] w fun e w' => PastRes w e w' ∧ Below w.heap.size w w' := by
  go_enter Tryz.func26, Tryz.ntmps26
  go_wp2_with (fail)
  obtain ⟨b0, s0, y2, y5⟩ := past_two w
  obtain ⟨W0, hW0⟩ : ∃ W, (w.alloc (.cells #[.slice none 0 0, .int .i64 0, .int .i64 0] 51)).alloc (.cells #[.slice none 0 0] 79) = W := ⟨_, rfl⟩
  rw [hW0] at b0 s0 y2 y5 ⊢
  clear hW0
  refine (spec_l01New W0 xs A cap S (Row.later hx b0) hl).mono ?_
  rintro e1 w1 ⟨g, rfl, hg, hc, hb1⟩
  have hgl := cur_lt hc
  have s1 := hb1.size
  have b1 := b0.trans (hb1.mono (by omega))
  have y2 := (hb1.block w.heap.size (by omega)).trans y2
  have y5 := (hb1.block (w.heap.size + 1) (by omega)).trans y5
  go_wp2_with (fail)
  refine (spec_l27Past w1 g xs A cap S hc (Row.later hx b1) (fun b h => by have := hS b h; omega) hgl hl).mono ?_
  rintro e2 w2 ⟨⟨k, hn, nm, X, hs, A1, c1, Ap, cp, m, rfl, hk, hh, hnm, hM, h1, l1, q1, hl2, hcm, hm, r1, rX⟩, cu, ch⟩
  have s2 := ch.size
  have y2 := (ch.block w.heap.size (by omega) (by omega)).trans y2
  have y5 := (ch.block (w.heap.size + 1) (by omega) (by omega)).trans y5
  have b2 : Below w.heap.size w w2 := b1.trans (ch.to_below (by omega) (fun b h => by rcases h with h | h <;> omega))
  have a0 := box_at (i := 0) y2 rfl
  have a1 := box_at (i := 1) y2 rfl
  have a2 := box_at (i := 2) y2 rfl
  have af := box_fz y2
  have d0 := box_at (i := 0) y5 rfl
  have df := box_fz y5
  have n5 : w.heap.size ≠ w.heap.size + 1 := by omega
  have n6 : w.heap.size + 1 ≠ w.heap.size := by omega
  have HM := Lib.hid hM
  have HR := Lib.hid (And.intro r1 rX)
  clear b0 hb1 b1 hc hx cu ch y2 y5 hM r1 rX
  go_wp2_with (fail)
  refine bodyPost_ret (v := .tuple #[.agg #[.slice A1 3 c1, .int .i64 k, .int .i64 0], .int .i64 hn, .string nm, .agg #[.slice Ap X.length cp]]) (by simp [results, Tryz.results26, go_sem, *]) rfl ?_
  have hCF : Chg (fun b => b = w.heap.size ∨ b = w.heap.size + 1) w2 ((((w2.setCell ⟨w.heap.size, 0, none⟩ (.slice A1 3 c1)).setCell ⟨w.heap.size, 1, none⟩ (.int .i64 k)).setCell ⟨w.heap.size, 2, none⟩ (.int .i64 0)).setCell ⟨w.heap.size + 1, 0, none⟩ (.slice Ap X.length cp)) := by
    (repeat (first | with_reducible exact Chg.refl _ _ | with_reducible refine Chg.setCell ?_ ?_ _)); all_goals (first | exact .inl (.inl rfl) | exact .inl (.inr rfl))
  exact ⟨⟨k, hn, nm, X, hs, A1, c1, Ap, cp, m, rfl, hk, hh, hnm, HM.out, h1, l1, q1, hl2, hcm, by omega, (Row.chg HR.out.1 hCF (fun b x y => by have := x.1; rcases y with y | y <;> omega)).mono (fun b x => by have := x.1; have := x.2; exact ⟨by omega, by omega⟩), Row.chg HR.out.2 hCF (fun b x y => by have x : m ≤ b := x; rcases y with y | y <;> omega)⟩, b2.trans (hCF.to_below (by omega) (fun b h => by rcases h with h | h <;> omega))⟩
theorem szL_drop_le {α : Type} [Lay α] [Mk α] (xs : List α) (k : Nat) : szL (xs.drop k) ≤ szL xs := by
  unfold szL
  have h1 : ((xs.drop k).map sz).sum ≤ (xs.map sz).sum := by
    have : (xs.map sz).sum = ((xs.take k).map sz).sum + ((xs.drop k).map sz).sum := by
      rw [← List.sum_append, ← List.map_append, List.take_append_drop]
    omega
  have h2 : (xs.drop k).length ≤ xs.length := by rw [List.length_drop]; omega
  omega
theorem put_szL (x0 : Whole) (R : List Whole) (L : List Leaf) : szL ((⟨⟨L, x0.proof.sides⟩, x0.tops, x0.seal_, x0.stamps⟩ : Whole) :: R) ≤ szL (x0 :: R) + szL L := by
  have e1 : sz (⟨⟨L, x0.proof.sides⟩, x0.tops, x0.seal_, x0.stamps⟩ : Whole) = szL L + szL x0.proof.sides + szL x0.tops + x0.seal_.sz + szL x0.stamps := rfl
  have e2 : sz x0 = szL x0.proof.bucket + szL x0.proof.sides + szL x0.tops + x0.seal_.sz + szL x0.stamps := rfl
  show R.length + 1 + (sz (⟨⟨L, x0.proof.sides⟩, x0.tops, x0.seal_, x0.stamps⟩ : Whole) + (R.map sz).sum) ≤ R.length + 1 + (sz x0 + (R.map sz).sum) + szL L
  rw [e1, e2]
  omega
def DcRes (w : World) (e : Ending) (w' : World) : Prop := ∃ (t : Trust) (hn : Int) (nm : ByteArray) (p : Past) (ct cp : List Value), e = .returned (.tuple #[.agg ct.toArray, .int .i64 hn, .string nm, .agg cp.toArray]) ∧ rd false w' ct t (nw w.heap.size) ∧ t.sz ≤ 1048576 ∧ I64 hn ∧ nm.size ≤ 1048576 ∧ rd false w' cp p (nw w.heap.size) ∧ p.sz ≤ 1048576
theorem dc_done {w wc W' : World} {m lo : Nat} {A1 : Option Addr} {c1 : Nat} {K nd hn : Int} {nm : ByteArray} {Y : List Whole} {Ay : Option Addr} {ny cy : Nat} (hCF : Chg (fun b => b = w.heap.size ∨ b = w.heap.size + 1) wc W') (hb : Below w.heap.size w wc) (hl : w.heap.size + 1 < wc.heap.size) (hlo : w.heap.size + 1 < lo) (hm : w.heap.size + 1 < m) (l1 : 3 ≤ c1) (q1 : c1 ≤ maxLen) (hK : I64 K) (hnd : I64 nd) (hhn : I64 hn) (hn2 : nm.size ≤ 1048576) (r1 : Row false wc A1 c1 pastRoots (rng lo m)) (hY : ny = Y.length ∧ Row false wc Ay cy Y (nw m) ∧ Y.length ≤ cy ∧ cy ≤ maxLen ∧ szL Y ≤ 20000) :
    DcRes w (.returned (.tuple #[.agg #[.slice A1 3 c1, .int .i64 K, .int .i64 nd], .int .i64 hn, .string nm, .agg #[.slice Ay ny cy]])) W' ∧ Below w.heap.size w W' := by
  obtain ⟨rfl, rY, l2, m2, z2⟩ := hY
  refine ⟨⟨⟨pastRoots, K, nd⟩, hn, nm, ⟨Y⟩, [.slice A1 3 c1, .int .i64 K, .int .i64 nd], [.slice Ay Y.length cy], rfl, ?_, ?_, hhn, hn2, ?_, ?_⟩, hb.trans (hCF.to_below (by omega) (fun b h => by rcases h with h | h <;> omega))⟩
  · exact Trust.mk' (x := ⟨pastRoots, K, nd⟩) (A0 := A1) (k0 := c1) l1 q1 (Row.chg r1 hCF (fun b x y => by have := x.1; rcases y with y | y <;> omega)) (fun b x => by have := x.1; show w.heap.size ≤ b; omega) hK hnd
  · have := trust_sz_past 0
    show szL pastRoots ≤ 1048576
    have h9 : szL pastRoots ≤ 60 := this
    omega
  · exact Past.mk' (x := ⟨Y⟩) l2 m2 (Row.chg rY hCF (fun b x y => by have x : m ≤ b := x; rcases y with y | y <;> omega)) (fun b x => by have x : m ≤ b := x; show w.heap.size ≤ b; omega)
  · show szL Y ≤ 1048576
    omega
set_option maxRecDepth 20000 in set_option maxHeartbeats 16000000 in
theorem spec_DrawCheckPast (w : World) (xs : List UInt8) (A : Option Addr) (cap : Nat) (S : Blks) (hx : Row false w A cap xs S) (hS : ∀ b, S b → b < w.heap.size) (hl : xs.length ≤ 1048576) : Calls Tryz.prog 36 #[.slice A xs.length cap] w fun e w' => DcRes w e w' ∧ Below w.heap.size w w' := by
  go_enter Tryz.func36, Tryz.ntmps36
  go_wp2_with (fail)
  obtain ⟨b0, s0, y2, y5⟩ := past_two w
  obtain ⟨W0, hW0⟩ : ∃ W, (w.alloc (.cells #[.slice none 0 0, .int .i64 0, .int .i64 0] 51)).alloc (.cells #[.slice none 0 0] 79) = W := ⟨_, rfl⟩
  rw [hW0] at b0 s0 y2 y5 ⊢
  clear hW0
  refine (spec_l01New W0 xs A cap S (Row.later hx b0) hl).mono ?_
  rintro e1 w1 ⟨g, rfl, hg, hc, hb1⟩
  have hgl := cur_lt hc
  have s1 := hb1.size
  have b1 := b0.trans (hb1.mono (by omega))
  have hx1 := Row.later hx b1
  have y2 := (hb1.block w.heap.size (by omega)).trans y2
  have y5 := (hb1.block (w.heap.size + 1) (by omega)).trans y5
  have hSg : ¬ S g := fun h => by have := hS g h; omega
  clear b0 hb1 hx
  go_wp2_with (fail)
  refine (spec_l01Below w1 g xs A cap S hc hx1 hSg hl 10 (by omega) (by omega)).mono ?_
  rintro e2 w2 ⟨kd, rfl, hk0, hk10, cu2, ch2⟩
  obtain ⟨kd, rfl⟩ : ∃ n : Nat, kd = n := ⟨kd.toNat, by omega⟩
  have s2 := ch2.size
  have y2 := (ch2.block w.heap.size (by omega) (fun h => by have h : w.heap.size = g := h; omega)).trans y2
  have y5 := (ch2.block (w.heap.size + 1) (by omega) (fun h => by have h : w.heap.size + 1 = g := h; omega)).trans y5
  have hx2 : Row false w2 A cap xs S := Row.chg hx1 ch2 (fun b h1 h2 => by have h3 : b = g := h2; subst h3; exact hSg h1)
  have b2 : Below w.heap.size w w2 := b1.trans (ch2.to_below (by omega) (fun b h => by have h : b = g := h; omega))
  clear ch2 b1 hc hx1
  go_wp2_with (fail)
  refine (spec_l27Past w2 g xs A cap S cu2 hx2 (fun b h => by have := hS b h; omega) (by omega) hl).mono ?_
  rintro e3 w3 ⟨⟨K, hn, nm, X, hs, A1, c1, Ap, cp, m, rfl, hk, hh, hnm, hM, h1, l1, q1, hl2, hcm, hm, r1, rX⟩, cu3, ch3⟩
  have s3 := ch3.size
  have y2 := (ch3.block w.heap.size (by omega) (by omega)).trans y2
  have y5 := (ch3.block (w.heap.size + 1) (by omega) (by omega)).trans y5
  have b3 : Below w.heap.size w w3 := b2.trans (ch3.to_below (by omega) (fun b h => by rcases h with h | h <;> omega))
  have hnm12 := (drawnNames_ok nm hnm).2
  have HM := Lib.hid hM
  clear ch3 cu3 cu2 hx2 b2 hM hnm hSg
  go_upto_block 0 with (fail)
  obtain ⟨V4, hV4⟩ : ∃ W, (w3.alloc (.cells #[.slice A1 3 c1, .int .i64 K, .int .i64 0] 51)).alloc (.cells #[.slice Ap X.length cp] 79) = W := ⟨_, rfl⟩
  have hV4f : Below w3.heap.size w3 V4 ∧ V4.heap.size = w3.heap.size + 1 + 1 ∧ V4.heap[w3.heap.size]? = some (.cells #[.slice A1 3 c1, .int .i64 K, .int .i64 0] 51 (0, 0)) ∧ V4.heap[w3.heap.size + 1]? = some (.cells #[.slice Ap X.length cp] 79 (0, 0)) := by
    rw [← hV4]
    refine ⟨((Below.refl _ _).alloc (Nat.le_refl _) _).alloc (by simp) _, by simp, ?_, ?_⟩
    · rw [Below.heap_alloc _ _ _ (by simp)]; exact heap_alloc_new w3 _
    · have := heap_alloc_new (w3.alloc (.cells #[.slice A1 3 c1, .int .i64 K, .int .i64 0] 51)) (.cells #[.slice Ap X.length cp] 79)
      rw [World.size_alloc] at this; exact this
  rw [hV4]
  clear hV4
  obtain ⟨b4, s4, y8, y11⟩ := hV4f
  have y2 := (b4.block w.heap.size (by omega)).trans y2
  have y5 := (b4.block (w.heap.size + 1) (by omega)).trans y5
  have hmS : m ≤ w3.heap.size := by
    rcases rX with ⟨_, h, _⟩ | ⟨g1, cur, e, hg1, hh1, _⟩
    · rw [show X = ([] : List Whole) from h] at h1; exact absurd h1 (by decide)
    · have := heap_lt hh1; have hg1 : m ≤ g1 := hg1; omega
  have HRX := Lib.hid (Row.later rX b4)
  have HRXL : Hid (Row (α := Bor Whole) true V4 Ap cp X (fun b => nw m b ∧ b < w3.heap.size)) := Lib.hid (Row.later rX.tight b4)
  have hlX : Hid (∀ g1, Ap = some ⟨g1, 0, none⟩ → g1 < w3.heap.size) := Lib.hid (fun g1 e => by
    rcases rX with ⟨h, _⟩ | ⟨g2, cur, e2, hg1, hh1, _⟩
    · rw [h] at e; cases e
    · rw [e2] at e
      injection e with e
      injection e with e
      subst e
      exact heap_lt hh1)
  have HR1 := Lib.hid (Row.later r1 b4)
  have HSZ := Lib.hid (made_szL HM.out hh)
  have c0 := box_at (i := 0) y8 rfl
  have c1_ := box_at (i := 1) y8 rfl
  have c2_ := box_at (i := 2) y8 rfl
  have cf := box_fz y8
  have d0 := box_at (i := 0) y11 rfl
  have df := box_fz y11
  have hX1 : (1 : Int) ≤ (X.length : Int) := by omega
  have hX0 : (0 : Int) < (X.length : Int) := by omega
  have HB3 := Lib.hid b3
  clear b3 rX r1
  go_cut [10] (fun s10 wx => ∃ (nd : Int) (nm2 : ByteArray) (Y : List Whole) (Ay : Option Addr) (ny cy : Nat), s10 = .string nm2 ∧ nm2.size ≤ 12 ∧ I64 nd ∧ wx.heap[w3.heap.size]? = some (.cells #[.slice A1 3 c1, .int .i64 K, .int .i64 nd] 51 (0, 0)) ∧ wx.heap[w3.heap.size + 1]? = some (.cells #[.slice Ay ny cy] 79 (0, 0)) ∧ Hid (ny = Y.length ∧ Row false wx Ay cy Y (nw m) ∧ Y.length ≤ cy ∧ cy ≤ maxLen ∧ szL Y ≤ 20000) ∧ Hid (Chg (fun b => b = w3.heap.size ∨ b = w3.heap.size + 1 ∨ m ≤ b) V4 wx))
  case first =>
    obtain ⟨gX, rfl⟩ : ∃ b, Ap = some ⟨b, 0, none⟩ := by
      rcases HRX.out with ⟨_, h, _⟩ | ⟨g1, cur, e, _⟩
      · rw [show X = ([] : List Whole) from h] at h1; exact absurd h1 (by decide)
      · exact ⟨g1, e⟩
    have hgX : gX < w3.heap.size := hlX.out gX rfl
    have hmX : m ≤ gX := by
      rcases HRX.out with ⟨h, _⟩ | ⟨g1, cur, e, hg1, _⟩
      · cases h
      · injection e with e
        injection e with e
        subst e
        exact hg1
    have hNB : ∀ (T : Blks), (∀ b, T b → b < w3.heap.size) → disj T (fun b => b = w3.heap.size ∨ b = w3.heap.size + 1) := fun T h b x y => by have := h b x; rcases y with y | y <;> omega
    rcases (show kd = 0 ∨ kd = 1 ∨ kd = 2 ∨ kd = 3 ∨ kd = 4 ∨ 5 ≤ kd by omega) with rfl | rfl | rfl | rfl | rfl | h5
    · go_wp2_with (fail)
      go_meet
      exact ⟨0, nm, [], some ⟨gX, 0, none⟩, 0, cp, rfl, hnm12, by unfold I64; omega, ((Below.heap_setCell V4 ⟨w3.heap.size + 1, 0, none⟩ _ w3.heap.size (fun e => by have e : w3.heap.size = w3.heap.size + 1 := e; omega)).trans y8), (by simp only [World.setCell, Array.getElem?_modify, y11]; simp), Lib.hid ⟨rfl, row_none rfl, Nat.zero_le _, hcm, by simp [szL]⟩, Lib.hid (by (repeat (first | with_reducible exact Chg.refl _ _ | with_reducible refine Chg.setCell ?_ ?_ _)); all_goals (first | exact .inl (.inl rfl) | exact .inl (.inr (.inl rfl))))⟩
    · go_wp2_with (fail)
      · rename_i hq
        have hX : X.length = 1 := by omega
        go_meet
        exact ⟨0, nm, [], some ⟨gX, 0, none⟩, X.length - 1, 0, rfl, hnm12, by unfold I64; omega, ((Below.heap_setCell V4 ⟨w3.heap.size + 1, 0, none⟩ _ w3.heap.size (fun e => by have e : w3.heap.size = w3.heap.size + 1 := e; omega)).trans y8), (by simp only [World.setCell, Array.getElem?_modify, y11]; simp), Lib.hid ⟨by rw [hX]; rfl, row_none rfl, Nat.le_refl _, by decide, by simp [szL]⟩, Lib.hid (by (repeat (first | with_reducible exact Chg.refl _ _ | with_reducible refine Chg.setCell ?_ ?_ _)); all_goals (first | exact .inl (.inl rfl) | exact .inl (.inr (.inl rfl))))⟩
      · go_meet
        have hd := row_dropF (α := Whole) (Row.lent HRXL.out) 1 (cp - 1)
        exact ⟨0, nm, X.drop 1, some ⟨gX, 12, none⟩, X.length - 1, cp - 1, rfl, hnm12, by unfold I64; omega, ((Below.heap_setCell V4 ⟨w3.heap.size + 1, 0, none⟩ _ w3.heap.size (fun e => by have e : w3.heap.size = w3.heap.size + 1 := e; omega)).trans y8), (by simp only [World.setCell, Array.getElem?_modify, y11]; simp), Lib.hid ⟨by rw [List.length_drop], (Row.chg (T := fun b => b = w3.heap.size ∨ b = w3.heap.size + 1) hd (by (repeat (first | with_reducible exact Chg.refl _ _ | with_reducible refine Chg.setCell ?_ ?_ _)); all_goals exact .inl (.inr rfl)) (hNB _ (fun b h => h.2))).mono (fun b h => h.1), by rw [List.length_drop]; omega, by omega, Nat.le_trans (szL_drop_le X 1) (by have := HSZ.out; omega)⟩, Lib.hid (by (repeat (first | with_reducible exact Chg.refl _ _ | with_reducible refine Chg.setCell ?_ ?_ _)); all_goals (first | exact .inl (.inl rfl) | exact .inl (.inr (.inl rfl))))⟩
    · go_wp2_with (fail)
      go_meet
      exact ⟨1, nm, X, some ⟨gX, 0, none⟩, X.length, cp, rfl, hnm12, by unfold I64; omega, (by simp only [World.setCell, Array.getElem?_modify, y8]; simp), ((Below.heap_setCell V4 ⟨w3.heap.size, 2, none⟩ _ (w3.heap.size + 1) (fun e => by have e : w3.heap.size + 1 = w3.heap.size := e; omega)).trans y11), Lib.hid ⟨rfl, (Row.chg (T := fun b => b = w3.heap.size ∨ b = w3.heap.size + 1) (Row.lent HRXL.out) (by (repeat (first | with_reducible exact Chg.refl _ _ | with_reducible refine Chg.setCell ?_ ?_ _)); all_goals (first | exact .inl (.inl rfl) | exact .inl (.inr rfl))) (hNB _ (fun b h => h.2))).mono (fun b h => h.1), hl2, hcm, by have := HSZ.out; omega⟩, Lib.hid (by (repeat (first | with_reducible exact Chg.refl _ _ | with_reducible refine Chg.setCell ?_ ?_ _)); all_goals (first | exact .inl (.inl rfl) | exact .inl (.inr (.inl rfl))))⟩
    · obtain ⟨x0, R, rfl⟩ : ∃ x0 R, X = x0 :: R := by
        cases X with
        | nil => simp at h1
        | cons x R => exact ⟨x, R, rfl⟩
      obtain ⟨b1, o1, cs1, T1, eb, hb1, ha, hr, hT1, _⟩ := Row.at_ HRX.out (i := 0) (Nat.succ_pos _)
      injection eb with eb
      injection eb with eb1 eb2
      subst eb1; subst eb2
      obtain ⟨A0, k0, S0, Aa, ka, Sa, Ab, kb, Sb, Ac, kc, Sc, Ad, kd, Sd, Ae, ke, Se, Af, kf, Sf, e1, f3, f4, f5, f6, f7, a0, bb0, r0, t0, -⟩ := Whole.open (x := x0) (show rd (α := Whole) false V4 cs1 x0 T1 from hr)
      subst e1
      have q0 : V4.cell? ⟨gX, 0, none⟩ = some (.slice A0 x0.proof.bucket.length k0) := ha 0 _ rfl
      have hbl := HSZ.out
      have hb0 : szL x0.proof.bucket ≤ 10000 ∧ x0.proof.bucket.length ≤ 10000 := by
        have h9 := sz_le_L (x0 :: R) 0 (Nat.succ_pos _)
        have h10 : sz ((x0 :: R)[0]'(Nat.succ_pos _)) = x0.sz := rfl
        rw [h10] at h9
        have h11 : szL x0.proof.bucket ≤ x0.sz := by simp only [Whole.sz, Proof.sz]; omega
        have h12 := szT_le x0.proof.bucket 0
        omega
      have HLP := Lib.hid (fun W (h : Below V4.heap.size V4 W) => spec_LeafPut W x0.proof.bucket A0 k0 _ (Row.later r0 h) (by omega) nm (by unfold maxLen; omega) ⟨#[102, 111, 114, 103, 101, 100]⟩ (by decide))
      obtain ⟨LP, hLP⟩ : ∃ l, leafPut x0.proof.bucket nm ⟨#[102, 111, 114, 103, 101, 100]⟩ = l := ⟨_, rfl⟩
      have HLZ : Hid (szL LP.1 ≤ 10000 ∧ LP.1.length ≤ 10000) := Lib.hid (by
        rw [← hLP]
        unfold leafPut
        split
        · rename_i h9
          simp only [Bool.and_eq_true] at h9
          have h10 := leaves_600 h9.2
          exact ⟨Nat.le_trans h10.1 (by decide), Nat.le_trans h10.2 (by decide)⟩
        · exact hb0)
      rw [hLP] at HLP
      obtain ⟨LP1, LP2⟩ := LP
      simp only at HLP HLZ
      have HB0 := Lib.hid hb0
      have hX0' : (0 : Int) < ((x0 :: R).length : Int) := hX0
      have HCL := Lib.hid (fun (W : World) (h : Below V4.heap.size V4 W) => (⟨(h.cell (p := ⟨w3.heap.size + 1, 0, none⟩) (by show w3.heap.size + 1 < _; omega)).trans d0, (h.cell (p := ⟨gX, 0, none⟩) hb1).trans q0, (h.frozen (p := ⟨gX, 0, none⟩) hb1)⟩ : W.cell? ⟨w3.heap.size + 1, 0, none⟩ = _ ∧ W.cell? ⟨gX, 0, none⟩ = _ ∧ W.frozen? ⟨gX, 0, none⟩ = _))
      have hfz : V4.frozen? ⟨gX, 0, none⟩ = false := by
        rcases HRX.out with ⟨h, _⟩ | ⟨g1, cur, e, hg1, hh1, _⟩
        · cases h
        · injection e with e
          injection e with e
          subst e
          exact frozen_of_row _ _ _ _ _ hh1
      rw [hfz] at HCL
      clear ha hr hb0 hLP a0 bb0 r0 t0 hX0
      go_wp2_with (fail)
      go_region_with (go_at_call 76; refine (HLP.out _ ((Below.refl _ _).drew)).mono ?_; rintro e5 w5 ⟨A5, c5, rfl, l5, m5, r5, hb5⟩; obtain ⟨q1, q2, q3⟩ := HCL.out w5 (Below.viad hb5); have HR5 := Lib.hid (And.intro l5 (And.intro m5 (And.intro r5 hb5))); clear l5 m5 r5 hb5)
      all_goals go_wp2_with (fail)
      all_goals go_meet
      all_goals exact ⟨0, nm, (⟨⟨LP1, x0.proof.sides⟩, x0.tops, x0.seal_, x0.stamps⟩ : Whole) :: R, some ⟨gX, 0, none⟩, (x0 :: R).length, cp, rfl, hnm12, by unfold I64; omega, (Below.heap_setCell w5 ⟨gX, 0, none⟩ _ w3.heap.size (fun e => by have e : w3.heap.size = gX := e; omega)).trans (((Below.viad HR5.out.2.2.2).block w3.heap.size (by omega)).trans y8), (Below.heap_setCell w5 ⟨gX, 0, none⟩ _ (w3.heap.size + 1) (fun e => by have e : w3.heap.size + 1 = gX := e; omega)).trans (((Below.viad HR5.out.2.2.2).block (w3.heap.size + 1) (by omega)).trans y11), Lib.hid ⟨rfl, wholes_put HRX.out (Below.viad HR5.out.2.2.2) (HR5.out.2.2.1.weak.mono (fun b h => h.1)) HR5.out.1 HR5.out.2.1, hl2, hcm, Nat.le_trans (put_szL x0 R LP1) (by have := HSZ.out; have := HLZ.out.1; omega)⟩, Lib.hid ((Chg.below (Chg.refl _ _) (Below.viad HR5.out.2.2.2) (Nat.le_refl _)).setCell (.inl (.inr (.inr hmX))) _)⟩
    · go_wp2_with (fail)
      go_meet
      exact ⟨0, ⟨#[111, 116, 104, 101, 114]⟩, X, some ⟨gX, 0, none⟩, X.length, cp, rfl, by decide, by unfold I64; omega, y8, y11, Lib.hid ⟨rfl, Row.lent HRX.out, hl2, hcm, by have := HSZ.out; omega⟩, Lib.hid (Chg.refl _ _)⟩
    · have e0 : ((kd : Int) == 0) = false := by simp; omega
      have e1 : ((kd : Int) == 1) = false := by simp; omega
      have e2 : ((kd : Int) == 2) = false := by simp; omega
      have e3 : ((kd : Int) == 3) = false := by simp; omega
      have e4 : ((kd : Int) == 4) = false := by simp; omega
      go_wp2_with (fail)
      go_meet
      exact ⟨0, nm, X, _, X.length, cp, rfl, hnm12, by unfold I64; omega, y8, y11, Lib.hid ⟨rfl, Row.lent HRX.out, hl2, hcm, by have := HSZ.out; omega⟩, Lib.hid (Chg.refl _ _)⟩
  case rest =>
    obtain ⟨nd, nm2, Y, Ay, ny, cy, rfl, hn2, hnd, z8, z11, HY, HCH⟩ := hcut
    have sC := HCH.out.size
    have u2 := (HCH.out.block w.heap.size (by omega) (by omega)).trans y2
    have u5 := (HCH.out.block (w.heap.size + 1) (by omega) (by omega)).trans y5
    have HRR := Lib.hid (Row.chg HR1.out HCH.out (fun b x y => by have := x.1; have := x.2; omega))
    have HBC := Lib.hid ((HB3.out.trans (b4.mono (by omega))).trans (HCH.out.to_below (B := w.heap.size) (by omega) (fun b h => by omega)))
    clear c0 c1_ c2_ cf d0 df y2 y5 y8 y11 b4 HRX HRXL hlX HSZ HM
    have a0 := box_at (i := 0) u2 rfl
    have a1 := box_at (i := 1) u2 rfl
    have a2 := box_at (i := 2) u2 rfl
    have af := box_fz u2
    have e0 := box_at (i := 0) u5 rfl
    have ef := box_fz u5
    have c0 := box_at (i := 0) z8 rfl
    have c1_ := box_at (i := 1) z8 rfl
    have c2_ := box_at (i := 2) z8 rfl
    have d0 := box_at (i := 0) z11 rfl
    have n1 : w.heap.size ≠ w3.heap.size := by omega
    have n2 : w.heap.size ≠ w3.heap.size + 1 := by omega
    have n3 : w.heap.size + 1 ≠ w3.heap.size := by omega
    have n4 : w.heap.size + 1 ≠ w3.heap.size + 1 := by omega
    have n5 : w.heap.size ≠ w.heap.size + 1 := by omega
    have n6 : w.heap.size + 1 ≠ w.heap.size := by omega
    have hlc : w3.heap.size + 1 < wc.heap.size := by omega
    have HKP := Lib.hid (fun (w' : World) (h : Chg (fun b => b = w.heap.size ∨ b = w.heap.size + 1) wc w') => (⟨(h.cell (b := w3.heap.size) (o := 0) (by omega) (by omega)).trans c0, (h.cell (b := w3.heap.size) (o := 1) (by omega) (by omega)).trans c1_, (h.cell (b := w3.heap.size) (o := 2) (by omega) (by omega)).trans c2_, (h.cell (b := w3.heap.size + 1) (o := 0) (by omega) (by omega)).trans d0⟩ : w'.cell? ⟨w3.heap.size, 0, none⟩ = some (.slice A1 3 c1) ∧ w'.cell? ⟨w3.heap.size, 1, none⟩ = some (.int .i64 K) ∧ w'.cell? ⟨w3.heap.size, 2, none⟩ = some (.int .i64 nd) ∧ w'.cell? ⟨w3.heap.size + 1, 0, none⟩ = some (.slice Ay ny cy)))
    clear u2 u5 z8 z11
    go_wp2_with (fail)
    go_region_held3 (fun w' => w'.cell? ⟨w3.heap.size, 0, none⟩ = some (.slice A1 3 c1) ∧ w'.cell? ⟨w3.heap.size, 1, none⟩ = some (.int .i64 K) ∧ w'.cell? ⟨w3.heap.size, 2, none⟩ = some (.int .i64 nd) ∧ w'.cell? ⟨w3.heap.size + 1, 0, none⟩ = some (.slice Ay ny cy))
      (exact HKP.out _ (by (repeat (first | with_reducible exact Chg.refl _ _ | with_reducible apply Chg.drew | with_reducible refine Chg.setCell ?_ ?_ _)); all_goals (first | exact .inl (.inl rfl) | exact .inl (.inr rfl))))
      (fail)
    all_goals go_wp2_with (fail)
    all_goals refine bodyPost_ret (v := .tuple #[.agg #[.slice A1 3 c1, .int .i64 K, .int .i64 nd], .int .i64 hn, .string nm2, .agg #[.slice Ay ny cy]]) (by simp [results, Tryz.results36, go_sem, *]) rfl ?_
    all_goals exact dc_done (wc := wc) (m := m) (lo := w2.heap.size) (by (repeat (first | with_reducible exact Chg.refl _ _ | with_reducible apply Chg.drew | with_reducible refine Chg.setCell ?_ ?_ _)); all_goals (first | exact .inl (.inl rfl) | exact .inl (.inr rfl))) HBC.out (by omega) (by omega) (by omega) l1 q1 (by unfold I64; omega) hnd (by unfold I64; omega) (by omega) HRR.out HY.out
end Go.Proofs.YtgllafgpmenjjaaGreatDoor
