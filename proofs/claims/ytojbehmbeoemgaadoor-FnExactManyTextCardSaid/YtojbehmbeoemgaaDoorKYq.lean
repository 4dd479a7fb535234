/- Two rows that are made side by side; the form of a proof of several names. -/
import Derived.Test.YtojbehmbeoemgaaDoorKYp
import Derived.Test.YtojbehmbeoemgaaDoorKYo
import Derived.Test.YtojbehmbeoemgaaDoorKNz
import Derived.Deep.RegionHeld3
set_option linter.unusedVariables false
set_option linter.unusedSimpArgs false
namespace Go.Proofs.YtojbehmbeoemgaaDoor
open Go.RowKit Lay Mk
structure Two {α β : Type} [Lay α] [Lay β] (B : Nat) (w : World) (A : Option Addr) (c : Nat) (L : List α) (A' : Option Addr) (c' : Nat) (M : List β) : Prop where
  ex : ∃ U V : Blks, Row true w A c L U ∧ Row true w A' c' M V ∧ (∀ b, U b → V b → False) ∧ (∀ b, U b → B ≤ b) ∧ (∀ b, V b → B ≤ b)
  l1 : L.length ≤ c
  m1 : c ≤ maxLen
  l2 : M.length ≤ c'
  m2 : c' ≤ maxLen
theorem Two.start {α β : Type} [Lay α] [Lay β] (B : Nat) (w : World) : Two (α := α) (β := β) B w none 0 [] none 0 [] :=
  ⟨⟨none_, none_, row_nil _ _, row_nil _ _, fun _ h => h.elim, fun _ h => h.elim, fun _ h => h.elim⟩, Nat.le_refl _, by decide, Nat.le_refl _, by decide⟩
theorem Two.later {α β : Type} [Lay α] [Lay β] {B : Nat} {w w' : World} {A A' : Option Addr} {c c' : Nat} {L : List α} {M : List β} (h : Two B w A c L A' c' M) (hb : Below w.heap.size w w') : Two B w' A c L A' c' M := by
  obtain ⟨U, V, h1, h2, h3, h4, h5⟩ := h.ex
  exact ⟨⟨U, V, Row.later h1 hb, Row.later h2 hb, h3, h4, h5⟩, h.l1, h.m1, h.l2, h.m2⟩
theorem Two.swap {α β : Type} [Lay α] [Lay β] {B : Nat} {w : World} {A A' : Option Addr} {c c' : Nat} {L : List α} {M : List β} (h : Two B w A c L A' c' M) : Two B w A' c' M A c L := by
  obtain ⟨U, V, h1, h2, h3, h4, h5⟩ := h.ex
  exact ⟨⟨V, U, h2, h1, fun b x y => h3 b y x, h5, h4⟩, h.l2, h.m2, h.l1, h.m1⟩
theorem Two.fst {α β : Type} [Lay α] [Lay β] {B : Nat} {w : World} {A A' : Option Addr} {c c' : Nat} {L : List α} {M : List β} (h : Two B w A c L A' c' M) : Row false w A c L (nw B) := by
  obtain ⟨U, V, h1, h2, h3, h4, h5⟩ := h.ex
  exact Row.weak (h1.mono h4)
/-- an append to the first of two rows -/
theorem wpList_two {α β : Type} [Lay α] [SlTy α] [Inf α] [Lay β] {ops : Array Oper} {rest : List Oper} {o : Oper} {a : Act} {Q : Exit → Act → World → Prop} {w : World} {B : Nat} (hgd : o.guard = none) (s x : Operand)
    (ho : o.op = .call { callee := .builtin .append, args := #[s, x], argTypes := #[SlTy.st α, SlTy.st α] })
    {A A' A2 : Option Addr} {c c' c2 k m : Nat} {L ys : List α} {M : List β} (hs : a.eval s = .slice A k c) (hk : k = L.length) (two : Two B w A c L A' c' M) (hBw : B ≤ w.heap.size)
    (hx : a.eval x = .slice A2 m c2) (hm : m = ys.length) (hsrc : Src w A2 ys none_) (hb : k + m ≤ 4000000000)
    (h : ∀ A3 c3 w', Two B w' A3 c3 (L ++ ys) A' c' M → Below B w w' → w.heap.size ≤ w'.heap.size → wpList Tryd.prog ops Q rest (a.put o.dst (.slice A3 (k + m) c3)) w') :
    wpList Tryd.prog ops Q (o :: rest) a w := by
  subst hk; subst hm
  obtain ⟨U, V, h1, h2, h3, h4, h5⟩ := two.ex
  refine wpList_app (α := α) hgd s x ho hs rfl h1 two.l1 two.m1 hx rfl hsrc (disj_none_ _) hb ?_
  intro A3 c3 w' q1 q2 q3 q4
  refine h A3 c3 w' ⟨⟨_, _, q3, Row.chgS q4 h2.tight (fun b x _ y => h3 b y x.1), ?_, ?_, fun b x => h5 b x.1⟩, by rw [List.length_append]; exact q1, q2, two.l2, two.m2⟩ (q4.to_below hBw h4) q4.size
  · rintro b (x | x | x) y
    · exact h3 b x y.1
    · exact x.elim
    · have := x.1; have := y.2; omega
  · rintro b (x | x | x)
    · exact h4 b x
    · exact x.elim
    · exact Nat.le_trans hBw x.1
theorem form_1 {m : Many} {n : Int} (h : namesFit m.names = false) : manyForm m n = false := by unfold manyForm; rw [h]; rfl
theorem form_2 {m : Many} {n : Int} (h : (wideG m.sides n && inB n 1 32) = false) : manyForm m n = false := by
  unfold manyForm
  cases h1 : wideG m.sides n
  · simp
  · rw [h1] at h; rw [show inB n 1 32 = false by simpa using h]; simp
theorem form_3 {m : Many} {n : Int} (h : ¬ m.buckets.length = (idxN m.names).length) : manyForm m n = false := by unfold manyForm; rw [decide_eq_false h]; simp
theorem form_4 {m : Many} {n : Int} {k : Nat} (hk : k < m.buckets.length) (h : bucketFit m.buckets[k] ((idxN m.names).getD k 0) = false) : manyForm m n = false := by
  unfold manyForm bucketsFit
  rw [decide_eq_false (p := ∀ i, i < m.buckets.length → bucketFit (m.buckets.getD i []) ((idxN m.names).getD i 0) = true)]
  · simp
  · intro hall
    have := hall k hk
    rw [getD_ hk, h] at this
    cases this
theorem form_5 {m : Many} {n : Int} (h1 : namesFit m.names = true) (h2 : (wideG m.sides n && inB n 1 32) = true) (h3 : m.buckets.length = (idxN m.names).length) (h4 : ∀ k (hk : k < m.buckets.length), bucketFit m.buckets[k] ((idxN m.names).getD k 0) = true) : manyForm m n = true := by
  have h5 : wideG m.sides n = true ∧ inB n 1 32 = true := by simpa using h2
  unfold manyForm bucketsFit
  rw [h1, h5.1, h5.2, decide_eq_true h3, decide_eq_true (p := ∀ i, i < m.buckets.length → bucketFit (m.buckets.getD i []) ((idxN m.names).getD i 0) = true)]
  · rfl
  · intro i hi
    rw [getD_ hi]; exact h4 i hi
theorem form_facts_many {m : Many} {n : Int} (h : manyForm m n = true) : namesFit m.names = true ∧ m.buckets.length = (idxN m.names).length ∧ inB n 1 32 = true ∧ wideG m.sides n = true ∧ ∀ k (hk : k < m.buckets.length), bucketFit m.buckets[k] ((idxN m.names).getD k 0) = true := by
  unfold manyForm bucketsFit at h
  simp only [Bool.and_eq_true, decide_eq_true_eq] at h
  exact ⟨h.1, h.2.1, h.2.2.1, h.2.2.2.1, fun k hk => by have := h.2.2.2.2 k hk; rw [getD_ hk] at this; exact this⟩
theorem fit_leaves {b : List Leaf} {i : Nat} (h : bucketFit b i = true) : leavesOk b = true := by unfold bucketFit at h; simp only [Bool.and_eq_true] at h; exact h.1
set_option maxRecDepth 20000 in set_option maxHeartbeats 8000000 in
theorem spec_l26Form (w : World) (m : Many) (cs : List Value) (S : Blks) (hx : rd false w cs m S) (hz : m.sz ≤ 1048576) (n : Int) : Calls Tryd.prog 80 #[.agg cs.toArray, .int .i64 n] w fun e w' => e = .returned (.bool (manyForm m n)) ∧ Below w.heap.size w w' := by
  obtain ⟨hz0, hz1, hz2⟩ := many_parts hz
  obtain ⟨A0, k0, S0, A1, k1, S1, A2, k2, S2, rfl, l0, m0, r0, -, -, -, r1, -, l2, m2, r2, -⟩ := Many.open hx
  clear hx hz
  simp only [Many.cs]
  have hnl : m.names.length ≤ 1048576 := by have := szT_le m.names 0; omega
  have hbl : m.buckets.length ≤ 1048576 := by have := szT_le m.buckets 0; omega
  have hsl : m.sides.length ≤ 1048576 := by have := szT_le m.sides 0; omega
  have HF1 := Lib.hid (fun h => form_1 (m := m) (n := n) h)
  have HF2 := Lib.hid (fun h => form_2 (m := m) (n := n) h)
  have HF3 := Lib.hid (fun h => form_3 (m := m) (n := n) h)
  have HF4 := Lib.hid (fun k hk h => form_4 (m := m) (n := n) (k := k) hk h)
  have HF5 := Lib.hid (fun h1 h2 h3 h4 => form_5 (m := m) (n := n) h1 h2 h3 h4)
  obtain ⟨R, hR⟩ : ∃ R, manyForm m n = R := ⟨_, rfl⟩
  rw [hR] at HF1 HF2 HF3 HF5 ⊢
  simp only [hR] at HF4
  clear hR
  have HNM := Lib.hid (fun W (h : Below w.heap.size w W) => spec_l26Names W m.names A0 k0 S0 (Row.later r0 h) hnl)
  have HWD := Lib.hid (fun W (h : Below w.heap.size w W) => spec_l11Wide W m.sides A2 k2 S2 (Row.later r2 h) (by unfold maxLen; omega) n)
  obtain ⟨q1, hq1⟩ : ∃ b, namesFit m.names = b := ⟨_, rfl⟩
  rw [hq1] at HNM HF1 HF5
  obtain ⟨q2, hq2⟩ : ∃ b, (wideG m.sides n && inB n 1 32) = b := ⟨_, rfl⟩
  rw [hq2] at HWD HF2 HF5
  have HXS := Lib.hid (fun W (h : Below w.heap.size w W) => spec_IndexesOf W m.names A0 k0 S0 (Row.later r0 h) l0 m0 hz0)
  rw [idx_cast, castL_len] at HXS
  obtain ⟨ks, hks⟩ : ∃ l, idxN m.names = l := ⟨_, rfl⟩
  rw [hks] at HXS HF3 HF5
  simp only [hks] at HF4
  clear hks hq1 hq2
  obtain ⟨W, hW⟩ : ∃ W, w.alloc (.cells #[.slice A0 m.names.length k0, .slice A1 m.buckets.length k1, .slice A2 m.sides.length k2] 51) = W := ⟨_, rfl⟩
  have hWf : Below w.heap.size w W ∧ w.heap.size < W.heap.size ∧ W.cell? ⟨w.heap.size, 0, none⟩ = some (.slice A0 m.names.length k0) ∧ W.cell? ⟨w.heap.size, 1, none⟩ = some (.slice A1 m.buckets.length k1) ∧ W.cell? ⟨w.heap.size, 2, none⟩ = some (.slice A2 m.sides.length k2) := by
    rw [← hW]; exact ⟨(Below.refl _ _).alloc (Nat.le_refl _) _, by simp, box_cell _ _ _ _ _ rfl, box_cell _ _ _ _ _ rfl, box_cell _ _ _ _ _ rfl⟩
  obtain ⟨hBW, hlW, c0, c1, c2⟩ := hWf
  have HBW := Lib.hid hBW
  have HALL := Lib.hid (fun (w' : World) (h : Below W.heap.size W w') => (⟨(h.cell (p := ⟨w.heap.size, 0, none⟩) hlW).trans c0, (h.cell (p := ⟨w.heap.size, 1, none⟩) hlW).trans c1, (h.cell (p := ⟨w.heap.size, 2, none⟩) hlW).trans c2⟩ : w'.cell? ⟨w.heap.size, 0, none⟩ = some (.slice A0 m.names.length k0) ∧ w'.cell? ⟨w.heap.size, 1, none⟩ = some (.slice A1 m.buckets.length k1) ∧ w'.cell? ⟨w.heap.size, 2, none⟩ = some (.slice A2 m.sides.length k2)))
  have RB := Lib.hid r1
  clear hBW r0 r1 r2 l0 m0 l2 m2
  go_enter Tryd.func80, Tryd.ntmps80
  go_wp2_with (fail)
  clear hW
  refine (HNM.out _ HBW.out).mono ?_
  rintro e1 w1 ⟨rfl, rfl⟩
  cases q1
  · have HE := Lib.hid (HF1.out rfl)
    go_wp2
    go_ret
    exact ⟨ret_bool HE.out.symm, HBW.out⟩
  go_wp2_with (fail)
  refine (HWD.out _ HBW.out).mono ?_
  rintro e2 w2 ⟨rfl, rfl⟩
  cases q2
  · have HE := Lib.hid (HF2.out rfl)
    go_wp2
    go_ret
    exact ⟨ret_bool HE.out.symm, HBW.out⟩
  go_wp2_with (fail)
  refine (HXS.out _ HBW.out).mono ?_
  rintro e3 w3 ⟨AX, kX, rfl, lX, mX, rX, hb3⟩
  have RX := Lib.hid rX
  have hw3 := hb3.size
  have HB3 := Lib.hid hb3
  have HB3w := Lib.hid (HBW.out.trans (hb3.mono HBW.out.size))
  clear c0 c1 c2 rX hb3
  obtain ⟨c0, c1, c2⟩ := HALL.out w3 HB3.out
  by_cases hlen : m.buckets.length = ks.length
  rotate_left
  · have HE := Lib.hid (HF3.out hlen)
    have hq : ((m.buckets.length : Int) == (ks.length : Int)) = false := by rw [beq_eq_false_iff_ne]; omega
    have hq2 : ((m.buckets.length : Int) != (ks.length : Int)) = true := by rw [bne, hq]; rfl
    have hq3 : ¬ m.buckets.length = ks.length := hlen
    go_wp2
    go_ret
    exact ⟨ret_bool HE.out.symm, HB3w.out⟩
  have HLN := Lib.hid hlen
  have hq : ((m.buckets.length : Int) == (ks.length : Int)) = true := by rw [beq_iff_eq]; omega
  have hq2 : ((m.buckets.length : Int) != (ks.length : Int)) = false := by rw [bne, hq]; rfl
  clear hlen
  go_wp2_with (fail)
  clear c0 c1 c2
  go_loopw [6] (fun i wr => ∃ k : Nat, k ≤ ks.length ∧ i = .int .i64 k ∧ Hid (∀ j (hj : j < m.buckets.length), j < k → bucketFit m.buckets[j] (ks.getD j 0) = true) ∧ Below w3.heap.size w3 wr) (fun i _ => ks.length - (intOf i).toNat)
  case atStart => exact ⟨0, Nat.zero_le _, rfl, Lib.hid (fun j _ h => absurd h (Nat.not_lt_zero _)), Below.refl _ _⟩
  case round =>
    obtain ⟨k, hk, rfl, HA, hb⟩ := hrel
    have HBr := Lib.hid (HB3.out.trans (hb.mono HB3.out.size))
    have HBw := Lib.hid (HB3w.out.trans (hb.mono HB3w.out.size))
    have HB3r := Lib.hid hb
    have hb3s := hb.size
    obtain ⟨c0, c1, c2⟩ := HALL.out wr HBr.out
    clear hb c0 c2
    by_cases hlt : k < ks.length
    · have hkb : k < m.buckets.length := by have := HLN.out; omega
      obtain ⟨b3, o3, rfl, hl3, f0, i0⟩ := Row.int RX.out (i := k) (by rw [castL_len]; exact hlt)
      rw [castL_at hlt] at f0 i0
      replace f0 := (HB3r.out.cell (p := ⟨b3, o3 + k, none⟩) hl3).trans f0
      have hl4 : b3 < wr.heap.size := Nat.lt_of_lt_of_le hl3 hb3s
      obtain ⟨b1, o1, cc, TL, rfl, hl1, ha, hr, -, -⟩ := Row.at_ RB.out hkb
      obtain ⟨AL, kL, rfl, lL, mL, rL⟩ := open_list hr
      have q0 := ha 0 _ rfl
      simp only [show Lay.n (List Leaf) = 1 from rfl, Nat.mul_one, Nat.add_zero] at q0
      clear ha hr
      obtain ⟨hzl, hll⟩ := leafs_at hkb hz1
      have HN4 := Lib.hid (HF4.out k hkb)
      have HNX : Hid (bucketFit m.buckets[k] (ks.getD k 0) = true → ∀ j (hj : j < m.buckets.length), j < k + 1 → bucketFit m.buckets[j] (ks.getD j 0) = true) := Lib.hid (fun h0 j hj h => by rcases Nat.lt_succ_iff_lt_or_eq.1 h with h1 | h1; exact HA.out j hj h1; subst h1; exact h0)
      obtain ⟨v, hv⟩ : ∃ v, ks.getD k 0 = v := ⟨_, rfl⟩
      rw [hv] at f0 i0 HN4
      rw [hv] at HNX
      obtain ⟨b, hb_⟩ : ∃ b, m.buckets[k] = b := ⟨_, rfl⟩
      rw [hb_] at rL lL HN4
      rw [hb_] at HNX
      simp only [hb_] at q0 hzl hll
      replace q0 := (HBw.out.cell (p := ⟨b1, o1 + k, none⟩) hl1).trans q0
      have hl2 : b1 < wr.heap.size := Nat.lt_of_lt_of_le hl1 HBw.out.size
      have hlx : w.heap.size < wr.heap.size := by have := HBr.out.size; omega
      have hki : (k : Int) < (m.buckets.length : Int) := by omega
      have hki2 : (k : Int) < (ks.length : Int) := by omega
      have hk0 : (0 : Int) ≤ (k : Int) := by omega
      have HLO := Lib.hid (fun W' (h : Below w.heap.size w W') => spec_LeavesOk W' b AL kL TL (Row.later rL h) (by omega))
      have HBO := Lib.hid (fun W' (h : Below w.heap.size w W') => spec_BucketOf W' b AL kL TL (Row.later rL h) (by omega) hzl (v : Int))
      have HFD : Hid (bucketFit b v = (leavesOk b && decide ((bucketOf b (v : Int)).length = b.length))) := Lib.hid rfl
      obtain ⟨z, hz'⟩ : ∃ z, leavesOk b = z := ⟨_, rfl⟩
      rw [hz'] at HLO HFD
      obtain ⟨BL, hBL⟩ : ∃ l, bucketOf b (v : Int) = l := ⟨_, rfl⟩
      rw [hBL] at HBO HFD
      have hwi := HBw.out.size
      clear hv hb_ hz' hBL rL lL mL hzl
      cases z
      · have HE := Lib.hid (HN4.out (by rw [HFD.out]; rfl))
        clear HN4 HNX
        go_wp2_with (fail)
        have Gc1 := Grown.cell c1
        have Gq0 := Grown.cell q0
        have Gf0 := Grown.cell f0
        clear c1 q0 f0
        refine wp_region_grown (by kernel_rfl) (by kernel_rfl) ?_
        repeat (go_big_quiet_step (first | (go_at_call 74; exact grown_call (HLO.out _ (HBw.out.trans ((Grown.ok _).mono hwi))))))
        refine wpQuiet_nil ?_
        intro w7 hw_
        have hB7 := grown_below hw_
        clear hw_ Gc1 Gq0 Gf0
        go_wp2
        go_ret
        exact ⟨ret_bool HE.out.symm, HBw.out.trans (hB7.mono hwi)⟩
      have HM := Lib.hid (fun (w' : World) (h' : Below wr.heap.size wr w') => (⟨(h'.cell (p := ⟨w.heap.size, 1, none⟩) hlx).trans c1, (h'.cell (p := ⟨b1, o1 + k, none⟩) hl2).trans q0, (h'.cell (p := ⟨b3, o3 + k, none⟩) hl4).trans f0, h'⟩ : w'.cell? ⟨w.heap.size, 1, none⟩ = some (.slice (some ⟨b1, o1, none⟩) m.buckets.length k1) ∧ w'.cell? ⟨b1, o1 + k, none⟩ = some (.slice AL b.length kL) ∧ w'.cell? ⟨b3, o3 + k, none⟩ = some (.int .i64 v) ∧ Below wr.heap.size wr w'))
      have hB := Below.refl wr.heap.size wr
      clear c1 q0 f0
      have HLN2 := Lib.hid hll
      by_cases hbe : BL.length = b.length
      · have HOK := Lib.hid (HNX.out (by rw [HFD.out, decide_eq_true hbe]; rfl))
        have hqb : ((BL.length : Int) == (b.length : Int)) = true := by rw [beq_iff_eq]; omega
        have hqb2 : ((BL.length : Int) != (b.length : Int)) = false := by rw [bne, hqb]; rfl
        have HBE := Lib.hid hbe
        clear hbe HN4 HNX
        go_wp2_with (fail)
        go_region_held3 (fun w' => w'.cell? ⟨w.heap.size, 1, none⟩ = some (.slice (some ⟨b1, o1, none⟩) m.buckets.length k1) ∧ w'.cell? ⟨b1, o1 + k, none⟩ = some (.slice AL b.length kL) ∧ w'.cell? ⟨b3, o3 + k, none⟩ = some (.int .i64 v) ∧ Below wr.heap.size wr w')
          (first | exact HM.out _ (by (repeat (first | with_reducible exact hB | with_reducible apply Below.drew | with_reducible refine Below.alloc ?_ ?_ _)); all_goals (first | omega | (simp; done) | (simp; omega))))
          (first | (go_at_call 74; (with_reducible refine (HLO.out _ ?_).mono ?_); (exact HBw.out.trans (Below.mono (w := wr) (by (repeat (first | with_reducible exact hB | with_reducible apply Below.drew | with_reducible refine Below.alloc ?_ ?_ _)); all_goals (first | omega | (simp; done) | (simp; omega))) hwi)); rintro e5 w5 ⟨rfl, hb5⟩; have hB := Below.step (a := wr) (by (repeat (first | with_reducible exact hB | with_reducible apply Below.drew | with_reducible refine Below.alloc ?_ ?_ _)); all_goals (first | omega | (simp; done) | (simp; omega))) hb5; have hs5 := hB.size) | (go_at_call 76; (with_reducible refine (HBO.out _ ?_).mono ?_); (exact HBw.out.trans (Below.mono (w := wr) (by (repeat (first | with_reducible exact hB | with_reducible apply Below.drew | with_reducible refine Below.alloc ?_ ?_ _)); all_goals (first | omega | (simp; done) | (simp; omega))) hwi)); rintro e6 w6 ⟨A6, c6, rfl, o6⟩; have hB := Below.step (a := wr) (by (repeat (first | with_reducible exact hB | with_reducible apply Below.drew | with_reducible refine Below.alloc ?_ ?_ _)); all_goals (first | omega | (simp; done) | (simp; omega))) o6.bl; have hs6 := hB.size))
        go_wp2
        go_roundw
        case rel => exact ⟨k + 1, hlt, by go_num, HOK, HB3r.out.trans (hB.mono hb3s)⟩
        case measure => simp [intOf]; omega
      · have HE := Lib.hid (HN4.out (by rw [HFD.out, decide_eq_false hbe]; rfl))
        have hqb : ((BL.length : Int) == (b.length : Int)) = false := by rw [beq_eq_false_iff_ne]; omega
        have hqb2 : ((BL.length : Int) != (b.length : Int)) = true := by rw [bne, hqb]; rfl
        have HBE := Lib.hid hbe
        clear hbe HN4 HNX
        go_wp2_with (fail)
        go_region_held3 (fun w' => w'.cell? ⟨w.heap.size, 1, none⟩ = some (.slice (some ⟨b1, o1, none⟩) m.buckets.length k1) ∧ w'.cell? ⟨b1, o1 + k, none⟩ = some (.slice AL b.length kL) ∧ w'.cell? ⟨b3, o3 + k, none⟩ = some (.int .i64 v) ∧ Below wr.heap.size wr w')
          (first | exact HM.out _ (by (repeat (first | with_reducible exact hB | with_reducible apply Below.drew | with_reducible refine Below.alloc ?_ ?_ _)); all_goals (first | omega | (simp; done) | (simp; omega))))
          (first | (go_at_call 74; (with_reducible refine (HLO.out _ ?_).mono ?_); (exact HBw.out.trans (Below.mono (w := wr) (by (repeat (first | with_reducible exact hB | with_reducible apply Below.drew | with_reducible refine Below.alloc ?_ ?_ _)); all_goals (first | omega | (simp; done) | (simp; omega))) hwi)); rintro e5 w5 ⟨rfl, hb5⟩; have hB := Below.step (a := wr) (by (repeat (first | with_reducible exact hB | with_reducible apply Below.drew | with_reducible refine Below.alloc ?_ ?_ _)); all_goals (first | omega | (simp; done) | (simp; omega))) hb5; have hs5 := hB.size) | (go_at_call 76; (with_reducible refine (HBO.out _ ?_).mono ?_); (exact HBw.out.trans (Below.mono (w := wr) (by (repeat (first | with_reducible exact hB | with_reducible apply Below.drew | with_reducible refine Below.alloc ?_ ?_ _)); all_goals (first | omega | (simp; done) | (simp; omega))) hwi)); rintro e6 w6 ⟨A6, c6, rfl, o6⟩; have hB := Below.step (a := wr) (by (repeat (first | with_reducible exact hB | with_reducible apply Below.drew | with_reducible refine Below.alloc ?_ ?_ _)); all_goals (first | omega | (simp; done) | (simp; omega))) o6.bl; have hs6 := hB.size))
        go_wp2
        go_ret
        exact ⟨ret_bool HE.out.symm, HBw.out.trans (hB.mono hwi)⟩
    · have HE := Lib.hid (HF5.out (by first | rfl | trivial) (by first | rfl | trivial) HLN.out (fun j hj => HA.out j hj (by have := HLN.out; omega)))
      go_wp2
      go_ret
      exact ⟨ret_bool HE.out.symm, HBw.out⟩
end Go.Proofs.YtojbehmbeoemgaaDoor
