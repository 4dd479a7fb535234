/- A part of the proof: what the laws need of it. -/
import Derived.Deep.RegionHeld3
import Derived.Test.YtgllafgpmenjjaaGreatDoorHReL31xZq
import Derived.Test.YtgllafgpmenjjaaGreatDoorHReL28xPh
import Derived.Test.YtgllafgpmenjjaaGreatDoorHReL14xDg
set_option linter.unusedVariables false
set_option linter.unusedSimpArgs false
set_option linter.unusedVariables false
set_option linter.unusedSimpArgs false
namespace Go.Proofs.YtgllafgpmenjjaaGreatDoor
open Go.RowKit Lay Mk
def PastRes (w : World) (e : Ending) (w' : World) : Prop := ∃ (k hn : Int) (nm : ByteArray) (X : List Whole) (hs : List Head) (A1 : Option Addr) (c1 : Nat) (Ap : Option Addr) (cp m : Nat),
  e = .returned (.tuple #[.agg #[.slice A1 3 c1, .int .i64 k, .int .i64 0], .int .i64 hn, .string nm, .agg #[.slice Ap X.length cp]]) ∧ (0 ≤ k ∧ k ≤ 2) ∧ (0 ≤ hn ∧ hn ≤ 2) ∧ nm ∈ drawnNames ∧ Made k hn nm X hs ∧ 1 ≤ X.length ∧ 3 ≤ c1 ∧ c1 ≤ maxLen ∧ X.length ≤ cp ∧ cp ≤ maxLen ∧ w.heap.size ≤ m ∧
  Row false w' A1 c1 pastRoots (rng w.heap.size m) ∧ Row (α := Bor Whole) true w' Ap cp X (nw m)
theorem row_dropF {α : Type} [Lay α] {w : World} {b off cap : Nat} {xs : List α} {S : Blks} (h : Row false w (some ⟨b, off, none⟩) cap xs S) (k cap' : Nat) : Row false w (some ⟨b, off + k * n α, none⟩) cap' (xs.drop k) S := by
  intro hx
  obtain ⟨b1, o1, e, hS, T, h1, h2, h3⟩ := h (by rintro rfl; simp at hx)
  injection e with e
  injection e with e1 e2
  subst e1; subst e2
  refine ⟨b, off + k * n α, rfl, hS, fun i => T (k + i), fun i => h1 _, fun hm => (by cases hm), fun i hi => ?_⟩
  have hi' : k + i < xs.length := by rw [List.length_drop] at hi; omega
  obtain ⟨cs, h4, h5⟩ := h3 (k + i) hi'
  refine ⟨cs, ?_, by rw [List.getElem_drop]; exact h5⟩
  have e3 : off + k * n α + i * n α = off + (k + i) * n α := by rw [Nat.add_mul]; omega
  rw [e3]; exact h4
theorem row_none {α : Type} [Lay α] {w : World} {A : Option Addr} {cap : Nat} {xs : List α} {S : Blks} (h : xs = []) : Row false w A cap xs S := fun hx => absurd h hx
theorem pastProve {K : Int} {nm : ByteArray} {L : List Leaf} (hk : 0 ≤ K ∧ K ≤ 2) (hn : nameOk nm = true) (hl : leavesOk L = true) : proveLeaf L nm K 16 = (pastProof K nm L, true) := by
  unfold proveLeaf
  rw [hl, hn, if_pos (by simp [inB]; omega)]; rfl
theorem apply_ok {L : List Leaf} {u : Change} (h : leavesOk L = true) : leavesOk (applyChange L u) = true := by
  unfold applyChange
  split
  · unfold leafDrop
    split
    · exact leavesOk_filter h _
    · exact h
  · exact leafPut_ok h
def pickVals : List ByteArray := [⟨#[107, 49]⟩, ⟨#[107, 50]⟩, ⟨#[]⟩]
theorem pickVals_ok : ∀ x ∈ pickVals, x.size ≤ 12 := by decide +kernel
theorem cell_far {w : World} {b o b' o' : Nat} {u v : Value} (h : b ≠ b') (k : w.cell? ⟨b', o', none⟩ = some u) : (w.setCell ⟨b, o, none⟩ v).cell? ⟨b', o', none⟩ = some u := (World.cell?_setCell_far _ _ _ _ h).trans k
theorem past_done {w v W' : World} {g : Nat} {xs : List UInt8} {A : Option Addr} {cap K : Nat} {hn : Int} {nm : ByteArray} {X : List Whole} {hs : List Head} {A1 : Option Addr} {c1 : Nat} {Ap : Option Addr} {cp nx m0 m1 m : Nat} (hCF : Chg (fun b => b = w.heap.size ∨ b = w.heap.size + 1) v W') (hg : g < w.heap.size) (cu : Cur v g xs A cap) (hK : K ≤ 2) (hh : 0 ≤ hn ∧ hn ≤ 2) (hnm : nm ∈ drawnNames) (hM : Made (K : Int) hn nm X hs) (h1 : 1 ≤ X.length) (e : nx = X.length) (l1 : 3 ≤ c1) (q1 : c1 ≤ maxLen) (hl : X.length ≤ cp) (hcm : cp ≤ maxLen) (r1 : Row false v A1 c1 pastRoots (rng m0 m1)) (hm0 : w.heap.size + 1 < m0) (hm1 : m1 ≤ m) (hm : w.heap.size + 1 < m) (rX : Row (α := Bor Whole) true v Ap cp X (nw m)) (q : Chg (fun b => b = g ∨ w.heap.size ≤ b) w v) (hlv : w.heap.size + 1 < v.heap.size) :
    PastRes w (.returned (.tuple #[.agg #[.slice A1 3 c1, .int .i64 K, .int .i64 0], .int .i64 hn, .string nm, .agg #[.slice Ap nx cp]])) W' ∧ Cur W' g xs A cap ∧ Chg (fun b => b = g ∨ w.heap.size ≤ b) w W' := by
  subst e
  refine ⟨⟨K, hn, nm, X, hs, A1, c1, Ap, cp, m, rfl, by omega, hh, hnm, hM, h1, l1, q1, hl, hcm, by omega, ?_, ?_⟩, ?_, ?_⟩
  · exact (Row.chg r1 hCF (fun b x y => by have := x.1; rcases y with y | y <;> omega)).mono (fun b x => by have := x.1; have := x.2; exact ⟨by omega, by omega⟩)
  · exact Row.chg rX hCF (fun b x y => by have x : m ≤ b := x; rcases y with y | y <;> omega)
  · exact cu.keep (hCF.block g (by omega) (by omega))
  · exact q.trans (hCF.mono (fun b _ h => .inr (by rcases h with h | h <;> omega)))
set_option maxRecDepth 20000 in set_option maxHeartbeats 32000000 in
theorem spec_l27Past (w : World) (g : Nat) (xs : List UInt8) (A : Option Addr) (cap : Nat) (S : Blks) (hc : Cur w g xs A cap) (hx : Row false w A cap xs S) (hS : ∀ b, S b → b < g) (hg : g < w.heap.size) (hl : xs.length ≤ 1048576) : Calls Tryz.prog 69 #[.pointer (some ⟨g, 0, none⟩)] w fun e w' => PastRes w e w' ∧ Cur w' g xs A cap ∧ Chg (fun b => b = g ∨ w.heap.size ≤ b) w w' := by
  have hSg : ¬ S g := fun h => by have := hS g h; omega
  go_enter Tryz.func69, Tryz.ntmps69
  go_wp2_with (fail)
  obtain ⟨W0, hW0⟩ : ∃ W, (w.alloc (.cells #[.slice none 0 0, .int .i64 0, .int .i64 0] 51)).alloc (.cells #[.slice none 0 0] 79) = W := ⟨_, rfl⟩
  have hW0f : Below w.heap.size w W0 ∧ W0.heap.size = w.heap.size + 1 + 1 ∧ W0.heap[w.heap.size]? = some (.cells #[.slice none 0 0, .int .i64 0, .int .i64 0] 51 (0, 0)) ∧ W0.heap[w.heap.size + 1]? = some (.cells #[.slice none 0 0] 79 (0, 0)) := by
    rw [← hW0]
    refine ⟨((Below.refl _ _).alloc (Nat.le_refl _) _).alloc (by simp) _, by simp, ?_, ?_⟩
    · rw [Below.heap_alloc _ _ _ (by simp)]; exact heap_alloc_new w _
    · have := heap_alloc_new (w.alloc (.cells #[.slice none 0 0, .int .i64 0, .int .i64 0] 51)) (.cells #[.slice none 0 0] 79)
      rw [World.size_alloc] at this; exact this
  rw [hW0]
  clear hW0
  obtain ⟨b0, s0, y2, y5⟩ := hW0f
  refine (spec_l22Roots W0).mono ?_
  rintro e1 w1 ⟨A1, c1, A2, c2, rfl, l1, m1, r1, r2, hb1⟩
  have s1 := hb1.size
  have cu1 := hc.keep ((hb1.block g (by omega)).trans (b0.block g hg))
  have hx1 : Row false w1 A cap xs S := Row.later (Row.later hx b0) (hb1.mono (by omega))
  have q1 : Chg (fun b => b = g ∨ w.heap.size ≤ b) w w1 := (Chg.below (Chg.refl _ _) b0 (Nat.le_refl _)).below hb1 (by omega)
  have y2 := (hb1.block w.heap.size (by omega)).trans y2
  have y5 := (hb1.block (w.heap.size + 1) (by omega)).trans y5
  have r1 := r1.tight
  have r2 := r2.tight
  clear hb1 hc hx b0
  go_wp2_with (fail)
  refine (spec_l01Below w1 g xs A cap S cu1 hx1 hSg hl 3 (by omega) (by omega)).mono ?_
  rintro e2 w2 ⟨kk, rfl, hk0, hk3, cu2, ch2⟩
  obtain ⟨K, rfl⟩ : ∃ n : Nat, kk = n := ⟨kk.toNat, by omega⟩
  have s2 := ch2.size
  have hx2 : Row false w2 A cap xs S := Row.chg hx1 ch2 (fun b h1 h2 => by have h3 : b = g := h2; subst h3; exact hSg h1)
  have y2 := (ch2.block w.heap.size (by omega) (fun h => by have h : w.heap.size = g := h; omega)).trans y2
  have y5 := (ch2.block (w.heap.size + 1) (by omega) (fun h => by have h : w.heap.size + 1 = g := h; omega)).trans y5
  have r1 := Row.chg r1 ch2 (fun b h1 h2 => by have h3 : b = g := h2; have h4 : W0.heap.size ≤ b := h1.1; omega)
  have r2 := Row.chg r2 ch2 (fun b h1 h2 => by have h3 : b = g := h2; have h4 : W0.heap.size ≤ b := h1.1; omega)
  have q2 := q1.trans (ch2.mono (fun b _ h => .inl h))
  clear ch2 cu1 hx1 q1
  go_wp2_with (fail)
  obtain ⟨T2, hT2⟩ : ∃ W, w2.alloc (.cells #[.slice A1 3 c1, .int .i64 (K : Int), .int .i64 0] 51) = W := ⟨_, rfl⟩
  have hT2f : Below w2.heap.size w2 T2 ∧ T2.heap.size = w2.heap.size + 1 ∧ T2.heap[w2.heap.size]? = some (.cells #[.slice A1 3 c1, .int .i64 (K : Int), .int .i64 0] 51 (0, 0)) := by
    rw [← hT2]; exact ⟨(Below.refl _ _).alloc (Nat.le_refl _) _, by simp, heap_alloc_new w2 _⟩
  rw [hT2]
  clear hT2
  obtain ⟨bT, sT, y8⟩ := hT2f
  have cuT := cu2.keep (bT.block g (by omega))
  have hxT := Row.later hx2 bT
  have y2 := (bT.block w.heap.size (by omega)).trans y2
  have y5 := (bT.block (w.heap.size + 1) (by omega)).trans y5
  have r1 := Row.later r1 bT
  have r2 := Row.later r2 bT
  have qT := q2.below bT (by omega)
  clear bT cu2 hx2 q2
  refine (spec_l01Below T2 g xs A cap S cuT hxT hSg hl 3 (by omega) (by omega)).mono ?_
  rintro e3 w3 ⟨hn, rfl, hn0, hn3, cu3, ch3⟩
  obtain ⟨mh, rfl⟩ : ∃ n : Nat, hn = n := ⟨hn.toNat, by omega⟩
  have s3 := ch3.size
  have hx3 : Row false w3 A cap xs S := Row.chg hxT ch3 (fun b h1 h2 => by have h3 : b = g := h2; subst h3; exact hSg h1)
  have y2 := (ch3.block w.heap.size (by omega) (fun h => by have h : w.heap.size = g := h; omega)).trans y2
  have y5 := (ch3.block (w.heap.size + 1) (by omega) (fun h => by have h : w.heap.size + 1 = g := h; omega)).trans y5
  have y8 := (ch3.block w2.heap.size (by omega) (fun h => by have h : w2.heap.size = g := h; omega)).trans y8
  have r1 := Row.chg r1 ch3 (fun b h1 h2 => by have h3 : b = g := h2; have h4 : W0.heap.size ≤ b := h1.1; omega)
  have r2 := Row.chg r2 ch3 (fun b h1 h2 => by have h3 : b = g := h2; have h4 : W0.heap.size ≤ b := h1.1; omega)
  have q3 := qT.trans (ch3.mono (fun b _ h => .inl h))
  clear ch3 cuT hxT qT
  go_wp2_with (fail)
  refine (spec_l04Name w3 g xs A cap S cu3 hx3 hS (by omega) hl).mono ?_
  rintro e4 w4 ⟨nm, rfl, hnm, cu4, ch4⟩
  have s4 := ch4.size
  have hx4 : Row false w4 A cap xs S := Row.keep hx3 (fun b hb => ch4.block b (by have := hS b hb; omega) (by have := hS b hb; omega))
  have y2 := (ch4.block w.heap.size (by omega) (by omega)).trans y2
  have y5 := (ch4.block (w.heap.size + 1) (by omega) (by omega)).trans y5
  have y8 := (ch4.block w2.heap.size (by omega) (by omega)).trans y8
  have r1 := (Row.chg r1.tight ch4 (fun b h1 h2 => by have h4 : W0.heap.size ≤ b := h1.1.1; have h5 := h1.2; rcases h2 with h2 | h2 <;> omega)).mono (S' := fun b => W0.heap.size ≤ b ∧ b < w1.heap.size) (fun b h => ⟨h.1.1, h.1.2⟩)
  have r2 := (Row.chg r2.tight ch4 (fun b h1 h2 => by have h4 : W0.heap.size ≤ b := h1.1.1; have h5 := h1.2; rcases h2 with h2 | h2 <;> omega)).mono (S' := fun b => W0.heap.size ≤ b ∧ b < w1.heap.size) (fun b h => ⟨h.1.1, h.1.2⟩)
  have q4 := q3.trans (ch4.mono (fun b _ h => h.elim .inl (fun k => .inr (by omega))))
  clear ch4 cu3 hx3 q3
  have hN12 := drawnNames_ok nm hnm
  have HNM := Lib.hid (And.intro hnm hN12.1)
  have hn12 := hN12.2
  clear hnm hN12
  go_wp2_with (fail)
  obtain ⟨W5, hW5⟩ : ∃ W, (w4.alloc (.cells #[] 58)).alloc (.cells #[.slice none 0 0] 79) = W := ⟨_, rfl⟩
  have hW5f : Below w4.heap.size w4 W5 ∧ W5.heap.size = w4.heap.size + 1 + 1 ∧ W5.heap[w4.heap.size + 1]? = some (.cells #[.slice none 0 0] 79 (0, 0)) ∧ Row (α := Head) true W5 (some ⟨w4.heap.size, 0, none⟩) 0 [] (fun b => b = w4.heap.size) := by
    rw [← hW5]
    refine ⟨((Below.refl _ _).alloc (Nat.le_refl _) _).alloc (by simp) _, by simp, ?_, Row.later (row_lit0 w4 _ _ rfl rfl) ((Below.refl _ _).alloc (Nat.le_refl _) _)⟩
    have := heap_alloc_new (w4.alloc (.cells #[] 58)) (.cells #[.slice none 0 0] 79)
    rw [World.size_alloc] at this; exact this
  rw [hW5]
  clear hW5
  obtain ⟨b5, s5, yp, rh⟩ := hW5f
  have cu5 := cu4.keep (b5.block g (by omega))
  have hx5 := Row.later hx4 b5
  refine (spec_l09Draw W5 g xs A cap S cu5 hx5 hS (by omega) hl).mono ?_
  rintro e6 w6 ⟨L, AL, cL, rfl, hLok, hLl, hLm, rL, cu6, ch6⟩
  have s6 := ch6.size
  have HST : Hid (∀ W, Chg (fun b => (b = g ∨ b = w4.heap.size + 1) ∨ w4.heap.size ≤ b) w4 W → W.heap[w.heap.size]? = some (.cells #[.slice none 0 0, .int .i64 0, .int .i64 0] 51 (0, 0)) ∧ W.heap[w.heap.size + 1]? = some (.cells #[.slice none 0 0] 79 (0, 0)) ∧ W.heap[w2.heap.size]? = some (.cells #[.slice A1 3 c1, .int .i64 (K : Int), .int .i64 0] 51 (0, 0)) ∧ Row false W A1 c1 pastRoots (rng W0.heap.size w1.heap.size) ∧ Row false W A2 c2 (poolsTo 3) (rng W0.heap.size w1.heap.size) ∧ Row false W A cap xs S) := Lib.hid (fun W h => ⟨(h.block _ (by omega) (by omega)).trans y2, (h.block _ (by omega) (by omega)).trans y5, (h.block _ (by omega) (by omega)).trans y8, Row.keep r1 (fun b hb => h.block b (by have := hb.2; omega) (by have := hb.1; have := hb.2; omega)), Row.keep r2 (fun b hb => h.block b (by have := hb.2; omega) (by have := hb.1; have := hb.2; omega)), Row.keep hx4 (fun b hb => h.block b (by have := hS b hb; omega) (by have := hS b hb; omega))⟩)
  have HCH : Hid (Chg (fun b => (b = g ∨ b = w4.heap.size + 1) ∨ w4.heap.size ≤ b) w4 w6) := Lib.hid ((Chg.below (Chg.refl _ _) b5 (Nat.le_refl _)).trans (ch6.mono (fun b _ h => h.elim (fun k => .inl (.inl k)) (fun k => .inr (by omega)))))
  have HTR : Hid (TriG (κ := Leaf) (α := Head) (β := Bor Whole) w4.heap.size (fun b => b = g ∨ b = w4.heap.size + 1) w6 AL cL L (some ⟨w4.heap.size, 0, none⟩) 0 [] none 0 []) := Lib.hid ⟨⟨nw W5.heap.size, fun b => b = w4.heap.size, none_, rL, Row.keep rh (fun b hb => ch6.block b (by have hb : b = _ := hb; omega) (by have hb : b = _ := hb; omega)), row_nil _ _, fun b x y => by have x : W5.heap.size ≤ b := x; have y : b = _ := y; omega, fun _ _ h => h.elim, fun _ _ h => h.elim, fun b h => by have h : b = _ := h; omega, fun _ h => h.elim, fun b x y => by have x : W5.heap.size ≤ b := x; omega, fun b x y => by have x : b = _ := x; omega, fun _ h => h.elim⟩, fun b h => by omega, Nat.le_refl _, by decide, Nat.le_refl _, by decide⟩
  have HCU := Lib.hid cu6
  have HBP := Lib.hid ((ch6.block (w4.heap.size + 1) (by omega) (by omega)).trans yp)
  have HQ4 := Lib.hid q4
  have HL0 := Lib.hid hLok
  have hK2 : K ≤ 2 := by omega
  have hhn : 0 ≤ (mh : Int) ∧ (mh : Int) ≤ 2 := by omega
  have hkI : (0 : Int) ≤ (K : Int) ∧ (K : Int) ≤ 2 := by omega
  have hpl : mh < 3 := by omega
  clear ch6 cu6 cu5 hx5 b5 yp rh rL cu4 hx4 y2 y5 y8 r1 r2 q4 hLok hk0 hk3
  go_wp2_with (fail)
  go_loopw [11, 13, 14] (fun u v i wr => ∃ (k : Nat) (X : List Whole) (hs : List Head) (L : List Leaf) (Ah : Option Addr) (ch : Nat) (Ap : Option Addr) (cp : Nat) (AL : Option Addr) (cL nh nx : Nat), k ≤ 3 ∧ i = .int .i64 k ∧ u = .slice Ah nh ch ∧ v = .slice AL L.length cL ∧ Hid (Made (K : Int) (mh : Int) nm X hs ∧ X.length = k ∧ leavesOk L = true ∧ nh = hs.length ∧ nx = X.length) ∧ Hid (TriG (κ := Leaf) (α := Head) (β := Bor Whole) w4.heap.size (fun b => b = g ∨ b = w4.heap.size + 1) wr AL cL L Ah ch hs Ap cp X) ∧ Hid (Cur wr g xs A cap) ∧ Hid (Chg (fun b => (b = g ∨ b = w4.heap.size + 1) ∨ w4.heap.size ≤ b) w4 wr) ∧ Hid (wr.heap[w4.heap.size + 1]? = some (.cells #[.slice Ap nx cp] 79 (0, 0)))) (fun _ _ i _ => 4 - (intOf i).toNat)
  case atStart => exact ⟨0, [], [], L, _, 0, none, 0, AL, cL, 0, 0, by omega, rfl, rfl, rfl, Lib.hid ⟨Made.nil _ _ _, rfl, HL0.out, rfl, rfl⟩, HTR, HCU, HCH, HBP⟩
  case round =>
    clear HTR HCU HCH HBP HL0
    obtain ⟨k, X, hs, L, Ah, ch, Ap, cp, AL, cL, nh, nx, hk, rfl, rfl, rfl, HM, HTR, HCU, HCH, HBP⟩ := hrel
    have hszr := HCH.out.size
    have hbpl : w4.heap.size + 1 < wr.heap.size := HTR.out.nb _ (.inr rfl)
    go_wp2_with (fail)
    refine (spec_l01Below wr g xs A cap S HCU.out (HST.out wr HCH.out).2.2.2.2.2 hSg hl 3 (by omega) (by omega)).mono ?_
    rintro e1 v1 ⟨dn, rfl, hd0, hd3, cu1, ch1⟩
    have z1 := ch1.size
    have HTR1 := Lib.hid (HTR.out.chgN (ch1.mono (fun b _ h => .inl h)))
    have HCH1 := Lib.hid (HCH.out.trans (ch1.mono (fun b _ h => .inl (.inl h))))
    have HBP1 := Lib.hid ((ch1.block (w4.heap.size + 1) hbpl (fun h => by have h : w4.heap.size + 1 = g := h; omega)).trans HBP.out)
    have HCU1 := Lib.hid cu1
    clear ch1 cu1 HTR HCU HCH HBP
    have hwd : IntKind.i64.wrap (1 + dn) = 1 + dn := IntWalk.i64_in _ (by omega)
    by_cases hlt : (k : Int) < 1 + dn
    rotate_left
    · have hltd : decide ((k : Int) < 1 + dn) = false := decide_eq_false hlt
      obtain ⟨f2, f5, f8, R1, -, -⟩ := HST.out v1 HCH1.out
      have HR1 := Lib.hid R1
      have hz1 := HCH1.out.size
      have hk1 : 1 ≤ k := by omega
      have a0 := box_at (i := 0) f2 rfl
      have a1 := box_at (i := 1) f2 rfl
      have a2 := box_at (i := 2) f2 rfl
      have af := box_fz f2
      have b0 := box_at (i := 0) f5 rfl
      have bf := box_fz f5
      have c0 := box_at (i := 0) f8 rfl
      have c1_ := box_at (i := 1) f8 rfl
      have c2_ := box_at (i := 2) f8 rfl
      have d0 := box_at (i := 0) HBP1.out rfl
      have n1 : w.heap.size ≠ w2.heap.size := by omega
      have n2 : w.heap.size ≠ w4.heap.size + 1 := by omega
      have n3 : w.heap.size + 1 ≠ w2.heap.size := by omega
      have n4 : w.heap.size + 1 ≠ w4.heap.size + 1 := by omega
      have n5 : w.heap.size ≠ w.heap.size + 1 := by omega
      have n6 : w.heap.size + 1 ≠ w.heap.size := by omega
      have hlv : w.heap.size + 1 < v1.heap.size := by omega
      have HQ1 := Lib.hid (HQ4.out.trans (HCH1.out.mono (fun b _ h => by rcases h with (h | h) | h; exact .inl h; exact .inr (by omega); exact .inr (by omega))))
      have HKP := Lib.hid (fun (w' : World) (h : Chg (fun b => b = w.heap.size ∨ b = w.heap.size + 1) v1 w') => (⟨(h.cell (b := w2.heap.size) (o := 0) (by omega) (by omega)).trans c0, (h.cell (b := w2.heap.size) (o := 1) (by omega) (by omega)).trans c1_, (h.cell (b := w2.heap.size) (o := 2) (by omega) (by omega)).trans c2_, (h.cell (b := w4.heap.size + 1) (o := 0) (by omega) (by omega)).trans d0⟩ : w'.cell? ⟨w2.heap.size, 0, none⟩ = some (.slice A1 3 c1) ∧ w'.cell? ⟨w2.heap.size, 1, none⟩ = some (.int .i64 (K : Int)) ∧ w'.cell? ⟨w2.heap.size, 2, none⟩ = some (.int .i64 0) ∧ w'.cell? ⟨w4.heap.size + 1, 0, none⟩ = some (.slice Ap nx cp)))
      clear f2 f5 f8 R1
      go_wp2_with (fail)
      go_region_held3 (fun w' => w'.cell? ⟨w2.heap.size, 0, none⟩ = some (.slice A1 3 c1) ∧ w'.cell? ⟨w2.heap.size, 1, none⟩ = some (.int .i64 (K : Int)) ∧ w'.cell? ⟨w2.heap.size, 2, none⟩ = some (.int .i64 0) ∧ w'.cell? ⟨w4.heap.size + 1, 0, none⟩ = some (.slice Ap nx cp))
        (exact HKP.out _ (by (repeat (first | with_reducible exact Chg.refl _ _ | with_reducible apply Chg.drew | with_reducible refine Chg.setCell ?_ ?_ _)); all_goals (first | exact .inl (.inl rfl) | exact .inl (.inr rfl))))
        (fail)
      all_goals go_wp2_with (fail)
      all_goals refine bodyPost_ret (v := .tuple #[.agg #[.slice A1 3 c1, .int .i64 (K : Int), .int .i64 0], .int .i64 (mh : Int), .string nm, .agg #[.slice Ap nx cp]]) (by simp [results, Tryz.results69, go_sem, *]) rfl ?_
      all_goals exact past_done (v := v1) (m := w4.heap.size) (by (repeat (first | with_reducible exact Chg.refl _ _ | with_reducible apply Chg.drew | with_reducible refine Chg.setCell ?_ ?_ _)); all_goals (first | exact .inl (.inl rfl) | exact .inl (.inr rfl))) hg HCU1.out hK2 hhn HNM.out.1 HM.out.1 (by rw [HM.out.2.1]; exact hk1) HM.out.2.2.2.2 l1 m1 (HTR1.out.ls) (HTR1.out.ms) HR1.out (by omega) (by omega) (by omega) HTR1.out.thd HQ1.out hlv
    have hltd : decide ((k : Int) < 1 + dn) = true := decide_eq_true hlt
    have hk2 : k ≤ 2 := by omega
    have HHS : Hid (hs.length = k) := Lib.hid (by rw [HM.out.1.len]; exact HM.out.2.1)
    have HNH := Lib.hid HM.out.2.2.2.1
    have HNX' := Lib.hid HM.out.2.2.2.2
    obtain ⟨KL, rL⟩ := HTR1.out.fst
    have HLK := Lib.hid HM.out.2.2.1
    have HRL := Lib.hid rL
    have HRT := Lib.hid (fun W (h : Below v1.heap.size v1 W) => spec_RootOf_ok W L AL cL _ (Row.later HRL.out h) HLK.out (leaves_600 HLK.out).1)
    have HPO : Hid (headOk (pastHead (mh : Int) hs L) = true) := Lib.hid (pastHead_ok hhn HM.out.1.chain (by rw [HHS.out]; omega))
    have HNX : Hid (∀ W, Below v1.heap.size v1 W → Calls Tryz.prog 114 #[.slice Ah nh ch, .int .i64 (mh : Int), .string (nodeD 16 8 0 L)] W fun e w' => e = .returned (.tuple #[.agg (Head.cs (pastHead (mh : Int) hs L)).toArray, .bool true]) ∧ Below W.heap.size W w') := Lib.hid (fun W h => by
      have h1 := spec_NextHead_ok W hs Ah ch _ (Row.later HTR1.out.snd.weak h) (by rw [HHS.out]; omega) (mh : Int) (nodeD 16 8 0 L) HM.out.1.chain HPO.out
      rw [← HNH.out] at h1
      exact h1)
    have HSN := Lib.hid (HM.out.1.snoc hhn HLK.out (by rw [HHS.out]; omega))
    have HPV : Hid (proveLeaf L nm (K : Int) 16 = (pastProof (K : Int) nm L, true)) := Lib.hid (pastProve hkI HNM.out.2 HLK.out)
    have HXW : Hid (pastWhole (K : Int) (mh : Int) nm hs L = ⟨pastProof (K : Int) nm L, (sidesD 16 (indexOf nm) L 8).drop (8 - K), sealOf (seedOf (mh : Int)) (pastHead (mh : Int) hs L), []⟩) := Lib.hid (by unfold pastWhole; rw [Int.toNat_natCast])
    obtain ⟨q, hq⟩ : ∃ q, pastHead (mh : Int) hs L = q := ⟨_, rfl⟩
    rw [hq] at HNX HPO HSN HXW
    clear hq rL
    obtain ⟨rt, hrt⟩ : ∃ r, nodeD 16 8 0 L = r := ⟨_, rfl⟩
    rw [hrt] at HRT HNX
    clear hrt
    have hB1 : w4.heap.size ≤ v1.heap.size := HCH1.out.size
    go_wp2_with (fail)
    refine (HRT.out v1 (Below.refl _ _)).mono ?_
    rintro e2 v2 ⟨rfl, hb2⟩
    go_wp2_with (fail)
    refine (HNX.out v2 hb2).mono ?_
    rintro e3 v3 ⟨rfl, hb3⟩
    have HB3 := Lib.hid (hb2.trans (hb3.mono hb2.size))
    have z3 : v1.heap.size ≤ v3.heap.size := HB3.out.size
    have hqb := headOk_b HPO.out
    have HQF : Hid (Flat.ok q) := Lib.hid (show I64 q.house ∧ I64 q.epoch ∧ q.root.size ≤ maxLen ∧ q.prev.size ≤ maxLen by unfold I64 maxLen; omega)
    clear hb2 hb3 HRT HNX
    obtain ⟨qa, qe, qr, qp⟩ := q
    simp only at hqb
    simp only [Head.cs]
    go_upto_region 13 with (at_builtin; refine wpList_trigU (α := Head) (w := v1) rfl _ _ rfl rfl HNH.out HTR1.out hB1 ((HB3.out.alloc z3 _).alloc (by simp; omega) _) rfl (src_newB _ _ (by first | rfl | simp) ⟨qa, qe, qr, qp⟩ HQF.out _ _ rfl) (by have := HNH.out; have := HHS.out; omega) ?_; intro A6 c6 v6 t6 ch6)
    have z6 := ch6.size
    simp only [World.size_alloc] at z6
    have HC6 : Hid (Chg (fun b => (b = g ∨ b = w4.heap.size + 1) ∨ w4.heap.size ≤ b) w4 v6) := Lib.hid ((HCH1.out.below ((HB3.out.alloc z3 _).alloc (by simp; omega) _) hB1).trans (ch6.mono (fun b _ h => .inr h.1)))
    have HYH : Hid (v6.heap[v3.heap.size]? = some (.cells #[.int .i64 qa, .int .i64 qe, .string qr, .string qp] 58 (0, 0))) := Lib.hid ((ch6.block v3.heap.size (by simp; omega) (by omega)).trans ((Below.heap_alloc _ _ _ (by simp)).trans (heap_alloc_new v3 _)))
    have HBP6 := Lib.hid ((ch6.block (w4.heap.size + 1) (by simp; omega) (fun h => h.2.2 (.inr rfl))).trans ((((HB3.out.alloc z3 _).alloc (by simp; omega) _).block (w4.heap.size + 1) (by omega)).trans HBP1.out))
    have HCU6 := Lib.hid (HCU1.out.keep ((ch6.block g (by simp; omega) (fun h => h.2.2 (.inl rfl))).trans (((HB3.out.alloc z3 _).alloc (by simp; omega) _).block g (by omega))))
    have HT6 := Lib.hid t6
    have hl8 : w2.heap.size < v6.heap.size := by omega
    clear t6 ch6 HTR1 HCH1 HBP1 HCU1 HB3
    go_upto_region 14 with (fail)
    obtain ⟨V7, hV7⟩ : ∃ W, v6.alloc (.cells #[.slice none 0 0, .slice none 0 0, .slice none 0 0, .int .i64 0, .int .i64 0, .string ⟨#[]⟩, .string ⟨#[]⟩, .int .i64 0, .slice none 0 0, .slice none 0 0, .slice none 0 0, .slice none 0 0] 64) = W := ⟨_, rfl⟩
    have hV7f : Below v6.heap.size v6 V7 ∧ V7.heap.size = v6.heap.size + 1 ∧ V7.heap[v6.heap.size]? = some (.cells #[.slice none 0 0, .slice none 0 0, .slice none 0 0, .int .i64 0, .int .i64 0, .string ⟨#[]⟩, .string ⟨#[]⟩, .int .i64 0, .slice none 0 0, .slice none 0 0, .slice none 0 0, .slice none 0 0] 64 (0, 0)) := by
      rw [← hV7]; exact ⟨(Below.refl _ _).alloc (Nat.le_refl _) _, by simp, heap_alloc_new v6 _⟩
    rw [hV7]
    clear hV7
    obtain ⟨b7, s7, yx7⟩ := hV7f
    obtain ⟨K6, rL6⟩ := HT6.out.fst
    have HRL6 := Lib.hid rL6
    have HK6 : Hid (v6.cell? ⟨w2.heap.size, 1, none⟩ = some (.int .i64 (K : Int))) := Lib.hid (box_at (i := 1) (HST.out v6 HC6.out).2.2.1 rfl)
    have h24 := (leaves_600 HLK.out)
    have HPL : Hid (∀ W, Below v6.heap.size v6 W → Calls Tryz.prog 116 #[.slice AL L.length cL, .string nm, .int .i64 (K : Int), .int .i64 16] W fun e w' => ∃ c, e = .returned (.tuple #[.agg c.toArray, .bool true]) ∧ rd true w' c (pastProof (K : Int) nm L) (rng W.heap.size w'.heap.size) ∧ Below W.heap.size W w') := Lib.hid (fun W h => by
      have h1 := spec_ProveLeaf W L AL cL _ (Row.later HRL6.out h) (by omega) (by omega) nm (by omega) (K : Int) (by unfold I64; omega) 16 (by unfold I64; omega)
      rw [HPV.out] at h1
      exact h1)
    have HSDS : Hid (∀ W, Below v6.heap.size v6 W → Calls Tryz.prog 117 #[.slice AL L.length cL, .int .i64 (indexOf nm : Int), .int .i64 0, .int .i64 16] W fun e w' => ∃ A c, e = .returned (.slice A 8 c) ∧ Own W w' A c (sidesD 16 (indexOf nm) L 8)) := Lib.hid (fun W h => by
      have h1 := spec_SidesOf W L AL cL _ (Row.later HRL6.out h) HLK.out (indexOf nm) (UInt8.toNat_lt _) 8 (Nat.le_refl _) 16 (by decide)
      rw [show (8 : Int) - ((8 : Nat) : Int) = 0 from rfl] at h1
      refine h1.mono ?_
      rintro e w' ⟨A, c, he, ho⟩
      rw [sidesD_len] at he
      exact ⟨A, c, he, ho⟩)
    have HSL8 : Hid ((sidesD 16 (indexOf nm) L 8).length = 8) := Lib.hid (sidesD_len _ _ _ _)
    obtain ⟨pf, hpf⟩ : ∃ p, pastProof (K : Int) nm L = p := ⟨_, rfl⟩
    rw [hpf] at HPL HXW
    obtain ⟨sd, hsd⟩ : ∃ s, sidesD 16 (indexOf nm) L 8 = s := ⟨_, rfl⟩
    rw [hsd] at HSDS HSL8 HXW
    obtain ⟨ix, hix⟩ : ∃ i : Nat, indexOf nm = i := ⟨_, rfl⟩
    have HIX := Lib.hid (fun W => spec_IndexOf W nm (by omega))
    rw [hix] at HIX HSDS
    clear hpf hsd hix rL6 HPV
    have k7 := (b7.cell (p := ⟨w2.heap.size, 1, none⟩) hl8).trans HK6.out
    go_wp2_with (fail)
    refine (HPL.out V7 b7).mono ?_
    rintro e8 w8 ⟨cpf, rfl, hr8, hb8⟩
    have HB8 := Lib.hid (b7.trans (hb8.mono (by omega)))
    have s8 := hb8.size
    have yx8 := (hb8.block v6.heap.size (by omega)).trans yx7
    clear b7 hb8 yx7 HPL k7
    obtain ⟨P0, n0, T0, P1, n1, T1, rfl, p0a, p0b, p0r, p0s, p1a, p1b, p1r, p1s, -⟩ := Proof.open hr8
    simp only [Proof.cs]
    have HP8 := Lib.hid (And.intro (And.intro p0a (And.intro p0b (p0r.weak.mono p0s))) (And.intro p1a (And.intro p1b (p1r.weak.mono p1s))))
    clear hr8 p0a p0b p0r p0s p1a p1b p1r p1s
    have z0 := box_at (i := 0) yx8 rfl
    have z1 := box_at (i := 1) yx8 rfl
    have zf := box_fz yx8
    go_upto_region 15 with (fail)
    obtain ⟨V9, hV9⟩ : ∃ W, (w8.setCell ⟨v6.heap.size, 0, none⟩ (.slice P0 pf.bucket.length n0)).setCell ⟨v6.heap.size, 1, none⟩ (.slice P1 pf.sides.length n1) = W := ⟨_, rfl⟩
    have hV9f : Chg (fun b => b = v6.heap.size) w8 V9 ∧ V9.heap[v6.heap.size]? = some (.cells #[.slice P0 pf.bucket.length n0, .slice P1 pf.sides.length n1, .slice none 0 0, .int .i64 0, .int .i64 0, .string ⟨#[]⟩, .string ⟨#[]⟩, .int .i64 0, .slice none 0 0, .slice none 0 0, .slice none 0 0, .slice none 0 0] 64 (0, 0)) := by
      rw [← hV9]
      refine ⟨by (repeat (first | with_reducible exact Chg.refl _ _ | with_reducible refine Chg.setCell ?_ ?_ _)); all_goals exact .inl rfl, ?_⟩
      simp only [World.setCell, Array.getElem?_modify, yx8]; simp
    rw [hV9]
    clear hV9 z0 z1 zf yx8
    obtain ⟨ch9, yx9⟩ := hV9f
    have s9 := ch9.size
    have HB9 := Lib.hid (HB8.out.trans (ch9.to_below (B := v6.heap.size) (by omega) (fun b h => by have h : b = _ := h; omega)))
    have HP9 : Hid ((pf.bucket.length ≤ n0 ∧ n0 ≤ maxLen ∧ Row false V9 P0 n0 pf.bucket (rng V7.heap.size w8.heap.size)) ∧ (pf.sides.length ≤ n1 ∧ n1 ≤ maxLen ∧ Row false V9 P1 n1 pf.sides (rng V7.heap.size w8.heap.size))) := Lib.hid ⟨⟨HP8.out.1.1, HP8.out.1.2.1, Row.chg HP8.out.1.2.2 ch9 (fun b x y => by have := x.1; have y : b = _ := y; omega)⟩, HP8.out.2.1, HP8.out.2.2.1, Row.chg HP8.out.2.2.2 ch9 (fun b x y => by have := x.1; have y : b = _ := y; omega)⟩
    clear ch9 HP8 HB8
    go_wp2_with (fail)
    refine (HIX.out V9).mono ?_
    rintro e10 w10 ⟨rfl, hb10⟩
    have s10 := hb10.size
    have HB10 := Lib.hid (HB9.out.trans (hb10.mono (by omega)))
    go_wp2_with (fail)
    refine (HSDS.out w10 HB10.out).mono ?_
    rintro e11 w11 ⟨AS, cS, rfl, oS⟩
    have s11 := oS.bl.size
    have hb11 : Below V9.heap.size V9 w11 := hb10.trans (oS.bl.mono s10)
    have HB11 := Lib.hid (HB9.out.trans (hb11.mono (by omega)))
    have yx11 := (hb11.block v6.heap.size (by omega)).trans yx9
    have HP11 : Hid ((pf.bucket.length ≤ n0 ∧ n0 ≤ maxLen ∧ Row false w11 P0 n0 pf.bucket (rng V7.heap.size w8.heap.size)) ∧ (pf.sides.length ≤ n1 ∧ n1 ≤ maxLen ∧ Row false w11 P1 n1 pf.sides (rng V7.heap.size w8.heap.size))) := Lib.hid ⟨⟨HP9.out.1.1, HP9.out.1.2.1, Row.later HP9.out.1.2.2 hb11⟩, HP9.out.2.1, HP9.out.2.2.1, Row.later HP9.out.2.2.2 hb11⟩
    have HOS := Lib.hid oS
    clear hb10 hb11 oS yx9 HP9 HB9 HB10
    have hS8 : 8 ≤ cS := by have := HOS.out.le; rw [HSL8.out] at this; exact this
    obtain ⟨bS, rfl⟩ : ∃ b, AS = some ⟨b, 0, none⟩ := by
      rcases HOS.out.row with ⟨_, h, _⟩ | ⟨g1, cur, e, _⟩
      · exfalso; have := HSL8.out; rw [h] at this; cases this
      · exact ⟨g1, e⟩
    have k11 := (HB11.out.cell (p := ⟨w2.heap.size, 1, none⟩) hl8).trans HK6.out
    have z2 := box_at (i := 2) yx11 rfl
    have zf := box_fz yx11
    have hsub : (8 : Int) - (K : Int) = ((8 - K : Nat) : Int) := by omega
    have hsw : IntKind.i64.wrap ((8 - K : Nat) : Int) = ((8 - K : Nat) : Int) := IntWalk.i64_in _ (by omega)
    go_upto_region 17 with (fail)
    obtain ⟨AT, hAT⟩ : ∃ A : Option Addr, (if cS = 8 - K then some (⟨bS, 0, none⟩ : Addr) else some ⟨bS, 8 - K, none⟩) = A := ⟨_, rfl⟩
    rw [hAT, show 8 - (8 - K) = K by omega]
    have HTP : Hid ((sd.drop (8 - K)).length = K ∧ Row false w11 AT (cS - (8 - K)) (sd.drop (8 - K)) (nw w10.heap.size)) := Lib.hid (by
      have hl8 := HSL8.out
      refine ⟨by rw [List.length_drop, hl8]; omega, ?_⟩
      by_cases hK0 : K = 0
      · exact row_none (List.drop_eq_nil_of_le (by omega))
      · rw [if_neg (by omega)] at hAT
        rw [← hAT]
        have := row_dropF HOS.out.row.weak (8 - K) (cS - (8 - K))
        rw [show n ByteArray = 1 from rfl, Nat.mul_one, Nat.zero_add] at this
        exact this)
    have hcS : cS - (8 - K) ≤ maxLen ∧ K ≤ cS - (8 - K) := by have := HOS.out.cm; omega
    obtain ⟨kS, hkS⟩ : ∃ k, cS - (8 - K) = k := ⟨_, rfl⟩
    rw [hkS] at HTP hcS ⊢
    obtain ⟨V12, hV12⟩ : ∃ W, w11.setCell ⟨v6.heap.size, 2, none⟩ (.slice AT K kS) = W := ⟨_, rfl⟩
    have hV12f : Chg (fun b => b = v6.heap.size) w11 V12 ∧ V12.heap[v6.heap.size]? = some (.cells #[.slice P0 pf.bucket.length n0, .slice P1 pf.sides.length n1, .slice AT K kS, .int .i64 0, .int .i64 0, .string ⟨#[]⟩, .string ⟨#[]⟩, .int .i64 0, .slice none 0 0, .slice none 0 0, .slice none 0 0, .slice none 0 0] 64 (0, 0)) := by
      rw [← hV12]
      refine ⟨by (repeat (first | with_reducible exact Chg.refl _ _ | with_reducible refine Chg.setCell ?_ ?_ _)); all_goals exact .inl rfl, ?_⟩
      simp only [World.setCell, Array.getElem?_modify, yx11]; simp
    rw [hV12]
    clear hV12 z2 zf yx11 k11 hAT hkS hS8
    obtain ⟨ch12, yx12⟩ := hV12f
    have s12 := ch12.size
    have HB12 := Lib.hid (HB11.out.trans (ch12.to_below (B := v6.heap.size) (by omega) (fun b h => by have h : b = _ := h; omega)))
    have hVw : v6.heap.size < w8.heap.size := by omega
    have HP12 : Hid ((pf.bucket.length ≤ n0 ∧ n0 ≤ maxLen ∧ Row false V12 P0 n0 pf.bucket (rng V7.heap.size w8.heap.size)) ∧ (pf.sides.length ≤ n1 ∧ n1 ≤ maxLen ∧ Row false V12 P1 n1 pf.sides (rng V7.heap.size w8.heap.size)) ∧ (sd.drop (8 - K)).length = K ∧ Row false V12 AT kS (sd.drop (8 - K)) (nw w10.heap.size)) := Lib.hid ⟨⟨HP11.out.1.1, HP11.out.1.2.1, Row.chg HP11.out.1.2.2 ch12 (fun b x y => by have := x.1; have y : b = _ := y; omega)⟩, ⟨HP11.out.2.1, HP11.out.2.2.1, Row.chg HP11.out.2.2.2 ch12 (fun b x y => by have := x.1; have y : b = _ := y; omega)⟩, HTP.out.1, Row.chg HTP.out.2 ch12 (fun b x y => by have x : w10.heap.size ≤ b := x; have y : b = _ := y; omega)⟩
    clear ch12 HP11 HB11 HTP HOS
    have HC12 := Lib.hid (HC6.out.below HB12.out (by have := HC6.out.size; omega))
    have hpm : (poolsTo 3)[mh]'(by rw [poolsTo_len]; exact hpl) = poolOf (seedOf (mh : Int)) := by simp [poolsTo]
    obtain ⟨bP, oP, A5, c5, T5, rfl, hlP, fP, -, -, rP, hTs⟩ := Row.listS (HST.out V12 HC12.out).2.2.2.2.1 (i := mh) (by rw [poolsTo_len]; exact hpl)
    rw [hpm] at fP rP
    have hP16 := poolOf_len (seedOf (mh : Int))
    have hPb : bP < w1.heap.size := by
      have r5 := (HST.out V12 HC12.out).2.2.2.2.1
      obtain ⟨b9, o9, e9, h9, _⟩ := r5 (by intro h; have := poolsTo_len 3; rw [h] at this; cases this)
      injection e9 with e9
      injection e9 with e9
      subst e9
      exact h9.2
    have HSH := Lib.hid (fun W (h : Below v6.heap.size V12 W) => spec_SealHead W (seedOf (mh : Int)) (seedOf_le _) A5 c5 _ (Row.keep rP (fun b hb => h.block b (by have := (hTs b hb).2; omega))) ⟨qa, qe, qr, qp⟩ HPO.out)
    rw [hP16] at HSH fP
    obtain ⟨sl, hsl⟩ : ∃ s, sealOf (seedOf (mh : Int)) ⟨qa, qe, qr, qp⟩ = s := ⟨_, rfl⟩
    rw [hsl] at HSH HXW
    have HSEED := Lib.hid (fun W => spec_SeedOf W (mh : Int) (by unfold I64; omega))
    obtain ⟨sdd, hsdd⟩ : ∃ s, seedOf (mh : Int) = s := ⟨_, rfl⟩
    rw [hsdd] at HSH HSEED
    simp only [Head.cs] at HSH
    clear hsl hpm rP hTs hP16 hsdd
    have yh := (HB12.out.block v3.heap.size (by omega)).trans HYH.out
    have g0 := box_at (i := 0) yh rfl
    have g1 := box_at (i := 1) yh rfl
    have g2 := box_at (i := 2) yh rfl
    have g3 := box_at (i := 3) yh rfl
    have hmI : (0 : Int) ≤ (mh : Int) ∧ (mh : Int) < 3 := by omega
    have HXB := Lib.hid (fun (W : World) (h : Below V12.heap.size V12 W) => (h.block v6.heap.size (by omega)).trans yx12)
    have HM12 := Lib.hid (fun (w' : World) (h : Below v6.heap.size V12 w') => (⟨(h.cell (p := ⟨v3.heap.size, 0, none⟩) (by show v3.heap.size < _; omega)).trans g0, (h.cell (p := ⟨v3.heap.size, 1, none⟩) (by show v3.heap.size < _; omega)).trans g1, (h.cell (p := ⟨v3.heap.size, 2, none⟩) (by show v3.heap.size < _; omega)).trans g2, (h.cell (p := ⟨v3.heap.size, 3, none⟩) (by show v3.heap.size < _; omega)).trans g3, (h.cell (p := ⟨bP, oP + mh, none⟩) (by show bP < _; omega)).trans fP, h⟩ : w'.cell? ⟨v3.heap.size, 0, none⟩ = some (.int .i64 qa) ∧ w'.cell? ⟨v3.heap.size, 1, none⟩ = some (.int .i64 qe) ∧ w'.cell? ⟨v3.heap.size, 2, none⟩ = some (.string qr) ∧ w'.cell? ⟨v3.heap.size, 3, none⟩ = some (.string qp) ∧ w'.cell? ⟨bP, oP + mh, none⟩ = some (.slice A5 16 c5) ∧ Below v6.heap.size V12 w'))
    have hB := Below.refl v6.heap.size V12
    have hC := Below.refl V12.heap.size V12
    have hv12 : v6.heap.size < V12.heap.size := by omega
    clear g0 g1 g2 g3 fP yh
    go_region_held3 (fun w' => w'.cell? ⟨v3.heap.size, 0, none⟩ = some (.int .i64 qa) ∧ w'.cell? ⟨v3.heap.size, 1, none⟩ = some (.int .i64 qe) ∧ w'.cell? ⟨v3.heap.size, 2, none⟩ = some (.string qr) ∧ w'.cell? ⟨v3.heap.size, 3, none⟩ = some (.string qp) ∧ w'.cell? ⟨bP, oP + mh, none⟩ = some (.slice A5 16 c5) ∧ Below v6.heap.size V12 w')
      (exact HM12.out _ (by (repeat (first | with_reducible exact hB | with_reducible apply Below.drew | with_reducible refine Below.setCell ?_ ?_ _)); all_goals (first | exact Nat.le_refl _ | omega | (simp; done) | (simp; omega))))
      (first | (go_at_call 119; refine (HSEED.out _).mono ?_; rintro e13 w13 ⟨rfl, hb13⟩; have hC := Below.step (a := V12) (by (repeat (first | with_reducible exact hC | with_reducible apply Below.drew))) hb13; have s13 := hC.size; have hB := hC.mono (Nat.le_of_lt hv12)) | (go_at_call 118; (with_reducible refine (HSH.out _ ?_).mono ?_); (exact (by (repeat (first | with_reducible exact hB | with_reducible apply Below.drew)))); rintro e14 w14 ⟨c14, rfl, hr14, hb14⟩; have hC := Below.step (a := V12) (by (repeat (first | with_reducible exact hC | with_reducible apply Below.drew))) hb14; have hB := hC.mono (Nat.le_of_lt hv12); obtain ⟨B0, j0, U0, B1, j1, U1, B2, j2, U2, rfl, e3, e4, e5, e6, e7, f0a, f0b, f0r, f0s, f1a, f1b, f1r, f1s, f2a, f2b, f2r, f2s, -⟩ := Seal.open hr14; simp only [Seal.cs]; have HSL14 := Lib.hid hr14; have yx14 := HXB.out _ hC; have z3 := box_at (i := 3) yx14 rfl; have z4 := box_at (i := 4) yx14 rfl; have z5 := box_at (i := 5) yx14 rfl; have z6_ := box_at (i := 6) yx14 rfl; have z7 := box_at (i := 7) yx14 rfl; have z8 := box_at (i := 8) yx14 rfl; have z9 := box_at (i := 9) yx14 rfl; have z10 := box_at (i := 10) yx14 rfl; have zf := box_fz yx14; clear hr14))
    clear z3 z4 z5 z6_ z7 z8 z9 z10 zf
    obtain ⟨V15, hV15⟩ : ∃ W, ((((((((w14.setCell ⟨v6.heap.size, 3, none⟩ (.int .i64 sl.head.house)).setCell ⟨v6.heap.size, 4, none⟩ (.int .i64 sl.head.epoch)).setCell ⟨v6.heap.size, 5, none⟩ (.string sl.head.root)).setCell ⟨v6.heap.size, 6, none⟩ (.string sl.head.prev)).setCell ⟨v6.heap.size, 7, none⟩ (.int .i64 sl.sig.at_)).setCell ⟨v6.heap.size, 8, none⟩ (.slice B0 sl.sig.open_.length j0)).setCell ⟨v6.heap.size, 9, none⟩ (.slice B1 sl.sig.shut.length j1)).setCell ⟨v6.heap.size, 10, none⟩ (.slice B2 sl.sig.sides.length j2)) = W := ⟨_, rfl⟩
    have hV15f : Chg (fun b => b = v6.heap.size) w14 V15 ∧ V15.heap[v6.heap.size]? = some (.cells #[.slice P0 pf.bucket.length n0, .slice P1 pf.sides.length n1, .slice AT K kS, .int .i64 sl.head.house, .int .i64 sl.head.epoch, .string sl.head.root, .string sl.head.prev, .int .i64 sl.sig.at_, .slice B0 sl.sig.open_.length j0, .slice B1 sl.sig.shut.length j1, .slice B2 sl.sig.sides.length j2, .slice none 0 0] 64 (0, 0)) := by
      rw [← hV15]
      refine ⟨by (repeat (first | with_reducible exact Chg.refl _ _ | with_reducible refine Chg.setCell ?_ ?_ _)); all_goals exact .inl rfl, ?_⟩
      simp only [World.setCell, Array.getElem?_modify, yx14]; simp
    rw [hV15]
    clear hV15 yx14
    obtain ⟨ch15, yx15⟩ := hV15f
    have s14 := hC.size
    have s15 := ch15.size
    have HB15 := Lib.hid ((HB12.out.trans hB).trans (ch15.to_below (B := v6.heap.size) (by omega) (fun b h => by have h : b = _ := h; omega)))
    have HY : Hid (rd (α := Bor Whole) true V15 [.slice P0 pf.bucket.length n0, .slice P1 pf.sides.length n1, .slice AT K kS, .int .i64 sl.head.house, .int .i64 sl.head.epoch, .string sl.head.root, .string sl.head.prev, .int .i64 sl.sig.at_, .slice B0 sl.sig.open_.length j0, .slice B1 sl.sig.shut.length j1, .slice B2 sl.sig.sides.length j2, .slice none 0 0] (pastWhole (K : Int) (mh : Int) nm hs L) (nw v6.heap.size)) := Lib.hid (by
      obtain ⟨⟨p1, p2, p3⟩, ⟨p4, p5, p6⟩, p7, p8⟩ := HP12.out
      have K1 : ∀ {α : Type} [Lay α] {A : Option Addr} {k : Nat} {xs : List α} {U : Blks}, Row false V12 A k xs U → (∀ b, U b → b ≠ v6.heap.size) → Row false V15 A k xs U := fun r s => Row.chg (Row.later r hC) ch15 (fun b x y => s b x y)
      have K2 : ∀ {α : Type} [Lay α] {A : Option Addr} {k : Nat} {xs : List α} {U : Blks}, Row true w14 A k xs U → sub U (rng w13.heap.size w14.heap.size) → Row false V15 A k xs U := fun r s => Row.chg r.weak ch15 (fun b x y => by have := (s b x).1; have y : b = _ := y; omega)
      rw [HXW.out]
      have h0 : rd (α := Whole) false V15 (Whole.cs (⟨pf, sd.drop (8 - K), sl, []⟩ : Whole) P0 n0 P1 n1 AT kS B0 j0 B1 j1 B2 j2 none 0) ⟨pf, sd.drop (8 - K), sl, []⟩ (nw v6.heap.size) :=
        Whole.mk' (m := false) (S6 := none_) (x := ⟨pf, sd.drop (8 - K), sl, []⟩) p1 p2 (K1 p3 (fun b h => by have := h.1; omega)) (fun b h => by have := h.1; show v6.heap.size ≤ b; omega) p4 p5 (K1 p6 (fun b h => by have := h.1; omega)) (fun b h => by have := h.1; show v6.heap.size ≤ b; omega) (by show (sd.drop (8 - K)).length ≤ kS; rw [p7]; exact hcS.2) hcS.1 (K1 p8 (fun b h => by have h : w10.heap.size ≤ b := h; omega)) (fun b h => by have h : w10.heap.size ≤ b := h; show v6.heap.size ≤ b; omega) e3 e4 e5 e6 e7 f0a f0b (K2 f0r f0s) (fun b h => by have := (f0s b h).1; show v6.heap.size ≤ b; omega) f1a f1b (K2 f1r f1s) (fun b h => by have := (f1s b h).1; show v6.heap.size ≤ b; omega) f2a f2b (K2 f2r f2s) (fun b h => by have := (f2s b h).1; show v6.heap.size ≤ b; omega) (Nat.le_refl _) (by decide) (row_none rfl) (fun b h => h.elim) (fun hm => by cases hm)
      unfold Whole.cs at h0
      simp only [p7, List.length_nil] at h0
      exact h0)
    have yp15 := (HB15.out.block (w4.heap.size + 1) (by have := HT6.out.nb _ (.inr rfl); omega)).trans HBP6.out
    have x0_ := box_at (i := 0) yx15 rfl
    have x1_ := box_at (i := 1) yx15 rfl
    have x2_ := box_at (i := 2) yx15 rfl
    have x3_ := box_at (i := 3) yx15 rfl
    have x4_ := box_at (i := 4) yx15 rfl
    have x5_ := box_at (i := 5) yx15 rfl
    have x6_ := box_at (i := 6) yx15 rfl
    have x7_ := box_at (i := 7) yx15 rfl
    have x8_ := box_at (i := 8) yx15 rfl
    have x9_ := box_at (i := 9) yx15 rfl
    have x10_ := box_at (i := 10) yx15 rfl
    have x11_ := box_at (i := 11) yx15 rfl
    have d15 := box_at (i := 0) yp15 rfl
    have hB6 : w4.heap.size ≤ v6.heap.size := HC6.out.size
    have hbp6 : w4.heap.size + 1 < v6.heap.size := HT6.out.nb _ (.inr rfl)
    have hz15 := HB15.out.size
    have HYP15 := Lib.hid yp15
    clear hB hC ch15 yx15 HP12 HB12 e3 e4 e5 e6 e7 f0a f0b f0r f0s f1a f1b f1r f1s f2a f2b f2r f2s yp15 yx12
    go_upto_region 19 with (at_builtin; refine wpList_trigV (β := Bor Whole) (w := v6) rfl _ _ rfl rfl HNX'.out HT6.out hB6 HB15.out HY.out (fun b h => h) rfl (by first | rfl | simp) (by have := HNX'.out; have := HM.out.2.1; omega) ?_; intro A18 c18 v18 t18 ch18; have HT18 := Lib.hid t18; have HCH18 := Lib.hid ch18; have s18 := ch18.size; have HYP18 := Lib.hid ((ch18.block (w4.heap.size + 1) (by simp; omega) (fun h => h.2.2 (.inr rfl))).trans ((Below.heap_alloc _ _ _ (by omega)).trans HYP15.out)); have d18 := box_at (i := 0) HYP18.out rfl; have df18 := box_fz HYP18.out; clear t18 ch18)
    clear x0_ x1_ x2_ x3_ x4_ x5_ x6_ x7_ x8_ x9_ x10_ x11_ d15 HXB HXW HM12 HSL14
    have hz18 : v6.heap.size < v18.heap.size := by (try simp at s18); omega
    obtain ⟨V19, hV19⟩ : ∃ W, v18.setCell ⟨w4.heap.size + 1, 0, none⟩ (.slice A18 (nx + 1) c18) = W := ⟨_, rfl⟩
    have hV19f : Chg (fun b => b = g ∨ b = w4.heap.size + 1) v18 V19 ∧ V19.heap[w4.heap.size + 1]? = some (.cells #[.slice A18 (nx + 1) c18] 79 (0, 0)) := by
      rw [← hV19]
      refine ⟨Chg.setCell (S := fun b => b = g ∨ b = w4.heap.size + 1) (p := ⟨w4.heap.size + 1, 0, none⟩) (Chg.refl _ _) (.inl (.inr rfl)) _, ?_⟩
      have hy := HYP18.out
      simp only [World.setCell, Array.getElem?_modify, hy]; simp
    have hg19 : V19.heap[g]? = v18.heap[g]? := by rw [← hV19]; exact Below.heap_setCell v18 ⟨w4.heap.size + 1, 0, none⟩ _ g (fun e => by have e : g = w4.heap.size + 1 := e; omega)
    rw [hV19]
    clear hV19 d18 df18
    obtain ⟨ch19, yp19⟩ := hV19f
    have s19 := ch19.size
    have HT19 := Lib.hid (HT18.out.chgN ch19)
    have HC18 : Hid (Chg (fun b => (b = g ∨ b = w4.heap.size + 1) ∨ w4.heap.size ≤ b) w4 v18) := Lib.hid ((HC6.out.below (HB15.out.alloc (by omega) _) hB6).trans (HCH18.out.mono (fun b _ h => .inr h.1)))
    have HC19 : Hid (Chg (fun b => (b = g ∨ b = w4.heap.size + 1) ∨ w4.heap.size ≤ b) w4 V19) := Lib.hid (HC18.out.trans (ch19.mono (fun b _ h => .inl h)))
    have hgl6 : g < v6.heap.size := HT6.out.nb _ (.inl rfl)
    have HCU19 := Lib.hid (HCU6.out.keep (hg19.trans ((HCH18.out.block g (by simp; omega) (fun h => h.2.2 (.inl rfl))).trans ((Below.heap_alloc _ _ _ (by omega)).trans (HB15.out.block g hgl6)))))
    have HYP19 := Lib.hid yp19
    clear ch19 yp19 hg19 HT18 HC18 HCH18 HYP18 HT6 HC6 HCU6 HBP6 HY HB15 HYP15
    go_wp2_with (fail)
    obtain ⟨V20, hV20⟩ : ∃ W, V19.alloc (.cells #[.string ⟨#[107, 49]⟩, .string ⟨#[107, 50]⟩, .string ⟨#[]⟩] 9) = W := ⟨_, rfl⟩
    have hV20f : Below V19.heap.size V19 V20 ∧ V20.heap.size = V19.heap.size + 1 ∧ ∀ j (h : j < pickVals.length), V20.cell? ⟨V19.heap.size, j, none⟩ = some (.string pickVals[j]) ∧ pickVals[j].size ≤ maxLen := by
      rw [← hV20]
      refine ⟨(Below.refl _ _).alloc (Nat.le_refl _) _, by simp, fun j hj => ?_⟩
      have hb := pickVals_ok _ (List.getElem_mem hj)
      refine ⟨?_, by unfold maxLen; omega⟩
      rw [World.cell?_alloc_mark]
      have hj : j < 3 := hj
      rcases (show j = 0 ∨ j = 1 ∨ j = 2 by omega) with rfl | rfl | rfl <;> rfl
    rw [hV20]
    clear hV20
    obtain ⟨b20, s20, pk20⟩ := hV20f
    have HC20 := Lib.hid (HC19.out.below b20 HC19.out.size)
    have HT20 := Lib.hid (HT19.out.later b20)
    have hgV : g < V19.heap.size := HT19.out.nb _ (.inl rfl)
    have hpV : w4.heap.size + 1 < V19.heap.size := HT19.out.nb _ (.inr rfl)
    have HYP20 := Lib.hid ((b20.block (w4.heap.size + 1) hpV).trans HYP19.out)
    refine (spec_l01Pick V20 g xs A cap S (HCU19.out.keep (b20.block g hgV)) (HST.out V20 HC20.out).2.2.2.2.2 hSg hl pickVals _ 3 _ (row_boxs 3 _ pk20) (by omega) (by decide) (by decide)).mono ?_
    rintro e21 v21 ⟨vv, rfl, hvv, cu21, ch21⟩
    have s21 := ch21.size
    have hv12 := pickVals_ok vv hvv
    have HC21 := Lib.hid (HC20.out.trans (ch21.mono (fun b _ h => .inl (.inl h))))
    have HT21 := Lib.hid (HT20.out.chgN (ch21.mono (fun b _ h => .inl h)))
    have HYP21 := Lib.hid ((ch21.block (w4.heap.size + 1) (by omega) (fun h => by have h : w4.heap.size + 1 = g := h; omega)).trans HYP20.out)
    have HCU21 := Lib.hid cu21
    obtain ⟨K21, r21⟩ := HT21.out.fst
    clear ch21 cu21 b20 pk20 HC20 HT20 HYP20 HC19 HT19 HYP19 HCU19 hvv
    have HAC := Lib.hid (spec_ApplyChange0 v21 L AL cL _ r21 (by omega) ⟨1, nm, vv⟩ (Change.cs ⟨1, nm, vv⟩) none_ (Change.mk' (by show I64 1; unfold I64; omega) (by show nm.size ≤ maxLen; unfold maxLen; omega) (by show vv.size ≤ maxLen; unfold maxLen; omega)))
    simp only [Change.cs] at HAC
    go_wp2_with (fail)
    refine HAC.out.mono ?_
    rintro e22 v22 ⟨A22, c22, rfl, l22, m22, r22, hb22⟩
    have HR22 := Lib.hid (Row.weak r22)
    have HLN := Lib.hid (apply_ok (u := ⟨1, nm, vv⟩) HLK.out)
    obtain ⟨L2, hL2⟩ : ∃ l, applyChange L ⟨1, nm, vv⟩ = l := ⟨_, rfl⟩
    rw [hL2] at HR22 HLN ⊢
    have HB22 := Lib.hid hb22
    have s22 := hb22.size
    clear hL2 l22 m22 r22 hb22 HAC r21
    go_wp2
    go_roundw
    case rel =>
      refine ⟨k + 1, X ++ [pastWhole (K : Int) (mh : Int) nm hs L], hs ++ [⟨qa, qe, qr, qp⟩], L2, A6, c6, A18, c18, A22, c22, nh + 1, nx + 1, by omega, by go_num, rfl, rfl, Lib.hid ⟨HSN.out, ?_, HLN.out, ?_, ?_⟩, Lib.hid (HT21.out.fresh HB22.out (HR22.out.mono (fun b h => h.1))), Lib.hid (HCU21.out.keep (HB22.out.block g (by omega))), Lib.hid (HC21.out.below HB22.out HC21.out.size), Lib.hid ((HB22.out.block (w4.heap.size + 1) (by omega)).trans HYP21.out)⟩
      · rw [List.length_append, HM.out.2.1]; rfl
      · rw [List.length_append, HNH.out]; rfl
      · rw [List.length_append, HNX'.out]; rfl
    case measure => simp [intOf]; omega
end Go.Proofs.YtgllafgpmenjjaaGreatDoor
