/- A part of the proof: what the laws need of it. -/
import Derived.Test.YtlfnmbcnehaikaaGreatDoorHRaL23xRo
import Derived.Test.YtlfnmbcnehaikaaGreatDoorHRaL7xLw
import Derived.Test.YtlfnmbcnehaikaaGreatDoorHRaL10xDt
import Derived.Test.YtlfnmbcnehaikaaGreatDoorHRaL22xRj
set_option linter.unusedVariables false
set_option linter.unusedSimpArgs false
set_option linter.unusedVariables false
set_option linter.unusedSimpArgs false
namespace Go.Proofs.YtlfnmbcnehaikaaGreatDoor
open Go.RowKit Lay Mk
def Bx (w : World) (r : Nat) (cs : Array Value) (ty : TypeId) : Prop := w.heap[r]? = some (.cells cs ty (0, 0))
theorem Bx.new (w : World) (cs : Array Value) (ty : TypeId) : Bx (w.alloc (.cells cs ty)) w.heap.size cs ty := heap_alloc_new w _
theorem Bx.at_ {w : World} {r i : Nat} {cs : Array Value} {ty : TypeId} {v : Value} (h : Bx w r cs ty) (hi : cs[i]? = some v) : w.cell? ⟨r, i, none⟩ = some v := by rw [cell_of_row w r i _ _ (0, 0) h]; exact hi
theorem Bx.fz {w : World} {r : Nat} {cs : Array Value} {ty : TypeId} (h : Bx w r cs ty) (o : Nat) : w.frozen? ⟨r, o, none⟩ = false := frozen_of_row w r o _ _ h
theorem Bx.keep {w w' : World} {r : Nat} {cs : Array Value} {ty : TypeId} (h : Bx w r cs ty) (e : w'.heap[r]? = w.heap[r]?) : Bx w' r cs ty := e.trans h
theorem rng_dj {a b c d : Nat} (h : b ≤ c) : disj (rng a b) (rng c d) := fun x h1 h2 => by unfold rng at h1 h2; omega
theorem Bx.lt {w : World} {r : Nat} {cs : Array Value} {ty : TypeId} (h : Bx w r cs ty) : r < w.heap.size := (Array.getElem?_eq_some_iff.1 h).1
set_option maxRecDepth 20000 in set_option maxHeartbeats 4000000 in
theorem impl_done (w : World) (g : Nat) (t : ByteArray) (a : Nat) (b : Bool) (hF : Fld 151 w g t a b) (ht : t.size ≤ 1048576) (ha : a ≤ t.size) : Calls Tryz.prog 163 #[.pointer (some ⟨g, 0, none⟩)] w fun e w' => e = .returned (.bool (!b && decide (a = t.size))) ∧ Fld 151 w' g t a b ∧ Chg (fun b => b = g) w w' := by
  have c0 := hF.c0
  have c1 := hF.c1
  have c2 := hF.c2
  have cf := hF.cf
  have HF := Lib.hid hF
  clear hF
  cases b
  · by_cases hq : a = t.size
    · have hd : ((a : Int) == (t.size : Int)) = true := by rw [beq_iff_eq]; omega
      have HQ : Hid (decide (a = t.size) = true) := Lib.hid (decide_eq_true hq)
      clear hq
      go_enter Tryz.func163, Tryz.ntmps163
      go_wp2
      go_quiet (fail)
      go_wp2
      go_ret
      exact ⟨ret_bool (by rw [HQ.out]; rfl), HF.out.keep rfl, chg_drew (Chg.refl _ _) _⟩
    · have hd : ((a : Int) == (t.size : Int)) = false := by rw [beq_eq_false_iff_ne]; omega
      have HQ : Hid (decide (a = t.size) = false) := Lib.hid (decide_eq_false hq)
      clear hq
      go_enter Tryz.func163, Tryz.ntmps163
      go_wp2
      go_quiet (fail)
      go_wp2
      go_ret
      exact ⟨ret_bool (by rw [HQ.out]; rfl), HF.out.keep rfl, chg_drew (Chg.refl _ _) _⟩
  · go_enter Tryz.func163, Tryz.ntmps163
    go_wp2
    go_quiet (fail)
    go_wp2
    go_ret
    exact ⟨ret_bool rfl, HF.out.keep rfl, chg_drew (Chg.refl _ _) _⟩
structure SigRd (ty : TypeId) (w : World) (g : Nat) (t : ByteArray) (a : Nat) (b : Bool) (w' : World) (cs : List Value) (x : Sig) (a' : Nat) (b' : Bool) : Prop where
  rdx : rd true w' cs x (nw w.heap.size)
  fld : Fld ty w' g t a' b'
  chg : Chg (fun b => b = g ∨ w.heap.size ≤ b) w w'
  al : a' ≤ t.size
  good : b' = false → b = false ∧ a' = a + 321 ∧ ∀ h : a < t.size, x = sigAt t a h
  back : b' = true → b = true ∨ t.size < a + 321
  l1 : x.open_.length = 8 ∧ x.shut.length = 8 ∧ x.sides.length = 4
  sm : (∀ s ∈ x.open_, s.size ≤ 16) ∧ (∀ s ∈ x.shut, s.size ≤ 16) ∧ (∀ s ∈ x.sides, s.size ≤ 16)
set_option maxRecDepth 20000 in set_option maxHeartbeats 8000000 in
theorem impl_sig (w : World) (g : Nat) (t : ByteArray) (a : Nat) (b : Bool) (hF : Fld 151 w g t a b) (ht : t.size ≤ 1048576) (ha : a ≤ t.size) : Calls Tryz.prog 199 #[.pointer (some ⟨g, 0, none⟩)] w fun e w' => ∃ cs x a' b', e = .returned (.agg cs.toArray) ∧ SigRd 151 w g t a b w' cs x a' b' := by
  have hgl := hF.lt
  have HF := Lib.hid (hF.keep (Below.heap_alloc w (.cells #[.int .i64 0, .slice none 0 0, .slice none 0 0, .slice none 0 0] 74) g hgl))
  clear hF
  go_enter Tryz.func199, Tryz.ntmps199
  go_wp2_with (fail)
  obtain ⟨W, hW⟩ : ∃ W, w.alloc (.cells #[.int .i64 0, .slice none 0 0, .slice none 0 0, .slice none 0 0] 74) = W := ⟨_, rfl⟩
  have hWf : Below w.heap.size w W ∧ W.heap.size = w.heap.size + 1 ∧ Bx W w.heap.size #[.int .i64 0, .slice none 0 0, .slice none 0 0, .slice none 0 0] 74 := by
    rw [← hW]
    exact ⟨(Below.refl _ _).alloc (Nat.le_refl _) _, by simp, Bx.new _ _ _⟩
  rw [hW] at HF ⊢
  clear hW
  obtain ⟨bW, sW, xW⟩ := hWf
  have hONE : ∃ (v : Int) (a1 : Nat) (b1 : Bool), Hid (Calls Tryz.prog 213 #[.pointer (some ⟨g, 0, none⟩)] W fun e w' => e = .returned (.int .i64 v) ∧ Fld 151 w' g t a1 b1 ∧ Chg (fun b => b = g) W w') ∧ a1 ≤ t.size ∧ (0 ≤ v ∧ v ≤ 255) ∧ Hid ((b1 = false → b = false ∧ a1 = a + 1 ∧ ∀ h : a < t.size, v = (t[a].toNat : Int)) ∧ (b1 = true → b = true ∨ t.size ≤ a)) := by
    by_cases hg : b = false ∧ a < t.size
    · have hbt := t[a].toNat_lt
      exact ⟨_, _, _, Lib.hid (impl_one_yes W g t a b HF.out ht ha hg.1 hg.2), hg.2, by omega, Lib.hid ⟨fun _ => ⟨hg.1, rfl, fun _ => rfl⟩, fun h => (by cases h)⟩⟩
    · have hbad : b = true ∨ t.size ≤ a := by
        cases b
        · exact .inr (Nat.le_of_not_lt (fun h => hg ⟨rfl, h⟩))
        · exact .inl rfl
      exact ⟨_, _, _, Lib.hid (impl_one_no W g t a b HF.out ht ha hbad), ha, by omega, Lib.hid ⟨fun h => (by cases h), fun _ => hbad⟩⟩
  obtain ⟨v, a1, b1, HV, ha1, hv, H1⟩ := hONE
  refine HV.out.mono ?_
  rintro e1 w1 ⟨rfl, hF1, hc1⟩
  clear HV
  have hs1 := hc1.size
  have x1 := xW.keep (hc1.block _ (by omega) (by omega))
  have HC1 := Lib.hid (Chg.mono hc1 (T := fun b => b = g ∨ w.heap.size ≤ b) (fun b _ h => .inl h))
  clear hc1 xW HF
  go_wp2_with (fail)
  refine (impl_hashes w1 g t a1 b1 hF1 ht ha1 8 (Nat.le_refl _)).mono ?_
  rintro e2 w2 ⟨A2, c2, L2, a2, b2, rfl, h2⟩
  have hs2 := h2.chg.size
  have x2 := x1.keep (h2.chg.block _ x1.lt (by have := x1.lt; omega))
  have H2 := Lib.hid h2
  have hl2 := h2.len
  clear h2 hF1 x1
  rw [hl2]
  go_wp2_with (fail)
  refine (impl_hashes w2 g t a2 b2 H2.out.fld ht H2.out.al 8 (Nat.le_refl _)).mono ?_
  rintro e3 w3 ⟨A3, c3, L3, a3, b3, rfl, h3⟩
  have hs3 := h3.chg.size
  have x3 := x2.keep (h3.chg.block _ x2.lt (by have := x2.lt; omega))
  have H3 := Lib.hid h3
  have hl3 := h3.len
  clear h3 x2
  rw [hl3]
  go_wp2_with (fail)
  refine (impl_hashes w3 g t a3 b3 H3.out.fld ht H3.out.al 4 (by omega)).mono ?_
  rintro e4 w4 ⟨A4, c4, L4, a4, b4, rfl, h4⟩
  have hs4 := h4.chg.size
  have x4 := x3.keep (h4.chg.block _ x3.lt (by have := x3.lt; omega))
  have H4 := Lib.hid h4
  have hl4 := h4.len
  clear h4 x3
  rw [hl4]
  have y0 := x4.at_ (i := 0) rfl
  have y1 := x4.at_ (i := 1) rfl
  have y2 := x4.at_ (i := 2) rfl
  have y3 := x4.at_ (i := 3) rfl
  have yf := x4.fz
  have X4 := Lib.hid x4
  clear x4
  go_wp2_with (fail)
  refine bodyPost_ret (v := .agg #[.int .i64 v, .slice A2 8 c2, .slice A3 8 c3, .slice A4 4 c4]) (by simp [results, Tryz.results199, go_sem, *]) rfl ?_
  have hx4 := X4.out.lt
  have hw1 : w.heap.size < w1.heap.size := by omega
  have R2 : Row true w4 A2 c2 L2 (rng w1.heap.size w2.heap.size) := Row.chg (Row.chg (to_rng H2.out.row) H3.out.chg (fun q k1 k2 => by obtain ⟨p1, p2⟩ := k1; rcases k2 with k2 | k2 <;> omega)) H4.out.chg (fun q k1 k2 => by obtain ⟨p1, p2⟩ := k1; rcases k2 with k2 | k2 <;> omega)
  have R3 : Row true w4 A3 c3 L3 (rng w2.heap.size w3.heap.size) := Row.chg (to_rng H3.out.row) H4.out.chg (fun q k1 k2 => by obtain ⟨p1, p2⟩ := k1; rcases k2 with k2 | k2 <;> omega)
  have R4 : Row true w4 A4 c4 L4 (rng w3.heap.size w4.heap.size) := to_rng H4.out.row
  have n2 : ∀ o : Nat, ¬ rng w1.heap.size w2.heap.size (⟨w.heap.size, o, none⟩ : Addr).block := fun o k => by have k1 : w1.heap.size ≤ w.heap.size := k.1; omega
  have n3 : ∀ o : Nat, ¬ rng w2.heap.size w3.heap.size (⟨w.heap.size, o, none⟩ : Addr).block := fun o k => by have k1 : w2.heap.size ≤ w.heap.size := k.1; omega
  have n4 : ∀ o : Nat, ¬ rng w3.heap.size w4.heap.size (⟨w.heap.size, o, none⟩ : Addr).block := fun o k => by have k1 : w3.heap.size ≤ w.heap.size := k.1; omega
  replace R2 := (((R2.setC (n2 0) (.int .i64 v)).setC (n2 1) (.slice A2 8 c2)).setC (n2 2) (.slice A3 8 c3)).setC (n2 3) (.slice A4 4 c4)
  replace R3 := (((R3.setC (n3 0) (.int .i64 v)).setC (n3 1) (.slice A2 8 c2)).setC (n3 2) (.slice A3 8 c3)).setC (n3 3) (.slice A4 4 c4)
  replace R4 := (((R4.setC (n4 0) (.int .i64 v)).setC (n4 1) (.slice A2 8 c2)).setC (n4 2) (.slice A3 8 c3)).setC (n4 3) (.slice A4 4 c4)
  have hng : g ≠ w.heap.size := by omega
  have sb : ∀ p q, w.heap.size ≤ p → sub (rng p q) (nw w.heap.size) := fun p q k b k2 => Nat.le_trans k k2.1
  have HD := Sig.mk' (m := true) (x := ⟨v, L2, L3, L4⟩) (S := nw w.heap.size) (by show I64 v; unfold I64; omega) H2.out.le H2.out.cm R2 (sb _ _ (by omega)) H3.out.le H3.out.cm R3 (sb _ _ (by omega)) H4.out.le H4.out.cm R4 (sb _ _ (by omega)) (fun _ => .cons (fun b hb => by rcases List.mem_cons.1 hb with rfl | hb; exact rng_dj (Nat.le_refl _); rw [List.mem_singleton.1 hb]; exact rng_dj (by omega)) (.cons (fun b hb => by rw [List.mem_singleton.1 hb]; exact rng_dj (Nat.le_refl _)) (.cons (fun b hb => by cases hb) .nil)))
  simp only [Sig.cs, hl2, hl3, hl4] at HD
  have hcw : Chg (fun b => b = g ∨ w.heap.size ≤ b) w w4 := ((((Chg.refl _ w).below bW (Nat.le_refl _)).trans HC1.out).trans (H2.out.chg.mono (fun b _ k => k.imp id (fun k => by omega)))).trans ((H3.out.chg.mono (fun b _ k => k.imp id (fun k => by omega))).trans (H4.out.chg.mono (fun b _ k => k.imp id (fun k => by omega))))
  have hset : ∀ (o : Nat) (u : Value) (z : World), Chg (fun b => b = g ∨ w.heap.size ≤ b) w z → Chg (fun b => b = g ∨ w.heap.size ≤ b) w (z.setCell ⟨w.heap.size, o, none⟩ u) := fun o u z k => Chg.setCell k (.inl (.inr (Nat.le_refl _))) u
  have hfs : ∀ (o : Nat) (u : Value) (z : World), Fld 151 z g t a4 b4 → Fld 151 (z.setCell ⟨w.heap.size, o, none⟩ u) g t a4 b4 := fun o u z k => k.keep (Below.heap_setCell z _ u g hng)
  refine ⟨_, ⟨v, L2, L3, L4⟩, a4, b4, rfl, HD, hfs _ _ _ (hfs _ _ _ (hfs _ _ _ (hfs _ _ _ H4.out.fld))), hset _ _ _ (hset _ _ _ (hset _ _ _ (hset _ _ _ hcw))), H4.out.al, ?_, ?_, ⟨hl2, hl3, hl4⟩, ⟨H2.out.sm, H3.out.sm, H4.out.sm⟩⟩
  · intro h4
    obtain ⟨q3, q4, q5⟩ := H4.out.good h4
    obtain ⟨q6, q7, q8⟩ := H3.out.good q3
    obtain ⟨q9, q10, q11⟩ := H2.out.good q6
    obtain ⟨q12, q13, q14⟩ := H1.out.1 q9
    refine ⟨q12, by omega, fun h => ?_⟩
    show (⟨v, L2, L3, L4⟩ : Sig) = ⟨(t[a].toNat : Int), cuts t (a + 1) 8, cuts t (a + 129) 8, cuts t (a + 257) 4⟩
    rw [q14 h, q4, q7, q10, show a1 = a + 1 from q13, show a2 = a + 129 from by omega, show a3 = a + 257 from by omega]
  · intro h4
    cases e1 : b1
    · obtain ⟨q12, q13, q14⟩ := H1.out.1 e1
      right
      cases e2 : b2
      · obtain ⟨q9, q10, q11⟩ := H2.out.good e2
        cases e3 : b3
        · obtain ⟨q6, q7, q8⟩ := H3.out.good e3
          rcases H4.out.back h4 with h | h
          · rw [e3] at h; cases h
          · omega
        · rcases H3.out.back e3 with h | h
          · rw [e2] at h; cases h
          · omega
      · rcases H2.out.back e2 with h | h
        · rw [e1] at h; cases h
        · omega
    · rcases H1.out.2 e1 with h | h
      · exact .inl h
      · right; omega
end Go.Proofs.YtlfnmbcnehaikaaGreatDoor

set_option linter.unusedVariables false
set_option linter.unusedSimpArgs false
namespace Go.Proofs.YtlfnmbcnehaikaaGreatDoor
open Go.RowKit Lay Mk
set_option maxRecDepth 20000 in set_option maxHeartbeats 4000000 in
theorem spec_l09Short_no (w : World) (g : Nat) (t : ByteArray) (a : Nat) (hF : Fld 167 w g t a false) (ht : t.size ≤ 1048576) (ha : a ≤ t.size) (h : rdShort t a = none) : Calls Tryz.prog 154 #[.pointer (some ⟨g, 0, none⟩)] w fun e w' => e = .returned (.string ⟨#[]⟩) ∧ Fld 167 w' g t a true ∧ Chg (fun b => b = g ∨ w.heap.size ≤ b) w w' := by
  have HV : Hid (∀ W, Calls Tryz.prog 124 #[.string t, .int .i64 a] W fun e w' => e = .returned (.tuple #[.string ⟨#[]⟩, .int .i64 0, .bool false]) ∧ Below W.heap.size W w') := Lib.hid (fun W => by
    have h1 := spec_ReadShort W t ht a ha
    rw [h] at h1
    exact h1)
  clear h
  have G0 := Grown.cell hF.c0
  have G1 := Grown.cell hF.c1
  have HF := Lib.hid hF
  have hgl := hF.lt
  clear hF
  go_enter Tryz.func154, Tryz.ntmps154
  go_wp2_with (fail)
  refine wp_region_grown (by kernel_rfl) (by kernel_rfl) ?_
  repeat (go_big_quiet_step (first | (go_at_call 124; with_reducible exact grown_call (HV.out _))))
  refine wpQuiet_nil ?_
  intro w7 hw_
  have hB7 := grown_below hw_
  clear hw_ G0 G1
  have hF7 := HF.out.below hB7 hgl
  have c0 := hF7.c0
  have c1 := hF7.c1
  have c2 := hF7.c2
  have cf := hF7.cf
  have H7 := Lib.hid hF7
  have HB7 := Lib.hid hB7
  clear hF7 hB7
  go_wp2_with (fail)
  go_ret
  exact ⟨rfl, H7.out.bad true, Chg.setCell ((Chg.refl _ _).below HB7.out (Nat.le_refl _)) (.inl (.inl rfl)) _⟩
set_option maxRecDepth 20000 in set_option maxHeartbeats 4000000 in
theorem spec_l09Short_yes (w : World) (g : Nat) (t : ByteArray) (a : Nat) (hF : Fld 167 w g t a false) (ht : t.size ≤ 1048576) (ha : a ≤ t.size) {s : ByteArray} {x : Nat} (h : rdShort t a = some (s, x)) : Calls Tryz.prog 154 #[.pointer (some ⟨g, 0, none⟩)] w fun e w' => e = .returned (.string s) ∧ Fld 167 w' g t x false ∧ Chg (fun b => b = g ∨ w.heap.size ≤ b) w w' := by
  have HV : Hid (∀ W, Calls Tryz.prog 124 #[.string t, .int .i64 a] W fun e w' => e = .returned (.tuple #[.string s, .int .i64 x, .bool true]) ∧ Below W.heap.size W w') := Lib.hid (fun W => by
    have h1 := spec_ReadShort W t ht a ha
    rw [h] at h1
    exact h1)
  clear h
  have G0 := Grown.cell hF.c0
  have G1 := Grown.cell hF.c1
  have HF := Lib.hid hF
  have hgl := hF.lt
  clear hF
  go_enter Tryz.func154, Tryz.ntmps154
  go_wp2_with (fail)
  refine wp_region_grown (by kernel_rfl) (by kernel_rfl) ?_
  repeat (go_big_quiet_step (first | (go_at_call 124; with_reducible exact grown_call (HV.out _))))
  refine wpQuiet_nil ?_
  intro w7 hw_
  have hB7 := grown_below hw_
  clear hw_ G0 G1
  have hF7 := HF.out.below hB7 hgl
  have c0 := hF7.c0
  have c1 := hF7.c1
  have c2 := hF7.c2
  have cf := hF7.cf
  have H7 := Lib.hid hF7
  have HB7 := Lib.hid hB7
  clear hF7 hB7
  go_wp2_with (fail)
  go_ret
  exact ⟨rfl, H7.out.to _ _ rfl, Chg.setCell ((Chg.refl _ _).below HB7.out (Nat.le_refl _)) (.inl (.inl rfl)) _⟩
end Go.Proofs.YtlfnmbcnehaikaaGreatDoor

set_option linter.unusedVariables false
set_option linter.unusedSimpArgs false
namespace Go.Proofs.YtlfnmbcnehaikaaGreatDoor
open Go.RowKit Lay Mk
theorem fileGet_hit {xs : List File} {n : ByteArray} {k : Nat} (h : k < xs.length) (e : xs[k].name = n) : fileGet (xs.drop k) n = some xs[k].text := by
  rw [List.drop_eq_getElem_cons h, fileGet, if_pos e]
theorem fileGet_miss {xs : List File} {n : ByteArray} {k : Nat} (h : k < xs.length) (e : ¬ xs[k].name = n) : fileGet (xs.drop k) n = fileGet (xs.drop (k + 1)) n := by
  rw [List.drop_eq_getElem_cons h, fileGet, if_neg e]
theorem fileGet_none {xs : List File} {n : ByteArray} {k : Nat} (h : xs.length ≤ k) : fileGet (xs.drop k) n = none := by
  rw [List.drop_eq_nil_of_le h]; rfl
def faV (o : Option ByteArray) : Value := match o with | some T => .tuple #[.string T, .bool true] | none => .tuple #[.string ⟨#[]⟩, .bool false]
def FaRes (xs : List File) (n : ByteArray) (e : Ending) : Prop := (∃ k, ∃ h : k < xs.length, e = .returned (.int .i64 (k : Int)) ∧ fileGet xs n = some xs[k].text) ∨ (e = .returned (.int .i64 (-1)) ∧ fileGet xs n = none)
theorem file_sz {xs : List File} {n T : ByteArray} (h : fileGet xs n = some T) : ∃ k, ∃ h : k < xs.length, xs[k].text = T := by
  induction xs with
  | nil => cases h
  | cons a l ih =>
    rw [fileGet] at h
    split at h
    · injection h with h
      exact ⟨0, by simp, h⟩
    · obtain ⟨k, hk, e⟩ := ih h
      exact ⟨k + 1, by simp; omega, by simpa using e⟩
theorem logTexts_none {xs : List File} {n : ByteArray} (h : fileGet xs n = none) : logTexts xs n = [] := by unfold logTexts; rw [h]
theorem logTexts_bad {xs : List File} {n : ByteArray} (h : diskOk xs = false) : logTexts xs n = [] := by unfold logTexts; rw [h]; split <;> rfl
theorem logTexts_yes {xs : List File} {n T : ByteArray} (h : fileGet xs n = some T) (h2 : diskOk xs = true) : logTexts xs n = unframe T := by unfold logTexts; simp only [h, h2, if_true]
theorem unframe_nil : unframe ⟨#[]⟩ = [] := by
  unfold unframe
  rw [if_pos (by decide)]
  exact unfr_end (rdFrame_no (Nat.le_refl _))
set_option maxRecDepth 20000 in set_option maxHeartbeats 8000000 in
theorem impl_fat (w : World) (xs : List File) (A : Option Addr) (cap : Nat) (S : Blks) (hx : Row false w A cap xs S) (hl : xs.length ≤ 4000000000) (n : ByteArray) : Calls Tryz.prog 176 #[.agg #[.slice A xs.length cap], .string n] w fun e w' => FaRes xs n e ∧ Below w.heap.size w w' := by
  have H0 : Hid (fileGet xs n = fileGet (xs.drop 0) n) := Lib.hid rfl
  go_enter Tryz.func176, Tryz.ntmps176
  go_wp2_with (fail)
  obtain ⟨W, hW⟩ : ∃ W, w.alloc (.cells #[.slice A xs.length cap] 28) = W := ⟨_, rfl⟩
  have hWf : Below w.heap.size w W ∧ W.heap.size = w.heap.size + 1 ∧ W.cell? ⟨w.heap.size, 0, none⟩ = some (.slice A xs.length cap) := by
    rw [← hW]
    exact ⟨(Below.refl _ _).alloc (Nat.le_refl _) _, by simp, box_cell _ _ _ _ _ rfl⟩
  rw [hW]
  clear hW
  obtain ⟨bW, sW, cW⟩ := hWf
  have hxW := Row.later hx bW
  clear hx
  go_loopw [10] (fun i wr => ∃ k : Nat, k ≤ xs.length ∧ i = .int .i64 k ∧ Hid (fileGet xs n = fileGet (xs.drop k) n) ∧ Below W.heap.size W wr) (fun i _ => xs.length - (intOf i).toNat)
  case atStart => exact ⟨0, Nat.zero_le _, rfl, H0, Below.refl _ _⟩
  case round =>
    obtain ⟨k, hk, rfl, HK, hb⟩ := hrel
    clear H0
    have hz := hb.size
    have c0 := (hb.cell (p := ⟨w.heap.size, 0, none⟩) (by show w.heap.size < _; omega)).trans cW
    by_cases hlt : k < xs.length
    · obtain ⟨b1, o1, rfl, hl1, f0, f1, f2, s0, s1, i2⟩ := Row.atFile hxW hlt
      replace f0 := (hb.cell (p := ⟨b1, o1 + k * 3, none⟩) hl1).trans f0
      replace f1 := (hb.cell (p := ⟨b1, o1 + k * 3 + 1, none⟩) hl1).trans f1
      replace f2 := (hb.cell (p := ⟨b1, o1 + k * 3 + 2, none⟩) hl1).trans f2
      have HH := Lib.hid (fun e => HK.out.trans (fileGet_hit (n := n) hlt e))
      have HM := Lib.hid (fun e => HK.out.trans (fileGet_miss (n := n) hlt e))
      clear HK
      have hlw : w.heap.size < wr.heap.size := by omega
      have hl2 : b1 < wr.heap.size := by omega
      by_cases hq : xs[k].name = n
      · have HE := Lib.hid (HH.out hq)
        have hcmp : (xs[k].name.toList == n.toList) = true := by rw [str_dec]; exact decide_eq_true hq
        clear HH HM hq
        go_wp2
        go_ret
        exact ⟨.inl ⟨k, hlt, rfl, HE.out⟩, bW.trans ((hb.alloc hz _).mono bW.size)⟩
      · have HE := Lib.hid (HM.out hq)
        have hcmp : (xs[k].name.toList == n.toList) = false := by rw [str_dec]; exact decide_eq_false hq
        clear HH HM hq
        go_wp2
        go_roundw
        case rel => exact ⟨k + 1, by omega, by go_num, HE, (hb.alloc hz _)⟩
        case measure => simp [intOf]; omega
    · have hke : k = xs.length := by omega
      subst hke
      have HE := Lib.hid (HK.out.trans (fileGet_none (Nat.le_refl _)))
      go_wp2
      go_ret
      exact ⟨.inr ⟨rfl, HE.out⟩, bW.trans (hb.mono bW.size)⟩
set_option maxRecDepth 20000 in set_option maxHeartbeats 8000000 in
theorem impl_FileAt (w : World) (xs : List File) (A : Option Addr) (cap : Nat) (S : Blks) (hx : Row false w A cap xs S) (hl : xs.length ≤ 4000000000) (n : ByteArray) : Calls Tryz.prog 129 #[.agg #[.slice A xs.length cap], .string n] w fun e w' => e = .returned (faV (fileGet xs n)) ∧ Below w.heap.size w w' := by
  go_enter Tryz.func129, Tryz.ntmps129
  go_wp2_with (fail)
  obtain ⟨W, hW⟩ : ∃ W, w.alloc (.cells #[.slice A xs.length cap] 28) = W := ⟨_, rfl⟩
  have hWf : Below w.heap.size w W ∧ W.heap.size = w.heap.size + 1 ∧ W.cell? ⟨w.heap.size, 0, none⟩ = some (.slice A xs.length cap) := by
    rw [← hW]
    exact ⟨(Below.refl _ _).alloc (Nat.le_refl _) _, by simp, box_cell _ _ _ _ _ rfl⟩
  rw [hW]
  clear hW
  obtain ⟨bW, sW, cW⟩ := hWf
  have hxW := Row.later hx bW
  clear hx
  refine (impl_fat W xs A cap S hxW hl n).mono ?_
  rintro e w2 ⟨hr, hb⟩
  have c0 := (hb.cell (p := ⟨w.heap.size, 0, none⟩) (by show w.heap.size < _; omega)).trans cW
  rcases hr with ⟨k, hlt, rfl, hg⟩ | ⟨rfl, hg⟩
  · have HG := Lib.hid hg; clear hg
    obtain ⟨b1, o1, rfl, hl1, f0, f1, f2, s0, s1, i2⟩ := Row.atFile hxW hlt
    replace f1 := (hb.cell (p := ⟨b1, o1 + k * 3 + 1, none⟩) hl1).trans f1
    have hk0 : ¬ (k : Int) < 0 := by omega
    go_wp2
    refine bodyPost_ret (v := .tuple #[.string xs[k].text, .bool true]) (by simp [results, Tryz.results129, go_sem, *]) rfl ?_
    exact ⟨by rw [HG.out]; rfl, bW.trans (hb.mono bW.size)⟩
  · have HG := Lib.hid hg; clear hg
    go_wp2
    refine bodyPost_ret (v := .tuple #[.string ⟨#[]⟩, .bool false]) (by simp [results, Tryz.results129, go_sem, *]) rfl ?_
    exact ⟨by rw [HG.out]; rfl, bW.trans (hb.mono bW.size)⟩
set_option maxRecDepth 20000 in set_option maxHeartbeats 8000000 in
theorem spec_fat (w : World) (xs : List File) (A : Option Addr) (cap : Nat) (S : Blks) (hx : Row false w A cap xs S) (hl : xs.length ≤ 4000000000) (n : ByteArray) : Calls Tryz.prog 171 #[.agg #[.slice A xs.length cap], .string n] w fun e w' => FaRes xs n e ∧ Below w.heap.size w w' := by
  have H0 : Hid (fileGet xs n = fileGet (xs.drop 0) n) := Lib.hid rfl
  go_enter Tryz.func171, Tryz.ntmps171
  go_wp2_with (fail)
  obtain ⟨W, hW⟩ : ∃ W, w.alloc (.cells #[.slice A xs.length cap] 28) = W := ⟨_, rfl⟩
  have hWf : Below w.heap.size w W ∧ W.heap.size = w.heap.size + 1 ∧ W.cell? ⟨w.heap.size, 0, none⟩ = some (.slice A xs.length cap) := by
    rw [← hW]
    exact ⟨(Below.refl _ _).alloc (Nat.le_refl _) _, by simp, box_cell _ _ _ _ _ rfl⟩
  rw [hW]
  clear hW
  obtain ⟨bW, sW, cW⟩ := hWf
  have hxW := Row.later hx bW
  clear hx
  go_loopw [5] (fun i wr => ∃ k : Nat, k ≤ xs.length ∧ i = .int .i64 k ∧ Hid (fileGet xs n = fileGet (xs.drop k) n) ∧ Below W.heap.size W wr) (fun i _ => xs.length - (intOf i).toNat)
  case atStart => exact ⟨0, Nat.zero_le _, rfl, H0, Below.refl _ _⟩
  case round =>
    obtain ⟨k, hk, rfl, HK, hb⟩ := hrel
    clear H0
    have hz := hb.size
    have c0 := (hb.cell (p := ⟨w.heap.size, 0, none⟩) (by show w.heap.size < _; omega)).trans cW
    by_cases hlt : k < xs.length
    · obtain ⟨b1, o1, rfl, hl1, f0, f1, f2, s0, s1, i2⟩ := Row.atFile hxW hlt
      replace f0 := (hb.cell (p := ⟨b1, o1 + k * 3, none⟩) hl1).trans f0
      replace f1 := (hb.cell (p := ⟨b1, o1 + k * 3 + 1, none⟩) hl1).trans f1
      replace f2 := (hb.cell (p := ⟨b1, o1 + k * 3 + 2, none⟩) hl1).trans f2
      have HH := Lib.hid (fun e => HK.out.trans (fileGet_hit (n := n) hlt e))
      have HM := Lib.hid (fun e => HK.out.trans (fileGet_miss (n := n) hlt e))
      clear HK
      have hlw : w.heap.size < wr.heap.size := by omega
      have hl2 : b1 < wr.heap.size := by omega
      by_cases hq : xs[k].name = n
      · have HE := Lib.hid (HH.out hq)
        have hcmp : (xs[k].name.toList == n.toList) = true := by rw [str_dec]; exact decide_eq_true hq
        clear HH HM hq
        go_wp2
        go_ret
        exact ⟨.inl ⟨k, hlt, rfl, HE.out⟩, bW.trans (hb.mono bW.size)⟩
      · have HE := Lib.hid (HM.out hq)
        have hcmp : (xs[k].name.toList == n.toList) = false := by rw [str_dec]; exact decide_eq_false hq
        clear HH HM hq
        go_wp2
        go_roundw
        case rel => exact ⟨k + 1, by omega, by go_num, HE, hb⟩
        case measure => simp [intOf]; omega
    · have hke : k = xs.length := by omega
      subst hke
      have HE := Lib.hid (HK.out.trans (fileGet_none (Nat.le_refl _)))
      go_wp2
      go_ret
      exact ⟨.inr ⟨rfl, HE.out⟩, bW.trans (hb.mono bW.size)⟩
set_option maxRecDepth 20000 in set_option maxHeartbeats 8000000 in
theorem spec_FileAt (w : World) (xs : List File) (A : Option Addr) (cap : Nat) (S : Blks) (hx : Row false w A cap xs S) (hl : xs.length ≤ 4000000000) (n : ByteArray) : Calls Tryz.prog 122 #[.agg #[.slice A xs.length cap], .string n] w fun e w' => e = .returned (faV (fileGet xs n)) ∧ Below w.heap.size w w' := by
  go_enter Tryz.func122, Tryz.ntmps122
  go_wp2_with (fail)
  obtain ⟨W, hW⟩ : ∃ W, w.alloc (.cells #[.slice A xs.length cap] 28) = W := ⟨_, rfl⟩
  have hWf : Below w.heap.size w W ∧ W.heap.size = w.heap.size + 1 ∧ W.cell? ⟨w.heap.size, 0, none⟩ = some (.slice A xs.length cap) := by
    rw [← hW]
    exact ⟨(Below.refl _ _).alloc (Nat.le_refl _) _, by simp, box_cell _ _ _ _ _ rfl⟩
  rw [hW]
  clear hW
  obtain ⟨bW, sW, cW⟩ := hWf
  have hxW := Row.later hx bW
  clear hx
  refine (spec_fat W xs A cap S hxW hl n).mono ?_
  rintro e w2 ⟨hr, hb⟩
  have c0 := (hb.cell (p := ⟨w.heap.size, 0, none⟩) (by show w.heap.size < _; omega)).trans cW
  rcases hr with ⟨k, hlt, rfl, hg⟩ | ⟨rfl, hg⟩
  · have HG := Lib.hid hg; clear hg
    obtain ⟨b1, o1, rfl, hl1, f0, f1, f2, s0, s1, i2⟩ := Row.atFile hxW hlt
    replace f1 := (hb.cell (p := ⟨b1, o1 + k * 3 + 1, none⟩) hl1).trans f1
    have hk0 : ¬ (k : Int) < 0 := by omega
    go_wp2
    refine bodyPost_ret (v := .tuple #[.string xs[k].text, .bool true]) (by simp [results, Tryz.results122, go_sem, *]) rfl ?_
    exact ⟨by rw [HG.out]; rfl, bW.trans (hb.mono bW.size)⟩
  · have HG := Lib.hid hg; clear hg
    go_wp2
    refine bodyPost_ret (v := .tuple #[.string ⟨#[]⟩, .bool false]) (by simp [results, Tryz.results122, go_sem, *]) rfl ?_
    exact ⟨by rw [HG.out]; rfl, bW.trans (hb.mono bW.size)⟩
set_option maxRecDepth 20000 in set_option maxHeartbeats 8000000 in
theorem impl_LogTexts (w : World) (xs : List File) (A : Option Addr) (cap : Nat) (S : Blks) (hx : Row false w A cap xs S) (hl : xs.length ≤ 4000000000) (n : ByteArray) (hz : ∀ k (h : k < xs.length), xs[k].text.size ≤ 1048576) : Calls Tryz.prog 82 #[.agg #[.slice A xs.length cap], .string n] w (OwnRes (logTexts xs n) w) := by
  go_enter Tryz.func82, Tryz.ntmps82
  go_wp2_with (fail)
  obtain ⟨W, hW⟩ : ∃ W, w.alloc (.cells #[.slice A xs.length cap] 28) = W := ⟨_, rfl⟩
  have hWf : Below w.heap.size w W ∧ W.heap.size = w.heap.size + 1 ∧ W.cell? ⟨w.heap.size, 0, none⟩ = some (.slice A xs.length cap) := by
    rw [← hW]
    exact ⟨(Below.refl _ _).alloc (Nat.le_refl _) _, by simp, box_cell _ _ _ _ _ rfl⟩
  rw [hW]
  clear hW
  obtain ⟨bW, sW, cW⟩ := hWf
  have hxW := Row.later hx bW
  clear hx
  have HX := Lib.hid hxW; clear hxW
  have h0 := impl_FileAt W xs A cap S HX.out hl n
  cases hg : fileGet xs n with
  | none =>
    have HE := Lib.hid (logTexts_none hg)
    rw [hg] at h0
    simp only [faV] at h0
    refine h0.mono ?_
    rintro e w2 ⟨rfl, hb⟩
    clear hg h0
    go_wp2
    go_ret
    exact OwnRes.mk (Own.start (bW.trans (hb.mono bW.size))) HE.out rfl
  | some T =>
    obtain ⟨k, hk, rfl⟩ := file_sz hg
    have hT := hz k hk
    obtain ⟨T, hTT⟩ : ∃ T, xs[k].text = T := ⟨_, rfl⟩
    rw [hTT] at hg hT
    rw [hg] at h0
    simp only [faV] at h0
    refine h0.mono ?_
    rintro e w2 ⟨rfl, hb⟩
    have c0 := (hb.cell (p := ⟨w.heap.size, 0, none⟩) (by show w.heap.size < _; omega)).trans cW
    have HDK := Lib.hid (impl_DiskOk w2 xs A cap S (Row.later HX.out hb) hl)
    cases hd : diskOk xs
    · have HE := Lib.hid (logTexts_bad (n := n) hd)
      rw [hd] at HDK
      clear hg h0 hTT hd
      go_wp2_with (go_at_call 130; refine HDK.out.mono ?_; rintro e3 w3 ⟨rfl, hb3⟩)
      go_ret
      exact OwnRes.mk (Own.start (bW.trans ((hb.trans (hb3.mono hb.size)).mono bW.size))) HE.out rfl
    · have HE := Lib.hid (logTexts_yes hg hd)
      rw [hd] at HDK
      clear hg h0 hTT hd
      go_wp2_with (first | (go_at_call 130; refine HDK.out.mono ?_; rintro e3 w3 ⟨rfl, hb3⟩) | (go_at_call 131; refine (impl_Unframe _ T hT).mono ?_; rintro e4 w4 ⟨A4, c4, y4, rfl, o4⟩))
      go_ret
      exact OwnRes.mk (o4.from (bW.trans ((hb.trans (hb3.mono hb.size)).mono bW.size))) HE.out rfl
set_option maxRecDepth 20000 in set_option maxHeartbeats 8000000 in
theorem spec_LogTexts (w : World) (xs : List File) (A : Option Addr) (cap : Nat) (S : Blks) (hx : Row false w A cap xs S) (hl : xs.length ≤ 4000000000) (n : ByteArray) (hz : ∀ k (h : k < xs.length), xs[k].text.size ≤ 1048576) : Calls Tryz.prog 75 #[.agg #[.slice A xs.length cap], .string n] w (OwnRes (logTexts xs n) w) := by
  go_enter Tryz.func75, Tryz.ntmps75
  go_wp2_with (fail)
  obtain ⟨W, hW⟩ : ∃ W, w.alloc (.cells #[.slice A xs.length cap] 28) = W := ⟨_, rfl⟩
  have hWf : Below w.heap.size w W ∧ W.heap.size = w.heap.size + 1 ∧ W.cell? ⟨w.heap.size, 0, none⟩ = some (.slice A xs.length cap) := by
    rw [← hW]
    exact ⟨(Below.refl _ _).alloc (Nat.le_refl _) _, by simp, box_cell _ _ _ _ _ rfl⟩
  rw [hW]
  clear hW
  obtain ⟨bW, sW, cW⟩ := hWf
  have hxW := Row.later hx bW
  clear hx
  have HX := Lib.hid hxW; clear hxW
  have h9 := spec_DiskOk W xs A cap S HX.out hl
  cases hd : diskOk xs
  · have HE := Lib.hid (logTexts_bad (n := n) hd)
    rw [hd] at h9
    refine h9.mono ?_
    rintro e w2 ⟨rfl, hb⟩
    clear h9 hd
    go_wp2
    go_ret
    exact OwnRes.mk (Own.lit (bW.trans (hb.mono bW.size)) 9 rfl) HE.out rfl
  rw [hd] at h9
  refine h9.mono ?_
  rintro e w2 ⟨rfl, hb⟩
  clear h9
  have c0 := (hb.cell (p := ⟨w.heap.size, 0, none⟩) (by show w.heap.size < _; omega)).trans cW
  have hbw := bW.trans (hb.mono bW.size)
  obtain ⟨T, hT, HG⟩ : ∃ T : ByteArray, T.size ≤ 1048576 ∧ Hid (logTexts xs n = unframe T ∧ (fileGet xs n = some T ∨ (fileGet xs n = none ∧ T = ⟨#[]⟩))) := by
    cases hg : fileGet xs n with
    | none => exact ⟨⟨#[]⟩, by decide, Lib.hid ⟨by rw [logTexts_none hg, unframe_nil], .inr ⟨rfl, rfl⟩⟩⟩
    | some T =>
      obtain ⟨k, hk, rfl⟩ := file_sz hg
      exact ⟨_, hz k hk, Lib.hid ⟨logTexts_yes hg hd, .inl rfl⟩⟩
  have HF : Hid (Calls Tryz.prog 122 #[.agg #[.slice A xs.length cap], .string n] w2 fun e w' => (∃ b : Bool, e = .returned (.tuple #[.string T, .bool b])) ∧ Below w2.heap.size w2 w') := Lib.hid ((spec_FileAt w2 xs A cap S (Row.later HX.out hb) hl n).mono (by
    rintro e w' ⟨rfl, h⟩
    rcases HG.out.2 with h2 | ⟨h2, rfl⟩ <;> rw [h2]
    · exact ⟨⟨true, rfl⟩, h⟩
    · exact ⟨⟨false, rfl⟩, h⟩))
  clear hd
  have hun := (unframe_sz T).2
  go_wp2_with (first | (go_at_call 122; refine HF.out.mono ?_; rintro e3 w3 ⟨⟨b3, rfl⟩, hb3⟩) | (go_at_call 123; refine (spec_Unframe _ T hT).mono ?_; rintro e4 w4 ⟨A4, c4, y4, rfl, o4⟩) | (at_builtin; go_loud (refine wpList_push (α := ByteArray) (w0 := w4) (L := []) rfl _ _ rfl rfl rfl (Own.litAt (Below.refl _ _) 9 rfl (by first | rfl | simp)) rfl rfl (Src.flat (Row.later o4.row ((Below.refl _ _).alloc (Nat.le_refl _) _))) (by omega) ?_; intro A6 c6 w6 o6 z6)))
  go_ret
  exact OwnRes.mk (o6.from (hbw.trans ((hb3.trans (o4.bl.mono hb3.size)).mono hbw.size))) (by rw [HG.out.1]; rfl) (by simp)
end Go.Proofs.YtlfnmbcnehaikaaGreatDoor
