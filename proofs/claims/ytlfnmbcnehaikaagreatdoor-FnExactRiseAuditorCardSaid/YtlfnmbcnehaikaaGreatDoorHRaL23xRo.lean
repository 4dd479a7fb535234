/- A part of the proof: what the laws need of it. -/
import Derived.BigQuiet
import Derived.Test.YtlfnmbcnehaikaaGreatDoorHRaL22xRj
import Derived.Test.YtlfnmbcnehaikaaGreatDoorHRaL20xRa
import Derived.Test.YtlfnmbcnehaikaaGreatDoorHRaL11xDp
import Derived.Test.YtlfnmbcnehaikaaGreatDoorHRaL21xRb
import Derived.Test.YtlfnmbcnehaikaaGreatDoorHRaL5xTop
import Derived.Test.YtlfnmbcnehaikaaGreatDoorHRaL19xSg
set_option linter.unusedVariables false
set_option linter.unusedSimpArgs false
set_option linter.unusedVariables false
set_option linter.unusedSimpArgs false
namespace Go.Proofs.YtlfnmbcnehaikaaGreatDoor
open Go.RowKit Lay Mk
def Fld (ty : TypeId) (w : World) (g : Nat) (t : ByteArray) (a : Nat) (b : Bool) : Prop := w.heap[g]? = some (.cells #[.string t, .int .i64 a, .bool b] ty (0, 0))
section
variable {ty : TypeId} {w w' : World} {g : Nat} {t : ByteArray} {a : Nat} {b : Bool}
theorem Fld.lt (h : Fld ty w g t a b) : g < w.heap.size := (Array.getElem?_eq_some_iff.1 h).1
theorem Fld.c0 (h : Fld ty w g t a b) : w.cell? ⟨g, 0, none⟩ = some (.string t) := by have := cell_of_row w g 0 _ _ _ h; simpa using this
theorem Fld.c1 (h : Fld ty w g t a b) : w.cell? ⟨g, 1, none⟩ = some (.int .i64 a) := by have := cell_of_row w g 1 _ _ _ h; simpa using this
theorem Fld.c2 (h : Fld ty w g t a b) : w.cell? ⟨g, 2, none⟩ = some (.bool b) := by have := cell_of_row w g 2 _ _ _ h; simpa using this
theorem Fld.cf (h : Fld ty w g t a b) : ∀ o, w.frozen? ⟨g, o, none⟩ = false := fun o => frozen_of_row _ _ o _ _ h
theorem Fld.keep (h : Fld ty w g t a b) (e : w'.heap[g]? = w.heap[g]?) : Fld ty w' g t a b := e.trans h
theorem Fld.bad (h : Fld ty w g t a b) (c : Bool) : Fld ty (w.setCell ⟨g, 2, none⟩ (.bool c)) g t a c := by
  unfold Fld at *
  simp only [World.setCell, Array.getElem?_modify, h]
  simp
theorem Fld.to (h : Fld ty w g t a b) (x : Int) (y : Nat) (e : x = y) : Fld ty (w.setCell ⟨g, 1, none⟩ (.int .i64 x)) g t y b := by
  subst e
  unfold Fld at *
  simp only [World.setCell, Array.getElem?_modify, h]
  simp
theorem Fld.below {B : Nat} (h : Fld ty w g t a b) (hb : Below B w w') (hl : g < B) : Fld ty w' g t a b := h.keep (hb.block _ hl)
theorem Fld.new (w : World) (ty : TypeId) (t : ByteArray) : Fld ty (w.alloc (.cells #[.string t, .int .i64 0, .bool false] ty)) w.heap.size t 0 false := heap_alloc_new w _
theorem chg_one {o : Nat} {v : Value} : Chg (fun b => b = g) w (w.setCell ⟨g, o, none⟩ v) := Chg.setCell (S := fun b => b = g) (p := ⟨g, o, none⟩) (Chg.refl _ _) (Or.inl (show (fun b => b = g) g from rfl)) _
theorem chg_drew {v : World} {S : Blks} (h : Chg S w v) (n : Nat) : Chg S w (v.drewN n) := by
  obtain ⟨a, b, c, d, e⟩ := h
  exact ⟨a, b, c, d, e⟩
end
set_option maxRecDepth 20000 in set_option maxHeartbeats 4000000 in
theorem impl_short_no (w : World) (g : Nat) (t : ByteArray) (a : Nat) (b : Bool) (hF : Fld 151 w g t a b) (ht : t.size ≤ 1048576) (ha : a ≤ t.size) (h : rdShort t a = none) : Calls Tryz.prog 132 #[.pointer (some ⟨g, 0, none⟩)] w fun e w' => e = .returned (.string ⟨#[]⟩) ∧ Fld 151 w' g t a true ∧ Chg (fun b => b = g) w w' := by
  have c0 := hF.c0
  have c1 := hF.c1
  have c2 := hF.c2
  have cf := hF.cf
  have HF := Lib.hid hF
  clear hF
  have HV : Hid (∀ W, Calls Tryz.prog 181 #[.string t, .int .i64 a] W fun e w' => e = .returned (.tuple #[.string ⟨#[]⟩, .int .i64 0, .bool false]) ∧ W = w') := Lib.hid (fun W => by
    have h1 := impl_ReadShort W t ht a ha
    rw [h] at h1
    exact h1)
  clear h
  go_enter Tryz.func132, Tryz.ntmps132
  go_wp2
  go_quiet ((go_at_call 181; exact quiet_w (HV.out _)))
  go_wp2
  go_ret
  exact ⟨rfl, (HF.out.keep (w' := w.drewN _) rfl).bad true, chg_one (w := w.drewN _) |> fun h => (chg_drew (Chg.refl _ _) _).trans h⟩
set_option maxRecDepth 20000 in set_option maxHeartbeats 4000000 in
theorem impl_short_yes (w : World) (g : Nat) (t : ByteArray) (a : Nat) (b : Bool) (hF : Fld 151 w g t a b) (ht : t.size ≤ 1048576) (ha : a ≤ t.size) {s : ByteArray} {x : Nat} (h : rdShort t a = some (s, x)) : Calls Tryz.prog 132 #[.pointer (some ⟨g, 0, none⟩)] w fun e w' => e = .returned (.string s) ∧ Fld 151 w' g t x b ∧ Chg (fun b => b = g) w w' := by
  have c0 := hF.c0
  have c1 := hF.c1
  have c2 := hF.c2
  have cf := hF.cf
  have HF := Lib.hid hF
  clear hF
  have HV : Hid (∀ W, Calls Tryz.prog 181 #[.string t, .int .i64 a] W fun e w' => e = .returned (.tuple #[.string s, .int .i64 x, .bool true]) ∧ W = w') := Lib.hid (fun W => by
    have h1 := impl_ReadShort W t ht a ha
    rw [h] at h1
    exact h1)
  clear h
  go_enter Tryz.func132, Tryz.ntmps132
  go_wp2
  go_quiet ((go_at_call 181; exact quiet_w (HV.out _)))
  go_wp2
  go_ret
  exact ⟨rfl, (HF.out.keep (w' := w.drewN _) rfl).to _ _ rfl, chg_one (w := w.drewN _) |> fun h => (chg_drew (Chg.refl _ _) _).trans h⟩
set_option maxRecDepth 20000 in set_option maxHeartbeats 4000000 in
theorem impl_bytes_yes (w : World) (g : Nat) (t : ByteArray) (a : Nat) (b : Bool) (hF : Fld 151 w g t a b) (ht : t.size ≤ 1048576) (ha : a ≤ t.size) (n : Nat) (hn : n ≤ 16) (hb : b = false) (hl : a + n ≤ t.size) : Calls Tryz.prog 214 #[.pointer (some ⟨g, 0, none⟩), .int .i64 n] w fun e w' => e = .returned (.string (t.extract a (a + n))) ∧ Fld 151 w' g t (a + n) false ∧ Chg (fun b => b = g) w w' := by
  subst hb
  have c0 := hF.c0
  have c1 := hF.c1
  have c2 := hF.c2
  have cf := hF.cf
  have HF := Lib.hid hF
  clear hF
  have d0 : decide ((n : Int) < 0) = false := by rw [decide_eq_false_iff_not]; omega
  have d1 : decide ((t.size : Int) - (a : Int) < (n : Int)) = false := by rw [decide_eq_false_iff_not]; omega
  have hw1 : IntKind.i64.wrap ((t.size : Int) - a) = (t.size : Int) - a := by rw [IntWalk.i64_in] <;> omega
  have hw2 : IntKind.i64.wrap ((a : Int) + n) = (a : Int) + n := by rw [IntWalk.i64_in] <;> omega
  have hw3 : IntKind.i64.wrap ((a : Int) + n - n) = (a : Int) := by rw [IntWalk.i64_in] <;> omega
  have b1 : (a : Int) ≤ (a : Int) + n := by omega
  have b2 : (a : Int) + n ≤ (t.size : Int) := by omega
  go_enter Tryz.func214, Tryz.ntmps214
  go_wp2
  go_quiet (fail)
  go_wp2
  go_quiet (fail)
  go_wp2
  go_ret
  exact ⟨rfl, ((HF.out.keep (w' := w.drewN _) rfl).to _ _ (by omega)).keep rfl, chg_drew ((chg_drew (Chg.refl _ _) _).trans chg_one) _⟩
set_option maxRecDepth 20000 in set_option maxHeartbeats 4000000 in
theorem impl_bytes_no (w : World) (g : Nat) (t : ByteArray) (a : Nat) (b : Bool) (hF : Fld 151 w g t a b) (ht : t.size ≤ 1048576) (ha : a ≤ t.size) (n : Nat) (hn : n ≤ 16) (hb : b = true ∨ t.size < a + n) : Calls Tryz.prog 214 #[.pointer (some ⟨g, 0, none⟩), .int .i64 n] w fun e w' => e = .returned (.string ⟨#[]⟩) ∧ Fld 151 w' g t a true ∧ Chg (fun b => b = g) w w' := by
  have c0 := hF.c0
  have c1 := hF.c1
  have c2 := hF.c2
  have cf := hF.cf
  have HF := Lib.hid hF
  clear hF
  have d0 : decide ((n : Int) < 0) = false := by rw [decide_eq_false_iff_not]; omega
  have hw1 : IntKind.i64.wrap ((t.size : Int) - a) = (t.size : Int) - a := by rw [IntWalk.i64_in] <;> omega
  cases b
  · have d1 : decide ((t.size : Int) - (a : Int) < (n : Int)) = true := by
      rw [decide_eq_true_iff]
      rcases hb with hb | hb
      · cases hb
      · omega
    clear hb
    go_enter Tryz.func214, Tryz.ntmps214
    go_wp2
    go_quiet (fail)
    go_wp2
    go_ret
    exact ⟨rfl, (HF.out.keep (w' := w.drewN _) rfl).bad true, chg_one (w := w.drewN _) |> fun h => (chg_drew (Chg.refl _ _) _).trans h⟩
  · clear hb
    go_enter Tryz.func214, Tryz.ntmps214
    go_wp2
    go_quiet (fail)
    go_wp2
    go_ret
    exact ⟨rfl, (HF.out.keep (w' := w.drewN _) rfl).bad true, chg_one (w := w.drewN _) |> fun h => (chg_drew (Chg.refl _ _) _).trans h⟩
set_option maxRecDepth 20000 in set_option maxHeartbeats 4000000 in
theorem impl_one_yes (w : World) (g : Nat) (t : ByteArray) (a : Nat) (b : Bool) (hF : Fld 151 w g t a b) (ht : t.size ≤ 1048576) (ha : a ≤ t.size) (hb : b = false) (hl : a < t.size) : Calls Tryz.prog 213 #[.pointer (some ⟨g, 0, none⟩)] w fun e w' => e = .returned (.int .i64 (t[a].toNat : Int)) ∧ Fld 151 w' g t (a + 1) false ∧ Chg (fun b => b = g) w w' := by
  have HV := Lib.hid (impl_bytes_yes w g t a b hF ht ha 1 (by omega) hb (by omega))
  have hz : (t.extract a (a + 1)).size = 1 := by rw [ByteArray.size_extract]; omega
  have hx : (t.extract a (a + 1))[0]'(by omega) = t[a] := by rw [ByteArray.getElem_extract]; rfl
  obtain ⟨E, hE⟩ : ∃ E, t.extract a (a + 1) = E := ⟨_, rfl⟩
  rw [hE] at HV hz
  have HX : Hid (∀ h, (E[0]'h).toNat = t[a].toNat) := Lib.hid (fun h => by subst hE; rw [hx])
  have hem : (E.toList == ([] : List UInt8)) = false := by rw [empty_eq]; exact decide_eq_false (fun e => by rw [e] at hz; exact absurd hz (by decide))
  clear hE hx hF
  have hz0 : (0 : Int) < (E.size : Int) := by omega
  have hbt := t[a].toNat_lt
  go_enter Tryz.func213, Tryz.ntmps213
  go_wp2_with (go_at_call 214; refine HV.out.mono ?_; rintro e0 w1 ⟨rfl, hF1, hc1⟩)
  go_ret
  exact ⟨ret_int (by rw [HX.out]; exact IntWalk.wrap64_in _ (by omega)), hF1, hc1⟩
set_option maxRecDepth 20000 in set_option maxHeartbeats 4000000 in
theorem impl_one_no (w : World) (g : Nat) (t : ByteArray) (a : Nat) (b : Bool) (hF : Fld 151 w g t a b) (ht : t.size ≤ 1048576) (ha : a ≤ t.size) (hb : b = true ∨ t.size ≤ a) : Calls Tryz.prog 213 #[.pointer (some ⟨g, 0, none⟩)] w fun e w' => e = .returned (.int .i64 0) ∧ Fld 151 w' g t a true ∧ Chg (fun b => b = g) w w' := by
  have HV := Lib.hid (impl_bytes_no w g t a b hF ht ha 1 (by omega) (hb.imp id (fun h => by omega)))
  clear hF hb
  go_enter Tryz.func213, Tryz.ntmps213
  go_wp2_with (go_at_call 214; refine HV.out.mono ?_; rintro e0 w1 ⟨rfl, hF1, hc1⟩)
  go_ret
  exact ⟨rfl, hF1, hc1⟩
structure HsRes (ty : TypeId) (w : World) (g : Nat) (t : ByteArray) (a n : Nat) (b : Bool) (w' : World) (A : Option Addr) (c : Nat) (L : List ByteArray) (a' : Nat) (b' : Bool) : Prop where
  len : L.length = n
  sm : ∀ s ∈ L, s.size ≤ 16
  le : L.length ≤ c
  cm : c ≤ maxLen
  row : Row true w' A c L (nw w.heap.size)
  fld : Fld ty w' g t a' b'
  chg : Chg (fun b => b = g ∨ w.heap.size ≤ b) w w'
  al : a' ≤ t.size
  ag : a ≤ a'
  good : b' = false → b = false ∧ L = cuts t a n ∧ a' = a + 16 * n
  back : b' = true → b = true ∨ t.size < a + 16 * n
set_option maxRecDepth 20000 in set_option maxHeartbeats 8000000 in
theorem impl_hashes (w : World) (g : Nat) (t : ByteArray) (a : Nat) (b : Bool) (hF : Fld 151 w g t a b) (ht : t.size ≤ 1048576) (ha : a ≤ t.size) (n : Nat) (hn : n ≤ 8) : Calls Tryz.prog 215 #[.pointer (some ⟨g, 0, none⟩), .int .i64 n, .int .i64 16] w fun e w' => ∃ A c L a' b', e = .returned (.slice A L.length c) ∧ HsRes 151 w g t a n b w' A c L a' b' := by
  have HF0 := Lib.hid hF
  clear hF
  go_enter Tryz.func215, Tryz.ntmps215
  go_wp2
  go_loopw [7, 9] (fun u i wr => ∃ (k : Nat) (L : List ByteArray) (A : Option Addr) (c a' : Nat) (b' : Bool), k ≤ n ∧ i = .int .i64 k ∧ u = .slice A L.length c ∧ Hid (HsRes 151 w g t a k b wr A c L a' b')) (fun _ i _ => n - (intOf i).toNat)
  case atStart => exact ⟨0, [], none, 0, a, b, Nat.zero_le _, rfl, rfl, Lib.hid ⟨rfl, by simp, by simp, by decide, row_nil _ _, HF0.out, Chg.refl _ _, ha, Nat.le_refl _, fun h => ⟨h, rfl, by omega⟩, fun h => .inl h⟩⟩
  case round =>
    obtain ⟨k, L, A, c, a', b', hk, rfl, rfl, HR⟩ := hrel
    have hLb : L.length ≤ 8 := by rw [HR.out.len]; omega
    have hal := HR.out.al
    have hsz := HR.out.chg.size
    by_cases hlt : k < n
    · have hgl : g < w.heap.size := HF0.out.lt
      by_cases hgood : b' = false ∧ a' + 16 ≤ t.size
      · have HV := Lib.hid (impl_bytes_yes wr g t a' b' HR.out.fld ht hal 16 (Nat.le_refl _) hgood.1 hgood.2)
        obtain ⟨E, hE⟩ : ∃ E, t.extract a' (a' + 16) = E := ⟨_, rfl⟩
        have HE := Lib.hid hE
        have hez : E.size = 16 := by rw [← hE, ByteArray.size_extract]; omega
        have HOK : Hid (Flat.ok (α := ByteArray) E) := Lib.hid (show E.size ≤ maxLen by unfold maxLen; omega)
        rw [hE] at HV
        clear hE
        go_wp2_with (fail)
        refine HV.out.mono ?_
        rintro e1 w1 ⟨rfl, hF1, hc1⟩
        have hz1 := hc1.size
        have HRW : Hid (Row true w1 A c L (nw w.heap.size)) := Lib.hid (Row.chg HR.out.row hc1 (fun q h1 h2 => by unfold nw at h1; omega))
        have HCH : Hid (Chg (fun b => b = g ∨ w.heap.size ≤ b) w w1) := Lib.hid (HR.out.chg.trans (hc1.mono (fun b _ h => .inl h)))
        have HF1 := Lib.hid hF1
        clear hF1 hc1
        have hle := HR.out.le
        have hcm := HR.out.cm
        go_wp2_with (at_builtin; refine wpList_app (α := ByteArray) rfl _ _ rfl rfl rfl (HRW.out.allocC _) hle hcm rfl rfl (src1 HOK.out rfl rfl) (disj_none_ _) (by omega) ?_; intro A' cap' w4 h1 h2 h3 h4)
        go_roundw
        case rel => exact ⟨k + 1, L ++ [E], A', cap', a' + 16, false, hlt, by go_num, by simp, Lib.hid ⟨by rw [List.length_append, HR.out.len]; rfl, by intro s hs; rcases List.mem_append.1 hs with hs | hs; exact HR.out.sm s hs; rw [List.mem_singleton.1 hs]; omega, by simpa using h1, h2, row_og h3 (fun b hb => by unfold nw; simp at hb; omega), (HF1.out.keep (Below.heap_alloc w1 _ _ (by omega))).keep (h4.block _ (by simp; omega) (by unfold nw; omega)), (HCH.out.alloc _).trans (h4.mono (fun b _ h => .inr h)), hgood.2, by have := HR.out.ag; omega, fun _ => by
          obtain ⟨q1, q2, q3⟩ := HR.out.good hgood.1
          exact ⟨q1, by rw [cuts, ← q2, ← HE.out, q3], by omega⟩, fun h => by cases h⟩⟩
        case measure => simp [intOf]; omega
      · have hbad : b' = true ∨ t.size < a' + 16 := by
          cases b'
          · exact .inr (Nat.lt_of_not_le (fun h => hgood ⟨rfl, h⟩))
          · exact .inl rfl
        have HV := Lib.hid (impl_bytes_no wr g t a' b' HR.out.fld ht hal 16 (Nat.le_refl _) hbad)
        have HBK : Hid (b = true ∨ t.size < a + 16 * (k + 1)) := Lib.hid (by
          rcases hbad with h | h
          · exact (HR.out.back h).imp id (fun h => by omega)
          · cases hb' : b'
            · have := HR.out.good hb'; right; omega
            · exact (HR.out.back hb').imp id (fun h => by omega))
        clear hgood hbad
        go_wp2_with (fail)
        refine HV.out.mono ?_
        rintro e1 w1 ⟨rfl, hF1, hc1⟩
        have hz1 := hc1.size
        have HRW : Hid (Row true w1 A c L (nw w.heap.size)) := Lib.hid (Row.chg HR.out.row hc1 (fun q h1 h2 => by unfold nw at h1; omega))
        have HCH : Hid (Chg (fun b => b = g ∨ w.heap.size ≤ b) w w1) := Lib.hid (HR.out.chg.trans (hc1.mono (fun b _ h => .inl h)))
        have HF1 := Lib.hid hF1
        clear hF1 hc1
        have hle := HR.out.le
        have hcm := HR.out.cm
        have HOK : Hid (Flat.ok (α := ByteArray) ⟨#[]⟩) := Lib.hid (Nat.zero_le _)
        go_wp2_with (at_builtin; refine wpList_app (α := ByteArray) rfl _ _ rfl rfl rfl (HRW.out.allocC _) hle hcm rfl rfl (src1 HOK.out rfl rfl) (disj_none_ _) (by omega) ?_; intro A' cap' w4 h1 h2 h3 h4)
        go_roundw
        case rel => exact ⟨k + 1, L ++ [⟨#[]⟩], A', cap', a', true, hlt, by go_num, by simp, Lib.hid ⟨by rw [List.length_append, HR.out.len]; rfl, by intro s hs; rcases List.mem_append.1 hs with hs | hs; exact HR.out.sm s hs; rw [List.mem_singleton.1 hs]; exact Nat.zero_le _, by simpa using h1, h2, row_og h3 (fun b hb => by unfold nw; simp at hb; omega), (HF1.out.keep (Below.heap_alloc w1 _ _ (by omega))).keep (h4.block _ (by simp; omega) (by unfold nw; omega)), (HCH.out.alloc _).trans (h4.mono (fun b _ h => .inr h)), hal, HR.out.ag, fun h => (by cases h), fun _ => HBK.out⟩⟩
        case measure => simp [intOf]; omega
    · have hke : k = n := by omega
      subst hke
      go_wp2
      go_ret
      exact ⟨A, c, L, a', b', rfl, HR.out⟩
end Go.Proofs.YtlfnmbcnehaikaaGreatDoor

set_option linter.unusedVariables false
set_option linter.unusedSimpArgs false
namespace Go.Proofs.YtlfnmbcnehaikaaGreatDoor
open Go.RowKit Lay Mk
theorem szL_upto {α : Type} [Lay α] [Mk α] {m : Nat} : ∀ {l : List α}, (∀ s ∈ l, sz s ≤ m) → szL l ≤ l.length * (m + 1)
  | [], _ => by simp [szL]
  | a :: l, h => by
    have h1 := szL_upto (l := l) (fun s hs => h s (by simp [hs]))
    have h2 := h a (by simp)
    simp only [szL, List.length_cons, List.map_cons, List.sum_cons] at h1 ⊢
    rw [Nat.add_mul]
    omega
theorem szL_wide {l : List ByteArray} {n : Nat} (h : wideOk l n = true) : szL l ≤ n * 17 := by
  obtain ⟨h1, h2⟩ := wide_both h
  have h3 := szL_upto (m := 16) (l := l) (fun s hs => by have h4 : sz s = s.size := rfl; rw [h4, h1 s hs]; exact Nat.le_refl _)
  rw [h2] at h3
  exact h3
theorem good_sz {s : Seal} (h : GoodS s) : s.sz ≤ 400 := by
  obtain ⟨h1, h2⟩ := h
  obtain ⟨-, -, z1, z2⟩ := headOk_b h1
  simp only [sigForm, Bool.and_eq_true] at h2
  have a := szL_wide h2.1.1.2
  have b := szL_wide h2.1.2
  have c := szL_wide h2.2
  simp only [Seal.sz, Head.sz, Sig.sz]
  omega
theorem goodP_sz {p : Pair} (h : GoodP p) : p.sz ≤ 800 := by
  have a := good_sz h.1
  have b := good_sz h.2
  simp only [Pair.sz]
  omega
def auditorNew (house : Int) (d : Disk) : Auditor := auditorFrom house d (poolOf (seedOf house))
theorem logTexts_len (xs : List File) (n : ByteArray) : (logTexts xs n).length ≤ 4000 := by
  unfold logTexts
  split
  · exact Nat.zero_le _
  · rename_i T _
    split
    · have := (unframe_sz T).2; omega
    · exact Nat.zero_le _
theorem pool_sz (house : Int) : szL (poolOf (seedOf house)) ≤ 528 := by
  have h1 : ∀ k, (poolTo (seedOf house) k).length = k ∧ ∀ s ∈ poolTo (seedOf house) k, s.size ≤ 32 := by
    intro k
    induction k with
    | zero => exact ⟨rfl, fun s hs => by cases hs⟩
    | succ k ih =>
      refine ⟨poolTo_len _ _, fun s hs => ?_⟩
      rw [poolTo, List.mem_append] at hs
      rcases hs with hs | hs
      · exact ih.2 s hs
      · rw [List.mem_singleton.1 hs]; exact publicOf_le _ _
  have h2 := szL_upto (m := 32) (l := poolTo (seedOf house) 16) (h1 16).2
  rw [(h1 16).1] at h2
  exact h2
theorem cnb_auditorNew (house : Int) (d : Disk) (hz : d.sz ≤ 1048576) : (auditorNew house d).ct ≤ 1000000000000 := by
  have h1 := recsAt_good (logTexts d.files pinsName) ([], []) (fun s hs => by cases hs) (fun s hs => by cases hs)
  have h2 := logTexts_len d.files pinsName
  obtain ⟨g1, g2, g3, g4⟩ := h1
  have e1 := szL_upto (m := 400) (l := (recsAt (logTexts d.files pinsName) ([], [])).1) (fun s hs => good_sz (g1 s hs))
  have e2 := szL_upto (m := 800) (l := (recsAt (logTexts d.files pinsName) ([], [])).2) (fun s hs => goodP_sz (g2 s hs))
  have c1 := cnb_FileS d.files
  have c2 := cnb_StringS (poolOf (seedOf house))
  have c3 := cnb_SealS (recsAt (logTexts d.files pinsName) ([], [])).1
  have c4 := cnb_PairS (recsAt (logTexts d.files pinsName) ([], [])).2
  have p1 := pool_sz house
  have d1 : szL d.files ≤ 1048576 := hz
  simp only [List.length_nil, Nat.zero_add] at g3 g4
  have l1 : (recsAt (logTexts d.files pinsName) ([], [])).1.length * 401 ≤ 4000 * 401 := Nat.mul_le_mul_right _ (by omega)
  have l2 : (recsAt (logTexts d.files pinsName) ([], [])).2.length * 801 ≤ 4000 * 801 := Nat.mul_le_mul_right _ (by omega)
  show cnL d.files + cnL (poolOf (seedOf house)) + cnL (recsAt (logTexts d.files pinsName) ([], [])).1 + cnL (recsAt (logTexts d.files pinsName) ([], [])).2 ≤ _
  omega
end Go.Proofs.YtlfnmbcnehaikaaGreatDoor

set_option linter.unusedVariables false
set_option linter.unusedSimpArgs false
namespace Go.Proofs.YtlfnmbcnehaikaaGreatDoor
open Go.RowKit Lay Mk
theorem unframe_long {t : ByteArray} (h : 20000 < t.size) : unframe t = [] := by unfold unframe; rw [if_neg (by omega)]
theorem unframe_go {t : ByteArray} (h : t.size ≤ 20000) : unframe t = [] ++ unfrGo t (t.size + 1) 0 := by unfold unframe; rw [if_pos h]; rfl
def UfRes (L : List ByteArray) (w : World) (e : Ending) (w' : World) : Prop := ∃ (A : Option Addr) (c : Nat) (y : Int), e = .returned (.tuple #[.slice A L.length c, .int .i64 y]) ∧ Own w w' A c L
theorem UfRes.mk {L M : List ByteArray} {w w' : World} {A : Option Addr} {c n : Nat} {y : Int} (h : Own w w' A c M) (e : L = M) (hn : n = M.length) : UfRes L w (.returned (.tuple #[.slice A n c, .int .i64 y])) w' := by subst e; subst hn; exact ⟨A, c, y, rfl, h⟩
set_option maxRecDepth 20000 in set_option maxHeartbeats 16000000 in
theorem impl_Unframe (w : World) (t : ByteArray) (ht : t.size ≤ 1048576) : Calls Tryz.prog 131 #[.string t] w (UfRes (unframe t) w) := by
  by_cases hbig : t.size ≤ 20000
  rotate_left
  · have d1 : decide ((20000 : Int) < (t.size : Int)) = true := by rw [decide_eq_true_iff]; omega
    have HE := Lib.hid (unframe_long (t := t) (by omega))
    go_enter Tryz.func131, Tryz.ntmps131
    go_wp2
    refine bodyPost_ret (v := .tuple #[.slice none 0 0, .int .i64 0]) (by simp [results, Tryz.results131, go_sem, *]) rfl ?_
    exact UfRes.mk (Own.start (Below.refl _ _)) HE.out rfl
  have d1 : decide ((20000 : Int) < (t.size : Int)) = false := by rw [decide_eq_false_iff_not]; omega
  have HG := Lib.hid (unframe_go hbig)
  obtain ⟨R, hR⟩ : ∃ R, unframe t = R := ⟨_, rfl⟩
  rw [hR] at HG ⊢
  clear hR
  go_enter Tryz.func131, Tryz.ntmps131
  go_wp2
  go_loopw [4, 5] (fun u i wr => ∃ (L : List ByteArray) (A : Option Addr) (c a f : Nat), u = .slice A L.length c ∧ i = .int .i64 a ∧ a ≤ t.size ∧ t.size < a + f ∧ L.length ≤ a ∧ Hid (R = L ++ unfrGo t f a) ∧ Hid (Own w wr A c L)) (fun _ i _ => t.size - (intOf i).toNat)
  case atStart => exact ⟨[], _, _, 0, t.size + 1, rfl, rfl, Nat.zero_le _, by omega, Nat.le_refl _, HG, Lib.hid ((Own.start (Below.refl _ _)))⟩
  case round =>
    obtain ⟨L, A, c, a, f, rfl, rfl, ha, hf, hL, HR, HO⟩ := hrel
    clear HG
    have hz := HO.out.size
    have h0 := impl_ReadVar wr t ht a ha
    cases hv : rdVar t a with
    | none =>
      have HE : Hid (R = L) := Lib.hid (by rw [HR.out, unfr_end (rdFrame_bad (fun n x e => by rw [hv] at e; cases e)), List.append_nil])
      rw [hv] at h0
      have HV : Hid (Calls Tryz.prog 178 #[.string t, .int .i64 a] wr fun e w' => e = .returned (.tuple #[.int .i64 0, .int .i64 0, .bool false]) ∧ wr = w') := Lib.hid h0
      clear h0 hv HR
      go_wp2_with (go_at_call 178; refine HV.out.mono ?_; rintro e w2 ⟨rfl, rfl⟩)
      refine bodyPost_ret (v := .tuple #[.slice A L.length c, .int .i64 a]) (by simp [results, Tryz.results131, go_sem, *]) rfl ?_
      exact UfRes.mk HO.out HE.out rfl
    | some q =>
      obtain ⟨n, x⟩ := q
      have h1 := rdVar_some hv
      rw [hv] at h0
      have HV : Hid (Calls Tryz.prog 178 #[.string t, .int .i64 a] wr fun e w' => e = .returned (.tuple #[.int .i64 n, .int .i64 x, .bool true]) ∧ wr = w') := Lib.hid h0
      clear h0
      have HNO := Lib.hid (fun (h : ¬ (1 ≤ n ∧ n ≤ 9000 ∧ n + 4 ≤ t.size - x)) => rdFrame_bad (t := t) (a := a) (fun n' x' e => by rw [hv] at e; injection e with e; injection e with e1 e2; subst e1; subst e2; exact h))
      have HSUM := Lib.hid (fun h1 h2 h3 => rdFrame_sum hv h1 h2 h3)
      have HSAME := Lib.hid (fun h3 => frame_same ha hv h3)
      clear hv
      have hws : IntKind.i64.wrap ((t.size : Int) - x) = (t.size : Int) - x := by rw [IntWalk.i64_in] <;> omega
      have hw4 : IntKind.i64.wrap ((n : Int) + 4) = (n : Int) + 4 := by rw [IntWalk.i64_in] <;> omega
      have hws4 : IntKind.i64.wrap ((t.size : Int) - x - 4) = (t.size : Int) - x - 4 := by rw [IntWalk.i64_in] <;> omega
      cases hin : inB (n : Int) 1 9000
      · have hnn : ¬ (1 ≤ n ∧ n ≤ 9000) := by
          intro hh; unfold inB at hin; rw [decide_eq_false_iff_not] at hin; omega
        have HE : Hid (R = L) := Lib.hid (by rw [HR.out, unfr_end (HNO.out (fun h => hnn ⟨h.1, h.2.1⟩)), List.append_nil])
        clear HR HNO HSUM HSAME
        clear hnn
        go_wp2_with (first | (go_at_call 178; refine HV.out.mono ?_; rintro e w2 ⟨rfl, rfl⟩) | (go_at_call 62; refine (impl_in _ _ _ _).mono ?_; rintro e3 w3 ⟨rfl, rfl⟩))
        refine bodyPost_ret (v := .tuple #[.slice A L.length c, .int .i64 a]) (by simp [results, Tryz.results131, go_sem, *]) rfl ?_
        exact UfRes.mk HO.out HE.out rfl
      have hnn : 1 ≤ n ∧ n ≤ 9000 := by unfold inB at hin; rw [decide_eq_true_iff] at hin; omega
      by_cases h4 : n + 4 ≤ t.size - x
      rotate_left
      · have d2 : decide ((t.size : Int) - (x : Int) < (n : Int) + 4) = true := by rw [decide_eq_true_iff]; omega
        have HE : Hid (R = L) := Lib.hid (by rw [HR.out, unfr_end (HNO.out (fun h => h4 h.2.2)), List.append_nil])
        clear HR HNO HSUM HSAME
        go_wp2_with (first | (go_at_call 178; refine HV.out.mono ?_; rintro e w2 ⟨rfl, rfl⟩) | (go_at_call 62; refine (impl_in _ _ _ _).mono ?_; rintro e3 w3 ⟨rfl, rfl⟩))
        refine bodyPost_ret (v := .tuple #[.slice A L.length c, .int .i64 a]) (by simp [results, Tryz.results131, go_sem, *]) rfl ?_
        exact UfRes.mk HO.out HE.out rfl
      have d2 : decide ((t.size : Int) - (x : Int) < (n : Int) + 4) = false := by rw [decide_eq_false_iff_not]; omega
      have hwx : IntKind.i64.wrap ((x : Int) + 4) = (x : Int) + 4 := by rw [IntWalk.i64_in] <;> omega
      have hwn : IntKind.i64.wrap ((x : Int) + 4 + n) = (x : Int) + 4 + n := by rw [IntWalk.i64_in] <;> omega
      have b1 : (x : Int) + 4 ≤ (x : Int) + 4 + n := by omega
      have b2 : (x : Int) + 4 + n ≤ (t.size : Int) := by omega
      have b3 : (x : Int) ≤ (x : Int) + 4 := by omega
      have b4 : (x : Int) + 4 ≤ (t.size : Int) := by omega
      have b5 : (a : Int) ≤ (x : Int) + 4 + n := by omega
      obtain ⟨T, hT⟩ : ∃ T, t.extract (x + 4) (x + 4 + n) = T := ⟨_, rfl⟩
      have hTz : T.size = n := by rw [← hT, ByteArray.size_extract]; omega
      have HTm : Hid (Flat.ok (α := ByteArray) T) := Lib.hid (show T.size ≤ maxLen by unfold maxLen; omega)
      rw [hT] at HSUM HSAME
      obtain ⟨S4, hS4⟩ : ∃ S, t.extract x (x + 4) = S := ⟨_, rfl⟩
      have HVf := Lib.hid (fun W => impl_fourBytes W (sumOf T) (sumOf_lt T))
      obtain ⟨Q4, hQ4⟩ : ∃ Q, fourB (sumOf T) = Q := ⟨_, rfl⟩
      rw [hS4, hQ4] at HSUM
      rw [hQ4] at HVf
      have HQ := Lib.hid (str_dec S4 Q4)
      have HF0 := Lib.hid (HSUM.out hnn.1 hnn.2 h4)
      clear hQ4 HSUM HSAME HNO
      by_cases hq : S4 = Q4
      rotate_left
      · have HE : Hid (R = L) := Lib.hid (by rw [HR.out, unfr_end (by rw [HF0.out, if_neg hq]), List.append_nil])
        have hcmp : (S4.toList == Q4.toList) = false := by rw [HQ.out]; exact decide_eq_false hq
        clear HR HF0
        have hq := hcmp
        go_wp2_with (first | (go_at_call 178; refine HV.out.mono ?_; rintro e w2 ⟨rfl, rfl⟩) | (go_at_call 62; refine (impl_in _ _ _ _).mono ?_; rintro e3 w3 ⟨rfl, rfl⟩))
        refine wp_region_grown (by kernel_rfl) (by kernel_rfl) ?_
        repeat (go_big_quiet_step (first | (go_at_call 180; with_reducible exact grown_same (impl_SumOf _ T (by omega))) | (go_at_call 179; with_reducible exact grown_call (HVf.out _))))
        refine wpQuiet_nil ?_
        intro w7 hw_
        have hB7 := grown_below hw_
        clear hw_
        go_wp2
        refine bodyPost_ret (v := .tuple #[.slice A L.length c, .int .i64 a]) (by simp [results, Tryz.results131, go_sem, *]) rfl ?_
        exact UfRes.mk (HO.out.later hB7) HE.out rfl
      · have HF : Hid (rdFrame t a = some (T, x + 4 + n)) := Lib.hid (by rw [HF0.out, if_pos hq])
        have hcmp : (S4.toList == Q4.toList) = true := by rw [HQ.out]; exact decide_eq_true hq
        have HN : Hid (R = (L ++ [T]) ++ unfrGo t (f - 1) (x + 4 + n)) := Lib.hid (by
          obtain ⟨f', rfl⟩ : ∃ f', f = f' + 1 := ⟨f - 1, by omega⟩
          rw [HR.out, unfr_more HF.out, List.append_assoc]; rfl)
        clear HR HF0 HF hq
        go_wp2_with (first | (go_at_call 178; refine HV.out.mono ?_; rintro e w2 ⟨rfl, rfl⟩) | (go_at_call 62; refine (impl_in _ _ _ _).mono ?_; rintro e3 w3 ⟨rfl, rfl⟩))
        refine wp_region_grown (by kernel_rfl) (by kernel_rfl) ?_
        repeat (go_big_quiet_step (first | (go_at_call 180; with_reducible exact grown_same (impl_SumOf _ T (by omega))) | (go_at_call 179; with_reducible exact grown_call (HVf.out _))))
        refine wpQuiet_nil ?_
        intro w7 hw_
        have hB7 := grown_below hw_
        clear hw_
        have HO7 := Lib.hid (HO.out.later hB7)
        go_wp2_with (at_builtin; refine wpList_push (α := ByteArray) rfl _ _ rfl rfl rfl (HO7.out.alloc _) rfl rfl (src1 HTm.out rfl rfl) (by omega) ?_; intro A6 c6 w6 o6 z6)
        go_roundw
        case rel => exact ⟨L ++ [T], A6, c6, x + 4 + n, f - 1, by simp, congrArg (Value.int .i64) (by omega), by omega, by omega, by simp; omega, HN, Lib.hid o6⟩
        case measure => simp [intOf]; omega
set_option maxRecDepth 20000 in set_option maxHeartbeats 16000000 in
theorem spec_Unframe (w : World) (t : ByteArray) (ht : t.size ≤ 1048576) : Calls Tryz.prog 123 #[.string t] w (UfRes (unframe t) w) := by
  by_cases hbig : t.size ≤ 20000
  rotate_left
  · have d1 : decide ((20000 : Int) < (t.size : Int)) = true := by rw [decide_eq_true_iff]; omega
    have HE := Lib.hid (unframe_long (t := t) (by omega))
    go_enter Tryz.func123, Tryz.ntmps123
    go_wp2
    refine bodyPost_ret (v := .tuple #[.slice (some ⟨w.heap.size, 0, none⟩) 0 0, .int .i64 0]) (by simp [results, Tryz.results123, go_sem, *]) rfl ?_
    exact UfRes.mk (Own.lit (Below.refl _ _) 9 rfl) HE.out rfl
  have d1 : decide ((20000 : Int) < (t.size : Int)) = false := by rw [decide_eq_false_iff_not]; omega
  have HG := Lib.hid (unframe_go hbig)
  obtain ⟨R, hR⟩ : ∃ R, unframe t = R := ⟨_, rfl⟩
  rw [hR] at HG ⊢
  clear hR
  go_enter Tryz.func123, Tryz.ntmps123
  go_wp2
  go_loopw [4, 5] (fun u i wr => ∃ (L : List ByteArray) (A : Option Addr) (c a f : Nat), u = .slice A L.length c ∧ i = .int .i64 a ∧ a ≤ t.size ∧ t.size < a + f ∧ L.length ≤ a ∧ Hid (R = L ++ unfrGo t f a) ∧ Hid (Own w wr A c L)) (fun _ i _ => t.size - (intOf i).toNat)
  case atStart => exact ⟨[], _, _, 0, t.size + 1, rfl, rfl, Nat.zero_le _, by omega, Nat.le_refl _, HG, Lib.hid ((Own.lit (Below.refl _ _) 9 rfl))⟩
  case round =>
    obtain ⟨L, A, c, a, f, rfl, rfl, ha, hf, hL, HR, HO⟩ := hrel
    clear HG
    have hz := HO.out.size
    by_cases hlt : a < t.size
    rotate_left
    · have HE : Hid (R = L) := Lib.hid (by rw [HR.out, unfr_end (rdFrame_no (by omega)), List.append_nil])
      clear HR
      go_wp2
      refine bodyPost_ret (v := .tuple #[.slice A L.length c, .int .i64 a]) (by simp [results, Tryz.results123, go_sem, *]) rfl ?_
      exact UfRes.mk HO.out HE.out rfl
    have h0 := spec_ReadVar wr t ht a ha
    cases hv : rdVar t a with
    | none =>
      have HE : Hid (R = L) := Lib.hid (by rw [HR.out, unfr_end (rdFrame_bad (fun n x e => by rw [hv] at e; cases e)), List.append_nil])
      rw [hv] at h0
      have HV : Hid (Calls Tryz.prog 172 #[.string t, .int .i64 a] wr fun e w' => e = .returned (.tuple #[.int .i64 0, .int .i64 0, .bool false]) ∧ Below wr.heap.size wr w') := Lib.hid h0
      clear h0 hv HR
      go_wp2_with (go_at_call 172; refine HV.out.mono ?_; rintro e w2 ⟨rfl, hb2⟩)
      refine bodyPost_ret (v := .tuple #[.slice A L.length c, .int .i64 a]) (by simp [results, Tryz.results123, go_sem, *]) rfl ?_
      exact UfRes.mk (HO.out.later hb2) HE.out rfl
    | some q =>
      obtain ⟨n, x⟩ := q
      have h1 := rdVar_some hv
      rw [hv] at h0
      have HV : Hid (Calls Tryz.prog 172 #[.string t, .int .i64 a] wr fun e w' => e = .returned (.tuple #[.int .i64 n, .int .i64 x, .bool true]) ∧ Below wr.heap.size wr w') := Lib.hid h0
      clear h0
      have HNO := Lib.hid (fun (h : ¬ (1 ≤ n ∧ n ≤ 9000 ∧ n + 4 ≤ t.size - x)) => rdFrame_bad (t := t) (a := a) (fun n' x' e => by rw [hv] at e; injection e with e; injection e with e1 e2; subst e1; subst e2; exact h))
      have HSUM := Lib.hid (fun h1 h2 h3 => rdFrame_sum hv h1 h2 h3)
      have HSAME := Lib.hid (fun h3 => frame_same ha hv h3)
      clear hv
      have hws : IntKind.i64.wrap ((t.size : Int) - x) = (t.size : Int) - x := by rw [IntWalk.i64_in] <;> omega
      have hw4 : IntKind.i64.wrap ((n : Int) + 4) = (n : Int) + 4 := by rw [IntWalk.i64_in] <;> omega
      have hws4 : IntKind.i64.wrap ((t.size : Int) - x - 4) = (t.size : Int) - x - 4 := by rw [IntWalk.i64_in] <;> omega
      by_cases h4 : n + 4 ≤ t.size - x
      rotate_left
      · have d2 : decide ((t.size : Int) - (x : Int) - 4 < (n : Int)) = true := by rw [decide_eq_true_iff]; omega
        have HE : Hid (R = L) := Lib.hid (by rw [HR.out, unfr_end (HNO.out (fun h => h4 h.2.2)), List.append_nil])
        clear HR HNO HSUM HSAME
        go_wp2_with (first | (go_at_call 172; refine HV.out.mono ?_; rintro e w2 ⟨rfl, hb2⟩) | (go_at_call 48; refine (spec_in _ _ _ _).mono ?_; rintro e3 w3 ⟨rfl, rfl⟩))
        refine bodyPost_ret (v := .tuple #[.slice A L.length c, .int .i64 a]) (by simp [results, Tryz.results123, go_sem, *]) rfl ?_
        exact UfRes.mk (HO.out.later hb2) HE.out rfl
      have d2 : decide ((t.size : Int) - (x : Int) - 4 < (n : Int)) = false := by rw [decide_eq_false_iff_not]; omega
      have hwx : IntKind.i64.wrap ((x : Int) + 4) = (x : Int) + 4 := by rw [IntWalk.i64_in] <;> omega
      have hwn : IntKind.i64.wrap ((x : Int) + 4 + n) = (x : Int) + 4 + n := by rw [IntWalk.i64_in] <;> omega
      have b1 : (x : Int) + 4 ≤ (x : Int) + 4 + n := by omega
      have b2 : (x : Int) + 4 + n ≤ (t.size : Int) := by omega
      have b3 : (x : Int) ≤ (x : Int) + 4 := by omega
      have b4 : (x : Int) + 4 ≤ (t.size : Int) := by omega
      have b5 : (a : Int) ≤ (x : Int) + 4 + n := by omega
      obtain ⟨T, hT⟩ : ∃ T, t.extract (x + 4) (x + 4 + n) = T := ⟨_, rfl⟩
      have hTz : T.size = n := by rw [← hT, ByteArray.size_extract]; omega
      have HTm : Hid (Flat.ok (α := ByteArray) T) := Lib.hid (show T.size ≤ maxLen by unfold maxLen; omega)
      rw [hT] at HSUM HSAME
      obtain ⟨E4, hE4⟩ : ∃ E, t.extract a (x + 4 + n) = E := ⟨_, rfl⟩
      have HFr := Lib.hid (fun W => spec_Frame W T (by omega))
      obtain ⟨Q4, hQ4⟩ : ∃ Q, frameT T = Q := ⟨_, rfl⟩
      have HSM : Hid (Q4 = E4 ↔ t.extract x (x + 4) = fourB (sumOf T)) := Lib.hid (by rw [← hQ4, ← hE4]; exact HSAME.out h4)
      rw [hQ4] at HFr
      have HQ := Lib.hid (str_dec Q4 E4)
      have hTi : inB (T.size : Int) 1 9000 = inB (n : Int) 1 9000 := by rw [hTz]
      cases hin : inB (n : Int) 1 9000
      · have hnn : ¬ (1 ≤ n ∧ n ≤ 9000) := by
          intro hh; unfold inB at hin; rw [decide_eq_false_iff_not] at hin; omega
        have HE : Hid (R = L) := Lib.hid (by rw [HR.out, unfr_end (HNO.out (fun h => hnn ⟨h.1, h.2.1⟩)), List.append_nil])
        rw [hTi, hin] at HFr
        have HFr2 : Hid (∀ W, Calls Tryz.prog 173 #[.string T] W fun e w' => e = .returned (.tuple #[.string ⟨#[]⟩, .bool false]) ∧ Below W.heap.size W w') := Lib.hid (fun W => HFr.out W)
        clear HR HNO HSUM HSAME HSM hQ4 HFr hnn hTi
        go_wp2_with (first | (go_at_call 172; refine HV.out.mono ?_; rintro e w2 ⟨rfl, hb2⟩) | (go_at_call 173; refine (HFr2.out _).mono ?_; rintro e3 w3 ⟨rfl, hb3⟩))
        refine bodyPost_ret (v := .tuple #[.slice A L.length c, .int .i64 a]) (by simp [results, Tryz.results123, go_sem, *]) rfl ?_
        exact UfRes.mk ((HO.out.later hb2).later hb3) HE.out rfl
      have hnn : 1 ≤ n ∧ n ≤ 9000 := by unfold inB at hin; rw [decide_eq_true_iff] at hin; omega
      rw [hTi, hin] at HFr
      have HFr2 : Hid (∀ W, Calls Tryz.prog 173 #[.string T] W fun e w' => e = .returned (.tuple #[.string Q4, .bool true]) ∧ Below W.heap.size W w') := Lib.hid (fun W => HFr.out W)
      have HF0 := Lib.hid (HSUM.out hnn.1 hnn.2 h4)
      clear HSUM HSAME HNO hQ4 HFr hTi hin
      by_cases hq : Q4 = E4
      rotate_left
      · have HE : Hid (R = L) := Lib.hid (by rw [HR.out, unfr_end (by rw [HF0.out, if_neg (fun hh => hq (HSM.out.2 hh))]), List.append_nil])
        have hcmp : (Q4.toList == E4.toList) = false := by rw [HQ.out]; exact decide_eq_false hq
        clear HR HF0 HSM
        have hq := hcmp
        go_wp2_with (first | (go_at_call 172; refine HV.out.mono ?_; rintro e w2 ⟨rfl, hb2⟩) | (go_at_call 173; refine (HFr2.out _).mono ?_; rintro e3 w3 ⟨rfl, hb3⟩))
        refine bodyPost_ret (v := .tuple #[.slice A L.length c, .int .i64 a]) (by simp [results, Tryz.results123, go_sem, *]) rfl ?_
        exact UfRes.mk ((HO.out.later hb2).later hb3) HE.out rfl
      · have HF : Hid (rdFrame t a = some (T, x + 4 + n)) := Lib.hid (by rw [HF0.out, if_pos (HSM.out.1 hq)])
        have hcmp : (Q4.toList == E4.toList) = true := by rw [HQ.out]; exact decide_eq_true hq
        have HN : Hid (R = (L ++ [T]) ++ unfrGo t (f - 1) (x + 4 + n)) := Lib.hid (by
          obtain ⟨f', rfl⟩ : ∃ f', f = f' + 1 := ⟨f - 1, by omega⟩
          rw [HR.out, unfr_more HF.out, List.append_assoc]; rfl)
        clear HR HF0 HF hq HSM
        go_wp2_with (first | (go_at_call 172; refine HV.out.mono ?_; rintro e w2 ⟨rfl, hb2⟩) | (go_at_call 173; refine (HFr2.out _).mono ?_; rintro e3 w3 ⟨rfl, hb3⟩) | (at_builtin; refine wpList_push (α := ByteArray) rfl _ _ rfl rfl rfl (((HO.out.later hb2).later hb3).alloc _) rfl rfl (src1 HTm.out rfl rfl) (by omega) ?_; intro A6 c6 w6 o6 z6))
        go_roundw
        case rel => exact ⟨L ++ [T], A6, c6, x + 4 + n, f - 1, by simp, congrArg (Value.int .i64) (by omega), by omega, by omega, by simp; omega, HN, Lib.hid o6⟩
        case measure => simp [intOf]; omega
end Go.Proofs.YtlfnmbcnehaikaaGreatDoor
