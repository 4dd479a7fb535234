/- A list with its indexes: the program's walk. -/
import Derived.Test.YtojbehmbeoemgaaDoorKNe
import Derived.Deep.RegionLaw
import Derived.Deep.AppendLies
import Derived.StillTailTactics
set_option linter.unusedVariables false
set_option linter.unusedSimpArgs false
namespace Go.Proofs.YtojbehmbeoemgaaDoor
open Go.RowKit Lay Mk
def GroveRes (xs : List Leaf) (A : Option Addr) (cap : Nat) (n : Int) (w : World) (e : Ending) (w' : World) : Prop := ∃ A2 c2, e = .returned (.agg #[.slice A xs.length cap, .slice A2 xs.length c2, .int .i64 n]) ∧ Own w w' A2 c2 (ixs xs)
theorem ixs_snoc {xs : List Leaf} {k : Nat} (h : k < xs.length) : ixs (xs.take (k + 1)) = ixs (xs.take k) ++ [(indexOf xs[k].name : Int)] := by
  unfold ixs; rw [List.take_succ_eq_append_getElem h, List.map_append]; rfl
set_option maxRecDepth 20000 in set_option maxHeartbeats 16000000 in
theorem impl_newGrove (w : World) (xs : List Leaf) (A : Option Addr) (cap : Nat) (S : Blks) (hx : Row false w A cap xs S) (hl : xs.length ≤ 1048576) (hz : szL xs ≤ 1048576) (n : Int) (hT : Tabs w) : Calls Tryd.prog 70 #[.slice A xs.length cap, .int .i64 n] w (GroveRes xs A cap n w) := by
  have HT := Lib.hid hT
  clear hT
  have hWd : ∀ W, W = (w.alloc (.cells #[.slice none 0 0, .slice none 0 0, .int .i64 0] 103)).alloc (.cells #[.slice A xs.length cap, .slice none 0 0, .int .i64 n] 103) → Below w.heap.size w W ∧ W.heap.size = w.heap.size + 2 ∧ (∀ o, W.frozen? ⟨w.heap.size, o, none⟩ = false) ∧ (∀ o, W.frozen? ⟨w.heap.size + 1, o, none⟩ = false) ∧ W.cell? ⟨w.heap.size, 0, none⟩ = some (.slice none 0 0) ∧ W.cell? ⟨w.heap.size, 1, none⟩ = some (.slice none 0 0) ∧ W.cell? ⟨w.heap.size, 2, none⟩ = some (.int .i64 0) ∧ W.cell? ⟨w.heap.size + 1, 0, none⟩ = some (.slice A xs.length cap) ∧ W.cell? ⟨w.heap.size + 1, 1, none⟩ = some (.slice none 0 0) ∧ W.cell? ⟨w.heap.size + 1, 2, none⟩ = some (.int .i64 n) := by
    rintro W rfl
    refine ⟨((Below.refl _ _).alloc (Nat.le_refl _) _).alloc (by simp) _, by simp, fun o => by simp, fun o => by simp, ?_⟩
    refine ⟨by simp, by simp, by simp, by simp, by simp, by simp⟩
  go_enter Tryd.func70, Tryd.ntmps70
  go_wp2_with (fail)
  obtain ⟨W, hW⟩ : ∃ W, (w.alloc (.cells #[.slice none 0 0, .slice none 0 0, .int .i64 0] 103)).alloc (.cells #[.slice A xs.length cap, .slice none 0 0, .int .i64 n] 103) = W := ⟨_, rfl⟩
  rw [hW]
  obtain ⟨hBW, hWs, zf, gf, z0, z1, z2, g0, g1, g2⟩ := hWd W hW.symm
  clear hW hWd
  have hWl : w.heap.size + 2 ≤ W.heap.size := by omega
  clear hWs
  go_loopw [13] (fun i wr => ∃ (k : Nat) (A2 : Option Addr) (c : Nat), k ≤ xs.length ∧ i = .int .i64 k ∧ Hid (Row true wr A2 c (ixs (xs.take k)) (nw (w.heap.size + 2))) ∧ Hid (k ≤ c ∧ c ≤ maxLen) ∧ Hid (Below w.heap.size w wr) ∧ w.heap.size + 2 ≤ wr.heap.size ∧ Hid (∀ o, wr.frozen? ⟨w.heap.size, o, none⟩ = false) ∧ (∀ o, wr.frozen? ⟨w.heap.size + 1, o, none⟩ = false) ∧ Hid (wr.cell? ⟨w.heap.size, 0, none⟩ = some (.slice none 0 0) ∧ wr.cell? ⟨w.heap.size, 1, none⟩ = some (.slice none 0 0) ∧ wr.cell? ⟨w.heap.size, 2, none⟩ = some (.int .i64 0)) ∧ wr.cell? ⟨w.heap.size + 1, 0, none⟩ = some (.slice A xs.length cap) ∧ wr.cell? ⟨w.heap.size + 1, 1, none⟩ = some (.slice A2 k c) ∧ wr.cell? ⟨w.heap.size + 1, 2, none⟩ = some (.int .i64 n)) (fun i _ => xs.length - (intOf i).toNat)
  case atStart => exact ⟨0, none, 0, Nat.zero_le _, rfl, Lib.hid (row_nil _ _), Lib.hid ⟨Nat.le_refl _, by decide⟩, Lib.hid hBW, hWl, Lib.hid zf, gf, Lib.hid ⟨z0, z1, z2⟩, g0, g1, g2⟩
  case round =>
    clear zf gf z0 z1 z2 g0 g1 g2 hBW hWl
    obtain ⟨k, A2, c, hk, rfl, HR, HC, HB, hzr, ZF, gf, ZZ, g0, g1, g2⟩ := hrel
    by_cases hlt : k < xs.length
    · obtain ⟨b1, o1, rfl, hl1, e0, e1, s0, s1⟩ := Row.atLeaf hx hlt
      replace e0 := (HB.out.cell (p := ⟨b1, o1 + k * 2, none⟩) hl1).trans e0
      replace e1 := (HB.out.cell (p := ⟨b1, o1 + k * 2 + 1, none⟩) hl1).trans e1
      have HN := Lib.hid (ixs_snoc hlt)
      have hsz := leaf_size hlt hz
      obtain ⟨x, hx'⟩ : ∃ x, xs[k] = x := ⟨_, rfl⟩
      rw [hx'] at e0 e1 HN hsz
      clear hx' s0 s1
      have hlb : b1 < wr.heap.size := Nat.lt_of_lt_of_le hl1 HB.out.size
      have hbw : b1 < w.heap.size := hl1
      have hlw : w.heap.size ≤ wr.heap.size := by omega
      have hlen : (ixs (xs.take k)).length = k := by rw [ixs_len, List.length_take]; omega
      have HLN := Lib.hid hlen
      clear hlen
      go_wp2_with (fail)
      obtain ⟨V, hV⟩ : ∃ V, wr.alloc (.cells #[.string x.name, .string x.value] 110) = V := ⟨_, rfl⟩
      have hVB : Below wr.heap.size wr V := by rw [← hV]; exact (Below.refl _ _).alloc (Nat.le_refl _) _
      have hVs : wr.heap.size < V.heap.size := by rw [← hV]; simp
      have x0 : V.cell? ⟨wr.heap.size, 0, none⟩ = some (.string x.name) := by rw [← hV]; exact box_cell _ _ _ _ _ rfl
      rw [hV]
      clear hV
      replace g0 := (hVB.cell (p := ⟨w.heap.size + 1, 0, none⟩) (by show w.heap.size + 1 < _; omega)).trans g0
      replace g1 := (hVB.cell (p := ⟨w.heap.size + 1, 1, none⟩) (by show w.heap.size + 1 < _; omega)).trans g1
      replace g2 := (hVB.cell (p := ⟨w.heap.size + 1, 2, none⟩) (by show w.heap.size + 1 < _; omega)).trans g2
      replace gf := fun o => (hVB.frozen (p := ⟨w.heap.size + 1, o, none⟩) (by show w.heap.size + 1 < _; omega)).trans (gf o)
      have HR1 := Lib.hid (Row.later HR.out hVB)
      have HB1 := Lib.hid (HB.out.trans (hVB.mono hlw))
      have hzV : w.heap.size + 2 ≤ V.heap.size := by omega
      have HIX := Lib.hid (fun W' (h : Below V.heap.size V W') => impl_IndexOf W' x.name (by omega) (HT.out.later (HB1.out.trans (h.mono (by omega)))))
      have ZF1 := Lib.hid (fun o => (hVB.frozen (p := ⟨w.heap.size, o, none⟩) (by show w.heap.size < _; omega)).trans (ZF.out o))
      have ZZ1 := Lib.hid (And.intro ((hVB.cell (p := ⟨w.heap.size, 0, none⟩) (by show w.heap.size < _; omega)).trans ZZ.out.1) (And.intro ((hVB.cell (p := ⟨w.heap.size, 1, none⟩) (by show w.heap.size < _; omega)).trans ZZ.out.2.1) ((hVB.cell (p := ⟨w.heap.size, 2, none⟩) (by show w.heap.size < _; omega)).trans ZZ.out.2.2)))
      clear hVB e0 e1
      have hok : Flat.ok (indexOf x.name : Int) := (show I64 _ from by have := indexOf_lt x.name; unfold I64; omega)
      obtain ⟨ix, hix⟩ : ∃ ix, indexOf x.name = ix := ⟨_, rfl⟩
      rw [hix] at HIX HN hok
      clear hix
      go_region_law (first | (go_simp; go_at_call 62; refine (HIX.out _ (by first | exact Below.refl _ _ | exact (Below.refl _ _).drew)).mono ?_; rintro e5 w5 ⟨rfl, hb5⟩; have hV5 : Below V.heap.size V w5 := (by first | exact hb5 | exact Below.viad hb5); have hs5 := hV5.size; have hlg5 : w.heap.size + 1 < w5.heap.size := (by omega); have HR5 := Lib.hid (Row.later HR1.out hV5); have g15 := (hV5.cell (p := ⟨w.heap.size + 1, 1, none⟩) (by show w.heap.size + 1 < _; omega)).trans g1; clear hb5) | (refine step_app (α := Int) rfl _ _ rfl rfl HLN.out.symm (HR5.out.allocC _) HC.out.1 HC.out.2 rfl rfl (src1 hok (by first | rfl | simp) rfl) (disj_none_ _) (by omega) ?_; intro A6 c6 w6 h1 h2 h3 h4; have hV6 : Below (w.heap.size + 2) V w6 := (((hV5.mono hzV).alloc (by omega) _).trans (h4.to_below (by simp; omega) (fun b hb => hb))); have hs6 := h4.size; rw [World.size_alloc] at hs6; have hlg6 : w.heap.size + 1 < w6.heap.size := (by omega); have g06 := (hV6.cell (p := ⟨w.heap.size + 1, 0, none⟩) (by show w.heap.size + 1 < _; omega)).trans g0; have g16 := (hV6.cell (p := ⟨w.heap.size + 1, 1, none⟩) (by show w.heap.size + 1 < _; omega)).trans g1; have g26 := (hV6.cell (p := ⟨w.heap.size + 1, 2, none⟩) (by show w.heap.size + 1 < _; omega)).trans g2; have gf6 := fun o => (hV6.frozen (p := ⟨w.heap.size + 1, o, none⟩) (by show w.heap.size + 1 < _; omega)).trans (gf o); have HK6 := Lib.hid (And.intro h1 (And.intro h2 h3)); clear h1 h2 h3 h4 HR5))
      all_goals
        have hN2 : Row true w6 A6 c6 (ixs (xs.take (k + 1))) (nw (w.heap.size + 2)) := by
          rw [HN.out]
          exact row_og HK6.out.2.2 (fun b hb => by show w.heap.size + 2 ≤ b; rw [World.size_alloc] at hb; omega)
        have HNR := Lib.hid hN2
        have HB6 := Lib.hid (HB1.out.trans (hV6.mono (by omega)))
        have HV6 := Lib.hid hV6
        have HW1 := Lib.hid (World.cell?_setCell_same w6 ⟨w.heap.size + 1, 1, none⟩ (.slice A6 (k + 1) c6) g16)
        clear hN2 HN hV6 HR1 hV5 HIX x0
        go_wp2
        go_roundw
        case rel => exact ⟨k + 1, A6, c6, hlt, by go_num, Lib.hid (HNR.out.setC (by show ¬ (w.heap.size + 2 ≤ w.heap.size + 1); omega) _), Lib.hid ⟨HK6.out.1, HK6.out.2.1⟩, Lib.hid (Below.setCell HB6.out (by show w.heap.size ≤ w.heap.size + 1; omega) _), by simp; omega, Lib.hid (fun o => by simpa using (HV6.out.frozen (p := ⟨w.heap.size, o, none⟩) (by show w.heap.size < _; omega)).trans (ZF1.out o)), fun o => by simpa using gf6 o, Lib.hid ⟨(World.cell?_setCell_other _ _ _ _ (by intro h; injection h with h1 h2 h3; omega)).trans ((HV6.out.cell (p := ⟨w.heap.size, 0, none⟩) (by show w.heap.size < _; omega)).trans ZZ1.out.1), (World.cell?_setCell_other _ _ _ _ (by intro h; injection h with h1 h2 h3; omega)).trans ((HV6.out.cell (p := ⟨w.heap.size, 1, none⟩) (by show w.heap.size < _; omega)).trans ZZ1.out.2.1), (World.cell?_setCell_other _ _ _ _ (by intro h; injection h with h1 h2 h3; omega)).trans ((HV6.out.cell (p := ⟨w.heap.size, 2, none⟩) (by show w.heap.size < _; omega)).trans ZZ1.out.2.2)⟩, (World.cell?_setCell_other _ _ _ _ (by intro h; injection h with h1 h2 h3; omega)).trans g06, HW1.out, (World.cell?_setCell_other _ _ _ _ (by intro h; injection h with h1 h2 h3; omega)).trans g26⟩
        case measure => simp [intOf]; omega
    · have hke : k = xs.length := by omega
      subst hke
      have hR2 : Row true wr A2 c (ixs xs) (nw (w.heap.size + 2)) := by have h9 := HR.out; rwa [List.take_of_length_le (Nat.le_refl _)] at h9
      have HR2 := Lib.hid hR2
      have HB2 := Lib.hid HB.out
      have hlg : w.heap.size < wr.heap.size := by omega
      obtain ⟨z0, z1, z2⟩ := ZZ.out
      have zf := ZF.out
      clear hR2 HR ZF ZZ
      go_wp2
      refine bodyPost_ret (v := .agg #[.slice A xs.length cap, .slice A2 xs.length c, .int .i64 n]) (by simp [results, Tryd.results70, go_sem, *]) rfl ?_
      have hns : ∀ o : Nat, ¬ nw (w.heap.size + 2) (⟨w.heap.size, o, none⟩ : Addr).block := fun o => by show ¬ (w.heap.size + 2 ≤ w.heap.size); omega
      exact ⟨A2, c, rfl, ⟨(((HR2.out.setC (hns 0) _).setC (hns 1) _).setC (hns 2) _).mono (fun b hb => Nat.le_trans (Nat.le_add_right _ 2) hb), by rw [ixs_len]; exact HC.out.1, HC.out.2, Below.setCell (Below.setCell (Below.setCell HB2.out (Nat.le_refl _) _) (Nat.le_refl _) _) (Nat.le_refl _) _⟩⟩
end Go.Proofs.YtojbehmbeoemgaaDoor
