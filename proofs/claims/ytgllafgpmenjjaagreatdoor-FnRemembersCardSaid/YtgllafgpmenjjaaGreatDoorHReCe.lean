/- A part of the proof: what the laws need of it. -/
import Derived.Deep.RegionHeld3
import Derived.Deep.RegionLaw
import Derived.Deep.DeepCutAuto
import Derived.Test.YtgllafgpmenjjaaGreatDoorHReL13xDc
import Derived.Test.YtgllafgpmenjjaaGreatDoorHReHp
set_option linter.unusedVariables false
set_option linter.unusedSimpArgs false
set_option linter.unusedVariables false
set_option linter.unusedSimpArgs false
namespace Go.Proofs.YtgllafgpmenjjaaGreatDoor
open Go.RowKit Lay Mk
theorem frozen_new (w : World) (cs : Array Value) (t : TypeId) (o : Nat) : (w.alloc (.cells cs t)).frozen? ⟨w.heap.size, o, none⟩ = false := by simp
structure HearCut (W wx : World) (ob : Nat) (hs : Int) (A : Option Addr) (c : Nat) (L : List Head) : Prop where
  bl : Below W.heap.size W wx
  lo : W.heap.size ≤ ob
  lt : ob < wx.heap.size
  h0 : wx.cell? ⟨ob, 0, none⟩ = some (.int .i64 hs)
  h1 : wx.cell? ⟨ob, 1, none⟩ = some (.slice A L.length c)
  fz : ∀ o, wx.frozen? ⟨ob, o, none⟩ = false
  row : Row true wx A c L (fun b => W.heap.size ≤ b ∧ b ≠ ob)
  le : L.length ≤ c
  cm : c ≤ maxLen
theorem HearCut.last {W w5 : World} {hs : Int} {A : Option Addr} {c n : Nat} {L : List Head} (own : Own W.drew w5 A c L) (hn : n = L.length) (t : TypeId) : HearCut W (w5.alloc (.cells #[.int .i64 hs, .slice A n c] t)) w5.heap.size hs A c L := by
  subst hn
  have hs5 : W.heap.size ≤ w5.heap.size := own.size
  refine ⟨(Below.viad own.bl).alloc hs5 _, hs5, by simp, box_cell _ _ _ _ _ rfl, box_cell _ _ _ _ _ rfl, fun o => frozen_new _ _ _ o, ?_, own.le, own.cm⟩
  exact (own.rng.allocC _).mono (fun b h => ⟨h.1, by have := h.2; omega⟩)
theorem HearCut.ret {w W wx w' : World} {ob : Nat} {hs : Int} {A : Option Addr} {c : Nat} {L : List Head} (h : HearCut W wx ob hs A c L) (hw : Below w.heap.size w W) (hb : Below wx.heap.size wx w') {r : Nat} (h1 : w.heap.size ≤ r) (h2 : r < W.heap.size) (u v : Value) : Own w ((w'.setCell ⟨r, 0, none⟩ u).setCell ⟨r, 1, none⟩ v) A c L := by
  have hq : ∀ o : Nat, ¬ (fun b => W.heap.size ≤ b ∧ b ≠ ob) (⟨r, o, none⟩ : Addr).block := fun o h => by have h1 : W.heap.size ≤ r := h.1; omega
  exact ⟨(((Row.later h.row hb).setC (hq 0) _).setC (hq 1) _).mono (fun b h => Nat.le_trans hw.size h.1), h.le, h.cm, Below.setCell (Below.setCell ((hw.trans (h.bl.mono hw.size)).trans (hb.mono (Nat.le_trans hw.size h.bl.size))) h1 _) h1 _⟩
theorem own_three {w wr w10 w' : World} {A : Option Addr} {c : Nat} {L : List Head} (own : Own wr w10 A c L) (hb : Below w10.heap.size w10 w') (hw : Below w.heap.size w wr) {ob r : Nat} (h1 : w.heap.size ≤ ob) (h2 : ob < wr.heap.size) (h3 : w.heap.size ≤ r) (h4 : r < wr.heap.size) (x u v : Value) :
    Own w (((w'.setCell ⟨ob, 1, none⟩ x).setCell ⟨r, 0, none⟩ u).setCell ⟨r, 1, none⟩ v) A c L := by
  have hq : ∀ (q o : Nat), q < wr.heap.size → ¬ nw wr.heap.size (⟨q, o, none⟩ : Addr).block := fun q o hq h => by have h1 : wr.heap.size ≤ q := h; omega
  exact ⟨((((Row.later own.row hb).setC (hq ob 1 h2) _).setC (hq r 0 h4) _).setC (hq r 1 h4) _).mono (fun b h => Nat.le_trans hw.size h), own.le, own.cm, Below.setCell (Below.setCell (Below.setCell ((hw.trans (own.bl.mono hw.size)).trans (hb.mono (Nat.le_trans hw.size own.bl.size))) h1 _) h3 _) h3 _⟩
theorem HearCut.first {W w5 : World} {z : Obj} {hs : Int} {A : Option Addr} {c n : Nat} {L : List Head} (own : Own (W.drew.alloc z) w5 A c L) (hn : n = L.length) {v0 v1 : Value} (y0 : w5.cell? ⟨W.heap.size, 0, none⟩ = some v0) (y1 : w5.cell? ⟨W.heap.size, 1, none⟩ = some v1) (yf : ∀ o, w5.frozen? ⟨W.heap.size, o, none⟩ = false) :
    HearCut W ((w5.setCell ⟨W.heap.size, 0, none⟩ (.int .i64 hs)).setCell ⟨W.heap.size, 1, none⟩ (.slice A n c)) W.heap.size hs A c L := by
  subst hn
  have hs5 : W.heap.size + 1 ≤ w5.heap.size := by have := own.size; simpa using this
  have hne : (⟨W.heap.size, 1, none⟩ : Addr) ≠ ⟨W.heap.size, 0, none⟩ := by intro h; injection h with h1 h2 h3; omega
  have hne2 : (⟨W.heap.size, 0, none⟩ : Addr) ≠ ⟨W.heap.size, 1, none⟩ := fun h => hne h.symm
  have hb : Below W.heap.size W w5 := (((Below.refl _ _).drew).alloc (Nat.le_refl _) _).trans (own.bl.mono (by rw [World.size_alloc]; exact Nat.le_succ _))
  have hq : ∀ o : Nat, ¬ nw (W.drew.alloc z).heap.size (⟨W.heap.size, o, none⟩ : Addr).block := fun o h => by have h1 : (W.drew.alloc z).heap.size ≤ W.heap.size := h; rw [World.size_alloc] at h1; have h2 : W.drew.heap.size = W.heap.size := rfl; omega
  refine ⟨Below.setCell (Below.setCell hb (Nat.le_refl _) _) (Nat.le_refl _) _, Nat.le_refl _, by simp; omega, ?_, ?_, fun o => by simpa using yf o, ?_, own.le, own.cm⟩
  · exact (World.cell?_setCell_other _ _ _ _ hne).trans (World.cell?_setCell_same _ _ _ y0)
  · exact World.cell?_setCell_same _ _ _ ((World.cell?_setCell_other _ _ _ _ hne2).trans y1)
  · refine ((own.row.setC (hq 0) _).setC (hq 1) _).mono (fun b h => ?_)
    have h1 : (W.drew.alloc z).heap.size ≤ b := h
    rw [World.size_alloc] at h1
    have h2 : W.drew.heap.size = W.heap.size := rfl
    exact ⟨by omega, by omega⟩
set_option maxRecDepth 20000 in set_option maxHeartbeats 16000000 in
theorem impl_ClientHear (w : World) (c : Client) (cc : List Value) (Sc : Blks) (hc : rd false w cc c Sc) (hzc : c.sz ≤ 1048576) (t : Trust) (ct : List Value) (St : Blks) (ht : rd false w ct t St) (hzt : t.sz ≤ 1048576) (links : List Seal) (AL : Option Addr) (kL : Nat) (SL : Blks) (hL : Row false w AL kL links SL) (lL : links.length ≤ kL) (mL : kL ≤ maxLen) (zL : szL links ≤ 1048576) (name : ByteArray) (hn : name.size ≤ 1048576) (x : Whole) (cx : List Value) (Sx : Blks) (hx : rd false w cx x Sx) (hzx : x.sz ≤ 1048576) (hT : Tabs w) : Calls Tryz.prog 15 #[.agg cc.toArray, .agg ct.toArray, .slice AL links.length kL, .string name, .agg cx.toArray] w (ChRes (clientHear c t links name x) w) := by
  have HT := Lib.hid hT
  clear hT
  obtain ⟨hs, L⟩ := c
  have hcl := client_sz hzc
  have hll : links.length ≤ 1048576 := by have := szT_le links 0; omega
  obtain ⟨C0, q0, SC, rfl, hci, -, -, rC, -⟩ := Client.open hc
  simp only at hcl hci rC
  have HT1 := Lib.hid ht
  have HX1 := Lib.hid hx
  obtain ⟨A0, k0, ST, rfl, -, -, -, -, rT, -⟩ := Trust.open ht
  obtain ⟨B0, j0, U0, B1, j1, U1, B2, j2, U2, B3, j3, U3, B4, j4, U4, B5, j5, U5, B6, j6, U6, rfl, -, hie, -⟩ := Whole.open hx
  clear hc ht hx
  simp only [Trust.cs, Client.cs, Whole.cs] at HT1 HX1 ⊢
  have HVE := Lib.hid (fun W (h : Below w.heap.size w W) => impl_Verify W t _ St (Lay.later HT1.out h) hzt hs hci name hn x.seal_.head.epoch hie x _ Sx (Lay.later HX1.out h) (whole_sz hzx) (HT.out.later h))
  have HVI := Lib.hid (fun h => ver_in (t := t) (house := hs) (name := name) (epoch := x.seal_.head.epoch) (x := x) h)
  have HC1 := Lib.hid (fun h => ch_1 (c := ⟨hs, L⟩) (t := t) (links := links) (name := name) (x := x) h)
  have HC2 := Lib.hid (fun h m hm hl h5 => ch_2 (c := ⟨hs, L⟩) (t := t) (links := links) (name := name) (x := x) h (m := m) hm hl h5)
  have HC3 := Lib.hid (fun h m hm hl h5 => ch_3 (c := ⟨hs, L⟩) (t := t) (links := links) (name := name) (x := x) h (m := m) hm hl h5)
  have HC4 := Lib.hid (fun h hl h5 => ch_4 (c := ⟨hs, L⟩) (t := t) (links := links) (name := name) (x := x) h hl h5)
  have HC5 := Lib.hid (fun h hl h5 => ch_5 (c := ⟨hs, L⟩) (t := t) (links := links) (name := name) (x := x) h hl h5)
  have HLB := Lib.hid (fun root k hk hb => lk_bad (root := root) (c := ⟨hs, L⟩) (links := links) (h := x.seal_.head) (k := k) hk hb)
  have HLA := Lib.hid (fun root ha => lk_all (root := root) (c := ⟨hs, L⟩) (links := links) (h := x.seal_.head) ha)
  obtain ⟨R, hR⟩ : ∃ R, clientHear ⟨hs, L⟩ t links name x = R := ⟨_, rfl⟩
  rw [hR] at HC1 HC2 HC3 HC4 HC5 ⊢
  obtain ⟨v, hv⟩ : ∃ v, verify t hs name x.seal_.head.epoch x = v := ⟨_, rfl⟩
  rw [hv] at HVE HVI HC1 HC2 HC3 HC4 HC5
  obtain ⟨v1, v2, v3⟩ := v
  simp only at HVI HC1 HC2 HC3 HC4 HC5
  clear hR hv
  obtain ⟨hd, hhd⟩ : ∃ h, x.seal_.head = h := ⟨_, rfl⟩
  simp only [hhd] at HVE HVI HC2 HC3 HC4 HC5 HLB HLA hie ⊢
  clear hhd
  obtain ⟨hh, ep, hr, hp⟩ := hd
  have HSM : Hid (∀ y : Head, sameHd y ⟨hh, ep, hr, hp⟩ = (decide (y.house = hh) && decide (y.epoch = ep) && decide (y.root = hr) && decide (y.prev = hp))) := Lib.hid (fun _ => rfl)
  simp only at HVE HVI HC2 HC3 HC4 HC5 hie
  have hWd : ∀ W, W = (((w.alloc (.cells #[.int .i64 hs, .slice C0 L.length q0] 47)).alloc (.cells #[.slice A0 t.roots.length k0, .int .i64 t.k, .int .i64 t.need] 51)).alloc (.cells #[.slice B0 x.proof.bucket.length j0, .slice B1 x.proof.sides.length j1, .slice B2 x.tops.length j2, .int .i64 hh, .int .i64 ep, .string hr, .string hp, .int .i64 x.seal_.sig.at_, .slice B3 x.seal_.sig.open_.length j3, .slice B4 x.seal_.sig.shut.length j4, .slice B5 x.seal_.sig.sides.length j5, .slice B6 x.stamps.length j6] 64)).alloc (.cells #[.int .i64 0, .slice none 0 0] 47) → Below w.heap.size w W ∧ W.heap.size = w.heap.size + 4 ∧ (∀ o, W.frozen? ⟨w.heap.size + 1 + 1 + 1, o, none⟩ = false) ∧ W.cell? ⟨w.heap.size, 0, none⟩ = some (.int .i64 hs) ∧ W.cell? ⟨w.heap.size, 1, none⟩ = some (.slice C0 L.length q0) ∧ W.cell? ⟨w.heap.size + 1, 0, none⟩ = some (.slice A0 t.roots.length k0) ∧ W.cell? ⟨w.heap.size + 1, 1, none⟩ = some (.int .i64 t.k) ∧ W.cell? ⟨w.heap.size + 1, 2, none⟩ = some (.int .i64 t.need) ∧ W.cell? ⟨w.heap.size + 1 + 1, 0, none⟩ = some (.slice B0 x.proof.bucket.length j0) ∧ W.cell? ⟨w.heap.size + 1 + 1, 1, none⟩ = some (.slice B1 x.proof.sides.length j1) ∧ W.cell? ⟨w.heap.size + 1 + 1, 2, none⟩ = some (.slice B2 x.tops.length j2) ∧ W.cell? ⟨w.heap.size + 1 + 1, 3, none⟩ = some (.int .i64 hh) ∧ W.cell? ⟨w.heap.size + 1 + 1, 4, none⟩ = some (.int .i64 ep) ∧ W.cell? ⟨w.heap.size + 1 + 1, 5, none⟩ = some (.string hr) ∧ W.cell? ⟨w.heap.size + 1 + 1, 6, none⟩ = some (.string hp) ∧ W.cell? ⟨w.heap.size + 1 + 1, 7, none⟩ = some (.int .i64 x.seal_.sig.at_) ∧ W.cell? ⟨w.heap.size + 1 + 1, 8, none⟩ = some (.slice B3 x.seal_.sig.open_.length j3) ∧ W.cell? ⟨w.heap.size + 1 + 1, 9, none⟩ = some (.slice B4 x.seal_.sig.shut.length j4) ∧ W.cell? ⟨w.heap.size + 1 + 1, 10, none⟩ = some (.slice B5 x.seal_.sig.sides.length j5) ∧ W.cell? ⟨w.heap.size + 1 + 1, 11, none⟩ = some (.slice B6 x.stamps.length j6) ∧ W.cell? ⟨w.heap.size + 1 + 1 + 1, 0, none⟩ = some (.int .i64 0) ∧ W.cell? ⟨w.heap.size + 1 + 1 + 1, 1, none⟩ = some (.slice none 0 0) := by
    rintro W rfl
    have e1 : w.heap.size + 1 = (w.alloc (.cells #[.int .i64 hs, .slice C0 L.length q0] 47)).heap.size := by simp
    have e2 : w.heap.size + 1 + 1 = ((w.alloc (.cells #[.int .i64 hs, .slice C0 L.length q0] 47)).alloc (.cells #[.slice A0 t.roots.length k0, .int .i64 t.k, .int .i64 t.need] 51)).heap.size := by simp
    have e3 : w.heap.size + 1 + 1 + 1 = (((w.alloc (.cells #[.int .i64 hs, .slice C0 L.length q0] 47)).alloc (.cells #[.slice A0 t.roots.length k0, .int .i64 t.k, .int .i64 t.need] 51)).alloc (.cells #[.slice B0 x.proof.bucket.length j0, .slice B1 x.proof.sides.length j1, .slice B2 x.tops.length j2, .int .i64 hh, .int .i64 ep, .string hr, .string hp, .int .i64 x.seal_.sig.at_, .slice B3 x.seal_.sig.open_.length j3, .slice B4 x.seal_.sig.shut.length j4, .slice B5 x.seal_.sig.sides.length j5, .slice B6 x.stamps.length j6] 64)).heap.size := by simp
    refine ⟨(((((Below.refl _ _).alloc (Nat.le_refl _) _).alloc (by simp) _).alloc (by simp; omega) _).alloc (by simp; omega) _), by simp, fun o => by rw [e3]; exact frozen_new _ _ _ _, ?_⟩
    refine ⟨cell_alloc (cell_alloc (cell_alloc (box_cell _ _ _ _ _ rfl))), cell_alloc (cell_alloc (cell_alloc (box_cell _ _ _ _ _ rfl))), cell_alloc (cell_alloc (by rw [e1]; exact box_cell _ _ _ _ _ rfl)), cell_alloc (cell_alloc (by rw [e1]; exact box_cell _ _ _ _ _ rfl)), cell_alloc (cell_alloc (by rw [e1]; exact box_cell _ _ _ _ _ rfl)), cell_alloc (by rw [e2]; exact box_cell _ _ _ _ _ rfl), cell_alloc (by rw [e2]; exact box_cell _ _ _ _ _ rfl), cell_alloc (by rw [e2]; exact box_cell _ _ _ _ _ rfl), cell_alloc (by rw [e2]; exact box_cell _ _ _ _ _ rfl), cell_alloc (by rw [e2]; exact box_cell _ _ _ _ _ rfl), cell_alloc (by rw [e2]; exact box_cell _ _ _ _ _ rfl), cell_alloc (by rw [e2]; exact box_cell _ _ _ _ _ rfl), cell_alloc (by rw [e2]; exact box_cell _ _ _ _ _ rfl), cell_alloc (by rw [e2]; exact box_cell _ _ _ _ _ rfl), cell_alloc (by rw [e2]; exact box_cell _ _ _ _ _ rfl), cell_alloc (by rw [e2]; exact box_cell _ _ _ _ _ rfl), cell_alloc (by rw [e2]; exact box_cell _ _ _ _ _ rfl), (by rw [e3]; exact box_cell _ _ _ _ _ rfl), (by rw [e3]; exact box_cell _ _ _ _ _ rfl)⟩
  go_enter Tryz.func15, Tryz.ntmps15
  go_wp2_with (fail)
  obtain ⟨W, hW⟩ : ∃ W, (((w.alloc (.cells #[.int .i64 hs, .slice C0 L.length q0] 47)).alloc (.cells #[.slice A0 t.roots.length k0, .int .i64 t.k, .int .i64 t.need] 51)).alloc (.cells #[.slice B0 x.proof.bucket.length j0, .slice B1 x.proof.sides.length j1, .slice B2 x.tops.length j2, .int .i64 hh, .int .i64 ep, .string hr, .string hp, .int .i64 x.seal_.sig.at_, .slice B3 x.seal_.sig.open_.length j3, .slice B4 x.seal_.sig.shut.length j4, .slice B5 x.seal_.sig.sides.length j5, .slice B6 x.stamps.length j6] 64)).alloc (.cells #[.int .i64 0, .slice none 0 0] 47) = W := ⟨_, rfl⟩
  rw [hW]
  obtain ⟨hBW, hWs, rf, c0, c1, t0, t1, t2, x0, x1, x2, x3, x4, x5, x6, x7, x8, x9, x10, x11, r0, r1⟩ := hWd W hW.symm
  clear hW hWd
  have HBW := Lib.hid hBW
  have hlW : w.heap.size + 1 + 1 + 1 < W.heap.size := by omega
  have HALL := Lib.hid (fun (w' : World) (h : Below W.heap.size W w') => (⟨(h.cell (p := ⟨w.heap.size, 0, none⟩) (by show w.heap.size < _; omega)).trans c0, (h.cell (p := ⟨w.heap.size, 1, none⟩) (by show w.heap.size < _; omega)).trans c1, (h.cell (p := ⟨w.heap.size + 1, 0, none⟩) (by show w.heap.size + 1 < _; omega)).trans t0, (h.cell (p := ⟨w.heap.size + 1, 1, none⟩) (by show w.heap.size + 1 < _; omega)).trans t1, (h.cell (p := ⟨w.heap.size + 1, 2, none⟩) (by show w.heap.size + 1 < _; omega)).trans t2, (h.cell (p := ⟨w.heap.size + 1 + 1, 0, none⟩) (by show w.heap.size + 1 + 1 < _; omega)).trans x0, (h.cell (p := ⟨w.heap.size + 1 + 1, 1, none⟩) (by show w.heap.size + 1 + 1 < _; omega)).trans x1, (h.cell (p := ⟨w.heap.size + 1 + 1, 2, none⟩) (by show w.heap.size + 1 + 1 < _; omega)).trans x2, (h.cell (p := ⟨w.heap.size + 1 + 1, 3, none⟩) (by show w.heap.size + 1 + 1 < _; omega)).trans x3, (h.cell (p := ⟨w.heap.size + 1 + 1, 4, none⟩) (by show w.heap.size + 1 + 1 < _; omega)).trans x4, (h.cell (p := ⟨w.heap.size + 1 + 1, 5, none⟩) (by show w.heap.size + 1 + 1 < _; omega)).trans x5, (h.cell (p := ⟨w.heap.size + 1 + 1, 6, none⟩) (by show w.heap.size + 1 + 1 < _; omega)).trans x6, (h.cell (p := ⟨w.heap.size + 1 + 1, 7, none⟩) (by show w.heap.size + 1 + 1 < _; omega)).trans x7, (h.cell (p := ⟨w.heap.size + 1 + 1, 8, none⟩) (by show w.heap.size + 1 + 1 < _; omega)).trans x8, (h.cell (p := ⟨w.heap.size + 1 + 1, 9, none⟩) (by show w.heap.size + 1 + 1 < _; omega)).trans x9, (h.cell (p := ⟨w.heap.size + 1 + 1, 10, none⟩) (by show w.heap.size + 1 + 1 < _; omega)).trans x10, (h.cell (p := ⟨w.heap.size + 1 + 1, 11, none⟩) (by show w.heap.size + 1 + 1 < _; omega)).trans x11, (h.cell (p := ⟨w.heap.size + 1 + 1 + 1, 0, none⟩) (by show w.heap.size + 1 + 1 + 1 < _; omega)).trans r0, (h.cell (p := ⟨w.heap.size + 1 + 1 + 1, 1, none⟩) (by show w.heap.size + 1 + 1 + 1 < _; omega)).trans r1, fun o => (h.frozen (p := ⟨w.heap.size + 1 + 1 + 1, o, none⟩) hlW).trans (rf o)⟩ : w'.cell? ⟨w.heap.size, 0, none⟩ = some (.int .i64 hs) ∧ w'.cell? ⟨w.heap.size, 1, none⟩ = some (.slice C0 L.length q0) ∧ w'.cell? ⟨w.heap.size + 1, 0, none⟩ = some (.slice A0 t.roots.length k0) ∧ w'.cell? ⟨w.heap.size + 1, 1, none⟩ = some (.int .i64 t.k) ∧ w'.cell? ⟨w.heap.size + 1, 2, none⟩ = some (.int .i64 t.need) ∧ w'.cell? ⟨w.heap.size + 1 + 1, 0, none⟩ = some (.slice B0 x.proof.bucket.length j0) ∧ w'.cell? ⟨w.heap.size + 1 + 1, 1, none⟩ = some (.slice B1 x.proof.sides.length j1) ∧ w'.cell? ⟨w.heap.size + 1 + 1, 2, none⟩ = some (.slice B2 x.tops.length j2) ∧ w'.cell? ⟨w.heap.size + 1 + 1, 3, none⟩ = some (.int .i64 hh) ∧ w'.cell? ⟨w.heap.size + 1 + 1, 4, none⟩ = some (.int .i64 ep) ∧ w'.cell? ⟨w.heap.size + 1 + 1, 5, none⟩ = some (.string hr) ∧ w'.cell? ⟨w.heap.size + 1 + 1, 6, none⟩ = some (.string hp) ∧ w'.cell? ⟨w.heap.size + 1 + 1, 7, none⟩ = some (.int .i64 x.seal_.sig.at_) ∧ w'.cell? ⟨w.heap.size + 1 + 1, 8, none⟩ = some (.slice B3 x.seal_.sig.open_.length j3) ∧ w'.cell? ⟨w.heap.size + 1 + 1, 9, none⟩ = some (.slice B4 x.seal_.sig.shut.length j4) ∧ w'.cell? ⟨w.heap.size + 1 + 1, 10, none⟩ = some (.slice B5 x.seal_.sig.sides.length j5) ∧ w'.cell? ⟨w.heap.size + 1 + 1, 11, none⟩ = some (.slice B6 x.stamps.length j6) ∧ w'.cell? ⟨w.heap.size + 1 + 1 + 1, 0, none⟩ = some (.int .i64 0) ∧ w'.cell? ⟨w.heap.size + 1 + 1 + 1, 1, none⟩ = some (.slice none 0 0) ∧ ∀ o, w'.frozen? ⟨w.heap.size + 1 + 1 + 1, o, none⟩ = false))
  clear hWs hBW
  have HCP := Lib.hid (fun W' (h : Below W.heap.size W W') => impl_copyHeads W' L C0 q0 _ (Row.later rC (HBW.out.trans (h.mono HBW.out.size))) (by omega))
  have hB := Below.refl W.heap.size W
  have HM := Lib.hid (fun (w' : World) (h : Below W.heap.size W w') => (⟨(HALL.out w' h).1, (HALL.out w' h).2.1, h⟩ : w'.cell? ⟨w.heap.size, 0, none⟩ = some (.int .i64 hs) ∧ w'.cell? ⟨w.heap.size, 1, none⟩ = some (.slice C0 L.length q0) ∧ Below W.heap.size W w'))
  have hlc : w.heap.size < W.heap.size := by omega
  clear t0 t1 t2 x0 x1 x2 x3 x4 x5 x6 x7 x8 x9 x10 x11 r0 r1 rf
  go_cut [14] (fun s14 wx => ∃ (ob : Nat) (A5 : Option Addr) (c5 : Nat), s14 = .pointer (some ⟨ob, 0, none⟩) ∧ Hid (HearCut W wx ob hs A5 c5 L))
  case first =>
    go_region_law (first | (go_simp; go_at_call 52; refine (HCP.out (W.drew.alloc (.cells #[.int .i64 0, .slice none 0 0] 47)) ((Below.refl _ _).drew.alloc (Nat.le_refl _) _)).mono ?_; rintro e5 w5 ⟨A5, c5, rfl, o5⟩; have O5 := Lib.hid o5; have hb5 := o5.bl; have hs5 : W.heap.size + 1 ≤ w5.heap.size := (by have := hb5.size; simpa using this); have hlc5 : w.heap.size < w5.heap.size := (by omega); have y0 := (hb5.cell (p := ⟨W.heap.size, 0, none⟩) (by simp)).trans (box_cell _ _ _ _ _ rfl); have y1 := (hb5.cell (p := ⟨W.heap.size, 1, none⟩) (by simp)).trans (box_cell _ _ _ _ _ rfl); have yf := fun o => (hb5.frozen (p := ⟨W.heap.size, o, none⟩) (by simp)).trans (frozen_new W.drew _ _ o); have d0 := (hb5.cell (p := ⟨w.heap.size, 0, none⟩) (by simp; omega)).trans (cell_alloc (show W.drew.cell? _ = _ from c0)); clear o5) | (go_simp; go_at_call 52; refine (HCP.out W.drew ((Below.refl _ _).drew)).mono ?_; rintro e5 w5 ⟨A5, c5, rfl, o5⟩; have O5 := Lib.hid o5; have hb5 := o5.bl; have hs5 : W.heap.size ≤ w5.heap.size := (by have := hb5.size; simpa using this); have hlc5 : w.heap.size < w5.heap.size := (by omega); have d0 := (hb5.cell (p := ⟨w.heap.size, 0, none⟩) hlc).trans c0; clear o5))
    all_goals (go_wp2_with (fail); go_meet)
    all_goals (first | exact ⟨W.heap.size, A5, c5, rfl, Lib.hid (HearCut.first O5.out rfl y0 y1 yf)⟩ | exact ⟨w5.heap.size, A5, c5, rfl, Lib.hid (HearCut.last O5.out rfl _)⟩)
  case rest =>
    have RC0 := Lib.hid rC
    have RT0 := Lib.hid rT
    have RL0 := Lib.hid hL
    clear rC rT hL HCP hB HM
    obtain ⟨ob, A5, c5, rfl, HV⟩ := hcut
    obtain ⟨c0, c1, t0, t1, t2, x0, x1, x2, x3, x4, x5, x6, x7, x8, x9, x10, x11, r0, r1, rf⟩ := HALL.out wc HV.out.bl
    have hwc : W.heap.size ≤ wc.heap.size := HV.out.bl.size
    have hlc1 : w.heap.size < wc.heap.size := by omega
    have hlc2 : w.heap.size + 1 < wc.heap.size := by omega
    have hlc3 : w.heap.size + 1 + 1 < wc.heap.size := by omega
    have HOUT := Lib.hid (fun (w' : World) (h : Below wc.heap.size wc w') => (⟨(h.cell (p := ⟨ob, 0, none⟩) HV.out.lt).trans HV.out.h0, (h.cell (p := ⟨ob, 1, none⟩) HV.out.lt).trans HV.out.h1, fun o => (h.frozen (p := ⟨ob, o, none⟩) HV.out.lt).trans (HV.out.fz o)⟩ : w'.cell? ⟨ob, 0, none⟩ = some (.int .i64 hs) ∧ w'.cell? ⟨ob, 1, none⟩ = some (.slice A5 L.length c5) ∧ ∀ o, w'.frozen? ⟨ob, o, none⟩ = false))
    go_wp2_with (fail)
    obtain ⟨V, hV⟩ : ∃ V, wc.alloc (.cells #[.int .i64 hh, .int .i64 ep, .string hr, .string hp] 58) = V := ⟨_, rfl⟩
    rw [hV]
    have hVB : Below wc.heap.size wc V := by rw [← hV]; exact (Below.refl _ _).alloc (Nat.le_refl _) _
    have hVs : wc.heap.size < V.heap.size := by rw [← hV]; simp
    have g0 : V.cell? ⟨wc.heap.size, 0, none⟩ = some (.int .i64 hh) := by rw [← hV]; exact box_cell _ _ _ _ _ rfl
    have g1 : V.cell? ⟨wc.heap.size, 1, none⟩ = some (.int .i64 ep) := by rw [← hV]; exact box_cell _ _ _ _ _ rfl
    have g2 : V.cell? ⟨wc.heap.size, 2, none⟩ = some (.string hr) := by rw [← hV]; exact box_cell _ _ _ _ _ rfl
    have g3 : V.cell? ⟨wc.heap.size, 3, none⟩ = some (.string hp) := by rw [← hV]; exact box_cell _ _ _ _ _ rfl
    clear hV
    refine (HVE.out _ (HBW.out.trans ((HV.out.bl.trans (hVB.mono hwc)).mono HBW.out.size))).mono ?_
    rintro e6 w6 ⟨rfl, hb6⟩
    have HB6 := Lib.hid (hVB.trans (hb6.mono (Nat.le_of_lt hVs)))
    replace g0 := (hb6.cell (p := ⟨wc.heap.size, 0, none⟩) hVs).trans g0
    replace g1 := (hb6.cell (p := ⟨wc.heap.size, 1, none⟩) hVs).trans g1
    replace g2 := (hb6.cell (p := ⟨wc.heap.size, 2, none⟩) hVs).trans g2
    replace g3 := (hb6.cell (p := ⟨wc.heap.size, 3, none⟩) hVs).trans g3
    have hl6 : wc.heap.size < w6.heap.size := Nat.lt_of_lt_of_le hVs hb6.size
    clear hVB hVs hb6 c0 c1 t0 t1 t2 x0 x1 x2 x3 x4 x5 x6 x7 x8 x9 x10 x11 r0 r1 rf
    obtain ⟨c0, c1, t0, t1, t2, x0, x1, x2, x3, x4, x5, x6, x7, x8, x9, x10, x11, r0, r1, rf⟩ := HALL.out w6 (HV.out.bl.trans (HB6.out.mono hwc))
    obtain ⟨d0, d1, df⟩ := HOUT.out w6 HB6.out
    clear x0 x1 x2 x3 x4 x5 x6 x7 x8 x9 x10 x11
    by_cases c3 : v3 = 0
    rotate_left
    · have HE := Lib.hid (HC1.out c3)
      go_wp2
      refine bodyPost_ret (v := .tuple #[.agg #[.int .i64 hs, .slice A5 L.length c5], .string ⟨#[]⟩, .bool false, .int .i64 1]) (by simp [results, Tryz.results15, go_sem, *]) rfl ?_
      exact ChRes.mk HE.out rfl hci (HV.out.ret HBW.out HB6.out (by omega) hlW _ _)
    subst c3
    obtain ⟨⟨kh, hkh, hkl⟩, hep1⟩ := HVI.out rfl
    subst hkh
    by_cases c6 : ep ≤ (L.length : Int)
    · obtain ⟨m, rfl⟩ : ∃ m : Nat, ep = (m : Int) + 1 := ⟨(ep - 1).toNat, by omega⟩
      have hml : m < L.length := by omega
      obtain ⟨b1, o1, rfl, hl1, q0, q1, q2, q3, -, -, -, -⟩ := Row.atHead RC0.out hml
      have hBw6 := HBW.out.trans ((HV.out.bl.trans (HB6.out.mono hwc)).mono HBW.out.size)
      replace q0 := (hBw6.cell (p := ⟨b1, o1 + m * 4, none⟩) hl1).trans q0
      replace q1 := (hBw6.cell (p := ⟨b1, o1 + m * 4 + 1, none⟩) hl1).trans q1
      replace q2 := (hBw6.cell (p := ⟨b1, o1 + m * 4 + 2, none⟩) hl1).trans q2
      replace q3 := (hBw6.cell (p := ⟨b1, o1 + m * 4 + 3, none⟩) hl1).trans q3
      have hw1 : IntKind.i64.wrap ((m : Int) + 1 - 1) = (m : Int) := by rw [IntWalk.i64_in] <;> omega
      have hw2 : (m : Int) + 1 - 1 = (m : Int) := by omega
      have hmi : (m : Int) < (L.length : Int) := by omega
      have hm0 : (0 : Int) ≤ (m : Int) := by omega
      have HLM := Lib.hid (HC2.out rfl m rfl hml)
      have HLN := Lib.hid (HC3.out rfl m rfl hml)
      have HSA := Lib.hid (HSM.out L[m])
      obtain ⟨y, hy⟩ : ∃ y, L[m] = y := ⟨_, rfl⟩
      rw [hy] at q0 q1 q2 q3 HSA
      simp only [hy] at HLM HLN
      obtain ⟨yh, ye, yr, yp⟩ := y
      simp only at q0 q1 q2 q3 HSA
      clear hy hBw6
      by_cases s0 : yh = hh
      rotate_left
      · have HQ := Lib.hid s0
        have HE := Lib.hid (HLM.out (by rw [HSA.out]; simp [HQ.out]))
        have hq : (yh == hh) = false := beq_eq_false_iff_ne.2 s0
        have hq2 : ¬ yh = hh := HQ.out
        go_wp2_with (fail)
        have Gc1 := Grown.cell c1
        have Gg0 := Grown.cell g0
        have Gg1 := Grown.cell g1
        have Gg2 := Grown.cell g2
        have Gg3 := Grown.cell g3
        have Gq0 := Grown.cell q0
        have Gq1 := Grown.cell q1
        have Gq2 := Grown.cell q2
        have Gq3 := Grown.cell q3
        clear c1 g0 g1 g2 g3 q0 q1 q2 q3
        refine wp_region_grown (by kernel_rfl) (by kernel_rfl) ?_
        repeat (go_big_quiet_step (fail))
        refine wpQuiet_nil ?_
        intro w7 hw_
        have hB7 := grown_below hw_
        clear hw_ Gc1 Gg0 Gg1 Gg2 Gg3 Gq0 Gq1 Gq2 Gq3
        have HB7 := Lib.hid (HB6.out.trans (hB7.mono (Nat.le_of_lt hl6)))
        clear hB7 c0 t0 t1 t2 r0 r1 rf d0 d1 df
        obtain ⟨c0, c1, t0, t1, t2, x0, x1, x2, x3, x4, x5, x6, x7, x8, x9, x10, x11, r0, r1, rf⟩ := HALL.out w7 (HV.out.bl.trans (HB7.out.mono hwc))
        obtain ⟨d0, d1, df⟩ := HOUT.out w7 HB7.out
        clear x0 x1 x2 x3 x4 x5 x6 x7 x8 x9 x10 x11
        go_wp2
        refine bodyPost_ret (v := .tuple #[.agg #[.int .i64 kh, .slice A5 L.length c5], .string ⟨#[]⟩, .bool false, .int .i64 2]) (by simp [results, Tryz.results15, go_sem, *]) rfl ?_
        exact ChRes.mk HE.out rfl hci (HV.out.ret HBW.out HB7.out (by omega) hlW _ _)
      subst s0
      by_cases s1 : ye = ((m : Int) + 1)
      rotate_left
      · have HQ := Lib.hid s1
        have HE := Lib.hid (HLM.out (by rw [HSA.out]; simp [HQ.out]))
        have hq : (ye == ((m : Int) + 1)) = false := beq_eq_false_iff_ne.2 s1
        have hq2 : ¬ ye = ((m : Int) + 1) := HQ.out
        go_wp2_with (fail)
        have Gc1 := Grown.cell c1
        have Gg0 := Grown.cell g0
        have Gg1 := Grown.cell g1
        have Gg2 := Grown.cell g2
        have Gg3 := Grown.cell g3
        have Gq0 := Grown.cell q0
        have Gq1 := Grown.cell q1
        have Gq2 := Grown.cell q2
        have Gq3 := Grown.cell q3
        clear c1 g0 g1 g2 g3 q0 q1 q2 q3
        refine wp_region_grown (by kernel_rfl) (by kernel_rfl) ?_
        repeat (go_big_quiet_step (fail))
        refine wpQuiet_nil ?_
        intro w7 hw_
        have hB7 := grown_below hw_
        clear hw_ Gc1 Gg0 Gg1 Gg2 Gg3 Gq0 Gq1 Gq2 Gq3
        have HB7 := Lib.hid (HB6.out.trans (hB7.mono (Nat.le_of_lt hl6)))
        clear hB7 c0 t0 t1 t2 r0 r1 rf d0 d1 df
        obtain ⟨c0, c1, t0, t1, t2, x0, x1, x2, x3, x4, x5, x6, x7, x8, x9, x10, x11, r0, r1, rf⟩ := HALL.out w7 (HV.out.bl.trans (HB7.out.mono hwc))
        obtain ⟨d0, d1, df⟩ := HOUT.out w7 HB7.out
        clear x0 x1 x2 x3 x4 x5 x6 x7 x8 x9 x10 x11
        go_wp2
        refine bodyPost_ret (v := .tuple #[.agg #[.int .i64 kh, .slice A5 L.length c5], .string ⟨#[]⟩, .bool false, .int .i64 2]) (by simp [results, Tryz.results15, go_sem, *]) rfl ?_
        exact ChRes.mk HE.out rfl hci (HV.out.ret HBW.out HB7.out (by omega) hlW _ _)
      subst s1
      by_cases s2 : yr = hr
      rotate_left
      · have HQ := Lib.hid s2
        have HE := Lib.hid (HLM.out (by rw [HSA.out]; simp [HQ.out]))
        have hq : (yr.toList == hr.toList) = false := str_ne s2
        have hq2 : ¬ yr.toList = hr.toList := fun e => HQ.out (toList_inj e)
        clear s2
        go_wp2_with (fail)
        have Gc1 := Grown.cell c1
        have Gg0 := Grown.cell g0
        have Gg1 := Grown.cell g1
        have Gg2 := Grown.cell g2
        have Gg3 := Grown.cell g3
        have Gq0 := Grown.cell q0
        have Gq1 := Grown.cell q1
        have Gq2 := Grown.cell q2
        have Gq3 := Grown.cell q3
        clear c1 g0 g1 g2 g3 q0 q1 q2 q3
        refine wp_region_grown (by kernel_rfl) (by kernel_rfl) ?_
        repeat (go_big_quiet_step (fail))
        refine wpQuiet_nil ?_
        intro w7 hw_
        have hB7 := grown_below hw_
        clear hw_ Gc1 Gg0 Gg1 Gg2 Gg3 Gq0 Gq1 Gq2 Gq3
        have HB7 := Lib.hid (HB6.out.trans (hB7.mono (Nat.le_of_lt hl6)))
        clear hB7 c0 t0 t1 t2 r0 r1 rf d0 d1 df
        obtain ⟨c0, c1, t0, t1, t2, x0, x1, x2, x3, x4, x5, x6, x7, x8, x9, x10, x11, r0, r1, rf⟩ := HALL.out w7 (HV.out.bl.trans (HB7.out.mono hwc))
        obtain ⟨d0, d1, df⟩ := HOUT.out w7 HB7.out
        clear x0 x1 x2 x3 x4 x5 x6 x7 x8 x9 x10 x11
        go_wp2
        refine bodyPost_ret (v := .tuple #[.agg #[.int .i64 kh, .slice A5 L.length c5], .string ⟨#[]⟩, .bool false, .int .i64 2]) (by simp [results, Tryz.results15, go_sem, *]) rfl ?_
        exact ChRes.mk HE.out rfl hci (HV.out.ret HBW.out HB7.out (by omega) hlW _ _)
      subst s2
      by_cases s3 : yp = hp
      rotate_left
      · have HQ := Lib.hid s3
        have HE := Lib.hid (HLM.out (by rw [HSA.out]; simp [HQ.out]))
        have hq : (yp.toList == hp.toList) = false := str_ne s3
        have hq2 : ¬ yp.toList = hp.toList := fun e => HQ.out (toList_inj e)
        clear s3
        go_wp2_with (fail)
        have Gc1 := Grown.cell c1
        have Gg0 := Grown.cell g0
        have Gg1 := Grown.cell g1
        have Gg2 := Grown.cell g2
        have Gg3 := Grown.cell g3
        have Gq0 := Grown.cell q0
        have Gq1 := Grown.cell q1
        have Gq2 := Grown.cell q2
        have Gq3 := Grown.cell q3
        clear c1 g0 g1 g2 g3 q0 q1 q2 q3
        refine wp_region_grown (by kernel_rfl) (by kernel_rfl) ?_
        repeat (go_big_quiet_step (fail))
        refine wpQuiet_nil ?_
        intro w7 hw_
        have hB7 := grown_below hw_
        clear hw_ Gc1 Gg0 Gg1 Gg2 Gg3 Gq0 Gq1 Gq2 Gq3
        have HB7 := Lib.hid (HB6.out.trans (hB7.mono (Nat.le_of_lt hl6)))
        clear hB7 c0 t0 t1 t2 r0 r1 rf d0 d1 df
        obtain ⟨c0, c1, t0, t1, t2, x0, x1, x2, x3, x4, x5, x6, x7, x8, x9, x10, x11, r0, r1, rf⟩ := HALL.out w7 (HV.out.bl.trans (HB7.out.mono hwc))
        obtain ⟨d0, d1, df⟩ := HOUT.out w7 HB7.out
        clear x0 x1 x2 x3 x4 x5 x6 x7 x8 x9 x10 x11
        go_wp2
        refine bodyPost_ret (v := .tuple #[.agg #[.int .i64 kh, .slice A5 L.length c5], .string ⟨#[]⟩, .bool false, .int .i64 2]) (by simp [results, Tryz.results15, go_sem, *]) rfl ?_
        exact ChRes.mk HE.out rfl hci (HV.out.ret HBW.out HB7.out (by omega) hlW _ _)
      subst s3
      have HE := Lib.hid (HLN.out (by rw [HSA.out]; simp))
      go_wp2_with (fail)
      have Gc1 := Grown.cell c1
      have Gg0 := Grown.cell g0
      have Gg1 := Grown.cell g1
      have Gg2 := Grown.cell g2
      have Gg3 := Grown.cell g3
      have Gq0 := Grown.cell q0
      have Gq1 := Grown.cell q1
      have Gq2 := Grown.cell q2
      have Gq3 := Grown.cell q3
      clear c1 g0 g1 g2 g3 q0 q1 q2 q3
      refine wp_region_grown (by kernel_rfl) (by kernel_rfl) ?_
      repeat (go_big_quiet_step (fail))
      refine wpQuiet_nil ?_
      intro w7 hw_
      have hB7 := grown_below hw_
      clear hw_ Gc1 Gg0 Gg1 Gg2 Gg3 Gq0 Gq1 Gq2 Gq3
      have HB7 := Lib.hid (HB6.out.trans (hB7.mono (Nat.le_of_lt hl6)))
      clear hB7 c0 t0 t1 t2 r0 r1 rf d0 d1 df
      obtain ⟨c0, c1, t0, t1, t2, x0, x1, x2, x3, x4, x5, x6, x7, x8, x9, x10, x11, r0, r1, rf⟩ := HALL.out w7 (HV.out.bl.trans (HB7.out.mono hwc))
      obtain ⟨d0, d1, df⟩ := HOUT.out w7 HB7.out
      clear x0 x1 x2 x3 x4 x5 x6 x7 x8 x9 x10 x11
      go_wp2
      refine bodyPost_ret (v := .tuple #[.agg #[.int .i64 kh, .slice A5 L.length c5], .string v1, .bool v2, .int .i64 0]) (by simp [results, Tryz.results15, go_sem, *]) rfl ?_
      exact ChRes.mk HE.out rfl hci (HV.out.ret HBW.out HB7.out (by omega) hlW _ _)
    · have HC6 := Lib.hid c6
      have HG := Lib.hid (fun (w' : World) (h : Below w6.heap.size w6 w') => (⟨(h.cell (p := ⟨wc.heap.size, 0, none⟩) hl6).trans g0, (h.cell (p := ⟨wc.heap.size, 1, none⟩) hl6).trans g1, (h.cell (p := ⟨wc.heap.size, 2, none⟩) hl6).trans g2, (h.cell (p := ⟨wc.heap.size, 3, none⟩) hl6).trans g3⟩ : w'.cell? ⟨wc.heap.size, 0, none⟩ = some (.int .i64 hh) ∧ w'.cell? ⟨wc.heap.size, 1, none⟩ = some (.int .i64 ep) ∧ w'.cell? ⟨wc.heap.size, 2, none⟩ = some (.string hr) ∧ w'.cell? ⟨wc.heap.size, 3, none⟩ = some (.string hp)))
      have HRT : Hid (linkRoot ⟨(kh : Int), L⟩ t = t.roots[kh]) := Lib.hid (by unfold linkRoot; rw [Int.toNat_natCast, getD_ltv hkl])
      obtain ⟨b2, o2, rfl, hl2, u0, -⟩ := Row.str RT0.out hkl
      obtain ⟨root, hroot⟩ : ∃ r, t.roots[kh] = r := ⟨_, rfl⟩
      rw [hroot] at HRT u0
      clear hroot
      have U0 := Lib.hid u0
      have hki : (kh : Int) < (t.roots.length : Int) := by omega
      have hk0 : (0 : Int) ≤ (kh : Int) := by omega
      have hwc6 : wc.heap.size ≤ w6.heap.size := Nat.le_of_lt hl6
      have HBw6 := Lib.hid (HBW.out.trans ((HV.out.bl.trans (HB6.out.mono hwc)).mono HBW.out.size))
      have hc6n : decide (ep ≤ (L.length : Int)) = false := decide_eq_false c6
      have HL4 := Lib.hid (fun h5 => HC4.out rfl (by have := HC6.out; omega) h5)
      have HL5 := Lib.hid (fun h5 => HC5.out rfl (by have := HC6.out; omega) h5)
      rw [HRT.out] at HL4 HL5
      have HEP1 := Lib.hid hep1
      clear u0 g0 g2 g3 HC1 HC2 HC3 HC4 HC5 HVI HVE c6 hep1
      have RL6 := Lib.hid (Row.later RL0.out HBw6.out)
      go_wp2_with (fail)
      clear g1
      go_loopw [67] (fun i wr => ∃ (k : Nat), k ≤ links.length ∧ i = .int .i64 k ∧ Hid (∀ j (hj : j < links.length), j < k → sealOk root links[j] = true) ∧ Below w6.heap.size w6 wr) (fun i _ => links.length - (intOf i).toNat)
      case atStart => exact ⟨0, Nat.zero_le _, rfl, Lib.hid (fun j _ h => absurd h (Nat.not_lt_zero _)), Below.refl _ _⟩
      case round =>
        clear c0 c1 t0 t1 t2 r0 r1 rf d0 d1 df
        obtain ⟨k, hk, rfl, HA, hb⟩ := hrel
        have HRB := Lib.hid hb
        have HBc := Lib.hid (HB6.out.trans (hb.mono hwc6))
        have HBw := Lib.hid (HBw6.out.trans (hb.mono HBw6.out.size))
        obtain ⟨c0, c1, t0, t1, t2, x0, x1, x2, x3, x4, x5, x6, x7, x8, x9, x10, x11, r0, r1, rf⟩ := HALL.out wr (HV.out.bl.trans (HBc.out.mono hwc))
        obtain ⟨d0, d1, df⟩ := HOUT.out wr HBc.out
        clear x0 x1 x2 x3 x4 x5 x6 x7 x8 x9 x10 x11
        have hlr : w6.heap.size ≤ wr.heap.size := hb.size
        by_cases hlt : k < links.length
        · obtain ⟨b1, o1, cc, T, rfl, hl1, ha, hrd, _, _⟩ := Row.at_ RL6.out hlt
          replace ha := ha.keep (hb.block b1 hl1)
          replace hrd := Lay.later hrd hb
          have HY := Lib.hid (fun (h0 : sealOk root links[k] = false) => HL4.out (HLB.out root k hlt h0))
          have HA2 : Hid (sealOk root links[k] = true → ∀ j (hj : j < links.length), j < k + 1 → sealOk root links[j] = true) := Lib.hid (fun h0 j hj h => by rcases Nat.lt_succ_iff_lt_or_eq.1 h with h1 | h1; exact HA.out j hj h1; subst h1; exact h0)
          obtain ⟨s, hs_⟩ : ∃ s, links[k] = s := ⟨_, rfl⟩
          rw [hs_] at hrd HY HA2
          clear hs_
          have HS := Lib.hid (fun W (h' : Below wr.heap.size wr W) => impl_SealOk W root s cc T (Lay.later hrd h') (HT.out.later (HBw.out.trans (h'.mono HBw.out.size))))
          obtain ⟨z, hz⟩ : ∃ z, sealOk root s = z := ⟨_, rfl⟩
          rw [hz] at HY HA2 HS
          clear hz
          obtain ⟨D0, m0, V0, D1, m1, V1, D2, m2, V2, rfl, -⟩ := Seal.open hrd
          clear hrd
          rw [show Lay.n Seal = 8 from rfl] at ha
          have e0 := ha 0 _ rfl
          have e1 := ha 1 _ rfl
          have e2 := ha 2 _ rfl
          have e3 := ha 3 _ rfl
          have e4 := ha 4 _ rfl
          have e5 := ha 5 _ rfl
          have e6 := ha 6 _ rfl
          have e7 := ha 7 _ rfl
          simp only [Nat.add_zero] at e0
          have hl3 : b1 < wr.heap.size := Nat.lt_of_lt_of_le hl1 hb.size
          simp only [Seal.cs] at HS
          clear ha hb HA
          go_wp2_with (fail)
          obtain ⟨V, hV⟩ : ∃ V, wr.alloc (.cells #[.int .i64 s.head.house, .int .i64 s.head.epoch, .string s.head.root, .string s.head.prev, .int .i64 s.sig.at_, .slice D0 s.sig.open_.length m0, .slice D1 s.sig.shut.length m1, .slice D2 s.sig.sides.length m2] 61) = V := ⟨_, rfl⟩
          rw [hV]
          have hVB : Below wr.heap.size wr V := by rw [← hV]; exact (Below.refl _ _).alloc (Nat.le_refl _) _
          have HVS : Hid (V.cell? ⟨wr.heap.size, 0, none⟩ = some (.int .i64 s.head.house) ∧ V.cell? ⟨wr.heap.size, 1, none⟩ = some (.int .i64 s.head.epoch) ∧ V.cell? ⟨wr.heap.size, 2, none⟩ = some (.string s.head.root) ∧ V.cell? ⟨wr.heap.size, 3, none⟩ = some (.string s.head.prev) ∧ V.cell? ⟨wr.heap.size, 4, none⟩ = some (.int .i64 s.sig.at_) ∧ V.cell? ⟨wr.heap.size, 5, none⟩ = some (.slice D0 s.sig.open_.length m0) ∧ V.cell? ⟨wr.heap.size, 6, none⟩ = some (.slice D1 s.sig.shut.length m1) ∧ V.cell? ⟨wr.heap.size, 7, none⟩ = some (.slice D2 s.sig.sides.length m2)) := by rw [← hV]; exact Lib.hid ⟨box_cell _ _ _ _ _ rfl, box_cell _ _ _ _ _ rfl, box_cell _ _ _ _ _ rfl, box_cell _ _ _ _ _ rfl, box_cell _ _ _ _ _ rfl, box_cell _ _ _ _ _ rfl, box_cell _ _ _ _ _ rfl, box_cell _ _ _ _ _ rfl⟩
          clear hV e0 e1 e2 e3 e4 e5 e6 e7
          obtain ⟨sv0, sv1, sv2, sv3, sv4, sv5, sv6, sv7⟩ := HVS.out
          have HBcV := Lib.hid (HBc.out.trans (hVB.mono HBc.out.size))
          have HBVr := Lib.hid hVB
          clear c0 c1 t0 t1 t2 r0 r1 rf d0 d1 df
          obtain ⟨c0, c1, t0, t1, t2, x0, x1, x2, x3, x4, x5, x6, x7, x8, x9, x10, x11, r0, r1, rf⟩ := HALL.out V (HV.out.bl.trans (HBcV.out.mono hwc))
          obtain ⟨d0, d1, df⟩ := HOUT.out V HBcV.out
          clear x0 x1 x2 x3 x4 x5 x6 x7 x8 x9 x10 x11
          have u0 := (HBw.out.trans (hVB.mono HBw.out.size)).cell (p := ⟨b2, o2 + kh, none⟩) hl2 |>.trans U0.out
          have Gc0 := Grown.cell c0
          have Gt0 := Grown.cell t0
          have Gu0 := Grown.cell u0
          have Gs0 := Grown.cell sv0
          have Gs1 := Grown.cell sv1
          have Gs2 := Grown.cell sv2
          have Gs3 := Grown.cell sv3
          have Gs4 := Grown.cell sv4
          have Gs5 := Grown.cell sv5
          have Gs6 := Grown.cell sv6
          have Gs7 := Grown.cell sv7
          clear c0 t0 u0 hVB sv0 sv1 sv2 sv3 sv4 sv5 sv6 sv7
          refine wp_region_grown (by kernel_rfl) (by kernel_rfl) ?_
          repeat (go_big_quiet_step (first | (go_at_call 54; exact grown_call (HS.out _ (HBVr.out.trans ((Grown.ok _).mono HBVr.out.size))))))
          refine wpQuiet_nil ?_
          intro w7 hw_
          have hB7 := grown_below hw_
          clear hw_ Gc0 Gt0 Gu0 Gs0 Gs1 Gs2 Gs3 Gs4 Gs5 Gs6 Gs7
          have HB7 := Lib.hid (HBcV.out.trans (hB7.mono HBcV.out.size))
          have HB67 := Lib.hid ((Below.refl wr.heap.size wr).trans (HBVr.out.trans (hB7.mono HBVr.out.size)))
          clear hB7 c1 t1 t2 r0 r1 rf d0 d1 df
          obtain ⟨c0, c1, t0, t1, t2, x0, x1, x2, x3, x4, x5, x6, x7, x8, x9, x10, x11, r0, r1, rf⟩ := HALL.out w7 (HV.out.bl.trans (HB7.out.mono hwc))
          obtain ⟨d0, d1, df⟩ := HOUT.out w7 HB7.out
          clear x0 x1 x2 x3 x4 x5 x6 x7 x8 x9 x10 x11
          cases z
          · have HE := Lib.hid (HY.out rfl)
            go_wp2
            refine bodyPost_ret (v := .tuple #[.agg #[.int .i64 kh, .slice A5 L.length c5], .string ⟨#[]⟩, .bool false, .int .i64 3]) (by simp [results, Tryz.results15, go_sem, *]) rfl ?_
            exact ChRes.mk HE.out rfl hci (HV.out.ret HBW.out HB7.out (by omega) hlW _ _)
          · have HA3 := Lib.hid (HA2.out rfl)
            go_wp2
            go_roundw
            case rel => exact ⟨k + 1, hlt, by go_num, HA3, HRB.out.trans (HB67.out.mono hlr)⟩
            case measure => simp [intOf]; omega
        · have hke : k = links.length := by omega
          have HLQ := Lib.hid (HLA.out root (fun j hj => HA.out j hj (by omega)))
          have hHL : (headL links).length = links.length := by unfold headL; simp
          have HCP2 := Lib.hid (fun W (h : Below wr.heap.size wr W) => impl_copyHeads W L C0 q0 _ (Row.later RC0.out (HBw.out.trans (h.mono HBw.out.size))) (by omega))
          have HHO := Lib.hid (fun W (h : Below wr.heap.size wr W) => impl_headsOf W links AL kL _ (Row.later RL0.out (HBw.out.trans (h.mono HBw.out.size))) hll)
          have HAE : Hid (hearAll ⟨(kh : Int), L⟩ links = L ++ headL links) := Lib.hid rfl
          obtain ⟨HD, hHD⟩ : ∃ l, headL links = l := ⟨_, rfl⟩
          rw [hHD] at HHO HAE hHL
          rw [HAE.out] at HLQ HL5
          have HHL := Lib.hid hHL
          have hlr6 := hb.size
          have HRB := Lib.hid hb
          subst hke
          clear hHD HA hb hHL
          have hLD : L.length + HD.length ≤ 4000000000 := by have := HHL.out; omega
          go_wp2_with (fail)
          refine (HCP2.out _ (Below.refl _ _)).mono ?_
          rintro e8 w8 ⟨A8, c8, rfl, o8⟩
          have O8 := Lib.hid o8
          have HB8 := Lib.hid o8.bl
          clear o8
          go_wp2_with (fail)
          refine (HHO.out _ HB8.out).mono ?_
          rintro e9 w9 ⟨A9, c9, rfl, o9⟩
          have O89 := Lib.hid (O8.out.later o9.bl)
          have R9 := Lib.hid o9.row
          clear o9 c0 c1 t0 t1 t2 r0 r1 rf d0 d1 df
          go_wp2_with (at_builtin; refine wpList_push (α := Head) rfl _ _ rfl rfl rfl O89.out rfl rfl (Src.flatC R9.out) hLD ?_; intro A6 c6 w10 o10 z10)
          have O10 := Lib.hid o10
          have HB10 := Lib.hid o10.bl
          have HBc10 := Lib.hid (HBc.out.trans (o10.bl.mono HBc.out.size))
          have HG10 := Lib.hid (HRB.out.trans (o10.bl.mono hlr6))
          have hlen : (L ++ HD).length = L.length + HD.length := List.length_append
          obtain ⟨N, hN⟩ : ∃ N, L.length + HD.length = N := ⟨_, rfl⟩
          obtain ⟨AA, hAA⟩ : ∃ l, L ++ HD = l := ⟨_, rfl⟩
          rw [hAA] at hlen O10 HLQ HL5
          rw [hN] at hlen hLD
          have HNN := Lib.hid (show N = L.length + links.length by rw [← hN, HHL.out])
          simp only [hN]
          have HCH := Lib.hid (fun W (h : Below w10.heap.size w10 W) => impl_ChainOk W AA A6 c6 _ (Row.later O10.out.weak h) (by omega) (O10.out.le) (kh : Int) (HT.out.later ((HBw.out.trans (HB10.out.mono HBw.out.size)).trans (h.mono (by have := HB10.out.size; have := HBw.out.size; omega)))))
          simp only [hlen] at HCH HLQ
          have HNL := Lib.hid hlen
          clear hN hAA hlen o10 z10
          obtain ⟨z, hz⟩ : ∃ z, chainOk AA (kh : Int) = z := ⟨_, rfl⟩
          rw [hz] at HCH HLQ
          clear hz
          obtain ⟨g0, g1, g2, g3⟩ := HG.out w10 HG10.out
          obtain ⟨c0, c1, t0, t1, t2, x0, x1, x2, x3, x4, x5, x6, x7, x8, x9, x10, x11, r0, r1, rf⟩ := HALL.out w10 (HV.out.bl.trans (HBc10.out.mono hwc))
          obtain ⟨d0, d1, df⟩ := HOUT.out w10 HBc10.out
          clear x0 x1 x2 x3 x4 x5 x6 x7 x8 x9 x10 x11
          by_cases a0 : links.length = 0
          · have hq0 : ((links.length : Int) == 0) = true := by rw [beq_iff_eq]; omega
            have HE := Lib.hid (HL4.out (by rw [HLQ.out, decide_eq_false (by omega)]; rfl))
            clear a0
            go_wp2_with (fail)
            have Gc0 := Grown.cell c0
            have Gg0 := Grown.cell g0
            have Gg1 := Grown.cell g1
            have Gg2 := Grown.cell g2
            have Gg3 := Grown.cell g3
            clear c0 g0 g1 g2 g3
            refine wp_region_grown (by kernel_rfl) (by kernel_rfl) ?_
            repeat (go_big_quiet_step (first | (go_at_call 56; exact grown_call (HCH.out _ (Grown.ok _)))))
            refine wpQuiet_nil ?_
            intro w7 hw_
            have HB07 := Lib.hid (grown_below hw_)
            clear hw_ Gc0 Gg0 Gg1 Gg2 Gg3
            have HB7 := Lib.hid (HBc10.out.trans (HB07.out.mono HBc10.out.size))
            clear c1 t0 t1 t2 r0 r1 rf d0 d1 df
            obtain ⟨c0, c1, t0, t1, t2, x0, x1, x2, x3, x4, x5, x6, x7, x8, x9, x10, x11, r0, r1, rf⟩ := HALL.out w7 (HV.out.bl.trans (HB7.out.mono hwc))
            obtain ⟨d0, d1, df⟩ := HOUT.out w7 HB7.out
            clear x0 x1 x2 x3 x4 x5 x6 x7 x8 x9 x10 x11
            go_wp2
            refine bodyPost_ret (v := .tuple #[.agg #[.int .i64 kh, .slice A5 L.length c5], .string ⟨#[]⟩, .bool false, .int .i64 3]) (by simp [results, Tryz.results15, go_sem, *]) rfl ?_
            exact ChRes.mk HE.out rfl hci (HV.out.ret HBW.out HB7.out (by omega) hlW _ _)
          have hq0 : ((links.length : Int) == 0) = false := by rw [beq_eq_false_iff_ne]; omega
          have HA0 := Lib.hid a0
          clear a0
          cases z
          · have HE := Lib.hid (HL4.out (by rw [HLQ.out]; simp))
            go_wp2_with (fail)
            have Gc0 := Grown.cell c0
            have Gg0 := Grown.cell g0
            have Gg1 := Grown.cell g1
            have Gg2 := Grown.cell g2
            have Gg3 := Grown.cell g3
            clear c0 g0 g1 g2 g3
            refine wp_region_grown (by kernel_rfl) (by kernel_rfl) ?_
            repeat (go_big_quiet_step (first | (go_at_call 56; exact grown_call (HCH.out _ (Grown.ok _)))))
            refine wpQuiet_nil ?_
            intro w7 hw_
            have HB07 := Lib.hid (grown_below hw_)
            clear hw_ Gc0 Gg0 Gg1 Gg2 Gg3
            have HB7 := Lib.hid (HBc10.out.trans (HB07.out.mono HBc10.out.size))
            clear c1 t0 t1 t2 r0 r1 rf d0 d1 df
            obtain ⟨c0, c1, t0, t1, t2, x0, x1, x2, x3, x4, x5, x6, x7, x8, x9, x10, x11, r0, r1, rf⟩ := HALL.out w7 (HV.out.bl.trans (HB7.out.mono hwc))
            obtain ⟨d0, d1, df⟩ := HOUT.out w7 HB7.out
            clear x0 x1 x2 x3 x4 x5 x6 x7 x8 x9 x10 x11
            go_wp2
            refine bodyPost_ret (v := .tuple #[.agg #[.int .i64 kh, .slice A5 L.length c5], .string ⟨#[]⟩, .bool false, .int .i64 3]) (by simp [results, Tryz.results15, go_sem, *]) rfl ?_
            exact ChRes.mk HE.out rfl hci (HV.out.ret HBW.out HB7.out (by omega) hlW _ _)
          by_cases a2 : (N : Int) = ep
          rotate_left
          · have hq2 : ((N : Int) == ep) = false := beq_eq_false_iff_ne.2 a2
            have hq3 : ((N : Int) != ep) = true := by rw [bne, hq2]; rfl
            have HE := Lib.hid (HL4.out (by rw [HLQ.out, decide_eq_false a2]; simp))
            clear a2
            go_wp2_with (fail)
            have Gc0 := Grown.cell c0
            have Gg0 := Grown.cell g0
            have Gg1 := Grown.cell g1
            have Gg2 := Grown.cell g2
            have Gg3 := Grown.cell g3
            clear c0 g0 g1 g2 g3
            refine wp_region_grown (by kernel_rfl) (by kernel_rfl) ?_
            repeat (go_big_quiet_step (first | (go_at_call 56; exact grown_call (HCH.out _ (Grown.ok _)))))
            refine wpQuiet_nil ?_
            intro w7 hw_
            have HB07 := Lib.hid (grown_below hw_)
            clear hw_ Gc0 Gg0 Gg1 Gg2 Gg3
            have HB7 := Lib.hid (HBc10.out.trans (HB07.out.mono HBc10.out.size))
            clear c1 t0 t1 t2 r0 r1 rf d0 d1 df
            obtain ⟨c0, c1, t0, t1, t2, x0, x1, x2, x3, x4, x5, x6, x7, x8, x9, x10, x11, r0, r1, rf⟩ := HALL.out w7 (HV.out.bl.trans (HB7.out.mono hwc))
            obtain ⟨d0, d1, df⟩ := HOUT.out w7 HB7.out
            clear x0 x1 x2 x3 x4 x5 x6 x7 x8 x9 x10 x11
            go_wp2
            refine bodyPost_ret (v := .tuple #[.agg #[.int .i64 kh, .slice A5 L.length c5], .string ⟨#[]⟩, .bool false, .int .i64 3]) (by simp [results, Tryz.results15, go_sem, *]) rfl ?_
            exact ChRes.mk HE.out rfl hci (HV.out.ret HBW.out HB7.out (by omega) hlW _ _)
          have hq2 : ((N : Int) == ep) = true := beq_iff_eq.2 a2
          have hq3 : ((N : Int) != ep) = false := by rw [bne, hq2]; rfl
          obtain ⟨q, hq⟩ : ∃ q, N = q + 1 := ⟨N - 1, by have := HNN.out; have := HA0.out; omega⟩
          have hqA : q < AA.length := by rw [HNL.out]; omega
          have HLQ2 : Hid (linksOk root ⟨(kh : Int), L⟩ links ⟨hh, ep, hr, hp⟩ = sameHd AA[q] ⟨hh, ep, hr, hp⟩) := Lib.hid (by
            have h9 := HLQ.out
            rw [decide_eq_true (show 0 < links.length by have := HA0.out; omega), decide_eq_true a2, show N - 1 = q by omega, hdIs_at hqA] at h9
            simpa using h9)
          have HSA := Lib.hid (HSM.out AA[q])
          obtain ⟨b3, o3, rfl, hl3, q0, q1, q2, q3, -, -, -, -⟩ := Row.atHead O10.out.weak hqA
          obtain ⟨y, hy⟩ : ∃ y, AA[q] = y := ⟨_, rfl⟩
          rw [hy] at q0 q1 q2 q3 HSA HLQ2
          obtain ⟨yh, ye, yr, yp⟩ := y
          simp only at q0 q1 q2 q3 HSA
          have hwi : IntKind.i64.wrap ((N : Int) - 1) = (q : Int) := by rw [IntWalk.i64_in] <;> omega
          have hwi2 : (N : Int) - 1 = (q : Int) := by omega
          have hqi : (q : Int) < (N : Int) := by omega
          have hq00 : (0 : Int) ≤ (q : Int) := by omega
          have HA2 := Lib.hid a2
          clear hy hq a2 HLQ
          by_cases s0 : yh = hh
          rotate_left
          · have HQ := Lib.hid s0
            have HE := Lib.hid (HL4.out (by rw [HLQ2.out, HSA.out]; simp [HQ.out]))
            have hs1 : (yh == hh) = false := beq_eq_false_iff_ne.2 s0
            have hs2 : ¬ yh = hh := HQ.out
            go_wp2_with (fail)
            have Gc0 := Grown.cell c0
            have Gg0 := Grown.cell g0
            have Gg1 := Grown.cell g1
            have Gg2 := Grown.cell g2
            have Gg3 := Grown.cell g3
            have Gq0 := Grown.cell q0
            have Gq1 := Grown.cell q1
            have Gq2 := Grown.cell q2
            have Gq3 := Grown.cell q3
            clear c0 g0 g1 g2 g3 q0 q1 q2 q3
            refine wp_region_grown (by kernel_rfl) (by kernel_rfl) ?_
            repeat (go_big_quiet_step (first | (go_at_call 56; exact grown_call (HCH.out _ (Grown.ok _)))))
            refine wpQuiet_nil ?_
            intro w7 hw_
            have HB07 := Lib.hid (grown_below hw_)
            clear hw_ Gc0 Gg0 Gg1 Gg2 Gg3 Gq0 Gq1 Gq2 Gq3
            have HB7 := Lib.hid (HBc10.out.trans (HB07.out.mono HBc10.out.size))
            clear c1 t0 t1 t2 r0 r1 rf d0 d1 df
            obtain ⟨c0, c1, t0, t1, t2, x0, x1, x2, x3, x4, x5, x6, x7, x8, x9, x10, x11, r0, r1, rf⟩ := HALL.out w7 (HV.out.bl.trans (HB7.out.mono hwc))
            obtain ⟨d0, d1, df⟩ := HOUT.out w7 HB7.out
            clear x0 x1 x2 x3 x4 x5 x6 x7 x8 x9 x10 x11
            go_wp2
            refine bodyPost_ret (v := .tuple #[.agg #[.int .i64 kh, .slice A5 L.length c5], .string ⟨#[]⟩, .bool false, .int .i64 3]) (by simp [results, Tryz.results15, go_sem, *]) rfl ?_
            exact ChRes.mk HE.out rfl hci (HV.out.ret HBW.out HB7.out (by omega) hlW _ _)
          subst s0
          by_cases s1 : ye = ep
          rotate_left
          · have HQ := Lib.hid s1
            have HE := Lib.hid (HL4.out (by rw [HLQ2.out, HSA.out]; simp [HQ.out]))
            have hs1 : (ye == ep) = false := beq_eq_false_iff_ne.2 s1
            have hs2 : ¬ ye = ep := HQ.out
            go_wp2_with (fail)
            have Gc0 := Grown.cell c0
            have Gg0 := Grown.cell g0
            have Gg1 := Grown.cell g1
            have Gg2 := Grown.cell g2
            have Gg3 := Grown.cell g3
            have Gq0 := Grown.cell q0
            have Gq1 := Grown.cell q1
            have Gq2 := Grown.cell q2
            have Gq3 := Grown.cell q3
            clear c0 g0 g1 g2 g3 q0 q1 q2 q3
            refine wp_region_grown (by kernel_rfl) (by kernel_rfl) ?_
            repeat (go_big_quiet_step (first | (go_at_call 56; exact grown_call (HCH.out _ (Grown.ok _)))))
            refine wpQuiet_nil ?_
            intro w7 hw_
            have HB07 := Lib.hid (grown_below hw_)
            clear hw_ Gc0 Gg0 Gg1 Gg2 Gg3 Gq0 Gq1 Gq2 Gq3
            have HB7 := Lib.hid (HBc10.out.trans (HB07.out.mono HBc10.out.size))
            clear c1 t0 t1 t2 r0 r1 rf d0 d1 df
            obtain ⟨c0, c1, t0, t1, t2, x0, x1, x2, x3, x4, x5, x6, x7, x8, x9, x10, x11, r0, r1, rf⟩ := HALL.out w7 (HV.out.bl.trans (HB7.out.mono hwc))
            obtain ⟨d0, d1, df⟩ := HOUT.out w7 HB7.out
            clear x0 x1 x2 x3 x4 x5 x6 x7 x8 x9 x10 x11
            go_wp2
            refine bodyPost_ret (v := .tuple #[.agg #[.int .i64 kh, .slice A5 L.length c5], .string ⟨#[]⟩, .bool false, .int .i64 3]) (by simp [results, Tryz.results15, go_sem, *]) rfl ?_
            exact ChRes.mk HE.out rfl hci (HV.out.ret HBW.out HB7.out (by omega) hlW _ _)
          subst s1
          by_cases s2 : yr = hr
          rotate_left
          · have HQ := Lib.hid s2
            have HE := Lib.hid (HL4.out (by rw [HLQ2.out, HSA.out]; simp [HQ.out]))
            have hs1 : (yr.toList == hr.toList) = false := str_ne s2
            have hs2 : ¬ yr.toList = hr.toList := fun e => HQ.out (toList_inj e)
            clear s2
            go_wp2_with (fail)
            have Gc0 := Grown.cell c0
            have Gg0 := Grown.cell g0
            have Gg1 := Grown.cell g1
            have Gg2 := Grown.cell g2
            have Gg3 := Grown.cell g3
            have Gq0 := Grown.cell q0
            have Gq1 := Grown.cell q1
            have Gq2 := Grown.cell q2
            have Gq3 := Grown.cell q3
            clear c0 g0 g1 g2 g3 q0 q1 q2 q3
            refine wp_region_grown (by kernel_rfl) (by kernel_rfl) ?_
            repeat (go_big_quiet_step (first | (go_at_call 56; exact grown_call (HCH.out _ (Grown.ok _)))))
            refine wpQuiet_nil ?_
            intro w7 hw_
            have HB07 := Lib.hid (grown_below hw_)
            clear hw_ Gc0 Gg0 Gg1 Gg2 Gg3 Gq0 Gq1 Gq2 Gq3
            have HB7 := Lib.hid (HBc10.out.trans (HB07.out.mono HBc10.out.size))
            clear c1 t0 t1 t2 r0 r1 rf d0 d1 df
            obtain ⟨c0, c1, t0, t1, t2, x0, x1, x2, x3, x4, x5, x6, x7, x8, x9, x10, x11, r0, r1, rf⟩ := HALL.out w7 (HV.out.bl.trans (HB7.out.mono hwc))
            obtain ⟨d0, d1, df⟩ := HOUT.out w7 HB7.out
            clear x0 x1 x2 x3 x4 x5 x6 x7 x8 x9 x10 x11
            go_wp2
            refine bodyPost_ret (v := .tuple #[.agg #[.int .i64 kh, .slice A5 L.length c5], .string ⟨#[]⟩, .bool false, .int .i64 3]) (by simp [results, Tryz.results15, go_sem, *]) rfl ?_
            exact ChRes.mk HE.out rfl hci (HV.out.ret HBW.out HB7.out (by omega) hlW _ _)
          subst s2
          by_cases s3 : yp = hp
          rotate_left
          · have HQ := Lib.hid s3
            have HE := Lib.hid (HL4.out (by rw [HLQ2.out, HSA.out]; simp [HQ.out]))
            have hs1 : (yp.toList == hp.toList) = false := str_ne s3
            have hs2 : ¬ yp.toList = hp.toList := fun e => HQ.out (toList_inj e)
            clear s3
            go_wp2_with (fail)
            have Gc0 := Grown.cell c0
            have Gg0 := Grown.cell g0
            have Gg1 := Grown.cell g1
            have Gg2 := Grown.cell g2
            have Gg3 := Grown.cell g3
            have Gq0 := Grown.cell q0
            have Gq1 := Grown.cell q1
            have Gq2 := Grown.cell q2
            have Gq3 := Grown.cell q3
            clear c0 g0 g1 g2 g3 q0 q1 q2 q3
            refine wp_region_grown (by kernel_rfl) (by kernel_rfl) ?_
            repeat (go_big_quiet_step (first | (go_at_call 56; exact grown_call (HCH.out _ (Grown.ok _)))))
            refine wpQuiet_nil ?_
            intro w7 hw_
            have HB07 := Lib.hid (grown_below hw_)
            clear hw_ Gc0 Gg0 Gg1 Gg2 Gg3 Gq0 Gq1 Gq2 Gq3
            have HB7 := Lib.hid (HBc10.out.trans (HB07.out.mono HBc10.out.size))
            clear c1 t0 t1 t2 r0 r1 rf d0 d1 df
            obtain ⟨c0, c1, t0, t1, t2, x0, x1, x2, x3, x4, x5, x6, x7, x8, x9, x10, x11, r0, r1, rf⟩ := HALL.out w7 (HV.out.bl.trans (HB7.out.mono hwc))
            obtain ⟨d0, d1, df⟩ := HOUT.out w7 HB7.out
            clear x0 x1 x2 x3 x4 x5 x6 x7 x8 x9 x10 x11
            go_wp2
            refine bodyPost_ret (v := .tuple #[.agg #[.int .i64 kh, .slice A5 L.length c5], .string ⟨#[]⟩, .bool false, .int .i64 3]) (by simp [results, Tryz.results15, go_sem, *]) rfl ?_
            exact ChRes.mk HE.out rfl hci (HV.out.ret HBW.out HB7.out (by omega) hlW _ _)
          subst s3
          have HE := Lib.hid (HL5.out (by rw [HLQ2.out, HSA.out]; simp))
          go_wp2_with (fail)
          have Gc0 := Grown.cell c0
          have Gg0 := Grown.cell g0
          have Gg1 := Grown.cell g1
          have Gg2 := Grown.cell g2
          have Gg3 := Grown.cell g3
          have Gq0 := Grown.cell q0
          have Gq1 := Grown.cell q1
          have Gq2 := Grown.cell q2
          have Gq3 := Grown.cell q3
          clear c0 g0 g1 g2 g3 q0 q1 q2 q3
          refine wp_region_grown (by kernel_rfl) (by kernel_rfl) ?_
          repeat (go_big_quiet_step (first | (go_at_call 56; exact grown_call (HCH.out _ (Grown.ok _)))))
          refine wpQuiet_nil ?_
          intro w7 hw_
          have HB07 := Lib.hid (grown_below hw_)
          clear hw_ Gc0 Gg0 Gg1 Gg2 Gg3 Gq0 Gq1 Gq2 Gq3
          have HB7 := Lib.hid (HBc10.out.trans (HB07.out.mono HBc10.out.size))
          clear c1 t0 t1 t2 r0 r1 rf d0 d1 df
          obtain ⟨c0, c1, t0, t1, t2, x0, x1, x2, x3, x4, x5, x6, x7, x8, x9, x10, x11, r0, r1, rf⟩ := HALL.out w7 (HV.out.bl.trans (HB7.out.mono hwc))
          obtain ⟨d0, d1, df⟩ := HOUT.out w7 HB7.out
          clear x0 x1 x2 x3 x4 x5 x6 x7 x8 x9 x10 x11
          have HOB := Lib.hid HV.out.lt
          have HOL := Lib.hid HV.out.lo
          have hne1 : ¬ ob = w.heap.size + 1 + 1 + 1 := by have := HOL.out; omega
          have hne2 : ¬ w.heap.size + 1 + 1 + 1 = ob := by have := HOL.out; omega
          go_wp2
          refine bodyPost_ret (v := .tuple #[.agg #[.int .i64 kh, .slice (some ⟨b3, o3, none⟩) N c6], .string v1, .bool v2, .int .i64 0]) (by simp [results, Tryz.results15, go_sem, *]) rfl ?_
          have hwr : wc.heap.size ≤ wr.heap.size := HBc.out.size
          have hob1 := HOB.out
          have hol1 := HOL.out
          exact ChRes.mk HE.out HNL.out.symm hci (own_three O10.out HB07.out HBw.out (by omega) (by omega) (by omega) (by omega) _ _ _)
end Go.Proofs.YtgllafgpmenjjaaGreatDoor
