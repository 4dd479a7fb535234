/- A part of the proof: what the laws need of it. -/
import Derived.Deep.DeepCutAuto
import Derived.Test.YtojbehmbeoemgaaDoorHEvZe
import Derived.Test.YtojbehmbeoemgaaDoorHEvL19xSg
import Derived.Test.YtojbehmbeoemgaaDoorHEvL21xPr
set_option linter.unusedVariables false
set_option linter.unusedSimpArgs false
set_option linter.unusedVariables false
set_option linter.unusedSimpArgs false
namespace Go.Proofs.YtojbehmbeoemgaaDoor
open Go.RowKit Lay Mk
def DsRes (x : Head) (w : World) (e : Ending) (w' : World) : Prop := ∃ c, e = .returned (.tuple #[.agg c.toArray, .string (poolRoot (poolOf (seedOf x.house)))]) ∧ rd true w' c (sealOf (seedOf x.house) x) (nw w.heap.size)
theorem headOk_mk {h e : Int} {r p : ByteArray} (h1 : 0 ≤ h) (h2 : h < 3) (h3 : 0 ≤ e) (h4 : e < 4) (hr : r.size = 16) (hp : if 1 + e = 1 then p = ⟨#[]⟩ else p.size = 16) : headOk ⟨h, 1 + e, r, p⟩ = true := by
  unfold headOk
  have a1 : inB h 0 2 = true := by simp [inB]; omega
  have a2 : inB (1 + e) 1 4 = true := by simp [inB]; omega
  simp only [a1, a2, hr]
  by_cases he : 1 + e = 1
  · rw [if_pos he] at hp ⊢; simp [hp]
  · rw [if_neg he] at hp ⊢; simp [hp]
set_option maxRecDepth 20000 in set_option maxHeartbeats 16000000 in
theorem spec_l14Seal (w : World) (g : Nat) (xs : List UInt8) (A : Option Addr) (cap : Nat) (S : Blks) (hc : Cur w g xs A cap) (hx : Row false w A cap xs S) (hS : ∀ b, S b → b < g) (hg : g < w.heap.size) (hl : xs.length ≤ 1048576) : Calls Tryd.prog 46 #[.pointer (some ⟨g, 0, none⟩)] w fun e w' => ∃ x : Head, headOk x = true ∧ DsRes x w e w' ∧ Chg (fun b => b = g ∨ w.heap.size ≤ b) w w' := by
  have hSg : ¬ S g := fun h => by have := hS g h; omega
  go_enter Tryd.func46, Tryd.ntmps46
  go_wp2_with (fail)
  obtain ⟨V, hV⟩ : ∃ V, w.alloc (.cells #[.int .i64 0, .int .i64 0, .string ⟨#[]⟩, .string ⟨#[]⟩, .int .i64 0, .slice none 0 0, .slice none 0 0, .slice none 0 0] 30) = V := ⟨_, rfl⟩
  rw [hV]
  have hVf : Below w.heap.size w V ∧ V.heap.size = w.heap.size + 1 ∧ V.heap[w.heap.size]? = some (.cells #[.int .i64 0, .int .i64 0, .string ⟨#[]⟩, .string ⟨#[]⟩, .int .i64 0, .slice none 0 0, .slice none 0 0, .slice none 0 0] 30 (0, 0)) := by
    rw [← hV]; exact ⟨(Below.refl _ _).alloc (Nat.le_refl _) _, by simp, heap_alloc_new w _⟩
  obtain ⟨hbV, hsV, zV⟩ := hVf
  have cV := hc.keep (hbV.block g hg)
  have rV := Row.later hx hbV
  have chV : Chg (fun b => b = g ∨ w.heap.size ≤ b) w V := ⟨hbV.os, hbV.tape, hbV.output, hbV.size, fun b h1 h2 => hbV.block b h1⟩
  clear hV hbV hc hx
  refine (spec_l01Below V g xs A cap S cV rV hSg hl 3 (by omega) (by omega)).mono ?_
  rintro e1 w1 ⟨hn, rfl, hn0, hn3, c1, ch1⟩
  have r1 : Row false w1 A cap xs S := Row.chg rV ch1 (fun b h1 h2 => by have h3 : b = g := h2; subst h3; exact hSg h1)
  have z1 := (ch1.block w.heap.size (by omega) (fun h => by have h3 : w.heap.size = g := h; omega)).trans zV
  have q1 := chV.trans (ch1.mono (fun b _ h => .inl h))
  have s1 := ch1.size
  clear ch1 rV cV zV chV
  go_wp2_with (fail)
  refine (spec_l01Below w1 g xs A cap S c1 r1 hSg hl 4 (by omega) (by omega)).mono ?_
  rintro e2 w2 ⟨en, rfl, en0, en4, c2, ch2⟩
  have r2 : Row false w2 A cap xs S := Row.chg r1 ch2 (fun b h1 h2 => by have h3 : b = g := h2; subst h3; exact hSg h1)
  have z2 := (ch2.block w.heap.size (by omega) (fun h => by have h3 : w.heap.size = g := h; omega)).trans z1
  have q2 := q1.trans (ch2.mono (fun b _ h => .inl h))
  have s2 := ch2.size
  have hwe : IntKind.i64.wrap (1 + en) = 1 + en := IntWalk.i64_in _ (by omega)
  clear ch2 r1 c1 z1 q1
  go_wp2_with (fail)
  refine (spec_l13Root w2 g xs A cap S c2 r2 hS (by omega) hl).mono ?_
  rintro e3 w3 ⟨rt, rfl, hrt, c3, ch3⟩
  have r3 : Row false w3 A cap xs S := Row.keep r2 (fun b hb => ch3.block b (by have := hS b hb; omega) (fun h => by have := hS b hb; omega))
  have z3 := (ch3.block w.heap.size (by omega) (fun h => by omega)).trans z2
  have q3 := q2.trans (ch3.mono (fun b _ h => h.elim .inl (fun k => .inr (by omega))))
  have s3 := ch3.size
  clear ch3 r2 c2 z2 q2
  go_upto_if 21 with fail
  obtain ⟨H, hH⟩ : ∃ H, w3.alloc (.cells #[.int .i64 hn, .int .i64 (1 + en), .string rt, .string ⟨#[]⟩] 25) = H := ⟨_, rfl⟩
  rw [hH]
  have hHf : Below w3.heap.size w3 H ∧ H.heap.size = w3.heap.size + 1 ∧ H.heap[w3.heap.size]? = some (.cells #[.int .i64 hn, .int .i64 (1 + en), .string rt, .string ⟨#[]⟩] 25 (0, 0)) := by
    rw [← hH]; exact ⟨(Below.refl _ _).alloc (Nat.le_refl _) _, by simp, heap_alloc_new w3 _⟩
  obtain ⟨hbH, hsH, yH⟩ := hHf
  have cH := c3.keep (hbH.block g (by omega))
  have rH := Row.later r3 hbH
  have zH := (hbH.block w.heap.size (by omega)).trans z3
  have qH := q3.below hbH (by omega)
  have h0 := box_at (i := 0) yH rfl
  have h1 := box_at (i := 1) yH rfl
  have h2 := box_at (i := 2) yH rfl
  have h3 := box_at (i := 3) yH rfl
  have hf := box_fz yH
  clear hH hbH c3 r3 z3 q3 yH
  go_cut [] (fun wx => ∃ pv : ByteArray, headOk ⟨hn, 1 + en, rt, pv⟩ = true ∧ wx.cell? ⟨w3.heap.size, 0, none⟩ = some (.int .i64 hn) ∧ wx.cell? ⟨w3.heap.size, 1, none⟩ = some (.int .i64 (1 + en)) ∧ wx.cell? ⟨w3.heap.size, 2, none⟩ = some (.string rt) ∧ wx.cell? ⟨w3.heap.size, 3, none⟩ = some (.string pv) ∧ wx.heap[w.heap.size]? = some (.cells #[.int .i64 0, .int .i64 0, .string ⟨#[]⟩, .string ⟨#[]⟩, .int .i64 0, .slice none 0 0, .slice none 0 0, .slice none 0 0] 30 (0, 0)) ∧ w3.heap.size < wx.heap.size ∧ Chg (fun b => b = g ∨ w.heap.size ≤ b) w wx)
  case first =>
    by_cases he : 1 + en = 1
    · have hed : decide ((1 : Int) < 1 + en) = false := decide_eq_false (by omega)
      have hed2 : ¬ 0 < en := by omega
      have hok := headOk_mk (p := ⟨#[]⟩) hn0 hn3 en0 en4 hrt (by rw [if_pos he])
      go_wp2_with (fail)
      go_meet
      exact ⟨⟨#[]⟩, hok, h0, h1, h2, h3, zH, by omega, qH⟩
    · have hed : decide ((1 : Int) < 1 + en) = true := decide_eq_true (by omega)
      have hed2 : 0 < en := by omega
      go_wp2_with (fail)
      refine (spec_l13Root H g xs A cap S cH rH hS (by omega) hl).mono ?_
      rintro e4 w4 ⟨pv, rfl, hpv, c4, ch4⟩
      have s4 := ch4.size
      have hng : ¬ (w3.heap.size = g ∨ H.heap.size ≤ w3.heap.size) := by omega
      have k0 := (ch4.cell (b := w3.heap.size) (o := 0) (by omega) hng).trans h0
      have k1 := (ch4.cell (b := w3.heap.size) (o := 1) (by omega) hng).trans h1
      have k2 := (ch4.cell (b := w3.heap.size) (o := 2) (by omega) hng).trans h2
      have k3 := (ch4.cell (b := w3.heap.size) (o := 3) (by omega) hng).trans h3
      have kf : ∀ o, w4.frozen? ⟨w3.heap.size, o, none⟩ = false := fun o => by
        have hbk := ch4.block w3.heap.size (by omega) hng
        have := hf o
        unfold World.frozen? at this ⊢
        simp only [hbk]; exact this
      have z4 := (ch4.block w.heap.size (by omega) (fun h => by omega)).trans zH
      have q4 := qH.trans (ch4.mono (fun b _ h => h.elim .inl (fun k => .inr (by omega))))
      have hok := headOk_mk (p := pv) hn0 hn3 en0 en4 hrt (by rw [if_neg he]; exact hpv)
      clear ch4 h0 h1 h2 h3 hf
      go_wp2_with (fail)
      go_meet
      exact ⟨pv, hok, set_keep (by decide) k0, set_keep (by decide) k1, set_keep (by decide) k2, set_here k3, by rw [← z4]; exact (chg_atB (r := w3.heap.size)).block _ (by omega) (fun h => by have h5 : w.heap.size = w3.heap.size := h; omega), by simp; omega, q4.setCell (.inr (by show w.heap.size ≤ w3.heap.size; omega)) _⟩
  case rest =>
    clear h0 h1 h2 h3 hf zH qH cH rH
    obtain ⟨pv, hok, h0, h1, h2, h3, zW, hlW, qW⟩ := hcut
    obtain ⟨x, hxe⟩ : ∃ x : Head, x = ⟨hn, 1 + en, rt, pv⟩ := ⟨_, rfl⟩
    have HOK := Lib.hid hok
    have hnB : inB hn 0 2 = true := by simp [inB]; omega
    have QW := Lib.hid qW
    have hsq := qW.size
    clear hok qW
    go_wp2_with (fail)
    refine (spec_l14Seed wc hn hnB).mono ?_
    rintro e5 w5 ⟨rfl, hb5⟩
    have hsl := seedOf_le hn
    obtain ⟨sd, hsd⟩ : ∃ s, seedOf hn = s := ⟨_, rfl⟩
    have HSD := Lib.hid hsd
    rw [hsd] at hsl ⊢
    clear hsd
    have n5 := hb5.size
    go_wp2_with (fail)
    refine (spec_PoolOf w5 sd (by unfold maxLen; omega)).mono ?_
    rintro e6 w6 ⟨A6, c6, rfl, o6⟩
    have hb6 := hb5.trans (o6.bl.mono n5)
    have n6 := hb6.size
    have RP := Lib.hid o6.weak
    have j0 := (hb6.cell (p := ⟨w3.heap.size, 0, none⟩) hlW).trans h0
    have j1 := (hb6.cell (p := ⟨w3.heap.size, 1, none⟩) hlW).trans h1
    have j2 := (hb6.cell (p := ⟨w3.heap.size, 2, none⟩) hlW).trans h2
    have j3 := (hb6.cell (p := ⟨w3.heap.size, 3, none⟩) hlW).trans h3
    clear h0 h1 h2 h3 hb5 o6
    go_wp2_with (fail)
    refine (spec_SealHead w6 sd hsl A6 c6 _ RP.out ⟨hn, 1 + en, rt, pv⟩ HOK.out).mono ?_
    rintro e7 w7 ⟨c7, rfl, hr7, hb7⟩
    obtain ⟨sl, hsle⟩ : ∃ s, sealOf sd ⟨hn, 1 + en, rt, pv⟩ = s := ⟨_, rfl⟩
    rw [hsle] at hr7
    have HSE := Lib.hid hsle
    obtain ⟨A0, k0, S0, A1, k1, S1, A2, k2, S2, rfl, -⟩ := Seal.open hr7
    have HR7 := Lib.hid hr7
    simp only [Seal.cs]
    have hb67 := hb6.trans (hb7.mono n6)
    have n7 := hb7.size
    have HB67 := Lib.hid hb67
    have RP7 := Lib.hid (Row.later RP.out hb7)
    clear hr7 hb6 hb7 j0 j1 j2 j3 hsle
    go_wp2_with (fail)
    obtain ⟨K, hK⟩ : ∃ K, w7.alloc (.cells #[.int .i64 sl.head.house, .int .i64 sl.head.epoch, .string sl.head.root, .string sl.head.prev, .int .i64 sl.sig.at_, .slice A0 sl.sig.open_.length k0, .slice A1 sl.sig.shut.length k1, .slice A2 sl.sig.sides.length k2] 30) = K := ⟨_, rfl⟩
    rw [hK]
    have hKf : Below w7.heap.size w7 K ∧ K.heap.size = w7.heap.size + 1 ∧ K.cell? ⟨w7.heap.size, 0, none⟩ = some (.int .i64 sl.head.house) ∧ K.cell? ⟨w7.heap.size, 1, none⟩ = some (.int .i64 sl.head.epoch) ∧ K.cell? ⟨w7.heap.size, 2, none⟩ = some (.string sl.head.root) ∧ K.cell? ⟨w7.heap.size, 3, none⟩ = some (.string sl.head.prev) ∧ K.cell? ⟨w7.heap.size, 4, none⟩ = some (.int .i64 sl.sig.at_) ∧ K.cell? ⟨w7.heap.size, 5, none⟩ = some (.slice A0 sl.sig.open_.length k0) ∧ K.cell? ⟨w7.heap.size, 6, none⟩ = some (.slice A1 sl.sig.shut.length k1) ∧ K.cell? ⟨w7.heap.size, 7, none⟩ = some (.slice A2 sl.sig.sides.length k2) := by
      rw [← hK]; exact ⟨(Below.refl _ _).alloc (Nat.le_refl _) _, by simp, box_cell _ _ _ _ _ rfl, box_cell _ _ _ _ _ rfl, box_cell _ _ _ _ _ rfl, box_cell _ _ _ _ _ rfl, box_cell _ _ _ _ _ rfl, box_cell _ _ _ _ _ rfl, box_cell _ _ _ _ _ rfl, box_cell _ _ _ _ _ rfl⟩
    obtain ⟨hbK, hsK, d0, d1, d2, d3, d4, d5, d6, d7⟩ := hKf
    have HBK := Lib.hid (HB67.out.trans (hbK.mono (by omega)))
    have zK := (HBK.out.block w.heap.size (by omega)).trans zW
    have ⟨y0, y1, y2, y3, y4, y5, y6, y7⟩ : K.cell? ⟨w.heap.size, 0, none⟩ = some (.int .i64 0) ∧ K.cell? ⟨w.heap.size, 1, none⟩ = some (.int .i64 0) ∧ K.cell? ⟨w.heap.size, 2, none⟩ = some (.string ⟨#[]⟩) ∧ K.cell? ⟨w.heap.size, 3, none⟩ = some (.string ⟨#[]⟩) ∧ K.cell? ⟨w.heap.size, 4, none⟩ = some (.int .i64 0) ∧ K.cell? ⟨w.heap.size, 5, none⟩ = some (.slice none 0 0) ∧ K.cell? ⟨w.heap.size, 6, none⟩ = some (.slice none 0 0) ∧ K.cell? ⟨w.heap.size, 7, none⟩ = some (.slice none 0 0) := ⟨box_at (i := 0) zK rfl, box_at (i := 1) zK rfl, box_at (i := 2) zK rfl, box_at (i := 3) zK rfl, box_at (i := 4) zK rfl, box_at (i := 5) zK rfl, box_at (i := 6) zK rfl, box_at (i := 7) zK rfl⟩
    have zf := box_fz zK
    have RPK := Lib.hid (Row.later RP7.out hbK)
    have HRK := Lib.hid (Lay.later HR7.out hbK)
    have hpl : (poolOf sd).length ≤ 1048576 := by rw [show (poolOf sd).length = 16 from poolTo_len sd 16]; omega
    have n8 := HBK.out.size
    have hwK : w.heap.size < K.heap.size := by omega
    have hw7K : w7.heap.size < K.heap.size := by omega
    clear hK hbK zW
    have hd : disj (rng w6.heap.size w7.heap.size) (atB w.heap.size) := fun b h1 h2 => by have h3 : b = w.heap.size := h2; have h4 := h1.1; omega
    have HRC : Hid (rd true ((((((((K.setCell ⟨w.heap.size, 0, none⟩ (.int .i64 sl.head.house)).setCell ⟨w.heap.size, 1, none⟩ (.int .i64 sl.head.epoch)).setCell ⟨w.heap.size, 2, none⟩ (.string sl.head.root)).setCell ⟨w.heap.size, 3, none⟩ (.string sl.head.prev)).setCell ⟨w.heap.size, 4, none⟩ (.int .i64 sl.sig.at_)).setCell ⟨w.heap.size, 5, none⟩ (.slice A0 sl.sig.open_.length k0)).setCell ⟨w.heap.size, 6, none⟩ (.slice A1 sl.sig.shut.length k1)).setCell ⟨w.heap.size, 7, none⟩ (.slice A2 sl.sig.sides.length k2)) (Seal.cs sl A0 k0 A1 k1 A2 k2) sl (rng w6.heap.size w7.heap.size)) := Lib.hid (Lay.chg (Lay.chg (Lay.chg (Lay.chg (Lay.chg (Lay.chg (Lay.chg (Lay.chg (HRK.out) chg_atB hd) chg_atB hd) chg_atB hd) chg_atB hd) chg_atB hd) chg_atB hd) chg_atB hd) chg_atB hd)
    have hns : ∀ o : Nat, ¬ nw w5.heap.size (⟨w.heap.size, o, none⟩ : Addr).block := fun o h => by have h1 : w5.heap.size ≤ w.heap.size := h; omega
    have HRQ : Hid (Row false ((((((((K.setCell ⟨w.heap.size, 0, none⟩ (.int .i64 sl.head.house)).setCell ⟨w.heap.size, 1, none⟩ (.int .i64 sl.head.epoch)).setCell ⟨w.heap.size, 2, none⟩ (.string sl.head.root)).setCell ⟨w.heap.size, 3, none⟩ (.string sl.head.prev)).setCell ⟨w.heap.size, 4, none⟩ (.int .i64 sl.sig.at_)).setCell ⟨w.heap.size, 5, none⟩ (.slice A0 sl.sig.open_.length k0)).setCell ⟨w.heap.size, 6, none⟩ (.slice A1 sl.sig.shut.length k1)).setCell ⟨w.heap.size, 7, none⟩ (.slice A2 sl.sig.sides.length k2)) A6 c6 (poolOf sd) (nw w5.heap.size)) := Lib.hid (((((((((RPK.out.setC (hns 0) _).setC (hns 1) _).setC (hns 2) _).setC (hns 3) _).setC (hns 4) _).setC (hns 5) _).setC (hns 6) _).setC (hns 7) _))
    have hwC : w.heap.size < ((((((((K.setCell ⟨w.heap.size, 0, none⟩ (.int .i64 sl.head.house)).setCell ⟨w.heap.size, 1, none⟩ (.int .i64 sl.head.epoch)).setCell ⟨w.heap.size, 2, none⟩ (.string sl.head.root)).setCell ⟨w.heap.size, 3, none⟩ (.string sl.head.prev)).setCell ⟨w.heap.size, 4, none⟩ (.int .i64 sl.sig.at_)).setCell ⟨w.heap.size, 5, none⟩ (.slice A0 sl.sig.open_.length k0)).setCell ⟨w.heap.size, 6, none⟩ (.slice A1 sl.sig.shut.length k1)).setCell ⟨w.heap.size, 7, none⟩ (.slice A2 sl.sig.sides.length k2)).heap.size := by simpa using hwK
    have HCC : Hid (((((((((K.setCell ⟨w.heap.size, 0, none⟩ (.int .i64 sl.head.house)).setCell ⟨w.heap.size, 1, none⟩ (.int .i64 sl.head.epoch)).setCell ⟨w.heap.size, 2, none⟩ (.string sl.head.root)).setCell ⟨w.heap.size, 3, none⟩ (.string sl.head.prev)).setCell ⟨w.heap.size, 4, none⟩ (.int .i64 sl.sig.at_)).setCell ⟨w.heap.size, 5, none⟩ (.slice A0 sl.sig.open_.length k0)).setCell ⟨w.heap.size, 6, none⟩ (.slice A1 sl.sig.shut.length k1)).setCell ⟨w.heap.size, 7, none⟩ (.slice A2 sl.sig.sides.length k2)).cell? ⟨w.heap.size, 0, none⟩ = some (.int .i64 sl.head.house) ∧ ((((((((K.setCell ⟨w.heap.size, 0, none⟩ (.int .i64 sl.head.house)).setCell ⟨w.heap.size, 1, none⟩ (.int .i64 sl.head.epoch)).setCell ⟨w.heap.size, 2, none⟩ (.string sl.head.root)).setCell ⟨w.heap.size, 3, none⟩ (.string sl.head.prev)).setCell ⟨w.heap.size, 4, none⟩ (.int .i64 sl.sig.at_)).setCell ⟨w.heap.size, 5, none⟩ (.slice A0 sl.sig.open_.length k0)).setCell ⟨w.heap.size, 6, none⟩ (.slice A1 sl.sig.shut.length k1)).setCell ⟨w.heap.size, 7, none⟩ (.slice A2 sl.sig.sides.length k2)).cell? ⟨w.heap.size, 1, none⟩ = some (.int .i64 sl.head.epoch) ∧ ((((((((K.setCell ⟨w.heap.size, 0, none⟩ (.int .i64 sl.head.house)).setCell ⟨w.heap.size, 1, none⟩ (.int .i64 sl.head.epoch)).setCell ⟨w.heap.size, 2, none⟩ (.string sl.head.root)).setCell ⟨w.heap.size, 3, none⟩ (.string sl.head.prev)).setCell ⟨w.heap.size, 4, none⟩ (.int .i64 sl.sig.at_)).setCell ⟨w.heap.size, 5, none⟩ (.slice A0 sl.sig.open_.length k0)).setCell ⟨w.heap.size, 6, none⟩ (.slice A1 sl.sig.shut.length k1)).setCell ⟨w.heap.size, 7, none⟩ (.slice A2 sl.sig.sides.length k2)).cell? ⟨w.heap.size, 2, none⟩ = some (.string sl.head.root) ∧ ((((((((K.setCell ⟨w.heap.size, 0, none⟩ (.int .i64 sl.head.house)).setCell ⟨w.heap.size, 1, none⟩ (.int .i64 sl.head.epoch)).setCell ⟨w.heap.size, 2, none⟩ (.string sl.head.root)).setCell ⟨w.heap.size, 3, none⟩ (.string sl.head.prev)).setCell ⟨w.heap.size, 4, none⟩ (.int .i64 sl.sig.at_)).setCell ⟨w.heap.size, 5, none⟩ (.slice A0 sl.sig.open_.length k0)).setCell ⟨w.heap.size, 6, none⟩ (.slice A1 sl.sig.shut.length k1)).setCell ⟨w.heap.size, 7, none⟩ (.slice A2 sl.sig.sides.length k2)).cell? ⟨w.heap.size, 3, none⟩ = some (.string sl.head.prev) ∧ ((((((((K.setCell ⟨w.heap.size, 0, none⟩ (.int .i64 sl.head.house)).setCell ⟨w.heap.size, 1, none⟩ (.int .i64 sl.head.epoch)).setCell ⟨w.heap.size, 2, none⟩ (.string sl.head.root)).setCell ⟨w.heap.size, 3, none⟩ (.string sl.head.prev)).setCell ⟨w.heap.size, 4, none⟩ (.int .i64 sl.sig.at_)).setCell ⟨w.heap.size, 5, none⟩ (.slice A0 sl.sig.open_.length k0)).setCell ⟨w.heap.size, 6, none⟩ (.slice A1 sl.sig.shut.length k1)).setCell ⟨w.heap.size, 7, none⟩ (.slice A2 sl.sig.sides.length k2)).cell? ⟨w.heap.size, 4, none⟩ = some (.int .i64 sl.sig.at_) ∧ ((((((((K.setCell ⟨w.heap.size, 0, none⟩ (.int .i64 sl.head.house)).setCell ⟨w.heap.size, 1, none⟩ (.int .i64 sl.head.epoch)).setCell ⟨w.heap.size, 2, none⟩ (.string sl.head.root)).setCell ⟨w.heap.size, 3, none⟩ (.string sl.head.prev)).setCell ⟨w.heap.size, 4, none⟩ (.int .i64 sl.sig.at_)).setCell ⟨w.heap.size, 5, none⟩ (.slice A0 sl.sig.open_.length k0)).setCell ⟨w.heap.size, 6, none⟩ (.slice A1 sl.sig.shut.length k1)).setCell ⟨w.heap.size, 7, none⟩ (.slice A2 sl.sig.sides.length k2)).cell? ⟨w.heap.size, 5, none⟩ = some (.slice A0 sl.sig.open_.length k0) ∧ ((((((((K.setCell ⟨w.heap.size, 0, none⟩ (.int .i64 sl.head.house)).setCell ⟨w.heap.size, 1, none⟩ (.int .i64 sl.head.epoch)).setCell ⟨w.heap.size, 2, none⟩ (.string sl.head.root)).setCell ⟨w.heap.size, 3, none⟩ (.string sl.head.prev)).setCell ⟨w.heap.size, 4, none⟩ (.int .i64 sl.sig.at_)).setCell ⟨w.heap.size, 5, none⟩ (.slice A0 sl.sig.open_.length k0)).setCell ⟨w.heap.size, 6, none⟩ (.slice A1 sl.sig.shut.length k1)).setCell ⟨w.heap.size, 7, none⟩ (.slice A2 sl.sig.sides.length k2)).cell? ⟨w.heap.size, 6, none⟩ = some (.slice A1 sl.sig.shut.length k1) ∧ ((((((((K.setCell ⟨w.heap.size, 0, none⟩ (.int .i64 sl.head.house)).setCell ⟨w.heap.size, 1, none⟩ (.int .i64 sl.head.epoch)).setCell ⟨w.heap.size, 2, none⟩ (.string sl.head.root)).setCell ⟨w.heap.size, 3, none⟩ (.string sl.head.prev)).setCell ⟨w.heap.size, 4, none⟩ (.int .i64 sl.sig.at_)).setCell ⟨w.heap.size, 5, none⟩ (.slice A0 sl.sig.open_.length k0)).setCell ⟨w.heap.size, 6, none⟩ (.slice A1 sl.sig.shut.length k1)).setCell ⟨w.heap.size, 7, none⟩ (.slice A2 sl.sig.sides.length k2)).cell? ⟨w.heap.size, 7, none⟩ = some (.slice A2 sl.sig.sides.length k2)) := Lib.hid ⟨set_keep (by decide) (set_keep (by decide) (set_keep (by decide) (set_keep (by decide) (set_keep (by decide) (set_keep (by decide) (set_keep (by decide) (set_here (y0)))))))), set_keep (by decide) (set_keep (by decide) (set_keep (by decide) (set_keep (by decide) (set_keep (by decide) (set_keep (by decide) (set_here (set_keep (by decide) (y1)))))))), set_keep (by decide) (set_keep (by decide) (set_keep (by decide) (set_keep (by decide) (set_keep (by decide) (set_here (set_keep (by decide) (set_keep (by decide) (y2)))))))), set_keep (by decide) (set_keep (by decide) (set_keep (by decide) (set_keep (by decide) (set_here (set_keep (by decide) (set_keep (by decide) (set_keep (by decide) (y3)))))))), set_keep (by decide) (set_keep (by decide) (set_keep (by decide) (set_here (set_keep (by decide) (set_keep (by decide) (set_keep (by decide) (set_keep (by decide) (y4)))))))), set_keep (by decide) (set_keep (by decide) (set_here (set_keep (by decide) (set_keep (by decide) (set_keep (by decide) (set_keep (by decide) (set_keep (by decide) (y5)))))))), set_keep (by decide) (set_here (set_keep (by decide) (set_keep (by decide) (set_keep (by decide) (set_keep (by decide) (set_keep (by decide) (set_keep (by decide) (y6)))))))), set_here (set_keep (by decide) (set_keep (by decide) (set_keep (by decide) (set_keep (by decide) (set_keep (by decide) (set_keep (by decide) (set_keep (by decide) (y7))))))))⟩
    have HPR1 := Lib.hid (spec_PoolRoot K.drew (poolOf sd) A6 c6 _ (Row.later RPK.out ((Below.refl _ _).drew)) hpl)
    have HPR2 := Lib.hid (spec_PoolRoot (((((((((K.setCell ⟨w.heap.size, 0, none⟩ (.int .i64 sl.head.house)).setCell ⟨w.heap.size, 1, none⟩ (.int .i64 sl.head.epoch)).setCell ⟨w.heap.size, 2, none⟩ (.string sl.head.root)).setCell ⟨w.heap.size, 3, none⟩ (.string sl.head.prev)).setCell ⟨w.heap.size, 4, none⟩ (.int .i64 sl.sig.at_)).setCell ⟨w.heap.size, 5, none⟩ (.slice A0 sl.sig.open_.length k0)).setCell ⟨w.heap.size, 6, none⟩ (.slice A1 sl.sig.shut.length k1)).setCell ⟨w.heap.size, 7, none⟩ (.slice A2 sl.sig.sides.length k2))).drew (poolOf sd) A6 c6 _ (Row.later HRQ.out ((Below.refl _ _).drew)) hpl)
    have HCW := Lib.hid (QW.out.below HBK.out hsq)
    have HCQ : Hid (Chg (fun b => b = g ∨ w.heap.size ≤ b) w ((((((((K.setCell ⟨w.heap.size, 0, none⟩ (.int .i64 sl.head.house)).setCell ⟨w.heap.size, 1, none⟩ (.int .i64 sl.head.epoch)).setCell ⟨w.heap.size, 2, none⟩ (.string sl.head.root)).setCell ⟨w.heap.size, 3, none⟩ (.string sl.head.prev)).setCell ⟨w.heap.size, 4, none⟩ (.int .i64 sl.sig.at_)).setCell ⟨w.heap.size, 5, none⟩ (.slice A0 sl.sig.open_.length k0)).setCell ⟨w.heap.size, 6, none⟩ (.slice A1 sl.sig.shut.length k1)).setCell ⟨w.heap.size, 7, none⟩ (.slice A2 sl.sig.sides.length k2))) := Lib.hid (((((((((HCW.out).setCell (.inr (Nat.le_refl _)) _).setCell (.inr (Nat.le_refl _)) _).setCell (.inr (Nat.le_refl _)) _).setCell (.inr (Nat.le_refl _)) _).setCell (.inr (Nat.le_refl _)) _).setCell (.inr (Nat.le_refl _)) _).setCell (.inr (Nat.le_refl _)) _).setCell (.inr (Nat.le_refl _)) _)
    clear hns
    go_region_law (first | (go_simp; go_at_call 107; refine HPR1.out.mono ?_; rintro e9 w9 ⟨rfl, hb9'⟩; have hb9 := Below.viad hb9'; have n9 := hb9.size; replace y0 := (hb9.cell (p := ⟨w.heap.size, 0, none⟩) hwK).trans y0; replace d0 := (hb9.cell (p := ⟨w7.heap.size, 0, none⟩) hw7K).trans d0; replace y1 := (hb9.cell (p := ⟨w.heap.size, 1, none⟩) hwK).trans y1; replace d1 := (hb9.cell (p := ⟨w7.heap.size, 1, none⟩) hw7K).trans d1; replace y2 := (hb9.cell (p := ⟨w.heap.size, 2, none⟩) hwK).trans y2; replace d2 := (hb9.cell (p := ⟨w7.heap.size, 2, none⟩) hw7K).trans d2; replace y3 := (hb9.cell (p := ⟨w.heap.size, 3, none⟩) hwK).trans y3; replace d3 := (hb9.cell (p := ⟨w7.heap.size, 3, none⟩) hw7K).trans d3; replace y4 := (hb9.cell (p := ⟨w.heap.size, 4, none⟩) hwK).trans y4; replace d4 := (hb9.cell (p := ⟨w7.heap.size, 4, none⟩) hw7K).trans d4; replace y5 := (hb9.cell (p := ⟨w.heap.size, 5, none⟩) hwK).trans y5; replace d5 := (hb9.cell (p := ⟨w7.heap.size, 5, none⟩) hw7K).trans d5; replace y6 := (hb9.cell (p := ⟨w.heap.size, 6, none⟩) hwK).trans y6; replace d6 := (hb9.cell (p := ⟨w7.heap.size, 6, none⟩) hw7K).trans d6; replace y7 := (hb9.cell (p := ⟨w.heap.size, 7, none⟩) hwK).trans y7; replace d7 := (hb9.cell (p := ⟨w7.heap.size, 7, none⟩) hw7K).trans d7; replace zf := (fun o => (hb9.frozen (p := ⟨w.heap.size, o, none⟩) hwK).trans (zf o)); clear hb9') | (go_simp; go_at_call 107; refine HPR2.out.mono ?_; rintro e9 w9 ⟨rfl, hb9'⟩; have hbS := Below.viad hb9'; obtain ⟨x0, x1, x2, x3, x4, x5, x6, x7⟩ := HCC.out; replace x0 := (hbS.cell (p := ⟨w.heap.size, 0, none⟩) hwC).trans x0; replace x1 := (hbS.cell (p := ⟨w.heap.size, 1, none⟩) hwC).trans x1; replace x2 := (hbS.cell (p := ⟨w.heap.size, 2, none⟩) hwC).trans x2; replace x3 := (hbS.cell (p := ⟨w.heap.size, 3, none⟩) hwC).trans x3; replace x4 := (hbS.cell (p := ⟨w.heap.size, 4, none⟩) hwC).trans x4; replace x5 := (hbS.cell (p := ⟨w.heap.size, 5, none⟩) hwC).trans x5; replace x6 := (hbS.cell (p := ⟨w.heap.size, 6, none⟩) hwC).trans x6; replace x7 := (hbS.cell (p := ⟨w.heap.size, 7, none⟩) hwC).trans x7; clear hb9'))
    all_goals (go_wp2)
    all_goals (refine bodyPost_ret (v := .tuple #[.agg #[.int .i64 sl.head.house, .int .i64 sl.head.epoch, .string sl.head.root, .string sl.head.prev, .int .i64 sl.sig.at_, .slice A0 sl.sig.open_.length k0, .slice A1 sl.sig.shut.length k1, .slice A2 sl.sig.sides.length k2], .string (poolRoot (poolOf sd))]) (by simp [results, Tryd.results46, go_sem, *]) rfl ?_)
    all_goals (refine ⟨⟨hn, 1 + en, rt, pv⟩, HOK.out, ⟨Seal.cs sl A0 k0 A1 k1 A2 k2, by simp only [HSD.out]; rfl, ?_⟩, ?_⟩)
    all_goals (first | (show rd true _ _ (sealOf (seedOf hn) ⟨hn, 1 + en, rt, pv⟩) _; rw [HSD.out, HSE.out]; first | exact Lay.mono (Lay.later HRC.out hbS) (fun b h => by have h1 := h.1; show w.heap.size ≤ b; omega) | exact Lay.mono (Lay.chg (Lay.chg (Lay.chg (Lay.chg (Lay.chg (Lay.chg (Lay.chg (Lay.chg (Lay.later HRK.out hb9) chg_atB hd) chg_atB hd) chg_atB hd) chg_atB hd) chg_atB hd) chg_atB hd) chg_atB hd) chg_atB hd) (fun b h => by have h1 := h.1; show w.heap.size ≤ b; omega)) | exact HCQ.out.below hbS (by have := HCQ.out.size; omega) | exact (((((((((HCW.out.below hb9 (by have := HCW.out.size; omega))).setCell (.inr (Nat.le_refl _)) _).setCell (.inr (Nat.le_refl _)) _).setCell (.inr (Nat.le_refl _)) _).setCell (.inr (Nat.le_refl _)) _).setCell (.inr (Nat.le_refl _)) _).setCell (.inr (Nat.le_refl _)) _).setCell (.inr (Nat.le_refl _)) _).setCell (.inr (Nat.le_refl _)) _)
set_option maxRecDepth 20000 in set_option maxHeartbeats 4000000 in
theorem spec_DrawSeal (w : World) (xs : List UInt8) (A : Option Addr) (cap : Nat) (S : Blks) (hx : Row false w A cap xs S) (hS : ∀ b, S b → b < w.heap.size) (hl : xs.length ≤ 1048576) : Calls Tryd.prog 10 #[.slice A xs.length cap] w fun e w' => ∃ x : Head, headOk x = true ∧ DsRes x w e w' ∧ Below w.heap.size w w' := by
  go_enter Tryd.func10, Tryd.ntmps10
  go_wp2_with (fail)
  obtain ⟨V, hV⟩ : ∃ V, w.alloc (.cells #[.int .i64 0, .int .i64 0, .string ⟨#[]⟩, .string ⟨#[]⟩, .int .i64 0, .slice none 0 0, .slice none 0 0, .slice none 0 0] 30) = V := ⟨_, rfl⟩
  rw [hV]
  have hVf : Below w.heap.size w V ∧ V.heap.size = w.heap.size + 1 ∧ V.heap[w.heap.size]? = some (.cells #[.int .i64 0, .int .i64 0, .string ⟨#[]⟩, .string ⟨#[]⟩, .int .i64 0, .slice none 0 0, .slice none 0 0, .slice none 0 0] 30 (0, 0)) := by
    rw [← hV]; exact ⟨(Below.refl _ _).alloc (Nat.le_refl _) _, by simp, heap_alloc_new w _⟩
  obtain ⟨hbV, hsV, zV⟩ := hVf
  have rV := Row.later hx hbV
  clear hV hx
  refine (spec_l01New V xs A cap S rV hl).mono ?_
  rintro e0 w1 ⟨g, rfl, hg, hc, hb⟩
  have hgl : g < w1.heap.size := by obtain ⟨i, h, _, h2⟩ := hc; exact (Array.getElem?_eq_some_iff.1 h2).1
  have hz := hb.size
  have z1 := (hb.block w.heap.size (by omega)).trans zV
  have hb1 := hbV.trans (hb.mono (by omega))
  go_wp2_with (fail)
  refine (spec_l14Seal w1 g xs A cap S hc (Row.later rV hb) (fun b h => by have := hS b h; omega) hgl hl).mono ?_
  rintro e2 w2 ⟨x, hok, ⟨c2, rfl, hr2⟩, hch⟩
  have z2 := (hch.block w.heap.size (by omega) (fun h => by omega)).trans z1
  have ⟨y0, y1, y2, y3, y4, y5, y6, y7⟩ : w2.cell? ⟨w.heap.size, 0, none⟩ = some (.int .i64 0) ∧ w2.cell? ⟨w.heap.size, 1, none⟩ = some (.int .i64 0) ∧ w2.cell? ⟨w.heap.size, 2, none⟩ = some (.string ⟨#[]⟩) ∧ w2.cell? ⟨w.heap.size, 3, none⟩ = some (.string ⟨#[]⟩) ∧ w2.cell? ⟨w.heap.size, 4, none⟩ = some (.int .i64 0) ∧ w2.cell? ⟨w.heap.size, 5, none⟩ = some (.slice none 0 0) ∧ w2.cell? ⟨w.heap.size, 6, none⟩ = some (.slice none 0 0) ∧ w2.cell? ⟨w.heap.size, 7, none⟩ = some (.slice none 0 0) := ⟨box_at (i := 0) z2 rfl, box_at (i := 1) z2 rfl, box_at (i := 2) z2 rfl, box_at (i := 3) z2 rfl, box_at (i := 4) z2 rfl, box_at (i := 5) z2 rfl, box_at (i := 6) z2 rfl, box_at (i := 7) z2 rfl⟩
  have zf := box_fz z2
  obtain ⟨sl, hsle⟩ : ∃ s, sealOf (seedOf x.house) x = s := ⟨_, rfl⟩
  rw [hsle] at hr2
  obtain ⟨A0, k0, S0, A1, k1, S1, A2, k2, S2, rfl, -⟩ := Seal.open hr2
  have HR2 := Lib.hid hr2
  simp only [Seal.cs]
  have HB2 := Lib.hid (hb1.trans (hch.to_below (by omega) (fun b h => by omega)))
  have hd : disj (nw w1.heap.size) (atB w.heap.size) := fun b h1 h2 => by have h3 : b = w.heap.size := h2; have h4 : w1.heap.size ≤ b := h1; omega
  obtain ⟨rr, hrr⟩ : ∃ r, poolRoot (poolOf (seedOf x.house)) = r := ⟨_, rfl⟩
  rw [hrr]
  have HRR := Lib.hid hrr
  clear hr2 hch z1 z2 hb hc rV zV hrr
  go_wp2
  refine bodyPost_ret (v := .tuple #[.agg #[.int .i64 sl.head.house, .int .i64 sl.head.epoch, .string sl.head.root, .string sl.head.prev, .int .i64 sl.sig.at_, .slice A0 sl.sig.open_.length k0, .slice A1 sl.sig.shut.length k1, .slice A2 sl.sig.sides.length k2], .string rr]) (by simp [results, Tryd.results10, go_sem, *]) rfl ?_
  refine ⟨x, hok, ⟨Seal.cs sl A0 k0 A1 k1 A2 k2, by simp only [HRR.out]; rfl, ?_⟩, Below.setCell (Below.setCell (Below.setCell (Below.setCell (Below.setCell (Below.setCell (Below.setCell (Below.setCell (HB2.out) (Nat.le_refl _) _) (Nat.le_refl _) _) (Nat.le_refl _) _) (Nat.le_refl _) _) (Nat.le_refl _) _) (Nat.le_refl _) _) (Nat.le_refl _) _) (Nat.le_refl _) _⟩
  rw [hsle]
  exact Lay.mono (Lay.chg (Lay.chg (Lay.chg (Lay.chg (Lay.chg (Lay.chg (Lay.chg (Lay.chg (HR2.out) chg_atB hd) chg_atB hd) chg_atB hd) chg_atB hd) chg_atB hd) chg_atB hd) chg_atB hd) chg_atB hd) (fun b h => by have h1 : w1.heap.size ≤ b := h; show w.heap.size ≤ b; omega)
end Go.Proofs.YtojbehmbeoemgaaDoor
