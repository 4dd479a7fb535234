/- A part of the proof: what the laws need of it. -/
import Derived.Deep.RegionHeld3
import Derived.Deep.DeepCutAuto
import Derived.BigQuiet
import Derived.Test.YtojbehmbeoemgaaDoorHEvZg
import Derived.Test.YtojbehmbeoemgaaDoorHEvL18xHo
import Derived.Test.YtojbehmbeoemgaaDoorHEvL25xYg
import Derived.Test.YtojbehmbeoemgaaDoorHEvL10xSa
import Derived.Test.YtojbehmbeoemgaaDoorHEvLw
set_option linter.unusedVariables false
set_option linter.unusedSimpArgs false
set_option linter.unusedVariables false
set_option linter.unusedSimpArgs false
namespace Go.Proofs.YtojbehmbeoemgaaDoor
open Go.RowKit Lay Mk
structure SlCut (W wx : World) (ob : Nat) (x : Seal) (A0 : Option Addr) (k0 : Nat) (A1 : Option Addr) (k1 : Nat) (A2 : Option Addr) (k2 : Nat) : Prop where
  bl : Below W.heap.size W wx
  lt : ob < wx.heap.size
  cc : wx.cell? ⟨ob, 0, none⟩ = some (.int .i64 x.head.house) ∧ wx.cell? ⟨ob, 1, none⟩ = some (.int .i64 x.head.epoch) ∧ wx.cell? ⟨ob, 2, none⟩ = some (.string x.head.root) ∧ wx.cell? ⟨ob, 3, none⟩ = some (.string x.head.prev) ∧ wx.cell? ⟨ob, 4, none⟩ = some (.int .i64 x.sig.at_) ∧ wx.cell? ⟨ob, 5, none⟩ = some (.slice A0 x.sig.open_.length k0) ∧ wx.cell? ⟨ob, 6, none⟩ = some (.slice A1 x.sig.shut.length k1) ∧ wx.cell? ⟨ob, 7, none⟩ = some (.slice A2 x.sig.sides.length k2)
  rdx : rd true wx (Seal.cs x A0 k0 A1 k1 A2 k2) x (nw W.heap.size)
theorem SlCut.early {W v : World} {ob lo : Nat} {x : Seal} {A0 : Option Addr} {k0 : Nat} {A1 : Option Addr} {k1 : Nat} {A2 : Option Addr} {k2 : Nat} {u0 u1 u2 u3 u4 u5 u6 u7 : Value} (hb : Below W.heap.size W v) (h0 : W.heap.size ≤ ob) (hl : ob < lo) (hv : ob < v.heap.size) (hr : rd true v (Seal.cs x A0 k0 A1 k1 A2 k2) x (rng lo v.heap.size)) (y0 : v.cell? ⟨ob, 0, none⟩ = some (u0)) (y1 : v.cell? ⟨ob, 1, none⟩ = some (u1)) (y2 : v.cell? ⟨ob, 2, none⟩ = some (u2)) (y3 : v.cell? ⟨ob, 3, none⟩ = some (u3)) (y4 : v.cell? ⟨ob, 4, none⟩ = some (u4)) (y5 : v.cell? ⟨ob, 5, none⟩ = some (u5)) (y6 : v.cell? ⟨ob, 6, none⟩ = some (u6)) (y7 : v.cell? ⟨ob, 7, none⟩ = some (u7)) :
    SlCut W ((((((((v.setCell ⟨ob, 0, none⟩ (.int .i64 x.head.house)).setCell ⟨ob, 1, none⟩ (.int .i64 x.head.epoch)).setCell ⟨ob, 2, none⟩ (.string x.head.root)).setCell ⟨ob, 3, none⟩ (.string x.head.prev)).setCell ⟨ob, 4, none⟩ (.int .i64 x.sig.at_)).setCell ⟨ob, 5, none⟩ (.slice A0 x.sig.open_.length k0)).setCell ⟨ob, 6, none⟩ (.slice A1 x.sig.shut.length k1)).setCell ⟨ob, 7, none⟩ (.slice A2 x.sig.sides.length k2)) ob x A0 k0 A1 k1 A2 k2 := by
  have hd : disj (rng lo v.heap.size) (atB ob) := fun b h1 h2 => by have h3 : b = ob := h2; have h4 := h1.1; omega
  refine ⟨Below.setCell (Below.setCell (Below.setCell (Below.setCell (Below.setCell (Below.setCell (Below.setCell (Below.setCell (hb) h0 _) h0 _) h0 _) h0 _) h0 _) h0 _) h0 _) h0 _, by simpa using hv, ⟨set_keep (by decide) (set_keep (by decide) (set_keep (by decide) (set_keep (by decide) (set_keep (by decide) (set_keep (by decide) (set_keep (by decide) (set_here (y0)))))))), set_keep (by decide) (set_keep (by decide) (set_keep (by decide) (set_keep (by decide) (set_keep (by decide) (set_keep (by decide) (set_here (set_keep (by decide) (y1)))))))), set_keep (by decide) (set_keep (by decide) (set_keep (by decide) (set_keep (by decide) (set_keep (by decide) (set_here (set_keep (by decide) (set_keep (by decide) (y2)))))))), set_keep (by decide) (set_keep (by decide) (set_keep (by decide) (set_keep (by decide) (set_here (set_keep (by decide) (set_keep (by decide) (set_keep (by decide) (y3)))))))), set_keep (by decide) (set_keep (by decide) (set_keep (by decide) (set_here (set_keep (by decide) (set_keep (by decide) (set_keep (by decide) (set_keep (by decide) (y4)))))))), set_keep (by decide) (set_keep (by decide) (set_here (set_keep (by decide) (set_keep (by decide) (set_keep (by decide) (set_keep (by decide) (set_keep (by decide) (y5)))))))), set_keep (by decide) (set_here (set_keep (by decide) (set_keep (by decide) (set_keep (by decide) (set_keep (by decide) (set_keep (by decide) (set_keep (by decide) (y6)))))))), set_here (set_keep (by decide) (set_keep (by decide) (set_keep (by decide) (set_keep (by decide) (set_keep (by decide) (set_keep (by decide) (set_keep (by decide) (y7))))))))⟩, ?_⟩
  exact Lay.mono (Lay.chg (Lay.chg (Lay.chg (Lay.chg (Lay.chg (Lay.chg (Lay.chg (Lay.chg (hr) chg_atB hd) chg_atB hd) chg_atB hd) chg_atB hd) chg_atB hd) chg_atB hd) chg_atB hd) chg_atB hd) (fun b h => by have := h.1; show W.heap.size ≤ b; omega)
theorem SlCut.late {W v : World} {lo : Nat} {x : Seal} {A0 : Option Addr} {k0 : Nat} {A1 : Option Addr} {k1 : Nat} {A2 : Option Addr} {k2 : Nat} (hb : Below W.heap.size W v) (hl : W.heap.size ≤ lo) (hr : rd true v (Seal.cs x A0 k0 A1 k1 A2 k2) x (rng lo v.heap.size)) (t : TypeId) :
    SlCut W (v.alloc (.cells #[.int .i64 x.head.house, .int .i64 x.head.epoch, .string x.head.root, .string x.head.prev, .int .i64 x.sig.at_, .slice A0 x.sig.open_.length k0, .slice A1 x.sig.shut.length k1, .slice A2 x.sig.sides.length k2] t)) v.heap.size x A0 k0 A1 k1 A2 k2 :=
  ⟨hb.alloc hb.size _, by simp, ⟨box_cell _ _ _ _ _ rfl, box_cell _ _ _ _ _ rfl, box_cell _ _ _ _ _ rfl, box_cell _ _ _ _ _ rfl, box_cell _ _ _ _ _ rfl, box_cell _ _ _ _ _ rfl, box_cell _ _ _ _ _ rfl, box_cell _ _ _ _ _ rfl⟩, Lay.mono (Lay.later hr ((Below.refl _ _).alloc (Nat.le_refl _) _)) (fun b h => Nat.le_trans hl h.1)⟩
theorem seal8 (w : World) (t : TypeId) : Below w.heap.size w (w.alloc (.cells #[.int .i64 0, .int .i64 0, .string ⟨#[]⟩, .string ⟨#[]⟩, .int .i64 0, .slice none 0 0, .slice none 0 0, .slice none 0 0] t)).drew ∧ (w.alloc (.cells #[.int .i64 0, .int .i64 0, .string ⟨#[]⟩, .string ⟨#[]⟩, .int .i64 0, .slice none 0 0, .slice none 0 0, .slice none 0 0] t)).drew.heap.size = w.heap.size + 1 ∧ ((w.alloc (.cells #[.int .i64 0, .int .i64 0, .string ⟨#[]⟩, .string ⟨#[]⟩, .int .i64 0, .slice none 0 0, .slice none 0 0, .slice none 0 0] t)).drew.cell? ⟨w.heap.size, 0, none⟩ = some (.int .i64 0) ∧ (w.alloc (.cells #[.int .i64 0, .int .i64 0, .string ⟨#[]⟩, .string ⟨#[]⟩, .int .i64 0, .slice none 0 0, .slice none 0 0, .slice none 0 0] t)).drew.cell? ⟨w.heap.size, 1, none⟩ = some (.int .i64 0) ∧ (w.alloc (.cells #[.int .i64 0, .int .i64 0, .string ⟨#[]⟩, .string ⟨#[]⟩, .int .i64 0, .slice none 0 0, .slice none 0 0, .slice none 0 0] t)).drew.cell? ⟨w.heap.size, 2, none⟩ = some (.string ⟨#[]⟩) ∧ (w.alloc (.cells #[.int .i64 0, .int .i64 0, .string ⟨#[]⟩, .string ⟨#[]⟩, .int .i64 0, .slice none 0 0, .slice none 0 0, .slice none 0 0] t)).drew.cell? ⟨w.heap.size, 3, none⟩ = some (.string ⟨#[]⟩) ∧ (w.alloc (.cells #[.int .i64 0, .int .i64 0, .string ⟨#[]⟩, .string ⟨#[]⟩, .int .i64 0, .slice none 0 0, .slice none 0 0, .slice none 0 0] t)).drew.cell? ⟨w.heap.size, 4, none⟩ = some (.int .i64 0) ∧ (w.alloc (.cells #[.int .i64 0, .int .i64 0, .string ⟨#[]⟩, .string ⟨#[]⟩, .int .i64 0, .slice none 0 0, .slice none 0 0, .slice none 0 0] t)).drew.cell? ⟨w.heap.size, 5, none⟩ = some (.slice none 0 0) ∧ (w.alloc (.cells #[.int .i64 0, .int .i64 0, .string ⟨#[]⟩, .string ⟨#[]⟩, .int .i64 0, .slice none 0 0, .slice none 0 0, .slice none 0 0] t)).drew.cell? ⟨w.heap.size, 6, none⟩ = some (.slice none 0 0) ∧ (w.alloc (.cells #[.int .i64 0, .int .i64 0, .string ⟨#[]⟩, .string ⟨#[]⟩, .int .i64 0, .slice none 0 0, .slice none 0 0, .slice none 0 0] t)).drew.cell? ⟨w.heap.size, 7, none⟩ = some (.slice none 0 0)) ∧ ∀ o, (w.alloc (.cells #[.int .i64 0, .int .i64 0, .string ⟨#[]⟩, .string ⟨#[]⟩, .int .i64 0, .slice none 0 0, .slice none 0 0, .slice none 0 0] t)).drew.frozen? ⟨w.heap.size, o, none⟩ = false := ⟨((Below.refl _ _).alloc (Nat.le_refl _) _).drew, by simp, ⟨box_cell _ _ _ _ _ rfl, box_cell _ _ _ _ _ rfl, box_cell _ _ _ _ _ rfl, box_cell _ _ _ _ _ rfl, box_cell _ _ _ _ _ rfl, box_cell _ _ _ _ _ rfl, box_cell _ _ _ _ _ rfl, box_cell _ _ _ _ _ rfl⟩, fun o => by simp⟩
theorem seal8n (w : World) (t : TypeId) : Below w.heap.size w (w.alloc (.cells #[.int .i64 0, .int .i64 0, .string ⟨#[]⟩, .string ⟨#[]⟩, .int .i64 0, .slice none 0 0, .slice none 0 0, .slice none 0 0] t)) ∧ (w.alloc (.cells #[.int .i64 0, .int .i64 0, .string ⟨#[]⟩, .string ⟨#[]⟩, .int .i64 0, .slice none 0 0, .slice none 0 0, .slice none 0 0] t)).heap.size = w.heap.size + 1 ∧ ((w.alloc (.cells #[.int .i64 0, .int .i64 0, .string ⟨#[]⟩, .string ⟨#[]⟩, .int .i64 0, .slice none 0 0, .slice none 0 0, .slice none 0 0] t)).cell? ⟨w.heap.size, 0, none⟩ = some (.int .i64 0) ∧ (w.alloc (.cells #[.int .i64 0, .int .i64 0, .string ⟨#[]⟩, .string ⟨#[]⟩, .int .i64 0, .slice none 0 0, .slice none 0 0, .slice none 0 0] t)).cell? ⟨w.heap.size, 1, none⟩ = some (.int .i64 0) ∧ (w.alloc (.cells #[.int .i64 0, .int .i64 0, .string ⟨#[]⟩, .string ⟨#[]⟩, .int .i64 0, .slice none 0 0, .slice none 0 0, .slice none 0 0] t)).cell? ⟨w.heap.size, 2, none⟩ = some (.string ⟨#[]⟩) ∧ (w.alloc (.cells #[.int .i64 0, .int .i64 0, .string ⟨#[]⟩, .string ⟨#[]⟩, .int .i64 0, .slice none 0 0, .slice none 0 0, .slice none 0 0] t)).cell? ⟨w.heap.size, 3, none⟩ = some (.string ⟨#[]⟩) ∧ (w.alloc (.cells #[.int .i64 0, .int .i64 0, .string ⟨#[]⟩, .string ⟨#[]⟩, .int .i64 0, .slice none 0 0, .slice none 0 0, .slice none 0 0] t)).cell? ⟨w.heap.size, 4, none⟩ = some (.int .i64 0) ∧ (w.alloc (.cells #[.int .i64 0, .int .i64 0, .string ⟨#[]⟩, .string ⟨#[]⟩, .int .i64 0, .slice none 0 0, .slice none 0 0, .slice none 0 0] t)).cell? ⟨w.heap.size, 5, none⟩ = some (.slice none 0 0) ∧ (w.alloc (.cells #[.int .i64 0, .int .i64 0, .string ⟨#[]⟩, .string ⟨#[]⟩, .int .i64 0, .slice none 0 0, .slice none 0 0, .slice none 0 0] t)).cell? ⟨w.heap.size, 6, none⟩ = some (.slice none 0 0) ∧ (w.alloc (.cells #[.int .i64 0, .int .i64 0, .string ⟨#[]⟩, .string ⟨#[]⟩, .int .i64 0, .slice none 0 0, .slice none 0 0, .slice none 0 0] t)).cell? ⟨w.heap.size, 7, none⟩ = some (.slice none 0 0)) ∧ ∀ o, (w.alloc (.cells #[.int .i64 0, .int .i64 0, .string ⟨#[]⟩, .string ⟨#[]⟩, .int .i64 0, .slice none 0 0, .slice none 0 0, .slice none 0 0] t)).frozen? ⟨w.heap.size, o, none⟩ = false := ⟨(Below.refl _ _).alloc (Nat.le_refl _) _, by simp, ⟨box_cell _ _ _ _ _ rfl, box_cell _ _ _ _ _ rfl, box_cell _ _ _ _ _ rfl, box_cell _ _ _ _ _ rfl, box_cell _ _ _ _ _ rfl, box_cell _ _ _ _ _ rfl, box_cell _ _ _ _ _ rfl, box_cell _ _ _ _ _ rfl⟩, fun o => by simp⟩
theorem pair_rdF {w : World} {s t : Seal} {c1 c2 : List Value} {S1 S2 : Blks} (h1 : rd false w c1 s S1) (h2 : rd false w c2 t S2) : rd false w (c1 ++ c2) (⟨s, t⟩ : Pair) All := ⟨c1, c2, S1, S2, rfl, fun _ _ => trivial, fun _ _ => trivial, fun h => (by cases h), h1, h2⟩
theorem szL_txts (m : Nat) : ∀ (l : List ByteArray), (∀ s ∈ l, s.size ≤ m) → szL l ≤ l.length * (m + 1)
  | [], _ => Nat.zero_le _
  | x :: l, h => by
    have ih := szL_txts m l (fun s hs => h s (List.mem_cons_of_mem _ hs))
    have hx := h x (List.mem_cons_self ..)
    have e : sz x = x.size := rfl
    simp only [szL, List.length_cons, List.map_cons, List.sum_cons] at ih ⊢
    rw [Nat.succ_mul]; omega
theorem wide_sz {l : List ByteArray} {n : Nat} (h : wideOk l n = true) : szL l ≤ n * 17 := by
  obtain ⟨h1, h2⟩ := wide_at h
  have := szL_txts 16 l (fun s hs => by rw [h2 s hs]; exact Nat.le_refl _)
  rw [h1] at this; exact this
theorem seal_sz {seed : ByteArray} (hs : seed.size ≤ 100) {x : Head} (hx : headOk x = true) : (sealOf seed x).sz ≤ 2000 := by
  obtain ⟨-, ha⟩ := seal_at hx
  obtain ⟨-, h1, h2, h3⟩ := form_parts (sign_form hs ha (headHash x))
  obtain ⟨-, -, h4, h5⟩ := headOk_b hx
  have g1 := wide_sz h1; have g2 := wide_sz h2; have g3 := wide_sz h3
  show Seal.sz ⟨x, signSig seed (x.epoch.toNat - 1) (headHash x)⟩ ≤ 2000
  simp only [Seal.sz, Sig.sz, Head.sz]
  omega
theorem pool_root_size {seed : ByteArray} (h : seed.size ≤ 100) : (poolRoot (poolOf seed)).size = 16 := by
  have hl : (poolOf seed).length = 16 := poolTo_len seed 16
  unfold poolRoot
  rw [if_pos hl]
  have a0 := pool_16 h
  have a1 := all16_up a0
  have a2 := all16_up a1
  have a3 := all16_up a2
  have a4 := all16_up a3
  show ((aboveL 16 (aboveL 16 (aboveL 16 (aboveL 16 (poolOf seed))))).getD 0 ⟨#[]⟩).size = 16
  apply a4
  simp only [aboveL_len, hl]; omega
theorem headOk_new {x : Head} (hx : headOk x = true) {r : ByteArray} (hr : r.size = x.root.size) : headOk ⟨x.house, x.epoch, r, x.prev⟩ = true := by
  unfold headOk at hx ⊢
  simp only [hr]; exact hx
set_option maxRecDepth 100000 in set_option maxHeartbeats 16000000 in
theorem law_FnEvidence (w : World) (p0 : List UInt8) (Ap : Option Addr) (kp : Nat) (Sp : Blks) (hp0 : Row false w Ap kp p0 Sp) (lp0 : p0.length ≤ kp) (mp0 : kp ≤ maxLen) (hT : Tabs w) : Calls Tryd.prog 3 #[.slice Ap p0.length kp] w fun e w' => e = .returned (.bool true) ∧ Below w.heap.size w w' := by
  have HT := Lib.hid hT; clear hT
  replace hp0 := old_rngR hp0
  by_cases hbig : (1048576 : Int) < p0.length
  · have hd := decide_eq_true hbig
    go_enter Tryd.func3, Tryd.ntmps3
    go_wp2_with (go_at_call 9; refine (laws_big _ _ _ _).mono ?_; rintro e w' ⟨rfl, rfl⟩)
    go_ret; exact ⟨rfl, Below.refl _ _⟩
  have hd := decide_eq_false hbig
  have hlen : p0.length ≤ 1048576 := by omega
  clear hbig
  go_enter Tryd.func3, Tryd.ntmps3
  go_wp2_with (go_at_call 9; refine (laws_big _ _ _ _).mono ?_; rintro e w' ⟨rfl, rfl⟩)
  refine (spec_DrawSeal _ p0 _ _ _ hp0 (fun b hb => hb.2) hlen).mono ?_
  rintro e1 w1 ⟨x, hok, ⟨cx, rfl, hrx⟩, hb1⟩
  obtain ⟨⟨hh0, hh1⟩, ⟨he0, he1⟩, hrs, hpv⟩ := headOk_b hok
  have hsd := seedOf_le x.house
  have HSZ := Lib.hid (seal_sz hsd hok)
  have HEY := Lib.hid (fun r hr h2 => evid_yes hsd hok (r := r) hr h2)
  have HEN := Lib.hid (fun root s hr => evid_not (root := root) hsd hok s hr)
  have HSX : Hid ((sealOf (seedOf x.house) x).head = x) := Lib.hid rfl
  have hrl : (poolRoot (poolOf (seedOf x.house))).size = 16 := pool_root_size hsd
  have HOK := Lib.hid hok
  have HSH := Lib.hid (fun W A c S (h : Row false W A c (poolOf (seedOf x.house)) S) y hy => spec_SealHead W (seedOf x.house) hsd A c S h y hy)
  have HZZ := Lib.hid (fun y hy => seal_sz (x := y) hsd hy)
  obtain ⟨s, hse⟩ : ∃ s, sealOf (seedOf x.house) x = s := ⟨_, rfl⟩
  rw [hse] at hrx HSZ HSX
  simp only [hse] at HEY HEN
  obtain ⟨root, hroot⟩ : ∃ r, poolRoot (poolOf (seedOf x.house)) = r := ⟨_, rfl⟩
  rw [hroot] at hrl ⊢
  simp only [hroot] at HEY HEN
  clear hse hroot
  obtain ⟨A0, k0, S0, A1, k1, S1, A2, k2, S2, rfl, -⟩ := Seal.open hrx
  have HRX := Lib.hid hrx
  simp only [Seal.cs]
  have hsh : s.head = x := HSX.out
  rw [hsh]
  have HB1 := Lib.hid hb1
  have HP1 := Lib.hid (Row.later hp0 hb1)
  have hn1 := hb1.size
  clear hrx hok hp0 hsd
  go_wp2_with (fail)
  obtain ⟨V1, hV1⟩ : ∃ V, w1.alloc (.cells #[.int .i64 x.house, .int .i64 x.epoch, .string x.root, .string x.prev, .int .i64 s.sig.at_, .slice A0 s.sig.open_.length k0, .slice A1 s.sig.shut.length k1, .slice A2 s.sig.sides.length k2] 30) = V := ⟨_, rfl⟩
  rw [hV1]
  have hF1 : Below w1.heap.size w1 V1 ∧ V1.heap.size = w1.heap.size + 1 ∧ V1.cell? ⟨w1.heap.size, 0, none⟩ = some (.int .i64 x.house) ∧ V1.cell? ⟨w1.heap.size, 1, none⟩ = some (.int .i64 x.epoch) ∧ V1.cell? ⟨w1.heap.size, 2, none⟩ = some (.string x.root) ∧ V1.cell? ⟨w1.heap.size, 3, none⟩ = some (.string x.prev) ∧ V1.cell? ⟨w1.heap.size, 4, none⟩ = some (.int .i64 s.sig.at_) ∧ V1.cell? ⟨w1.heap.size, 5, none⟩ = some (.slice A0 s.sig.open_.length k0) ∧ V1.cell? ⟨w1.heap.size, 6, none⟩ = some (.slice A1 s.sig.shut.length k1) ∧ V1.cell? ⟨w1.heap.size, 7, none⟩ = some (.slice A2 s.sig.sides.length k2) := by
    rw [← hV1]; exact ⟨(Below.refl _ _).alloc (Nat.le_refl _) _, by simp, box_cell _ _ _ _ _ rfl, box_cell _ _ _ _ _ rfl, box_cell _ _ _ _ _ rfl, box_cell _ _ _ _ _ rfl, box_cell _ _ _ _ _ rfl, box_cell _ _ _ _ _ rfl, box_cell _ _ _ _ _ rfl, box_cell _ _ _ _ _ rfl⟩
  obtain ⟨hbV1, hsV1, d0, d1, d2, d3, d4, d5, d6, d7⟩ := hF1
  have HRX1 := Lib.hid (old_rng (Lay.weak HRX.out))
  clear hV1
  refine (spec_DrawPlaces V1 p0 _ _ _ (Row.later HP1.out hbV1) (fun b hb => by have := hb.2; omega) hlen).mono ?_
  rintro e2 w2 ⟨PL, AP, cP, rfl, hPl, hPb, hPr, hb2⟩
  have HPl := Lib.hid hPl; have HPb := Lib.hid hPb; clear hPl hPb
  have n2 := hb2.size
  have HB12 := Lib.hid (hbV1.trans (hb2.mono (by omega)))
  have hl1 : w1.heap.size < V1.heap.size := by omega
  replace d0 := (hb2.cell (p := ⟨w1.heap.size, 0, none⟩) hl1).trans d0; replace d1 := (hb2.cell (p := ⟨w1.heap.size, 1, none⟩) hl1).trans d1; replace d2 := (hb2.cell (p := ⟨w1.heap.size, 2, none⟩) hl1).trans d2; replace d3 := (hb2.cell (p := ⟨w1.heap.size, 3, none⟩) hl1).trans d3; replace d4 := (hb2.cell (p := ⟨w1.heap.size, 4, none⟩) hl1).trans d4; replace d5 := (hb2.cell (p := ⟨w1.heap.size, 5, none⟩) hl1).trans d5; replace d6 := (hb2.cell (p := ⟨w1.heap.size, 6, none⟩) hl1).trans d6; replace d7 := (hb2.cell (p := ⟨w1.heap.size, 7, none⟩) hl1).trans d7
  clear hbV1 hb2
  have d2a := fun o => (cell_alloc d2 : (w2.alloc o).cell? ⟨w1.heap.size, 2, none⟩ = _)
  go_wp2_with (fail)
  clear d2a
  obtain ⟨V2, hV2⟩ : ∃ V, w2.alloc (.cells #[.int .i64 x.house, .int .i64 x.epoch, .string x.root, .string x.prev] 25) = V := ⟨_, rfl⟩
  rw [hV2]
  have hF2 : Below w2.heap.size w2 V2 ∧ V2.heap.size = w2.heap.size + 1 ∧ V2.cell? ⟨w2.heap.size, 0, none⟩ = some (.int .i64 x.house) ∧ V2.cell? ⟨w2.heap.size, 1, none⟩ = some (.int .i64 x.epoch) ∧ V2.cell? ⟨w2.heap.size, 2, none⟩ = some (.string x.root) ∧ V2.cell? ⟨w2.heap.size, 3, none⟩ = some (.string x.prev) ∧ ∀ o, V2.frozen? ⟨w2.heap.size, o, none⟩ = false := by
    rw [← hV2]; exact ⟨(Below.refl _ _).alloc (Nat.le_refl _) _, by simp, box_cell _ _ _ _ _ rfl, box_cell _ _ _ _ _ rfl, box_cell _ _ _ _ _ rfl, box_cell _ _ _ _ _ rfl, fun o => by simp⟩
  obtain ⟨hbV2, hsV2, h0, h1, h2, h3, hf⟩ := hF2
  have HPR := Lib.hid (Row.later hPr.tight hbV2)
  clear hV2 hPr
  refine (laws_turned V2 x.root (by omega) (by omega) PL AP cP _ HPR.out HPl.out HPb.out).mono ?_
  rintro e3 w3 ⟨rn, rfl, hrne, hrsz, hb3⟩
  have n3 := hb3.size
  have hb23 := hbV2.trans (hb3.mono (by omega))
  have hl2 : w2.heap.size < V2.heap.size := by omega
  replace h0 := (hb3.cell (p := ⟨w2.heap.size, 0, none⟩) hl2).trans h0
  replace h1 := (hb3.cell (p := ⟨w2.heap.size, 1, none⟩) hl2).trans h1
  replace h2 := (hb3.cell (p := ⟨w2.heap.size, 2, none⟩) hl2).trans h2
  replace h3 := (hb3.cell (p := ⟨w2.heap.size, 3, none⟩) hl2).trans h3
  replace hf := fun o => (hb3.frozen (p := ⟨w2.heap.size, o, none⟩) hl2).trans (hf o)
  have hl12 : w1.heap.size < w2.heap.size := by omega
  replace d0 := (hb23.cell (p := ⟨w1.heap.size, 0, none⟩) hl12).trans d0; replace d1 := (hb23.cell (p := ⟨w1.heap.size, 1, none⟩) hl12).trans d1; replace d2 := (hb23.cell (p := ⟨w1.heap.size, 2, none⟩) hl12).trans d2; replace d3 := (hb23.cell (p := ⟨w1.heap.size, 3, none⟩) hl12).trans d3; replace d4 := (hb23.cell (p := ⟨w1.heap.size, 4, none⟩) hl12).trans d4; replace d5 := (hb23.cell (p := ⟨w1.heap.size, 5, none⟩) hl12).trans d5; replace d6 := (hb23.cell (p := ⟨w1.heap.size, 6, none⟩) hl12).trans d6; replace d7 := (hb23.cell (p := ⟨w1.heap.size, 7, none⟩) hl12).trans d7
  have HPR3 := Lib.hid (Row.later HPR.out hb3)
  have HB23 := Lib.hid hb23
  clear hbV2 hb3 hb23
  go_wp2_with (fail)
  obtain ⟨V3, hV3⟩ : ∃ V, w3.setCell ⟨w2.heap.size, 2, none⟩ (.string rn) = V := ⟨_, rfl⟩
  rw [hV3]
  have hch3 : Chg (atB w2.heap.size) w3 V3 := by rw [← hV3]; exact chg_atB
  have g0 : V3.cell? ⟨w2.heap.size, 0, none⟩ = some (.int .i64 x.house) := by rw [← hV3]; exact set_keep (by decide) h0
  have g1 : V3.cell? ⟨w2.heap.size, 1, none⟩ = some (.int .i64 x.epoch) := by rw [← hV3]; exact set_keep (by decide) h1
  have g2 : V3.cell? ⟨w2.heap.size, 2, none⟩ = some (.string rn) := by rw [← hV3]; exact set_here h2
  have g3 : V3.cell? ⟨w2.heap.size, 3, none⟩ = some (.string x.prev) := by rw [← hV3]; exact set_keep (by decide) h3
  have nV3 := hch3.size
  have hl13 : w1.heap.size < w3.heap.size := by omega
  have hn13 : ¬ atB w2.heap.size w1.heap.size := fun h => by have h4 : w1.heap.size = w2.heap.size := h; omega
  replace d0 := (hch3.cell (b := w1.heap.size) (o := 0) hl13 hn13).trans d0; replace d1 := (hch3.cell (b := w1.heap.size) (o := 1) hl13 hn13).trans d1; replace d2 := (hch3.cell (b := w1.heap.size) (o := 2) hl13 hn13).trans d2; replace d3 := (hch3.cell (b := w1.heap.size) (o := 3) hl13 hn13).trans d3; replace d4 := (hch3.cell (b := w1.heap.size) (o := 4) hl13 hn13).trans d4; replace d5 := (hch3.cell (b := w1.heap.size) (o := 5) hl13 hn13).trans d5; replace d6 := (hch3.cell (b := w1.heap.size) (o := 6) hl13 hn13).trans d6; replace d7 := (hch3.cell (b := w1.heap.size) (o := 7) hl13 hn13).trans d7
  have HRX3 := Lib.hid (Lay.chg (Lay.later HRX1.out (HB12.out.trans (HB23.out.mono (by omega)))) hch3 (fun b a1 a2 => by have a3 := a1.2; have a4 : b = w2.heap.size := a2; omega))
  have HPR4 := Lib.hid (Row.chg HPR3.out hch3 (fun b a1 a2 => by have a3 := a1.2; have a4 : b = w2.heap.size := a2; omega))
  have HBV3 := Lib.hid ((HB1.out.trans ((HB12.out.trans (HB23.out.mono (by omega))).mono hn1)).trans (hch3.to_below (by omega) (fun b a => by have a4 : b = w2.heap.size := a; omega)))
  clear hV3 h0 h1 h2 h3 hf hch3
  refine (spec_SeedOf V3 x.house (by unfold I64; omega)).mono ?_
  rintro e4 W ⟨rfl, hb4⟩
  have n4 := hb4.size
  have hl2V : w2.heap.size < V3.heap.size := by omega
  have hl1V : w1.heap.size < V3.heap.size := by omega
  replace d0 := (hb4.cell (p := ⟨w1.heap.size, 0, none⟩) hl1V).trans d0; replace d1 := (hb4.cell (p := ⟨w1.heap.size, 1, none⟩) hl1V).trans d1; replace d2 := (hb4.cell (p := ⟨w1.heap.size, 2, none⟩) hl1V).trans d2; replace d3 := (hb4.cell (p := ⟨w1.heap.size, 3, none⟩) hl1V).trans d3; replace d4 := (hb4.cell (p := ⟨w1.heap.size, 4, none⟩) hl1V).trans d4; replace d5 := (hb4.cell (p := ⟨w1.heap.size, 5, none⟩) hl1V).trans d5; replace d6 := (hb4.cell (p := ⟨w1.heap.size, 6, none⟩) hl1V).trans d6; replace d7 := (hb4.cell (p := ⟨w1.heap.size, 7, none⟩) hl1V).trans d7
  replace g0 := (hb4.cell (p := ⟨w2.heap.size, 0, none⟩) hl2V).trans g0; replace g1 := (hb4.cell (p := ⟨w2.heap.size, 1, none⟩) hl2V).trans g1; replace g2 := (hb4.cell (p := ⟨w2.heap.size, 2, none⟩) hl2V).trans g2; replace g3 := (hb4.cell (p := ⟨w2.heap.size, 3, none⟩) hl2V).trans g3
  have HRXW := Lib.hid (Lay.later HRX3.out hb4)
  have HPRW := Lib.hid (Row.later HPR4.out hb4)
  have HBW := Lib.hid (HBV3.out.trans (hb4.mono HBV3.out.size))
  have hoky := headOk_new HOK.out hrsz
  have HSZ2 := Lib.hid (HZZ.out _ hoky)
  have hev := HEY.out rn hrne hoky
  have HSH2 := Lib.hid (fun W' A c S h => HSH.out W' A c S h ⟨x.house, x.epoch, rn, x.prev⟩ hoky)
  have HPO := Lib.hid (fun W' => spec_PoolOf W' (seedOf x.house) (by have := seedOf_le x.house; unfold maxLen; omega))
  obtain ⟨sl, hsl⟩ : ∃ q, sealOf (seedOf x.house) ⟨x.house, x.epoch, rn, x.prev⟩ = q := ⟨_, rfl⟩
  rw [hsl] at HSZ2 hev
  simp only [hsl] at HSH2
  obtain ⟨sd, hsd⟩ : ∃ q, seedOf x.house = q := ⟨_, rfl⟩
  simp only [hsd] at HSH2 HPO
  rw [hsd]
  simp only [Head.cs] at HSH2
  have HEV := Lib.hid hev
  have HNE := Lib.hid hrne
  have hlW1 : w1.heap.size < W.heap.size := by omega
  have hlW2 : w2.heap.size < W.heap.size := by omega
  clear hsl hsd hev hrne hoky hb4 HSH HZZ HEY
  have ⟨j0, j1, j2, j3⟩ : (∀ o, (W.alloc o).cell? ⟨w2.heap.size, 0, none⟩ = some (.int .i64 x.house)) ∧ (∀ o, (W.alloc o).cell? ⟨w2.heap.size, 1, none⟩ = some (.int .i64 x.epoch)) ∧ (∀ o, (W.alloc o).cell? ⟨w2.heap.size, 2, none⟩ = some (.string rn)) ∧ (∀ o, (W.alloc o).cell? ⟨w2.heap.size, 3, none⟩ = some (.string x.prev)) := ⟨fun o => cell_alloc g0, fun o => cell_alloc g1, fun o => cell_alloc g2, fun o => cell_alloc g3⟩
  go_upto_region 8 with fail
  go_cut [8, 9] (fun s8 s9 wx => ∃ (ob : Nat) (B0 : Option Addr) (l0 : Nat) (B1 : Option Addr) (l1 : Nat) (B2 : Option Addr) (l2 : Nat), s8 = .pointer (some ⟨ob, 0, none⟩) ∧ s9 = .bool true ∧ Hid (SlCut W wx ob sl B0 l0 B1 l1 B2 l2))
  case first =>
    clear d0 d1 d2 d3 d4 d5 d6 d7 hsh HRXW HPRW HEV HNE HEN HSX HRX1 HRX3 HPR HPR3 HPR4 HPl HPb HB12 HB23 HBV3 HP1 HRX HSZ HSZ2 HOK HBW hlW1 hh0 hh1 he0 he1 hrs hpv hrl hsV1 hsV2 n2 n3 n4 hl1 hl2 hl12 hl13 hn13 nV3 hl2V hl1V hn1 hrsz hlen lp0 mp0 hd HB1
    go_region_law (first | (go_simp; go_at_call 15; refine (HPO.out ((W.alloc (.cells #[.int .i64 0, .int .i64 0, .string ⟨#[]⟩, .string ⟨#[]⟩, .int .i64 0, .slice none 0 0, .slice none 0 0, .slice none 0 0] 30)).drew)).mono ?_; rintro e5 w5 ⟨A5, c5, rfl, o5⟩; have hb5 := o5.bl; obtain ⟨t1, t2, t3, t4⟩ := seal8 W 30; obtain ⟨y0, y1, y2, y3, y4, y5, y6, y7⟩ := t3; have hs5 := hb5.size; have hq5 : W.heap.size < w5.heap.size := (by omega); have hlw : W.heap.size < (W.alloc (.cells #[.int .i64 0, .int .i64 0, .string ⟨#[]⟩, .string ⟨#[]⟩, .int .i64 0, .slice none 0 0, .slice none 0 0, .slice none 0 0] 30)).drew.heap.size := (by omega); replace y0 := (hb5.cell (p := ⟨W.heap.size, 0, none⟩) hlw).trans y0; replace y1 := (hb5.cell (p := ⟨W.heap.size, 1, none⟩) hlw).trans y1; replace y2 := (hb5.cell (p := ⟨W.heap.size, 2, none⟩) hlw).trans y2; replace y3 := (hb5.cell (p := ⟨W.heap.size, 3, none⟩) hlw).trans y3; replace y4 := (hb5.cell (p := ⟨W.heap.size, 4, none⟩) hlw).trans y4; replace y5 := (hb5.cell (p := ⟨W.heap.size, 5, none⟩) hlw).trans y5; replace y6 := (hb5.cell (p := ⟨W.heap.size, 6, none⟩) hlw).trans y6; replace y7 := (hb5.cell (p := ⟨W.heap.size, 7, none⟩) hlw).trans y7; have yf := (fun o => (hb5.frozen (p := ⟨W.heap.size, o, none⟩) hlw).trans (t4 o)); have hb := Below.step t1 hb5; have m0 := (hb.cell (p := ⟨w2.heap.size, 0, none⟩) hlW2).trans g0; have m1 := (hb.cell (p := ⟨w2.heap.size, 1, none⟩) hlW2).trans g1; have m2 := (hb.cell (p := ⟨w2.heap.size, 2, none⟩) hlW2).trans g2; have m3 := (hb.cell (p := ⟨w2.heap.size, 3, none⟩) hlW2).trans g3; have RP5 := Lib.hid o5.weak; clear hb5 t1 t2 t4 o5 hlw) | (go_simp; go_at_call 15; refine (HPO.out W.drew).mono ?_; rintro e5 w5 ⟨A5, c5, rfl, o5⟩; have hb := Below.viad o5.bl; have hs5 := hb.size; have m0 := (hb.cell (p := ⟨w2.heap.size, 0, none⟩) hlW2).trans g0; have m1 := (hb.cell (p := ⟨w2.heap.size, 1, none⟩) hlW2).trans g1; have m2 := (hb.cell (p := ⟨w2.heap.size, 2, none⟩) hlW2).trans g2; have m3 := (hb.cell (p := ⟨w2.heap.size, 3, none⟩) hlW2).trans g3; have ⟨ma0, ma1, ma2, ma3⟩ : (∀ o, (w5.alloc o).cell? ⟨w2.heap.size, 0, none⟩ = some (.int .i64 x.house)) ∧ (∀ o, (w5.alloc o).cell? ⟨w2.heap.size, 1, none⟩ = some (.int .i64 x.epoch)) ∧ (∀ o, (w5.alloc o).cell? ⟨w2.heap.size, 2, none⟩ = some (.string rn)) ∧ (∀ o, (w5.alloc o).cell? ⟨w2.heap.size, 3, none⟩ = some (.string x.prev)) := ⟨fun o => cell_alloc m0, fun o => cell_alloc m1, fun o => cell_alloc m2, fun o => cell_alloc m3⟩; have RP5 := Lib.hid o5.weak; clear o5) | (go_simp; go_at_call 14; refine (HSH2.out w5 A5 c5 _ RP5.out).mono ?_; rintro e6 w6 ⟨c6, rfl, hr6, hb6⟩; have hq6 := hb6.size; replace y0 := (hb6.cell (p := ⟨W.heap.size, 0, none⟩) hq5).trans y0; replace y1 := (hb6.cell (p := ⟨W.heap.size, 1, none⟩) hq5).trans y1; replace y2 := (hb6.cell (p := ⟨W.heap.size, 2, none⟩) hq5).trans y2; replace y3 := (hb6.cell (p := ⟨W.heap.size, 3, none⟩) hq5).trans y3; replace y4 := (hb6.cell (p := ⟨W.heap.size, 4, none⟩) hq5).trans y4; replace y5 := (hb6.cell (p := ⟨W.heap.size, 5, none⟩) hq5).trans y5; replace y6 := (hb6.cell (p := ⟨W.heap.size, 6, none⟩) hq5).trans y6; replace y7 := (hb6.cell (p := ⟨W.heap.size, 7, none⟩) hq5).trans y7; replace yf := (fun o => (hb6.frozen (p := ⟨W.heap.size, o, none⟩) hq5).trans (yf o)); obtain ⟨B0, l0, T0, B1, l1, T1, B2, l2, T2, rfl, -⟩ := Seal.open hr6; have HR6 := Lib.hid hr6; clear hr6; simp only [Seal.cs]) | (go_simp; go_at_call 14; refine (HSH2.out (w5.alloc (.cells #[.int .i64 0, .int .i64 0, .string ⟨#[]⟩, .string ⟨#[]⟩, .int .i64 0, .slice none 0 0, .slice none 0 0, .slice none 0 0] 30)) A5 c5 _ (Row.later RP5.out ((Below.refl _ _).alloc (Nat.le_refl _) _))).mono ?_; rintro e6 w6 ⟨c6, rfl, hr6, hb6⟩; obtain ⟨t1, t2, t3, t4⟩ := seal8n w5 30; obtain ⟨y0, y1, y2, y3, y4, y5, y6, y7⟩ := t3; have hq6 := hb6.size; have hlw : w5.heap.size < (w5.alloc (.cells #[.int .i64 0, .int .i64 0, .string ⟨#[]⟩, .string ⟨#[]⟩, .int .i64 0, .slice none 0 0, .slice none 0 0, .slice none 0 0] 30)).heap.size := (by omega); replace y0 := (hb6.cell (p := ⟨w5.heap.size, 0, none⟩) hlw).trans y0; replace y1 := (hb6.cell (p := ⟨w5.heap.size, 1, none⟩) hlw).trans y1; replace y2 := (hb6.cell (p := ⟨w5.heap.size, 2, none⟩) hlw).trans y2; replace y3 := (hb6.cell (p := ⟨w5.heap.size, 3, none⟩) hlw).trans y3; replace y4 := (hb6.cell (p := ⟨w5.heap.size, 4, none⟩) hlw).trans y4; replace y5 := (hb6.cell (p := ⟨w5.heap.size, 5, none⟩) hlw).trans y5; replace y6 := (hb6.cell (p := ⟨w5.heap.size, 6, none⟩) hlw).trans y6; replace y7 := (hb6.cell (p := ⟨w5.heap.size, 7, none⟩) hlw).trans y7; have yf := (fun o => (hb6.frozen (p := ⟨w5.heap.size, o, none⟩) hlw).trans (t4 o)); have hbm := hb.trans ((Below.step t1 hb6).mono hs5); rw [t2] at hq6; obtain ⟨B0, l0, T0, B1, l1, T1, B2, l2, T2, rfl, -⟩ := Seal.open hr6; have HR6 := Lib.hid hr6; clear hr6 t1 t4; simp only [Seal.cs]) | (go_simp; go_at_call 14; refine (HSH2.out w5 A5 c5 _ RP5.out).mono ?_; rintro e6 w6 ⟨c6, rfl, hr6, hb6⟩; have hq6 := hb6.size; have hbl := hb.trans (hb6.mono hs5); obtain ⟨B0, l0, T0, B1, l1, T1, B2, l2, T2, rfl, -⟩ := Seal.open hr6; have HR6 := Lib.hid hr6; clear hr6; simp only [Seal.cs]))
    all_goals (go_wp2_with (fail))
    all_goals (go_meet)
    all_goals (first | with_reducible exact ⟨W.heap.size, B0, l0, B1, l1, B2, l2, rfl, rfl, Lib.hid (SlCut.early (hb.trans (hb6.mono hb.size)) (Nat.le_refl _) hq5 (by omega) HR6.out y0 y1 y2 y3 y4 y5 y6 y7)⟩ | with_reducible exact ⟨w5.heap.size, B0, l0, B1, l1, B2, l2, rfl, rfl, Lib.hid (SlCut.early hbm hs5 (by simp) (by omega) HR6.out y0 y1 y2 y3 y4 y5 y6 y7)⟩ | with_reducible exact ⟨w6.heap.size, B0, l0, B1, l1, B2, l2, rfl, rfl, Lib.hid (SlCut.late hbl hs5 HR6.out _)⟩)
  case rest =>
    obtain ⟨ob, B0, l0, B1, l1, B2, l2, rfl, rfl, HCT⟩ := hcut
    have hbc := HCT.out.bl
    obtain ⟨e0, e1, e2, e3, e4, e5, e6, e7⟩ := HCT.out.cc
    replace d0 := (hbc.cell (p := ⟨w1.heap.size, 0, none⟩) hlW1).trans d0; replace d1 := (hbc.cell (p := ⟨w1.heap.size, 1, none⟩) hlW1).trans d1; replace d2 := (hbc.cell (p := ⟨w1.heap.size, 2, none⟩) hlW1).trans d2; replace d3 := (hbc.cell (p := ⟨w1.heap.size, 3, none⟩) hlW1).trans d3; replace d4 := (hbc.cell (p := ⟨w1.heap.size, 4, none⟩) hlW1).trans d4; replace d5 := (hbc.cell (p := ⟨w1.heap.size, 5, none⟩) hlW1).trans d5; replace d6 := (hbc.cell (p := ⟨w1.heap.size, 6, none⟩) hlW1).trans d6; replace d7 := (hbc.cell (p := ⟨w1.heap.size, 7, none⟩) hlW1).trans d7
    have HRXc := Lib.hid (Lay.later HRXW.out hbc)
    have HRSc := Lib.hid (Lay.weak HCT.out.rdx)
    have HPRc := Lib.hid (Row.later HPRW.out hbc)
    have HBcw := Lib.hid (HBW.out.trans (hbc.mono HBW.out.size))
    have ⟨da0, da1, da2, da3, da4, da5, da6, da7⟩ : (∀ o, (wc.alloc o).cell? ⟨w1.heap.size, 0, none⟩ = some (.int .i64 x.house)) ∧ (∀ o, (wc.alloc o).cell? ⟨w1.heap.size, 1, none⟩ = some (.int .i64 x.epoch)) ∧ (∀ o, (wc.alloc o).cell? ⟨w1.heap.size, 2, none⟩ = some (.string x.root)) ∧ (∀ o, (wc.alloc o).cell? ⟨w1.heap.size, 3, none⟩ = some (.string x.prev)) ∧ (∀ o, (wc.alloc o).cell? ⟨w1.heap.size, 4, none⟩ = some (.int .i64 s.sig.at_)) ∧ (∀ o, (wc.alloc o).cell? ⟨w1.heap.size, 5, none⟩ = some (.slice A0 s.sig.open_.length k0)) ∧ (∀ o, (wc.alloc o).cell? ⟨w1.heap.size, 6, none⟩ = some (.slice A1 s.sig.shut.length k1)) ∧ (∀ o, (wc.alloc o).cell? ⟨w1.heap.size, 7, none⟩ = some (.slice A2 s.sig.sides.length k2)) := ⟨fun o => cell_alloc d0, fun o => cell_alloc d1, fun o => cell_alloc d2, fun o => cell_alloc d3, fun o => cell_alloc d4, fun o => cell_alloc d5, fun o => cell_alloc d6, fun o => cell_alloc d7⟩
    clear hbc g0 g1 g2 g3 j0 j1 j2 j3
    go_wp2_with (fail)
    obtain ⟨U, hU⟩ : ∃ U, (wc.alloc (.cells #[.int .i64 x.house, .int .i64 x.epoch, .string x.root, .string x.prev, .int .i64 s.sig.at_, .slice A0 s.sig.open_.length k0, .slice A1 s.sig.shut.length k1, .slice A2 s.sig.sides.length k2, .int .i64 sl.head.house, .int .i64 sl.head.epoch, .string sl.head.root, .string sl.head.prev, .int .i64 sl.sig.at_, .slice B0 sl.sig.open_.length l0, .slice B1 sl.sig.shut.length l1, .slice B2 sl.sig.sides.length l2] 41)).alloc (.cells #[.int .i64 x.house, .int .i64 x.epoch, .string x.root, .string x.prev, .int .i64 s.sig.at_, .slice A0 s.sig.open_.length k0, .slice A1 s.sig.shut.length k1, .slice A2 s.sig.sides.length k2, .int .i64 x.house, .int .i64 x.epoch, .string x.root, .string x.prev, .int .i64 s.sig.at_, .slice A0 s.sig.open_.length k0, .slice A1 s.sig.shut.length k1, .slice A2 s.sig.sides.length k2] 41) = U := ⟨_, rfl⟩
    rw [hU]
    have hUf : Below wc.heap.size wc U ∧ U.heap.size = wc.heap.size + 2 ∧ (U.cell? ⟨wc.heap.size, 0, none⟩ = some (.int .i64 x.house) ∧ U.cell? ⟨wc.heap.size, 1, none⟩ = some (.int .i64 x.epoch) ∧ U.cell? ⟨wc.heap.size, 2, none⟩ = some (.string x.root) ∧ U.cell? ⟨wc.heap.size, 3, none⟩ = some (.string x.prev) ∧ U.cell? ⟨wc.heap.size, 4, none⟩ = some (.int .i64 s.sig.at_) ∧ U.cell? ⟨wc.heap.size, 5, none⟩ = some (.slice A0 s.sig.open_.length k0) ∧ U.cell? ⟨wc.heap.size, 6, none⟩ = some (.slice A1 s.sig.shut.length k1) ∧ U.cell? ⟨wc.heap.size, 7, none⟩ = some (.slice A2 s.sig.sides.length k2) ∧ U.cell? ⟨wc.heap.size, 8, none⟩ = some (.int .i64 sl.head.house) ∧ U.cell? ⟨wc.heap.size, 9, none⟩ = some (.int .i64 sl.head.epoch) ∧ U.cell? ⟨wc.heap.size, 10, none⟩ = some (.string sl.head.root) ∧ U.cell? ⟨wc.heap.size, 11, none⟩ = some (.string sl.head.prev) ∧ U.cell? ⟨wc.heap.size, 12, none⟩ = some (.int .i64 sl.sig.at_) ∧ U.cell? ⟨wc.heap.size, 13, none⟩ = some (.slice B0 sl.sig.open_.length l0) ∧ U.cell? ⟨wc.heap.size, 14, none⟩ = some (.slice B1 sl.sig.shut.length l1) ∧ U.cell? ⟨wc.heap.size, 15, none⟩ = some (.slice B2 sl.sig.sides.length l2)) ∧ U.cell? ⟨wc.heap.size + 1, 0, none⟩ = some (.int .i64 x.house) ∧ U.cell? ⟨wc.heap.size + 1, 1, none⟩ = some (.int .i64 x.epoch) ∧ U.cell? ⟨wc.heap.size + 1, 2, none⟩ = some (.string x.root) ∧ U.cell? ⟨wc.heap.size + 1, 3, none⟩ = some (.string x.prev) ∧ U.cell? ⟨wc.heap.size + 1, 4, none⟩ = some (.int .i64 s.sig.at_) ∧ U.cell? ⟨wc.heap.size + 1, 5, none⟩ = some (.slice A0 s.sig.open_.length k0) ∧ U.cell? ⟨wc.heap.size + 1, 6, none⟩ = some (.slice A1 s.sig.shut.length k1) ∧ U.cell? ⟨wc.heap.size + 1, 7, none⟩ = some (.slice A2 s.sig.sides.length k2) ∧ U.cell? ⟨wc.heap.size + 1, 8, none⟩ = some (.int .i64 x.house) ∧ U.cell? ⟨wc.heap.size + 1, 9, none⟩ = some (.int .i64 x.epoch) ∧ U.cell? ⟨wc.heap.size + 1, 10, none⟩ = some (.string x.root) ∧ U.cell? ⟨wc.heap.size + 1, 11, none⟩ = some (.string x.prev) ∧ U.cell? ⟨wc.heap.size + 1, 12, none⟩ = some (.int .i64 s.sig.at_) ∧ U.cell? ⟨wc.heap.size + 1, 13, none⟩ = some (.slice A0 s.sig.open_.length k0) ∧ U.cell? ⟨wc.heap.size + 1, 14, none⟩ = some (.slice A1 s.sig.shut.length k1) ∧ U.cell? ⟨wc.heap.size + 1, 15, none⟩ = some (.slice A2 s.sig.sides.length k2) := by
      have e1 : wc.heap.size + 1 = (wc.alloc (.cells #[.int .i64 x.house, .int .i64 x.epoch, .string x.root, .string x.prev, .int .i64 s.sig.at_, .slice A0 s.sig.open_.length k0, .slice A1 s.sig.shut.length k1, .slice A2 s.sig.sides.length k2, .int .i64 sl.head.house, .int .i64 sl.head.epoch, .string sl.head.root, .string sl.head.prev, .int .i64 sl.sig.at_, .slice B0 sl.sig.open_.length l0, .slice B1 sl.sig.shut.length l1, .slice B2 sl.sig.sides.length l2] 41)).heap.size := by simp
      rw [← hU]
      exact ⟨((Below.refl _ _).alloc (Nat.le_refl _) _).alloc (by simp) _, by simp, ⟨cell_alloc (box_cell _ _ _ _ _ rfl), cell_alloc (box_cell _ _ _ _ _ rfl), cell_alloc (box_cell _ _ _ _ _ rfl), cell_alloc (box_cell _ _ _ _ _ rfl), cell_alloc (box_cell _ _ _ _ _ rfl), cell_alloc (box_cell _ _ _ _ _ rfl), cell_alloc (box_cell _ _ _ _ _ rfl), cell_alloc (box_cell _ _ _ _ _ rfl), cell_alloc (box_cell _ _ _ _ _ rfl), cell_alloc (box_cell _ _ _ _ _ rfl), cell_alloc (box_cell _ _ _ _ _ rfl), cell_alloc (box_cell _ _ _ _ _ rfl), cell_alloc (box_cell _ _ _ _ _ rfl), cell_alloc (box_cell _ _ _ _ _ rfl), cell_alloc (box_cell _ _ _ _ _ rfl), cell_alloc (box_cell _ _ _ _ _ rfl)⟩, (by rw [e1]; exact box_cell _ _ _ _ _ rfl), (by rw [e1]; exact box_cell _ _ _ _ _ rfl), (by rw [e1]; exact box_cell _ _ _ _ _ rfl), (by rw [e1]; exact box_cell _ _ _ _ _ rfl), (by rw [e1]; exact box_cell _ _ _ _ _ rfl), (by rw [e1]; exact box_cell _ _ _ _ _ rfl), (by rw [e1]; exact box_cell _ _ _ _ _ rfl), (by rw [e1]; exact box_cell _ _ _ _ _ rfl), (by rw [e1]; exact box_cell _ _ _ _ _ rfl), (by rw [e1]; exact box_cell _ _ _ _ _ rfl), (by rw [e1]; exact box_cell _ _ _ _ _ rfl), (by rw [e1]; exact box_cell _ _ _ _ _ rfl), (by rw [e1]; exact box_cell _ _ _ _ _ rfl), (by rw [e1]; exact box_cell _ _ _ _ _ rfl), (by rw [e1]; exact box_cell _ _ _ _ _ rfl), (by rw [e1]; exact box_cell _ _ _ _ _ rfl)⟩
    obtain ⟨hbU, hsU, ⟨a0, a1, a2, a3, a4, a5, a6, a7, a8, a9, a10, a11, a12, a13, a14, a15⟩, b0, b1, b2, b3, b4, b5, b6, b7, b8, b9, b10, b11, b12, b13, b14, b15⟩ := hUf
    have HRA := Lay.later HRXc.out hbU
    have HRB := Lay.later HRSc.out hbU
    simp only [Seal.cs, hsh] at HRA HRB
    have HP2 := Lib.hid (pair_rdF HRA HRB)
    have HP1_ := Lib.hid (pair_rdF HRA HRA)
    have HBU := Lib.hid (HBcw.out.trans (hbU.mono HBcw.out.size))
    have HPRU := Lib.hid (Row.later HPRc.out hbU)
    have HE1 : Hid (∀ W', Below U.heap.size U W' → Calls Tryd.prog 16 #[.string root, .agg #[.int .i64 x.house, .int .i64 x.epoch, .string x.root, .string x.prev, .int .i64 s.sig.at_, .slice A0 s.sig.open_.length k0, .slice A1 s.sig.shut.length k1, .slice A2 s.sig.sides.length k2, .int .i64 sl.head.house, .int .i64 sl.head.epoch, .string sl.head.root, .string sl.head.prev, .int .i64 sl.sig.at_, .slice B0 sl.sig.open_.length l0, .slice B1 sl.sig.shut.length l1, .slice B2 sl.sig.sides.length l2]] W' fun e w' => e = .returned (.bool true) ∧ Below W'.heap.size W' w') := Lib.hid (fun W' h => by
      have q := impl_EvidenceOk W' root (by omega) ⟨s, sl⟩ _ All (Lay.later HP2.out h) (by show s.sz + sl.sz ≤ 1048576; have := HSZ.out; have := HSZ2.out; omega) (HT.out.later (HBU.out.trans (h.mono HBU.out.size)))
      rw [HEV.out] at q; exact q)
    have HE2 : Hid (∀ W', Below U.heap.size U W' → Calls Tryd.prog 16 #[.string root, .agg #[.int .i64 x.house, .int .i64 x.epoch, .string x.root, .string x.prev, .int .i64 s.sig.at_, .slice A0 s.sig.open_.length k0, .slice A1 s.sig.shut.length k1, .slice A2 s.sig.sides.length k2, .int .i64 x.house, .int .i64 x.epoch, .string x.root, .string x.prev, .int .i64 s.sig.at_, .slice A0 s.sig.open_.length k0, .slice A1 s.sig.shut.length k1, .slice A2 s.sig.sides.length k2]] W' fun e w' => e = .returned (.bool false) ∧ Below W'.heap.size W' w') := Lib.hid (fun W' h => by
      have q := impl_EvidenceOk W' root (by omega) ⟨s, s⟩ _ All (Lay.later HP1_.out h) (by show s.sz + s.sz ≤ 1048576; have := HSZ.out; omega) (HT.out.later (HBU.out.trans (h.mono HBU.out.size)))
      rw [evid_same] at q; exact q)
    have HE3 : Hid (∀ r2, r2 ≠ root → r2.size = root.size → ∀ W', Below U.heap.size U W' → Calls Tryd.prog 16 #[.string r2, .agg #[.int .i64 x.house, .int .i64 x.epoch, .string x.root, .string x.prev, .int .i64 s.sig.at_, .slice A0 s.sig.open_.length k0, .slice A1 s.sig.shut.length k1, .slice A2 s.sig.sides.length k2, .int .i64 sl.head.house, .int .i64 sl.head.epoch, .string sl.head.root, .string sl.head.prev, .int .i64 sl.sig.at_, .slice B0 sl.sig.open_.length l0, .slice B1 sl.sig.shut.length l1, .slice B2 sl.sig.sides.length l2]] W' fun e w' => e = .returned (.bool false) ∧ Below W'.heap.size W' w') := Lib.hid (fun r2 hr hrs W' h => by
      have q := impl_EvidenceOk W' r2 (by omega) ⟨s, sl⟩ _ All (Lay.later HP2.out h) (by show s.sz + sl.sz ≤ 1048576; have := HSZ.out; have := HSZ2.out; omega) (HT.out.later (HBU.out.trans (h.mono HBU.out.size)))
      rw [HEN.out r2 sl hr] at q; exact q)
    have HTU := Lib.hid (fun W' (h : Below U.heap.size U W') => laws_turned W' root (by omega) (by omega) PL AP cP _ (Row.later HPRU.out h) HPl.out HPb.out)
    have hlA : wc.heap.size < U.heap.size := by omega
    have hlB : wc.heap.size + 1 < U.heap.size := by omega
    have HALL := Lib.hid (fun (w' : World) (h : Below U.heap.size U w') => (⟨(h.cell (p := ⟨wc.heap.size, 0, none⟩) hlA).trans a0, (h.cell (p := ⟨wc.heap.size, 1, none⟩) hlA).trans a1, (h.cell (p := ⟨wc.heap.size, 2, none⟩) hlA).trans a2, (h.cell (p := ⟨wc.heap.size, 3, none⟩) hlA).trans a3, (h.cell (p := ⟨wc.heap.size, 4, none⟩) hlA).trans a4, (h.cell (p := ⟨wc.heap.size, 5, none⟩) hlA).trans a5, (h.cell (p := ⟨wc.heap.size, 6, none⟩) hlA).trans a6, (h.cell (p := ⟨wc.heap.size, 7, none⟩) hlA).trans a7, (h.cell (p := ⟨wc.heap.size, 8, none⟩) hlA).trans a8, (h.cell (p := ⟨wc.heap.size, 9, none⟩) hlA).trans a9, (h.cell (p := ⟨wc.heap.size, 10, none⟩) hlA).trans a10, (h.cell (p := ⟨wc.heap.size, 11, none⟩) hlA).trans a11, (h.cell (p := ⟨wc.heap.size, 12, none⟩) hlA).trans a12, (h.cell (p := ⟨wc.heap.size, 13, none⟩) hlA).trans a13, (h.cell (p := ⟨wc.heap.size, 14, none⟩) hlA).trans a14, (h.cell (p := ⟨wc.heap.size, 15, none⟩) hlA).trans a15, (h.cell (p := ⟨wc.heap.size + 1, 0, none⟩) hlB).trans b0, (h.cell (p := ⟨wc.heap.size + 1, 1, none⟩) hlB).trans b1, (h.cell (p := ⟨wc.heap.size + 1, 2, none⟩) hlB).trans b2, (h.cell (p := ⟨wc.heap.size + 1, 3, none⟩) hlB).trans b3, (h.cell (p := ⟨wc.heap.size + 1, 4, none⟩) hlB).trans b4, (h.cell (p := ⟨wc.heap.size + 1, 5, none⟩) hlB).trans b5, (h.cell (p := ⟨wc.heap.size + 1, 6, none⟩) hlB).trans b6, (h.cell (p := ⟨wc.heap.size + 1, 7, none⟩) hlB).trans b7, (h.cell (p := ⟨wc.heap.size + 1, 8, none⟩) hlB).trans b8, (h.cell (p := ⟨wc.heap.size + 1, 9, none⟩) hlB).trans b9, (h.cell (p := ⟨wc.heap.size + 1, 10, none⟩) hlB).trans b10, (h.cell (p := ⟨wc.heap.size + 1, 11, none⟩) hlB).trans b11, (h.cell (p := ⟨wc.heap.size + 1, 12, none⟩) hlB).trans b12, (h.cell (p := ⟨wc.heap.size + 1, 13, none⟩) hlB).trans b13, (h.cell (p := ⟨wc.heap.size + 1, 14, none⟩) hlB).trans b14, (h.cell (p := ⟨wc.heap.size + 1, 15, none⟩) hlB).trans b15, h⟩ : w'.cell? ⟨wc.heap.size, 0, none⟩ = some (.int .i64 x.house) ∧ w'.cell? ⟨wc.heap.size, 1, none⟩ = some (.int .i64 x.epoch) ∧ w'.cell? ⟨wc.heap.size, 2, none⟩ = some (.string x.root) ∧ w'.cell? ⟨wc.heap.size, 3, none⟩ = some (.string x.prev) ∧ w'.cell? ⟨wc.heap.size, 4, none⟩ = some (.int .i64 s.sig.at_) ∧ w'.cell? ⟨wc.heap.size, 5, none⟩ = some (.slice A0 s.sig.open_.length k0) ∧ w'.cell? ⟨wc.heap.size, 6, none⟩ = some (.slice A1 s.sig.shut.length k1) ∧ w'.cell? ⟨wc.heap.size, 7, none⟩ = some (.slice A2 s.sig.sides.length k2) ∧ w'.cell? ⟨wc.heap.size, 8, none⟩ = some (.int .i64 sl.head.house) ∧ w'.cell? ⟨wc.heap.size, 9, none⟩ = some (.int .i64 sl.head.epoch) ∧ w'.cell? ⟨wc.heap.size, 10, none⟩ = some (.string sl.head.root) ∧ w'.cell? ⟨wc.heap.size, 11, none⟩ = some (.string sl.head.prev) ∧ w'.cell? ⟨wc.heap.size, 12, none⟩ = some (.int .i64 sl.sig.at_) ∧ w'.cell? ⟨wc.heap.size, 13, none⟩ = some (.slice B0 sl.sig.open_.length l0) ∧ w'.cell? ⟨wc.heap.size, 14, none⟩ = some (.slice B1 sl.sig.shut.length l1) ∧ w'.cell? ⟨wc.heap.size, 15, none⟩ = some (.slice B2 sl.sig.sides.length l2) ∧ w'.cell? ⟨wc.heap.size + 1, 0, none⟩ = some (.int .i64 x.house) ∧ w'.cell? ⟨wc.heap.size + 1, 1, none⟩ = some (.int .i64 x.epoch) ∧ w'.cell? ⟨wc.heap.size + 1, 2, none⟩ = some (.string x.root) ∧ w'.cell? ⟨wc.heap.size + 1, 3, none⟩ = some (.string x.prev) ∧ w'.cell? ⟨wc.heap.size + 1, 4, none⟩ = some (.int .i64 s.sig.at_) ∧ w'.cell? ⟨wc.heap.size + 1, 5, none⟩ = some (.slice A0 s.sig.open_.length k0) ∧ w'.cell? ⟨wc.heap.size + 1, 6, none⟩ = some (.slice A1 s.sig.shut.length k1) ∧ w'.cell? ⟨wc.heap.size + 1, 7, none⟩ = some (.slice A2 s.sig.sides.length k2) ∧ w'.cell? ⟨wc.heap.size + 1, 8, none⟩ = some (.int .i64 x.house) ∧ w'.cell? ⟨wc.heap.size + 1, 9, none⟩ = some (.int .i64 x.epoch) ∧ w'.cell? ⟨wc.heap.size + 1, 10, none⟩ = some (.string x.root) ∧ w'.cell? ⟨wc.heap.size + 1, 11, none⟩ = some (.string x.prev) ∧ w'.cell? ⟨wc.heap.size + 1, 12, none⟩ = some (.int .i64 s.sig.at_) ∧ w'.cell? ⟨wc.heap.size + 1, 13, none⟩ = some (.slice A0 s.sig.open_.length k0) ∧ w'.cell? ⟨wc.heap.size + 1, 14, none⟩ = some (.slice A1 s.sig.shut.length k1) ∧ w'.cell? ⟨wc.heap.size + 1, 15, none⟩ = some (.slice A2 s.sig.sides.length k2) ∧ Below U.heap.size U w'))
    have hB := Below.refl U.heap.size U
    clear hU hbU HRA HRB da0 da1 da2 da3 da4 da5 da6 da7 hsh d0 d1 d2 d3 d4 d5 d6 d7 e0 e1 e2 e3 e4 e5 e6 e7
    as_aux_lemma =>
      go_region_held3 (fun w' => w'.cell? ⟨wc.heap.size, 0, none⟩ = some (.int .i64 x.house) ∧ w'.cell? ⟨wc.heap.size, 1, none⟩ = some (.int .i64 x.epoch) ∧ w'.cell? ⟨wc.heap.size, 2, none⟩ = some (.string x.root) ∧ w'.cell? ⟨wc.heap.size, 3, none⟩ = some (.string x.prev) ∧ w'.cell? ⟨wc.heap.size, 4, none⟩ = some (.int .i64 s.sig.at_) ∧ w'.cell? ⟨wc.heap.size, 5, none⟩ = some (.slice A0 s.sig.open_.length k0) ∧ w'.cell? ⟨wc.heap.size, 6, none⟩ = some (.slice A1 s.sig.shut.length k1) ∧ w'.cell? ⟨wc.heap.size, 7, none⟩ = some (.slice A2 s.sig.sides.length k2) ∧ w'.cell? ⟨wc.heap.size, 8, none⟩ = some (.int .i64 sl.head.house) ∧ w'.cell? ⟨wc.heap.size, 9, none⟩ = some (.int .i64 sl.head.epoch) ∧ w'.cell? ⟨wc.heap.size, 10, none⟩ = some (.string sl.head.root) ∧ w'.cell? ⟨wc.heap.size, 11, none⟩ = some (.string sl.head.prev) ∧ w'.cell? ⟨wc.heap.size, 12, none⟩ = some (.int .i64 sl.sig.at_) ∧ w'.cell? ⟨wc.heap.size, 13, none⟩ = some (.slice B0 sl.sig.open_.length l0) ∧ w'.cell? ⟨wc.heap.size, 14, none⟩ = some (.slice B1 sl.sig.shut.length l1) ∧ w'.cell? ⟨wc.heap.size, 15, none⟩ = some (.slice B2 sl.sig.sides.length l2) ∧ w'.cell? ⟨wc.heap.size + 1, 0, none⟩ = some (.int .i64 x.house) ∧ w'.cell? ⟨wc.heap.size + 1, 1, none⟩ = some (.int .i64 x.epoch) ∧ w'.cell? ⟨wc.heap.size + 1, 2, none⟩ = some (.string x.root) ∧ w'.cell? ⟨wc.heap.size + 1, 3, none⟩ = some (.string x.prev) ∧ w'.cell? ⟨wc.heap.size + 1, 4, none⟩ = some (.int .i64 s.sig.at_) ∧ w'.cell? ⟨wc.heap.size + 1, 5, none⟩ = some (.slice A0 s.sig.open_.length k0) ∧ w'.cell? ⟨wc.heap.size + 1, 6, none⟩ = some (.slice A1 s.sig.shut.length k1) ∧ w'.cell? ⟨wc.heap.size + 1, 7, none⟩ = some (.slice A2 s.sig.sides.length k2) ∧ w'.cell? ⟨wc.heap.size + 1, 8, none⟩ = some (.int .i64 x.house) ∧ w'.cell? ⟨wc.heap.size + 1, 9, none⟩ = some (.int .i64 x.epoch) ∧ w'.cell? ⟨wc.heap.size + 1, 10, none⟩ = some (.string x.root) ∧ w'.cell? ⟨wc.heap.size + 1, 11, none⟩ = some (.string x.prev) ∧ w'.cell? ⟨wc.heap.size + 1, 12, none⟩ = some (.int .i64 s.sig.at_) ∧ w'.cell? ⟨wc.heap.size + 1, 13, none⟩ = some (.slice A0 s.sig.open_.length k0) ∧ w'.cell? ⟨wc.heap.size + 1, 14, none⟩ = some (.slice A1 s.sig.shut.length k1) ∧ w'.cell? ⟨wc.heap.size + 1, 15, none⟩ = some (.slice A2 s.sig.sides.length k2) ∧ Below U.heap.size U w')
        (first | exact HALL.out _ (by (repeat (first | with_reducible exact hB | with_reducible apply Below.drew | with_reducible refine Below.alloc ?_ ?_ _)); all_goals (first | omega | (simp; done) | (simp; omega))))
        (first | (go_at_call 16; with_reducible refine (HE1.out _ ?_).mono ?_; (exact (by (repeat (first | with_reducible exact hB | with_reducible apply Below.drew | with_reducible refine Below.alloc ?_ ?_ _)); all_goals (first | omega | (simp; done) | (simp; omega)))); rintro e6 w6 ⟨rfl, hb6⟩; have hB := Below.step (a := U) (by (repeat (first | with_reducible exact hB | with_reducible apply Below.drew | with_reducible refine Below.alloc ?_ ?_ _)); all_goals (first | omega | (simp; done) | (simp; omega))) hb6; have hs6 := hB.size) | (go_at_call 16; with_reducible refine (HE2.out _ ?_).mono ?_; (exact (by (repeat (first | with_reducible exact hB | with_reducible apply Below.drew | with_reducible refine Below.alloc ?_ ?_ _)); all_goals (first | omega | (simp; done) | (simp; omega)))); rintro e7 w7 ⟨rfl, hb7⟩; have hB := Below.step (a := U) (by (repeat (first | with_reducible exact hB | with_reducible apply Below.drew | with_reducible refine Below.alloc ?_ ?_ _)); all_goals (first | omega | (simp; done) | (simp; omega))) hb7; have hs7 := hB.size) | (go_at_call 12; with_reducible refine (HTU.out _ ?_).mono ?_; (exact (by (repeat (first | with_reducible exact hB | with_reducible apply Below.drew | with_reducible refine Below.alloc ?_ ?_ _)); all_goals (first | omega | (simp; done) | (simp; omega)))); rintro e8 w8 ⟨r2, rfl, hr2, hr2s, hb8⟩; have hB := Below.step (a := U) (by (repeat (first | with_reducible exact hB | with_reducible apply Below.drew | with_reducible refine Below.alloc ?_ ?_ _)); all_goals (first | omega | (simp; done) | (simp; omega))) hb8; have hs8 := hB.size) | (go_at_call 16; with_reducible refine (HE3.out r2 hr2 hr2s _ ?_).mono ?_; (exact (by (repeat (first | with_reducible exact hB | with_reducible apply Below.drew | with_reducible refine Below.alloc ?_ ?_ _)); all_goals (first | omega | (simp; done) | (simp; omega)))); rintro e9 w9 ⟨rfl, hb9⟩; have hB := Below.step (a := U) (by (repeat (first | with_reducible exact hB | with_reducible apply Below.drew | with_reducible refine Below.alloc ?_ ?_ _)); all_goals (first | omega | (simp; done) | (simp; omega))) hb9; have hs9 := hB.size))
      all_goals (go_wp2)
      all_goals (go_ret)
      all_goals (exact ⟨rfl, HBU.out.trans (hB.mono HBU.out.size)⟩)
end Go.Proofs.YtojbehmbeoemgaaDoor
