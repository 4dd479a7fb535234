/- A part of the proof: what the laws need of it. -/
import Derived.BigQuiet
import Derived.Deep.RegionHeld3
import Derived.Test.YtgllafgpmenjjaaGreatDoorHReXa
import Derived.Test.YtgllafgpmenjjaaGreatDoorHReL12xDh
import Derived.Test.YtgllafgpmenjjaaGreatDoorHReXv
import Derived.Test.YtgllafgpmenjjaaGreatDoorHReXw
import Derived.Test.YtgllafgpmenjjaaGreatDoorHReL10xDt
import Derived.Test.YtgllafgpmenjjaaGreatDoorHReL7xLw
import Derived.Test.YtgllafgpmenjjaaGreatDoorHReL9xBy
import Derived.Test.YtgllafgpmenjjaaGreatDoorHReL18xHo
import Derived.Test.YtgllafgpmenjjaaGreatDoorHReL19xSg
import Derived.Test.YtgllafgpmenjjaaGreatDoorHReCe
import Derived.Test.YtgllafgpmenjjaaGreatDoorHReL21xPr
import Derived.Test.YtgllafgpmenjjaaGreatDoorHReL8xRd
set_option linter.unusedVariables false
set_option linter.unusedSimpArgs false
set_option linter.unusedVariables false
set_option linter.unusedSimpArgs false
namespace Go.Proofs.YtgllafgpmenjjaaGreatDoor
open Go.RowKit Lay Mk
theorem FloatCut.new {α : Type} [Lay α] {w w5 : World} {lo hi : Nat} {u v : Value} {x : α} {t : TypeId} (hb : Below w.heap.size w w5) (l0 : w.heap.size ≤ lo) (h2 : hi ≤ w5.heap.size) (hr : rd true w5 [u, v] x (rng lo hi)) : FloatCut w (w5.alloc (.cells #[u, v] t)) w5.heap.size lo hi [u, v] x :=
  have h := float_new w5 u v t
  ⟨hb.alloc hb.size _, hb.size, by simp, l0, by simp; omega, .inr h2, At.two h.2.2.1 h.2.2.2.1, Lay.later hr h.1⟩
theorem At.three {w : World} {b : Nat} {u v z : Value} (h0 : w.cell? ⟨b, 0, none⟩ = some u) (h1 : w.cell? ⟨b, 1, none⟩ = some v) (h2 : w.cell? ⟨b, 2, none⟩ = some z) : At w b 0 [u, v, z] := by
  intro j y hj
  rcases j with _ | _ | _ | j
  · have : u = y := by simpa using hj
    subst this; exact h0
  · have : v = y := by simpa using hj
    subst this; exact h1
  · have : z = y := by simpa using hj
    subst this; exact h2
  · simp at hj
theorem trust_pastR (k : Int) (hk : 0 ≤ k ∧ k ≤ 2) {W : World} {A1 : Option Addr} {c1 : Nat} {U : Blks} (l1 : 3 ≤ c1) (q1 : c1 ≤ maxLen) (r : Row false W A1 c1 pastRoots U) : rd false W [.slice A1 3 c1, .int .i64 k, .int .i64 0] (pastTrust k) All :=
  Trust.mk' (x := ⟨pastRoots, k, 0⟩) (A0 := A1) (k0 := c1) l1 q1 r (fun _ _ => trivial) (by show I64 k; unfold I64; omega) (by show I64 0; unfold I64; omega)
set_option maxRecDepth 100000 in set_option maxHeartbeats 16000000 in
theorem law_FnRemembers (w : World) (p0 : List UInt8) (A0 : Option Addr) (k0 : Nat) (S0 : Blks) (hp0 : Row false w A0 k0 p0 S0) (lp0 : p0.length ≤ k0) (mp0 : k0 ≤ maxLen) (hT : Tabs w) : Calls Tryz.prog 4 #[.slice A0 p0.length k0] w fun e w' => e = .returned (.bool true) ∧ Below w.heap.size w w' := by
  have HT := Lib.hid hT; clear hT
  have k_cl : (Tryz.prog.info? 47).map (·.size) = some 2 := by kernel_rfl
  have k_tr : (Tryz.prog.info? 51).map (·.size) = some 3 := by kernel_rfl
  have k_wh : (Tryz.prog.info? 64).map (·.size) = some 12 := by kernel_rfl
  replace hp0 := old_rngR hp0
  by_cases hbig : (1048576 : Int) < p0.length
  · have hd := decide_eq_true hbig
    go_enter Tryz.func4, Tryz.ntmps4
    go_wp2_with (go_at_call 25; refine (laws_big _ _ _ _).mono ?_; rintro e w' ⟨rfl, rfl⟩)
    go_ret; exact ⟨rfl, Below.refl _ _⟩
  have hd := decide_eq_false hbig
  have hlen : p0.length ≤ 1048576 := by omega
  clear hbig
  go_enter Tryz.func4, Tryz.ntmps4
  go_wp2_with (go_at_call 25; refine (laws_big _ _ _ _).mono ?_; rintro e w' ⟨rfl, rfl⟩)
  refine (spec_DrawPast _ p0 _ _ _ hp0 (fun b hb => hb.2) hlen).mono ?_
  rintro e1 w1 ⟨⟨k, hn, nm, X, hs, A1, c1, Ap, cp, m, rfl, hk, hh, hnm, hM, h1, l1, q1, hl2, hcm, hm, r1, rX⟩, hb1⟩
  have hno := drawnNames_ok nm hnm
  obtain ⟨gX, rfl⟩ : ∃ b, Ap = some ⟨b, 0, none⟩ := by
    rcases rX with ⟨_, h, _⟩ | ⟨g1, cur, e, _⟩
    · rw [show X = ([] : List Whole) from h] at h1; exact absurd h1 (by decide)
    · exact ⟨g1, e⟩
  go_upto_region 4 with (fail)
  obtain ⟨V2, hV2⟩ : ∃ W, (w1.alloc (.cells #[.slice A1 3 c1, .int .i64 k, .int .i64 0] 51)).alloc (.cells #[.slice (some ⟨gX, 0, none⟩) X.length cp] 79) = W := ⟨_, rfl⟩
  have hV2f : Below w1.heap.size w1 V2 ∧ V2.heap.size = w1.heap.size + 1 + 1 ∧ V2.heap[w1.heap.size]? = some (.cells #[.slice A1 3 c1, .int .i64 k, .int .i64 0] 51 (0, 0)) ∧ V2.heap[w1.heap.size + 1]? = some (.cells #[.slice (some ⟨gX, 0, none⟩) X.length cp] 79 (0, 0)) := by
    rw [← hV2]
    refine ⟨((Below.refl _ _).alloc (Nat.le_refl _) _).alloc (by simp) _, by simp, ?_, ?_⟩
    · rw [Below.heap_alloc _ _ _ (by simp)]; exact heap_alloc_new w1 _
    · have := heap_alloc_new (w1.alloc (.cells #[.slice A1 3 c1, .int .i64 k, .int .i64 0] 51)) (.cells #[.slice (some ⟨gX, 0, none⟩) X.length cp] 79)
      rw [World.size_alloc] at this; exact this
  rw [hV2]
  clear hV2
  obtain ⟨b2, s2, y8, y11⟩ := hV2f
  have hwV : Below w.heap.size w V2 := hb1.trans (b2.mono hb1.size)
  have HWV := Lib.hid hwV
  have HTV := Lib.hid (HT.out.later hwV)
  have HMD := Lib.hid hM
  have HXR := Lib.hid (Row.later (Row.lent rX) b2)
  have HTR := Lib.hid (fun W (h : Below V2.heap.size V2 W) => trust_pastR k hk l1 q1 (Row.later (Row.later r1 b2) h))
  have HBX := Lib.hid (fun (W : World) (h : Below V2.heap.size V2 W) => (⟨(h.cell (p := ⟨w1.heap.size, 0, none⟩) (by show w1.heap.size < _; omega)).trans (box_at (i := 0) y8 rfl), (h.cell (p := ⟨w1.heap.size, 1, none⟩) (by show w1.heap.size < _; omega)).trans (box_at (i := 1) y8 rfl), (h.cell (p := ⟨w1.heap.size, 2, none⟩) (by show w1.heap.size < _; omega)).trans (box_at (i := 2) y8 rfl), (h.cell (p := ⟨w1.heap.size + 1, 0, none⟩) (by show w1.heap.size + 1 < _; omega)).trans (box_at (i := 0) y11 rfl)⟩ : W.cell? ⟨w1.heap.size, 0, none⟩ = some (.slice A1 3 c1) ∧ W.cell? ⟨w1.heap.size, 1, none⟩ = some (.int .i64 k) ∧ W.cell? ⟨w1.heap.size, 2, none⟩ = some (.int .i64 0) ∧ W.cell? ⟨w1.heap.size + 1, 0, none⟩ = some (.slice (some ⟨gX, 0, none⟩) X.length cp)))
  have hI : I64 hn := by unfold I64; omega
  have hnz : nm.size ≤ 1048576 := by omega
  have htz := trust_sz_past k
  have HH1 := Lib.hid (fun i (hi : i < X.length) (h1 : i + 1 = X.length) => hM.hear hk hh hno.1 hi h1)
  have HH2 := Lib.hid (fun (h0 : 0 < X.length) (L : List Seal) => hM.again hk hh hno.1 h0 L)
  have HH3 := Lib.hid (fun i (hi : i < X.length) => hM.gap hk hh hno.1 hi)
  have HH4 := Lib.hid (fun (h0 : 0 < X.length) (L : List Seal) (os : List Head) (ho : 0 < os.length) (hd : os[0].root ≠ X[0].seal_.head.root) => hM.split hk hh hno.1 h0 L ho hd)
  have HCO := Lib.hid (hM.right hh)
  have HHS := Lib.hid (made_heads_sz hM hh)
  have HLS := Lib.hid (made_links_sz hM hh)
  have HXZ := Lib.hid (fun i (hi : i < X.length) => made_sz hM hh hi)
  obtain ⟨t, ht⟩ : ∃ t, pastTrust k = t := ⟨_, rfl⟩
  rw [ht] at HH1 HH2 HH3 HH4 HTR htz
  have HTZ : Hid (t.sz ≤ 1048576) := Lib.hid (by omega)
  have hX4 : X.length ≤ 4 := by have := hM.most; have := hM.len; omega
  have hsl : hs.length = X.length := hM.len
  clear ht htz hM r1 rX b2 y8 y11 hb1 hwV hno hnm
  have HCH := Lib.hid (fun (W : World) (h : Below V2.heap.size V2 W) (c : Client) (cc : List Value) (hc : rd false W cc c All) (hz : c.sz ≤ 1048576) (links : List Seal) (AL : Option Addr) (kL : Nat) (hL : Row false W AL kL links All) (lL : links.length ≤ kL) (mL : kL ≤ maxLen) (zL : szL links ≤ 1048576) (i : Nat) (hi : i < X.length) (cx : List Value) (hx : rd false W cx X[i] All) => impl_ClientHear W c cc All hc hz t _ All (HTR.out W h) HTZ.out links AL kL All hL lL mL zL nm hnz X[i] cx All hx (by have := HXZ.out i hi; have h9 : sz X[i] = X[i].sz := rfl; omega) (HTV.out.later h))
  go_wp2_with (fail)
  refine (impl_ClientNew V2 hn hI).mono ?_
  rintro e4 w4 ⟨cc, rfl, rc, hb4⟩
  obtain ⟨AC, kC, SC, rfl, -, -, mC, rC, -⟩ := Client.open rc
  have HRC := Lib.hid (Lay.mono (Lay.weak rc) (S' := All) (fun _ _ => trivial))
  simp only [Client.cs, clientNew, List.length_nil] at HRC ⊢
  have hz4 := hb4.size
  have HB4 := Lib.hid hb4
  clear rc rC hb4
  go_upto_region 5 with (fail)
  obtain ⟨V4, hV4⟩ : ∃ W, w4.alloc (.cells #[.int .i64 hn, .slice AC 0 kC] 47) = W := ⟨_, rfl⟩
  have hV4f : Below w4.heap.size w4 V4 ∧ V4.heap.size = w4.heap.size + 1 ∧ V4.heap[w4.heap.size]? = some (.cells #[.int .i64 hn, .slice AC 0 kC] 47 (0, 0)) := by
    rw [← hV4]
    exact ⟨(Below.refl _ _).alloc (Nat.le_refl _) _, by simp, heap_alloc_new w4 _⟩
  rw [hV4]
  clear hV4
  obtain ⟨b4, s4, y7⟩ := hV4f
  have HBV4 := Lib.hid (HB4.out.trans (b4.mono hz4))
  have HRC4 := Lib.hid (fun W (h : Below V4.heap.size V4 W) => Lay.later (Lay.later HRC.out b4) h)
  have HBC := Lib.hid (fun (W : World) (h : Below V4.heap.size V4 W) => (⟨(h.cell (p := ⟨w4.heap.size, 0, none⟩) (by show w4.heap.size < _; omega)).trans (box_at (i := 0) y7 rfl), (h.cell (p := ⟨w4.heap.size, 1, none⟩) (by show w4.heap.size < _; omega)).trans (box_at (i := 1) y7 rfl)⟩ : W.cell? ⟨w4.heap.size, 0, none⟩ = some (.int .i64 hn) ∧ W.cell? ⟨w4.heap.size, 1, none⟩ = some (.slice AC 0 kC)))
  clear b4 y7 HRC
  have hst := Below.refl V4.heap.size V4
  go_wp2_with (fail)
  go_loopw [8, 9] (fun u i wr => ∃ (j : Nat) (RS : List (Raw Seal)) (A : Option Addr) (c : Nat), j ≤ X.length ∧ i = .int .i64 j ∧ u = .slice A j c ∧ Hid (RS.length = j) ∧ Hid (Own (α := Raw Seal) V4 wr A c RS) ∧ Hid (∀ i (h1 : i < RS.length) (h2 : i < X.length), rd (α := Seal) false V2 RS[i].1 X[i].seal_ All)) (fun _ i _ => X.length - (intOf i).toNat)
  case atStart => exact ⟨0, [], _, 0, Nat.zero_le _, rfl, rfl, Lib.hid rfl, Lib.hid (Own.litAt hst 61 rfl s4.symm), Lib.hid (fun i h1 => absurd h1 (Nat.not_lt_zero _))⟩
  case round =>
    obtain ⟨j, RS, A, c, hj, rfl, rfl, HLN, HOW, HRS⟩ := hrel
    have HBr := Lib.hid (HBV4.out.trans (HOW.out.bl.mono HBV4.out.size))
    obtain ⟨-, -, -, d0⟩ := HBX.out wr HBr.out
    by_cases hlt : j < X.length
    · obtain ⟨b5, o5, c5, T5, e5, hl5, ha5, hr5, -, -⟩ := Row.at_ HXR.out hlt
      injection e5 with e5
      injection e5 with eb eo
      subst eb; subst eo
      obtain ⟨P0, n0, T0, P1, n1, T1, P2, n2, T2, P3, n3, T3, P4, n4, T4, P5, n5, T5', P6, n6, T6, rfl, i1, i2, i3, i4, i5, -, -, -, -, -, -, -, -, -, -, -, -, a3, m3, r3, -, a4, m4, r4, -, a5, m5, r5, -, -⟩ := Whole.open (x := X[j]) hr5
      rw [show Lay.n Whole = 12 from rfl] at ha5
      have hS := Seal.mk' (m := false) (x := X[j].seal_) (S := All) i1 i2 i3 i4 i5 a3 m3 r3 (fun _ _ => trivial) a4 m4 r4 (fun _ _ => trivial) a5 m5 r5 (fun _ _ => trivial) (fun hm => by cases hm)
      have HN : Hid (∀ i (h1 : i < (RS ++ [Raw.of hS]).length) (h2 : i < X.length), rd (α := Seal) false V2 (RS ++ [Raw.of hS])[i].1 X[i].seal_ All) := Lib.hid (fun i h1 h2 => by
        have hln := HLN.out
        by_cases hi : i < RS.length
        · rw [List.getElem_append_left hi]; exact HRS.out i hi h2
        · have hie : i = RS.length := by rw [List.length_append] at h1; simp at h1; omega
          subst hie
          subst hln
          rw [List.getElem_append_right (Nat.le_refl _)]
          simp only [Nat.sub_self, List.getElem_cons_zero]
          exact hS)
      have HV : Hid ((Raw.of hS).1 = Seal.cs X[j].seal_ P3 n3 P4 n4 P5 n5) := Lib.hid rfl
      obtain ⟨RW, hRW⟩ : ∃ r, Raw.of hS = r := ⟨_, rfl⟩
      rw [hRW] at HN HV
      have g3 := (HBr.out.cell (p := ⟨gX, j * 12 + 3, none⟩) hl5).trans (by have := ha5 3 _ rfl; simpa using this)
      have g4 := (HBr.out.cell (p := ⟨gX, j * 12 + 4, none⟩) hl5).trans (by have := ha5 4 _ rfl; simpa using this)
      have g5 := (HBr.out.cell (p := ⟨gX, j * 12 + 5, none⟩) hl5).trans (by have := ha5 5 _ rfl; simpa using this)
      have g6 := (HBr.out.cell (p := ⟨gX, j * 12 + 6, none⟩) hl5).trans (by have := ha5 6 _ rfl; simpa using this)
      have g7 := (HBr.out.cell (p := ⟨gX, j * 12 + 7, none⟩) hl5).trans (by have := ha5 7 _ rfl; simpa using this)
      have g8 := (HBr.out.cell (p := ⟨gX, j * 12 + 8, none⟩) hl5).trans (by have := ha5 8 _ rfl; simpa using this)
      have g9 := (HBr.out.cell (p := ⟨gX, j * 12 + 9, none⟩) hl5).trans (by have := ha5 9 _ rfl; simpa using this)
      have g10 := (HBr.out.cell (p := ⟨gX, j * 12 + 10, none⟩) hl5).trans (by have := ha5 10 _ rfl; simpa using this)
      obtain ⟨sl, hsl2⟩ : ∃ s, X[j].seal_ = s := ⟨_, rfl⟩
      simp only [hsl2] at g3 g4 g5 g6 g7 g8 g9 g10 HV
      clear hRW hS hsl2 ha5 hr5 i1 i2 i3 i4 i5 a3 m3 r3 a4 m4 r4 a5 m5 r5 HRS
      go_wp2_with (at_builtin; refine wpList_push (α := Raw Seal) rfl _ _ rfl rfl HLN.out.symm (HOW.out.alloc _) rfl rfl (src1 (y := RW) trivial rfl HV.out.symm) (by omega) ?_; intro A6 c6 w6 o6 z6)
      go_roundw
      case rel => exact ⟨j + 1, _, A6, c6, by omega, by go_num, rfl, Lib.hid (by simp [HLN.out]), Lib.hid o6, HN⟩
      case measure => simp [intOf]; omega
    · have hje : j = X.length := by omega
      subst hje
      obtain ⟨q, hq⟩ : ∃ q, q + 1 = X.length := ⟨X.length - 1, by omega⟩
      have hql : q < X.length := by omega
      have HLK : Hid (Row (α := Seal) false wr A c (sealsOf X) All) := Lib.hid (Row.cook HOW.out.weak (by rw [HLN.out, sealsOf_len]) (fun i h1 h2 => by
        have h3 : i < X.length := by rw [sealsOf_len] at h2; exact h2
        rw [sealsOf_at h3]
        exact Lay.later (HRS.out i h1 h3) HBr.out))
      have HLC : Hid ((sealsOf X).length ≤ c ∧ c ≤ maxLen) := Lib.hid ⟨by rw [sealsOf_len, ← HLN.out]; exact HOW.out.le, HOW.out.cm⟩
      have HB4r := Lib.hid HOW.out.bl
      obtain ⟨b5, o5, c5, T5, e5, hl5, ha5, hr5, -, -⟩ := Row.at_ HXR.out hql
      injection e5 with e5
      injection e5 with eb eo
      subst eb; subst eo
      have HR5 := Lib.hid (Lay.mono hr5 (S' := All) (fun _ _ => trivial))
      obtain ⟨P0, n0, T0, P1, n1, T1, P2, n2, T2, P3, n3, T3, P4, n4, T4, P5, n5, T5', P6, n6, T6, rfl, -, -, -, -, -, p0a, p0b, p0r, p0s, p1a, p1b, p1r, p1s, -⟩ := Whole.open (x := X[q]) hr5
      rw [show Lay.n Whole = 12 from rfl] at ha5
      have f0 := (HBr.out.cell (p := ⟨gX, q * 12 + 0, none⟩) hl5).trans (by have := ha5 0 _ rfl; simpa using this)
      have f1 := (HBr.out.cell (p := ⟨gX, q * 12 + 1, none⟩) hl5).trans (by have := ha5 1 _ rfl; simpa using this)
      have f2 := (HBr.out.cell (p := ⟨gX, q * 12 + 2, none⟩) hl5).trans (by have := ha5 2 _ rfl; simpa using this)
      have f3 := (HBr.out.cell (p := ⟨gX, q * 12 + 3, none⟩) hl5).trans (by have := ha5 3 _ rfl; simpa using this)
      have f4 := (HBr.out.cell (p := ⟨gX, q * 12 + 4, none⟩) hl5).trans (by have := ha5 4 _ rfl; simpa using this)
      have f5 := (HBr.out.cell (p := ⟨gX, q * 12 + 5, none⟩) hl5).trans (by have := ha5 5 _ rfl; simpa using this)
      have f6 := (HBr.out.cell (p := ⟨gX, q * 12 + 6, none⟩) hl5).trans (by have := ha5 6 _ rfl; simpa using this)
      have f7 := (HBr.out.cell (p := ⟨gX, q * 12 + 7, none⟩) hl5).trans (by have := ha5 7 _ rfl; simpa using this)
      have f8 := (HBr.out.cell (p := ⟨gX, q * 12 + 8, none⟩) hl5).trans (by have := ha5 8 _ rfl; simpa using this)
      have f9 := (HBr.out.cell (p := ⟨gX, q * 12 + 9, none⟩) hl5).trans (by have := ha5 9 _ rfl; simpa using this)
      have f10 := (HBr.out.cell (p := ⟨gX, q * 12 + 10, none⟩) hl5).trans (by have := ha5 10 _ rfl; simpa using this)
      have f11 := (HBr.out.cell (p := ⟨gX, q * 12 + 11, none⟩) hl5).trans (by have := ha5 11 _ rfl; simpa using this)
      simp only [Nat.add_zero] at f0
      have hpz : X[q].proof.sz ≤ 1048576 := by
        have h9 := HXZ.out q hql
        have h10 : sz X[q] = X[q].sz := rfl
        rw [h10] at h9
        simp only [Whole.sz] at h9
        omega
      have HPS := Lib.hid (fun W (h : Below V2.heap.size V2 W) => spec_ProofSays W nm (by unfold maxLen; omega) X[q].proof _ _ (Proof.mk' (m := false) (S := All) (x := X[q].proof) p0a p0b (Row.later p0r h) (fun _ _ => trivial) p1a p1b (Row.later p1r h) (fun _ _ => trivial) (fun hm => by cases hm)) hpz)
      have E1 := Lib.hid (HH1.out q hql hq)
      have E3 := Lib.hid (HH3.out q hql)
      have HCQ := Lib.hid (fun (W : World) (h : Below V2.heap.size V2 W) (cc : List Value) (c : Client) (hc : rd false W cc c All) (hz : c.sz ≤ 1048576) (links : List Seal) (AL : Option Addr) (kL : Nat) (hL : Row false W AL kL links All) (lL : links.length ≤ kL) (mL : kL ≤ maxLen) (zL : szL links ≤ 1048576) => HCH.out W h c cc hc hz links AL kL hL lL mL zL q hql _ (Lay.later HR5.out h))
      obtain ⟨x, hx⟩ : ∃ x, X[q] = x := ⟨_, rfl⟩
      simp only [hx, Whole.cs, Proof.cs] at HR5 f0 f1 f2 f3 f4 f5 f6 f7 f8 f9 f10 f11 HPS E1 E3 HCQ
      have hw1 : IntKind.i64.wrap ((X.length : Int) - 1) = (q : Int) := by rw [IntWalk.i64_in] <;> omega
      have hw2 : (X.length : Int) - 1 = (q : Int) := by omega
      have hqi : (q : Int) < (X.length : Int) := by omega
      have hq0 : (0 : Int) ≤ (q : Int) := by omega
      clear hx ha5 hr5 p0a p0b p0r p0s p1a p1b p1r p1s hpz HOW HRS HLN HH1 HH3 hlt hj
      go_upto_region 11 with (fail)
      obtain ⟨V10, hV10⟩ : ∃ W, wr.alloc (.cells #[.slice P0 x.proof.bucket.length n0, .slice P1 x.proof.sides.length n1, .slice P2 x.tops.length n2, .int .i64 x.seal_.head.house, .int .i64 x.seal_.head.epoch, .string x.seal_.head.root, .string x.seal_.head.prev, .int .i64 x.seal_.sig.at_, .slice P3 x.seal_.sig.open_.length n3, .slice P4 x.seal_.sig.shut.length n4, .slice P5 x.seal_.sig.sides.length n5, .slice P6 x.stamps.length n6] 64) = W := ⟨_, rfl⟩
      have hV10f : Below wr.heap.size wr V10 ∧ V10.heap.size = wr.heap.size + 1 ∧ V10.heap[wr.heap.size]? = some (.cells #[.slice P0 x.proof.bucket.length n0, .slice P1 x.proof.sides.length n1, .slice P2 x.tops.length n2, .int .i64 x.seal_.head.house, .int .i64 x.seal_.head.epoch, .string x.seal_.head.root, .string x.seal_.head.prev, .int .i64 x.seal_.sig.at_, .slice P3 x.seal_.sig.open_.length n3, .slice P4 x.seal_.sig.shut.length n4, .slice P5 x.seal_.sig.sides.length n5, .slice P6 x.stamps.length n6] 64 (0, 0)) := by
        rw [← hV10]
        exact ⟨(Below.refl _ _).alloc (Nat.le_refl _) _, by simp, heap_alloc_new wr _⟩
      rw [hV10]
      clear hV10
      obtain ⟨b10, s10, y10⟩ := hV10f
      have HB10 := Lib.hid (HBr.out.trans (b10.mono HBr.out.size))
      have HB410 := Lib.hid (HB4r.out.trans (b10.mono HB4r.out.size))
      have HBL := Lib.hid (fun (W : World) (h : Below V10.heap.size V10 W) => (⟨(h.cell (p := ⟨wr.heap.size, 0, none⟩) (by show wr.heap.size < _; omega)).trans (box_at (i := 0) y10 rfl), (h.cell (p := ⟨wr.heap.size, 1, none⟩) (by show wr.heap.size < _; omega)).trans (box_at (i := 1) y10 rfl), (h.cell (p := ⟨wr.heap.size, 2, none⟩) (by show wr.heap.size < _; omega)).trans (box_at (i := 2) y10 rfl), (h.cell (p := ⟨wr.heap.size, 3, none⟩) (by show wr.heap.size < _; omega)).trans (box_at (i := 3) y10 rfl), (h.cell (p := ⟨wr.heap.size, 4, none⟩) (by show wr.heap.size < _; omega)).trans (box_at (i := 4) y10 rfl), (h.cell (p := ⟨wr.heap.size, 5, none⟩) (by show wr.heap.size < _; omega)).trans (box_at (i := 5) y10 rfl), (h.cell (p := ⟨wr.heap.size, 6, none⟩) (by show wr.heap.size < _; omega)).trans (box_at (i := 6) y10 rfl), (h.cell (p := ⟨wr.heap.size, 7, none⟩) (by show wr.heap.size < _; omega)).trans (box_at (i := 7) y10 rfl), (h.cell (p := ⟨wr.heap.size, 8, none⟩) (by show wr.heap.size < _; omega)).trans (box_at (i := 8) y10 rfl), (h.cell (p := ⟨wr.heap.size, 9, none⟩) (by show wr.heap.size < _; omega)).trans (box_at (i := 9) y10 rfl), (h.cell (p := ⟨wr.heap.size, 10, none⟩) (by show wr.heap.size < _; omega)).trans (box_at (i := 10) y10 rfl), (h.cell (p := ⟨wr.heap.size, 11, none⟩) (by show wr.heap.size < _; omega)).trans (box_at (i := 11) y10 rfl)⟩ : W.cell? ⟨wr.heap.size, 0, none⟩ = some (.slice P0 x.proof.bucket.length n0) ∧ W.cell? ⟨wr.heap.size, 1, none⟩ = some (.slice P1 x.proof.sides.length n1) ∧ W.cell? ⟨wr.heap.size, 2, none⟩ = some (.slice P2 x.tops.length n2) ∧ W.cell? ⟨wr.heap.size, 3, none⟩ = some (.int .i64 x.seal_.head.house) ∧ W.cell? ⟨wr.heap.size, 4, none⟩ = some (.int .i64 x.seal_.head.epoch) ∧ W.cell? ⟨wr.heap.size, 5, none⟩ = some (.string x.seal_.head.root) ∧ W.cell? ⟨wr.heap.size, 6, none⟩ = some (.string x.seal_.head.prev) ∧ W.cell? ⟨wr.heap.size, 7, none⟩ = some (.int .i64 x.seal_.sig.at_) ∧ W.cell? ⟨wr.heap.size, 8, none⟩ = some (.slice P3 x.seal_.sig.open_.length n3) ∧ W.cell? ⟨wr.heap.size, 9, none⟩ = some (.slice P4 x.seal_.sig.shut.length n4) ∧ W.cell? ⟨wr.heap.size, 10, none⟩ = some (.slice P5 x.seal_.sig.sides.length n5) ∧ W.cell? ⟨wr.heap.size, 11, none⟩ = some (.slice P6 x.stamps.length n6)))
      have HC11 := HCQ.out V10 HB10.out _ ⟨hn, []⟩ (HRC4.out V10 HB410.out) (by simp [Client.sz, szL]) (sealsOf X) A c (Row.later HLK.out b10) HLC.out.1 HLC.out.2 (by have := HLS.out; omega)
      rw [E1.out, sealsOf_len] at HC11
      have HC11 := Lib.hid (HC11.mono (fun e w' h => (show ∃ cs : List Value, e = .returned (.tuple #[.agg cs.toArray, .string (leafGet x.proof.bucket nm).1, .bool (leafGet x.proof.bucket nm).2, .int .i64 0]) ∧ rd true w' cs (⟨hn, hs⟩ : Client) (rng V10.heap.size w'.heap.size) ∧ Below V10.heap.size V10 w' from h)))
      obtain ⟨k0_, k1_⟩ := HBC.out V10 HB410.out
      obtain ⟨t0, t1, t2, d0⟩ := HBX.out V10 HB10.out
      obtain ⟨l0, l1_, l2, l3, l4, l5, l6, l7, l8, l9, l10, l11⟩ := HBL.out V10 (Below.refl _ _)
      clear f0 f1 f2 f3 f4 f5 f6 f7 f8 f9 f10 f11 E1 HLK HLC hw1 hw2 hqi hq0 hq hql b10 y10
      go_wp2_with (fail)
      refine HC11.out.mono ?_
      rintro e11 w11 ⟨cd, rfl, rdd, hb11⟩
      obtain ⟨AD, kD, SD, rfl, -, lD, mD, rD, -⟩ := Client.open rdd
      have HRD := Lib.hid (Lay.mono (Lay.weak rdd) (S' := All) (fun _ _ => trivial))
      have HRH := Lib.hid (Row.mono (Row.weak rD) (S' := All) (fun _ _ => trivial))
      simp only [Client.cs, hsl] at HRD lD ⊢
      have hz11 := hb11.size
      have HB11 := Lib.hid hb11
      clear rdd rD hb11 k0_ k1_ t0 t1 t2 d0 l0 l1_ l2 l3 l4 l5 l6 l7 l8 l9 l10 l11 HC11
      go_upto_region 12 with (fail)
      obtain ⟨V11, hV11⟩ : ∃ W, w11.alloc (.cells #[.int .i64 hn, .slice AD X.length kD] 47) = W := ⟨_, rfl⟩
      have hV11f : Below w11.heap.size w11 V11 ∧ V11.heap.size = w11.heap.size + 1 ∧ V11.heap[w11.heap.size]? = some (.cells #[.int .i64 hn, .slice AD X.length kD] 47 (0, 0)) := by
        rw [← hV11]
        exact ⟨(Below.refl _ _).alloc (Nat.le_refl _) _, by simp, heap_alloc_new w11 _⟩
      rw [hV11]
      clear hV11
      obtain ⟨b11, s11, y11⟩ := hV11f
      have HB1011 := Lib.hid (HB11.out.trans (b11.mono hz11))
      have HB2V11 := Lib.hid (HB10.out.trans (HB1011.out.mono HB10.out.size))
      have HBD := Lib.hid (fun (W : World) (h : Below V11.heap.size V11 W) => (⟨(h.cell (p := ⟨w11.heap.size, 0, none⟩) (by show w11.heap.size < _; omega)).trans (box_at (i := 0) y11 rfl), (h.cell (p := ⟨w11.heap.size, 1, none⟩) (by show w11.heap.size < _; omega)).trans (box_at (i := 1) y11 rfl)⟩ : W.cell? ⟨w11.heap.size, 0, none⟩ = some (.int .i64 hn) ∧ W.cell? ⟨w11.heap.size, 1, none⟩ = some (.slice AD X.length kD)))
      have HRDv := Lib.hid (fun W (h : Below V11.heap.size V11 W) => Lay.later (Lay.later HRD.out b11) h)
      have HRHv := Lib.hid (fun W (h : Below V11.heap.size V11 W) => Row.later (Row.later HRH.out b11) h)
      obtain ⟨l0, l1_, -⟩ := HBL.out V11 HB1011.out
      clear b11 y11 HRD HRH
      go_wp2_with (fail)
      refine (HPS.out V11 HB2V11.out).mono ?_
      rintro e12 w12 ⟨rfl, hb12⟩
      have HB12 := Lib.hid hb12
      have HB12v := Lib.hid (HB2V11.out.trans (hb12.mono HB2V11.out.size))
      clear hb12 l0 l1_ HPS
      go_upto_region 13 with (fail)
      have h0X : 0 < X.length := by omega
      obtain ⟨b6, o6, c6, T6', e6, hl6, ha6, hr6, -, -⟩ := Row.at_ HXR.out h0X
      injection e6 with e6
      injection e6 with eb eo
      subst eb; subst eo
      have HR6 := Lib.hid (Lay.mono hr6 (S' := All) (fun _ _ => trivial))
      obtain ⟨R0, r0_, -, R1, r1_, -, R2, r2_, -, R3, r3_, -, R4, r4_, -, R5, r5_, -, R6, r6_, -, rfl, -⟩ := Whole.open (x := X[0]) hr6
      rw [show Lay.n Whole = 12 from rfl] at ha6
      have E2 := Lib.hid (HH2.out h0X [])
      have E4 := Lib.hid (HH4.out h0X [])
      have E5 := Lib.hid (HMD.out.head16 hh h0X (by omega))
      have HC0 := Lib.hid (fun (W : World) (h : Below V2.heap.size V2 W) (cc : List Value) (c : Client) (hc : rd false W cc c All) (hz : c.sz ≤ 1048576) (AL : Option Addr) (kL : Nat) (mL : kL ≤ maxLen) => HCH.out W h c cc hc hz [] AL kL (row_none rfl) (Nat.zero_le _) mL (by simp [szL]) 0 h0X _ (Lay.later HR6.out h))
      obtain ⟨y, hy⟩ : ∃ y, X[0] = y := ⟨_, rfl⟩
      simp only [hy, Whole.cs] at E2 E4 E5 HC0 ha6
      have HX12 : Hid (At V2 gX 0 [.slice R0 y.proof.bucket.length r0_, .slice R1 y.proof.sides.length r1_, .slice R2 y.tops.length r2_, .int .i64 y.seal_.head.house, .int .i64 y.seal_.head.epoch, .string y.seal_.head.root, .string y.seal_.head.prev, .int .i64 y.seal_.sig.at_, .slice R3 y.seal_.sig.open_.length r3_, .slice R4 y.seal_.sig.shut.length r4_, .slice R5 y.seal_.sig.sides.length r5_, .slice R6 y.stamps.length r6_]) := Lib.hid ha6
      have HM13 : Hid (∀ W', Below w12.heap.size w12 W' → At W' w11.heap.size 0 [.int .i64 hn, .slice AD X.length kD] ∧ At W' w1.heap.size 0 [.slice A1 3 c1, .int .i64 k, .int .i64 0] ∧ W'.cell? ⟨w1.heap.size + 1, 0, none⟩ = some (.slice (some ⟨gX, 0, none⟩) X.length cp) ∧ At W' gX 0 [.slice R0 y.proof.bucket.length r0_, .slice R1 y.proof.sides.length r1_, .slice R2 y.tops.length r2_, .int .i64 y.seal_.head.house, .int .i64 y.seal_.head.epoch, .string y.seal_.head.root, .string y.seal_.head.prev, .int .i64 y.seal_.sig.at_, .slice R3 y.seal_.sig.open_.length r3_, .slice R4 y.seal_.sig.shut.length r4_, .slice R5 y.seal_.sig.sides.length r5_, .slice R6 y.stamps.length r6_]) := Lib.hid (fun w' h => by
        obtain ⟨u0, u1⟩ := HBD.out w' (HB12.out.trans (h.mono HB12.out.size))
        obtain ⟨u2, u3, u4, u5⟩ := HBX.out w' (HB12v.out.trans (h.mono HB12v.out.size))
        exact ⟨At.two u0 u1, At.three u2 u3 u4, u5, HX12.out.below (HB12v.out.trans (h.mono HB12v.out.size)) hl6⟩)
      have HC13 : Hid (∀ W, Below w12.heap.size w12 W → ∀ (AL : Option Addr) (kL : Nat), kL ≤ maxLen → Calls Tryz.prog 15 #[.agg #[.int .i64 hn, .slice AD X.length kD], .agg #[.slice A1 3 c1, .int .i64 k, .int .i64 0], .slice AL 0 kL, .string nm, .agg #[.slice R0 y.proof.bucket.length r0_, .slice R1 y.proof.sides.length r1_, .slice R2 y.tops.length r2_, .int .i64 y.seal_.head.house, .int .i64 y.seal_.head.epoch, .string y.seal_.head.root, .string y.seal_.head.prev, .int .i64 y.seal_.sig.at_, .slice R3 y.seal_.sig.open_.length r3_, .slice R4 y.seal_.sig.shut.length r4_, .slice R5 y.seal_.sig.sides.length r5_, .slice R6 y.stamps.length r6_]] W fun e w' => ∃ (Ae : Option Addr) (ke : Nat) (v2 : ByteArray) (b2 : Bool), e = .returned (.tuple #[.agg #[.int .i64 hn, .slice Ae X.length ke], .string v2, .bool b2, .int .i64 0]) ∧ rd true w' [.int .i64 hn, .slice Ae X.length ke] (⟨hn, hs⟩ : Client) (rng W.heap.size w'.heap.size) ∧ Below W.heap.size W w') := Lib.hid (fun W h AL kL mL => by
        have h1 := HC0.out W (HB12v.out.trans (h.mono HB12v.out.size)) _ ⟨hn, hs⟩ (HRDv.out W (HB12.out.trans (h.mono HB12.out.size))) (by have := HHS.out; show szL hs ≤ 1048576; omega) AL kL mL
        rw [E2.out] at h1
        refine h1.mono ?_
        rintro e w' ⟨cs, rfl, rc, hb⟩
        have HC := Lib.hid rc
        obtain ⟨Ae, ke, Se, rfl, -⟩ := Client.open rc
        simp only [Client.cs, hsl] at HC ⊢
        exact ⟨Ae, ke, _, _, rfl, HC.out, hb⟩)
      have hxi : (0 : Int) < (X.length : Int) := by omega
      clear hy ha6 hr6 HCH HH2 HH4
      go_cut [17, 20] (fun s17 s20 wx => ∃ (ob lo hi : Nat) (Ae : Option Addr) (ke : Nat), s17 = .pointer (some ⟨ob, 0, none⟩) ∧ s20 = .int .i64 0 ∧ Hid (FloatCut w12 wx ob lo hi [.int .i64 hn, .slice Ae X.length ke] (⟨hn, hs⟩ : Client)))
      case first =>
--BEGIN 13
        refine wp_region_held_drew (S := fun W' => At W' w11.heap.size 0 [.int .i64 hn, .slice AD X.length kD] ∧ At W' w1.heap.size 0 [.slice A1 3 c1, .int .i64 k, .int .i64 0] ∧ W'.cell? ⟨w1.heap.size + 1, 0, none⟩ = some (.slice (some ⟨gX, 0, none⟩) X.length cp) ∧ At W' gX 0 [.slice R0 y.proof.bucket.length r0_, .slice R1 y.proof.sides.length r1_, .slice R2 y.tops.length r2_, .int .i64 y.seal_.head.house, .int .i64 y.seal_.head.epoch, .string y.seal_.head.root, .string y.seal_.head.prev, .int .i64 y.seal_.sig.at_, .slice R3 y.seal_.sig.open_.length r3_, .slice R4 y.seal_.sig.shut.length r4_, .slice R5 y.seal_.sig.sides.length r5_, .slice R6 y.stamps.length r6_]) (by kernel_rfl) (HM13.out _ ((Below.refl _ _).drew)) (fun hS => ?_)
        refine wpAnyH_take (i := 0) (v := .agg #[.int .i64 hn, .slice AD X.length kD]) rfl (by as_aux_lemma => kernel_rfl) (by as_aux_lemma => kernel_rfl) (by as_aux_lemma => kernel_rfl) (fun _ _ _ h => h) (yieldsIf_loadT (by rfl) _ _ rfl rfl (fun _ h => h.1) Tryz.underlying47 k_cl rfl) hS ?_
        (try simp only [Act.put, List.getElem_toArray, List.getElem_cons_succ, List.getElem_cons_zero, List.setIfInBounds_toArray, List.set_cons_zero, List.set_cons_succ])
        refine wpAnyH_take (i := 1) (v := .agg #[.slice A1 3 c1, .int .i64 k, .int .i64 0]) rfl (by as_aux_lemma => kernel_rfl) (by as_aux_lemma => kernel_rfl) (by as_aux_lemma => kernel_rfl) (fun _ _ _ h => h) (yieldsIf_loadT (by rfl) _ _ rfl rfl (fun _ h => h.2.1) Tryz.underlying51 k_tr rfl) hS ?_
        (try simp only [Act.put, List.getElem_toArray, List.getElem_cons_succ, List.getElem_cons_zero, List.setIfInBounds_toArray, List.set_cons_zero, List.set_cons_succ])
        refine wpAnyH_take (i := 3) (v := .string nm) rfl (by as_aux_lemma => kernel_rfl) (by as_aux_lemma => kernel_rfl) (by as_aux_lemma => kernel_rfl) (fun _ _ _ h => h) (yieldsIf_move (by rfl) _ rfl (by rfl)) hS ?_
        (try simp only [Act.put, List.getElem_toArray, List.getElem_cons_succ, List.getElem_cons_zero, List.setIfInBounds_toArray, List.set_cons_zero, List.set_cons_succ])
        refine wpAnyH_take (i := 4) (v := .pointer (some ⟨w1.heap.size + 1, 0, none⟩)) rfl (by as_aux_lemma => kernel_rfl) (by as_aux_lemma => kernel_rfl) (by as_aux_lemma => kernel_rfl) (fun _ _ _ h => h) (Or.inl ⟨by rfl, by intro w hSw; go_simp⟩) hS ?_
        (try simp only [Act.put, List.getElem_toArray, List.getElem_cons_succ, List.getElem_cons_zero, List.setIfInBounds_toArray, List.set_cons_zero, List.set_cons_succ])
        refine wpAnyH_take (i := 5) (v := .slice (some ⟨gX, 0, none⟩) X.length cp) rfl (by as_aux_lemma => kernel_rfl) (by as_aux_lemma => kernel_rfl) (by as_aux_lemma => kernel_rfl) (fun _ _ _ h => h) (Or.inl ⟨by rfl, by rintro w ⟨_, _, hSw, _⟩; go_simp⟩) hS ?_
        (try simp only [Act.put, List.getElem_toArray, List.getElem_cons_succ, List.getElem_cons_zero, List.setIfInBounds_toArray, List.set_cons_zero, List.set_cons_succ])
        refine wpAnyH_take (i := 6) (v := .pointer (some ⟨gX, 0, none⟩)) rfl (by as_aux_lemma => kernel_rfl) (by as_aux_lemma => kernel_rfl) (by as_aux_lemma => kernel_rfl) (fun _ _ _ h => h) (Or.inl ⟨by rfl, by intro w hSw; go_simp⟩) hS ?_
        (try simp only [Act.put, List.getElem_toArray, List.getElem_cons_succ, List.getElem_cons_zero, List.setIfInBounds_toArray, List.set_cons_zero, List.set_cons_succ])
        refine wpAnyH_take (i := 7) (v := .agg #[.slice R0 y.proof.bucket.length r0_, .slice R1 y.proof.sides.length r1_, .slice R2 y.tops.length r2_, .int .i64 y.seal_.head.house, .int .i64 y.seal_.head.epoch, .string y.seal_.head.root, .string y.seal_.head.prev, .int .i64 y.seal_.sig.at_, .slice R3 y.seal_.sig.open_.length r3_, .slice R4 y.seal_.sig.shut.length r4_, .slice R5 y.seal_.sig.sides.length r5_, .slice R6 y.stamps.length r6_]) rfl (by as_aux_lemma => kernel_rfl) (by as_aux_lemma => kernel_rfl) (by as_aux_lemma => kernel_rfl) (fun _ _ _ h => h) (yieldsIf_loadT (by rfl) _ _ rfl rfl (fun _ h => h.2.2.2) Tryz.underlying64 k_wh rfl) hS ?_
        (try simp only [Act.put, List.getElem_toArray, List.getElem_cons_succ, List.getElem_cons_zero, List.setIfInBounds_toArray, List.set_cons_zero, List.set_cons_succ])
        have HV := Lib.hid ((Below.refl w12.heap.size w12).drew)
        refine wpAnyH_ready (rs := [2, 14]) (by as_aux_lemma => kernel_rfl) (by simp) (AllReadyH.cons rfl (fun K hK => ?_) (AllReadyH.cons rfl (fun K hK => ?_) AllReadyH.nil))
        rotate_left
        · as_aux_lemma =>
            (try rw [if_pos (by rfl)])
            clear hS
            go_simp
            obtain ⟨hb_, hs_, y0, y1, yf⟩ := float_newd w12 (.int .i64 0) (.slice none 0 0) 47
            obtain ⟨pa1, hwa⟩ : ∃ W, (w12.alloc (.cells #[.int .i64 0, .slice none 0 0] 47)).drew = W := ⟨_, rfl⟩
            rw [hwa] at hb_ hs_ y0 y1 yf ⊢
            clear hwa
            have hob : w12.heap.size < pa1.heap.size := by rw [hs_]; exact Nat.lt_succ_self _
            have hbl : w12.heap.size ≤ w12.heap.size := Nat.le_refl _
            replace HV := Lib.hid (hb_); clear hb_
            refine hK.out _ _ (HM13.out _ HV.out) (fun hS => ?_)
            clear hK K
            (try simp only [Act.put, List.getElem_toArray, List.getElem_cons_succ, List.getElem_cons_zero, List.setIfInBounds_toArray, List.set_cons_zero, List.set_cons_succ])
            refine wpAnyH_ready (rs := [2]) (by as_aux_lemma => kernel_rfl) (by simp) (AllReadyH.cons rfl (fun K hK => ?_) AllReadyH.nil)
            (try rw [if_pos (by rfl)])
            clear hS
            go_simp
            have hb_ : Below pa1.heap.size pa1 (pa1.alloc (.cells #[] 61)) := (Below.refl _ _).alloc (Nat.le_refl _) _
            obtain ⟨pb2, hwa⟩ : ∃ W, pa1.alloc (.cells #[] 61) = W := ⟨_, rfl⟩
            rw [hwa] at hb_ ⊢
            clear hwa
            replace y0 := (hb_.cell (p := ⟨w12.heap.size, 0, none⟩) hob).trans y0; replace y1 := (hb_.cell (p := ⟨w12.heap.size, 1, none⟩) hob).trans y1; replace yf := fun o => (hb_.frozen (p := ⟨w12.heap.size, o, none⟩) hob).trans (yf o); replace hob := Nat.lt_of_lt_of_le hob hb_.size
            replace HV := Lib.hid (Below.step HV.out hb_); clear hb_
            refine hK.out _ _ (HM13.out _ HV.out) (fun hS => ?_)
            clear hK K
            (try simp only [Act.put, List.getElem_toArray, List.getElem_cons_succ, List.getElem_cons_zero, List.setIfInBounds_toArray, List.set_cons_zero, List.set_cons_succ])
            refine wpAnyH_ready (rs := [8]) (by as_aux_lemma => kernel_rfl) (by simp) (AllReadyH.cons rfl (fun K hK => ?_) AllReadyH.nil)
            (try rw [if_pos (by rfl)])
            clear hS
            go_simp
            have hv1 : w12.heap.size ≤ pb2.heap.size := HV.out.size
            refine (HC13.out _ HV.out _ _ (Nat.zero_le _)).mono ?_
            rintro e_ pc3 ⟨Ae, ke, v2, b2, rfl, hr_, hb_⟩
            have hsz_ := hb_.size
            have hv2 : w12.heap.size < pb2.heap.size := hob
            replace y0 := (hb_.cell (p := ⟨w12.heap.size, 0, none⟩) hob).trans y0; replace y1 := (hb_.cell (p := ⟨w12.heap.size, 1, none⟩) hob).trans y1; replace yf := fun o => (hb_.frozen (p := ⟨w12.heap.size, o, none⟩) hob).trans (yf o); replace hob := Nat.lt_of_lt_of_le hob hb_.size
            replace HV := Lib.hid (Below.step HV.out hb_)
            have HRES := Lib.hid hr_; clear hr_ hb_
            refine hK.out _ _ (HM13.out _ HV.out) (fun hS => ?_)
            clear hK K
            (try simp only [Act.put, List.getElem_toArray, List.getElem_cons_succ, List.getElem_cons_zero, List.setIfInBounds_toArray, List.set_cons_zero, List.set_cons_succ])
            refine wpAnyH_take (i := 9) (v := .tuple #[.agg #[.int .i64 hn, .slice Ae X.length ke], .string v2, .bool b2, .int .i64 0]) rfl (by as_aux_lemma => kernel_rfl) (by as_aux_lemma => kernel_rfl) (by as_aux_lemma => kernel_rfl) (fun _ _ _ h => h) (yieldsIf_move (by rfl) _ rfl (by rfl)) hS ?_
            (try simp only [Act.put, List.getElem_toArray, List.getElem_cons_succ, List.getElem_cons_zero, List.setIfInBounds_toArray, List.set_cons_zero, List.set_cons_succ])
            refine wpAnyH_take (i := 10) (v := .agg #[.int .i64 hn, .slice Ae X.length ke]) rfl (by as_aux_lemma => kernel_rfl) (by as_aux_lemma => kernel_rfl) (by as_aux_lemma => kernel_rfl) (fun _ _ _ h => h) (yieldsIf_extract (by rfl) _ 0 rfl (by rfl) (by rfl)) hS ?_
            (try simp only [Act.put, List.getElem_toArray, List.getElem_cons_succ, List.getElem_cons_zero, List.setIfInBounds_toArray, List.set_cons_zero, List.set_cons_succ])
            refine wpAnyH_take (i := 11) (v := .string v2) rfl (by as_aux_lemma => kernel_rfl) (by as_aux_lemma => kernel_rfl) (by as_aux_lemma => kernel_rfl) (fun _ _ _ h => h) (yieldsIf_extract (by rfl) _ 1 rfl (by rfl) (by rfl)) hS ?_
            (try simp only [Act.put, List.getElem_toArray, List.getElem_cons_succ, List.getElem_cons_zero, List.setIfInBounds_toArray, List.set_cons_zero, List.set_cons_succ])
            refine wpAnyH_take (i := 12) (v := .bool b2) rfl (by as_aux_lemma => kernel_rfl) (by as_aux_lemma => kernel_rfl) (by as_aux_lemma => kernel_rfl) (fun _ _ _ h => h) (yieldsIf_extract (by rfl) _ 2 rfl (by rfl) (by rfl)) hS ?_
            (try simp only [Act.put, List.getElem_toArray, List.getElem_cons_succ, List.getElem_cons_zero, List.setIfInBounds_toArray, List.set_cons_zero, List.set_cons_succ])
            refine wpAnyH_take (i := 13) (v := .int .i64 0) rfl (by as_aux_lemma => kernel_rfl) (by as_aux_lemma => kernel_rfl) (by as_aux_lemma => kernel_rfl) (fun _ _ _ h => h) (yieldsIf_extract (by rfl) _ 3 rfl (by rfl) (by rfl)) hS ?_
            (try simp only [Act.put, List.getElem_toArray, List.getElem_cons_succ, List.getElem_cons_zero, List.setIfInBounds_toArray, List.set_cons_zero, List.set_cons_succ])
            refine wpAnyH_ready (rs := [15]) (by as_aux_lemma => kernel_rfl) (by simp) (AllReadyH.cons rfl (fun K hK => ?_) AllReadyH.nil)
            (try rw [if_pos (by rfl)])
            clear hS
            go_simp
            refine hK.out _ _ (HM13.out _ (Below.setCell (Below.setCell HV.out hbl _) hbl _)) (fun hS => ?_)
            clear hK K
            (try simp only [Act.put, List.getElem_toArray, List.getElem_cons_succ, List.getElem_cons_zero, List.setIfInBounds_toArray, List.set_cons_zero, List.set_cons_succ])
            refine wpAnyH_take (i := 16) (v := .string v2) rfl (by as_aux_lemma => kernel_rfl) (by as_aux_lemma => kernel_rfl) (by as_aux_lemma => kernel_rfl) (fun _ _ _ h => h) (yieldsIf_assign (by rfl) _ rfl (by rfl)) hS ?_
            (try simp only [Act.put, List.getElem_toArray, List.getElem_cons_succ, List.getElem_cons_zero, List.setIfInBounds_toArray, List.set_cons_zero, List.set_cons_succ])
            refine wpAnyH_take (i := 17) (v := .bool b2) rfl (by as_aux_lemma => kernel_rfl) (by as_aux_lemma => kernel_rfl) (by as_aux_lemma => kernel_rfl) (fun _ _ _ h => h) (yieldsIf_assign (by rfl) _ rfl (by rfl)) hS ?_
            (try simp only [Act.put, List.getElem_toArray, List.getElem_cons_succ, List.getElem_cons_zero, List.setIfInBounds_toArray, List.set_cons_zero, List.set_cons_succ])
            refine wpAnyH_take (i := 18) (v := .int .i64 0) rfl (by as_aux_lemma => kernel_rfl) (by as_aux_lemma => kernel_rfl) (by as_aux_lemma => kernel_rfl) (fun _ _ _ h => h) (yieldsIf_assign (by rfl) _ rfl (by rfl)) hS ?_
            (try simp only [Act.put, List.getElem_toArray, List.getElem_cons_succ, List.getElem_cons_zero, List.setIfInBounds_toArray, List.set_cons_zero, List.set_cons_succ])
            refine wpAnyH_done (by as_aux_lemma => kernel_rfl) ?_ _
            clear hS
            (try go_wp2_with (fail))
            go_meet
            exact ⟨w12.heap.size, pb2.heap.size, pc3.heap.size, Ae, ke, rfl, rfl, Lib.hid (FloatCut.put HV.out hbl hob hv1 (by have := HV.out.size; omega) (by omega) HRES.out y0 y1)⟩
        (try rw [if_pos (by rfl)])
        clear hS
        go_simp
        have hb_ : Below w12.heap.size w12 (w12.alloc (.cells #[] 61)) := (Below.refl _ _).alloc (Nat.le_refl _) _
        replace hb_ := hb_.drew
        obtain ⟨pb4, hwa⟩ : ∃ W, (w12.alloc (.cells #[] 61)).drew = W := ⟨_, rfl⟩
        rw [hwa] at hb_ ⊢
        clear hwa
        replace HV := Lib.hid (hb_); clear hb_
        refine hK.out _ _ (HM13.out _ HV.out) (fun hS => ?_)
        clear hK K
        (try simp only [Act.put, List.getElem_toArray, List.getElem_cons_succ, List.getElem_cons_zero, List.setIfInBounds_toArray, List.set_cons_zero, List.set_cons_succ])
        refine wpAnyH_ready (rs := [8, 14]) (by as_aux_lemma => kernel_rfl) (by simp) (AllReadyH.cons rfl (fun K hK => ?_) (AllReadyH.cons rfl (fun K hK => ?_) AllReadyH.nil))
        rotate_left
        · as_aux_lemma =>
            (try rw [if_pos (by rfl)])
            clear hS
            go_simp
            obtain ⟨hb_, hs_, y0, y1, yf⟩ := float_new pb4 (.int .i64 0) (.slice none 0 0) 47
            obtain ⟨pa5, hwa⟩ : ∃ W, pb4.alloc (.cells #[.int .i64 0, .slice none 0 0] 47) = W := ⟨_, rfl⟩
            rw [hwa] at hb_ hs_ y0 y1 yf ⊢
            clear hwa
            have hob : pb4.heap.size < pa5.heap.size := by rw [hs_]; exact Nat.lt_succ_self _
            have hbl : w12.heap.size ≤ pb4.heap.size := HV.out.size
            replace HV := Lib.hid (Below.step HV.out hb_); clear hb_
            refine hK.out _ _ (HM13.out _ HV.out) (fun hS => ?_)
            clear hK K
            (try simp only [Act.put, List.getElem_toArray, List.getElem_cons_succ, List.getElem_cons_zero, List.setIfInBounds_toArray, List.set_cons_zero, List.set_cons_succ])
            refine wpAnyH_ready (rs := [8]) (by as_aux_lemma => kernel_rfl) (by simp) (AllReadyH.cons rfl (fun K hK => ?_) AllReadyH.nil)
            (try rw [if_pos (by rfl)])
            clear hS
            go_simp
            have hv1 : w12.heap.size ≤ pa5.heap.size := HV.out.size
            refine (HC13.out _ HV.out _ _ (Nat.zero_le _)).mono ?_
            rintro e_ pc6 ⟨Ae, ke, v2, b2, rfl, hr_, hb_⟩
            have hsz_ := hb_.size
            have hv2 : pb4.heap.size < pa5.heap.size := hob
            replace y0 := (hb_.cell (p := ⟨pb4.heap.size, 0, none⟩) hob).trans y0; replace y1 := (hb_.cell (p := ⟨pb4.heap.size, 1, none⟩) hob).trans y1; replace yf := fun o => (hb_.frozen (p := ⟨pb4.heap.size, o, none⟩) hob).trans (yf o); replace hob := Nat.lt_of_lt_of_le hob hb_.size
            replace HV := Lib.hid (Below.step HV.out hb_)
            have HRES := Lib.hid hr_; clear hr_ hb_
            refine hK.out _ _ (HM13.out _ HV.out) (fun hS => ?_)
            clear hK K
            (try simp only [Act.put, List.getElem_toArray, List.getElem_cons_succ, List.getElem_cons_zero, List.setIfInBounds_toArray, List.set_cons_zero, List.set_cons_succ])
            refine wpAnyH_take (i := 9) (v := .tuple #[.agg #[.int .i64 hn, .slice Ae X.length ke], .string v2, .bool b2, .int .i64 0]) rfl (by as_aux_lemma => kernel_rfl) (by as_aux_lemma => kernel_rfl) (by as_aux_lemma => kernel_rfl) (fun _ _ _ h => h) (yieldsIf_move (by rfl) _ rfl (by rfl)) hS ?_
            (try simp only [Act.put, List.getElem_toArray, List.getElem_cons_succ, List.getElem_cons_zero, List.setIfInBounds_toArray, List.set_cons_zero, List.set_cons_succ])
            refine wpAnyH_take (i := 10) (v := .agg #[.int .i64 hn, .slice Ae X.length ke]) rfl (by as_aux_lemma => kernel_rfl) (by as_aux_lemma => kernel_rfl) (by as_aux_lemma => kernel_rfl) (fun _ _ _ h => h) (yieldsIf_extract (by rfl) _ 0 rfl (by rfl) (by rfl)) hS ?_
            (try simp only [Act.put, List.getElem_toArray, List.getElem_cons_succ, List.getElem_cons_zero, List.setIfInBounds_toArray, List.set_cons_zero, List.set_cons_succ])
            refine wpAnyH_take (i := 11) (v := .string v2) rfl (by as_aux_lemma => kernel_rfl) (by as_aux_lemma => kernel_rfl) (by as_aux_lemma => kernel_rfl) (fun _ _ _ h => h) (yieldsIf_extract (by rfl) _ 1 rfl (by rfl) (by rfl)) hS ?_
            (try simp only [Act.put, List.getElem_toArray, List.getElem_cons_succ, List.getElem_cons_zero, List.setIfInBounds_toArray, List.set_cons_zero, List.set_cons_succ])
            refine wpAnyH_take (i := 12) (v := .bool b2) rfl (by as_aux_lemma => kernel_rfl) (by as_aux_lemma => kernel_rfl) (by as_aux_lemma => kernel_rfl) (fun _ _ _ h => h) (yieldsIf_extract (by rfl) _ 2 rfl (by rfl) (by rfl)) hS ?_
            (try simp only [Act.put, List.getElem_toArray, List.getElem_cons_succ, List.getElem_cons_zero, List.setIfInBounds_toArray, List.set_cons_zero, List.set_cons_succ])
            refine wpAnyH_take (i := 13) (v := .int .i64 0) rfl (by as_aux_lemma => kernel_rfl) (by as_aux_lemma => kernel_rfl) (by as_aux_lemma => kernel_rfl) (fun _ _ _ h => h) (yieldsIf_extract (by rfl) _ 3 rfl (by rfl) (by rfl)) hS ?_
            (try simp only [Act.put, List.getElem_toArray, List.getElem_cons_succ, List.getElem_cons_zero, List.setIfInBounds_toArray, List.set_cons_zero, List.set_cons_succ])
            refine wpAnyH_ready (rs := [15]) (by as_aux_lemma => kernel_rfl) (by simp) (AllReadyH.cons rfl (fun K hK => ?_) AllReadyH.nil)
            (try rw [if_pos (by rfl)])
            clear hS
            go_simp
            refine hK.out _ _ (HM13.out _ (Below.setCell (Below.setCell HV.out hbl _) hbl _)) (fun hS => ?_)
            clear hK K
            (try simp only [Act.put, List.getElem_toArray, List.getElem_cons_succ, List.getElem_cons_zero, List.setIfInBounds_toArray, List.set_cons_zero, List.set_cons_succ])
            refine wpAnyH_take (i := 16) (v := .string v2) rfl (by as_aux_lemma => kernel_rfl) (by as_aux_lemma => kernel_rfl) (by as_aux_lemma => kernel_rfl) (fun _ _ _ h => h) (yieldsIf_assign (by rfl) _ rfl (by rfl)) hS ?_
            (try simp only [Act.put, List.getElem_toArray, List.getElem_cons_succ, List.getElem_cons_zero, List.setIfInBounds_toArray, List.set_cons_zero, List.set_cons_succ])
            refine wpAnyH_take (i := 17) (v := .bool b2) rfl (by as_aux_lemma => kernel_rfl) (by as_aux_lemma => kernel_rfl) (by as_aux_lemma => kernel_rfl) (fun _ _ _ h => h) (yieldsIf_assign (by rfl) _ rfl (by rfl)) hS ?_
            (try simp only [Act.put, List.getElem_toArray, List.getElem_cons_succ, List.getElem_cons_zero, List.setIfInBounds_toArray, List.set_cons_zero, List.set_cons_succ])
            refine wpAnyH_take (i := 18) (v := .int .i64 0) rfl (by as_aux_lemma => kernel_rfl) (by as_aux_lemma => kernel_rfl) (by as_aux_lemma => kernel_rfl) (fun _ _ _ h => h) (yieldsIf_assign (by rfl) _ rfl (by rfl)) hS ?_
            (try simp only [Act.put, List.getElem_toArray, List.getElem_cons_succ, List.getElem_cons_zero, List.setIfInBounds_toArray, List.set_cons_zero, List.set_cons_succ])
            refine wpAnyH_done (by as_aux_lemma => kernel_rfl) ?_ _
            clear hS
            (try go_wp2_with (fail))
            go_meet
            exact ⟨pb4.heap.size, pa5.heap.size, pc6.heap.size, Ae, ke, rfl, rfl, Lib.hid (FloatCut.put HV.out hbl hob hv1 (by have := HV.out.size; omega) (by omega) HRES.out y0 y1)⟩
        as_aux_lemma =>
          (try rw [if_pos (by rfl)])
          clear hS
          go_simp
          have hv1 : w12.heap.size ≤ pb4.heap.size := HV.out.size
          refine (HC13.out _ HV.out _ _ (Nat.zero_le _)).mono ?_
          rintro e_ pc7 ⟨Ae, ke, v2, b2, rfl, hr_, hb_⟩
          have hsz_ := hb_.size
          replace HV := Lib.hid (Below.step HV.out hb_)
          have HRES := Lib.hid hr_; clear hr_ hb_
          refine hK.out _ _ (HM13.out _ HV.out) (fun hS => ?_)
          clear hK K
          (try simp only [Act.put, List.getElem_toArray, List.getElem_cons_succ, List.getElem_cons_zero, List.setIfInBounds_toArray, List.set_cons_zero, List.set_cons_succ])
          refine wpAnyH_take (i := 9) (v := .tuple #[.agg #[.int .i64 hn, .slice Ae X.length ke], .string v2, .bool b2, .int .i64 0]) rfl (by as_aux_lemma => kernel_rfl) (by as_aux_lemma => kernel_rfl) (by as_aux_lemma => kernel_rfl) (fun _ _ _ h => h) (yieldsIf_move (by rfl) _ rfl (by rfl)) hS ?_
          (try simp only [Act.put, List.getElem_toArray, List.getElem_cons_succ, List.getElem_cons_zero, List.setIfInBounds_toArray, List.set_cons_zero, List.set_cons_succ])
          refine wpAnyH_take (i := 10) (v := .agg #[.int .i64 hn, .slice Ae X.length ke]) rfl (by as_aux_lemma => kernel_rfl) (by as_aux_lemma => kernel_rfl) (by as_aux_lemma => kernel_rfl) (fun _ _ _ h => h) (yieldsIf_extract (by rfl) _ 0 rfl (by rfl) (by rfl)) hS ?_
          (try simp only [Act.put, List.getElem_toArray, List.getElem_cons_succ, List.getElem_cons_zero, List.setIfInBounds_toArray, List.set_cons_zero, List.set_cons_succ])
          refine wpAnyH_take (i := 11) (v := .string v2) rfl (by as_aux_lemma => kernel_rfl) (by as_aux_lemma => kernel_rfl) (by as_aux_lemma => kernel_rfl) (fun _ _ _ h => h) (yieldsIf_extract (by rfl) _ 1 rfl (by rfl) (by rfl)) hS ?_
          (try simp only [Act.put, List.getElem_toArray, List.getElem_cons_succ, List.getElem_cons_zero, List.setIfInBounds_toArray, List.set_cons_zero, List.set_cons_succ])
          refine wpAnyH_take (i := 12) (v := .bool b2) rfl (by as_aux_lemma => kernel_rfl) (by as_aux_lemma => kernel_rfl) (by as_aux_lemma => kernel_rfl) (fun _ _ _ h => h) (yieldsIf_extract (by rfl) _ 2 rfl (by rfl) (by rfl)) hS ?_
          (try simp only [Act.put, List.getElem_toArray, List.getElem_cons_succ, List.getElem_cons_zero, List.setIfInBounds_toArray, List.set_cons_zero, List.set_cons_succ])
          refine wpAnyH_take (i := 13) (v := .int .i64 0) rfl (by as_aux_lemma => kernel_rfl) (by as_aux_lemma => kernel_rfl) (by as_aux_lemma => kernel_rfl) (fun _ _ _ h => h) (yieldsIf_extract (by rfl) _ 3 rfl (by rfl) (by rfl)) hS ?_
          (try simp only [Act.put, List.getElem_toArray, List.getElem_cons_succ, List.getElem_cons_zero, List.setIfInBounds_toArray, List.set_cons_zero, List.set_cons_succ])
          refine wpAnyH_ready (rs := [14]) (by as_aux_lemma => kernel_rfl) (by simp) (AllReadyH.cons rfl (fun K hK => ?_) AllReadyH.nil)
          (try rw [if_pos (by rfl)])
          clear hS
          go_simp
          obtain ⟨hb_, hs_, y0, y1, yf⟩ := float_new pc7 (.int .i64 0) (.slice none 0 0) 47
          obtain ⟨pa8, hwa⟩ : ∃ W, pc7.alloc (.cells #[.int .i64 0, .slice none 0 0] 47) = W := ⟨_, rfl⟩
          rw [hwa] at hb_ hs_ y0 y1 yf ⊢
          clear hwa
          have hob : pc7.heap.size < pa8.heap.size := by rw [hs_]; exact Nat.lt_succ_self _
          have hbl : w12.heap.size ≤ pc7.heap.size := HV.out.size
          replace HRES := Lib.hid (Lay.later HRES.out hb_)
          replace HV := Lib.hid (Below.step HV.out hb_); clear hb_
          refine hK.out _ _ (HM13.out _ HV.out) (fun hS => ?_)
          clear hK K
          (try simp only [Act.put, List.getElem_toArray, List.getElem_cons_succ, List.getElem_cons_zero, List.setIfInBounds_toArray, List.set_cons_zero, List.set_cons_succ])
          refine wpAnyH_ready (rs := [15]) (by as_aux_lemma => kernel_rfl) (by simp) (AllReadyH.cons rfl (fun K hK => ?_) AllReadyH.nil)
          (try rw [if_pos (by rfl)])
          clear hS
          go_simp
          refine hK.out _ _ (HM13.out _ (Below.setCell (Below.setCell HV.out hbl _) hbl _)) (fun hS => ?_)
          clear hK K
          (try simp only [Act.put, List.getElem_toArray, List.getElem_cons_succ, List.getElem_cons_zero, List.setIfInBounds_toArray, List.set_cons_zero, List.set_cons_succ])
          refine wpAnyH_take (i := 16) (v := .string v2) rfl (by as_aux_lemma => kernel_rfl) (by as_aux_lemma => kernel_rfl) (by as_aux_lemma => kernel_rfl) (fun _ _ _ h => h) (yieldsIf_assign (by rfl) _ rfl (by rfl)) hS ?_
          (try simp only [Act.put, List.getElem_toArray, List.getElem_cons_succ, List.getElem_cons_zero, List.setIfInBounds_toArray, List.set_cons_zero, List.set_cons_succ])
          refine wpAnyH_take (i := 17) (v := .bool b2) rfl (by as_aux_lemma => kernel_rfl) (by as_aux_lemma => kernel_rfl) (by as_aux_lemma => kernel_rfl) (fun _ _ _ h => h) (yieldsIf_assign (by rfl) _ rfl (by rfl)) hS ?_
          (try simp only [Act.put, List.getElem_toArray, List.getElem_cons_succ, List.getElem_cons_zero, List.setIfInBounds_toArray, List.set_cons_zero, List.set_cons_succ])
          refine wpAnyH_take (i := 18) (v := .int .i64 0) rfl (by as_aux_lemma => kernel_rfl) (by as_aux_lemma => kernel_rfl) (by as_aux_lemma => kernel_rfl) (fun _ _ _ h => h) (yieldsIf_assign (by rfl) _ rfl (by rfl)) hS ?_
          (try simp only [Act.put, List.getElem_toArray, List.getElem_cons_succ, List.getElem_cons_zero, List.setIfInBounds_toArray, List.set_cons_zero, List.set_cons_succ])
          refine wpAnyH_done (by as_aux_lemma => kernel_rfl) ?_ _
          clear hS
          (try go_wp2_with (fail))
          go_meet
          exact ⟨pc7.heap.size, pb4.heap.size, pc7.heap.size, Ae, ke, rfl, rfl, Lib.hid (FloatCut.put HV.out hbl hob hv1 (by have := HV.out.size; omega) (by omega) HRES.out y0 y1)⟩
--END 13
      case rest =>
        obtain ⟨bE, loE, hiE, AE, kE, rfl, rfl, HFE⟩ := hcut
        rename World => w13
        have HB13 := Lib.hid HFE.out.bl
        have HB13v := Lib.hid (HB12v.out.trans (HB13.out.mono HB12v.out.size))
        have HB1113 := Lib.hid (HB12.out.trans (HB13.out.mono HB12.out.size))
        have HB1013 := Lib.hid (HB1011.out.trans (HB1113.out.mono HB1011.out.size))
        have HB413 := Lib.hid (HB410.out.trans (HB1013.out.mono HB410.out.size))
        have HC14 : Hid (∀ W, Below w13.heap.size w13 W → ∀ (AL : Option Addr) (kL : Nat), kL ≤ maxLen → Calls Tryz.prog 15 #[.agg #[.int .i64 hn, .slice AC 0 kC], .agg #[.slice A1 3 c1, .int .i64 k, .int .i64 0], .slice AL 0 kL, .string nm, .agg #[.slice P0 x.proof.bucket.length n0, .slice P1 x.proof.sides.length n1, .slice P2 x.tops.length n2, .int .i64 x.seal_.head.house, .int .i64 x.seal_.head.epoch, .string x.seal_.head.root, .string x.seal_.head.prev, .int .i64 x.seal_.sig.at_, .slice P3 x.seal_.sig.open_.length n3, .slice P4 x.seal_.sig.shut.length n4, .slice P5 x.seal_.sig.sides.length n5, .slice P6 x.stamps.length n6]] W fun e w' => ∃ (Ag : Option Addr) (kg : Nat), e = .returned (.tuple #[.agg #[.int .i64 hn, .slice Ag 0 kg], .string ⟨#[]⟩, .bool false, .int .i64 3]) ∧ Below W.heap.size W w') := Lib.hid (fun W h AL kL mL => by
          have h1 := HCQ.out W (HB13v.out.trans (h.mono HB13v.out.size)) _ ⟨hn, []⟩ (HRC4.out W (HB413.out.trans (h.mono HB413.out.size))) (by simp [Client.sz, szL]) [] AL kL (row_none rfl) (Nat.zero_le _) mL (by simp [szL])
          rw [E3.out] at h1
          refine h1.mono ?_
          rintro e w' ⟨cs, rfl, rc, hb⟩
          obtain ⟨Ag, kg, Sg, rfl, -⟩ := Client.open rc
          exact ⟨Ag, kg, rfl, hb⟩)
        obtain ⟨k0_, k1_⟩ := HBC.out w13 HB413.out
        obtain ⟨t0, t1, t2, d0⟩ := HBX.out w13 HB13v.out
        obtain ⟨l0, l1_, l2, l3, l4, l5, l6, l7, l8, l9, l10, l11⟩ := HBL.out (w13.alloc (.cells #[] 61)) (HB1013.out.alloc HB1013.out.size _)
        clear HCQ E3
        go_wp2_with (fail)
        refine (HC14.out _ ((Below.refl _ _).alloc (Nat.le_refl _) _) _ _ (Nat.zero_le _)).mono ?_
        rintro e14 w14 ⟨Ag, kg, rfl, hb14⟩
        go_upto_region 15 with (fail)
        clear k0_ k1_ t0 t1 t2 d0 l0 l1_ l2 l3 l4 l5 l6 l7 l8 l9 l10 l11
        have HB14 := Lib.hid (Below.via hb14)
        clear hb14
        obtain ⟨V14, hV14⟩ : ∃ W, w14.alloc (.cells #[.int .i64 hn, .slice Ag 0 kg] 47) = W := ⟨_, rfl⟩
        have hV14f : Below w14.heap.size w14 V14 := by rw [← hV14]; exact (Below.refl _ _).alloc (Nat.le_refl _) _
        rw [hV14]
        clear hV14
        have HB1314 := Lib.hid (HB14.out.trans (hV14f.mono HB14.out.size))
        have HB1114 := Lib.hid (HB1113.out.trans (HB1314.out.mono HB1113.out.size))
        have HB214 := Lib.hid (HB13v.out.trans (HB1314.out.mono HB13v.out.size))
        obtain ⟨u0, u1⟩ := HBD.out V14 HB1114.out
        clear hV14f
        go_upto_region 16 with (fail)
        obtain ⟨V15, hV15⟩ : ∃ W, V14.alloc (.cells #[.int .i64 hn, .slice AD X.length kD] 47) = W := ⟨_, rfl⟩
        have hV15f : Below V14.heap.size V14 V15 ∧ V15.heap.size = V14.heap.size + 1 ∧ V15.heap[V14.heap.size]? = some (.cells #[.int .i64 hn, .slice AD X.length kD] 47 (0, 0)) := by
          rw [← hV15]
          exact ⟨(Below.refl _ _).alloc (Nat.le_refl _) _, by simp, heap_alloc_new V14 _⟩
        rw [hV15]
        clear hV15 u0 u1
        obtain ⟨b15, s15, y15⟩ := hV15f
        have HB1415 := Lib.hid b15
        obtain ⟨u0, u1⟩ := HBD.out (V15.alloc (.cells #[] 58)) ((HB1114.out.trans (b15.mono HB1114.out.size)).alloc (Nat.le_trans HB1114.out.size b15.size) _)
        have HRD15 := Lib.hid (HRHv.out V15 (HB1114.out.trans (b15.mono HB1114.out.size)))
        have o0 := box_at (i := 0) y15 rfl
        have o1 := box_at (i := 1) y15 rfl
        have of := fun o => box_fz y15 o
        have lO : V14.heap.size < V15.heap.size := by omega
        clear b15 y15
        go_wp2_with (at_builtin; (refine wpList_push (α := Head) (L := []) (ys := hs) (w0 := V15) rfl _ _ rfl rfl rfl (Own.litAt (Below.refl _ _) 58 rfl s15.symm) rfl hsl.symm (Src.flatC (Row.later HRD15.out ((Below.refl _ _).alloc (Nat.le_refl _) _))) (by omega) ?_; intro AO kO w16 o16 z16; replace o0 := (o16.bl.cell (p := ⟨V14.heap.size, 0, none⟩) lO).trans o0; replace o1 := (o16.bl.cell (p := ⟨V14.heap.size, 1, none⟩) lO).trans o1; replace of := fun o => (o16.bl.frozen (p := ⟨V14.heap.size, o, none⟩) lO).trans (of o); have HO16 := Lib.hid o16; clear o16 u0 u1))
        obtain ⟨V16, hV16⟩ : ∃ W, w16.setCell ⟨V14.heap.size, 1, none⟩ (.slice AO X.length kO) = W := ⟨_, rfl⟩
        have hV16f : V16.cell? ⟨V14.heap.size, 0, none⟩ = some (.int .i64 hn) ∧ V16.cell? ⟨V14.heap.size, 1, none⟩ = some (.slice AO X.length kO) ∧ Row true V16 AO kO hs (nw V15.heap.size) ∧ Below V14.heap.size V14 V16 := by
          rw [← hV16]
          refine ⟨(cell_set_ne w16 V14.heap.size 1 0 _ (by decide)).trans o0, World.cell?_setCell_same _ _ _ o1, HO16.out.row.setC (fun h => by have h1 : V15.heap.size ≤ V14.heap.size := h; omega) _, Below.setCell (HB1415.out.trans (HO16.out.bl.mono HB1415.out.size)) (Nat.le_refl _) _⟩
        rw [hV16]
        clear hV16 o0 o1 of
        obtain ⟨p0_, p1_, rO, b16⟩ := hV16f
        have HB1416 := Lib.hid b16
        have h0s : 0 < hs.length := by omega
        obtain ⟨gO, rfl, gOs, gOl, g2, gOf, HST⟩ := row_root rO h0s
        have HRO := Lib.hid (fun W (h : Below V16.heap.size V16 W) => row_root (Row.later rO h) h0s)
        have hgO : V15.heap.size ≤ gO := gOs
        have h16 := E5.out
        obtain ⟨rt, hrt⟩ : ∃ r, hs[0].root = r := ⟨_, rfl⟩
        rw [hrt] at g2 h16
        obtain ⟨h16a, h16z, h16p⟩ := h16
        have HEQ := Lib.hid h16a
        clear h16a
        have HRT := Lib.hid hrt
        have HHW := Lib.hid (HWV.out.trans ((HB214.out.trans (HB1416.out.mono HB214.out.size)).mono HWV.out.size))
        have hAO := At.two p0_ p1_
        have HAO := Lib.hid hAO
        clear HST gOs b16 hrt hAO rO p0_ gOf
        have HTU := Lib.hid (fun (W : World) (P : List Int) (AP : Option Addr) (cP : Nat) (hp : Row false W AP cP P All) (hl : P.length = 12) (hb : ∀ x ∈ P, 0 ≤ x ∧ x < 10000) => laws_turned W rt (by omega) (by omega) P AP cP _ hp hl hb)
        have HDP := Lib.hid (fun W (h : Below V16.heap.size V16 W) => spec_DrawPlaces W p0 _ _ _ (Row.later hp0 (HHW.out.trans (h.mono HHW.out.size))) (fun b hb => by have := hb.2; have := HHW.out.size; have := h.size; omega) hlen)
        have HP1 := Lib.hid (fun W (h : Below V16.heap.size V16 W) => (h.cell (p := ⟨V14.heap.size, 1, none⟩) (by show V14.heap.size < _; have := HB1416.out.size; omega)).trans p1_)
        clear p1_
        go_cut [25] (fun s25 wx => ∃ (rn : ByteArray) (w' : World), s25 = .pointer (some ⟨V14.heap.size, 0, none⟩) ∧ Hid (rn ≠ rt ∧ rn.size ≤ 16) ∧ Hid (Below V16.heap.size V16 w') ∧ Hid (wx = w'.setCell ⟨gO, 2, none⟩ (.string rn)))
        case first =>
--BEGIN 18
          refine wp_region_held_drew (S := fun W' => W'.cell? ⟨V14.heap.size, 1, none⟩ = some (.slice (some ⟨gO, 0, none⟩) X.length kO)) (by kernel_rfl) (HP1.out _ ((Below.refl _ _).drew)) (fun hS => ?_)
          refine wpAnyH_take (i := 0) (v := .pointer (some ⟨V14.heap.size, 1, none⟩)) rfl (by as_aux_lemma => kernel_rfl) (by as_aux_lemma => kernel_rfl) (by as_aux_lemma => kernel_rfl) (fun _ _ _ h => h) (Or.inl ⟨by rfl, by intro w hSw; go_simp⟩) hS ?_
          (try simp only [Act.put, List.getElem_toArray, List.getElem_cons_succ, List.getElem_cons_zero, List.setIfInBounds_toArray, List.set_cons_zero, List.set_cons_succ])
          refine wpAnyH_take (i := 1) (v := .slice (some ⟨gO, 0, none⟩) X.length kO) rfl (by as_aux_lemma => kernel_rfl) (by as_aux_lemma => kernel_rfl) (by as_aux_lemma => kernel_rfl) (fun _ _ _ h => h) (Or.inl ⟨by rfl, by intro w hSw; go_simp⟩) hS ?_
          (try simp only [Act.put, List.getElem_toArray, List.getElem_cons_succ, List.getElem_cons_zero, List.setIfInBounds_toArray, List.set_cons_zero, List.set_cons_succ])
          refine wpAnyH_take (i := 2) (v := .pointer (some ⟨V14.heap.size, 1, none⟩)) rfl (by as_aux_lemma => kernel_rfl) (by as_aux_lemma => kernel_rfl) (by as_aux_lemma => kernel_rfl) (fun _ _ _ h => h) (Or.inl ⟨by rfl, by intro w hSw; go_simp⟩) hS ?_
          (try simp only [Act.put, List.getElem_toArray, List.getElem_cons_succ, List.getElem_cons_zero, List.setIfInBounds_toArray, List.set_cons_zero, List.set_cons_succ])
          refine wpAnyH_take (i := 3) (v := .slice (some ⟨gO, 0, none⟩) X.length kO) rfl (by as_aux_lemma => kernel_rfl) (by as_aux_lemma => kernel_rfl) (by as_aux_lemma => kernel_rfl) (fun _ _ _ h => h) (Or.inl ⟨by rfl, by intro w hSw; go_simp⟩) hS ?_
          (try simp only [Act.put, List.getElem_toArray, List.getElem_cons_succ, List.getElem_cons_zero, List.setIfInBounds_toArray, List.set_cons_zero, List.set_cons_succ])
          refine wpAnyH_take (i := 4) (v := .pointer (some ⟨gO, 0, none⟩)) rfl (by as_aux_lemma => kernel_rfl) (by as_aux_lemma => kernel_rfl) (by as_aux_lemma => kernel_rfl) (fun _ _ _ h => h) (Or.inl ⟨by rfl, by intro w hSw; go_simp⟩) hS ?_
          (try simp only [Act.put, List.getElem_toArray, List.getElem_cons_succ, List.getElem_cons_zero, List.setIfInBounds_toArray, List.set_cons_zero, List.set_cons_succ])
          refine wpAnyH_take (i := 5) (v := .pointer (some ⟨gO, 2, none⟩)) rfl (by as_aux_lemma => kernel_rfl) (by as_aux_lemma => kernel_rfl) (by as_aux_lemma => kernel_rfl) (fun _ _ _ h => h) (Or.inl ⟨by rfl, by intro w hSw; go_simp⟩) hS ?_
          (try simp only [Act.put, List.getElem_toArray, List.getElem_cons_succ, List.getElem_cons_zero, List.setIfInBounds_toArray, List.set_cons_zero, List.set_cons_succ])
          refine wpAnyH_take (i := 7) (v := .slice A0 p0.length k0) rfl (by as_aux_lemma => kernel_rfl) (by as_aux_lemma => kernel_rfl) (by as_aux_lemma => kernel_rfl) (fun _ _ _ h => h) (yieldsIf_move (by rfl) _ rfl (by rfl)) hS ?_
          (try simp only [Act.put, List.getElem_toArray, List.getElem_cons_succ, List.getElem_cons_zero, List.setIfInBounds_toArray, List.set_cons_zero, List.set_cons_succ])
          have HV := Lib.hid ((Below.refl V16.heap.size V16).drew)
          refine wpAnyH_ready (rs := [6, 8]) (by as_aux_lemma => kernel_rfl) (by simp) (AllReadyH.cons rfl (fun K hK => ?_) (AllReadyH.cons rfl (fun K hK => ?_) AllReadyH.nil))
          rotate_left
          · as_aux_lemma =>
              (try rw [if_pos (by rfl)])
              clear hS
              go_simp
              refine (HDP.out _ HV.out).mono ?_
              rintro e_ wd ⟨PL, AP, cP, rfl, hPl, hPb, hPr, hb_⟩
              replace HV := Lib.hid (Below.step HV.out hb_)
              have HPl := Lib.hid hPl; have HPb := Lib.hid hPb; have HPr := Lib.hid (Row.mono hPr (S' := All) (fun _ _ => trivial)); clear hPl hPb hPr hb_
              refine hK.out _ _ (HP1.out _ HV.out) (fun hS => ?_)
              clear hK K
              (try simp only [Act.put, List.getElem_toArray, List.getElem_cons_succ, List.getElem_cons_zero, List.setIfInBounds_toArray, List.set_cons_zero, List.set_cons_succ])
              obtain ⟨g8, e8, -, l8, c8, -, -⟩ := HRO.out _ HV.out
              injection e8 with e8
              injection e8 with e8 _
              subst e8
              rw [HRT.out] at c8
              refine wpAnyH_ready (rs := [6]) (by as_aux_lemma => kernel_rfl) (by simp) (AllReadyH.cons rfl (fun K hK => ?_) AllReadyH.nil)
              (try rw [if_pos (by rfl)])
              clear hS
              go_simp
              refine hK.out _ _ (HP1.out _ HV.out) (fun hS => ?_)
              clear hK K
              (try simp only [Act.put, List.getElem_toArray, List.getElem_cons_succ, List.getElem_cons_zero, List.setIfInBounds_toArray, List.set_cons_zero, List.set_cons_succ])
              refine wpAnyH_ready (rs := [9]) (by as_aux_lemma => kernel_rfl) (by simp) (AllReadyH.cons rfl (fun K hK => ?_) AllReadyH.nil)
              (try rw [if_pos (by rfl)])
              clear hS
              go_simp
              refine (HTU.out _ PL AP cP HPr.out HPl.out HPb.out).mono ?_
              rintro e_ wt ⟨rn, rfl, hrn, hrz, hb2_⟩
              replace HV := Lib.hid (Below.step HV.out hb2_)
              clear hb2_
              refine hK.out _ _ (HP1.out _ HV.out) (fun hS => ?_)
              clear hK K
              (try simp only [Act.put, List.getElem_toArray, List.getElem_cons_succ, List.getElem_cons_zero, List.setIfInBounds_toArray, List.set_cons_zero, List.set_cons_succ])
              refine wpAnyH_take (i := 10) (v := .pointer (some ⟨gO, 0, none⟩)) rfl (by as_aux_lemma => kernel_rfl) (by as_aux_lemma => kernel_rfl) (by as_aux_lemma => kernel_rfl) (fun _ _ _ h => h) (Or.inl ⟨by rfl, by intro w hSw; go_simp⟩) hS ?_
              (try simp only [Act.put, List.getElem_toArray, List.getElem_cons_succ, List.getElem_cons_zero, List.setIfInBounds_toArray, List.set_cons_zero, List.set_cons_succ])
              refine wpAnyH_take (i := 11) (v := .pointer (some ⟨gO, 2, none⟩)) rfl (by as_aux_lemma => kernel_rfl) (by as_aux_lemma => kernel_rfl) (by as_aux_lemma => kernel_rfl) (fun _ _ _ h => h) (Or.inl ⟨by rfl, by intro w hSw; go_simp⟩) hS ?_
              (try simp only [Act.put, List.getElem_toArray, List.getElem_cons_succ, List.getElem_cons_zero, List.setIfInBounds_toArray, List.set_cons_zero, List.set_cons_succ])
              obtain ⟨g9, e9, -, l9, c9, f9, -⟩ := HRO.out _ HV.out
              injection e9 with e9
              injection e9 with e9 _
              subst e9
              refine wpAnyH_ready (rs := [12]) (by as_aux_lemma => kernel_rfl) (by simp) (AllReadyH.cons rfl (fun K hK => ?_) AllReadyH.nil)
              (try rw [if_pos (by rfl)])
              clear hS
              go_simp
              refine hK.out _ _ ((cell_far (by omega) (HP1.out _ HV.out))) (fun hS => ?_)
              clear hK K
              (try simp only [Act.put, List.getElem_toArray, List.getElem_cons_succ, List.getElem_cons_zero, List.setIfInBounds_toArray, List.set_cons_zero, List.set_cons_succ])
              refine wpAnyH_done (by as_aux_lemma => kernel_rfl) ?_ _
              clear hS
              (try go_wp2_with (fail))
              go_meet
              exact ⟨rn, _, rfl, Lib.hid ⟨hrn, by omega⟩, HV, Lib.hid rfl⟩
          as_aux_lemma =>
            (try rw [if_pos (by rfl)])
            clear hS
            go_simp
            refine hK.out _ _ (HP1.out _ HV.out) (fun hS => ?_)
            clear hK K
            (try simp only [Act.put, List.getElem_toArray, List.getElem_cons_succ, List.getElem_cons_zero, List.setIfInBounds_toArray, List.set_cons_zero, List.set_cons_succ])
            refine wpAnyH_ready (rs := [8]) (by as_aux_lemma => kernel_rfl) (by simp) (AllReadyH.cons rfl (fun K hK => ?_) AllReadyH.nil)
            (try rw [if_pos (by rfl)])
            clear hS
            go_simp
            refine (HDP.out _ HV.out).mono ?_
            rintro e_ wd ⟨PL, AP, cP, rfl, hPl, hPb, hPr, hb_⟩
            replace HV := Lib.hid (Below.step HV.out hb_)
            have HPl := Lib.hid hPl; have HPb := Lib.hid hPb; have HPr := Lib.hid (Row.mono hPr (S' := All) (fun _ _ => trivial)); clear hPl hPb hPr
            refine hK.out _ _ (HP1.out _ HV.out) (fun hS => ?_)
            clear hK K
            (try simp only [Act.put, List.getElem_toArray, List.getElem_cons_succ, List.getElem_cons_zero, List.setIfInBounds_toArray, List.set_cons_zero, List.set_cons_succ])
            refine wpAnyH_ready (rs := [9]) (by as_aux_lemma => kernel_rfl) (by simp) (AllReadyH.cons rfl (fun K hK => ?_) AllReadyH.nil)
            (try rw [if_pos (by rfl)])
            clear hS
            go_simp
            refine (HTU.out _ PL AP cP HPr.out HPl.out HPb.out).mono ?_
            rintro e_ wt ⟨rn, rfl, hrn, hrz, hb2_⟩
            replace HV := Lib.hid (Below.step HV.out hb2_)
            clear hb2_
            refine hK.out _ _ (HP1.out _ HV.out) (fun hS => ?_)
            clear hK K
            (try simp only [Act.put, List.getElem_toArray, List.getElem_cons_succ, List.getElem_cons_zero, List.setIfInBounds_toArray, List.set_cons_zero, List.set_cons_succ])
            refine wpAnyH_take (i := 10) (v := .pointer (some ⟨gO, 0, none⟩)) rfl (by as_aux_lemma => kernel_rfl) (by as_aux_lemma => kernel_rfl) (by as_aux_lemma => kernel_rfl) (fun _ _ _ h => h) (Or.inl ⟨by rfl, by intro w hSw; go_simp⟩) hS ?_
            (try simp only [Act.put, List.getElem_toArray, List.getElem_cons_succ, List.getElem_cons_zero, List.setIfInBounds_toArray, List.set_cons_zero, List.set_cons_succ])
            refine wpAnyH_take (i := 11) (v := .pointer (some ⟨gO, 2, none⟩)) rfl (by as_aux_lemma => kernel_rfl) (by as_aux_lemma => kernel_rfl) (by as_aux_lemma => kernel_rfl) (fun _ _ _ h => h) (Or.inl ⟨by rfl, by intro w hSw; go_simp⟩) hS ?_
            (try simp only [Act.put, List.getElem_toArray, List.getElem_cons_succ, List.getElem_cons_zero, List.setIfInBounds_toArray, List.set_cons_zero, List.set_cons_succ])
            obtain ⟨g9, e9, -, l9, c9, f9, -⟩ := HRO.out _ HV.out
            injection e9 with e9
            injection e9 with e9 _
            subst e9
            refine wpAnyH_ready (rs := [12]) (by as_aux_lemma => kernel_rfl) (by simp) (AllReadyH.cons rfl (fun K hK => ?_) AllReadyH.nil)
            (try rw [if_pos (by rfl)])
            clear hS
            go_simp
            refine hK.out _ _ ((cell_far (by omega) (HP1.out _ HV.out))) (fun hS => ?_)
            clear hK K
            (try simp only [Act.put, List.getElem_toArray, List.getElem_cons_succ, List.getElem_cons_zero, List.setIfInBounds_toArray, List.set_cons_zero, List.set_cons_succ])
            refine wpAnyH_done (by as_aux_lemma => kernel_rfl) ?_ _
            clear hS
            (try go_wp2_with (fail))
            go_meet
            exact ⟨rn, _, rfl, Lib.hid ⟨hrn, by omega⟩, HV, Lib.hid rfl⟩
--END 18
        case rest =>
        rename World => w18
        obtain ⟨rn, w17, rfl, HRN, HB17, HW18⟩ := hcut
        have HF18 : Hid (Row true w18 (some ⟨gO, 0, none⟩) kO (hs.set 0 ⟨hs[0].house, hs[0].epoch, rn, hs[0].prev⟩) (nw V15.heap.size) ∧ Below V14.heap.size V14 w18 ∧ At w18 V14.heap.size 0 [.int .i64 hn, .slice (some ⟨gO, 0, none⟩) X.length kO] ∧ V14.heap.size < w18.heap.size) := Lib.hid (by
          obtain ⟨g3, e3, -, -, -, -, h3⟩ := HRO.out w17 HB17.out
          injection e3 with e3
          injection e3 with e3 _
          subst e3
          rw [HW18.out]
          refine ⟨h3 rn (by have := HRN.out.2; unfold maxLen; omega), Below.setCell (HB1416.out.trans (HB17.out.mono HB1416.out.size)) (show V14.heap.size ≤ gO by omega) _, ?_⟩
          have h4 := HAO.out.below HB17.out (by have := HB1416.out.size; omega)
          exact ⟨At.two (cell_far (by omega) (h4 0 _ rfl)) (cell_far (by omega) (h4 1 _ rfl)), by have := HB17.out.size; simp; omega⟩)
        clear HW18 HRO HAO HP1 HDP HTU HB17
        obtain ⟨os, hos⟩ : ∃ l, hs.set 0 ⟨hs[0].house, hs[0].epoch, rn, hs[0].prev⟩ = l := ⟨_, rfl⟩
        have hol : os.length = X.length := by rw [← hos, List.length_set]; exact hsl
        have HOD : Hid (0 < os.length ∧ ∀ h : 0 < os.length, os[0].root ≠ y.seal_.head.root) := Lib.hid (by
          refine ⟨by omega, fun h => ?_⟩
          subst hos
          rw [List.getElem_set_self]
          exact fun e => HRN.out.1 (e.trans HEQ.out.symm))
        have HOZ : Hid ((⟨hn, os⟩ : Client).sz ≤ 1048576) := Lib.hid (by
          have h5 := HHS.out
          have h6 := szL_set0 (l := hs) (x := ⟨hs[0].house, hs[0].epoch, rn, hs[0].prev⟩)
          rw [hos] at h6
          have h7 : sz (⟨hs[0].house, hs[0].epoch, rn, hs[0].prev⟩ : Head) = rn.size + hs[0].prev.size := rfl
          have h8 := HRN.out.2
          have h9 := h16p
          show szL os ≤ 1048576
          omega)
        have HF19 := Lib.hid HF18.out
        rw [hos] at HF19
        clear HF18 hos
        have HB218 := Lib.hid (HB214.out.trans (HF19.out.2.1.mono HB214.out.size))
        have HM19 : Hid (∀ W', Below w18.heap.size w18 W' → At W' V14.heap.size 0 [.int .i64 hn, .slice (some ⟨gO, 0, none⟩) X.length kO] ∧ At W' w1.heap.size 0 [.slice A1 3 c1, .int .i64 k, .int .i64 0] ∧ W'.cell? ⟨w1.heap.size + 1, 0, none⟩ = some (.slice (some ⟨gX, 0, none⟩) X.length cp) ∧ At W' gX 0 [.slice R0 y.proof.bucket.length r0_, .slice R1 y.proof.sides.length r1_, .slice R2 y.tops.length r2_, .int .i64 y.seal_.head.house, .int .i64 y.seal_.head.epoch, .string y.seal_.head.root, .string y.seal_.head.prev, .int .i64 y.seal_.sig.at_, .slice R3 y.seal_.sig.open_.length r3_, .slice R4 y.seal_.sig.shut.length r4_, .slice R5 y.seal_.sig.sides.length r5_, .slice R6 y.stamps.length r6_]) := Lib.hid (fun w' h => by
          obtain ⟨u2, u3, u4, u5⟩ := HBX.out w' (HB218.out.trans (h.mono HB218.out.size))
          exact ⟨HF19.out.2.2.1.below h HF19.out.2.2.2, At.three u2 u3 u4, u5, HX12.out.below (HB218.out.trans (h.mono HB218.out.size)) hl6⟩)
        have HC19 : Hid (∀ W, Below w18.heap.size w18 W → ∀ (AL : Option Addr) (kL : Nat), kL ≤ maxLen → Calls Tryz.prog 15 #[.agg #[.int .i64 hn, .slice (some ⟨gO, 0, none⟩) X.length kO], .agg #[.slice A1 3 c1, .int .i64 k, .int .i64 0], .slice AL 0 kL, .string nm, .agg #[.slice R0 y.proof.bucket.length r0_, .slice R1 y.proof.sides.length r1_, .slice R2 y.tops.length r2_, .int .i64 y.seal_.head.house, .int .i64 y.seal_.head.epoch, .string y.seal_.head.root, .string y.seal_.head.prev, .int .i64 y.seal_.sig.at_, .slice R3 y.seal_.sig.open_.length r3_, .slice R4 y.seal_.sig.shut.length r4_, .slice R5 y.seal_.sig.sides.length r5_, .slice R6 y.stamps.length r6_]] W fun e w' => ∃ (Ae : Option Addr) (ke : Nat) (v2 : ByteArray) (b2 : Bool), e = .returned (.tuple #[.agg #[.int .i64 hn, .slice Ae X.length ke], .string v2, .bool b2, .int .i64 2]) ∧ rd true w' [.int .i64 hn, .slice Ae X.length ke] (⟨hn, os⟩ : Client) (rng W.heap.size w'.heap.size) ∧ Below W.heap.size W w') := Lib.hid (fun W h AL kL mL => by
          have hOl : os.length ≤ kO ∧ kO ≤ maxLen := ⟨by have h9 := HO16.out.le; rw [List.nil_append, hsl] at h9; rw [hol]; exact h9, HO16.out.cm⟩
          have hRO := Client.mk' (m := false) (x := ⟨hn, os⟩) (S := All) hI hOl.1 hOl.2 (Row.weak (Row.later HF19.out.1 h)) (fun _ _ => trivial)
          simp only [Client.cs, hol] at hRO
          have h1 := HC0.out W (HB218.out.trans (h.mono HB218.out.size)) _ ⟨hn, os⟩ hRO HOZ.out AL kL mL
          rw [E4.out os HOD.out.1 (HOD.out.2 _)] at h1
          refine h1.mono ?_
          rintro e w' ⟨cs, rfl, rc, hb⟩
          have HC := Lib.hid rc
          obtain ⟨Ae, ke, Se, rfl, -⟩ := Client.open rc
          simp only [Client.cs, hol] at HC ⊢
          exact ⟨Ae, ke, _, _, rfl, HC.out, hb⟩)
        go_upto_region 19 with (fail)
        go_cut [26, 29] (fun s26 s29 wx => ∃ (ob lo hi : Nat) (Ae : Option Addr) (ke : Nat), s26 = .pointer (some ⟨ob, 0, none⟩) ∧ s29 = .int .i64 2 ∧ Hid (FloatCut w18 wx ob lo hi [.int .i64 hn, .slice Ae X.length ke] (⟨hn, os⟩ : Client)))
        case first =>
--BEGIN 19
          refine wp_region_held_drew (S := fun W' => At W' V14.heap.size 0 [.int .i64 hn, .slice (some ⟨gO, 0, none⟩) X.length kO] ∧ At W' w1.heap.size 0 [.slice A1 3 c1, .int .i64 k, .int .i64 0] ∧ W'.cell? ⟨w1.heap.size + 1, 0, none⟩ = some (.slice (some ⟨gX, 0, none⟩) X.length cp) ∧ At W' gX 0 [.slice R0 y.proof.bucket.length r0_, .slice R1 y.proof.sides.length r1_, .slice R2 y.tops.length r2_, .int .i64 y.seal_.head.house, .int .i64 y.seal_.head.epoch, .string y.seal_.head.root, .string y.seal_.head.prev, .int .i64 y.seal_.sig.at_, .slice R3 y.seal_.sig.open_.length r3_, .slice R4 y.seal_.sig.shut.length r4_, .slice R5 y.seal_.sig.sides.length r5_, .slice R6 y.stamps.length r6_]) (by kernel_rfl) (HM19.out _ ((Below.refl _ _).drew)) (fun hS => ?_)
          refine wpAnyH_take (i := 0) (v := .agg #[.int .i64 hn, .slice (some ⟨gO, 0, none⟩) X.length kO]) rfl (by as_aux_lemma => kernel_rfl) (by as_aux_lemma => kernel_rfl) (by as_aux_lemma => kernel_rfl) (fun _ _ _ h => h) (yieldsIf_loadT (by rfl) _ _ rfl rfl (fun _ h => h.1) Tryz.underlying47 k_cl rfl) hS ?_
          (try simp only [Act.put, List.getElem_toArray, List.getElem_cons_succ, List.getElem_cons_zero, List.setIfInBounds_toArray, List.set_cons_zero, List.set_cons_succ])
          refine wpAnyH_take (i := 1) (v := .agg #[.slice A1 3 c1, .int .i64 k, .int .i64 0]) rfl (by as_aux_lemma => kernel_rfl) (by as_aux_lemma => kernel_rfl) (by as_aux_lemma => kernel_rfl) (fun _ _ _ h => h) (yieldsIf_loadT (by rfl) _ _ rfl rfl (fun _ h => h.2.1) Tryz.underlying51 k_tr rfl) hS ?_
          (try simp only [Act.put, List.getElem_toArray, List.getElem_cons_succ, List.getElem_cons_zero, List.setIfInBounds_toArray, List.set_cons_zero, List.set_cons_succ])
          refine wpAnyH_take (i := 3) (v := .string nm) rfl (by as_aux_lemma => kernel_rfl) (by as_aux_lemma => kernel_rfl) (by as_aux_lemma => kernel_rfl) (fun _ _ _ h => h) (yieldsIf_move (by rfl) _ rfl (by rfl)) hS ?_
          (try simp only [Act.put, List.getElem_toArray, List.getElem_cons_succ, List.getElem_cons_zero, List.setIfInBounds_toArray, List.set_cons_zero, List.set_cons_succ])
          refine wpAnyH_take (i := 4) (v := .pointer (some ⟨w1.heap.size + 1, 0, none⟩)) rfl (by as_aux_lemma => kernel_rfl) (by as_aux_lemma => kernel_rfl) (by as_aux_lemma => kernel_rfl) (fun _ _ _ h => h) (Or.inl ⟨by rfl, by intro w hSw; go_simp⟩) hS ?_
          (try simp only [Act.put, List.getElem_toArray, List.getElem_cons_succ, List.getElem_cons_zero, List.setIfInBounds_toArray, List.set_cons_zero, List.set_cons_succ])
          refine wpAnyH_take (i := 5) (v := .slice (some ⟨gX, 0, none⟩) X.length cp) rfl (by as_aux_lemma => kernel_rfl) (by as_aux_lemma => kernel_rfl) (by as_aux_lemma => kernel_rfl) (fun _ _ _ h => h) (Or.inl ⟨by rfl, by rintro w ⟨_, _, hSw, _⟩; go_simp⟩) hS ?_
          (try simp only [Act.put, List.getElem_toArray, List.getElem_cons_succ, List.getElem_cons_zero, List.setIfInBounds_toArray, List.set_cons_zero, List.set_cons_succ])
          refine wpAnyH_take (i := 6) (v := .pointer (some ⟨gX, 0, none⟩)) rfl (by as_aux_lemma => kernel_rfl) (by as_aux_lemma => kernel_rfl) (by as_aux_lemma => kernel_rfl) (fun _ _ _ h => h) (Or.inl ⟨by rfl, by intro w hSw; go_simp⟩) hS ?_
          (try simp only [Act.put, List.getElem_toArray, List.getElem_cons_succ, List.getElem_cons_zero, List.setIfInBounds_toArray, List.set_cons_zero, List.set_cons_succ])
          refine wpAnyH_take (i := 7) (v := .agg #[.slice R0 y.proof.bucket.length r0_, .slice R1 y.proof.sides.length r1_, .slice R2 y.tops.length r2_, .int .i64 y.seal_.head.house, .int .i64 y.seal_.head.epoch, .string y.seal_.head.root, .string y.seal_.head.prev, .int .i64 y.seal_.sig.at_, .slice R3 y.seal_.sig.open_.length r3_, .slice R4 y.seal_.sig.shut.length r4_, .slice R5 y.seal_.sig.sides.length r5_, .slice R6 y.stamps.length r6_]) rfl (by as_aux_lemma => kernel_rfl) (by as_aux_lemma => kernel_rfl) (by as_aux_lemma => kernel_rfl) (fun _ _ _ h => h) (yieldsIf_loadT (by rfl) _ _ rfl rfl (fun _ h => h.2.2.2) Tryz.underlying64 k_wh rfl) hS ?_
          (try simp only [Act.put, List.getElem_toArray, List.getElem_cons_succ, List.getElem_cons_zero, List.setIfInBounds_toArray, List.set_cons_zero, List.set_cons_succ])
          have HV := Lib.hid ((Below.refl w18.heap.size w18).drew)
          refine wpAnyH_ready (rs := [2, 14]) (by as_aux_lemma => kernel_rfl) (by simp) (AllReadyH.cons rfl (fun K hK => ?_) (AllReadyH.cons rfl (fun K hK => ?_) AllReadyH.nil))
          rotate_left
          · as_aux_lemma =>
              (try rw [if_pos (by rfl)])
              clear hS
              go_simp
              obtain ⟨hb_, hs_, y0, y1, yf⟩ := float_newd w18 (.int .i64 0) (.slice none 0 0) 47
              obtain ⟨qa1, hwa⟩ : ∃ W, (w18.alloc (.cells #[.int .i64 0, .slice none 0 0] 47)).drew = W := ⟨_, rfl⟩
              rw [hwa] at hb_ hs_ y0 y1 yf ⊢
              clear hwa
              have hob : w18.heap.size < qa1.heap.size := by rw [hs_]; exact Nat.lt_succ_self _
              have hbl : w18.heap.size ≤ w18.heap.size := Nat.le_refl _
              replace HV := Lib.hid (hb_); clear hb_
              refine hK.out _ _ (HM19.out _ HV.out) (fun hS => ?_)
              clear hK K
              (try simp only [Act.put, List.getElem_toArray, List.getElem_cons_succ, List.getElem_cons_zero, List.setIfInBounds_toArray, List.set_cons_zero, List.set_cons_succ])
              refine wpAnyH_ready (rs := [2]) (by as_aux_lemma => kernel_rfl) (by simp) (AllReadyH.cons rfl (fun K hK => ?_) AllReadyH.nil)
              (try rw [if_pos (by rfl)])
              clear hS
              go_simp
              have hb_ : Below qa1.heap.size qa1 (qa1.alloc (.cells #[] 61)) := (Below.refl _ _).alloc (Nat.le_refl _) _
              obtain ⟨qb2, hwa⟩ : ∃ W, qa1.alloc (.cells #[] 61) = W := ⟨_, rfl⟩
              rw [hwa] at hb_ ⊢
              clear hwa
              replace y0 := (hb_.cell (p := ⟨w18.heap.size, 0, none⟩) hob).trans y0; replace y1 := (hb_.cell (p := ⟨w18.heap.size, 1, none⟩) hob).trans y1; replace yf := fun o => (hb_.frozen (p := ⟨w18.heap.size, o, none⟩) hob).trans (yf o); replace hob := Nat.lt_of_lt_of_le hob hb_.size
              replace HV := Lib.hid (Below.step HV.out hb_); clear hb_
              refine hK.out _ _ (HM19.out _ HV.out) (fun hS => ?_)
              clear hK K
              (try simp only [Act.put, List.getElem_toArray, List.getElem_cons_succ, List.getElem_cons_zero, List.setIfInBounds_toArray, List.set_cons_zero, List.set_cons_succ])
              refine wpAnyH_ready (rs := [8]) (by as_aux_lemma => kernel_rfl) (by simp) (AllReadyH.cons rfl (fun K hK => ?_) AllReadyH.nil)
              (try rw [if_pos (by rfl)])
              clear hS
              go_simp
              have hv1 : w18.heap.size ≤ qb2.heap.size := HV.out.size
              refine (HC19.out _ HV.out _ _ (Nat.zero_le _)).mono ?_
              rintro e_ qc3 ⟨Ae, ke, v2, b2, rfl, hr_, hb_⟩
              have hsz_ := hb_.size
              have hv2 : w18.heap.size < qb2.heap.size := hob
              replace y0 := (hb_.cell (p := ⟨w18.heap.size, 0, none⟩) hob).trans y0; replace y1 := (hb_.cell (p := ⟨w18.heap.size, 1, none⟩) hob).trans y1; replace yf := fun o => (hb_.frozen (p := ⟨w18.heap.size, o, none⟩) hob).trans (yf o); replace hob := Nat.lt_of_lt_of_le hob hb_.size
              replace HV := Lib.hid (Below.step HV.out hb_)
              have HRES := Lib.hid hr_; clear hr_ hb_
              refine hK.out _ _ (HM19.out _ HV.out) (fun hS => ?_)
              clear hK K
              (try simp only [Act.put, List.getElem_toArray, List.getElem_cons_succ, List.getElem_cons_zero, List.setIfInBounds_toArray, List.set_cons_zero, List.set_cons_succ])
              refine wpAnyH_take (i := 9) (v := .tuple #[.agg #[.int .i64 hn, .slice Ae X.length ke], .string v2, .bool b2, .int .i64 2]) rfl (by as_aux_lemma => kernel_rfl) (by as_aux_lemma => kernel_rfl) (by as_aux_lemma => kernel_rfl) (fun _ _ _ h => h) (yieldsIf_move (by rfl) _ rfl (by rfl)) hS ?_
              (try simp only [Act.put, List.getElem_toArray, List.getElem_cons_succ, List.getElem_cons_zero, List.setIfInBounds_toArray, List.set_cons_zero, List.set_cons_succ])
              refine wpAnyH_take (i := 10) (v := .agg #[.int .i64 hn, .slice Ae X.length ke]) rfl (by as_aux_lemma => kernel_rfl) (by as_aux_lemma => kernel_rfl) (by as_aux_lemma => kernel_rfl) (fun _ _ _ h => h) (yieldsIf_extract (by rfl) _ 0 rfl (by rfl) (by rfl)) hS ?_
              (try simp only [Act.put, List.getElem_toArray, List.getElem_cons_succ, List.getElem_cons_zero, List.setIfInBounds_toArray, List.set_cons_zero, List.set_cons_succ])
              refine wpAnyH_take (i := 11) (v := .string v2) rfl (by as_aux_lemma => kernel_rfl) (by as_aux_lemma => kernel_rfl) (by as_aux_lemma => kernel_rfl) (fun _ _ _ h => h) (yieldsIf_extract (by rfl) _ 1 rfl (by rfl) (by rfl)) hS ?_
              (try simp only [Act.put, List.getElem_toArray, List.getElem_cons_succ, List.getElem_cons_zero, List.setIfInBounds_toArray, List.set_cons_zero, List.set_cons_succ])
              refine wpAnyH_take (i := 12) (v := .bool b2) rfl (by as_aux_lemma => kernel_rfl) (by as_aux_lemma => kernel_rfl) (by as_aux_lemma => kernel_rfl) (fun _ _ _ h => h) (yieldsIf_extract (by rfl) _ 2 rfl (by rfl) (by rfl)) hS ?_
              (try simp only [Act.put, List.getElem_toArray, List.getElem_cons_succ, List.getElem_cons_zero, List.setIfInBounds_toArray, List.set_cons_zero, List.set_cons_succ])
              refine wpAnyH_take (i := 13) (v := .int .i64 2) rfl (by as_aux_lemma => kernel_rfl) (by as_aux_lemma => kernel_rfl) (by as_aux_lemma => kernel_rfl) (fun _ _ _ h => h) (yieldsIf_extract (by rfl) _ 3 rfl (by rfl) (by rfl)) hS ?_
              (try simp only [Act.put, List.getElem_toArray, List.getElem_cons_succ, List.getElem_cons_zero, List.setIfInBounds_toArray, List.set_cons_zero, List.set_cons_succ])
              refine wpAnyH_ready (rs := [15]) (by as_aux_lemma => kernel_rfl) (by simp) (AllReadyH.cons rfl (fun K hK => ?_) AllReadyH.nil)
              (try rw [if_pos (by rfl)])
              clear hS
              go_simp
              refine hK.out _ _ (HM19.out _ (Below.setCell (Below.setCell HV.out hbl _) hbl _)) (fun hS => ?_)
              clear hK K
              (try simp only [Act.put, List.getElem_toArray, List.getElem_cons_succ, List.getElem_cons_zero, List.setIfInBounds_toArray, List.set_cons_zero, List.set_cons_succ])
              refine wpAnyH_take (i := 16) (v := .string v2) rfl (by as_aux_lemma => kernel_rfl) (by as_aux_lemma => kernel_rfl) (by as_aux_lemma => kernel_rfl) (fun _ _ _ h => h) (yieldsIf_assign (by rfl) _ rfl (by rfl)) hS ?_
              (try simp only [Act.put, List.getElem_toArray, List.getElem_cons_succ, List.getElem_cons_zero, List.setIfInBounds_toArray, List.set_cons_zero, List.set_cons_succ])
              refine wpAnyH_take (i := 17) (v := .bool b2) rfl (by as_aux_lemma => kernel_rfl) (by as_aux_lemma => kernel_rfl) (by as_aux_lemma => kernel_rfl) (fun _ _ _ h => h) (yieldsIf_assign (by rfl) _ rfl (by rfl)) hS ?_
              (try simp only [Act.put, List.getElem_toArray, List.getElem_cons_succ, List.getElem_cons_zero, List.setIfInBounds_toArray, List.set_cons_zero, List.set_cons_succ])
              refine wpAnyH_take (i := 18) (v := .int .i64 2) rfl (by as_aux_lemma => kernel_rfl) (by as_aux_lemma => kernel_rfl) (by as_aux_lemma => kernel_rfl) (fun _ _ _ h => h) (yieldsIf_assign (by rfl) _ rfl (by rfl)) hS ?_
              (try simp only [Act.put, List.getElem_toArray, List.getElem_cons_succ, List.getElem_cons_zero, List.setIfInBounds_toArray, List.set_cons_zero, List.set_cons_succ])
              refine wpAnyH_done (by as_aux_lemma => kernel_rfl) ?_ _
              clear hS
              (try go_wp2_with (fail))
              go_meet
              exact ⟨w18.heap.size, qb2.heap.size, qc3.heap.size, Ae, ke, rfl, rfl, Lib.hid (FloatCut.put HV.out hbl hob hv1 (by have := HV.out.size; omega) (by omega) HRES.out y0 y1)⟩
          (try rw [if_pos (by rfl)])
          clear hS
          go_simp
          have hb_ : Below w18.heap.size w18 (w18.alloc (.cells #[] 61)) := (Below.refl _ _).alloc (Nat.le_refl _) _
          replace hb_ := hb_.drew
          obtain ⟨qb4, hwa⟩ : ∃ W, (w18.alloc (.cells #[] 61)).drew = W := ⟨_, rfl⟩
          rw [hwa] at hb_ ⊢
          clear hwa
          replace HV := Lib.hid (hb_); clear hb_
          refine hK.out _ _ (HM19.out _ HV.out) (fun hS => ?_)
          clear hK K
          (try simp only [Act.put, List.getElem_toArray, List.getElem_cons_succ, List.getElem_cons_zero, List.setIfInBounds_toArray, List.set_cons_zero, List.set_cons_succ])
          refine wpAnyH_ready (rs := [8, 14]) (by as_aux_lemma => kernel_rfl) (by simp) (AllReadyH.cons rfl (fun K hK => ?_) (AllReadyH.cons rfl (fun K hK => ?_) AllReadyH.nil))
          rotate_left
          · as_aux_lemma =>
              (try rw [if_pos (by rfl)])
              clear hS
              go_simp
              obtain ⟨hb_, hs_, y0, y1, yf⟩ := float_new qb4 (.int .i64 0) (.slice none 0 0) 47
              obtain ⟨qa5, hwa⟩ : ∃ W, qb4.alloc (.cells #[.int .i64 0, .slice none 0 0] 47) = W := ⟨_, rfl⟩
              rw [hwa] at hb_ hs_ y0 y1 yf ⊢
              clear hwa
              have hob : qb4.heap.size < qa5.heap.size := by rw [hs_]; exact Nat.lt_succ_self _
              have hbl : w18.heap.size ≤ qb4.heap.size := HV.out.size
              replace HV := Lib.hid (Below.step HV.out hb_); clear hb_
              refine hK.out _ _ (HM19.out _ HV.out) (fun hS => ?_)
              clear hK K
              (try simp only [Act.put, List.getElem_toArray, List.getElem_cons_succ, List.getElem_cons_zero, List.setIfInBounds_toArray, List.set_cons_zero, List.set_cons_succ])
              refine wpAnyH_ready (rs := [8]) (by as_aux_lemma => kernel_rfl) (by simp) (AllReadyH.cons rfl (fun K hK => ?_) AllReadyH.nil)
              (try rw [if_pos (by rfl)])
              clear hS
              go_simp
              have hv1 : w18.heap.size ≤ qa5.heap.size := HV.out.size
              refine (HC19.out _ HV.out _ _ (Nat.zero_le _)).mono ?_
              rintro e_ qc6 ⟨Ae, ke, v2, b2, rfl, hr_, hb_⟩
              have hsz_ := hb_.size
              have hv2 : qb4.heap.size < qa5.heap.size := hob
              replace y0 := (hb_.cell (p := ⟨qb4.heap.size, 0, none⟩) hob).trans y0; replace y1 := (hb_.cell (p := ⟨qb4.heap.size, 1, none⟩) hob).trans y1; replace yf := fun o => (hb_.frozen (p := ⟨qb4.heap.size, o, none⟩) hob).trans (yf o); replace hob := Nat.lt_of_lt_of_le hob hb_.size
              replace HV := Lib.hid (Below.step HV.out hb_)
              have HRES := Lib.hid hr_; clear hr_ hb_
              refine hK.out _ _ (HM19.out _ HV.out) (fun hS => ?_)
              clear hK K
              (try simp only [Act.put, List.getElem_toArray, List.getElem_cons_succ, List.getElem_cons_zero, List.setIfInBounds_toArray, List.set_cons_zero, List.set_cons_succ])
              refine wpAnyH_take (i := 9) (v := .tuple #[.agg #[.int .i64 hn, .slice Ae X.length ke], .string v2, .bool b2, .int .i64 2]) rfl (by as_aux_lemma => kernel_rfl) (by as_aux_lemma => kernel_rfl) (by as_aux_lemma => kernel_rfl) (fun _ _ _ h => h) (yieldsIf_move (by rfl) _ rfl (by rfl)) hS ?_
              (try simp only [Act.put, List.getElem_toArray, List.getElem_cons_succ, List.getElem_cons_zero, List.setIfInBounds_toArray, List.set_cons_zero, List.set_cons_succ])
              refine wpAnyH_take (i := 10) (v := .agg #[.int .i64 hn, .slice Ae X.length ke]) rfl (by as_aux_lemma => kernel_rfl) (by as_aux_lemma => kernel_rfl) (by as_aux_lemma => kernel_rfl) (fun _ _ _ h => h) (yieldsIf_extract (by rfl) _ 0 rfl (by rfl) (by rfl)) hS ?_
              (try simp only [Act.put, List.getElem_toArray, List.getElem_cons_succ, List.getElem_cons_zero, List.setIfInBounds_toArray, List.set_cons_zero, List.set_cons_succ])
              refine wpAnyH_take (i := 11) (v := .string v2) rfl (by as_aux_lemma => kernel_rfl) (by as_aux_lemma => kernel_rfl) (by as_aux_lemma => kernel_rfl) (fun _ _ _ h => h) (yieldsIf_extract (by rfl) _ 1 rfl (by rfl) (by rfl)) hS ?_
              (try simp only [Act.put, List.getElem_toArray, List.getElem_cons_succ, List.getElem_cons_zero, List.setIfInBounds_toArray, List.set_cons_zero, List.set_cons_succ])
              refine wpAnyH_take (i := 12) (v := .bool b2) rfl (by as_aux_lemma => kernel_rfl) (by as_aux_lemma => kernel_rfl) (by as_aux_lemma => kernel_rfl) (fun _ _ _ h => h) (yieldsIf_extract (by rfl) _ 2 rfl (by rfl) (by rfl)) hS ?_
              (try simp only [Act.put, List.getElem_toArray, List.getElem_cons_succ, List.getElem_cons_zero, List.setIfInBounds_toArray, List.set_cons_zero, List.set_cons_succ])
              refine wpAnyH_take (i := 13) (v := .int .i64 2) rfl (by as_aux_lemma => kernel_rfl) (by as_aux_lemma => kernel_rfl) (by as_aux_lemma => kernel_rfl) (fun _ _ _ h => h) (yieldsIf_extract (by rfl) _ 3 rfl (by rfl) (by rfl)) hS ?_
              (try simp only [Act.put, List.getElem_toArray, List.getElem_cons_succ, List.getElem_cons_zero, List.setIfInBounds_toArray, List.set_cons_zero, List.set_cons_succ])
              refine wpAnyH_ready (rs := [15]) (by as_aux_lemma => kernel_rfl) (by simp) (AllReadyH.cons rfl (fun K hK => ?_) AllReadyH.nil)
              (try rw [if_pos (by rfl)])
              clear hS
              go_simp
              refine hK.out _ _ (HM19.out _ (Below.setCell (Below.setCell HV.out hbl _) hbl _)) (fun hS => ?_)
              clear hK K
              (try simp only [Act.put, List.getElem_toArray, List.getElem_cons_succ, List.getElem_cons_zero, List.setIfInBounds_toArray, List.set_cons_zero, List.set_cons_succ])
              refine wpAnyH_take (i := 16) (v := .string v2) rfl (by as_aux_lemma => kernel_rfl) (by as_aux_lemma => kernel_rfl) (by as_aux_lemma => kernel_rfl) (fun _ _ _ h => h) (yieldsIf_assign (by rfl) _ rfl (by rfl)) hS ?_
              (try simp only [Act.put, List.getElem_toArray, List.getElem_cons_succ, List.getElem_cons_zero, List.setIfInBounds_toArray, List.set_cons_zero, List.set_cons_succ])
              refine wpAnyH_take (i := 17) (v := .bool b2) rfl (by as_aux_lemma => kernel_rfl) (by as_aux_lemma => kernel_rfl) (by as_aux_lemma => kernel_rfl) (fun _ _ _ h => h) (yieldsIf_assign (by rfl) _ rfl (by rfl)) hS ?_
              (try simp only [Act.put, List.getElem_toArray, List.getElem_cons_succ, List.getElem_cons_zero, List.setIfInBounds_toArray, List.set_cons_zero, List.set_cons_succ])
              refine wpAnyH_take (i := 18) (v := .int .i64 2) rfl (by as_aux_lemma => kernel_rfl) (by as_aux_lemma => kernel_rfl) (by as_aux_lemma => kernel_rfl) (fun _ _ _ h => h) (yieldsIf_assign (by rfl) _ rfl (by rfl)) hS ?_
              (try simp only [Act.put, List.getElem_toArray, List.getElem_cons_succ, List.getElem_cons_zero, List.setIfInBounds_toArray, List.set_cons_zero, List.set_cons_succ])
              refine wpAnyH_done (by as_aux_lemma => kernel_rfl) ?_ _
              clear hS
              (try go_wp2_with (fail))
              go_meet
              exact ⟨qb4.heap.size, qa5.heap.size, qc6.heap.size, Ae, ke, rfl, rfl, Lib.hid (FloatCut.put HV.out hbl hob hv1 (by have := HV.out.size; omega) (by omega) HRES.out y0 y1)⟩
          as_aux_lemma =>
            (try rw [if_pos (by rfl)])
            clear hS
            go_simp
            have hv1 : w18.heap.size ≤ qb4.heap.size := HV.out.size
            refine (HC19.out _ HV.out _ _ (Nat.zero_le _)).mono ?_
            rintro e_ qc7 ⟨Ae, ke, v2, b2, rfl, hr_, hb_⟩
            have hsz_ := hb_.size
            replace HV := Lib.hid (Below.step HV.out hb_)
            have HRES := Lib.hid hr_; clear hr_ hb_
            refine hK.out _ _ (HM19.out _ HV.out) (fun hS => ?_)
            clear hK K
            (try simp only [Act.put, List.getElem_toArray, List.getElem_cons_succ, List.getElem_cons_zero, List.setIfInBounds_toArray, List.set_cons_zero, List.set_cons_succ])
            refine wpAnyH_take (i := 9) (v := .tuple #[.agg #[.int .i64 hn, .slice Ae X.length ke], .string v2, .bool b2, .int .i64 2]) rfl (by as_aux_lemma => kernel_rfl) (by as_aux_lemma => kernel_rfl) (by as_aux_lemma => kernel_rfl) (fun _ _ _ h => h) (yieldsIf_move (by rfl) _ rfl (by rfl)) hS ?_
            (try simp only [Act.put, List.getElem_toArray, List.getElem_cons_succ, List.getElem_cons_zero, List.setIfInBounds_toArray, List.set_cons_zero, List.set_cons_succ])
            refine wpAnyH_take (i := 10) (v := .agg #[.int .i64 hn, .slice Ae X.length ke]) rfl (by as_aux_lemma => kernel_rfl) (by as_aux_lemma => kernel_rfl) (by as_aux_lemma => kernel_rfl) (fun _ _ _ h => h) (yieldsIf_extract (by rfl) _ 0 rfl (by rfl) (by rfl)) hS ?_
            (try simp only [Act.put, List.getElem_toArray, List.getElem_cons_succ, List.getElem_cons_zero, List.setIfInBounds_toArray, List.set_cons_zero, List.set_cons_succ])
            refine wpAnyH_take (i := 11) (v := .string v2) rfl (by as_aux_lemma => kernel_rfl) (by as_aux_lemma => kernel_rfl) (by as_aux_lemma => kernel_rfl) (fun _ _ _ h => h) (yieldsIf_extract (by rfl) _ 1 rfl (by rfl) (by rfl)) hS ?_
            (try simp only [Act.put, List.getElem_toArray, List.getElem_cons_succ, List.getElem_cons_zero, List.setIfInBounds_toArray, List.set_cons_zero, List.set_cons_succ])
            refine wpAnyH_take (i := 12) (v := .bool b2) rfl (by as_aux_lemma => kernel_rfl) (by as_aux_lemma => kernel_rfl) (by as_aux_lemma => kernel_rfl) (fun _ _ _ h => h) (yieldsIf_extract (by rfl) _ 2 rfl (by rfl) (by rfl)) hS ?_
            (try simp only [Act.put, List.getElem_toArray, List.getElem_cons_succ, List.getElem_cons_zero, List.setIfInBounds_toArray, List.set_cons_zero, List.set_cons_succ])
            refine wpAnyH_take (i := 13) (v := .int .i64 2) rfl (by as_aux_lemma => kernel_rfl) (by as_aux_lemma => kernel_rfl) (by as_aux_lemma => kernel_rfl) (fun _ _ _ h => h) (yieldsIf_extract (by rfl) _ 3 rfl (by rfl) (by rfl)) hS ?_
            (try simp only [Act.put, List.getElem_toArray, List.getElem_cons_succ, List.getElem_cons_zero, List.setIfInBounds_toArray, List.set_cons_zero, List.set_cons_succ])
            refine wpAnyH_ready (rs := [14]) (by as_aux_lemma => kernel_rfl) (by simp) (AllReadyH.cons rfl (fun K hK => ?_) AllReadyH.nil)
            (try rw [if_pos (by rfl)])
            clear hS
            go_simp
            obtain ⟨hb_, hs_, y0, y1, yf⟩ := float_new qc7 (.int .i64 0) (.slice none 0 0) 47
            obtain ⟨qa8, hwa⟩ : ∃ W, qc7.alloc (.cells #[.int .i64 0, .slice none 0 0] 47) = W := ⟨_, rfl⟩
            rw [hwa] at hb_ hs_ y0 y1 yf ⊢
            clear hwa
            have hob : qc7.heap.size < qa8.heap.size := by rw [hs_]; exact Nat.lt_succ_self _
            have hbl : w18.heap.size ≤ qc7.heap.size := HV.out.size
            replace HRES := Lib.hid (Lay.later HRES.out hb_)
            replace HV := Lib.hid (Below.step HV.out hb_); clear hb_
            refine hK.out _ _ (HM19.out _ HV.out) (fun hS => ?_)
            clear hK K
            (try simp only [Act.put, List.getElem_toArray, List.getElem_cons_succ, List.getElem_cons_zero, List.setIfInBounds_toArray, List.set_cons_zero, List.set_cons_succ])
            refine wpAnyH_ready (rs := [15]) (by as_aux_lemma => kernel_rfl) (by simp) (AllReadyH.cons rfl (fun K hK => ?_) AllReadyH.nil)
            (try rw [if_pos (by rfl)])
            clear hS
            go_simp
            refine hK.out _ _ (HM19.out _ (Below.setCell (Below.setCell HV.out hbl _) hbl _)) (fun hS => ?_)
            clear hK K
            (try simp only [Act.put, List.getElem_toArray, List.getElem_cons_succ, List.getElem_cons_zero, List.setIfInBounds_toArray, List.set_cons_zero, List.set_cons_succ])
            refine wpAnyH_take (i := 16) (v := .string v2) rfl (by as_aux_lemma => kernel_rfl) (by as_aux_lemma => kernel_rfl) (by as_aux_lemma => kernel_rfl) (fun _ _ _ h => h) (yieldsIf_assign (by rfl) _ rfl (by rfl)) hS ?_
            (try simp only [Act.put, List.getElem_toArray, List.getElem_cons_succ, List.getElem_cons_zero, List.setIfInBounds_toArray, List.set_cons_zero, List.set_cons_succ])
            refine wpAnyH_take (i := 17) (v := .bool b2) rfl (by as_aux_lemma => kernel_rfl) (by as_aux_lemma => kernel_rfl) (by as_aux_lemma => kernel_rfl) (fun _ _ _ h => h) (yieldsIf_assign (by rfl) _ rfl (by rfl)) hS ?_
            (try simp only [Act.put, List.getElem_toArray, List.getElem_cons_succ, List.getElem_cons_zero, List.setIfInBounds_toArray, List.set_cons_zero, List.set_cons_succ])
            refine wpAnyH_take (i := 18) (v := .int .i64 2) rfl (by as_aux_lemma => kernel_rfl) (by as_aux_lemma => kernel_rfl) (by as_aux_lemma => kernel_rfl) (fun _ _ _ h => h) (yieldsIf_assign (by rfl) _ rfl (by rfl)) hS ?_
            (try simp only [Act.put, List.getElem_toArray, List.getElem_cons_succ, List.getElem_cons_zero, List.setIfInBounds_toArray, List.set_cons_zero, List.set_cons_succ])
            refine wpAnyH_done (by as_aux_lemma => kernel_rfl) ?_ _
            clear hS
            (try go_wp2_with (fail))
            go_meet
            exact ⟨qc7.heap.size, qb4.heap.size, qc7.heap.size, Ae, ke, rfl, rfl, Lib.hid (FloatCut.put HV.out hbl hob hv1 (by have := HV.out.size; omega) (by omega) HRES.out y0 y1)⟩
--END 19
        case rest =>
        obtain ⟨bF, loF, hiF, AF, kF, rfl, rfl, HFF⟩ := hcut
        rename World => w19
        have HB1419 := Lib.hid (HF19.out.2.1.trans (HFF.out.bl.mono HF19.out.2.1.size))
        have HB1119 := Lib.hid (HB1114.out.trans (HB1419.out.mono HB1114.out.size))
        have HB219 := Lib.hid (HB214.out.trans (HB1419.out.mono HB214.out.size))
        have HB1319 := Lib.hid (HB1314.out.trans (HB1419.out.mono HB1314.out.size))
        have HRDE := Lib.hid (Lay.weak HFE.out.rdx)
        obtain ⟨AE2, kE2, SE2, hcE, -, lE, mE, rE, -⟩ := Client.open HRDE.out
        simp only [Client.cs, List.cons.injEq, Value.slice.injEq, and_true, true_and] at hcE
        obtain ⟨e1, e2, e3⟩ := hcE
        subst e1; subst e3
        clear e2
        have HAE := Lib.hid (fun W (h : Below w19.heap.size w19 W) => (HFE.out.at_.below (HB1319.out.trans (h.mono HB1319.out.size)) HFE.out.b1) 1 _ rfl)
        have HRE := Lib.hid (fun W (h : Below w19.heap.size w19 W) => Row.later rE (HB1319.out.trans (h.mono HB1319.out.size)))
        have HD19 := Lib.hid (fun W (h : Below w19.heap.size w19 W) => HBD.out W (HB1119.out.trans (h.mono HB1119.out.size)))
        have HRD19 := Lib.hid (fun W (h : Below w19.heap.size w19 W) => HRDv.out W (HB1119.out.trans (h.mono HB1119.out.size)))
        have HRH19 := Lib.hid (fun W (h : Below w19.heap.size w19 W) => HRHv.out W (HB1119.out.trans (h.mono HB1119.out.size)))
        have HCK : Hid (∀ W, Below w19.heap.size w19 W → Calls Tryz.prog 31 #[.agg #[.int .i64 hn, .slice AD X.length kD]] W fun e w' => e = .returned (.bool true) ∧ Below W.heap.size W w') := Lib.hid (fun W h => by
          have h1 := impl_ClientOk W ⟨hn, hs⟩ _ All (HRD19.out W h) (by have := HHS.out; show szL hs ≤ 1048576; omega) (HTV.out.later (HB219.out.trans (h.mono HB219.out.size)))
          rw [HCO.out] at h1
          exact h1)
        have HSH : Hid (∀ W, Below w19.heap.size w19 W → Calls Tryz.prog 32 #[.slice AE X.length kE, .slice AD X.length kD] W fun e w' => e = .returned (.bool true) ∧ Below W.heap.size W w') := Lib.hid (fun W h => by
          have h1 := laws_sameHeads W hs AE kE _ (HRE.out W h) AD kD _ (HRH19.out W h) (by omega)
          rw [hsl] at h1
          exact h1)
        obtain ⟨u0, u1⟩ := HD19.out w19 (Below.refl _ _)
        obtain ⟨-, -, -, d0⟩ := HBX.out w19 HB219.out
        go_wp2_with (first | (go_at_call 31; refine (HCK.out _ (Below.refl _ _)).mono ?_; rintro e20 w20 ⟨rfl, hb20⟩; obtain ⟨u2, u3⟩ := HD19.out w20 hb20; have y1 := HAE.out w20 hb20) | (go_at_call 32; refine (HSH.out _ hb20).mono ?_; rintro e21 w21 ⟨rfl, hb21⟩))
        go_ret
        exact ⟨rfl, HWV.out.trans ((HB219.out.trans ((hb20.trans (hb21.mono hb20.size)).mono HB219.out.size)).mono HWV.out.size)⟩
end Go.Proofs.YtgllafgpmenjjaaGreatDoor
