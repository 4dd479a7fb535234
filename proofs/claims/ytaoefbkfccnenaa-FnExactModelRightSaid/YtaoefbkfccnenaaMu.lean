/- Walk: are a provider's views those of its changes. -/
import Derived.Test.YtaoefbkfccnenaaMq
import Derived.Test.YtaoefbkfccnenaaOq
import Derived.Deep.RegionHeld3
import Derived.BigQuiet
set_option linter.unusedVariables false
set_option linter.unusedSimpArgs false
namespace Go.Proofs.Ytaoefbkfccnenaa
open Go.RowKit Lay Mk
set_option maxRecDepth 20000 in set_option maxHeartbeats 8000000 in
theorem spec_ModelRight (w : World) (h : House) (cs : List Value) (S : Blks) (hx : rd false w cs h S) (hz : h.sz ≤ 1048576) : Calls Try.prog 5 #[.agg cs.toArray] w fun e w' => e = .returned (.bool (modelRight h)) ∧ Below w.heap.size w w' := by
  have hsl := house_servers hz
  obtain ⟨A6, k6, S6, hc6, a6, b6, r6⟩ := house_parts hx
  have HE := Lib.hid (modelRight_end (h := h))
  have HBd := Lib.hid (fun k hk => modelRight_bad (h := h) (k := k) hk)
  have HSz := Lib.hid (fun k hk => house_server hz (k := k) hk)
  have Hc6 := Lib.hid hc6; clear hc6 hx a6 b6 hz
  go_enter Try.func5, Try.ntmps5
  go_wp2_with (refine wpList_box rfl _ _ rfl rfl ?_)
  have g6 := box_cell w cs.toArray 44 11 _ (by simpa using Hc6.out)
  generalize hW : w.alloc _ = W0 at g6 ⊢
  have HB0 : Hid (Below w.heap.size w W0 ∧ w.heap.size < W0.heap.size) := Lib.hid (by rw [← hW]; exact ⟨(Below.refl _ _).alloc (Nat.le_refl _) _, by simp⟩)
  obtain ⟨B0, hB0⟩ : ∃ B, w.heap.size = B := ⟨_, rfl⟩
  have HB0e := Lib.hid hB0
  have hB0l : B0 < W0.heap.size := by rw [← hB0]; exact HB0.out.2
  rw [hB0] at g6
  simp only [hB0]
  clear hW Hc6 hB0
  go_loopw [3] (fun i wr => ∃ k : Nat, k ≤ h.servers.length ∧ i = .int .i64 k ∧ Hid (∀ j, j < k → servR h.servers j = true) ∧ Below W0.heap.size W0 wr) (fun i _ => h.servers.length - (intOf i).toNat)
  case atStart => exact ⟨0, Nat.zero_le _, rfl, Lib.hid upto_zero, Below.refl _ _⟩
  case round =>
    obtain ⟨k, hk, rfl, hall, hB⟩ := hrel
    have hzr := hB.size
    have g6' := (hB.cell (p := ⟨B0, 11, none⟩) hB0l).trans g6
    clear g6
    have HBw : Hid (Below w.heap.size w wr ∧ w.heap.size ≤ wr.heap.size) := Lib.hid ⟨HB0.out.1.trans (hB.mono HB0.out.1.size), Nat.le_trans HB0.out.1.size hzr⟩
    by_cases hlt : k < h.servers.length
    · obtain ⟨b, off, cx, T, rfl, hbl, ha, hr, -, -⟩ := Row.at_ r6 hlt
      have HP := Lib.hid (servR_at hlt)
      have HBk := Lib.hid (HBd.out k hlt)
      have HN := Lib.hid (upto_succ (p := servR h.servers) hall.out)
      have hsz := HSz.out k hlt
      obtain ⟨x, hxx⟩ : ∃ x, h.servers[k] = x := ⟨_, rfl⟩
      rw [hxx] at hr HP hsz
      clear hxx
      have ha2 := Lib.hid (ha.below HBw.out.1 hbl)
      have hl2 : b < wr.heap.size := Nat.lt_of_lt_of_le hbl HBw.out.2
      have ln_ := Lay.len hr
      have on_ := Lay.one hr
      have k_ : (Try.prog.info? 57).map (·.size) = some (Lay.n Server) := by kernel_rfl
      obtain ⟨A1, k1, S1, A2, k2, S2, A3, k3, S3, e5, e6, e7, r1, r2, a3, b3, r3⟩ := server_parts hr
      have R1 := Lib.hid r1; have R2 := Lib.hid r2; have R3 := Lib.hid r3
      have E5 := Lib.hid e5; have E6 := Lib.hid e6; have E7 := Lib.hid e7
      clear r1 r2 r3 e5 e6 e7 ha hr
      obtain ⟨hv1, hv2, hv3, hv4, -⟩ := server_lens hsz
      by_cases hlen : x.taken.length = x.views.length
      rotate_left
      · have HF := Lib.hid (HBk.out (by rw [HP.out]; exact serverR_len hlen))
        have hn : ((x.taken.length : Int) != (x.views.length : Int)) = true := by rw [bne_iff_ne]; omega
        clear hlen
        go_wp2_with (first | (refine wpList_loadT rfl _ _ rfl rfl ha2.out Try.underlying57 k_ ln_ ?_) | (refine wpList_storeNew (cs := cx.toArray) rfl _ _ _ rfl rfl rfl rfl (k_.trans (congrArg some ln_.symm)) (Eq.trans (b := Lay.n Server) rfl ln_.symm) (by simpa using on_) ?_; have q5 := box_cell wr cx.toArray 57 5 _ (by simpa using E5.out); have q6 := box_cell wr cx.toArray 57 6 _ (by simpa using E6.out); have q7 := box_cell wr cx.toArray 57 7 _ (by simpa using E7.out)))
        go_ret
        exact ⟨ret_bool (by rw [HF.out]), HBw.out.1.alloc HBw.out.2 _⟩
      have HLen := Lib.hid hlen
      have hn : ((x.taken.length : Int) != (x.views.length : Int)) = false := by rw [bne_eq_false_iff_eq]; omega
      by_cases hnil : x.taken.length = 0
      · have HF := Lib.hid (HBk.out (by rw [HP.out]; exact serverR_nil hnil))
        have hn0 : ((x.taken.length : Int) == 0) = true := by rw [beq_iff_eq]; omega
        clear hlen hnil
        go_wp2_with (first | (refine wpList_loadT rfl _ _ rfl rfl ha2.out Try.underlying57 k_ ln_ ?_) | (refine wpList_storeNew (cs := cx.toArray) rfl _ _ _ rfl rfl rfl rfl (k_.trans (congrArg some ln_.symm)) (Eq.trans (b := Lay.n Server) rfl ln_.symm) (by simpa using on_) ?_; have q5 := box_cell wr cx.toArray 57 5 _ (by simpa using E5.out); have q6 := box_cell wr cx.toArray 57 6 _ (by simpa using E6.out); have q7 := box_cell wr cx.toArray 57 7 _ (by simpa using E7.out)))
        go_ret
        exact ⟨ret_bool (by rw [HF.out]), HBw.out.1.alloc HBw.out.2 _⟩
      have HNil := Lib.hid hnil
      have hn0 : ((x.taken.length : Int) == 0) = false := by rw [beq_eq_false_iff_ne]; omega
      clear hlen hnil
      go_wp2_with (first | (refine wpList_loadT rfl _ _ rfl rfl ha2.out Try.underlying57 k_ ln_ ?_) | (refine wpList_storeNew (cs := cx.toArray) rfl _ _ _ rfl rfl rfl rfl (k_.trans (congrArg some ln_.symm)) (Eq.trans (b := Lay.n Server) rfl ln_.symm) (by simpa using on_) ?_; have q5 := box_cell wr cx.toArray 57 5 _ (by simpa using E5.out); have q6 := box_cell wr cx.toArray 57 6 _ (by simpa using E6.out); have q7 := box_cell wr cx.toArray 57 7 _ (by simpa using E7.out)))
      clear hn hn0
      generalize hW2 : wr.alloc _ = W2 at q5 q6 q7 ⊢
      have HBV : Hid (Below W0.heap.size W0 W2) := Lib.hid (by rw [← hW2]; exact hB.alloc hzr _)
      have HB2 : Hid (Below w.heap.size w W2 ∧ wr.heap.size < W2.heap.size) := Lib.hid (by rw [← hW2]; exact ⟨HBw.out.1.alloc HBw.out.2 _, by simp⟩)
      have R1' := Lib.hid (Row.later R1.out HB2.out.1); have R2' := Lib.hid (Row.later R2.out HB2.out.1); have R3' := Lib.hid (Row.later R3.out HB2.out.1)
      obtain ⟨B, hBe⟩ : ∃ B, wr.heap.size = B := ⟨_, rfl⟩
      rw [hBe] at q5 q6 q7 HB2 ⊢
      clear hW2 hBe ha2 hl2 ln_ on_ k_ R1 R2 R3 E5 E6 E7 hB hzr hbl g6' HBw
      go_loopw [5] (fun i wi => ∃ e : Nat, e ≤ x.taken.length ∧ i = .int .i64 e ∧ Hid (∀ j, j < e → stepR x j = true) ∧ Below W2.heap.size W2 wi) (fun i _ => x.taken.length - (intOf i).toNat)
      case atStart => exact ⟨0, Nat.zero_le _, rfl, Lib.hid upto_zero, Below.refl _ _⟩
      case round =>
        obtain ⟨e, he, rfl, hst, hBi⟩ := hrel
        have hzi := hBi.size
        have hBl : B < W2.heap.size := HB2.out.2
        have HBx : Hid (Below w.heap.size w wr ∧ w.heap.size ≤ wr.heap.size) := Lib.hid ⟨HB2.out.1.trans (hBi.mono HB2.out.1.size), Nat.le_trans HB2.out.1.size hzi⟩
        have p5 := (hBi.cell (p := ⟨B, 5, none⟩) hBl).trans q5
        have p6 := (hBi.cell (p := ⟨B, 6, none⟩) hBl).trans q6
        have p7 := (hBi.cell (p := ⟨B, 7, none⟩) hBl).trans q7
        clear q5 q6 q7
        by_cases hlt2 : e < x.taken.length
        · obtain ⟨b9, o9, rfl, hl9, t0, i9⟩ := Row.int R2'.out hlt2
          replace t0 := (hBi.cell (p := ⟨b9, o9 + e, none⟩) hl9).trans t0
          have hl9' : b9 < wr.heap.size := by omega
          have hp0 := prevT_nonneg e hst.out
          have HSt := Lib.hid (fun h => HBk.out (by rw [HP.out]; exact serverR_bad hlt2 h))
          have HNS := Lib.hid (upto_succ (p := stepR x) hst.out)
          have hgd : x.taken.getD e 0 = x.taken[e] := by rw [List.getD_eq_getElem?_getD, List.getElem?_eq_getElem hlt2]; rfl
          have HIf := Lib.hid (stepR_in (x := x) (e := e))
          have HGo := Lib.hid (stepR_go (x := x) (e := e))
          have HPv : Hid (∀ j (h : j < x.taken.length), e = j + 1 → prevT x e = x.taken[j]) := Lib.hid (fun j h ej => by subst ej; show x.taken.getD j 0 = _; rw [List.getD_eq_getElem?_getD, List.getElem?_eq_getElem h]; rfl)
          have HPv0 : Hid (e = 0 → prevT x e = 0) := Lib.hid (fun ej => by subst ej; rfl)
          rw [hgd] at HIf HGo
          obtain ⟨n, hnn⟩ : ∃ n, x.taken[e] = n := ⟨_, rfl⟩
          rw [hnn] at t0 i9 HIf HGo
          obtain ⟨p, hpp⟩ : ∃ p, prevT x e = p := ⟨_, rfl⟩
          rw [hpp] at HIf HGo hp0 HPv HPv0
          clear hgd hnn hpp
          by_cases hin0 : 0 ≤ n ∧ n ≤ (x.all.length : Int)
          rotate_left
          · have HF := Lib.hid (HSt.out (HIf.out (by omega)))
            have hi : inB n 0 (x.all.length : Int) = false := by unfold inB; rw [decide_eq_false hin0]
            clear hin0
            go_wp2_with (go_at_call 13; refine (spec_in _ _ _ _).mono ?_; rintro e0 w9 ⟨rfl, rfl⟩)
            go_ret
            exact ⟨ret_bool (by rw [HF.out]), HBx.out.1⟩
          by_cases hin : p ≤ n ∧ n ≤ (x.all.length : Int)
          · obtain ⟨hn1, hn2⟩ := hin
            have hn0 : 0 ≤ n := by omega
            obtain ⟨nn, rfl⟩ : ∃ q : Nat, n = q := ⟨n.toNat, by omega⟩
            have hnn : nn ≤ x.all.length := by omega
            have hnk : nn ≤ k3 := by omega
            have hev : e < x.views.length := by rw [← HLen.out]; exact hlt2
            have hgv : x.views.getD e [] = x.views[e] := by rw [List.getD_eq_getElem?_getD, List.getElem?_eq_getElem hev]; rfl
            have hgo := HGo.out hn1 hn2
            rw [hgv, Int.toNat_natCast] at hgo
            obtain ⟨b8, o8, A8, c8, T8, rfl, hl8, v0, -, -, r8⟩ := Row.list R1'.out hev
            replace v0 := (hBi.cell (p := ⟨b8, o8 + e, none⟩) hl8).trans v0
            have hBlw : B < wr.heap.size := by omega
            have hl8' : b8 < wr.heap.size := by omega
            have hly := views_el hsz hev
            obtain ⟨ys, hys⟩ : ∃ l, x.views[e] = l := ⟨_, rfl⟩
            obtain ⟨zs, hzs⟩ : ∃ l, applyAll [] (x.all.take nn) = l := ⟨_, rfl⟩
            rw [hys] at v0 r8 hly hgo
            rw [hzs] at hgo
            have HG2 := Lib.hid hgo
            have hpn : p ≤ (nn : Int) := hn1
            have HIN : Hid (∀ w', Calls Try.prog 13 #[.int .i64 nn, .int .i64 0, .int .i64 (x.all.length : Int)] w' fun e1 w'' => e1 = .returned (.bool true) ∧ w' = w'') := Lib.hid (fun w' => by
              have h1 := spec_in nn 0 x.all.length w'
              rw [show inB (nn : Int) 0 (x.all.length : Int) = true by unfold inB; rw [decide_eq_true]; omega] at h1
              exact h1)
            have HSL : Hid (∀ w', Below wr.heap.size wr w' → ∀ A' c' S', Row false w' A' c' zs S' → Calls Try.prog 14 #[.slice A8 ys.length c8, .slice A' zs.length c'] w' fun e1 w'' => e1 = .returned (.bool (decide (ys = zs))) ∧ Below w'.heap.size w' w'') := Lib.hid (fun w' hb A' c' S' hr => spec_sameLeaves w' ys A8 c8 T8 (Row.later (Row.later r8 hBi) hb) zs A' c' S' hr (by omega))
            have HALL : Hid (∀ w' A0, Below wr.heap.size wr w' → Calls Try.prog 15 #[.slice A0 0 0, .slice A3 nn k3] w' fun e1 w'' => ∃ A' c', e1 = .returned (.slice A' zs.length c') ∧ Row true w'' A' c' zs (rng w'.heap.size w''.heap.size) ∧ Below w'.heap.size w' w'') := Lib.hid (fun w' A0 hb => by
              have h1 := spec_AllTake w' A0 0 none_ (fun h => absurd rfl h) (by decide) x.all A3 k3 S3 (Row.later (Row.later R3'.out hBi) hb) a3 b3 hv3 nn hnn
              rw [hzs] at h1
              exact h1)
            have HM := Lib.hid (fun (w' : World) (h : Below wr.heap.size wr w') => (⟨(h.cell (p := ⟨B, 5, none⟩) hBlw).trans p5, (h.cell (p := ⟨B, 7, none⟩) hBlw).trans p7, (h.cell (p := ⟨b8, o8 + e, none⟩) hl8').trans v0, h⟩ : w'.cell? ⟨B, 5, none⟩ = some (.slice (some ⟨b8, o8, none⟩) x.views.length k1) ∧ w'.cell? ⟨B, 7, none⟩ = some (.slice A3 x.all.length k3) ∧ w'.cell? ⟨b8, o8 + e, none⟩ = some (.slice A8 ys.length c8) ∧ Below wr.heap.size wr w'))
            have hdv : ∃ d, decide (ys = zs) = d := ⟨_, rfl⟩
            obtain ⟨d, hdv⟩ := hdv
            rw [hdv] at HSL HG2
            clear hgv hgo hys hzs hdv r8 v0 hly hn1 hn2 HGo HIf hp0
            rcases Nat.eq_zero_or_pos e with he0 | he0
            · subst he0
              simp only [Nat.add_zero] at t0 HM
              cases d
              · have HF := Lib.hid (HSt.out HG2.out)
                go_wp2_with (go_at_call 13; refine (HIN.out _).mono ?_; rintro e0 w9 ⟨rfl, rfl⟩)
                have hR : Below wr.heap.size wr wr := Below.refl _ _
                go_region_held (fun w' => w'.cell? ⟨B, 5, none⟩ = some (.slice (some ⟨b8, o8, none⟩) x.views.length k1) ∧ w'.cell? ⟨B, 7, none⟩ = some (.slice A3 x.all.length k3) ∧ w'.cell? ⟨b8, o8, none⟩ = some (.slice A8 ys.length c8) ∧ Below wr.heap.size wr w')
                (first | exact HM.out _ hR | exact HM.out _ hR.drew | exact HM.out _ (hR.alloc hR.size _) | exact HM.out _ (hR.drew.alloc hR.size _))
                (first | (go_at_call 15; refine (HALL.out _ _ (by first | exact hR | exact hR.drew | exact hR.alloc hR.size _ | exact hR.drew.alloc hR.size _)).mono ?_; rintro e0 w7 ⟨A7, c7, rfl, r7, hb⟩; have hcc := fun (p : Addr) (h : p.block < _) => hb.cell (p := p) h; have hR := Below.step (a := wr) (by first | exact hR | exact hR.drew | exact hR.alloc hR.size _ | exact hR.drew.alloc hR.size _) hb) | (go_at_call 14; refine (HSL.out _ hR _ _ _ (Row.weak r7)).mono ?_; rintro e0 w6 ⟨rfl, hb⟩; have hcc := fun (p : Addr) (h : p.block < _) => hb.cell (p := p) h; have hR := Below.step (a := wr) hR hb))
                all_goals
                  go_wp2
                  go_ret
                  exact ⟨ret_bool (by rw [HF.out]), HBx.out.1.trans (hR.mono HBx.out.2)⟩
              · have HF := Lib.hid (HNS.out HG2.out)
                go_wp2_with (go_at_call 13; refine (HIN.out _).mono ?_; rintro e0 w9 ⟨rfl, rfl⟩)
                have hR : Below wr.heap.size wr wr := Below.refl _ _
                go_region_held (fun w' => w'.cell? ⟨B, 5, none⟩ = some (.slice (some ⟨b8, o8, none⟩) x.views.length k1) ∧ w'.cell? ⟨B, 7, none⟩ = some (.slice A3 x.all.length k3) ∧ w'.cell? ⟨b8, o8, none⟩ = some (.slice A8 ys.length c8) ∧ Below wr.heap.size wr w')
                (first | exact HM.out _ hR | exact HM.out _ hR.drew | exact HM.out _ (hR.alloc hR.size _) | exact HM.out _ (hR.drew.alloc hR.size _))
                (first | (go_at_call 15; refine (HALL.out _ _ (by first | exact hR | exact hR.drew | exact hR.alloc hR.size _ | exact hR.drew.alloc hR.size _)).mono ?_; rintro e0 w7 ⟨A7, c7, rfl, r7, hb⟩; have hcc := fun (p : Addr) (h : p.block < _) => hb.cell (p := p) h; have hR := Below.step (a := wr) (by first | exact hR | exact hR.drew | exact hR.alloc hR.size _ | exact hR.drew.alloc hR.size _) hb) | (go_at_call 14; refine (HSL.out _ hR _ _ _ (Row.weak r7)).mono ?_; rintro e0 w6 ⟨rfl, hb⟩; have hcc := fun (p : Addr) (h : p.block < _) => hb.cell (p := p) h; have hR := Below.step (a := wr) hR hb))
                all_goals
                  go_wp2
                  go_roundw
                  case rel => exact ⟨0 + 1, by omega, by go_num, HF, hBi.trans (hR.mono hzi)⟩
                  case measure => simp [intOf]; omega
            · obtain ⟨j, rfl⟩ : ∃ j, e = j + 1 := ⟨e - 1, by omega⟩
              have hjl : j < x.taken.length := by omega
              obtain ⟨b10, o10, hbe, hl10, t1, -⟩ := Row.int R2'.out hjl
              injection hbe with hbe
              injection hbe with hb1 hb2
              subst hb1 hb2
              replace t1 := (hBi.cell (p := ⟨b9, o9 + j, none⟩) hl10).trans t1
              rw [← HPv.out j hjl rfl] at t1
              have hgt : decide ((nn : Int) < p) = false := by rw [decide_eq_false_iff_not]; omega
              have hjj : ((j + 1 : Nat) : Int) - 1 = j := by omega
              cases d
              · have HF := Lib.hid (HSt.out HG2.out)
                go_wp2_with (go_at_call 13; refine (HIN.out _).mono ?_; rintro e0 w9 ⟨rfl, rfl⟩)
                have hR : Below wr.heap.size wr wr := Below.refl _ _
                go_region_held (fun w' => w'.cell? ⟨B, 5, none⟩ = some (.slice (some ⟨b8, o8, none⟩) x.views.length k1) ∧ w'.cell? ⟨B, 7, none⟩ = some (.slice A3 x.all.length k3) ∧ w'.cell? ⟨b8, o8 + (j + 1), none⟩ = some (.slice A8 ys.length c8) ∧ Below wr.heap.size wr w')
                (first | exact HM.out _ hR | exact HM.out _ hR.drew | exact HM.out _ (hR.alloc hR.size _) | exact HM.out _ (hR.drew.alloc hR.size _))
                (first | (go_at_call 15; refine (HALL.out _ _ (by first | exact hR | exact hR.drew | exact hR.alloc hR.size _ | exact hR.drew.alloc hR.size _)).mono ?_; rintro e0 w7 ⟨A7, c7, rfl, r7, hb⟩; have hcc := fun (p : Addr) (h : p.block < _) => hb.cell (p := p) h; have hR := Below.step (a := wr) (by first | exact hR | exact hR.drew | exact hR.alloc hR.size _ | exact hR.drew.alloc hR.size _) hb) | (go_at_call 14; refine (HSL.out _ hR _ _ _ (Row.weak r7)).mono ?_; rintro e0 w6 ⟨rfl, hb⟩; have hcc := fun (p : Addr) (h : p.block < _) => hb.cell (p := p) h; have hR := Below.step (a := wr) hR hb))
                all_goals
                  go_wp2
                  go_ret
                  exact ⟨ret_bool (by rw [HF.out]), HBx.out.1.trans (hR.mono HBx.out.2)⟩
              · have HF := Lib.hid (HNS.out HG2.out)
                go_wp2_with (go_at_call 13; refine (HIN.out _).mono ?_; rintro e0 w9 ⟨rfl, rfl⟩)
                have hR : Below wr.heap.size wr wr := Below.refl _ _
                go_region_held (fun w' => w'.cell? ⟨B, 5, none⟩ = some (.slice (some ⟨b8, o8, none⟩) x.views.length k1) ∧ w'.cell? ⟨B, 7, none⟩ = some (.slice A3 x.all.length k3) ∧ w'.cell? ⟨b8, o8 + (j + 1), none⟩ = some (.slice A8 ys.length c8) ∧ Below wr.heap.size wr w')
                (first | exact HM.out _ hR | exact HM.out _ hR.drew | exact HM.out _ (hR.alloc hR.size _) | exact HM.out _ (hR.drew.alloc hR.size _))
                (first | (go_at_call 15; refine (HALL.out _ _ (by first | exact hR | exact hR.drew | exact hR.alloc hR.size _ | exact hR.drew.alloc hR.size _)).mono ?_; rintro e0 w7 ⟨A7, c7, rfl, r7, hb⟩; have hcc := fun (p : Addr) (h : p.block < _) => hb.cell (p := p) h; have hR := Below.step (a := wr) (by first | exact hR | exact hR.drew | exact hR.alloc hR.size _ | exact hR.drew.alloc hR.size _) hb) | (go_at_call 14; refine (HSL.out _ hR _ _ _ (Row.weak r7)).mono ?_; rintro e0 w6 ⟨rfl, hb⟩; have hcc := fun (p : Addr) (h : p.block < _) => hb.cell (p := p) h; have hR := Below.step (a := wr) hR hb))
                all_goals
                  go_wp2
                  go_roundw
                  case rel => exact ⟨j + 1 + 1, by omega, by go_num, HF, hBi.trans (hR.mono hzi)⟩
                  case measure => simp [intOf]; omega
          · have hin1 : n < p := by omega
            have HF := Lib.hid (HSt.out (HIf.out hin))
            obtain ⟨j, rfl⟩ : ∃ j, e = j + 1 := by
              rcases Nat.eq_zero_or_pos e with he0 | he0
              · have := HPv0.out he0; omega
              · exact ⟨e - 1, by omega⟩
            have hjl : j < x.taken.length := by omega
            obtain ⟨b10, o10, hbe, hl10, t1, -⟩ := Row.int R2'.out hjl
            injection hbe with hbe
            injection hbe with hb1 hb2
            subst hb1 hb2
            replace t1 := (hBi.cell (p := ⟨b9, o9 + j, none⟩) hl10).trans t1
            rw [← HPv.out j hjl rfl] at t1
            have hgt : decide (n < p) = true := by simpa using hin1
            have hjj : ((j + 1 : Nat) : Int) - 1 = j := by omega
            have hi : inB n 0 (x.all.length : Int) = true := by unfold inB; rw [decide_eq_true hin0]
            clear hin hin0 HPv HPv0
            go_wp2_with (go_at_call 13; refine (spec_in _ _ _ _).mono ?_; rintro e0 w9 ⟨rfl, rfl⟩)
            go_ret
            exact ⟨ret_bool (by rw [HF.out]), HBx.out.1⟩
        · have hee : e = x.taken.length := by omega
          subst hee
          have HS := Lib.hid (HN.out (by rw [HP.out]; exact serverR_end HLen.out HNil.out hst.out))
          go_wp2
          go_roundw
          case rel => exact ⟨k + 1, by omega, by go_num, HS, HBV.out.trans (hBi.mono HBV.out.size)⟩
          case measure => simp [intOf]; omega
    · have hke : k = h.servers.length := by omega
      subst hke
      have HF := Lib.hid (HE.out hall.out)
      go_wp2
      go_ret
      exact ⟨ret_bool (by rw [HF.out]), HBw.out.1⟩
end Go.Proofs.Ytaoefbkfccnenaa
