/- A part of the proof: what the laws need of it. -/
import Derived.Test.YtgllafgpmenjjaaGreatDoorHPaL28xNh
import Derived.Test.YtgllafgpmenjjaaGreatDoorHPaTy
set_option linter.unusedVariables false
set_option linter.unusedSimpArgs false
set_option linter.unusedVariables false
set_option linter.unusedSimpArgs false
namespace Go.Proofs.YtgllafgpmenjjaaGreatDoor
open Go.RowKit Lay Mk
theorem sz_getw {α : Type} [Lay α] [Mk α] {xs : List α} {k : Nat} (hk : k < xs.length) {n : Nat} (hz : szL xs ≤ n) : sz xs[k] ≤ n := by have := sz_le_L xs k hk; omega
theorem leaf_val (xs : List Leaf) (n : ByteArray) : (leafGet xs n).1.size ≤ szL xs := by
  cases hf : xs.find? (nameIs n) with
  | none => rw [leafGet_miss hf]; exact Nat.zero_le _
  | some x =>
    rw [leafGet_hit hf]
    obtain ⟨i, hi, rfl⟩ := List.getElem_of_mem (List.mem_of_find?_eq_some hf)
    have h1 := sz_getw hi (Nat.le_refl (szL xs))
    have h2 : (xs[i]).value.size ≤ sz xs[i] := by
      show _ ≤ Leaf.sz _
      simp only [Leaf.sz]; omega
    exact Nat.le_trans h2 h1
theorem ver_val (t : Trust) (house : Int) (name : ByteArray) (epoch : Int) {x : Whole} (h : x.sz ≤ 1048576) : (verify t house name epoch x).1.size ≤ 1048576 := by
  have h1 := (whole_sz h).1
  have h2 : szL x.proof.bucket ≤ 1048576 := by simp only [Proof.sz] at h1; omega
  have h3 := leaf_val x.proof.bucket name
  unfold verify
  split
  · exact Nat.zero_le _
  · split
    · exact Nat.zero_le _
    · split
      · exact Nat.zero_le _
      · split
        · exact Nat.zero_le _
        · split
          · exact Nat.zero_le _
          · exact Nat.le_trans h3 h2
theorem past_sz {p : Past} (h : p.sz ≤ 1048576) : szL p.wholes ≤ 1048576 ∧ p.wholes.length ≤ 1048576 := by
  simp only [Past.sz] at h
  have := szT_le p.wholes 0
  exact ⟨h, by omega⟩
theorem cp_len (t : Trust) (house : Int) (name : ByteArray) (xs : List Whole) : (checkPast t house name xs).1.length ≤ xs.length := by
  unfold checkPast
  split
  · exact Nat.zero_le _
  · split
    · exact Nat.zero_le _
    · split
      · exact Nat.zero_le _
      · rw [pastV_len]; exact Nat.le_refl _
def CpRes (R : List ByteArray × Int) (w : World) (e : Ending) (w' : World) : Prop := ∃ A' cap', e = .returned (.tuple #[.slice A' R.1.length cap', .int .i64 R.2]) ∧ R.1.length ≤ cap' ∧ cap' ≤ maxLen ∧ Row true w' A' cap' R.1 (rng w.heap.size w'.heap.size) ∧ Below w.heap.size w w'
theorem CpRes.mk {R : List ByteArray × Int} {L : List ByteArray} {code : Int} {w w' : World} {A : Option Addr} {c n : Nat} (hR : R = (L, code)) (hn : n = L.length) (own : Own w w' A c L) : CpRes R w (.returned (.tuple #[.slice A n c, .int .i64 code])) w' := by
  subst hR; subst hn
  exact ⟨A, c, rfl, own.le, own.cm, own.rng, own.bl⟩
theorem whole_prev_at {m : Bool} {w : World} {A : Option Addr} {cap : Nat} {xs : List Whole} {S : Blks} (h : Row m w A cap xs S) {i : Nat} (hi : i < xs.length) :
    ∃ b off, A = some ⟨b, off, none⟩ ∧ b < w.heap.size ∧ w.cell? ⟨b, off + i * 12 + 6, none⟩ = some (.string (xs[i]).seal_.head.prev) ∧ (xs[i]).seal_.head.prev.size ≤ maxLen := by
  obtain ⟨b, off, cs, T, e, hb, ha, hr, _, _⟩ := Row.at_ h hi
  obtain ⟨_, _, _, _, _, _, _, _, _, _, _, _, _, _, _, _, _, _, _, _, _, rfl, -, -, -, f0, -⟩ := Whole.open hr
  rw [show Lay.n Whole = 12 from rfl] at ha
  exact ⟨b, off, e, hb, ha 6 _ rfl, f0⟩
theorem whole_head_at {m : Bool} {w : World} {A : Option Addr} {cap : Nat} {xs : List Whole} {S : Blks} (h : Row m w A cap xs S) {i : Nat} (hi : i < xs.length) :
    ∃ b off, A = some ⟨b, off, none⟩ ∧ b < w.heap.size ∧ w.cell? ⟨b, off + i * 12 + 3, none⟩ = some (.int .i64 (xs[i]).seal_.head.house) ∧ I64 (xs[i]).seal_.head.house ∧ w.cell? ⟨b, off + i * 12 + 4, none⟩ = some (.int .i64 (xs[i]).seal_.head.epoch) ∧ I64 (xs[i]).seal_.head.epoch ∧ w.cell? ⟨b, off + i * 12 + 5, none⟩ = some (.string (xs[i]).seal_.head.root) ∧ (xs[i]).seal_.head.root.size ≤ maxLen ∧ w.cell? ⟨b, off + i * 12 + 6, none⟩ = some (.string (xs[i]).seal_.head.prev) ∧ (xs[i]).seal_.head.prev.size ≤ maxLen := by
  obtain ⟨b, off, cs, T, e, hb, ha, hr, _, _⟩ := Row.at_ h hi
  obtain ⟨_, _, _, _, _, _, _, _, _, _, _, _, _, _, _, _, _, _, _, _, _, rfl, f0, f1, f2, f3, -⟩ := Whole.open hr
  rw [show Lay.n Whole = 12 from rfl] at ha
  exact ⟨b, off, e, hb, ha 3 _ rfl, f0, ha 4 _ rfl, f1, ha 5 _ rfl, f2, ha 6 _ rfl, f3⟩
set_option maxRecDepth 20000 in set_option maxHeartbeats 16000000 in
theorem impl_CheckPast (w : World) (t : Trust) (cs : List Value) (S : Blks) (hx : rd false w cs t S) (hz : t.sz ≤ 1048576) (house : Int) (hh : I64 house) (name : ByteArray) (hn : name.size ≤ 1048576) (p : Past) (ct : List Value) (S2 : Blks) (hy : rd false w ct p S2) (hzp : p.sz ≤ 1048576) (hT : Tabs w) : Calls Tryz.prog 33 #[.agg cs.toArray, .int .i64 house, .string name, .agg ct.toArray] w fun e w' => CpRes (checkPast t house name p.wholes) w e w' := by
  have HT := Lib.hid hT
  clear hT
  have hl := trust_sz hz
  obtain ⟨hzs, hls⟩ := past_sz hzp
  obtain ⟨C0, q0, V0, rfl, -, -, rV0, -⟩ := Past.open hy
  have HX := Lib.hid hx
  obtain ⟨A0, k0, S0, rfl, -⟩ := Trust.open hx
  clear hx hy hzp
  simp only [Trust.cs, Past.cs] at HX ⊢
  obtain ⟨xs, hxs⟩ : ∃ xs, p.wholes = xs := ⟨_, rfl⟩
  rw [hxs] at hzs hls rV0 ⊢
  clear hxs
  have HVE := Lib.hid (fun (k : Nat) (hk : k < xs.length) (ct : List Value) (W0 : World) (T : Blks) (h0 : Below w.heap.size w W0) (hr : rd false W0 ct xs[k] T) W (h : Below W0.heap.size W0 W) => impl_Verify W t _ S (Lay.later HX.out (h0.trans (h.mono h0.size))) hz house hh name hn ((k : Int) + 1) (by unfold I64; omega) xs[k] ct T (Lay.later hr h) (whole_sz (sz_getw hk hzs)) (HT.out.later (h0.trans (h.mono h0.size))))
  have HVL := Lib.hid (fun (k : Nat) (hk : k < xs.length) => ver_val t house name ((k : Int) + 1) (sz_getw (xs := xs) hk hzs))
  have HC0 := Lib.hid (fun h => cp_empty (t := t) (house := house) (name := name) (xs := xs) h)
  have HC1 := Lib.hid (fun k h h0 h1 => cp_bad (t := t) (house := house) (name := name) (xs := xs) (k := k) h h0 h1)
  have HC2 := Lib.hid (fun k h0 h1 h2 h3 => cp_prev (t := t) (house := house) (name := name) (xs := xs) (k := k) h0 h1 h2 h3)
  have HC3 := Lib.hid (fun h h0 h1 => cp_ok (t := t) (house := house) (name := name) (xs := xs) h h0 h1)
  have HCA := Lib.hid (fun k h => codeAt_at (t := t) (house := house) (name := name) (xs := xs) (i := k) h)
  have HPS := Lib.hid (fun k h => pastV_snoc (t := t) (house := house) (name := name) (xs := xs) (k := k) h)
  have HP0 : Hid (pastV t house name xs 0 = []) := Lib.hid rfl
  have HPL := Lib.hid (fun k => pastV_len (t := t) (house := house) (name := name) (xs := xs) (k := k))
  obtain ⟨R, hR⟩ : ∃ R, checkPast t house name xs = R := ⟨_, rfl⟩
  rw [hR] at HC0 HC1 HC2 HC3 ⊢
  obtain ⟨PV, hPV⟩ : ∃ f, pastV t house name xs = f := ⟨_, rfl⟩
  rw [hPV] at HC3 HPS HP0 HPL
  obtain ⟨CA, hCA⟩ : ∃ f, codeAt t house name xs = f := ⟨_, rfl⟩
  rw [hCA] at HC1 HC2 HC3 HCA
  clear hR hPV hCA hz
  have hWd : ∀ W, W = (w.alloc (.cells #[.slice A0 t.roots.length k0, .int .i64 t.k, .int .i64 t.need] 51)).alloc (.cells #[.slice C0 xs.length q0] 79) → Below w.heap.size w W ∧ W.cell? ⟨w.heap.size, 0, none⟩ = some (.slice A0 t.roots.length k0) ∧ W.cell? ⟨w.heap.size, 1, none⟩ = some (.int .i64 t.k) ∧ W.cell? ⟨w.heap.size, 2, none⟩ = some (.int .i64 t.need) ∧ W.cell? ⟨w.heap.size + 1, 0, none⟩ = some (.slice C0 xs.length q0) ∧ w.heap.size + 1 < W.heap.size ∧ W.heap.size = w.heap.size + 1 + 1 := by
    rintro W rfl
    refine ⟨(((Below.refl _ _).alloc (Nat.le_refl _) _).alloc (by simp) _), cell_alloc (box_cell _ _ _ _ _ rfl), cell_alloc (box_cell _ _ _ _ _ rfl), cell_alloc (box_cell _ _ _ _ _ rfl), ?_, by simp, by simp⟩
    rw [show w.heap.size + 1 = (w.alloc (.cells #[.slice A0 t.roots.length k0, .int .i64 t.k, .int .i64 t.need] 51)).heap.size from by simp]; exact box_cell _ _ _ _ _ rfl
  go_enter Tryz.func33, Tryz.ntmps33
  by_cases hne : xs.length = 0
  · have HE := Lib.hid (HC0.out hne)
    have hni : (xs.length : Int) = 0 := by omega
    go_wp2
    go_ret2
    exact CpRes.mk HE.out rfl (Own.start (((Below.refl _ _).alloc (Nat.le_refl _) _).alloc (by simp) _))
  have hni : ((xs.length : Int) == 0) = false := by rw [beq_eq_false_iff_ne]; omega
  have HNE := Lib.hid hne
  clear hne HC0
  go_wp2_with (fail)
  obtain ⟨W, hW⟩ : ∃ W, (w.alloc (.cells #[.slice A0 t.roots.length k0, .int .i64 t.k, .int .i64 t.need] 51)).alloc (.cells #[.slice C0 xs.length q0] 79) = W := ⟨_, rfl⟩
  rw [hW]
  obtain ⟨hBW, t0, t1, t2, p0, hsz, hsze⟩ := hWd W hW.symm
  have HSZ := Lib.hid hsze
  clear hsze
  clear hW hWd
  have HBW := Lib.hid hBW
  have T0 := Lib.hid t0
  have T1 := Lib.hid t1
  have T2 := Lib.hid t2
  have P0 := Lib.hid p0
  have RW := Lib.hid (Row.later rV0 HBW.out)
  have hl0 : w.heap.size < W.heap.size := by omega
  have HO := Lib.hid (Own.start (α := ByteArray) (Below.refl W.heap.size W))
  clear hBW rV0 hni
  go_loopw [10, 24] (fun u i wr => ∃ (k : Nat) (A : Option Addr) (c : Nat), k ≤ xs.length ∧ i = .int .i64 k ∧ u = .slice A k c ∧ Hid (∀ j, j < k → CA j = 0) ∧ Own W wr A c (PV k)) (fun _ i _ => xs.length - (intOf i).toNat)
  case atStart => exact ⟨0, none, 0, Nat.zero_le _, rfl, rfl, Lib.hid (fun j h => absurd h (Nat.not_lt_zero _)), by rw [HP0.out]; exact HO.out⟩
  case round =>
    clear t0 t1 t2 p0 HO
    obtain ⟨k, A, c, hk, rfl, rfl, hall, hown⟩ := hrel
    have hb := hown.bl
    have t0 := (hb.cell (p := ⟨w.heap.size, 0, none⟩) hl0).trans T0.out
    have t1 := (hb.cell (p := ⟨w.heap.size, 1, none⟩) hl0).trans T1.out
    have t2 := (hb.cell (p := ⟨w.heap.size, 2, none⟩) hl0).trans T2.out
    have p0 := (hb.cell (p := ⟨w.heap.size + 1, 0, none⟩) hsz).trans P0.out
    have HOW := Lib.hid hown
    have HBr := Lib.hid (HBW.out.trans (hb.mono HBW.out.size))
    have hl1 : w.heap.size < wr.heap.size := Nat.lt_of_lt_of_le hl0 hb.size
    by_cases hlt : k < xs.length
    · obtain ⟨b1, o1, cc, T, rfl, hlb, ha, hr, -, -⟩ := Row.at_ RW.out hlt
      replace ha := ha.keep (hb.block b1 hlb)
      replace hr := Lay.later hr hb
      have HV := Lib.hid (fun W' h => HVE.out k hlt _ wr T HBr.out hr W' h)
      have HVk := Lib.hid (HVL.out k hlt)
      have HCk := Lib.hid (HCA.out k hlt)
      have HPk := Lib.hid (HPS.out k hlt)
      have HBd := Lib.hid (HC1.out k hlt hall.out)
      obtain ⟨v, hv⟩ : ∃ v, verify t house name ((k : Int) + 1) xs[k] = v := ⟨_, rfl⟩
      rw [hv] at HV HVk HCk HPk
      clear hv
      obtain ⟨v1, v2, v3⟩ := v
      obtain ⟨x, hxk⟩ : ∃ x, xs[k] = x := ⟨_, rfl⟩
      rw [hxk] at hr
      clear hxk
      obtain ⟨B0, j0, U0, B1, j1, U1, B2, j2, U2, B3, j3, U3, B4, j4, U4, B5, j5, U5, B6, j6, U6, rfl, -⟩ := Whole.open hr
      clear hr
      simp only [Whole.cs] at HV
      rw [show Lay.n Whole = 12 from rfl] at ha
      have e0 := ha 0 _ rfl
      have e1 := ha 1 _ rfl
      have e2 := ha 2 _ rfl
      have e3 := ha 3 _ rfl
      have e4 := ha 4 _ rfl
      have e5 := ha 5 _ rfl
      have e6 := ha 6 _ rfl
      have e7 := ha 7 _ rfl
      have e8 := ha 8 _ rfl
      have e9 := ha 9 _ rfl
      have e10 := ha 10 _ rfl
      have e11 := ha 11 _ rfl
      simp only [Nat.add_zero] at e0
      clear ha hb hown
      have hl3 : b1 < wr.heap.size := Nat.lt_of_lt_of_le hlb HOW.out.bl.size
      by_cases c3 : v3 = 0
      · have HN : Hid (∀ j, j < k + 1 → CA j = 0) := Lib.hid (fun j hj => by
          rcases Nat.lt_succ_iff_lt_or_eq.1 hj with h | h
          · exact hall.out j h
          · rw [h, HCk.out]; exact c3)
        have HVm : v1.size ≤ maxLen := by have h9 := HVk.out; simp only at h9; unfold maxLen; omega
        clear HCk HBd
        go_wp2_with (fail)
        refine (HV.out _ ((Below.refl _ _).alloc (Nat.le_refl _) _)).mono ?_
        rintro e9 w9 ⟨rfl, hb9⟩
        go_wp2_with (at_builtin; refine wpList_push (α := ByteArray) rfl _ _ rfl rfl (HPL.out k).symm (((HOW.out.alloc _).later hb9).alloc _) rfl rfl (src1 HVm rfl rfl) (by omega) ?_; intro A6 c6 w6 o6 z6)
        go_roundw
        case rel => exact ⟨k + 1, A6, c6, hlt, by go_num, rfl, HN, by rw [HPk.out]; exact o6⟩
        case measure => simp [intOf]; omega
      · have HE := Lib.hid (HBd.out (by rw [HCk.out]; exact c3))
        rw [HCk.out] at HE
        clear HCk HBd
        go_wp2_with (fail)
        refine (HV.out _ ((Below.refl _ _).alloc (Nat.le_refl _) _)).mono ?_
        rintro e9 w9 ⟨rfl, hb9⟩
        go_wp2
        go_ret2
        exact CpRes.mk HE.out rfl (Own.start ((HBr.out.alloc HBr.out.size _).trans (hb9.mono (by rw [World.size_alloc]; have := HBr.out.size; omega))))
    · have hke : k = xs.length := by omega
      subst hke
      have HNZ : Hid (1 ≤ xs.length) := Lib.hid (by have := HNE.out; omega)
      have RV := Lib.hid (Row.later RW.out hb)
      have hsz2 : w.heap.size + 1 < wr.heap.size := Nat.lt_of_lt_of_le hsz hb.size
      have P1 := Lib.hid p0
      clear hb hown t0 t1 t2 T0 T1 T2 P0 HVE HVL HCA HPS HP0 HC1 HX
      go_wp2_with (fail)
      obtain ⟨V, hV⟩ : ∃ V, wr = V := ⟨_, rfl⟩
      simp only [hV] at *
      clear hV
      go_loopw [16] (fun i wr => ∃ k : Nat, 1 ≤ k ∧ k ≤ xs.length ∧ i = .int .i64 k ∧ Hid (∀ j, 1 ≤ j → j < k → prevBad xs j = false) ∧ Below V.heap.size V wr) (fun i _ => xs.length - (intOf i).toNat)
      case atStart => exact ⟨1, Nat.le_refl _, HNZ.out, rfl, Lib.hid (fun j h1 h2 => absurd h1 (by omega)), Below.refl _ _⟩
      case round =>
        clear p0
        obtain ⟨k, hk1, hk, rfl, hpr, hb⟩ := hrel
        have p0 := (hb.cell (p := ⟨w.heap.size + 1, 0, none⟩) hsz2).trans P1.out
        have HB2 := Lib.hid hb
        by_cases hlt : k < xs.length
        · obtain ⟨m, hm⟩ : ∃ m, k = m + 1 := ⟨k - 1, by omega⟩
          have hml : m < xs.length := by omega
          have HKM := Lib.hid hm
          have HPB : Hid (prevBad xs k = !((xs[k]).seal_.head.prev.toList == (headHash (xs[m]).seal_.head).toList)) := Lib.hid (by subst hm; exact prevBad_at hlt)
          have hw1 : IntKind.i64.wrap ((k : Int) - 1) = (m : Int) := by rw [IntWalk.i64_in] <;> omega
          have hw2 : (k : Int) - 1 = (m : Int) := by omega
          obtain ⟨b1, o1, hC, hlb, f3, -⟩ := whole_prev_at RV.out hlt
          obtain ⟨b2, o2, hC2, -, g0, -, g1, -, g2, -, g3, -⟩ := whole_head_at RV.out hml
          rw [hC] at hC2
          cases hC2
          subst hC
          replace f3 := (hb.cell (p := ⟨b1, o1 + k * 12 + 6, none⟩) hlb).trans f3
          replace g0 := (hb.cell (p := ⟨b1, o1 + m * 12 + 3, none⟩) hlb).trans g0
          replace g1 := (hb.cell (p := ⟨b1, o1 + m * 12 + 4, none⟩) hlb).trans g1
          replace g2 := (hb.cell (p := ⟨b1, o1 + m * 12 + 5, none⟩) hlb).trans g2
          replace g3 := (hb.cell (p := ⟨b1, o1 + m * 12 + 6, none⟩) hlb).trans g3
          have HHH := Lib.hid (fun W' (h : Below wr.heap.size wr W') => impl_HeadHash (xs[m]).seal_.head W' (HT.out.later ((HBr.out.trans (hb.mono HBr.out.size)).trans (h.mono (Nat.le_trans HBr.out.size hb.size)))))
          simp only [Head.cs] at HHH
          obtain ⟨hv, hhv⟩ : ∃ hv, headHash (xs[m]).seal_.head = hv := ⟨_, rfl⟩
          rw [hhv] at HHH HPB
          clear hhv
          obtain ⟨y, hy⟩ : ∃ y, (xs[m]).seal_.head = y := ⟨_, rfl⟩
          simp only [hy] at HHH g0 g1 g2 g3
          obtain ⟨pk, hpk⟩ : ∃ pk, (xs[k]).seal_.head.prev = pk := ⟨_, rfl⟩
          rw [hpk] at HPB f3
          have hki : (k : Int) < (xs.length : Int) := by omega
          have hk0 : (0 : Int) ≤ (k : Int) := by omega
          have hmi : (m : Int) < (xs.length : Int) := by omega
          have hm0 : (0 : Int) ≤ (m : Int) := by omega
          clear hy hpk hm
          go_wp2_with (fail)
          by_cases c5 : pk = hv
          rotate_left
          · have hq5 : (pk.toList == hv.toList) = false := str_ne c5
            have HE := Lib.hid (HC2.out k hall.out hk1 hlt (by rw [HPB.out, hq5]; rfl))
            have HC5 := Lib.hid c5
            have hq6 : ¬ pk.toList = hv.toList := fun e => HC5.out (toList_inj e)
            clear c5
            have Gp := Grown.cell p0
            have Gk := Grown.cell f3
            have G0 := Grown.cell g0
            have G1 := Grown.cell g1
            have G2 := Grown.cell g2
            have G3 := Grown.cell g3
            clear p0 f3 g0 g1 g2 g3 hb
            refine wp_region_grown (by kernel_rfl) (by kernel_rfl) ?_
            repeat (go_big_quiet_step (first | (go_at_call 75; exact grown_call (HHH.out _ (Grown.ok _)))))
            refine wpQuiet_nil ?_
            intro w7 hw_
            have HB7 := Lib.hid (HB2.out.trans ((grown_below hw_).mono HB2.out.size))
            clear hw_ Gp Gk G0 G1 G2 G3
            go_wp2
            go_ret2
            exact CpRes.mk HE.out rfl (Own.start (HBr.out.trans (HB7.out.mono HBr.out.size)))
          · have hq5 : (pk.toList == hv.toList) = true := str_eq c5
            have hq6 : pk.toList = hv.toList := by rw [c5]
            have HN : Hid (∀ j, 1 ≤ j → j < k + 1 → prevBad xs j = false) := Lib.hid (fun j h1 h2 => by
              rcases Nat.lt_succ_iff_lt_or_eq.1 h2 with h | h
              · exact hpr.out j h1 h
              · rw [h, HPB.out, hq5]; rfl)
            clear c5
            have Gp := Grown.cell p0
            have Gk := Grown.cell f3
            have G0 := Grown.cell g0
            have G1 := Grown.cell g1
            have G2 := Grown.cell g2
            have G3 := Grown.cell g3
            clear p0 f3 g0 g1 g2 g3 hb
            refine wp_region_grown (by kernel_rfl) (by kernel_rfl) ?_
            repeat (go_big_quiet_step (first | (go_at_call 75; exact grown_call (HHH.out _ (Grown.ok _)))))
            refine wpQuiet_nil ?_
            intro w7 hw_
            have HB7 := Lib.hid (HB2.out.trans ((grown_below hw_).mono HB2.out.size))
            clear hw_ Gp Gk G0 G1 G2 G3
            go_wp2
            go_roundw
            case rel => exact ⟨k + 1, by omega, hlt, by go_num, HN, HB7.out⟩
            case measure => simp [intOf]; omega
        · have HE := Lib.hid (HC3.out HNE.out hall.out (fun j h1 h2 => hpr.out j h1 (by omega)))
          clear hb
          go_wp2
          go_ret2
          exact CpRes.mk HE.out (HPL.out _).symm ((HOW.out.later HB2.out).from HBW.out)
set_option maxRecDepth 20000 in set_option maxHeartbeats 16000000 in
theorem spec_CheckPast (w : World) (t : Trust) (cs : List Value) (S : Blks) (hx : rd false w cs t S) (hz : t.sz ≤ 1048576) (house : Int) (hh : I64 house) (name : ByteArray) (hn : name.size ≤ 1048576) (p : Past) (ct : List Value) (S2 : Blks) (hy : rd false w ct p S2) (hzp : p.sz ≤ 1048576) : Calls Tryz.prog 37 #[.agg cs.toArray, .int .i64 house, .string name, .agg ct.toArray] w fun e w' => CpRes (checkPast t house name p.wholes) w e w' := by
  have hl := trust_sz hz
  obtain ⟨hzs, hls⟩ := past_sz hzp
  obtain ⟨C0, q0, V0, rfl, -, -, rV0, -⟩ := Past.open hy
  have HX := Lib.hid hx
  obtain ⟨A0, k0, S0, rfl, -⟩ := Trust.open hx
  clear hx hy hzp
  simp only [Trust.cs, Past.cs] at HX ⊢
  obtain ⟨xs, hxs⟩ : ∃ xs, p.wholes = xs := ⟨_, rfl⟩
  rw [hxs] at hzs hls rV0 ⊢
  clear hxs
  have HVE := Lib.hid (fun (k : Nat) (hk : k < xs.length) (ct : List Value) (W0 : World) (T : Blks) (h0 : Below w.heap.size w W0) (hr : rd false W0 ct xs[k] T) W (h : Below W0.heap.size W0 W) => spec_Verify W t _ S (Lay.later HX.out (h0.trans (h.mono h0.size))) hz house hh name hn ((k : Int) + 1) (by unfold I64; omega) xs[k] ct T (Lay.later hr h) (whole_sz (sz_getw hk hzs)))
  have HVL := Lib.hid (fun (k : Nat) (hk : k < xs.length) => ver_val t house name ((k : Int) + 1) (sz_getw (xs := xs) hk hzs))
  have HC0 := Lib.hid (fun h => cp_empty (t := t) (house := house) (name := name) (xs := xs) h)
  have HC1 := Lib.hid (fun k h h0 h1 => cp_bad (t := t) (house := house) (name := name) (xs := xs) (k := k) h h0 h1)
  have HC2 := Lib.hid (fun k h0 h1 h2 h3 => cp_prev (t := t) (house := house) (name := name) (xs := xs) (k := k) h0 h1 h2 h3)
  have HC3 := Lib.hid (fun h h0 h1 => cp_ok (t := t) (house := house) (name := name) (xs := xs) h h0 h1)
  have HCA := Lib.hid (fun k h => codeAt_at (t := t) (house := house) (name := name) (xs := xs) (i := k) h)
  have HPS := Lib.hid (fun k h => pastV_snoc (t := t) (house := house) (name := name) (xs := xs) (k := k) h)
  have HP0 : Hid (pastV t house name xs 0 = []) := Lib.hid rfl
  have HPL := Lib.hid (fun k => pastV_len (t := t) (house := house) (name := name) (xs := xs) (k := k))
  obtain ⟨R, hR⟩ : ∃ R, checkPast t house name xs = R := ⟨_, rfl⟩
  rw [hR] at HC0 HC1 HC2 HC3 ⊢
  obtain ⟨PV, hPV⟩ : ∃ f, pastV t house name xs = f := ⟨_, rfl⟩
  rw [hPV] at HC3 HPS HP0 HPL
  obtain ⟨CA, hCA⟩ : ∃ f, codeAt t house name xs = f := ⟨_, rfl⟩
  rw [hCA] at HC1 HC2 HC3 HCA
  clear hR hPV hCA hz
  have hWd : ∀ W, W = (w.alloc (.cells #[.slice A0 t.roots.length k0, .int .i64 t.k, .int .i64 t.need] 51)).alloc (.cells #[.slice C0 xs.length q0] 79) → Below w.heap.size w W ∧ W.cell? ⟨w.heap.size, 0, none⟩ = some (.slice A0 t.roots.length k0) ∧ W.cell? ⟨w.heap.size, 1, none⟩ = some (.int .i64 t.k) ∧ W.cell? ⟨w.heap.size, 2, none⟩ = some (.int .i64 t.need) ∧ W.cell? ⟨w.heap.size + 1, 0, none⟩ = some (.slice C0 xs.length q0) ∧ w.heap.size + 1 < W.heap.size ∧ W.heap.size = w.heap.size + 1 + 1 := by
    rintro W rfl
    refine ⟨(((Below.refl _ _).alloc (Nat.le_refl _) _).alloc (by simp) _), cell_alloc (box_cell _ _ _ _ _ rfl), cell_alloc (box_cell _ _ _ _ _ rfl), cell_alloc (box_cell _ _ _ _ _ rfl), ?_, by simp, by simp⟩
    rw [show w.heap.size + 1 = (w.alloc (.cells #[.slice A0 t.roots.length k0, .int .i64 t.k, .int .i64 t.need] 51)).heap.size from by simp]; exact box_cell _ _ _ _ _ rfl
  go_enter Tryz.func37, Tryz.ntmps37
  by_cases hne : xs.length = 0
  · have HE := Lib.hid (HC0.out hne)
    have hni : (xs.length : Int) = 0 := by omega
    go_wp2
    go_ret2
    exact CpRes.mk HE.out rfl (Own.litAt (((Below.refl _ _).alloc (Nat.le_refl _) _).alloc (by simp) _) 9 rfl (by simp))
  have hni : ((xs.length : Int) == 0) = false := by rw [beq_eq_false_iff_ne]; omega
  have HNE := Lib.hid hne
  clear hne HC0
  go_wp2_with (fail)
  obtain ⟨W, hW⟩ : ∃ W, (w.alloc (.cells #[.slice A0 t.roots.length k0, .int .i64 t.k, .int .i64 t.need] 51)).alloc (.cells #[.slice C0 xs.length q0] 79) = W := ⟨_, rfl⟩
  rw [hW]
  obtain ⟨hBW, t0, t1, t2, p0, hsz, hsze⟩ := hWd W hW.symm
  have HSZ := Lib.hid hsze
  clear hsze
  clear hW hWd
  have HBW := Lib.hid hBW
  obtain ⟨X, hX⟩ : ∃ X, W.alloc (.cells #[] 9) = X := ⟨_, rfl⟩
  have HWX : Hid (Below W.heap.size W X) := Lib.hid (by rw [← hX]; exact (Below.refl _ _).alloc (Nat.le_refl _) _)
  have HO0 : Hid (Own (α := ByteArray) W X (some ⟨w.heap.size + 1 + 1, 0, none⟩) 0 []) := Lib.hid (by rw [← hX]; exact Own.litAt (Below.refl W.heap.size W) 9 rfl HSZ.out.symm)
  rw [hX]
  clear hX HWX
  have T0 := Lib.hid t0
  have T1 := Lib.hid t1
  have T2 := Lib.hid t2
  have P0 := Lib.hid p0
  have RW := Lib.hid (Row.later rV0 HBW.out)
  have hl0 : w.heap.size < W.heap.size := by omega
  clear hBW rV0 hni
  go_loopw [10, 11] (fun u i wr => ∃ (k : Nat) (A : Option Addr) (c : Nat), k ≤ xs.length ∧ i = .int .i64 k ∧ u = .slice A k c ∧ Hid (∀ j, j < k → CA j = 0) ∧ Own W wr A c (PV k)) (fun _ i _ => xs.length - (intOf i).toNat)
  case atStart => exact ⟨0, some ⟨w.heap.size + 1 + 1, 0, none⟩, 0, Nat.zero_le _, rfl, rfl, Lib.hid (fun j h => absurd h (Nat.not_lt_zero _)), by rw [HP0.out]; exact HO0.out⟩
  case round =>
    clear t0 t1 t2 p0 HO0
    obtain ⟨k, A, c, hk, rfl, rfl, hall, hown⟩ := hrel
    have hb := hown.bl
    have t0 := (hb.cell (p := ⟨w.heap.size, 0, none⟩) hl0).trans T0.out
    have t1 := (hb.cell (p := ⟨w.heap.size, 1, none⟩) hl0).trans T1.out
    have t2 := (hb.cell (p := ⟨w.heap.size, 2, none⟩) hl0).trans T2.out
    have p0 := (hb.cell (p := ⟨w.heap.size + 1, 0, none⟩) hsz).trans P0.out
    have HOW := Lib.hid hown
    have HBr := Lib.hid (HBW.out.trans (hb.mono HBW.out.size))
    have hl1 : w.heap.size < wr.heap.size := Nat.lt_of_lt_of_le hl0 hb.size
    by_cases hlt : k < xs.length
    · obtain ⟨b1, o1, cc, T, rfl, hlb, ha, hr, -, -⟩ := Row.at_ RW.out hlt
      replace ha := ha.keep (hb.block b1 hlb)
      replace hr := Lay.later hr hb
      have HV := Lib.hid (fun W' h => HVE.out k hlt _ wr T HBr.out hr W' h)
      have HVk := Lib.hid (HVL.out k hlt)
      have HCk := Lib.hid (HCA.out k hlt)
      have HPk := Lib.hid (HPS.out k hlt)
      have HBd := Lib.hid (HC1.out k hlt hall.out)
      obtain ⟨v, hv⟩ : ∃ v, verify t house name ((k : Int) + 1) xs[k] = v := ⟨_, rfl⟩
      rw [hv] at HV HVk HCk HPk
      clear hv
      obtain ⟨v1, v2, v3⟩ := v
      obtain ⟨x, hxk⟩ : ∃ x, xs[k] = x := ⟨_, rfl⟩
      rw [hxk] at hr
      clear hxk
      obtain ⟨B0, j0, U0, B1, j1, U1, B2, j2, U2, B3, j3, U3, B4, j4, U4, B5, j5, U5, B6, j6, U6, rfl, -⟩ := Whole.open hr
      clear hr
      simp only [Whole.cs] at HV
      rw [show Lay.n Whole = 12 from rfl] at ha
      have e0 := ha 0 _ rfl
      have e1 := ha 1 _ rfl
      have e2 := ha 2 _ rfl
      have e3 := ha 3 _ rfl
      have e4 := ha 4 _ rfl
      have e5 := ha 5 _ rfl
      have e6 := ha 6 _ rfl
      have e7 := ha 7 _ rfl
      have e8 := ha 8 _ rfl
      have e9 := ha 9 _ rfl
      have e10 := ha 10 _ rfl
      have e11 := ha 11 _ rfl
      simp only [Nat.add_zero] at e0
      clear ha hb hown
      have hl3 : b1 < wr.heap.size := Nat.lt_of_lt_of_le hlb HOW.out.bl.size
      by_cases c3 : v3 = 0
      · have HN : Hid (∀ j, j < k + 1 → CA j = 0) := Lib.hid (fun j hj => by
          rcases Nat.lt_succ_iff_lt_or_eq.1 hj with h | h
          · exact hall.out j h
          · rw [h, HCk.out]; exact c3)
        have HVm : v1.size ≤ maxLen := by have h9 := HVk.out; simp only at h9; unfold maxLen; omega
        clear HCk HBd
        go_wp2_with (fail)
        have Gt0 := Grown.cell t0
        have Gt1 := Grown.cell t1
        have Gt2 := Grown.cell t2
        have Gp0 := Grown.cell p0
        have Ge0 := Grown.cell e0
        have Ge1 := Grown.cell e1
        have Ge2 := Grown.cell e2
        have Ge3 := Grown.cell e3
        have Ge4 := Grown.cell e4
        have Ge5 := Grown.cell e5
        have Ge6 := Grown.cell e6
        have Ge7 := Grown.cell e7
        have Ge8 := Grown.cell e8
        have Ge9 := Grown.cell e9
        have Ge10 := Grown.cell e10
        have Ge11 := Grown.cell e11
        clear t0 t1 t2 p0 e0 e1 e2 e3 e4 e5 e6 e7 e8 e9 e10 e11
        refine wp_region_grown (by kernel_rfl) (by kernel_rfl) ?_
        repeat (go_big_quiet_step (first | (go_at_call 45; exact grown_call (HV.out _ (Grown.ok _)))))
        refine wpQuiet_nil ?_
        intro w9 hw9
        have HB9 := Lib.hid (grown_below hw9)
        clear hw9 Gt0 Gt1 Gt2 Gp0 Ge0 Ge1 Ge2 Ge3 Ge4 Ge5 Ge6 Ge7 Ge8 Ge9 Ge10 Ge11
        go_wp2_with (at_builtin; refine wpList_push (α := ByteArray) rfl _ _ rfl rfl (HPL.out k).symm ((HOW.out.later HB9.out).alloc _) rfl rfl (src1 HVm rfl rfl) (by omega) ?_; intro A6 c6 w6 o6 z6)
        go_roundw
        case rel => exact ⟨k + 1, A6, c6, hlt, by go_num, rfl, HN, by rw [HPk.out]; exact o6⟩
        case measure => simp [intOf]; omega
      · have HE := Lib.hid (HBd.out (by rw [HCk.out]; exact c3))
        rw [HCk.out] at HE
        clear HCk HBd
        go_wp2_with (fail)
        have Gt0 := Grown.cell t0
        have Gt1 := Grown.cell t1
        have Gt2 := Grown.cell t2
        have Gp0 := Grown.cell p0
        have Ge0 := Grown.cell e0
        have Ge1 := Grown.cell e1
        have Ge2 := Grown.cell e2
        have Ge3 := Grown.cell e3
        have Ge4 := Grown.cell e4
        have Ge5 := Grown.cell e5
        have Ge6 := Grown.cell e6
        have Ge7 := Grown.cell e7
        have Ge8 := Grown.cell e8
        have Ge9 := Grown.cell e9
        have Ge10 := Grown.cell e10
        have Ge11 := Grown.cell e11
        clear t0 t1 t2 p0 e0 e1 e2 e3 e4 e5 e6 e7 e8 e9 e10 e11
        refine wp_region_grown (by kernel_rfl) (by kernel_rfl) ?_
        repeat (go_big_quiet_step (first | (go_at_call 45; exact grown_call (HV.out _ (Grown.ok _)))))
        refine wpQuiet_nil ?_
        intro w9 hw9
        have HB9 := Lib.hid (grown_below hw9)
        clear hw9 Gt0 Gt1 Gt2 Gp0 Ge0 Ge1 Ge2 Ge3 Ge4 Ge5 Ge6 Ge7 Ge8 Ge9 Ge10 Ge11
        go_wp2
        go_ret2
        exact CpRes.mk HE.out rfl (Own.lit (HBr.out.trans (HB9.out.mono HBr.out.size)) 9 rfl)
    · have hke : k = xs.length := by omega
      subst hke
      have HNZ : Hid (1 ≤ xs.length) := Lib.hid (by have := HNE.out; omega)
      have RV := Lib.hid (Row.later RW.out hb)
      have hsz2 : w.heap.size + 1 < wr.heap.size := Nat.lt_of_lt_of_le hsz hb.size
      have P1 := Lib.hid p0
      clear hb hown t0 t1 t2 T0 T1 T2 P0 HVE HVL HCA HPS HP0 HC1 HX
      go_wp2_with (fail)
      obtain ⟨V, hV⟩ : ∃ V, wr = V := ⟨_, rfl⟩
      simp only [hV] at *
      clear hV
      go_loopw [15] (fun i wr => ∃ k : Nat, 1 ≤ k ∧ k ≤ xs.length ∧ i = .int .i64 k ∧ Hid (∀ j, 1 ≤ j → j < k → prevBad xs j = false) ∧ Below V.heap.size V wr) (fun i _ => xs.length - (intOf i).toNat)
      case atStart => exact ⟨1, Nat.le_refl _, HNZ.out, rfl, Lib.hid (fun j h1 h2 => absurd h1 (by omega)), Below.refl _ _⟩
      case round =>
        clear p0
        obtain ⟨k, hk1, hk, rfl, hpr, hb⟩ := hrel
        have p0 := (hb.cell (p := ⟨w.heap.size + 1, 0, none⟩) hsz2).trans P1.out
        have HB2 := Lib.hid hb
        by_cases hlt : k < xs.length
        · obtain ⟨m, hm⟩ : ∃ m, k = m + 1 := ⟨k - 1, by omega⟩
          have hml : m < xs.length := by omega
          have HKM := Lib.hid hm
          have HPB : Hid (prevBad xs k = !((xs[k]).seal_.head.prev.toList == (headHash (xs[m]).seal_.head).toList)) := Lib.hid (by subst hm; exact prevBad_at hlt)
          have hw1 : IntKind.i64.wrap ((k : Int) - 1) = (m : Int) := by rw [IntWalk.i64_in] <;> omega
          have hw2 : (k : Int) - 1 = (m : Int) := by omega
          obtain ⟨b1, o1, hC, hlb, f3, -⟩ := whole_prev_at RV.out hlt
          obtain ⟨b2, o2, hC2, -, g0, -, g1, -, g2, -, g3, -⟩ := whole_head_at RV.out hml
          rw [hC] at hC2
          cases hC2
          subst hC
          replace f3 := (hb.cell (p := ⟨b1, o1 + k * 12 + 6, none⟩) hlb).trans f3
          replace g0 := (hb.cell (p := ⟨b1, o1 + m * 12 + 3, none⟩) hlb).trans g0
          replace g1 := (hb.cell (p := ⟨b1, o1 + m * 12 + 4, none⟩) hlb).trans g1
          replace g2 := (hb.cell (p := ⟨b1, o1 + m * 12 + 5, none⟩) hlb).trans g2
          replace g3 := (hb.cell (p := ⟨b1, o1 + m * 12 + 6, none⟩) hlb).trans g3
          have HHH := Lib.hid (fun W' (h : Below wr.heap.size wr W') => spec_HeadHash (xs[m]).seal_.head W')
          simp only [Head.cs] at HHH
          obtain ⟨hv, hhv⟩ : ∃ hv, headHash (xs[m]).seal_.head = hv := ⟨_, rfl⟩
          rw [hhv] at HHH HPB
          clear hhv
          obtain ⟨y, hy⟩ : ∃ y, (xs[m]).seal_.head = y := ⟨_, rfl⟩
          simp only [hy] at HHH g0 g1 g2 g3
          obtain ⟨pk, hpk⟩ : ∃ pk, (xs[k]).seal_.head.prev = pk := ⟨_, rfl⟩
          rw [hpk] at HPB f3
          have hki : (k : Int) < (xs.length : Int) := by omega
          have hk0 : (0 : Int) ≤ (k : Int) := by omega
          have hmi : (m : Int) < (xs.length : Int) := by omega
          have hm0 : (0 : Int) ≤ (m : Int) := by omega
          clear hy hpk hm
          go_wp2_with (fail)
          by_cases c5 : pk = hv
          rotate_left
          · have hq5 : (pk.toList == hv.toList) = false := str_ne c5
            have HE := Lib.hid (HC2.out k hall.out hk1 hlt (by rw [HPB.out, hq5]; rfl))
            have HC5 := Lib.hid c5
            have hq6 : ¬ pk.toList = hv.toList := fun e => HC5.out (toList_inj e)
            clear c5
            have Gp := Grown.cell p0
            have Gk := Grown.cell f3
            have G0 := Grown.cell g0
            have G1 := Grown.cell g1
            have G2 := Grown.cell g2
            have G3 := Grown.cell g3
            clear p0 f3 g0 g1 g2 g3 hb
            refine wp_region_grown (by kernel_rfl) (by kernel_rfl) ?_
            repeat (go_big_quiet_step (first | (go_at_call 77; exact grown_call (HHH.out _ (Grown.ok _)))))
            refine wpQuiet_nil ?_
            intro w7 hw_
            have HB7 := Lib.hid (HB2.out.trans ((grown_below hw_).mono HB2.out.size))
            clear hw_ Gp Gk G0 G1 G2 G3
            go_wp2
            go_ret2
            exact CpRes.mk HE.out rfl (Own.lit (HBr.out.trans (HB7.out.mono HBr.out.size)) 9 rfl)
          · have hq5 : (pk.toList == hv.toList) = true := str_eq c5
            have hq6 : pk.toList = hv.toList := by rw [c5]
            have HN : Hid (∀ j, 1 ≤ j → j < k + 1 → prevBad xs j = false) := Lib.hid (fun j h1 h2 => by
              rcases Nat.lt_succ_iff_lt_or_eq.1 h2 with h | h
              · exact hpr.out j h1 h
              · rw [h, HPB.out, hq5]; rfl)
            clear c5
            have Gp := Grown.cell p0
            have Gk := Grown.cell f3
            have G0 := Grown.cell g0
            have G1 := Grown.cell g1
            have G2 := Grown.cell g2
            have G3 := Grown.cell g3
            clear p0 f3 g0 g1 g2 g3 hb
            refine wp_region_grown (by kernel_rfl) (by kernel_rfl) ?_
            repeat (go_big_quiet_step (first | (go_at_call 77; exact grown_call (HHH.out _ (Grown.ok _)))))
            refine wpQuiet_nil ?_
            intro w7 hw_
            have HB7 := Lib.hid (HB2.out.trans ((grown_below hw_).mono HB2.out.size))
            clear hw_ Gp Gk G0 G1 G2 G3
            go_wp2
            go_roundw
            case rel => exact ⟨k + 1, by omega, hlt, by go_num, HN, HB7.out⟩
            case measure => simp [intOf]; omega
        · have HE := Lib.hid (HC3.out HNE.out hall.out (fun j h1 h2 => hpr.out j h1 (by omega)))
          clear hb
          go_wp2
          go_ret2
          exact CpRes.mk HE.out (HPL.out _).symm ((HOW.out.later HB2.out).from HBW.out)
end Go.Proofs.YtgllafgpmenjjaaGreatDoor
