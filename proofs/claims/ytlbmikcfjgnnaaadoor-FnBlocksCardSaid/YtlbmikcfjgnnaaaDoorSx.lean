/- Walk: one block of the digest on numbers, by the reference. -/
import Derived.Test.YtlbmikcfjgnnaaaDoorSv
import Derived.Test.YtlbmikcfjgnnaaaDoorDs
import Derived.Test.YtlbmikcfjgnnaaaDoorRg
import Derived.Test.YtlbmikcfjgnnaaaDoorFd
set_option linter.unusedVariables false
set_option linter.unusedSimpArgs false
namespace Go.Proofs.YtlbmikcfjgnnaaaDoor
open Go.RowKit Lay Mk
section
variable {P : Program} {o : Oper} {a : Act} {w : World}
theorem operwp_loadArr {K : Act → World → Prop} {Q : Exit → Act → World → Prop} (t : TypeId) (x : Operand) (ho : o.op = .load t x) {g et e : Nat} {l : List Int} {n : Nat} (hx : a.eval x = .pointer (some ⟨g, 0, none⟩)) (hA : Arr w g et l)
    (hu : P.underlying t = some (.array n e)) (hi : (P.info? t).map (·.size) = some l.length) (h : K (a.put o.dst (.agg (arr l))) w) : o.wp P a w K Q := by
  have hr := run_loadVar_row (P := P) w g et t (arr l) (0, 0) _ hA hu rfl (by rw [arr_size]; exact hi)
  unfold Oper.wp execOp
  simp only [ho, hx, Instr.loadAt, Instr.sureAddr, Sem.run_bind, Sem.run_pure, Result.andThen_ok, hr]
  exact h
theorem operwp_storeArr {K : Act → World → Prop} {Q : Exit → Act → World → Prop} (t : TypeId) (p x : Operand) (ho : o.op = .store t p x) {g et : Nat} {l l' : List Int} (hp : a.eval p = .pointer (some ⟨g, 0, none⟩)) (hx : a.eval x = .agg (arr l'))
    (hA : Arr w g et l) (hl : l.length = l'.length) (hi : (P.info? t).map (·.size) = some l'.length)
    (h : ∀ w', Arr w' g et l' → Chg (fun b => b = g) w w' → K (a.put o.dst (.tuple #[])) w') : o.wp P a w K Q := by
  have hr := run_storeVar_row (P := P) w g et t (arr l) (arr l') hA (by rw [arr_size]; exact hi) (by rw [arr_size, arr_size]; exact hl) (by rw [Array.all_eq_true']; intro u hu; exact arr_one l' u (by simpa using hu))
  unfold Oper.wp execOp
  simp only [ho, hp, hx, Instr.storeAt, Instr.sureAddr, Sem.run_bind, Sem.run_pure, Result.andThen_ok, hr]
  exact h _ (setRow_heap w g _ _ et _ hA) ⟨rfl, rfl, rfl, by simp, fun k _ hk => setRow_other w g k _ hk⟩
end
set_option maxRecDepth 20000 in set_option maxHeartbeats 8000000 in
theorem spec_ShaBlock (w : World) (st : List Int) (A : Option Addr) (cap : Nat) (S : Blks) (hx : Row false w A cap st S) (hl : st.length ≤ 1048576) (b : ByteArray) : Calls Tryd.prog 14 #[.slice A st.length cap, .string b] w fun e w' => ∃ A' cap', e = .returned (.slice A' (shaBl st b).length cap') ∧ (shaBl st b).length ≤ cap' ∧ cap' ≤ maxLen ∧ Row true w' A' cap' (shaBl st b) (rng w.heap.size w'.heap.size) ∧ Below w.heap.size w w' := by
  by_cases h8 : st.length = 8
  rotate_left
  · have HF := Lib.hid (shaBl_len (b := b) h8)
    have hn : ((st.length : Int) != 8) = true := by rw [bne_iff_ne]; omega
    go_enter Tryd.func14, Tryd.ntmps14
    · go_wp2_with (at_builtin; refine wpList_app (α := Int) (xs := []) rfl _ _ rfl rfl rfl (row_lit0 (α := Int) w 3 (rng w.heap.size (w.heap.size + 1)) rfl (by unfold rng; omega)) (by simp) (by decide) rfl rfl (Src.flat (Row.allocC hx _)) (disj_none_ _) (by simp; omega) ?_; intro A5 cap5 w1 p1 p2 p3 p4)
      rw [List.nil_append] at p3
      have hz1 := p4.size; rw [World.size_alloc] at hz1; have hB1 := ((Below.refl w.heap.size w).alloc (Nat.le_refl _) (.cells #[] 3)).trans (p4.nw (by simp) (fun b hb => by unfold rng at hb; unfold nw; omega))
      go_ret
      exact ⟨A5, cap5, ret_slice (by first | (rw [shaBl_length]; done) | (rw [shaBl_length]; omega) | (rw [shaBl_length]; simp)), by rw [shaBl_length]; omega, p2, by rw [HF.out]; exact p3.mono (fun b hb => by unfold rng at hb ⊢; rcases hb with x | x | x; omega; exact x.elim; simp at x; omega), hB1⟩
  by_cases h64 : b.size = 64
  rotate_left
  · have HF := Lib.hid (shaBl_size (st := st) h64)
    have hn : ((st.length : Int) != 8) = false := by rw [bne_eq_false_iff_eq]; omega
    have hn2 : ((b.size : Int) != 64) = true := by rw [bne_iff_ne]; omega
    go_enter Tryd.func14, Tryd.ntmps14
    · go_wp2_with (at_builtin; refine wpList_app (α := Int) (xs := []) rfl _ _ rfl rfl rfl (row_lit0 (α := Int) w 3 (rng w.heap.size (w.heap.size + 1)) rfl (by unfold rng; omega)) (by simp) (by decide) rfl rfl (Src.flat (Row.allocC hx _)) (disj_none_ _) (by simp; omega) ?_; intro A5 cap5 w1 p1 p2 p3 p4)
      rw [List.nil_append] at p3
      have hz1 := p4.size; rw [World.size_alloc] at hz1; have hB1 := ((Below.refl w.heap.size w).alloc (Nat.le_refl _) (.cells #[] 3)).trans (p4.nw (by simp) (fun b hb => by unfold rng at hb; unfold nw; omega))
      go_ret
      exact ⟨A5, cap5, ret_slice (by first | (rw [shaBl_length]; done) | (rw [shaBl_length]; omega) | (rw [shaBl_length]; simp)), by rw [shaBl_length]; omega, p2, by rw [HF.out]; exact p3.mono (fun b hb => by unfold rng at hb ⊢; rcases hb with x | x | x; omega; exact x.elim; simp at x; omega), hB1⟩
  have hn : ((st.length : Int) != 8) = false := by rw [bne_eq_false_iff_eq]; omega
  have hn2 : ((b.size : Int) != 64) = false := by rw [bne_eq_false_iff_eq]; omega
  have HBad := Lib.hid (fun k (hk : k < st.length) h => shaBl_words (b := b) (words_bad hk h))
  have HGo := Lib.hid (fun h => shaBl_go (b := b) h8 h64 h)
  have HEnd := Lib.hid (fun h => words_end (st := st) h)
  have HOk := Lib.hid (fun h => s8of_ok h8 h)
  have H8 := Lib.hid h8
  have H64 := Lib.hid h64
  go_enter Tryd.func14, Tryd.ntmps14
  go_wp2_with (at_builtin; refine wpList_app (α := Int) (xs := []) rfl _ _ rfl rfl rfl (row_lit0 (α := Int) w 3 (rng w.heap.size (w.heap.size + 1)) rfl (by unfold rng; omega)) (by simp) (by decide) rfl rfl (Src.flat (Row.allocC hx _)) (disj_none_ _) (by simp; omega) ?_; intro A5 cap5 w1 p1 p2 p3 p4)
  rw [List.nil_append] at p3
  have hz1 := p4.size; rw [World.size_alloc] at hz1; have hB1 := ((Below.refl w.heap.size w).alloc (Nat.le_refl _) (.cells #[] 3)).trans (p4.nw (by simp) (fun b hb => by unfold rng at hb; unfold nw; omega))
  have r5 : Row true w1 A5 cap5 st (rng w.heap.size w1.heap.size) := p3.mono (fun b hb => by unfold rng at hb ⊢; rcases hb with x | x | x; omega; exact x.elim; simp at x; omega)
  obtain ⟨B, hBe⟩ : ∃ B, w1.heap.size = B := ⟨_, rfl⟩
  have hwB : w.heap.size ≤ B := by rw [← hBe]; exact hB1.size
  rw [hBe] at r5 ⊢
  go_loopw [7] (fun i wr => ∃ k : Nat, k ≤ 8 ∧ i = .int .i64 k ∧ Hid (∀ j (h : j < st.length), j < k → inB st[j] 0 4294967295 = true) ∧ Arr wr B 38 (padz (st.take k) 8) ∧ Row true wr A5 cap5 st (rng w.heap.size B) ∧ Below w.heap.size w wr) (fun i _ => 8 - (intOf i).toNat)
  case atStart => exact ⟨0, by omega, rfl, Lib.hid (fun j _ h => absurd h (by omega)), arr_new hBe.symm rfl, Row.allocC r5 _, hB1.alloc hB1.size _⟩
  case round =>
    clear r5 p3 p4 hB1
    obtain ⟨k, hk, rfl, hall, hA, hr5, hB⟩ := hrel
    have hz := hB.size
    have hBl := hA.lt
    by_cases hlt : k < 8
    · have hkl : k < st.length := by rw [H8.out]; exact hlt
      obtain ⟨b1, o1, rfl, hl1, f0, i0⟩ := Row.int hx hkl
      replace f0 := (hB.cell (p := ⟨b1, o1 + k, none⟩) hl1).trans f0
      have HBk := Lib.hid (HBad.out k hkl)
      have HN : Hid (inB st[k] 0 4294967295 = true → ∀ j (h : j < st.length), j < k + 1 → inB st[j] 0 4294967295 = true) := Lib.hid (fun h0 j h hj => by rcases Nat.lt_succ_iff_lt_or_eq.1 hj with h1 | h1; exact hall.out j h h1; subst h1; exact h0)
      have htl : (st.take k).length = k := by rw [List.length_take]; omega
      have HSet : Hid ((padz (st.take k) 8).set k st[k] = padz (st.take (k + 1)) 8) := Lib.hid (by
        rw [List.take_succ_eq_append_getElem hkl, ← padz_set (by omega), htl])
      obtain ⟨v0, hc⟩ : ∃ v, wr.cell? ⟨B, k, none⟩ = some v := ⟨_, hA.cell (i := k) (by rw [padz_len (by omega)]; omega)⟩
      have hf := hA.frozen k
      obtain ⟨x, hxx⟩ : ∃ x, st[k] = x := ⟨_, rfl⟩
      rw [hxx] at f0 i0 HBk HN HSet
      clear hxx htl
      cases hin : inB x 0 4294967295
      · have HF := Lib.hid (HBk.out hin)
        go_wp2_with (go_at_call 29; refine (spec_in _ _ _ _).mono ?_; rintro e w9 ⟨rfl, rfl⟩)
        go_ret
        exact ⟨A5, cap5, ret_slice (by rw [HF.out, H8.out]), by rw [HF.out, H8.out]; omega, p2, by rw [HF.out]; exact to_rng (hr5.mono (fun b hb => hb.1)), hB⟩
      · have HNx := Lib.hid (HN.out hin)
        have hx1 : 0 ≤ x ∧ x ≤ 4294967295 := by simpa [inB] using hin
        obtain ⟨hx0, hx2⟩ := hx1
        have hw : IntKind.u32.wrap x = x := by rw [IntKind.wrap_u32']; omega
        have hw2 : x % 4294967296 = x := by omega
        go_wp2_with (go_at_call 29; refine (spec_in _ _ _ _).mono ?_; rintro e w9 ⟨rfl, rfl⟩)
        go_roundw
        case rel => exact ⟨k + 1, by omega, by go_num, HNx, by rw [← HSet.out]; exact hA.set k x, hr5.setC (fun h => by have := h.2; simp at this) _, hB.setCell hwB _⟩
        case measure => simp [intOf]; omega
    · have hke : k = 8 := by omega
      subst hke
      have hwok : wordsOk st = true := HEnd.out (fun j h => hall.out j h (by rw [H8.out] at h; exact h))
      have hF := HGo.out hwok
      have hok := HOk.out hwok
      rw [padz_full h8] at hA
      have hA2 : Arr wr B 38 (s8of st).l := by rw [s8of_l h8]; exact hA
      clear hA
      obtain ⟨s, hs⟩ : ∃ s, s8of st = s := ⟨_, rfl⟩
      rw [hs] at hF hok hA2
      have HF := Lib.hid hF
      clear hs hF hwok HBad HGo HEnd HOk hall
      have hs8 : s.l.length = 8 := rfl
      have hd8 : s.l.length = (comp s b).l.length := rfl
      go_wp2_with (fail)
      refine wp_region_held_drew (S := fun _ => True) (by kernel_rfl) trivial (fun hS => ?_)
      refine wpAnyH_take (i := 1) (v := .string b) rfl (by kernel_rfl) (by kernel_rfl) (by kernel_rfl) (fun _ _ _ h => h) (yieldsIf_move (by rfl) _ rfl (by rfl)) hS ?_
      (try simp only [Act.put, List.setIfInBounds_toArray, List.set_cons_zero, List.set_cons_succ])
      have hA0 := hA2.drew
      replace hA2 := hA0
      replace hr5 := Row.later hr5 (Below.refl _ wr).drew
      have hBd := hB.trans (Below.refl _ wr).drew
      clear hA0 hB
      obtain ⟨wd, hwd⟩ : ∃ wd, wr.drew = wd := ⟨_, rfl⟩
      rw [hwd] at hA2 hr5 hBd ⊢
      clear hwd hBl
      have hzd := hBd.size
      refine wpAnyH_ready (rs := [0, 2]) (by kernel_rfl) (by simp) (AllReadyH.cons rfl (fun K hK => ?_) (AllReadyH.cons rfl (fun K hK => ?_) AllReadyH.nil))
      · (try rw [if_pos (by rfl)])
        clear hS
        refine operwp_loadArr _ _ rfl rfl hA2 Tryd.underlying38 (by kernel_rfl) ?_
        refine hK.out _ _ trivial (fun hS => ?_)
        clear hK K
        (try simp only [Act.put, List.setIfInBounds_toArray, List.set_cons_zero, List.set_cons_succ])
        refine wpAnyH_ready (rs := [2]) (by kernel_rfl) (by simp) (AllReadyH.cons rfl (fun K hK => ?_) AllReadyH.nil)
        (try rw [if_pos (by rfl)])
        clear hS
        go_simp
        refine (spec_l03Keys _).mono ?_
        rintro e2 w2 ⟨rfl, hb2⟩
        replace hA2 := hA2.keep (hb2.block _ hA2.lt)
        have hr6 := Row.later hr5 hb2
        have hB2 := hBd.trans (hb2.mono hzd)
        refine hK.out _ _ trivial (fun hS => ?_)
        clear hK K
        (try simp only [Act.put, List.setIfInBounds_toArray, List.set_cons_zero, List.set_cons_succ])
        refine wpAnyH_ready (rs := [3]) (by kernel_rfl) (by simp) (AllReadyH.cons rfl (fun K hK => ?_) AllReadyH.nil)
        (try rw [if_pos (by rfl)])
        clear hS
        go_simp
        refine (spec_l03Block _ s hok b h64).mono ?_
        rintro e3 w3 ⟨rfl, hb3⟩
        have hA4 := hA2.keep (hb3.block _ hA2.lt)
        have hr7 := Row.later hr6 hb3
        have hB3 := hB2.trans (hb3.mono hB2.size)
        refine hK.out _ _ trivial (fun hS => ?_)
        clear hK K
        (try simp only [Act.put, List.setIfInBounds_toArray, List.set_cons_zero, List.set_cons_succ])
        refine wpAnyH_ready (rs := [4]) (by kernel_rfl) (by simp) (AllReadyH.cons rfl (fun K hK => ?_) AllReadyH.nil)
        (try rw [if_pos (by rfl)])
        clear hS
        refine operwp_storeArr _ _ _ rfl rfl rfl hA4 hd8 (by kernel_rfl) ?_
        intro w4 hA5 hc4
        have hr8 := hr7.chg hc4 (fun b' h1 h2 => by have := h1.2; have h3 : b' = B := h2; omega)
        have hB4 := hB3.trans (hc4.to_below hB3.size (fun b' h2 => by have h3 : b' = B := h2; omega))
        refine hK.out _ _ trivial (fun hS => ?_)
        clear hK K
        (try simp only [Act.put, List.setIfInBounds_toArray, List.set_cons_zero, List.set_cons_succ])
        refine wpAnyH_done (by kernel_rfl) ?_ _
        clear hS
        have hco := comp_ok s b
        have hcl : (comp s b).l.length = 8 := rfl
        obtain ⟨D, hD⟩ : ∃ D, comp s b = D := ⟨_, rfl⟩
        rw [hD] at HF hco hcl hA5
        clear hD hr5 hr6 hr7 hBd hB2 hB3 hb2 hb3 hA2 hA4 hc4
        go_wp2
        go_loopw [8] (fun i wr => ∃ k : Nat, k ≤ 8 ∧ i = .int .i64 k ∧ Arr wr B 38 D.l ∧ Row true wr A5 cap5 (D.l.take k ++ st.drop k) (rng w.heap.size B) ∧ Below w.heap.size w wr) (fun i _ => 8 - (intOf i).toNat)
        case atStart => exact ⟨0, by omega, rfl, hA5, by simpa using hr8, hB4⟩
        case round =>
          clear hr8 hB4 hA5
          obtain ⟨k, hk, rfl, hA, hr6, hB⟩ := hrel
          have hz := hB.size
          by_cases hlt : k < 8
          · have hlm : (D.l.take k ++ st.drop k).length = 8 := by rw [List.length_append, List.length_take, List.length_drop]; omega
            have hix := hA.at_ (i := k) (by omega)
            have hv := S8.get_ok hco hlt
            have HSet := Lib.hid (set_mix (L := D.l) hcl h8 hlt)
            obtain ⟨v, hve⟩ : ∃ v, D.l.getD k 0 = v := ⟨_, rfl⟩
            rw [hve] at hv HSet
            rw [hve] at hix
            obtain ⟨hv0, hv1⟩ := hv
            have hvi : I64 v := by unfold I64; omega
            obtain ⟨g, rfl, hgS, hgl, hgc, hgf, hr7⟩ := row_seti hr6 (k := k) (by omega) (by omega) hvi
            rw [HSet.out] at hr7
            obtain ⟨v0, hgc2⟩ := Option.isSome_iff_exists.1 hgc
            clear hgc
            have hw3 : IntKind.i64.wrap v = v := by rw [IntWalk.i64_in]; omega
            clear hve HSet
            go_wp2
            go_roundw
            case rel => exact ⟨k + 1, by omega, by go_num, hA.setO (Nat.ne_of_gt hgS.2) _, hr7, hB.setCell hgS.1 _⟩
            case measure => simp [intOf]; omega
          · have hke : k = 8 := by omega
            subst hke
            have hfin : D.l.take 8 ++ st.drop 8 = D.l := by rw [List.take_of_length_le (by omega), List.drop_of_length_le (by omega), List.append_nil]
            rw [hfin] at hr6
            go_wp2
            go_ret
            exact ⟨A5, cap5, ret_slice (by rw [HF.out]; rfl), by rw [HF.out, hcl]; omega, p2, by rw [HF.out]; exact to_rng (hr6.mono (fun b hb => hb.1)), hB⟩
      · (try rw [if_pos (by rfl)])
        clear hS
        go_simp
        refine (spec_l03Keys _).mono ?_
        rintro e2 w2 ⟨rfl, hb2⟩
        replace hA2 := hA2.keep (hb2.block _ hA2.lt)
        have hr6 := Row.later hr5 hb2
        have hB2 := hBd.trans (hb2.mono hzd)
        refine hK.out _ _ trivial (fun hS => ?_)
        clear hK K
        (try simp only [Act.put, List.setIfInBounds_toArray, List.set_cons_zero, List.set_cons_succ])
        refine wpAnyH_ready (rs := [0]) (by kernel_rfl) (by simp) (AllReadyH.cons rfl (fun K hK => ?_) AllReadyH.nil)
        (try rw [if_pos (by rfl)])
        clear hS
        refine operwp_loadArr _ _ rfl rfl hA2 Tryd.underlying38 (by kernel_rfl) ?_
        refine hK.out _ _ trivial (fun hS => ?_)
        clear hK K
        (try simp only [Act.put, List.setIfInBounds_toArray, List.set_cons_zero, List.set_cons_succ])
        refine wpAnyH_ready (rs := [3]) (by kernel_rfl) (by simp) (AllReadyH.cons rfl (fun K hK => ?_) AllReadyH.nil)
        (try rw [if_pos (by rfl)])
        clear hS
        go_simp
        refine (spec_l03Block _ s hok b h64).mono ?_
        rintro e3 w3 ⟨rfl, hb3⟩
        have hA4 := hA2.keep (hb3.block _ hA2.lt)
        have hr7 := Row.later hr6 hb3
        have hB3 := hB2.trans (hb3.mono hB2.size)
        refine hK.out _ _ trivial (fun hS => ?_)
        clear hK K
        (try simp only [Act.put, List.setIfInBounds_toArray, List.set_cons_zero, List.set_cons_succ])
        refine wpAnyH_ready (rs := [4]) (by kernel_rfl) (by simp) (AllReadyH.cons rfl (fun K hK => ?_) AllReadyH.nil)
        (try rw [if_pos (by rfl)])
        clear hS
        refine operwp_storeArr _ _ _ rfl rfl rfl hA4 hd8 (by kernel_rfl) ?_
        intro w4 hA5 hc4
        have hr8 := hr7.chg hc4 (fun b' h1 h2 => by have := h1.2; have h3 : b' = B := h2; omega)
        have hB4 := hB3.trans (hc4.to_below hB3.size (fun b' h2 => by have h3 : b' = B := h2; omega))
        refine hK.out _ _ trivial (fun hS => ?_)
        clear hK K
        (try simp only [Act.put, List.setIfInBounds_toArray, List.set_cons_zero, List.set_cons_succ])
        refine wpAnyH_done (by kernel_rfl) ?_ _
        clear hS
        have hco := comp_ok s b
        have hcl : (comp s b).l.length = 8 := rfl
        obtain ⟨D, hD⟩ : ∃ D, comp s b = D := ⟨_, rfl⟩
        rw [hD] at HF hco hcl hA5
        clear hD hr5 hr6 hr7 hBd hB2 hB3 hb2 hb3 hA2 hA4 hc4
        go_wp2
        go_loopw [8] (fun i wr => ∃ k : Nat, k ≤ 8 ∧ i = .int .i64 k ∧ Arr wr B 38 D.l ∧ Row true wr A5 cap5 (D.l.take k ++ st.drop k) (rng w.heap.size B) ∧ Below w.heap.size w wr) (fun i _ => 8 - (intOf i).toNat)
        case atStart => exact ⟨0, by omega, rfl, hA5, by simpa using hr8, hB4⟩
        case round =>
          clear hr8 hB4 hA5
          obtain ⟨k, hk, rfl, hA, hr6, hB⟩ := hrel
          have hz := hB.size
          by_cases hlt : k < 8
          · have hlm : (D.l.take k ++ st.drop k).length = 8 := by rw [List.length_append, List.length_take, List.length_drop]; omega
            have hix := hA.at_ (i := k) (by omega)
            have hv := S8.get_ok hco hlt
            have HSet := Lib.hid (set_mix (L := D.l) hcl h8 hlt)
            obtain ⟨v, hve⟩ : ∃ v, D.l.getD k 0 = v := ⟨_, rfl⟩
            rw [hve] at hv HSet
            rw [hve] at hix
            obtain ⟨hv0, hv1⟩ := hv
            have hvi : I64 v := by unfold I64; omega
            obtain ⟨g, rfl, hgS, hgl, hgc, hgf, hr7⟩ := row_seti hr6 (k := k) (by omega) (by omega) hvi
            rw [HSet.out] at hr7
            obtain ⟨v0, hgc2⟩ := Option.isSome_iff_exists.1 hgc
            clear hgc
            have hw3 : IntKind.i64.wrap v = v := by rw [IntWalk.i64_in]; omega
            clear hve HSet
            go_wp2
            go_roundw
            case rel => exact ⟨k + 1, by omega, by go_num, hA.setO (Nat.ne_of_gt hgS.2) _, hr7, hB.setCell hgS.1 _⟩
            case measure => simp [intOf]; omega
          · have hke : k = 8 := by omega
            subst hke
            have hfin : D.l.take 8 ++ st.drop 8 = D.l := by rw [List.take_of_length_le (by omega), List.drop_of_length_le (by omega), List.append_nil]
            rw [hfin] at hr6
            go_wp2
            go_ret
            exact ⟨A5, cap5, ret_slice (by rw [HF.out]; rfl), by rw [HF.out, hcl]; omega, p2, by rw [HF.out]; exact to_rng (hr6.mono (fun b hb => hb.1)), hB⟩
end Go.Proofs.YtlbmikcfjgnnaaaDoor
