/- Walk: one block of the digest on numbers. -/
import Derived.Test.YtlbmikcfjgnnaaaDoorSv
import Derived.Test.YtlbmikcfjgnnaaaDoorDc
set_option linter.unusedVariables false
set_option linter.unusedSimpArgs false
namespace Go.Proofs.YtlbmikcfjgnnaaaDoor
open Go.RowKit Lay Mk
set_option maxRecDepth 20000 in set_option maxHeartbeats 8000000 in
theorem impl_ShaBlock (w : World) (st : List Int) (A : Option Addr) (cap : Nat) (S : Blks) (hx : Row false w A cap st S) (hl : st.length ≤ 1048576) (b : ByteArray) (hT : Tabs w) : Calls Tryd.prog 8 #[.slice A st.length cap, .string b] w fun e w' => ∃ A' cap', e = .returned (.slice A' (shaBl st b).length cap') ∧ (shaBl st b).length ≤ cap' ∧ cap' ≤ maxLen ∧ Row true w' A' cap' (shaBl st b) (rng w.heap.size w'.heap.size) ∧ Below w.heap.size w w' := by
  by_cases h8 : st.length = 8
  rotate_left
  · have HF := Lib.hid (shaBl_len (b := b) h8)
    have hn : ((st.length : Int) != 8) = true := by rw [bne_iff_ne]; omega
    go_enter Tryd.func8, Tryd.ntmps8
    · go_wp2_with (at_builtin; refine wpList_app (α := Int) (xs := []) rfl _ _ rfl rfl rfl (row_nil _ none_) (by simp) (by decide) rfl rfl (Src.flat hx) (disj_none_ _) (by simp; omega) ?_; intro A5 cap5 w1 p1 p2 p3 p4)
      rw [List.nil_append] at p3
      have hB1 := p4.nw (Nat.le_refl _) (none_sub _)
      go_ret
      exact ⟨A5, cap5, ret_slice (by first | (rw [shaBl_length]; done) | (rw [shaBl_length]; omega) | (rw [shaBl_length]; simp)), by rw [shaBl_length]; omega, p2, by rw [HF.out]; exact p3.mono (fun b hb => by rcases hb with x | x | x; exact x.elim; exact x.elim; exact x), hB1⟩
  by_cases h64 : b.size = 64
  rotate_left
  · have HF := Lib.hid (shaBl_size (st := st) h64)
    have hn : ((st.length : Int) != 8) = false := by rw [bne_eq_false_iff_eq]; omega
    have hn2 : ((b.size : Int) != 64) = true := by rw [bne_iff_ne]; omega
    go_enter Tryd.func8, Tryd.ntmps8
    · go_wp2_with (at_builtin; refine wpList_app (α := Int) (xs := []) rfl _ _ rfl rfl rfl (row_nil _ none_) (by simp) (by decide) rfl rfl (Src.flat hx) (disj_none_ _) (by simp; omega) ?_; intro A5 cap5 w1 p1 p2 p3 p4)
      rw [List.nil_append] at p3
      have hB1 := p4.nw (Nat.le_refl _) (none_sub _)
      go_ret
      exact ⟨A5, cap5, ret_slice (by first | (rw [shaBl_length]; done) | (rw [shaBl_length]; omega) | (rw [shaBl_length]; simp)), by rw [shaBl_length]; omega, p2, by rw [HF.out]; exact p3.mono (fun b hb => by rcases hb with x | x | x; exact x.elim; exact x.elim; exact x), hB1⟩
  have hn : ((st.length : Int) != 8) = false := by rw [bne_eq_false_iff_eq]; omega
  have hn2 : ((b.size : Int) != 64) = false := by rw [bne_eq_false_iff_eq]; omega
  have HBad := Lib.hid (fun k (hk : k < st.length) h => shaBl_words (b := b) (words_bad hk h))
  have HGo := Lib.hid (fun h => shaBl_go (b := b) h8 h64 h)
  have HEnd := Lib.hid (fun h => words_end (st := st) h)
  have HOk := Lib.hid (fun h => s8of_ok h8 h)
  have H8 := Lib.hid h8
  have H64 := Lib.hid h64
  go_enter Tryd.func8, Tryd.ntmps8
  go_wp2_with (at_builtin; refine wpList_app (α := Int) (xs := []) rfl _ _ rfl rfl rfl (row_nil _ none_) (by simp) (by decide) rfl rfl (Src.flat hx) (disj_none_ _) (by simp; omega) ?_; intro A5 cap5 w1 p1 p2 p3 p4)
  rw [List.nil_append] at p3
  have hB1 := p4.nw (Nat.le_refl _) (none_sub _)
  have r5 : Row true w1 A5 cap5 st (rng w.heap.size w1.heap.size) := p3.mono (fun b hb => by rcases hb with x | x | x; exact x.elim; exact x.elim; exact x)
  obtain ⟨B, hBe⟩ : ∃ B, w1.heap.size = B := ⟨_, rfl⟩
  have hwB : w.heap.size ≤ B := by rw [← hBe]; exact hB1.size
  rw [hBe] at r5 ⊢
  go_loopw [24] (fun i wr => ∃ k : Nat, k ≤ 8 ∧ i = .int .i64 k ∧ Hid (∀ j (h : j < st.length), j < k → inB st[j] 0 4294967295 = true) ∧ Arr wr B 38 (padz (st.take k) 8) ∧ Row true wr A5 cap5 st (rng w.heap.size B) ∧ Below w.heap.size w wr) (fun i _ => 8 - (intOf i).toNat)
  case atStart => exact ⟨0, by omega, rfl, Lib.hid (fun j _ h => absurd h (by omega)), arr_new hBe.symm rfl, Row.allocC r5 _, hB1.alloc hB1.size _⟩
  case round =>
    clear r5 p3 p4 hB1
    obtain ⟨k, hk, rfl, hall, hA, hr5, hB⟩ := hrel
    have hz := hB.size
    have hBl := hA.lt
    by_cases hlt : k < 8
    · have hkl : k < st.length := by rw [H8.out]; exact hlt
      obtain ⟨b1, o1, rfl, hl1, f0, i0⟩ := Row.int hx hkl
      replace f0 := (hB.cell (p := ⟨b1, o1 + k, none⟩) hl1).trans f0
      have HBk := Lib.hid (HBad.out k hkl)
      have HN : Hid (inB st[k] 0 4294967295 = true → ∀ j (h : j < st.length), j < k + 1 → inB st[j] 0 4294967295 = true) := Lib.hid (fun h0 j h hj => by rcases Nat.lt_succ_iff_lt_or_eq.1 hj with h1 | h1; exact hall.out j h h1; subst h1; exact h0)
      have htl : (st.take k).length = k := by rw [List.length_take]; omega
      have HSet : Hid ((padz (st.take k) 8).set k st[k] = padz (st.take (k + 1)) 8) := Lib.hid (by
        rw [List.take_succ_eq_append_getElem hkl, ← padz_set (by omega), htl])
      obtain ⟨v0, hc⟩ : ∃ v, wr.cell? ⟨B, k, none⟩ = some v := ⟨_, hA.cell (i := k) (by rw [padz_len (by omega)]; omega)⟩
      have hf := hA.frozen k
      obtain ⟨x, hxx⟩ : ∃ x, st[k] = x := ⟨_, rfl⟩
      rw [hxx] at f0 i0 HBk HN HSet
      clear hxx htl
      cases hin : inB x 0 4294967295
      · have HF := Lib.hid (HBk.out hin)
        go_wp2_with (go_at_call 17; refine (impl_in _ _ _ _).mono ?_; rintro e w9 ⟨rfl, rfl⟩)
        go_ret
        exact ⟨A5, cap5, ret_slice (by rw [HF.out, H8.out]), by rw [HF.out, H8.out]; omega, p2, by rw [HF.out]; exact to_rng (hr5.mono (fun b hb => hb.1)), hB⟩
      · have HNx := Lib.hid (HN.out hin)
        have hx1 : 0 ≤ x ∧ x ≤ 4294967295 := by simpa [inB] using hin
        obtain ⟨hx0, hx2⟩ := hx1
        have hw : IntKind.u32.wrap x = x := by rw [IntKind.wrap_u32']; omega
        have hw2 : x % 4294967296 = x := by omega
        go_wp2_with (go_at_call 17; refine (impl_in _ _ _ _).mono ?_; rintro e w9 ⟨rfl, rfl⟩)
        go_roundw
        case rel => exact ⟨k + 1, by omega, by go_num, HNx, by rw [← HSet.out]; exact hA.set k x, hr5.setC (fun h => by have := h.2; simp at this) _, hB.setCell hwB _⟩
        case measure => simp [intOf]; omega
    · have hke : k = 8 := by omega
      subst hke
      have hwok : wordsOk st = true := HEnd.out (fun j h => hall.out j h (by rw [H8.out] at h; exact h))
      have hF := HGo.out hwok
      have hok := HOk.out hwok
      rw [padz_full h8] at hA
      have hA2 : Arr wr B 38 (s8of st).l := by rw [s8of_l h8]; exact hA
      clear hA
      obtain ⟨s, hs⟩ : ∃ s, s8of st = s := ⟨_, rfl⟩
      rw [hs] at hF hok hA2
      have HF := Lib.hid hF
      clear hs hF hwok HBad HGo HEnd HOk hall
      go_wp2_with (refine wpList_loadArr rfl _ _ rfl rfl hA2 Tryd.underlying38 (by kernel_rfl) ?_)
      refine (impl_compress _ s hok b h64 (hT.later hB)).mono ?_
      rintro e2 w2 ⟨rfl, hb2⟩
      have hr6 := Row.later hr5 hb2
      have hB2 := hB.trans (hb2.mono hz)
      have hco := comp_ok s b
      have hcl : (comp s b).l.length = 8 := rfl
      obtain ⟨D, hD⟩ : ∃ D, comp s b = D := ⟨_, rfl⟩
      rw [hD] at HF hco hcl ⊢
      clear hD hr5 hB hb2 hA2
      go_wp2
      go_loopw [41] (fun i wr => ∃ k : Nat, k ≤ 8 ∧ i = .int .i64 k ∧ Row true wr A5 cap5 (D.l.take k ++ st.drop k) (rng w.heap.size B) ∧ Below w.heap.size w wr) (fun i _ => 8 - (intOf i).toNat)
      case atStart => exact ⟨0, by omega, rfl, by simpa using hr6, hB2⟩
      case round =>
        clear hr6 hB2
        obtain ⟨k, hk, rfl, hr6, hB⟩ := hrel
        have hz := hB.size
        by_cases hlt : k < 8
        · have hlm : (D.l.take k ++ st.drop k).length = 8 := by rw [List.length_append, List.length_take, List.length_drop]; omega
          have hix := fun W : World => index_arr8 W (l := D.l) hlt rfl
          have hv := S8.get_ok hco hlt
          have HSet := Lib.hid (set_mix (L := D.l) hcl h8 hlt)
          obtain ⟨v, hve⟩ : ∃ v, D.l.getD k 0 = v := ⟨_, rfl⟩
          rw [hve] at hv HSet
          simp only [hve] at hix
          obtain ⟨hv0, hv1⟩ := hv
          have hvi : I64 v := by unfold I64; omega
          obtain ⟨g, rfl, hgS, hgl, hgc, hgf, hr7⟩ := row_seti hr6 (k := k) (by omega) (by omega) hvi
          rw [HSet.out] at hr7
          obtain ⟨v0, hgc2⟩ := Option.isSome_iff_exists.1 hgc
          clear hgc
          have hw3 : IntKind.i64.wrap v = v := by rw [IntWalk.i64_in]; omega
          clear hve HSet
          go_wp2
          go_roundw
          case rel => exact ⟨k + 1, by omega, by go_num, hr7, hB.setCell hgS.1 _⟩
          case measure => simp [intOf]; omega
        · have hke : k = 8 := by omega
          subst hke
          have hfin : D.l.take 8 ++ st.drop 8 = D.l := by rw [List.take_of_length_le (by omega), List.drop_of_length_le (by omega), List.append_nil]
          rw [hfin] at hr6
          go_wp2
          go_ret
          exact ⟨A5, cap5, ret_slice (by rw [HF.out]; rfl), by rw [HF.out, hcl]; omega, p2, by rw [HF.out]; exact to_rng (hr6.mono (fun b hb => hb.1)), hB⟩
end Go.Proofs.YtlbmikcfjgnnaaaDoor
