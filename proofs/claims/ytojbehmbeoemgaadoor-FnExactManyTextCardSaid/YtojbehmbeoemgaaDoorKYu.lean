/- Texts of leaves, joined texts; both sides. -/
import Derived.Test.YtojbehmbeoemgaaDoorKYo
set_option linter.unusedVariables false
set_option linter.unusedSimpArgs false
namespace Go.Proofs.YtojbehmbeoemgaaDoor
open Go.RowKit Lay Mk
theorem cat_step {α : Type} (g : α → ByteArray) {l : List α} {k : Nat} (h : k < l.length) : catAll ((l.take (k + 1)).map g) = catAll ((l.take k).map g) ++ g l[k] := by
  rw [List.take_succ_eq_append_getElem h, List.map_append]; exact catAll_snoc _ _
theorem cat_bound {α : Type} (g : α → ByteArray) (m : Nat) {l : List α} (h : ∀ x ∈ l, (g x).size ≤ m) (k : Nat) : (catAll ((l.take k).map g)).size ≤ l.length * m := by
  have h1 := catAll_le g m (l.take k) (fun x hx => h x (List.mem_of_mem_take hx))
  have h2 : (l.take k).length * m ≤ l.length * m := Nat.mul_le_mul_right _ (by rw [List.length_take]; omega)
  omega
set_option maxRecDepth 20000 in set_option maxHeartbeats 4000000 in
theorem impl_leavesText (w : World) (xs : List Leaf) (A : Option Addr) (cap : Nat) (S : Blks) (hx : Row false w A cap xs S) (hok : leavesOk xs = true) : Calls Tryd.prog 103 #[.slice A xs.length cap] w fun e w' => e = .returned (.string (leavesT xs)) ∧ Below w.heap.size w w' := by
  have hl := leavesOk_len hok
  have HALL := Lib.hid (leavesOk_all hok)
  have HTK := Lib.hid (cat_take_le hok)
  have hv5 := varT_le (n := xs.length) (by omega)
  have HLT : Hid (leavesT xs = varT xs.length ++ catAll (xs.map leafT)) := Lib.hid rfl
  obtain ⟨V5, hV5⟩ : ∃ v, varT xs.length = v := ⟨_, rfl⟩
  rw [hV5] at HLT hv5
  have HVT := Lib.hid (impl_varText xs.length w (by omega))
  rw [hV5] at HVT
  clear hV5 hok
  go_enter Tryd.func103, Tryd.ntmps103
  go_wp2_with (fail)
  refine HVT.out.mono ?_
  rintro e1 w1 ⟨rfl, hb1⟩
  have HB1 := Lib.hid hb1
  have hl1 := hb1.size
  clear hb1
  go_wp2_with (fail)
  go_loopw [3, 11] (fun u i wr => ∃ k : Nat, k ≤ xs.length ∧ i = .int .i64 k ∧ u = .string (V5 ++ catAll ((xs.take k).map leafT)) ∧ Below w1.heap.size w1 wr) (fun _ i _ => xs.length - (intOf i).toNat)
  case atStart => exact ⟨0, Nat.zero_le _, rfl, by rw [show (xs.take 0).map leafT = [] from rfl]; exact congrArg Value.string (cat_nil V5).symm, Below.refl _ _⟩
  case round =>
    obtain ⟨k, hk, rfl, rfl, hb⟩ := hrel
    have HBr := Lib.hid (HB1.out.trans (hb.mono hl1))
    have HB1r := Lib.hid hb
    have hz := hb.size
    clear hb
    by_cases hlt : k < xs.length
    · obtain ⟨b1, o1, rfl, hl1', f0, f1, s0, s1⟩ := Row.atLeaf hx hlt
      replace f0 := (HBr.out.cell (p := ⟨b1, o1 + k * 2, none⟩) hl1').trans f0
      replace f1 := (HBr.out.cell (p := ⟨b1, o1 + k * 2 + 1, none⟩) hl1').trans f1
      have hl2 : b1 < wr.heap.size := Nat.lt_of_lt_of_le hl1' HBr.out.size
      have HST := Lib.hid (cat_step leafT hlt)
      have h12 := HALL.out xs[k] (List.getElem_mem hlt)
      have hck := HTK.out k
      obtain ⟨C, hC⟩ : ∃ c, catAll ((xs.take k).map leafT) = c := ⟨_, rfl⟩
      rw [hC] at HST hck ⊢
      obtain ⟨x, hxx⟩ : ∃ x, xs[k] = x := ⟨_, rfl⟩
      rw [hxx] at f0 f1 s0 s1 HST h12
      have hn12 := name_size h12.1
      have hv12 := value_size h12.2
      have HS1 := Lib.hid (fun W => impl_shText W x.name (by omega))
      have HS2 := Lib.hid (fun W => impl_shText W x.value (by omega))
      have hz1 := shT_size (s := x.name) (by omega)
      have hz2 := shT_size (s := x.value) (by omega)
      have HLF : Hid (leafT x = shT x.name ++ shT x.value) := Lib.hid rfl
      obtain ⟨t1, ht1⟩ : ∃ t, shT x.name = t := ⟨_, rfl⟩
      rw [ht1] at HS1 hz1 HLF
      obtain ⟨t2, ht2⟩ : ∃ t, shT x.value = t := ⟨_, rfl⟩
      rw [ht2] at HS2 hz2 HLF
      clear hxx hC ht1 ht2 h12
      have q1 : ¬ 9223372036854775807 < t1.size + t2.size := by omega
      have q2 : ¬ 9223372036854775807 < (V5 ++ C).size + (t1 ++ t2).size := by rw [ByteArray.size_append, ByteArray.size_append]; omega
      have q3 : ¬ 9223372036854775807 < V5.size + C.size + (t1.size + t2.size) := by omega
      go_wp2_with (fail)
      obtain ⟨V, hV⟩ : ∃ V, wr.alloc (.cells #[.string x.name, .string x.value] 110) = V := ⟨_, rfl⟩
      rw [hV]
      have y0 : V.cell? ⟨wr.heap.size, 0, none⟩ = some (.string x.name) := by rw [← hV]; exact box_cell _ _ _ _ _ rfl
      have y1 : V.cell? ⟨wr.heap.size, 1, none⟩ = some (.string x.value) := by rw [← hV]; exact box_cell _ _ _ _ _ rfl
      have hVB : Below w1.heap.size w1 V := by rw [← hV]; exact HB1r.out.alloc hz _
      have HVB := Lib.hid hVB
      have hVs := hVB.size
      have Gy0 := Grown.cell y0
      have Gy1 := Grown.cell y1
      clear hV hVB y0 y1 f0 f1
      refine wp_region_grown (by kernel_rfl) (by kernel_rfl) ?_
      repeat (go_big_quiet_step (first | (go_at_call 102; with_reducible exact grown_call (HS1.out _)) | (go_at_call 102; with_reducible exact grown_call (HS2.out _))))
      refine wpQuiet_nil ?_
      intro w7 hw_
      have hB7 := grown_below hw_
      clear hw_ Gy0 Gy1
      go_wp2
      go_roundw
      case rel => exact ⟨k + 1, hlt, by go_num, by rw [HST.out, HLF.out]; simp only [cat_assoc], HVB.out.trans (hB7.mono hVs)⟩
      case measure => simp [intOf]; omega
    · have hke : k = xs.length := by omega
      subst hke
      have HE : Hid (leavesT xs = V5 ++ catAll ((xs.take xs.length).map leafT)) := Lib.hid (by rw [List.take_length]; exact HLT.out)
      go_wp2
      go_ret
      exact ⟨ret_str HE.out.symm, HBr.out⟩
set_option maxRecDepth 20000 in set_option maxHeartbeats 8000000 in
theorem spec_l09Text (w : World) (xs : List Leaf) (A : Option Addr) (cap : Nat) (S : Blks) (hx : Row false w A cap xs S) (hok : leavesOk xs = true) : Calls Tryd.prog 100 #[.slice A xs.length cap] w fun e w' => e = .returned (.string (leavesT xs)) ∧ Below w.heap.size w w' := by
  have hl := leavesOk_len hok
  have HALL := Lib.hid (leavesOk_all hok)
  have HTK := Lib.hid (cat_take_le hok)
  have hv5 := varT_le (n := xs.length) (by omega)
  have HLT : Hid (leavesT xs = varT xs.length ++ catAll (xs.map leafT)) := Lib.hid rfl
  obtain ⟨V5, hV5⟩ : ∃ v, varT xs.length = v := ⟨_, rfl⟩
  rw [hV5] at HLT hv5
  have HVT := Lib.hid (spec_l01Var xs.length w (by omega))
  rw [hV5] at HVT
  clear hV5 hok
  go_enter Tryd.func100, Tryd.ntmps100
  go_wp2_with (fail)
  refine HVT.out.mono ?_
  rintro e1 w1 ⟨rfl, hb1⟩
  have HB1 := Lib.hid hb1
  have hl1 := hb1.size
  clear hb1
  go_wp2_with (fail)
  go_loopw [3, 4] (fun u i wr => ∃ k : Nat, k ≤ xs.length ∧ i = .int .i64 k ∧ u = .string (V5 ++ catAll ((xs.take k).map leafT)) ∧ Below w1.heap.size w1 wr) (fun _ i _ => xs.length - (intOf i).toNat)
  case atStart => exact ⟨0, Nat.zero_le _, rfl, by rw [show (xs.take 0).map leafT = [] from rfl]; exact congrArg Value.string (cat_nil V5).symm, Below.refl _ _⟩
  case round =>
    obtain ⟨k, hk, rfl, rfl, hb⟩ := hrel
    have HBr := Lib.hid (HB1.out.trans (hb.mono hl1))
    have HB1r := Lib.hid hb
    have hz := hb.size
    clear hb
    by_cases hlt : k < xs.length
    · obtain ⟨b1, o1, rfl, hl1', f0, f1, s0, s1⟩ := Row.atLeaf hx hlt
      replace f0 := (HBr.out.cell (p := ⟨b1, o1 + k * 2, none⟩) hl1').trans f0
      replace f1 := (HBr.out.cell (p := ⟨b1, o1 + k * 2 + 1, none⟩) hl1').trans f1
      have HST := Lib.hid (cat_step leafT hlt)
      have h12 := HALL.out xs[k] (List.getElem_mem hlt)
      have hck := HTK.out k
      obtain ⟨C, hC⟩ : ∃ c, catAll ((xs.take k).map leafT) = c := ⟨_, rfl⟩
      rw [hC] at HST hck ⊢
      obtain ⟨x, hxx⟩ : ∃ x, xs[k] = x := ⟨_, rfl⟩
      rw [hxx] at f0 f1 s0 s1 HST h12
      have hn12 := name_size h12.1
      have hv12 := value_size h12.2
      have HS1 := Lib.hid (fun W => spec_l01Var x.name.size W (by omega))
      have HS2 := Lib.hid (fun W => spec_l01Var x.value.size W (by omega))
      have hz1 := varT_le (n := x.name.size) (by omega)
      have hz2 := varT_le (n := x.value.size) (by omega)
      have HLF : Hid (leafT x = (varT x.name.size ++ x.name) ++ (varT x.value.size ++ x.value)) := Lib.hid rfl
      obtain ⟨t1, ht1⟩ : ∃ t, varT x.name.size = t := ⟨_, rfl⟩
      rw [ht1] at HS1 hz1 HLF
      obtain ⟨t2, ht2⟩ : ∃ t, varT x.value.size = t := ⟨_, rfl⟩
      rw [ht2] at HS2 hz2 HLF
      clear hxx hC ht1 ht2 h12
      obtain ⟨C2, hC2⟩ : ∃ c, V5 ++ C = c := ⟨_, rfl⟩
      have hc2 : C2.size ≤ 900 := by rw [← hC2, ByteArray.size_append]; omega
      rw [hC2]
      have HC2 := Lib.hid hC2
      clear hC2
      have q1 : ¬ 9223372036854775807 < C2.size + t1.size := by omega
      have q2 : ¬ 9223372036854775807 < (C2 ++ t1).size + x.name.size := by rw [ByteArray.size_append]; omega
      have q2b : ¬ 9223372036854775807 < C2.size + t1.size + x.name.size := by omega
      have q3 : ¬ 9223372036854775807 < (C2 ++ t1 ++ x.name).size + t2.size := by rw [ByteArray.size_append, ByteArray.size_append]; omega
      have q3b : ¬ 9223372036854775807 < C2.size + t1.size + x.name.size + t2.size := by omega
      have q4 : ¬ 9223372036854775807 < (C2 ++ t1 ++ x.name ++ t2).size + x.value.size := by rw [ByteArray.size_append, ByteArray.size_append, ByteArray.size_append]; omega
      have q4b : ¬ 9223372036854775807 < C2.size + t1.size + x.name.size + t2.size + x.value.size := by omega
      have hki : (k : Int) < (xs.length : Int) := by omega
      have hk0 : (0 : Int) ≤ (k : Int) := by omega
      go_wp2_with (fail)
      have Gy0 := Grown.cell f0
      have Gy1 := Grown.cell f1
      clear f0 f1
      refine wp_region_grown (by kernel_rfl) (by kernel_rfl) ?_
      repeat (go_big_quiet_step (first | (go_at_call 99; with_reducible exact grown_call (HS1.out _)) | (go_at_call 99; with_reducible exact grown_call (HS2.out _))))
      refine wpQuiet_nil ?_
      intro w7 hw_
      have hB7 := grown_below hw_
      clear hw_ Gy0 Gy1
      go_wp2
      go_roundw
      case rel => exact ⟨k + 1, hlt, by go_num, by rw [HST.out, HLF.out, ← HC2.out]; simp only [cat_assoc], HB1r.out.trans (hB7.mono hz)⟩
      case measure => simp [intOf]; omega
    · have hke : k = xs.length := by omega
      subst hke
      have HE : Hid (leavesT xs = V5 ++ catAll ((xs.take xs.length).map leafT)) := Lib.hid (by rw [List.take_length]; exact HLT.out)
      go_wp2
      go_ret
      exact ⟨ret_str HE.out.symm, HBr.out⟩
set_option maxRecDepth 20000 in set_option maxHeartbeats 4000000 in
theorem impl_joined (w : World) (xs : List ByteArray) (A : Option Addr) (cap : Nat) (S : Blks) (hx : Row false w A cap xs S) (hl : xs.length ≤ 1048576) (hw : ∀ x ∈ xs, x.size ≤ 32) : Calls Tryd.prog 104 #[.slice A xs.length cap] w fun e w' => e = .returned (.string (catAll (xs.map id))) ∧ w = w' := by
  have HCB := Lib.hid (fun k => cat_bound (id : ByteArray → ByteArray) 32 hw k)
  have HSZ := Lib.hid hw
  clear hw
  go_enter Tryd.func104, Tryd.ntmps104
  go_wp2
  go_loopw [3, 8] (fun u i wr => ∃ k : Nat, k ≤ xs.length ∧ i = .int .i64 k ∧ u = .string (catAll ((xs.take k).map id)) ∧ w = wr) (fun _ i _ => xs.length - (intOf i).toNat)
  case atStart => exact ⟨0, Nat.zero_le _, rfl, rfl, rfl⟩
  case round =>
    obtain ⟨k, hk, rfl, rfl, rfl⟩ := hrel
    by_cases hlt : k < xs.length
    · obtain ⟨b1, o1, rfl, hl1', f0, s0⟩ := Row.str hx hlt
      have HST := Lib.hid (cat_step (id : ByteArray → ByteArray) hlt)
      have hx32 := HSZ.out xs[k] (List.getElem_mem hlt)
      have hck := HCB.out k
      obtain ⟨C, hC⟩ : ∃ c, catAll ((xs.take k).map id) = c := ⟨_, rfl⟩
      rw [hC] at HST hck ⊢
      obtain ⟨x, hxx⟩ : ∃ x, xs[k] = x := ⟨_, rfl⟩
      rw [hxx] at f0 s0 HST hx32
      clear hxx hC
      have q1 : ¬ 9223372036854775807 < C.size + x.size := by omega
      go_wp2
      go_roundw
      case rel => exact ⟨k + 1, hlt, by go_num, by rw [HST.out]; rfl, by first | rfl | trivial⟩
      case measure => simp [intOf]; omega
    · have hke : k = xs.length := by omega
      subst hke
      simp only [List.take_length]
      go_wp2
      go_ret
      exact ⟨rfl, rfl⟩
end Go.Proofs.YtojbehmbeoemgaaDoor
