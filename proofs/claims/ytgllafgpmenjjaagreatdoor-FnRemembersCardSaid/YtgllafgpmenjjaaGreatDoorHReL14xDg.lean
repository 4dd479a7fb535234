/- A part of the proof: what the laws need of it. -/
import Derived.Test.YtgllafgpmenjjaaGreatDoorHReL13xDc
import Derived.Test.YtgllafgpmenjjaaGreatDoorHReL10xDt
import Derived.Test.YtgllafgpmenjjaaGreatDoorHReL9xBy
set_option linter.unusedVariables false
set_option linter.unusedSimpArgs false
set_option linter.unusedVariables false
set_option linter.unusedSimpArgs false
namespace Go.Proofs.YtgllafgpmenjjaaGreatDoor
open Go.RowKit Lay Mk
section
variable {P : Program} {ops : Array Oper} {rest : List Oper} {o : Oper} {a : Act} {Q : Exit → Act → World → Prop} {w : World}
theorem wpList_storeArr (hgd : o.guard = none) (t : TypeId) (p x : Operand) (ho : o.op = .store t p x) {g et : Nat} {l l' : List Int} (hp : a.eval p = .pointer (some ⟨g, 0, none⟩)) (hx : a.eval x = .agg (arr l'))
    (hA : Arr w g et l) (hl : l.length = l'.length) (hi : (P.info? t).map (·.size) = some l'.length)
    (h : ∀ w', Arr w' g et l' → Chg (fun b => b = g) w w' → wpList P ops Q rest (a.put o.dst (.tuple #[])) w') : wpList P ops Q (o :: rest) a w := by
  refine wpList_plain hgd fun K hK => ?_
  have hr := run_storeVar_row (P := P) w g et t (arr l) (arr l') hA (by rw [arr_size]; exact hi) (by rw [arr_size, arr_size]; exact hl) (by rw [Array.all_eq_true']; intro u hu; exact arr_one l' u (by simpa using hu))
  unfold Oper.wp execOp
  simp only [ho, hp, hx, Instr.storeAt, Instr.sureAddr, Sem.run_bind, Sem.run_pure, Result.andThen_ok, hr]
  refine hK _ _ (h _ (setRow_heap w g _ _ et _ hA) ⟨rfl, rfl, rfl, by simp, fun k _ hk => setRow_other w g k _ hk⟩)
theorem wpList_loadArr (hgd : o.guard = none) (t : TypeId) (x : Operand) (ho : o.op = .load t x) {g et e : Nat} {l : List Int} {n : Nat} (hx : a.eval x = .pointer (some ⟨g, 0, none⟩)) (hA : Arr w g et l)
    (hu : P.underlying t = some (.array n e)) (hi : (P.info? t).map (·.size) = some l.length)
    (h : wpList P ops Q rest (a.put o.dst (.agg (arr l))) w) : wpList P ops Q (o :: rest) a w :=
  wpList_load_row hgd t x ho g hx et (arr l) (0, 0) _ hA hu rfl (by rw [arr_size]; exact hi) h
theorem wpList_newArr (hgd : o.guard = none) (t : TypeId) (p x : Operand) (ho : o.op = .store t p x) {l' : List Int} {z : Array Value} {g : Nat} (hg : g = w.heap.size) (hp : a.eval p = .pointer (some ⟨g, 0, none⟩)) (hx : a.eval x = .agg (arr l'))
    (hz : z.size = l'.length) (hi : (P.info? t).map (·.size) = some l'.length)
    (h : wpList P ops Q rest (a.put o.dst (.tuple #[])) (w.alloc (.cells (arr l') t))) : wpList P ops Q (o :: rest) a (w.alloc (.cells z t)) :=
  wpList_storeNew hgd t p x ho hp hx hg (by rw [arr_size]; exact hi) (by rw [arr_size]; exact hz) (arr_one l') h
theorem results_arr {fn : Func} {p : Tmp} {ty : TypeId} (h : fn.results = #[.cell p ty]) (tmps : Array Value) (w : World) (g t : Nat) (l : List Int) {n e : Nat}
    (hp : tmps.getD p undef = .pointer (some ⟨g, 0, none⟩)) (hA : Arr w g t l) (hu : P.underlying ty = some (.array n e)) (hi : (P.info? ty).map (·.size) = some l.length) :
    (results fn tmps).run P w = .ok (.agg (arr l)) w := results_cell_row h tmps w g t (arr l) (0, 0) _ hp hA hu rfl (by rw [arr_size]; exact hi)
end
theorem run_index_arr {P : Program} (w : World) {t e n : Nat} {l : List Int} {k : Nat} {i : TypeInfo} (hu : P.underlying t = some (.array n e)) (he : P.underlying e = some (.int .u32)) (hi : P.info? e = some i) (hs : i.size = 1) (hk : k < n) (hl : k < l.length) :
    (Instr.index t (.agg (arr l)) (.int .i64 (k : Int))).run P w = .ok (.int .u32 (l.getD k 0)) w := by
  have h1 : 0 ≤ (k : Int) ∧ (k : Int) < (n : Int) := by omega
  have h2 : (arr l)[k]? = some (.int .u32 (l.getD k 0)) := by
    rw [← getD_get hl]; simp [arr, u32v, hl]
  simp [Instr.index, asIntOf, run_underlying hu, sizeOf, typeInfo, hi, hs, hk, part, isAgg, run_underlying he, h2]
def strLen : Value → Nat
  | .string s => s.size
  | _ => 0
def shaRun : Nat → S8 → ByteArray → S8
  | 0, s, _ => s
  | n + 1, s, r => shaRun n (comp s (r.extract 0 64)) (r.extract 64 r.size)
def digS (t : ByteArray) : S8 := shaRun ((pad t).size / 64) shaFirst (pad t)
def b4 (x : Int) : List UInt8 := [UInt8.ofNat (x.toNat / 16777216), UInt8.ofNat (x.toNat / 65536), UInt8.ofNat (x.toNat / 256), UInt8.ofNat x.toNat]
def dig32 (s : S8) : List UInt8 := b4 s.a ++ b4 s.b ++ b4 s.c ++ b4 s.d ++ b4 s.e ++ b4 s.f ++ b4 s.g ++ b4 s.h
def digest (t : ByteArray) : ByteArray := bs (dig32 (digS t))
theorem digest_size (t : ByteArray) : (digest t).size = 32 := by unfold digest; rw [bs_size]; rfl
theorem shaRun_ok {s : S8} (h : s.Ok) : ∀ n r, (shaRun n s r).Ok := by
  intro n
  induction n generalizing s with
  | zero => exact fun _ => h
  | succ n ih => exact fun r => ih (comp_ok _ _) _
theorem digS_ok (t : ByteArray) : (digS t).Ok := shaRun_ok first_ok _ _
theorem fourB_b4 (n : Nat) : fourB n = bs (b4 (n : Int)) := rfl
set_option maxRecDepth 100000 in
theorem dig_step (s : S8) {k : Nat} (h : k < 8) : bs ((dig32 s).take (4 * k)) ++ bs (b4 (s.l.getD k 0)) = bs ((dig32 s).take (4 * (k + 1))) := by
  rw [bs_app]
  rcases (show k = 0 ∨ k = 1 ∨ k = 2 ∨ k = 3 ∨ k = 4 ∨ k = 5 ∨ k = 6 ∨ k = 7 by omega) with rfl | rfl | rfl | rfl | rfl | rfl | rfl | rfl <;> rfl
theorem S8.get_ok {s : S8} (h : s.Ok) {k : Nat} (hk : k < 8) : W32 (s.l.getD k 0) := by
  rcases (show k = 0 ∨ k = 1 ∨ k = 2 ∨ k = 3 ∨ k = 4 ∨ k = 5 ∨ k = 6 ∨ k = 7 by omega) with rfl | rfl | rfl | rfl | rfl | rfl | rfl | rfl
  · exact h.a
  · exact h.b
  · exact h.c
  · exact h.d
  · exact h.e
  · exact h.f
  · exact h.g
  · exact h.h
theorem ext_head (p : ByteArray) (k : Nat) (h : 64 * k + 64 ≤ p.size) : (p.extract (64 * k) p.size).extract 0 64 = p.extract (64 * k) (64 * k + 64) := by
  rw [ByteArray.extract_extract]; congr 1; omega
theorem ext_tail (p : ByteArray) (k : Nat) (h : 64 * k + 64 ≤ p.size) : (p.extract (64 * k) p.size).extract 64 (p.extract (64 * k) p.size).size = p.extract (64 * (k + 1)) p.size := by
  rw [ByteArray.extract_extract, ByteArray.size_extract]; congr 1; omega
theorem info32 : (Tryz.prog.info? 217).map (fun i => (i.zero, i.size, i.bytes)) = some (some (.int .u32 0), 1, 4) := by kernel_rfl
theorem index_arr8 (W : World) {l : List Int} {k : Nat} (hk : k < 8) (hl : l.length = 8) : (Instr.index 218 (.agg (arr l)) (.int .i64 (k : Int))).run Tryz.prog W = .ok (.int .u32 (l.getD k 0)) W := by
  obtain ⟨i, hi, h0, h1, h2⟩ := info_parts info32
  exact run_index_arr W Tryz.underlying218 Tryz.underlying217 hi h1 hk (by omega)
theorem first_arr : arr shaFirst.l = #[.int .u32 1779033703, .int .u32 3144134277, .int .u32 1013904242, .int .u32 2773480762, .int .u32 1359893119, .int .u32 2600822924, .int .u32 528734635, .int .u32 1541459225] := rfl

set_option maxRecDepth 100000 in set_option maxHeartbeats 1000000 in
theorem spec_l03First (w : World) : Calls Tryz.prog 174 #[] w fun e w' => e = .returned (.agg (arr shaFirst.l)) ∧ Below w.heap.size w w' := by
  go_enter Tryz.func174, Tryz.ntmps174
  go_wp2_with (refine wpList_newArr (l' := shaFirst.l) rfl 218 _ _ rfl rfl rfl rfl rfl (by kernel_rfl) ?_)
  refine bodyPost_ret (v := .agg (arr shaFirst.l)) ?_ rfl ⟨rfl, (Below.refl _ _).alloc (Nat.le_refl _) _⟩
  exact results_arr rfl _ _ w.heap.size 218 _ rfl (Arr.new w _ _) Tryz.underlying218 (by kernel_rfl)

set_option maxRecDepth 100000 in set_option maxHeartbeats 1000000 in
theorem spec_l03Keys (w : World) : Calls Tryz.prog 175 #[] w fun e w' => e = .returned (.agg (arr shaKeys)) ∧ Below w.heap.size w w' := by
  go_enter Tryz.func175, Tryz.ntmps175
  go_wp2_with (refine wpList_newArr (l' := shaKeys) rfl 220 _ _ rfl rfl rfl rfl rfl (by kernel_rfl) ?_)
  refine bodyPost_ret (v := .agg (arr shaKeys)) ?_ rfl ⟨rfl, (Below.refl _ _).alloc (Nat.le_refl _) _⟩
  exact results_arr rfl _ _ w.heap.size 220 _ rfl (Arr.new w _ _) Tryz.underlying220 (by kernel_rfl)

set_option maxRecDepth 20000 in set_option maxHeartbeats 4000000 in
theorem impl_Digest (w : World) (t : ByteArray) (ht : t.size ≤ 100000000) (hT : Tabs w) : Calls Tryz.prog 148 #[.string t] w fun e w' => e = .returned (.string (digest t)) ∧ Below w.heap.size w w' := by
  have g0 := hT.2 0 (by omega)
  have g1 := hT.2 1 (by omega)
  have g2 := hT.2 2 (by omega)
  have g3 := hT.2 3 (by omega)
  have g4 := hT.2 4 (by omega)
  have g5 := hT.2 5 (by omega)
  have g6 := hT.2 6 (by omega)
  have g7 := hT.2 7 (by omega)
  simp only [S8.l, shaFirst, List.getD_cons_zero, List.getD_cons_succ] at g0 g1 g2 g3 g4 g5 g6 g7
  go_enter Tryz.func148, Tryz.ntmps148
  have hp := pad_size t
  have hm := pad_mod t
  have HD : Hid (digest t = bs (dig32 (digS t))) := Lib.hid rfl
  have HS : Hid (digS t = shaRun ((pad t).size / 64) shaFirst (pad t)) := Lib.hid rfl
  have hok := digS_ok t
  obtain ⟨D, hD⟩ : ∃ D, digS t = D := ⟨_, rfl⟩
  rw [hD] at HD HS hok
  clear hD
  go_wp2_with (fail)
  refine (impl_PadText _ t ht).mono ?_
  rintro e1 w1 ⟨rfl, hb1⟩
  have A3 : Arr w1 w.heap.size 218 shaFirst.l := (arr_new (w := w) rfl rfl).keep (hb1.block _ (by simp))
  have hB : Below w.heap.size w w1 := Below.via hb1
  have hl1 : w.heap.size < w1.heap.size := by have := hb1.size; simp at this; omega
  clear hb1 g0 g1 g2 g3 g4 g5 g6 g7
  obtain ⟨P, hP⟩ : ∃ P, pad t = P := ⟨_, rfl⟩
  rw [hP] at hp hm HS ⊢
  clear hP
  have hPz : P.size = 64 * (P.size / 64) := by omega
  have hPs : P.size ≤ 100000073 := by have := hp; unfold padZ at this; omega
  clear hp hm
  have HPZ := Lib.hid hPz; clear hPz
  go_wp2
  go_loopw [4] (fun u wr => ∃ (n : Nat) (s : S8) (r : ByteArray), u = .string r ∧ s.Ok ∧ Hid (r.size = 64 * n) ∧ r.size ≤ 100000073 ∧ Hid (D = shaRun n s r) ∧ Arr wr w.heap.size 218 s.l ∧ Below w.heap.size w wr) (fun u _ => strLen u)
  case atStart => exact ⟨P.size / 64, shaFirst, P, rfl, first_ok, HPZ, hPs, HS, A3, hB⟩
  case round =>
    clear A3 hB HPZ HS hl1 hPs
    obtain ⟨n, s, r, rfl, hs, hr, hrs, hrun, A3, hB⟩ := hrel
    have hz := hB.size
    have hl := A3.lt
    cases n with
    | zero =>
      have h0 : r.toList.isEmpty = true := by
        have := hr.out
        rw [ByteArray.toList_eq]
        have h2 : r.data.toList.length = 0 := by show r.size = 0; omega
        rw [List.eq_nil_of_length_eq_zero h2]; rfl
      have h1 : (r.toList == []) = true := by simpa using h0
      have HE : Hid (D = s) := Lib.hid hrun.out
      clear hrun hr
      go_wp2_with (refine wpList_loadArr rfl 218 _ rfl rfl A3 Tryz.underlying218 (by kernel_rfl) ?_)
      have hbs0 : (⟨#[]⟩ : ByteArray) = bs ((dig32 s).take (4 * 0)) := rfl
      go_loopw [5, 20] (fun u i wr => ∃ (k : Nat), k ≤ 8 ∧ i = .int .i64 k ∧ u = .string (bs ((dig32 s).take (4 * k))) ∧ Below w.heap.size w wr) (fun _ i _ => 8 - (intOf i).toNat)
      case atStart => exact ⟨0, by omega, rfl, rfl, hB⟩
      case round =>
        clear hB A3 hz hl hbs0
        obtain ⟨k, hk, rfl, rfl, hB⟩ := hrel
        have hz := hB.size
        by_cases hlt : k < 8
        · have hw := S8.get_ok hs hlt
          have hst := Lib.hid (dig_step s hlt)
          have hix := fun W => index_arr8 W (l := s.l) hlt rfl
          obtain ⟨x, hx⟩ : ∃ x, s.l.getD k 0 = x := ⟨_, rfl⟩
          rw [hx] at hw hst hix
          clear hx
          obtain ⟨hw0, hw1⟩ := hw
          obtain ⟨x, rfl⟩ : ∃ n : Nat, x = n := ⟨x.toNat, by omega⟩
          rw [← fourB_b4] at hst
          have hc : (bs ((dig32 s).take (4 * k))).size ≤ 32 := by rw [bs_size, List.length_take]; have : (dig32 s).length = 32 := rfl; omega
          have h4 := fourB_size x
          have hcat : ¬ 9223372036854775807 < (bs ((dig32 s).take (4 * k))).size + (fourB x).size := by omega
          clear h4 hc
          obtain ⟨q, hq⟩ : ∃ q, bs ((dig32 s).take (4 * k)) = q := ⟨_, rfl⟩
          rw [hq] at hst hcat ⊢
          clear hq
          have hx4 : x < 4294967296 := by omega
          clear hw0 hw1
          go_wp2_with (go_at_call 188; refine (impl_fourBytes _ x hx4).mono ?_; rintro e2 w2 ⟨rfl, hb2⟩)
          go_roundw
          case rel => exact ⟨k + 1, by omega, by go_num, by rw [hst.out], Below.step hB hb2⟩
          case measure => simp [intOf]; omega
        · have hke : k = 8 := by omega
          subst hke
          go_wp2
          go_ret
          exact ⟨by rw [HD.out, HE.out]; rfl, hB⟩
    | succ n =>
      have hr64 : 64 ≤ r.size := by have := hr.out; omega
      have h0 : r.toList.isEmpty = false := by
        rw [ByteArray.toList_eq]
        have h2 : r.data.toList.length = r.size := rfl
        cases hq : r.data.toList with
        | nil => rw [hq] at h2; simp at h2; omega
        | cons _ _ => rfl
      have h1 : (r.toList == []) = false := by
        cases hq : r.toList with
        | nil => rw [hq] at h0; cases h0
        | cons _ _ => rfl
      have hm : Hid (D = shaRun n (comp s (r.extract 0 64)) (r.extract 64 r.size)) := Lib.hid hrun.out
      have hx1 : (r.extract 0 64).size = 64 := by rw [ByteArray.size_extract]; omega
      have hx2 : Hid ((r.extract 64 r.size).size = 64 * n) := Lib.hid (by have := hr.out; rw [ByteArray.size_extract]; omega)
      have hx3 : (r.extract 64 r.size).size ≤ 100000073 := by rw [ByteArray.size_extract]; omega
      have HX1 := Lib.hid hx1; clear hx1
      have r64 : (64 : Int) ≤ (r.size : Int) := by omega
      have hok' := comp_ok s (r.extract 0 64)
      have HTw := hT.later hB
      clear hrun hr
      obtain ⟨sa, sb, sc, sd, se, sf, sg, sh⟩ := s
      have v0 := A3.cell (i := 0) (by simp [S8.l])
      have v1 := A3.cell (i := 1) (by simp [S8.l])
      have v2 := A3.cell (i := 2) (by simp [S8.l])
      have v3 := A3.cell (i := 3) (by simp [S8.l])
      have v4 := A3.cell (i := 4) (by simp [S8.l])
      have v5 := A3.cell (i := 5) (by simp [S8.l])
      have v6 := A3.cell (i := 6) (by simp [S8.l])
      have v7 := A3.cell (i := 7) (by simp [S8.l])
      simp only [S8.l, List.getElem_cons_zero, List.getElem_cons_succ] at v0 v1 v2 v3 v4 v5 v6 v7
      obtain ⟨st, hst⟩ : ∃ st, (⟨sa, sb, sc, sd, se, sf, sg, sh⟩ : S8) = st := ⟨_, rfl⟩
      have HST := Lib.hid hst
      rw [hst] at hs A3 hm hok'
      clear hst
      have HT2 := Lib.hid HTw; clear HTw
      go_wp2
      refine still_tail 3 (by kernel_rfl) (by kernel_rfl) ?_
      simp only [List.take_succ_cons, List.take_zero, List.drop_succ_cons, List.drop_zero]
      repeat still_step
      refine wpStill_nil ?_
      have HC := Lib.hid (fun W h => impl_compress W st hs (r.extract 0 64) HX1.out h)
      rw [← HST.out] at HC
      clear v0 v1 v2 v3 v4 v5 v6 v7
      go_wp2_with (fail)
      refine (HC.out _ (HT2.out.later ((Below.refl _ _).drew))).mono ?_
      rintro e2 w2 ⟨rfl, hb2⟩
      replace A3 := A3.keep (hb2.block _ hl)
      rw [HST.out]
      have hB2 : Below w.heap.size w w2 := hB.drew.trans (hb2.mono hz)
      go_wp2_with (refine wpList_storeArr (l' := (comp st (r.extract 0 64)).l) rfl _ _ _ rfl rfl rfl A3 rfl (by kernel_rfl) ?_; intro w3 A4 hch)
      go_roundw
      case rel => exact ⟨n, comp st (r.extract 0 64), r.extract 64 r.size, rfl, hok', hx2, hx3, hm, A4, hB2.trans (hch.to_below hB2.size (fun b hb => by omega))⟩
      case measure => simp [strLen]; omega

end Go.Proofs.YtgllafgpmenjjaaGreatDoor

set_option linter.unusedVariables false
set_option linter.unusedSimpArgs false
namespace Go.Proofs.YtgllafgpmenjjaaGreatDoor
open Go.RowKit Lay Mk
theorem row_boxs {w : World} {b : Nat} (cap : Nat) (l : List ByteArray) (hc : ∀ j (h : j < l.length), w.cell? ⟨b, j, none⟩ = some (.string l[j]) ∧ l[j].size ≤ maxLen) : Row false w (some ⟨b, 0, none⟩) cap l (fun q => q = b) := by
  intro _
  refine ⟨b, 0, rfl, rfl, fun _ => none_, fun _ _ x => x.elim, fun h => by simp at h, fun i hi => ⟨[.string l[i]], fun j u hu => ?_, ⟨rfl, (hc i hi).2⟩⟩⟩
  have hj := (List.getElem?_eq_some_iff.1 hu).1
  have hj : j = 0 := by simpa using hj
  subst hj
  rw [← hu, show 0 + i * n ByteArray + 0 = i by rw [show n ByteArray = 1 from rfl]; omega]
  exact (hc i hi).1
set_option maxRecDepth 20000 in set_option maxHeartbeats 4000000 in
theorem spec_l01Pick (w : World) (g : Nat) (xs : List UInt8) (A : Option Addr) (cap : Nat) (S : Blks) (hc : Cur w g xs A cap) (hx : Row false w A cap xs S) (hS : ¬ S g) (hl : xs.length ≤ 1048576) (zs : List ByteArray) (A2 : Option Addr) (cap2 : Nat) (S2 : Blks) (hz : Row false w A2 cap2 zs S2) (hS2 : ¬ S2 g) (h1 : 0 < zs.length) (h2 : zs.length ≤ 256) : Calls Tryz.prog 121 #[.pointer (some ⟨g, 0, none⟩), .slice A2 zs.length cap2] w fun e w' => ∃ x : ByteArray, e = .returned (.string x) ∧ x ∈ zs ∧ Cur w' g xs A cap ∧ Chg (fun b => b = g) w w' := by
  go_enter Tryz.func121, Tryz.ntmps121
  go_wp2_with (fail)
  refine (spec_l01Below w g xs A cap S hc hx hS hl (zs.length : Int) (by omega) (by omega)).mono ?_
  rintro e0 w1 ⟨x, rfl, hx0, hx1, hc1, hch⟩
  obtain ⟨y, rfl⟩ : ∃ y : Nat, x = y := ⟨x.toNat, by omega⟩
  have hy : y < zs.length := by omega
  obtain ⟨b1, o1, rfl, hl1, f0, -⟩ := Row.str (Row.chg hz hch (fun b p q => hS2 (q ▸ p))) hy
  have hm : zs[y] ∈ zs := List.getElem_mem hy
  obtain ⟨z, hzz⟩ : ∃ z, zs[y] = z := ⟨_, rfl⟩
  rw [hzz] at f0 hm
  clear hzz
  go_wp2
  go_ret
  exact ⟨z, rfl, hm, hc1, hch⟩
def drawnNames : List ByteArray := [⟨#[97, 110, 110]⟩, ⟨#[98, 111, 98]⟩, ⟨#[99, 97, 116]⟩, ⟨#[100, 97, 110]⟩, ⟨#[101, 118, 101]⟩, ⟨#[102, 97, 121]⟩, ⟨#[103, 117, 115]⟩, ⟨#[104, 97, 108]⟩, ⟨#[105, 118, 121]⟩, ⟨#[106, 111, 101, 64, 120, 46, 111, 114, 103]⟩, ⟨#[107, 105, 109]⟩, ⟨#[108, 101, 111]⟩]
theorem drawnNames_ok : ∀ x ∈ drawnNames, nameOk x = true ∧ x.size ≤ 12 := by decide +kernel
set_option maxRecDepth 20000 in set_option maxHeartbeats 4000000 in
theorem spec_l04Name (w : World) (g : Nat) (xs : List UInt8) (A : Option Addr) (cap : Nat) (S : Blks) (hc : Cur w g xs A cap) (hx : Row false w A cap xs S) (hS : ∀ b, S b → b < g) (hg : g < w.heap.size) (hl : xs.length ≤ 1048576) : Calls Tryz.prog 112 #[.pointer (some ⟨g, 0, none⟩)] w fun e w' => ∃ t : ByteArray, e = .returned (.string t) ∧ t ∈ drawnNames ∧ Cur w' g xs A cap ∧ Chg (fun b => b = g ∨ w.heap.size ≤ b) w w' := by
  have hSg : ¬ S g := fun h => by have := hS g h; omega
  go_enter Tryz.func112, Tryz.ntmps112
  go_wp2_with (fail)
  have hcell : ∀ j (h : j < drawnNames.length), (w.alloc (.cells #[.string ⟨#[97, 110, 110]⟩, .string ⟨#[98, 111, 98]⟩, .string ⟨#[99, 97, 116]⟩, .string ⟨#[100, 97, 110]⟩, .string ⟨#[101, 118, 101]⟩, .string ⟨#[102, 97, 121]⟩, .string ⟨#[103, 117, 115]⟩, .string ⟨#[104, 97, 108]⟩, .string ⟨#[105, 118, 121]⟩, .string ⟨#[106, 111, 101, 64, 120, 46, 111, 114, 103]⟩, .string ⟨#[107, 105, 109]⟩, .string ⟨#[108, 101, 111]⟩] 9)).cell? ⟨w.heap.size, j, none⟩ = some (.string drawnNames[j]) ∧ drawnNames[j].size ≤ maxLen := by
    intro j hj
    have hb := drawnNames_ok _ (List.getElem_mem hj)
    refine ⟨?_, by unfold maxLen; have := hb.2; omega⟩
    rw [World.cell?_alloc_mark]
    have hj : j < 12 := hj
    rcases (show j = 0 ∨ j = 1 ∨ j = 2 ∨ j = 3 ∨ j = 4 ∨ j = 5 ∨ j = 6 ∨ j = 7 ∨ j = 8 ∨ j = 9 ∨ j = 10 ∨ j = 11 by omega) with rfl | rfl | rfl | rfl | rfl | rfl | rfl | rfl | rfl | rfl | rfl | rfl <;> rfl
  refine (spec_l01Pick _ g xs A cap S (hc.keep (Below.heap_alloc w _ _ hg)) (Row.later hx ((Below.refl _ _).alloc (Nat.le_refl _) _)) hSg hl drawnNames _ 12 _ (row_boxs 12 _ hcell) (by omega) (by decide) (by decide)).mono ?_
  rintro e0 w1 ⟨x, rfl, hxm, hc1, hch⟩
  have hchA : Chg (fun b => b = g ∨ w.heap.size ≤ b) w w1 := ((Chg.refl _ _).alloc _).trans (hch.mono (fun b _ h => .inl h))
  clear hcell hch
  go_wp2
  go_ret
  exact ⟨x, rfl, hxm, hc1, hchA⟩
def drawnVals : List ByteArray := [⟨#[107, 49]⟩, ⟨#[107, 50]⟩, ⟨#[107, 51]⟩, ⟨#[107, 101, 121, 45, 102, 111, 117, 114]⟩, ⟨#[122]⟩]
theorem drawnVals_ok : ∀ x ∈ drawnVals, valueOk x = true ∧ x.size ≤ 12 := by decide +kernel
set_option maxRecDepth 20000 in set_option maxHeartbeats 4000000 in
theorem spec_l09Value (w : World) (g : Nat) (xs : List UInt8) (A : Option Addr) (cap : Nat) (S : Blks) (hc : Cur w g xs A cap) (hx : Row false w A cap xs S) (hS : ∀ b, S b → b < g) (hg : g < w.heap.size) (hl : xs.length ≤ 1048576) : Calls Tryz.prog 157 #[.pointer (some ⟨g, 0, none⟩)] w fun e w' => ∃ t : ByteArray, e = .returned (.string t) ∧ t ∈ drawnVals ∧ Cur w' g xs A cap ∧ Chg (fun b => b = g ∨ w.heap.size ≤ b) w w' := by
  have hSg : ¬ S g := fun h => by have := hS g h; omega
  go_enter Tryz.func157, Tryz.ntmps157
  go_wp2_with (fail)
  have hcell : ∀ j (h : j < drawnVals.length), (w.alloc (.cells #[.string ⟨#[107, 49]⟩, .string ⟨#[107, 50]⟩, .string ⟨#[107, 51]⟩, .string ⟨#[107, 101, 121, 45, 102, 111, 117, 114]⟩, .string ⟨#[122]⟩] 9)).cell? ⟨w.heap.size, j, none⟩ = some (.string drawnVals[j]) ∧ drawnVals[j].size ≤ maxLen := by
    intro j hj
    have hb := drawnVals_ok _ (List.getElem_mem hj)
    refine ⟨?_, by unfold maxLen; have := hb.2; omega⟩
    rw [World.cell?_alloc_mark]
    have hj : j < 5 := hj
    rcases (show j = 0 ∨ j = 1 ∨ j = 2 ∨ j = 3 ∨ j = 4 by omega) with rfl | rfl | rfl | rfl | rfl <;> rfl
  refine (spec_l01Pick _ g xs A cap S (hc.keep (Below.heap_alloc w _ _ hg)) (Row.later hx ((Below.refl _ _).alloc (Nat.le_refl _) _)) hSg hl drawnVals _ 5 _ (row_boxs 5 _ hcell) (by omega) (by decide) (by decide)).mono ?_
  rintro e0 w1 ⟨x, rfl, hxm, hc1, hch⟩
  have hchA : Chg (fun b => b = g ∨ w.heap.size ≤ b) w w1 := ((Chg.refl _ _).alloc _).trans (hch.mono (fun b _ h => .inl h))
  clear hcell hch
  go_wp2
  go_ret
  exact ⟨x, rfl, hxm, hc1, hchA⟩
theorem leafPut_ok {xs : List Leaf} {n v : ByteArray} (h : leavesOk xs = true) : leavesOk (leafPut xs n v).1 = true := by
  unfold leafPut
  split
  · rename_i h2
    simp only [Bool.and_eq_true] at h2
    exact h2.2
  · exact h
theorem leaves_24 {xs : List Leaf} (h : leavesOk xs = true) : xs.length ≤ 24 := by
  unfold leavesOk at h
  simp only [Bool.and_eq_true, decide_eq_true_eq] at h
  exact h.2
set_option maxRecDepth 20000 in set_option maxHeartbeats 4000000 in
theorem spec_l09Draw (w : World) (g : Nat) (xs : List UInt8) (A : Option Addr) (cap : Nat) (S : Blks) (hc : Cur w g xs A cap) (hx : Row false w A cap xs S) (hS : ∀ b, S b → b < g) (hg : g < w.heap.size) (hl : xs.length ≤ 1048576) : Calls Tryz.prog 113 #[.pointer (some ⟨g, 0, none⟩)] w fun e w' => ∃ (L : List Leaf) (A2 : Option Addr) (c2 : Nat), e = .returned (.slice A2 L.length c2) ∧ leavesOk L = true ∧ L.length ≤ c2 ∧ c2 ≤ maxLen ∧ Row false w' A2 c2 L (nw w.heap.size) ∧ Cur w' g xs A cap ∧ Chg (fun b => b = g ∨ w.heap.size ≤ b) w w' := by
  have hSg : ¬ S g := fun h => by have := hS g h; omega
  go_enter Tryz.func113, Tryz.ntmps113
  go_wp2
  go_loopw [3, 4] (fun u i wr => ∃ (k : Nat) (L : List Leaf) (A2 : Option Addr) (c2 : Nat), i = .int .i64 k ∧ k ≤ 9 ∧ u = .slice A2 L.length c2 ∧ Hid (leavesOk L = true) ∧ L.length ≤ 24 ∧ L.length ≤ c2 ∧ c2 ≤ maxLen ∧ Row false wr A2 c2 L (nw w.heap.size) ∧ Cur wr g xs A cap ∧ Chg (fun b => b = g ∨ w.heap.size ≤ b) w wr) (fun _ i _ => 10 - (intOf i).toNat)
  case atStart => exact ⟨0, [], _, 0, rfl, by omega, rfl, Lib.hid rfl, by simp, by simp, by decide, (row_lit0 _ _ _ rfl (Nat.le_refl _)).weak, hc.keep (Below.heap_alloc w _ _ hg), (Chg.refl _ _).alloc _⟩
  case round =>
    obtain ⟨k, L, A2, c2, rfl, hk, rfl, HL, hL24, hle, hcm, hrow, hc2, hch⟩ := hrel
    have hz := hch.size
    have hxr : Row false wr A cap xs S := Row.keep hx (fun b hb => hch.block b (by have := hS b hb; omega) (by have := hS b hb; omega))
    have hgr : g < wr.heap.size := by omega
    go_wp2_with (fail)
    refine (spec_l01Below wr g xs A cap S hc2 hxr hSg hl 9 (by omega) (by omega)).mono ?_
    rintro e0 w1 ⟨x, rfl, hx0, hx1, hc3, hch1⟩
    have hz1 := hch1.size
    have hrow1 : Row false w1 A2 c2 L (nw w.heap.size) := Row.chg hrow hch1 (fun b h1 h2 => by have h3 : w.heap.size ≤ b := h1; have h4 : b = g := h2; omega)
    have hchA : Chg (fun b => b = g ∨ w.heap.size ≤ b) w w1 := hch.trans (hch1.mono (fun b _ h => .inl h))
    have hx1r : Row false w1 A cap xs S := Row.keep hx (fun b hb => hchA.block b (by have := hS b hb; omega) (by have := hS b hb; omega))
    have hg1 : g < w1.heap.size := by omega
    clear hch1 hrow hxr
    by_cases hlt : (k : Int) < x
    rotate_left
    · have hltd : decide ((k : Int) < x) = false := decide_eq_false hlt
      go_wp2
      go_ret
      exact ⟨L, A2, c2, rfl, HL.out, hle, hcm, hrow1, hc3, hchA⟩
    have hltd : decide ((k : Int) < x) = true := decide_eq_true hlt
    go_wp2_with (fail)
    refine (spec_l04Name w1 g xs A cap S hc3 hx1r hS hg1 hl).mono ?_
    rintro e2 w2 ⟨nm, rfl, hnm, hc4, hch2⟩
    have hz2 := hch2.size
    have hrow2 : Row false w2 A2 c2 L (nw w.heap.size) := (Row.chg hrow1.tight hch2 (fun b h1 h2 => by have h3 : w.heap.size ≤ b := h1.1; have h5 := h1.2; rcases h2 with h4 | h4 <;> omega)).mono (fun b h => h.1)
    have hchB : Chg (fun b => b = g ∨ w.heap.size ≤ b) w w2 := hchA.trans (hch2.mono (fun b _ h => h.elim .inl (fun q => .inr (by omega))))
    have hx2r : Row false w2 A cap xs S := Row.keep hx (fun b hb => hchB.block b (by have := hS b hb; omega) (by have := hS b hb; omega))
    have hg2 : g < w2.heap.size := by omega
    clear hch2 hrow1 hx1r hchA
    go_wp2_with (fail)
    refine (spec_l09Value w2 g xs A cap S hc4 hx2r hS hg2 hl).mono ?_
    rintro e3 w3 ⟨vl, rfl, hvl, hc5, hch3⟩
    have hz3 := hch3.size
    have hrow3 : Row false w3 A2 c2 L (nw w.heap.size) := (Row.chg hrow2.tight hch3 (fun b h1 h2 => by have h3 : w.heap.size ≤ b := h1.1; have h5 := h1.2; rcases h2 with h4 | h4 <;> omega)).mono (fun b h => h.1)
    have hchC : Chg (fun b => b = g ∨ w.heap.size ≤ b) w w3 := hchB.trans (hch3.mono (fun b _ h => h.elim .inl (fun q => .inr (by omega))))
    have hg3 : g < w3.heap.size := by omega
    have hnm12 := (drawnNames_ok nm hnm).2
    have hvl12 := (drawnVals_ok vl hvl).2
    clear hch3 hrow2 hx2r hchB
    go_wp2_with (fail)
    refine (spec_LeafPut w3 L A2 c2 _ hrow3 (by omega) nm (by unfold maxLen; omega) vl (by unfold maxLen; omega)).mono ?_
    rintro e4 w4 ⟨A4, c4, rfl, hle4, hcm4, hrow4, hb4⟩
    have HLP := Lib.hid (leafPut_ok (n := nm) (v := vl) HL.out)
    obtain ⟨L2, hL2⟩ : ∃ l, (leafPut L nm vl).1 = l := ⟨_, rfl⟩
    rw [hL2] at hle4 hrow4 HLP ⊢
    clear hL2
    have h24 := leaves_24 HLP.out
    have hk9 : k + 1 ≤ 9 := by omega
    go_wp2
    go_roundw
    case rel => exact ⟨k + 1, L2, A4, c4, by go_num, hk9, rfl, HLP, h24, hle4, hcm4, (hrow4.mono (fun b h => by have h1 : w3.heap.size ≤ b := h.1; show w.heap.size ≤ b; omega)).weak, hc5.keep (hb4.block _ hg3), hchC.below hb4 (by omega)⟩
    case measure => simp [intOf]; omega
end Go.Proofs.YtgllafgpmenjjaaGreatDoor

set_option linter.unusedVariables false
set_option linter.unusedSimpArgs false
namespace Go.Proofs.YtgllafgpmenjjaaGreatDoor
open Go.RowKit Lay Mk

set_option maxRecDepth 20000 in set_option maxHeartbeats 8000000 in
theorem spec_LeafDrop (w : World) (xs : List Leaf) (A0 : Option Addr) (cap0 : Nat) (S : Blks) (hx : Row false w A0 cap0 xs S) (hl : xs.length ≤ 100000000) (nm : ByteArray) (hn : nm.size ≤ maxLen) : Calls Tryz.prog 166 #[.slice A0 xs.length cap0, .string nm] w fun e w' => ∃ A' cap', e = .returned (.tuple #[.slice A' (leafDrop xs nm).1.length cap', .bool (leafDrop xs nm).2]) ∧ (leafDrop xs nm).1.length ≤ cap' ∧ cap' ≤ maxLen ∧ Row true w' A' cap' (leafDrop xs nm).1 (rng w.heap.size w'.heap.size) ∧ Below w.heap.size w w' := by
  go_enter Tryz.func166, Tryz.ntmps166
  go_wp2_with (fail)
  refine (spec_LeafGet _ xs A0 cap0 S hx (by omega) nm hn).mono ?_
  rintro e1 w1 ⟨rfl, hB⟩
  go_wp2_with (fail)
  refine (spec_LeavesOk _ xs A0 cap0 S (Row.later hx hB) (by omega)).mono ?_
  rintro e2 w2 ⟨rfl, hb2⟩
  replace hB := Below.step hB hb2
  cases ho : leavesOk xs
  · have HF : Hid (leafDrop xs nm = (xs, false)) := Lib.hid (by simp [leafDrop, ho])
    go_wp2_with (at_builtin; refine wpList_app (α := Leaf) rfl _ _ rfl rfl rfl (row_lit0b _ _ _ (nw w.heap.size) (by first | rfl | simp) rfl hB.size) (by simp) (by decide) rfl rfl (Src.flat2 (Row.allocC (Row.later hx hB) _)) (disj_none_ _) (by simp; omega) ?_; intro A' cap' w' h1 h2 h3 h4)
    go_ret2
    have hzb := hB.size
    exact ⟨A', cap', ret_sliceb (by rw [HF.out] <;> simp) (by rw [HF.out]), by rw [HF.out]; simpa using h1, h2, by rw [HF.out]; simpa using row_up h3 (B := w.heap.size) (fun b h => h) (fun b h => h.elim) (by simp; omega), (hB.alloc hzb _).trans (h4.to_below (by simp; omega) (fun b h => h))⟩
  cases hg : (leafGet xs nm).2
  · have HF : Hid (leafDrop xs nm = (xs, false)) := Lib.hid (by simp [leafDrop, hg])
    go_wp2_with (at_builtin; refine wpList_app (α := Leaf) rfl _ _ rfl rfl rfl (row_lit0b _ _ _ (nw w.heap.size) (by first | rfl | simp) rfl hB.size) (by simp) (by decide) rfl rfl (Src.flat2 (Row.allocC (Row.later hx hB) _)) (disj_none_ _) (by simp; omega) ?_; intro A' cap' w' h1 h2 h3 h4)
    go_ret2
    have hzb := hB.size
    exact ⟨A', cap', ret_sliceb (by rw [HF.out] <;> simp) (by rw [HF.out]), by rw [HF.out]; simpa using h1, h2, by rw [HF.out]; simpa using row_up h3 (B := w.heap.size) (fun b h => h) (fun b h => h.elim) (by simp; omega), (hB.alloc hzb _).trans (h4.to_below (by simp; omega) (fun b h => h))⟩
  have HF : Hid (leafDrop xs nm = (leafWithout xs nm, true)) := Lib.hid (by simp [leafDrop, ho, hg])
  clear hb2
  go_wp2_with (fail)
  refine (spec_l09Without _ xs A0 cap0 S (Row.later hx hB) (by omega) nm hn).mono ?_
  rintro e5 w5 ⟨A', cap', rfl, h1, h2, h3, hb5⟩
  go_wp2
  go_ret2
  exact ⟨A', cap', ret_sliceb (by rw [HF.out]) (by rw [HF.out]), by rw [HF.out]; exact h1, h2, by rw [HF.out]; exact h3.mono (rngS hB.size (Nat.le_refl _)), Below.step hB hb5⟩

set_option maxRecDepth 20000 in set_option maxHeartbeats 4000000 in
theorem spec_ApplyChange0 (w : World) (xs : List Leaf) (A0 : Option Addr) (cap0 : Nat) (S : Blks) (hx : Row false w A0 cap0 xs S) (hl : xs.length ≤ 100000000) (u : Change) (cu : List Value) (Su : Blks) (hu : rd false w cu u Su) : Calls Tryz.prog 120 #[.slice A0 xs.length cap0, .agg cu.toArray] w fun e w' => ∃ A' cap', e = .returned (.slice A' (applyChange xs u).length cap') ∧ (applyChange xs u).length ≤ cap' ∧ cap' ≤ maxLen ∧ Row true w' A' cap' (applyChange xs u) (rng w.heap.size w'.heap.size) ∧ Below w.heap.size w w' := by
  obtain ⟨rfl, f0, f1, f2⟩ := Change.open hu
  clear hu
  obtain ⟨i, n, v⟩ := u
  simp only [Change.cs]
  simp only at f0 f1 f2
  by_cases he : v = ⟨#[]⟩
  · have HF : Hid (applyChange xs ⟨i, n, v⟩ = (leafDrop xs n).1) := Lib.hid (by simp [applyChange, he])
    have hsb : v.toList.isEmpty = true := by subst he; rw [ByteArray.toList_eq]; rfl
    clear he
    go_enter Tryz.func120, Tryz.ntmps120
    go_wp2_with (fail)
    refine (spec_LeafDrop _ xs A0 cap0 S (Row.later hx ((Below.refl _ _).alloc (Nat.le_refl _) _)) (by omega) n f1).mono ?_
    rintro e1 w1 ⟨A', cap', rfl, h1, h2, h3, hb1⟩
    have hB : Below w.heap.size w w1 := Below.via hb1
    go_wp2
    go_ret
    exact ⟨A', cap', ret_slice (by rw [HF.out]), by rw [HF.out]; exact h1, h2, by rw [HF.out]; exact h3.mono (rngS (by simp) (Nat.le_refl _)), hB⟩
  · have HF : Hid (applyChange xs ⟨i, n, v⟩ = (leafPut xs n v).1) := Lib.hid (by simp [applyChange, he])
    have hsb : v.toList.isEmpty = false := by
      cases hv : v.toList with
      | nil => exact absurd (toList_inj (a := v) (b := ⟨#[]⟩) (by rw [hv, ByteArray.toList_eq])) he
      | cons _ _ => rfl
    clear he
    go_enter Tryz.func120, Tryz.ntmps120
    go_wp2_with (fail)
    refine (spec_LeafPut _ xs A0 cap0 S (Row.later hx ((Below.refl _ _).alloc (Nat.le_refl _) _)) (by omega) n f1 v f2).mono ?_
    rintro e1 w1 ⟨A', cap', rfl, h1, h2, h3, hb1⟩
    have hB : Below w.heap.size w w1 := Below.via hb1
    go_wp2
    go_ret
    exact ⟨A', cap', ret_slice (by rw [HF.out]), by rw [HF.out]; exact h1, h2, by rw [HF.out]; exact h3.mono (rngS (by simp) (Nat.le_refl _)), hB⟩
end Go.Proofs.YtgllafgpmenjjaaGreatDoor
