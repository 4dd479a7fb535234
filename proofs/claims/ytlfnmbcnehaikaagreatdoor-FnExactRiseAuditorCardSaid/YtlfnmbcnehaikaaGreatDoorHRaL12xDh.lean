/- A part of the proof: what the laws need of it. -/
import Derived.Outline
import Derived.Deep.LoopGhost
import Derived.Deep.RegionHeld3
import Derived.IntWalk
import Derived.Test.YtlfnmbcnehaikaaGreatDoorHRaL11xDp
import Derived.Test.YtlfnmbcnehaikaaGreatDoorHRaL6xOq
set_option linter.unusedVariables false
set_option linter.unusedSimpArgs false
set_option linter.unusedVariables false
set_option linter.unusedSimpArgs false
namespace Go.Proofs.YtlfnmbcnehaikaaGreatDoor
open Go.RowKit Lay Mk
def Tabs (w : World) : Prop := (∀ i, i < 64 → w.cell? ⟨1, i, none⟩ = some (.int .u32 (shaKeys.getD i 0))) ∧ (∀ i, i < 8 → w.cell? ⟨0, i, none⟩ = some (.int .u32 (shaFirst.l.getD i 0)))
theorem quiet_add_left {P : Program} {f : FuncId} {args : Array Value} {w : World} {a n : Nat} {v : Value}
    (h : Calls P f args (w.drewN (a + n)) fun e w' => e = .returned v ∧ w.drewN (a + n) = w') :
    Calls P f args (w.drewN (a + n)) fun e w'' => e = .returned v ∧ ∃ m, w'' = w.drewN (a + m) :=
  h.mono fun _ _ ⟨he, hm⟩ => ⟨he, n, hm.symm⟩
theorem Arr.setO8 {w : World} {b V t : Nat} {l : List Int} (h : Arr w b t l) (hb : b ≠ V) (x0 x1 x2 x3 x4 x5 x6 x7 : Value) : Arr ((((((((w.setCell ⟨V, 0, none⟩ x0).setCell ⟨V, 1, none⟩ x1).setCell ⟨V, 2, none⟩ x2).setCell ⟨V, 3, none⟩ x3).setCell ⟨V, 4, none⟩ x4).setCell ⟨V, 5, none⟩ x5).setCell ⟨V, 6, none⟩ x6).setCell ⟨V, 7, none⟩ x7) b t l :=
  Arr.setO (Arr.setO (Arr.setO (Arr.setO (Arr.setO (Arr.setO (Arr.setO (Arr.setO h hb _) hb _) hb _) hb _) hb _) hb _) hb _) hb _
theorem Arr.set8 {w : World} {V t : Nat} {a b c d e f g h : Int} (H : Arr w V t [a, b, c, d, e, f, g, h]) (x0 x1 x2 x3 x4 x5 x6 x7 : Int) : Arr ((((((((w.setCell ⟨V, 0, none⟩ (.int .u32 x0)).setCell ⟨V, 1, none⟩ (.int .u32 x1)).setCell ⟨V, 2, none⟩ (.int .u32 x2)).setCell ⟨V, 3, none⟩ (.int .u32 x3)).setCell ⟨V, 4, none⟩ (.int .u32 x4)).setCell ⟨V, 5, none⟩ (.int .u32 x5)).setCell ⟨V, 6, none⟩ (.int .u32 x6)).setCell ⟨V, 7, none⟩ (.int .u32 x7)) V t [x0, x1, x2, x3, x4, x5, x6, x7] :=
  ((((((((H.set 0 x0).set 1 x1).set 2 x2).set 3 x3).set 4 x4).set 5 x5).set 6 x6).set 7 x7)
theorem Below.set8 {a w : World} {B V : Nat} (h : Below B a w) (hb : B ≤ V) (x0 x1 x2 x3 x4 x5 x6 x7 : Value) : Below B a ((((((((w.setCell ⟨V, 0, none⟩ x0).setCell ⟨V, 1, none⟩ x1).setCell ⟨V, 2, none⟩ x2).setCell ⟨V, 3, none⟩ x3).setCell ⟨V, 4, none⟩ x4).setCell ⟨V, 5, none⟩ x5).setCell ⟨V, 6, none⟩ x6).setCell ⟨V, 7, none⟩ x7) :=
  (((((((h.setCell hb _).setCell hb _).setCell hb _).setCell hb _).setCell hb _).setCell hb _).setCell hb _).setCell hb _
theorem max32 (x : Int) : bits .xor .u32 IntKind.u32.max x = bits .xor .u32 x 4294967295 := by
  show bits .xor .u32 4294967295 x = _
  unfold bits; simp only [BitVec.xor_comm]
theorem still_of {P : Program} {f : FuncId} {args : Array Value} {w : World} {v : Value} (h : Calls P f args w fun e w' => e = .returned v ∧ w = w') : Calls P f args w fun e w'' => e = .returned v ∧ w'' = w := h.mono fun _ _ ⟨he, hm⟩ => ⟨he, hm.symm⟩
theorem Tabs.later {w w' : World} (h : Tabs w) (hb : Below w.heap.size w w') : Tabs w' :=
  ⟨fun i hi => (hb.cell (p := ⟨_, i, none⟩) (block_lt_of_cell (a := ⟨_, i, none⟩) (h.1 i hi))).trans (h.1 i hi), fun i hi => (hb.cell (p := ⟨_, i, none⟩) (block_lt_of_cell (a := ⟨_, i, none⟩) (h.2 i hi))).trans (h.2 i hi)⟩
theorem Arr.at_ {w : World} {b t : Nat} {l : List Int} (h : Arr w b t l) {i : Nat} (hi : i < l.length) : w.cell? ⟨b, i, none⟩ = some (.int .u32 (l.getD i 0)) := by rw [← getD_get hi]; exact h.cell hi
theorem sch_w (b : ByteArray) {k i : Nat} (h : i < k) : W32 ((sch b k).getD i 0) := by
  rw [← getD_get (by rw [sch_len]; exact h)]
  exact sch_lt b k _ (List.getElem_mem _)
theorem Arr.word {w : World} {b t k i : Nat} {blk : ByteArray} (h : Arr w b t (padz (sch blk k) 64)) (hk : k ≤ 64) (hi : i < k) : ∃ x, (sch blk k).getD i 0 = x ∧ W32 x ∧ w.cell? ⟨b, i, none⟩ = some (.int .u32 x) := by
  refine ⟨_, rfl, sch_w blk hi, ?_⟩
  have := h.at_ (i := i) (by rw [padz_len (by rw [sch_len]; omega)]; omega)
  rw [padz_get (by rw [sch_len]; exact hi)] at this
  exact this
theorem S8.arr (s : S8) : arr s.l = #[.int .u32 s.a, .int .u32 s.b, .int .u32 s.c, .int .u32 s.d, .int .u32 s.e, .int .u32 s.f, .int .u32 s.g, .int .u32 s.h] := rfl
theorem Arr.set8r {w : World} {V t : Nat} {a b c d e f g h : Int} (H : Arr w V t [a, b, c, d, e, f, g, h]) (x0 x1 x2 x3 x4 x5 x6 x7 : Int) : Arr ((((((((w.setCell ⟨V, 7, none⟩ (.int .u32 x7)).setCell ⟨V, 6, none⟩ (.int .u32 x6)).setCell ⟨V, 5, none⟩ (.int .u32 x5)).setCell ⟨V, 4, none⟩ (.int .u32 x4)).setCell ⟨V, 3, none⟩ (.int .u32 x3)).setCell ⟨V, 2, none⟩ (.int .u32 x2)).setCell ⟨V, 1, none⟩ (.int .u32 x1)).setCell ⟨V, 0, none⟩ (.int .u32 x0)) V t [x0, x1, x2, x3, x4, x5, x6, x7] :=
  ((((((((H.set 7 x7).set 6 x6).set 5 x5).set 4 x4).set 3 x3).set 2 x2).set 1 x1).set 0 x0)
theorem Arr.setO8r {w : World} {b V t : Nat} {l : List Int} (h : Arr w b t l) (hb : b ≠ V) (x0 x1 x2 x3 x4 x5 x6 x7 : Value) : Arr ((((((((w.setCell ⟨V, 7, none⟩ x7).setCell ⟨V, 6, none⟩ x6).setCell ⟨V, 5, none⟩ x5).setCell ⟨V, 4, none⟩ x4).setCell ⟨V, 3, none⟩ x3).setCell ⟨V, 2, none⟩ x2).setCell ⟨V, 1, none⟩ x1).setCell ⟨V, 0, none⟩ x0) b t l :=
  Arr.setO (Arr.setO (Arr.setO (Arr.setO (Arr.setO (Arr.setO (Arr.setO (Arr.setO h hb _) hb _) hb _) hb _) hb _) hb _) hb _) hb _
theorem Below.set8r {a w : World} {B V : Nat} (h : Below B a w) (hb : B ≤ V) (x0 x1 x2 x3 x4 x5 x6 x7 : Value) : Below B a ((((((((w.setCell ⟨V, 7, none⟩ x7).setCell ⟨V, 6, none⟩ x6).setCell ⟨V, 5, none⟩ x5).setCell ⟨V, 4, none⟩ x4).setCell ⟨V, 3, none⟩ x3).setCell ⟨V, 2, none⟩ x2).setCell ⟨V, 1, none⟩ x1).setCell ⟨V, 0, none⟩ x0) :=
  (((((((h.setCell hb _).setCell hb _).setCell hb _).setCell hb _).setCell hb _).setCell hb _).setCell hb _).setCell hb _
end Go.Proofs.YtlfnmbcnehaikaaGreatDoor

set_option linter.unusedVariables false
set_option linter.unusedSimpArgs false
namespace Go.Proofs.YtlfnmbcnehaikaaGreatDoor
open Go.RowKit Lay Mk
def Bor (α : Type) : Type := α
instance instBor {α : Type} [Lay α] : Lay (Bor α) where
  ty := ty α
  n := n α
  rd _ w cs a S := rd (α := α) false w cs a S
  pos := pos (α := α)
  len h := Lay.len (α := α) h
  keep h k := Lay.keep (α := α) h k
  mono h k := Lay.mono (α := α) h k
  weak h := h
  tight h := Lay.tight (α := α) h
  one h := Lay.one (α := α) h
instance slBor {α : Type} [Lay α] [SlTy α] : SlTy (Bor α) := ⟨SlTy.st α⟩
instance infBor {α : Type} [Lay α] [SlTy α] [Inf α] : Inf (Bor α) := ⟨Inf.ex (α := α), Inf.st (α := α)⟩
end Go.Proofs.YtlfnmbcnehaikaaGreatDoor

set_option linter.unusedVariables false
set_option linter.unusedSimpArgs false
namespace Go.Proofs.YtlfnmbcnehaikaaGreatDoor
open Go.RowKit Lay Mk
set_option maxRecDepth 20000 in set_option maxHeartbeats 8000000 in
theorem spec_ReadVar (w : World) (t : ByteArray) (ht : t.size ≤ 1048576) (a : Nat) (ha : a ≤ t.size) : Calls Tryz.prog 172 #[.string t, .int .i64 a] w fun e w' => e = .returned (rvV (rdVar t a)) ∧ Below w.heap.size w w' := by
  have hin : inB a 0 t.size = true := by unfold inB; rw [decide_eq_true_iff]; omega
  have H0 : Hid (rdVar t a = rdGo t a 5 0 0) := Lib.hid rfl
  obtain ⟨R, hR⟩ : ∃ R, rdVar t a = R := ⟨_, rfl⟩
  rw [hR] at H0 ⊢
  clear hR
  have hw5 : IntKind.i64.wrap ((a : Int) + 5) = (a : Int) + 5 := by rw [IntWalk.i64_in] <;> omega
  go_enter Tryz.func172, Tryz.ntmps172
  go_wp2_with (go_at_call 48; refine (spec_in _ _ _ _).mono ?_; rintro e w' ⟨rfl, rfl⟩)
  clear hin
  go_loopw [7, 8, 9] (fun n c i wr => ∃ k m : Nat, k ≤ 5 ∧ a + k ≤ t.size ∧ n = .int .i64 m ∧ c = .int .i64 ((128 ^ k : Nat) : Int) ∧ i = .int .i64 ((a + k : Nat) : Int) ∧ Hid (Pre t a k m) ∧ Hid (R = rdGo t a (5 - k) k m) ∧ Below w.heap.size w wr) (fun _ _ i _ => 5 + a - (intOf i).toNat)
  case atStart => exact ⟨0, 0, by omega, by omega, rfl, rfl, rfl, Lib.hid (Pre.start ha), H0, Below.refl _ _⟩
  case round =>
    obtain ⟨k, m, hk, hak, rfl, rfl, rfl, HP, hR, hB⟩ := hrel
    have hz := hB.size
    clear H0
    rcases (show k = 5 ∨ k = 4 ∨ k = 3 ∨ k = 2 ∨ k = 1 ∨ k = 0 by omega) with rfl | rfl | rfl | rfl | rfl | rfl
    · have HE : Hid (R = none) := Lib.hid (hR.out.trans (rdGo_end _ _ _ _))
      clear hR
      simp only [Int.natCast_add] at *
      by_cases h5 : a + 5 < t.size
      · have hlz : (a : Int) + 5 < (t.size : Int) := by omega
        go_wp2
        refine bodyPost_ret (v := .tuple #[.int .i64 0, .int .i64 0, .bool false]) (by simp [results, Tryz.results172, go_sem, *]) rfl ?_
        exact ⟨by rw [HE.out]; rfl, hB⟩
      · have hlz : ¬ (a : Int) + 5 < (t.size : Int) := by omega
        go_wp2
        refine bodyPost_ret (v := .tuple #[.int .i64 0, .int .i64 0, .bool false]) (by simp [results, Tryz.results172, go_sem, *]) rfl ?_
        exact ⟨by rw [HE.out]; rfl, hB⟩
    · have hm : m < 268435456 := HP.out.lt
      have hwk : IntKind.i64.wrap ((a : Int) + 4) = (a : Int) + 4 := by rw [IntWalk.i64_in] <;> omega
      have hwl : IntKind.i64.wrap ((a : Int) + 4 + 1) = (a : Int) + 4 + 1 := by rw [IntWalk.i64_in] <;> omega
      have hei : (((a + 4 : Nat) : Nat) : Int) = (a : Int) + 4 := by omega
      have hep : ((128 ^ 4 : Nat) : Int) = 268435456 := by decide
      rw [hei, hep]
      clear hei hep
      by_cases hlt : a + 4 < t.size
      rotate_left
      · have HE : Hid (R = none) := Lib.hid (hR.out.trans (rdGo_out hlt))
        clear hR
        go_wp2
        refine bodyPost_ret (v := .tuple #[.int .i64 0, .int .i64 0, .bool false]) (by simp [results, Tryz.results172, go_sem, *]) rfl ?_
        exact ⟨by rw [HE.out]; rfl, hB⟩
      have HM := Lib.hid (fun h => hR.out.trans (rdGo_more (f := 0) (n := m) hlt h))
      have HB := Lib.hid (fun h1 h2 => hR.out.trans (rdGo_bad (f := 0) (n := m) hlt h1 h2))
      have HG := Lib.hid (fun h1 h2 => hR.out.trans (rdGo_good (f := 0) (n := m) hlt h1 h2))
      have HS := Lib.hid (fun h => HP.out.step hlt h)
      have HL := Lib.hid (fun h => HP.out.last hlt h)
      have hb : t[a + 4].toNat < 256 := t[a + 4].toNat_lt
      have hlz : (a : Int) + 4 < (t.size : Int) := by omega
      have hl5 : (a : Int) + 4 < (a : Int) + 5 := by omega
      clear hR HP
      by_cases h128 : t[a + 4].toNat < 128
      rotate_left
      · have HE := Lib.hid (HM.out h128)
        have HP2 := Lib.hid (HS.out h128)
        clear HM HB HG HS HL
        go_wp2
        go_roundw
        case rel => exact ⟨5, m + t[a + 4].toNat % 128 * 268435456, by omega, by omega, congrArg (Value.int .i64) (by omega), congrArg (Value.int .i64) (by decide), congrArg (Value.int .i64) (by omega), Lib.hid HP2.out, Lib.hid HE.out, hB⟩
        case measure => first | (simp [intOf]; done) | (simp [intOf]; omega)
      clear HM HS
      go_wp2_with (fail)
      obtain ⟨M, hM⟩ : ∃ M : Nat, M = m + t[a + 4].toNat % 128 * 268435456 := ⟨_, rfl⟩
      have hMi : (m : Int) + (t[a + 4].toNat : Int) % 128 * 268435456 = (M : Int) := by omega
      rw [hMi]
      clear hMi
      have HMM := Lib.hid hM
      have hs1 : (a : Int) ≤ (a : Int) + 4 + 1 := by omega
      have hs2 : (a : Int) + 4 + 1 ≤ (t.size : Int) := by omega
      clear hM
      by_cases hn : 1000000000 < M
      · have HE : Hid (R = none) := Lib.hid (HB.out h128 (.inr (by rw [← show M = m + t[a + 4].toNat % 128 * 128 ^ 4 from HMM.out]; exact hn)))
        clear HB HG HL
        have dn : decide ((1000000000 : Int) < (M : Int)) = true := by rw [decide_eq_true_iff]; omega
        refine wp_region_grown (by kernel_rfl) (by kernel_rfl) ?_
        repeat (go_big_quiet_step (first | fail))
        refine wpQuiet_nil ?_
        intro w7 hw_
        have hB7 := grown_below hw_
        clear hw_
        go_wp2
        refine bodyPost_ret (v := .tuple #[.int .i64 0, .int .i64 0, .bool false]) (by simp [results, Tryz.results172, go_sem, *]) rfl ?_
        exact ⟨by rw [HE.out]; rfl, hB.trans (hB7.mono hz)⟩
      have dn : decide ((1000000000 : Int) < (M : Int)) = false := by rw [decide_eq_false_iff_not]; omega
      have HV := Lib.hid (fun W => spec_l01Var M W (by omega))
      have HL2 : Hid (varT M = t.extract a (a + 4 + 1) ↔ ¬ (t[a + 4].toNat = 0 ∧ 0 < 4)) := Lib.hid (by rw [HMM.out]; exact HL.out h128)
      obtain ⟨E, hE⟩ : ∃ E, t.extract a (a + 4 + 1) = E := ⟨_, rfl⟩
      obtain ⟨V, hV⟩ : ∃ V, varT M = V := ⟨_, rfl⟩
      rw [hE, hV] at HL2
      rw [hV] at HV
      have HQ := Lib.hid (str_dec V E)
      clear hV HL
      by_cases h0 : t[a + 4].toNat = 0 ∧ 0 < 4
      · have HE : Hid (R = none) := Lib.hid (HB.out h128 (.inl h0))
        have hcmp : (V.toList == E.toList) = false := by rw [HQ.out]; exact decide_eq_false (fun e => HL2.out.1 e h0)
        clear HB HG
        refine wp_region_grown (by kernel_rfl) (by kernel_rfl) ?_
        repeat (go_big_quiet_step (first | (go_at_call 109; with_reducible exact grown_call (HV.out _))))
        refine wpQuiet_nil ?_
        intro w7 hw_
        have hB7 := grown_below hw_
        clear hw_
        go_wp2
        refine bodyPost_ret (v := .tuple #[.int .i64 0, .int .i64 0, .bool false]) (by simp [results, Tryz.results172, go_sem, *]) rfl ?_
        exact ⟨by rw [HE.out]; rfl, hB.trans (hB7.mono hz)⟩
      · have HE := Lib.hid (HG.out h128 (by rintro (hh | hh); exact h0 hh; exact hn (by rw [show M = m + t[a + 4].toNat % 128 * 128 ^ 4 from HMM.out]; exact hh)))
        have hcmp : (V.toList == E.toList) = true := by rw [HQ.out]; exact decide_eq_true (HL2.out.2 h0)
        clear HB HG
        refine wp_region_grown (by kernel_rfl) (by kernel_rfl) ?_
        repeat (go_big_quiet_step (first | (go_at_call 109; with_reducible exact grown_call (HV.out _))))
        refine wpQuiet_nil ?_
        intro w7 hw_
        have hB7 := grown_below hw_
        clear hw_
        go_wp2
        refine bodyPost_ret (v := .tuple #[.int .i64 (M : Int), .int .i64 ((a : Int) + 4 + 1), .bool true]) (by simp [results, Tryz.results172, go_sem, *]) rfl ?_
        exact ⟨by rw [HE.out]; exact ret_rv (congrArg (fun q : Nat => (q : Int)) HMM.out) (by omega), hB.trans (hB7.mono hz)⟩
    · have hm : m < 2097152 := HP.out.lt
      have hwk : IntKind.i64.wrap ((a : Int) + 3) = (a : Int) + 3 := by rw [IntWalk.i64_in] <;> omega
      have hwl : IntKind.i64.wrap ((a : Int) + 3 + 1) = (a : Int) + 3 + 1 := by rw [IntWalk.i64_in] <;> omega
      have hei : (((a + 3 : Nat) : Nat) : Int) = (a : Int) + 3 := by omega
      have hep : ((128 ^ 3 : Nat) : Int) = 2097152 := by decide
      rw [hei, hep]
      clear hei hep
      by_cases hlt : a + 3 < t.size
      rotate_left
      · have HE : Hid (R = none) := Lib.hid (hR.out.trans (rdGo_out hlt))
        clear hR
        go_wp2
        refine bodyPost_ret (v := .tuple #[.int .i64 0, .int .i64 0, .bool false]) (by simp [results, Tryz.results172, go_sem, *]) rfl ?_
        exact ⟨by rw [HE.out]; rfl, hB⟩
      have HM := Lib.hid (fun h => hR.out.trans (rdGo_more (f := 1) (n := m) hlt h))
      have HB := Lib.hid (fun h1 h2 => hR.out.trans (rdGo_bad (f := 1) (n := m) hlt h1 h2))
      have HG := Lib.hid (fun h1 h2 => hR.out.trans (rdGo_good (f := 1) (n := m) hlt h1 h2))
      have HS := Lib.hid (fun h => HP.out.step hlt h)
      have HL := Lib.hid (fun h => HP.out.last hlt h)
      have hb : t[a + 3].toNat < 256 := t[a + 3].toNat_lt
      have hlz : (a : Int) + 3 < (t.size : Int) := by omega
      have hl5 : (a : Int) + 3 < (a : Int) + 5 := by omega
      clear hR HP
      by_cases h128 : t[a + 3].toNat < 128
      rotate_left
      · have HE := Lib.hid (HM.out h128)
        have HP2 := Lib.hid (HS.out h128)
        clear HM HB HG HS HL
        go_wp2
        go_roundw
        case rel => exact ⟨4, m + t[a + 3].toNat % 128 * 2097152, by omega, by omega, congrArg (Value.int .i64) (by omega), congrArg (Value.int .i64) (by decide), congrArg (Value.int .i64) (by omega), Lib.hid HP2.out, Lib.hid HE.out, hB⟩
        case measure => first | (simp [intOf]; done) | (simp [intOf]; omega)
      clear HM HS
      go_wp2_with (fail)
      obtain ⟨M, hM⟩ : ∃ M : Nat, M = m + t[a + 3].toNat % 128 * 2097152 := ⟨_, rfl⟩
      have hMi : (m : Int) + (t[a + 3].toNat : Int) % 128 * 2097152 = (M : Int) := by omega
      rw [hMi]
      clear hMi
      have HMM := Lib.hid hM
      have hs1 : (a : Int) ≤ (a : Int) + 3 + 1 := by omega
      have hs2 : (a : Int) + 3 + 1 ≤ (t.size : Int) := by omega
      clear hM
      by_cases hn : 1000000000 < M
      · have HE : Hid (R = none) := Lib.hid (HB.out h128 (.inr (by rw [← show M = m + t[a + 3].toNat % 128 * 128 ^ 3 from HMM.out]; exact hn)))
        clear HB HG HL
        have dn : decide ((1000000000 : Int) < (M : Int)) = true := by rw [decide_eq_true_iff]; omega
        refine wp_region_grown (by kernel_rfl) (by kernel_rfl) ?_
        repeat (go_big_quiet_step (first | fail))
        refine wpQuiet_nil ?_
        intro w7 hw_
        have hB7 := grown_below hw_
        clear hw_
        go_wp2
        refine bodyPost_ret (v := .tuple #[.int .i64 0, .int .i64 0, .bool false]) (by simp [results, Tryz.results172, go_sem, *]) rfl ?_
        exact ⟨by rw [HE.out]; rfl, hB.trans (hB7.mono hz)⟩
      have dn : decide ((1000000000 : Int) < (M : Int)) = false := by rw [decide_eq_false_iff_not]; omega
      have HV := Lib.hid (fun W => spec_l01Var M W (by omega))
      have HL2 : Hid (varT M = t.extract a (a + 3 + 1) ↔ ¬ (t[a + 3].toNat = 0 ∧ 0 < 3)) := Lib.hid (by rw [HMM.out]; exact HL.out h128)
      obtain ⟨E, hE⟩ : ∃ E, t.extract a (a + 3 + 1) = E := ⟨_, rfl⟩
      obtain ⟨V, hV⟩ : ∃ V, varT M = V := ⟨_, rfl⟩
      rw [hE, hV] at HL2
      rw [hV] at HV
      have HQ := Lib.hid (str_dec V E)
      clear hV HL
      by_cases h0 : t[a + 3].toNat = 0 ∧ 0 < 3
      · have HE : Hid (R = none) := Lib.hid (HB.out h128 (.inl h0))
        have hcmp : (V.toList == E.toList) = false := by rw [HQ.out]; exact decide_eq_false (fun e => HL2.out.1 e h0)
        clear HB HG
        refine wp_region_grown (by kernel_rfl) (by kernel_rfl) ?_
        repeat (go_big_quiet_step (first | (go_at_call 109; with_reducible exact grown_call (HV.out _))))
        refine wpQuiet_nil ?_
        intro w7 hw_
        have hB7 := grown_below hw_
        clear hw_
        go_wp2
        refine bodyPost_ret (v := .tuple #[.int .i64 0, .int .i64 0, .bool false]) (by simp [results, Tryz.results172, go_sem, *]) rfl ?_
        exact ⟨by rw [HE.out]; rfl, hB.trans (hB7.mono hz)⟩
      · have HE := Lib.hid (HG.out h128 (by rintro (hh | hh); exact h0 hh; exact hn (by rw [show M = m + t[a + 3].toNat % 128 * 128 ^ 3 from HMM.out]; exact hh)))
        have hcmp : (V.toList == E.toList) = true := by rw [HQ.out]; exact decide_eq_true (HL2.out.2 h0)
        clear HB HG
        refine wp_region_grown (by kernel_rfl) (by kernel_rfl) ?_
        repeat (go_big_quiet_step (first | (go_at_call 109; with_reducible exact grown_call (HV.out _))))
        refine wpQuiet_nil ?_
        intro w7 hw_
        have hB7 := grown_below hw_
        clear hw_
        go_wp2
        refine bodyPost_ret (v := .tuple #[.int .i64 (M : Int), .int .i64 ((a : Int) + 3 + 1), .bool true]) (by simp [results, Tryz.results172, go_sem, *]) rfl ?_
        exact ⟨by rw [HE.out]; exact ret_rv (congrArg (fun q : Nat => (q : Int)) HMM.out) (by omega), hB.trans (hB7.mono hz)⟩
    · have hm : m < 16384 := HP.out.lt
      have hwk : IntKind.i64.wrap ((a : Int) + 2) = (a : Int) + 2 := by rw [IntWalk.i64_in] <;> omega
      have hwl : IntKind.i64.wrap ((a : Int) + 2 + 1) = (a : Int) + 2 + 1 := by rw [IntWalk.i64_in] <;> omega
      have hei : (((a + 2 : Nat) : Nat) : Int) = (a : Int) + 2 := by omega
      have hep : ((128 ^ 2 : Nat) : Int) = 16384 := by decide
      rw [hei, hep]
      clear hei hep
      by_cases hlt : a + 2 < t.size
      rotate_left
      · have HE : Hid (R = none) := Lib.hid (hR.out.trans (rdGo_out hlt))
        clear hR
        go_wp2
        refine bodyPost_ret (v := .tuple #[.int .i64 0, .int .i64 0, .bool false]) (by simp [results, Tryz.results172, go_sem, *]) rfl ?_
        exact ⟨by rw [HE.out]; rfl, hB⟩
      have HM := Lib.hid (fun h => hR.out.trans (rdGo_more (f := 2) (n := m) hlt h))
      have HB := Lib.hid (fun h1 h2 => hR.out.trans (rdGo_bad (f := 2) (n := m) hlt h1 h2))
      have HG := Lib.hid (fun h1 h2 => hR.out.trans (rdGo_good (f := 2) (n := m) hlt h1 h2))
      have HS := Lib.hid (fun h => HP.out.step hlt h)
      have HL := Lib.hid (fun h => HP.out.last hlt h)
      have hb : t[a + 2].toNat < 256 := t[a + 2].toNat_lt
      have hlz : (a : Int) + 2 < (t.size : Int) := by omega
      have hl5 : (a : Int) + 2 < (a : Int) + 5 := by omega
      clear hR HP
      by_cases h128 : t[a + 2].toNat < 128
      rotate_left
      · have HE := Lib.hid (HM.out h128)
        have HP2 := Lib.hid (HS.out h128)
        clear HM HB HG HS HL
        go_wp2
        go_roundw
        case rel => exact ⟨3, m + t[a + 2].toNat % 128 * 16384, by omega, by omega, congrArg (Value.int .i64) (by omega), congrArg (Value.int .i64) (by decide), congrArg (Value.int .i64) (by omega), Lib.hid HP2.out, Lib.hid HE.out, hB⟩
        case measure => first | (simp [intOf]; done) | (simp [intOf]; omega)
      clear HM HS
      go_wp2_with (fail)
      obtain ⟨M, hM⟩ : ∃ M : Nat, M = m + t[a + 2].toNat % 128 * 16384 := ⟨_, rfl⟩
      have hMi : (m : Int) + (t[a + 2].toNat : Int) % 128 * 16384 = (M : Int) := by omega
      rw [hMi]
      clear hMi
      have HMM := Lib.hid hM
      have hs1 : (a : Int) ≤ (a : Int) + 2 + 1 := by omega
      have hs2 : (a : Int) + 2 + 1 ≤ (t.size : Int) := by omega
      clear hM
      by_cases hn : 1000000000 < M
      · have HE : Hid (R = none) := Lib.hid (HB.out h128 (.inr (by rw [← show M = m + t[a + 2].toNat % 128 * 128 ^ 2 from HMM.out]; exact hn)))
        clear HB HG HL
        have dn : decide ((1000000000 : Int) < (M : Int)) = true := by rw [decide_eq_true_iff]; omega
        refine wp_region_grown (by kernel_rfl) (by kernel_rfl) ?_
        repeat (go_big_quiet_step (first | fail))
        refine wpQuiet_nil ?_
        intro w7 hw_
        have hB7 := grown_below hw_
        clear hw_
        go_wp2
        refine bodyPost_ret (v := .tuple #[.int .i64 0, .int .i64 0, .bool false]) (by simp [results, Tryz.results172, go_sem, *]) rfl ?_
        exact ⟨by rw [HE.out]; rfl, hB.trans (hB7.mono hz)⟩
      have dn : decide ((1000000000 : Int) < (M : Int)) = false := by rw [decide_eq_false_iff_not]; omega
      have HV := Lib.hid (fun W => spec_l01Var M W (by omega))
      have HL2 : Hid (varT M = t.extract a (a + 2 + 1) ↔ ¬ (t[a + 2].toNat = 0 ∧ 0 < 2)) := Lib.hid (by rw [HMM.out]; exact HL.out h128)
      obtain ⟨E, hE⟩ : ∃ E, t.extract a (a + 2 + 1) = E := ⟨_, rfl⟩
      obtain ⟨V, hV⟩ : ∃ V, varT M = V := ⟨_, rfl⟩
      rw [hE, hV] at HL2
      rw [hV] at HV
      have HQ := Lib.hid (str_dec V E)
      clear hV HL
      by_cases h0 : t[a + 2].toNat = 0 ∧ 0 < 2
      · have HE : Hid (R = none) := Lib.hid (HB.out h128 (.inl h0))
        have hcmp : (V.toList == E.toList) = false := by rw [HQ.out]; exact decide_eq_false (fun e => HL2.out.1 e h0)
        clear HB HG
        refine wp_region_grown (by kernel_rfl) (by kernel_rfl) ?_
        repeat (go_big_quiet_step (first | (go_at_call 109; with_reducible exact grown_call (HV.out _))))
        refine wpQuiet_nil ?_
        intro w7 hw_
        have hB7 := grown_below hw_
        clear hw_
        go_wp2
        refine bodyPost_ret (v := .tuple #[.int .i64 0, .int .i64 0, .bool false]) (by simp [results, Tryz.results172, go_sem, *]) rfl ?_
        exact ⟨by rw [HE.out]; rfl, hB.trans (hB7.mono hz)⟩
      · have HE := Lib.hid (HG.out h128 (by rintro (hh | hh); exact h0 hh; exact hn (by rw [show M = m + t[a + 2].toNat % 128 * 128 ^ 2 from HMM.out]; exact hh)))
        have hcmp : (V.toList == E.toList) = true := by rw [HQ.out]; exact decide_eq_true (HL2.out.2 h0)
        clear HB HG
        refine wp_region_grown (by kernel_rfl) (by kernel_rfl) ?_
        repeat (go_big_quiet_step (first | (go_at_call 109; with_reducible exact grown_call (HV.out _))))
        refine wpQuiet_nil ?_
        intro w7 hw_
        have hB7 := grown_below hw_
        clear hw_
        go_wp2
        refine bodyPost_ret (v := .tuple #[.int .i64 (M : Int), .int .i64 ((a : Int) + 2 + 1), .bool true]) (by simp [results, Tryz.results172, go_sem, *]) rfl ?_
        exact ⟨by rw [HE.out]; exact ret_rv (congrArg (fun q : Nat => (q : Int)) HMM.out) (by omega), hB.trans (hB7.mono hz)⟩
    · have hm : m < 128 := HP.out.lt
      have hwk : IntKind.i64.wrap ((a : Int) + 1) = (a : Int) + 1 := by rw [IntWalk.i64_in] <;> omega
      have hwl : IntKind.i64.wrap ((a : Int) + 1 + 1) = (a : Int) + 1 + 1 := by rw [IntWalk.i64_in] <;> omega
      have hei : (((a + 1 : Nat) : Nat) : Int) = (a : Int) + 1 := by omega
      have hep : ((128 ^ 1 : Nat) : Int) = 128 := by decide
      rw [hei, hep]
      clear hei hep
      by_cases hlt : a + 1 < t.size
      rotate_left
      · have HE : Hid (R = none) := Lib.hid (hR.out.trans (rdGo_out hlt))
        clear hR
        go_wp2
        refine bodyPost_ret (v := .tuple #[.int .i64 0, .int .i64 0, .bool false]) (by simp [results, Tryz.results172, go_sem, *]) rfl ?_
        exact ⟨by rw [HE.out]; rfl, hB⟩
      have HM := Lib.hid (fun h => hR.out.trans (rdGo_more (f := 3) (n := m) hlt h))
      have HB := Lib.hid (fun h1 h2 => hR.out.trans (rdGo_bad (f := 3) (n := m) hlt h1 h2))
      have HG := Lib.hid (fun h1 h2 => hR.out.trans (rdGo_good (f := 3) (n := m) hlt h1 h2))
      have HS := Lib.hid (fun h => HP.out.step hlt h)
      have HL := Lib.hid (fun h => HP.out.last hlt h)
      have hb : t[a + 1].toNat < 256 := t[a + 1].toNat_lt
      have hlz : (a : Int) + 1 < (t.size : Int) := by omega
      have hl5 : (a : Int) + 1 < (a : Int) + 5 := by omega
      clear hR HP
      by_cases h128 : t[a + 1].toNat < 128
      rotate_left
      · have HE := Lib.hid (HM.out h128)
        have HP2 := Lib.hid (HS.out h128)
        clear HM HB HG HS HL
        go_wp2
        go_roundw
        case rel => exact ⟨2, m + t[a + 1].toNat % 128 * 128, by omega, by omega, congrArg (Value.int .i64) (by omega), congrArg (Value.int .i64) (by decide), congrArg (Value.int .i64) (by omega), Lib.hid HP2.out, Lib.hid HE.out, hB⟩
        case measure => first | (simp [intOf]; done) | (simp [intOf]; omega)
      clear HM HS
      go_wp2_with (fail)
      obtain ⟨M, hM⟩ : ∃ M : Nat, M = m + t[a + 1].toNat % 128 * 128 := ⟨_, rfl⟩
      have hMi : (m : Int) + (t[a + 1].toNat : Int) % 128 * 128 = (M : Int) := by omega
      rw [hMi]
      clear hMi
      have HMM := Lib.hid hM
      have hs1 : (a : Int) ≤ (a : Int) + 1 + 1 := by omega
      have hs2 : (a : Int) + 1 + 1 ≤ (t.size : Int) := by omega
      clear hM
      by_cases hn : 1000000000 < M
      · have HE : Hid (R = none) := Lib.hid (HB.out h128 (.inr (by rw [← show M = m + t[a + 1].toNat % 128 * 128 ^ 1 from HMM.out]; exact hn)))
        clear HB HG HL
        have dn : decide ((1000000000 : Int) < (M : Int)) = true := by rw [decide_eq_true_iff]; omega
        refine wp_region_grown (by kernel_rfl) (by kernel_rfl) ?_
        repeat (go_big_quiet_step (first | fail))
        refine wpQuiet_nil ?_
        intro w7 hw_
        have hB7 := grown_below hw_
        clear hw_
        go_wp2
        refine bodyPost_ret (v := .tuple #[.int .i64 0, .int .i64 0, .bool false]) (by simp [results, Tryz.results172, go_sem, *]) rfl ?_
        exact ⟨by rw [HE.out]; rfl, hB.trans (hB7.mono hz)⟩
      have dn : decide ((1000000000 : Int) < (M : Int)) = false := by rw [decide_eq_false_iff_not]; omega
      have HV := Lib.hid (fun W => spec_l01Var M W (by omega))
      have HL2 : Hid (varT M = t.extract a (a + 1 + 1) ↔ ¬ (t[a + 1].toNat = 0 ∧ 0 < 1)) := Lib.hid (by rw [HMM.out]; exact HL.out h128)
      obtain ⟨E, hE⟩ : ∃ E, t.extract a (a + 1 + 1) = E := ⟨_, rfl⟩
      obtain ⟨V, hV⟩ : ∃ V, varT M = V := ⟨_, rfl⟩
      rw [hE, hV] at HL2
      rw [hV] at HV
      have HQ := Lib.hid (str_dec V E)
      clear hV HL
      by_cases h0 : t[a + 1].toNat = 0 ∧ 0 < 1
      · have HE : Hid (R = none) := Lib.hid (HB.out h128 (.inl h0))
        have hcmp : (V.toList == E.toList) = false := by rw [HQ.out]; exact decide_eq_false (fun e => HL2.out.1 e h0)
        clear HB HG
        refine wp_region_grown (by kernel_rfl) (by kernel_rfl) ?_
        repeat (go_big_quiet_step (first | (go_at_call 109; with_reducible exact grown_call (HV.out _))))
        refine wpQuiet_nil ?_
        intro w7 hw_
        have hB7 := grown_below hw_
        clear hw_
        go_wp2
        refine bodyPost_ret (v := .tuple #[.int .i64 0, .int .i64 0, .bool false]) (by simp [results, Tryz.results172, go_sem, *]) rfl ?_
        exact ⟨by rw [HE.out]; rfl, hB.trans (hB7.mono hz)⟩
      · have HE := Lib.hid (HG.out h128 (by rintro (hh | hh); exact h0 hh; exact hn (by rw [show M = m + t[a + 1].toNat % 128 * 128 ^ 1 from HMM.out]; exact hh)))
        have hcmp : (V.toList == E.toList) = true := by rw [HQ.out]; exact decide_eq_true (HL2.out.2 h0)
        clear HB HG
        refine wp_region_grown (by kernel_rfl) (by kernel_rfl) ?_
        repeat (go_big_quiet_step (first | (go_at_call 109; with_reducible exact grown_call (HV.out _))))
        refine wpQuiet_nil ?_
        intro w7 hw_
        have hB7 := grown_below hw_
        clear hw_
        go_wp2
        refine bodyPost_ret (v := .tuple #[.int .i64 (M : Int), .int .i64 ((a : Int) + 1 + 1), .bool true]) (by simp [results, Tryz.results172, go_sem, *]) rfl ?_
        exact ⟨by rw [HE.out]; exact ret_rv (congrArg (fun q : Nat => (q : Int)) HMM.out) (by omega), hB.trans (hB7.mono hz)⟩
    · obtain rfl : m = 0 := by have h9 : m < 1 := HP.out.lt; omega
      have hwl : IntKind.i64.wrap ((a : Int) + 1) = (a : Int) + 1 := by rw [IntWalk.i64_in] <;> omega
      have hei : (((a + 0 : Nat) : Nat) : Int) = (a : Int) := by omega
      have hep : ((128 ^ 0 : Nat) : Int) = 1 := by decide
      rw [hei, hep]
      clear hei hep
      by_cases hlt : a < t.size
      rotate_left
      · have HE : Hid (R = none) := Lib.hid (hR.out.trans (rdGo_out hlt))
        clear hR
        go_wp2
        refine bodyPost_ret (v := .tuple #[.int .i64 0, .int .i64 0, .bool false]) (by simp [results, Tryz.results172, go_sem, *]) rfl ?_
        exact ⟨by rw [HE.out]; rfl, hB⟩
      have HM := Lib.hid (fun (h : ¬ t[a].toNat < 128) => hR.out.trans (rdGo_more (f := 4) (k := 0) (n := 0) hlt h))
      have HB := Lib.hid (fun (h1 : t[a].toNat < 128) (h2 : (t[a].toNat = 0 ∧ 0 < 0) ∨ 1000000000 < 0 + t[a].toNat % 128 * 1) => hR.out.trans (rdGo_bad (f := 4) (k := 0) (n := 0) hlt h1 h2))
      have HG := Lib.hid (fun (h1 : t[a].toNat < 128) (h2 : ¬ ((t[a].toNat = 0 ∧ 0 < 0) ∨ 1000000000 < 0 + t[a].toNat % 128 * 1)) => hR.out.trans (rdGo_good (f := 4) (k := 0) (n := 0) hlt h1 h2))
      have HS := Lib.hid (fun (h : ¬ t[a].toNat < 128) => HP.out.step (k := 0) hlt h)
      have HL := Lib.hid (fun (h : t[a].toNat < 128) => HP.out.last (k := 0) hlt h)
      have hb : t[a].toNat < 256 := t[a].toNat_lt
      have hlz : (a : Int) < (t.size : Int) := by omega
      have hl5 : (a : Int) < (a : Int) + 5 := by omega
      clear hR HP
      by_cases h128 : t[a].toNat < 128
      rotate_left
      · have HE := Lib.hid (HM.out h128)
        have HP2 := Lib.hid (HS.out h128)
        clear HM HB HG HS HL
        go_wp2
        go_roundw
        case rel => exact ⟨1, 0 + t[a].toNat % 128 * 1, by omega, by omega, congrArg (Value.int .i64) (by omega), congrArg (Value.int .i64) (by decide), congrArg (Value.int .i64) (by omega), Lib.hid HP2.out, Lib.hid HE.out, hB⟩
        case measure => first | (simp [intOf]; done) | (simp [intOf]; omega)
      clear HM HS
      go_wp2_with (fail)
      obtain ⟨M, hM⟩ : ∃ M : Nat, M = 0 + t[a].toNat % 128 * 1 := ⟨_, rfl⟩
      have hMi : (t[a].toNat : Int) % 128 = (M : Int) := by omega
      rw [hMi]
      clear hMi
      have HMM := Lib.hid hM
      have hs1 : (a : Int) ≤ (a : Int) + 1 := by omega
      have hs2 : (a : Int) + 1 ≤ (t.size : Int) := by omega
      clear hM
      by_cases hn : 1000000000 < M
      · have HE : Hid (R = none) := Lib.hid (HB.out h128 (.inr (by rw [← show M = 0 + t[a].toNat % 128 * 1 from HMM.out]; exact hn)))
        clear HB HG HL
        have dn : decide ((1000000000 : Int) < (M : Int)) = true := by rw [decide_eq_true_iff]; omega
        refine wp_region_grown (by kernel_rfl) (by kernel_rfl) ?_
        repeat (go_big_quiet_step (first | fail))
        refine wpQuiet_nil ?_
        intro w7 hw_
        have hB7 := grown_below hw_
        clear hw_
        go_wp2
        refine bodyPost_ret (v := .tuple #[.int .i64 0, .int .i64 0, .bool false]) (by simp [results, Tryz.results172, go_sem, *]) rfl ?_
        exact ⟨by rw [HE.out]; rfl, hB.trans (hB7.mono hz)⟩
      have dn : decide ((1000000000 : Int) < (M : Int)) = false := by rw [decide_eq_false_iff_not]; omega
      have HV := Lib.hid (fun W => spec_l01Var M W (by omega))
      have HL2 : Hid (varT M = t.extract a (a + 1) ↔ ¬ (t[a].toNat = 0 ∧ 0 < 0)) := Lib.hid (by rw [HMM.out]; exact HL.out h128)
      obtain ⟨E, hE⟩ : ∃ E, t.extract a (a + 1) = E := ⟨_, rfl⟩
      obtain ⟨V, hV⟩ : ∃ V, varT M = V := ⟨_, rfl⟩
      rw [hE, hV] at HL2
      rw [hV] at HV
      have HQ := Lib.hid (str_dec V E)
      clear hV HL
      by_cases h0 : t[a].toNat = 0 ∧ 0 < 0
      · have HE : Hid (R = none) := Lib.hid (HB.out h128 (.inl h0))
        have hcmp : (V.toList == E.toList) = false := by rw [HQ.out]; exact decide_eq_false (fun e => HL2.out.1 e h0)
        clear HB HG
        refine wp_region_grown (by kernel_rfl) (by kernel_rfl) ?_
        repeat (go_big_quiet_step (first | (go_at_call 109; with_reducible exact grown_call (HV.out _))))
        refine wpQuiet_nil ?_
        intro w7 hw_
        have hB7 := grown_below hw_
        clear hw_
        go_wp2
        refine bodyPost_ret (v := .tuple #[.int .i64 0, .int .i64 0, .bool false]) (by simp [results, Tryz.results172, go_sem, *]) rfl ?_
        exact ⟨by rw [HE.out]; rfl, hB.trans (hB7.mono hz)⟩
      · have HE := Lib.hid (HG.out h128 (by rintro (hh | hh); exact h0 hh; exact hn (by rw [show M = 0 + t[a].toNat % 128 * 1 from HMM.out]; exact hh)))
        have hcmp : (V.toList == E.toList) = true := by rw [HQ.out]; exact decide_eq_true (HL2.out.2 h0)
        clear HB HG
        refine wp_region_grown (by kernel_rfl) (by kernel_rfl) ?_
        repeat (go_big_quiet_step (first | (go_at_call 109; with_reducible exact grown_call (HV.out _))))
        refine wpQuiet_nil ?_
        intro w7 hw_
        have hB7 := grown_below hw_
        clear hw_
        go_wp2
        refine bodyPost_ret (v := .tuple #[.int .i64 (M : Int), .int .i64 ((a : Int) + 1), .bool true]) (by simp [results, Tryz.results172, go_sem, *]) rfl ?_
        exact ⟨by rw [HE.out]; exact ret_rv (congrArg (fun q : Nat => (q : Int)) HMM.out) (by omega), hB.trans (hB7.mono hz)⟩
end Go.Proofs.YtlfnmbcnehaikaaGreatDoor

set_option linter.unusedVariables false
set_option linter.unusedSimpArgs false
namespace Go.Proofs.YtlfnmbcnehaikaaGreatDoor
open Go.RowKit Lay Mk

theorem copySig_end (w W1 W w3 : World) (x : Sig) (f0 : I64 x.at_) {B0 : Option Addr} {j0 : Nat} {T0 : Blks} (g0 : x.open_.length ≤ j0) (h0 : j0 ≤ maxLen) (n0 : Row true w3 B0 j0 x.open_ T0) (s0 : sub T0 (rng W.heap.size w3.heap.size))
    {B1 : Option Addr} {j1 : Nat} {T1 : Blks} (g1 : x.shut.length ≤ j1) (h1 : j1 ≤ maxLen) (n1 : Row true w3 B1 j1 x.shut T1) (s1 : sub T1 (rng W.heap.size w3.heap.size))
    {B2 : Option Addr} {j2 : Nat} {T2 : Blks} (g2 : x.sides.length ≤ j2) (h2 : j2 ≤ maxLen) (n2 : Row true w3 B2 j2 x.sides T2) (s2 : sub T2 (rng W.heap.size w3.heap.size))
    (d01 : disj T0 T1) (d02 : disj T0 T2) (d12 : disj T1 T2) (hwW1 : Below w.heap.size w W1) (hWW : Below W1.heap.size W1 W) (hWs1 : W1.heap.size = w.heap.size + 1) (hWs : W.heap.size = W1.heap.size + 1) (hB : Below W.heap.size W w3) {c0 c1 c2 c3 : Value} :
    rd true ((((w3.setCell ⟨w.heap.size + 1, 0, none⟩ c0).setCell ⟨w.heap.size + 1, 1, none⟩ c1).setCell ⟨w.heap.size + 1, 2, none⟩ c2).setCell ⟨w.heap.size + 1, 3, none⟩ c3) (Sig.cs x B0 j0 B1 j1 B2 j2) x (rng w.heap.size ((((w3.setCell ⟨w.heap.size + 1, 0, none⟩ c0).setCell ⟨w.heap.size + 1, 1, none⟩ c1).setCell ⟨w.heap.size + 1, 2, none⟩ c2).setCell ⟨w.heap.size + 1, 3, none⟩ c3).heap.size) ∧ Below w.heap.size w ((((w3.setCell ⟨w.heap.size + 1, 0, none⟩ c0).setCell ⟨w.heap.size + 1, 1, none⟩ c1).setCell ⟨w.heap.size + 1, 2, none⟩ c2).setCell ⟨w.heap.size + 1, 3, none⟩ c3) := by
  have hWl : W1.heap.size ≤ W.heap.size := by omega
  have no : ∀ T : Blks, sub T (rng W.heap.size w3.heap.size) → ¬ T (w.heap.size + 1) := fun T h x => by have := (h _ x).1; omega
  have up : ∀ T : Blks, sub T (rng W.heap.size w3.heap.size) → sub T (rng w.heap.size ((((w3.setCell ⟨w.heap.size + 1, 0, none⟩ c0).setCell ⟨w.heap.size + 1, 1, none⟩ c1).setCell ⟨w.heap.size + 1, 2, none⟩ c2).setCell ⟨w.heap.size + 1, 3, none⟩ c3).heap.size) := fun T h b x => by have := h b x; unfold rng at this ⊢; simp; omega
  exact ⟨Sig.mk' f0 g0 h0 (((n0.setC (no T0 s0) _).setC (no T0 s0) _ |>.setC (no T0 s0) _).setC (no T0 s0) _) (up T0 s0) g1 h1 (((n1.setC (no T1 s1) _).setC (no T1 s1) _ |>.setC (no T1 s1) _).setC (no T1 s1) _) (up T1 s1) g2 h2 (((n2.setC (no T2 s2) _).setC (no T2 s2) _ |>.setC (no T2 s2) _).setC (no T2 s2) _) (up T2 s2) (fun _ => pwmk3 d01 d02 d12), Below.trans hwW1 (Below.mono (show Below W1.heap.size W1 _ from (by (repeat (first | with_reducible exact hWW.trans (hB.mono hWl) | with_reducible apply Below.drew | with_reducible refine Below.alloc ?_ ?_ _ | with_reducible refine Below.setCell ?_ ?_ _)); all_goals (first | omega | (simp; done) | (simp; omega)))) (by omega))⟩

set_option maxRecDepth 20000 in set_option maxHeartbeats 8000000 in
theorem spec_l05Copy (w : World) (x : Sig) (cs : List Value) (S : Blks) (hx : rd false w cs x S) (l0 : x.open_.length ≤ 1048576) (l1 : x.shut.length ≤ 1048576) (l2 : x.sides.length ≤ 1048576) : Calls Tryz.prog 151 #[.agg cs.toArray] w fun e w' => ∃ A0 k0 A1 k1 A2 k2, e = .returned (.agg #[.int .i64 x.at_, .slice A0 x.open_.length k0, .slice A1 x.shut.length k1, .slice A2 x.sides.length k2]) ∧ rd true w' (Sig.cs x A0 k0 A1 k1 A2 k2) x (rng w.heap.size w'.heap.size) ∧ Below w.heap.size w w' := by
  obtain ⟨A0, k0, S0, A1, k1, S1, A2, k2, S2, rfl, f0, a0, b0, r0, s0, a1, b1, r1, s1, a2, b2, r2, s2, pw⟩ := Sig.open hx
  clear hx s0 s1 s2 pw
  simp only [Sig.cs]
  go_enter Tryz.func151, Tryz.ntmps151
  go_wp2_with (fail)
  generalize hW1 : w.alloc (.cells #[_, _, _, _] _) = W1
  have hwW1 : Below w.heap.size w W1 := by rw [← hW1]; exact (Below.refl _ _).alloc (Nat.le_refl _) _
  have hWs1 : W1.heap.size = w.heap.size + 1 := by rw [← hW1]; simp
  have q0 : W1.cell? ⟨w.heap.size, 0, none⟩ = some (.int .i64 x.at_) := by rw [← hW1]; exact box_cell _ _ _ _ _ rfl
  have q1 : W1.cell? ⟨w.heap.size, 1, none⟩ = some (.slice A0 x.open_.length k0) := by rw [← hW1]; exact box_cell _ _ _ _ _ rfl
  have q2 : W1.cell? ⟨w.heap.size, 2, none⟩ = some (.slice A1 x.shut.length k1) := by rw [← hW1]; exact box_cell _ _ _ _ _ rfl
  have q3 : W1.cell? ⟨w.heap.size, 3, none⟩ = some (.slice A2 x.sides.length k2) := by rw [← hW1]; exact box_cell _ _ _ _ _ rfl
  clear hW1
  generalize hW : W1.alloc (.cells #[_, _, _, _] _) = W
  have hWW : Below W1.heap.size W1 W := by rw [← hW]; exact (Below.refl _ _).alloc (Nat.le_refl _) _
  have hWs : W.heap.size = W1.heap.size + 1 := by rw [← hW]; simp
  have z0 : W.cell? ⟨w.heap.size + 1, 0, none⟩ = some (.int .i64 0) := by rw [← hWs1, ← hW]; exact box_cell _ _ _ _ _ rfl
  have z1 : W.cell? ⟨w.heap.size + 1, 1, none⟩ = some (.slice none 0 0) := by rw [← hWs1, ← hW]; exact box_cell _ _ _ _ _ rfl
  have z2 : W.cell? ⟨w.heap.size + 1, 2, none⟩ = some (.slice none 0 0) := by rw [← hWs1, ← hW]; exact box_cell _ _ _ _ _ rfl
  have z3 : W.cell? ⟨w.heap.size + 1, 3, none⟩ = some (.slice none 0 0) := by rw [← hWs1, ← hW]; exact box_cell _ _ _ _ _ rfl
  have zf : ∀ o, W.frozen? ⟨w.heap.size + 1, o, none⟩ = false := by intro o; rw [← hWs1, ← hW]; simp
  clear hW
  have hWl : W1.heap.size ≤ W.heap.size := by omega
  have hB := Below.refl W.heap.size W
  have HM := Lib.hid (fun (w' : World) (h : Below W1.heap.size W1 w') => (⟨(h.cell (p := ⟨w.heap.size, 0, none⟩) (show w.heap.size < W1.heap.size by omega)).trans q0, (h.cell (p := ⟨w.heap.size, 1, none⟩) (show w.heap.size < W1.heap.size by omega)).trans q1, (h.cell (p := ⟨w.heap.size, 2, none⟩) (show w.heap.size < W1.heap.size by omega)).trans q2, (h.cell (p := ⟨w.heap.size, 3, none⟩) (show w.heap.size < W1.heap.size by omega)).trans q3, h⟩ : w'.cell? ⟨w.heap.size, 0, none⟩ = some (.int .i64 x.at_) ∧ w'.cell? ⟨w.heap.size, 1, none⟩ = some (.slice A0 x.open_.length k0) ∧ w'.cell? ⟨w.heap.size, 2, none⟩ = some (.slice A1 x.shut.length k1) ∧ w'.cell? ⟨w.heap.size, 3, none⟩ = some (.slice A2 x.sides.length k2) ∧ Below W1.heap.size W1 w'))
  have hwW := hwW1.trans (hWW.mono (by omega))
  go_region_held3 (fun w' => w'.cell? ⟨w.heap.size, 0, none⟩ = some (.int .i64 x.at_) ∧ w'.cell? ⟨w.heap.size, 1, none⟩ = some (.slice A0 x.open_.length k0) ∧ w'.cell? ⟨w.heap.size, 2, none⟩ = some (.slice A1 x.shut.length k1) ∧ w'.cell? ⟨w.heap.size, 3, none⟩ = some (.slice A2 x.sides.length k2) ∧ Below W1.heap.size W1 w')
      (first | exact HM.out _ (by (repeat (first | with_reducible exact hWW.trans (hB.mono hWl) | with_reducible apply Below.drew | with_reducible refine Below.alloc ?_ ?_ _ | with_reducible refine Below.setCell ?_ ?_ _)); all_goals (first | omega | (simp; done) | (simp; omega))))
      (first | (refine step_lit (α := ByteArray) (ys := x.open_) rfl _ _ rfl rfl rfl rfl ?_ (Row.later r0 (hwW.trans (Below.mono ?_ (show w.heap.size ≤ W.heap.size by omega)))) (by omega) ?_; (focus (repeat (first | (refine heap_newb _ _ _ ?_; (first | omega | (simp; done) | (simp; omega))) | (refine Eq.trans (Below.heap_alloc _ _ _ ?_) ?_; (focus (first | omega | (simp; done) | (simp; omega)))) | (refine Eq.trans (kp0 _ ?_ ?_) ?_; (focus (first | omega | (simp; done) | (simp; omega))); (focus show ¬ _ = _; (first | omega | (simp; done) | (simp; omega)))) | (refine Eq.trans (kp1 _ ?_ ?_) ?_; (focus (first | omega | (simp; done) | (simp; omega))); (focus show ¬ _ = _; (first | omega | (simp; done) | (simp; omega))))))); (focus exact (by (repeat (first | with_reducible exact hB | with_reducible apply Below.drew | with_reducible refine Below.alloc ?_ ?_ _)); all_goals (first | omega | (simp; done) | (simp; omega)))); intro B0 j0 w1 g0 h0 n0 c0; have hs1 := c0.size; (try simp at hs1); have kp0 := c0.block;  have hB := Below.trans (a := W) (by (repeat (first | with_reducible exact hB | with_reducible apply Below.drew | with_reducible refine Below.alloc ?_ ?_ _)); all_goals (first | omega | (simp; done) | (simp; omega))) (c0.to_below (B := W.heap.size) (by first | omega | (simp; done) | (simp; omega)) (fun y hy => by rw [show y = _ from hy]; (first | omega | (simp; done) | (simp; omega))))) | (refine step_lit (α := ByteArray) (ys := x.shut) rfl _ _ rfl rfl rfl rfl ?_ (Row.later r1 (hwW.trans (Below.mono ?_ (show w.heap.size ≤ W.heap.size by omega)))) (by omega) ?_; (focus (repeat (first | (refine heap_newb _ _ _ ?_; (first | omega | (simp; done) | (simp; omega))) | (refine Eq.trans (Below.heap_alloc _ _ _ ?_) ?_; (focus (first | omega | (simp; done) | (simp; omega)))) | (refine Eq.trans (kp0 _ ?_ ?_) ?_; (focus (first | omega | (simp; done) | (simp; omega))); (focus show ¬ _ = _; (first | omega | (simp; done) | (simp; omega)))) | (refine Eq.trans (kp1 _ ?_ ?_) ?_; (focus (first | omega | (simp; done) | (simp; omega))); (focus show ¬ _ = _; (first | omega | (simp; done) | (simp; omega))))))); (focus exact (by (repeat (first | with_reducible exact hB | with_reducible apply Below.drew | with_reducible refine Below.alloc ?_ ?_ _)); all_goals (first | omega | (simp; done) | (simp; omega)))); intro B1 j1 w2 g1 h1 n1 c1; have hs2 := c1.size; (try simp at hs2); have kp1 := c1.block; have n0 := Row.viaChg n0 (by (repeat (first | with_reducible exact Below.refl _ _ | with_reducible refine Below.alloc ?_ ?_ _ | with_reducible apply Below.drew)); all_goals (first | omega | (simp; done) | (simp; omega))) c1 (own_chg (by (first | omega | (simp; done) | (simp; omega))) (by (first | omega | (simp; done) | (simp; omega))));  have hB := Below.trans (a := W) (by (repeat (first | with_reducible exact hB | with_reducible apply Below.drew | with_reducible refine Below.alloc ?_ ?_ _)); all_goals (first | omega | (simp; done) | (simp; omega))) (c1.to_below (B := W.heap.size) (by first | omega | (simp; done) | (simp; omega)) (fun y hy => by rw [show y = _ from hy]; (first | omega | (simp; done) | (simp; omega))))) | (refine step_lit (α := ByteArray) (ys := x.sides) rfl _ _ rfl rfl rfl rfl ?_ (Row.later r2 (hwW.trans (Below.mono ?_ (show w.heap.size ≤ W.heap.size by omega)))) (by omega) ?_; (focus (repeat (first | (refine heap_newb _ _ _ ?_; (first | omega | (simp; done) | (simp; omega))) | (refine Eq.trans (Below.heap_alloc _ _ _ ?_) ?_; (focus (first | omega | (simp; done) | (simp; omega)))) | (refine Eq.trans (kp0 _ ?_ ?_) ?_; (focus (first | omega | (simp; done) | (simp; omega))); (focus show ¬ _ = _; (first | omega | (simp; done) | (simp; omega)))) | (refine Eq.trans (kp1 _ ?_ ?_) ?_; (focus (first | omega | (simp; done) | (simp; omega))); (focus show ¬ _ = _; (first | omega | (simp; done) | (simp; omega))))))); (focus exact (by (repeat (first | with_reducible exact hB | with_reducible apply Below.drew | with_reducible refine Below.alloc ?_ ?_ _)); all_goals (first | omega | (simp; done) | (simp; omega)))); intro B2 j2 w3 g2 h2 n2 c2; have hs3 := c2.size; (try simp at hs3); have kp2 := c2.block; have n0 := Row.viaChg n0 (by (repeat (first | with_reducible exact Below.refl _ _ | with_reducible refine Below.alloc ?_ ?_ _ | with_reducible apply Below.drew)); all_goals (first | omega | (simp; done) | (simp; omega))) c2 (own_chg (by (first | omega | (simp; done) | (simp; omega))) (by (first | omega | (simp; done) | (simp; omega)))); have n1 := Row.viaChg n1 (by (repeat (first | with_reducible exact Below.refl _ _ | with_reducible refine Below.alloc ?_ ?_ _ | with_reducible apply Below.drew)); all_goals (first | omega | (simp; done) | (simp; omega))) c2 (own_chg (by (first | omega | (simp; done) | (simp; omega))) (by (first | omega | (simp; done) | (simp; omega))));  have hB := Below.trans (a := W) (by (repeat (first | with_reducible exact hB | with_reducible apply Below.drew | with_reducible refine Below.alloc ?_ ?_ _)); all_goals (first | omega | (simp; done) | (simp; omega))) (c2.to_below (B := W.heap.size) (by first | omega | (simp; done) | (simp; omega)) (fun y hy => by rw [show y = _ from hy]; (first | omega | (simp; done) | (simp; omega)))); have y20 := (hB.cell (p := ⟨w.heap.size + 1, 0, none⟩) (show w.heap.size + 1 < W.heap.size by omega)).trans z0; have y21 := (hB.cell (p := ⟨w.heap.size + 1, 1, none⟩) (show w.heap.size + 1 < W.heap.size by omega)).trans z1; have y22 := (hB.cell (p := ⟨w.heap.size + 1, 2, none⟩) (show w.heap.size + 1 < W.heap.size by omega)).trans z2; have y23 := (hB.cell (p := ⟨w.heap.size + 1, 3, none⟩) (show w.heap.size + 1 < W.heap.size by omega)).trans z3; have yf2 := fun o => (hB.frozen (p := ⟨w.heap.size + 1, o, none⟩) (show w.heap.size + 1 < W.heap.size by omega)).trans (zf o)))
  all_goals
    clear q0 q1 q2 q3 z0 z1 z2 z3 zf HM r0 r1 r2 a0 a1 a2 b0 b1 b2 kp0 kp1 kp2
    go_wp2
    refine bodyPost_ret (v := .agg #[.int .i64 x.at_, .slice B0 x.open_.length j0, .slice B1 x.shut.length j1, .slice B2 x.sides.length j2]) (by simp [results, Tryz.results151, go_sem, y20, y21, y22, y23, yf2]) rfl ?_
    exact ⟨B0, j0, B1, j1, B2, j2, rfl, copySig_end w W1 W _ x f0 g0 h0 n0 (by refine own_sub ?_ ?_ ?_ ?_ <;> (first | omega | (simp; done) | (simp; omega))) g1 h1 n1 (by refine own_sub ?_ ?_ ?_ ?_ <;> (first | omega | (simp; done) | (simp; omega))) g2 h2 n2 (by refine own_sub ?_ ?_ ?_ ?_ <;> (first | omega | (simp; done) | (simp; omega))) (by refine own_disj ?_ ?_ ?_ ?_ <;> (first | omega | (simp; done) | (simp; omega))) (by refine own_disj ?_ ?_ ?_ ?_ <;> (first | omega | (simp; done) | (simp; omega))) (by refine own_disj ?_ ?_ ?_ ?_ <;> (first | omega | (simp; done) | (simp; omega))) hwW1 hWW hWs1 hWs hB⟩

set_option maxRecDepth 20000 in set_option maxHeartbeats 4000000 in
theorem spec_l14Copy (w : World) (x : Seal) (cs : List Value) (S : Blks) (hx : rd false w cs x S) (l0 : x.sig.open_.length ≤ 1048576) (l1 : x.sig.shut.length ≤ 1048576) (l2 : x.sig.sides.length ≤ 1048576) : Calls Tryz.prog 104 #[.agg cs.toArray] w fun e w' => ∃ A0 k0 A1 k1 A2 k2, e = .returned (.agg #[.int .i64 x.head.house, .int .i64 x.head.epoch, .string x.head.root, .string x.head.prev, .int .i64 x.sig.at_, .slice A0 x.sig.open_.length k0, .slice A1 x.sig.shut.length k1, .slice A2 x.sig.sides.length k2]) ∧ rd true w' (Seal.cs x A0 k0 A1 k1 A2 k2) x (rng w.heap.size w'.heap.size) ∧ Below w.heap.size w w' := by
  obtain ⟨A0, k0, S0, A1, k1, S1, A2, k2, S2, rfl, f0, f1, f2, f3, f4, a0, b0, r0, s0, a1, b1, r1, s1, a2, b2, r2, s2, pw⟩ := Seal.open hx
  clear hx s0 s1 s2 pw
  simp only [Seal.cs]
  go_enter Tryz.func104, Tryz.ntmps104
  go_wp2_with (fail)
  generalize hW1 : w.alloc (.cells #[_, _, _, _, _, _, _, _] _) = W1
  have hwW1 : Below w.heap.size w W1 := by rw [← hW1]; exact (Below.refl _ _).alloc (Nat.le_refl _) _
  have hWs1 : W1.heap.size = w.heap.size + 1 := by rw [← hW1]; simp
  have q0 : W1.cell? ⟨w.heap.size, 0, none⟩ = some (.int .i64 x.head.house) := by rw [← hW1]; exact box_cell _ _ _ _ _ rfl
  have q1 : W1.cell? ⟨w.heap.size, 1, none⟩ = some (.int .i64 x.head.epoch) := by rw [← hW1]; exact box_cell _ _ _ _ _ rfl
  have q2 : W1.cell? ⟨w.heap.size, 2, none⟩ = some (.string x.head.root) := by rw [← hW1]; exact box_cell _ _ _ _ _ rfl
  have q3 : W1.cell? ⟨w.heap.size, 3, none⟩ = some (.string x.head.prev) := by rw [← hW1]; exact box_cell _ _ _ _ _ rfl
  have q4 : W1.cell? ⟨w.heap.size, 4, none⟩ = some (.int .i64 x.sig.at_) := by rw [← hW1]; exact box_cell _ _ _ _ _ rfl
  have q5 : W1.cell? ⟨w.heap.size, 5, none⟩ = some (.slice A0 x.sig.open_.length k0) := by rw [← hW1]; exact box_cell _ _ _ _ _ rfl
  have q6 : W1.cell? ⟨w.heap.size, 6, none⟩ = some (.slice A1 x.sig.shut.length k1) := by rw [← hW1]; exact box_cell _ _ _ _ _ rfl
  have q7 : W1.cell? ⟨w.heap.size, 7, none⟩ = some (.slice A2 x.sig.sides.length k2) := by rw [← hW1]; exact box_cell _ _ _ _ _ rfl
  clear hW1
  generalize hW : W1.alloc (.cells #[_, _, _, _, _, _, _, _] _) = W
  have hWW : Below W1.heap.size W1 W := by rw [← hW]; exact (Below.refl _ _).alloc (Nat.le_refl _) _
  have hWs : W.heap.size = W1.heap.size + 1 := by rw [← hW]; simp
  have z0 : W.cell? ⟨w.heap.size + 1, 0, none⟩ = some (.int .i64 0) := by rw [← hWs1, ← hW]; exact box_cell _ _ _ _ _ rfl
  have z1 : W.cell? ⟨w.heap.size + 1, 1, none⟩ = some (.int .i64 0) := by rw [← hWs1, ← hW]; exact box_cell _ _ _ _ _ rfl
  have z2 : W.cell? ⟨w.heap.size + 1, 2, none⟩ = some (.string ⟨#[]⟩) := by rw [← hWs1, ← hW]; exact box_cell _ _ _ _ _ rfl
  have z3 : W.cell? ⟨w.heap.size + 1, 3, none⟩ = some (.string ⟨#[]⟩) := by rw [← hWs1, ← hW]; exact box_cell _ _ _ _ _ rfl
  have z4 : W.cell? ⟨w.heap.size + 1, 4, none⟩ = some (.int .i64 0) := by rw [← hWs1, ← hW]; exact box_cell _ _ _ _ _ rfl
  have z5 : W.cell? ⟨w.heap.size + 1, 5, none⟩ = some (.slice none 0 0) := by rw [← hWs1, ← hW]; exact box_cell _ _ _ _ _ rfl
  have z6 : W.cell? ⟨w.heap.size + 1, 6, none⟩ = some (.slice none 0 0) := by rw [← hWs1, ← hW]; exact box_cell _ _ _ _ _ rfl
  have z7 : W.cell? ⟨w.heap.size + 1, 7, none⟩ = some (.slice none 0 0) := by rw [← hWs1, ← hW]; exact box_cell _ _ _ _ _ rfl
  have zf : ∀ o, W.frozen? ⟨w.heap.size + 1, o, none⟩ = false := by intro o; rw [← hWs1, ← hW]; simp
  clear hW
  have hWl : W1.heap.size ≤ W.heap.size := by omega
  have hB := Below.refl W.heap.size W
  have HM := Lib.hid (fun (w' : World) (h : Below W1.heap.size W1 w') => (⟨(h.cell (p := ⟨w.heap.size, 0, none⟩) (show w.heap.size < W1.heap.size by omega)).trans q0, (h.cell (p := ⟨w.heap.size, 1, none⟩) (show w.heap.size < W1.heap.size by omega)).trans q1, (h.cell (p := ⟨w.heap.size, 2, none⟩) (show w.heap.size < W1.heap.size by omega)).trans q2, (h.cell (p := ⟨w.heap.size, 3, none⟩) (show w.heap.size < W1.heap.size by omega)).trans q3, (h.cell (p := ⟨w.heap.size, 4, none⟩) (show w.heap.size < W1.heap.size by omega)).trans q4, (h.cell (p := ⟨w.heap.size, 5, none⟩) (show w.heap.size < W1.heap.size by omega)).trans q5, (h.cell (p := ⟨w.heap.size, 6, none⟩) (show w.heap.size < W1.heap.size by omega)).trans q6, (h.cell (p := ⟨w.heap.size, 7, none⟩) (show w.heap.size < W1.heap.size by omega)).trans q7, h⟩ : w'.cell? ⟨w.heap.size, 0, none⟩ = some (.int .i64 x.head.house) ∧ w'.cell? ⟨w.heap.size, 1, none⟩ = some (.int .i64 x.head.epoch) ∧ w'.cell? ⟨w.heap.size, 2, none⟩ = some (.string x.head.root) ∧ w'.cell? ⟨w.heap.size, 3, none⟩ = some (.string x.head.prev) ∧ w'.cell? ⟨w.heap.size, 4, none⟩ = some (.int .i64 x.sig.at_) ∧ w'.cell? ⟨w.heap.size, 5, none⟩ = some (.slice A0 x.sig.open_.length k0) ∧ w'.cell? ⟨w.heap.size, 6, none⟩ = some (.slice A1 x.sig.shut.length k1) ∧ w'.cell? ⟨w.heap.size, 7, none⟩ = some (.slice A2 x.sig.sides.length k2) ∧ Below W1.heap.size W1 w'))
  have hwW := hwW1.trans (hWW.mono (by omega))
  go_region_held3 (fun w' => w'.cell? ⟨w.heap.size, 0, none⟩ = some (.int .i64 x.head.house) ∧ w'.cell? ⟨w.heap.size, 1, none⟩ = some (.int .i64 x.head.epoch) ∧ w'.cell? ⟨w.heap.size, 2, none⟩ = some (.string x.head.root) ∧ w'.cell? ⟨w.heap.size, 3, none⟩ = some (.string x.head.prev) ∧ w'.cell? ⟨w.heap.size, 4, none⟩ = some (.int .i64 x.sig.at_) ∧ w'.cell? ⟨w.heap.size, 5, none⟩ = some (.slice A0 x.sig.open_.length k0) ∧ w'.cell? ⟨w.heap.size, 6, none⟩ = some (.slice A1 x.sig.shut.length k1) ∧ w'.cell? ⟨w.heap.size, 7, none⟩ = some (.slice A2 x.sig.sides.length k2) ∧ Below W1.heap.size W1 w')
      (first | exact HM.out _ (by (repeat (first | with_reducible exact hWW.trans (hB.mono hWl) | with_reducible apply Below.drew | with_reducible refine Below.alloc ?_ ?_ _ | with_reducible refine Below.setCell ?_ ?_ _)); all_goals (first | omega | (simp; done) | (simp; omega))))
      (first | (go_at_call 151; refine (spec_l05Copy _ x.sig _ (un S0 (un S1 S2)) (Sig.mk' (m := false) f4 a0 b0 (Row.later r0 (hwW.trans (Below.mono (by first | exact hB | exact hB.drew) (by omega)))) (un_left _ _) a1 b1 (Row.later r1 (hwW.trans (Below.mono (by first | exact hB | exact hB.drew) (by omega)))) (sub_trans (un_left _ _) (un_right _ _)) a2 b2 (Row.later r2 (hwW.trans (Below.mono (by first | exact hB | exact hB.drew) (by omega)))) (sub_trans (un_right _ _) (un_right _ _)) (by simp)) l0 l1 l2).mono ?_; rintro e1 w1 ⟨B0, j0, B1, j1, B2, j2, rfl, hr, hb1⟩; have hs1 := hb1.size; (try simp at hs1); have hB := Below.step (a := W) (by first | exact hB | exact hB.drew) hb1; have y00 := (hB.cell (p := ⟨w.heap.size + 1, 0, none⟩) (show w.heap.size + 1 < W.heap.size by omega)).trans z0; have y01 := (hB.cell (p := ⟨w.heap.size + 1, 1, none⟩) (show w.heap.size + 1 < W.heap.size by omega)).trans z1; have y02 := (hB.cell (p := ⟨w.heap.size + 1, 2, none⟩) (show w.heap.size + 1 < W.heap.size by omega)).trans z2; have y03 := (hB.cell (p := ⟨w.heap.size + 1, 3, none⟩) (show w.heap.size + 1 < W.heap.size by omega)).trans z3; have y04 := (hB.cell (p := ⟨w.heap.size + 1, 4, none⟩) (show w.heap.size + 1 < W.heap.size by omega)).trans z4; have y05 := (hB.cell (p := ⟨w.heap.size + 1, 5, none⟩) (show w.heap.size + 1 < W.heap.size by omega)).trans z5; have y06 := (hB.cell (p := ⟨w.heap.size + 1, 6, none⟩) (show w.heap.size + 1 < W.heap.size by omega)).trans z6; have y07 := (hB.cell (p := ⟨w.heap.size + 1, 7, none⟩) (show w.heap.size + 1 < W.heap.size by omega)).trans z7; have yf0 := fun o => (hB.frozen (p := ⟨w.heap.size + 1, o, none⟩) (show w.heap.size + 1 < W.heap.size by omega)).trans (zf o)))
  go_wp2
  refine bodyPost_ret (v := .agg #[.int .i64 x.head.house, .int .i64 x.head.epoch, .string x.head.root, .string x.head.prev, .int .i64 x.sig.at_, .slice B0 x.sig.open_.length j0, .slice B1 x.sig.shut.length j1, .slice B2 x.sig.sides.length j2]) (by simp [results, Tryz.results104, go_sem, *]) rfl ?_
  obtain ⟨C0, i0, T0, C1, i1, T1, C2, i2, T2, hcs, _, u0, v0, n0, m0, u1, v1, n1, m1, u2, v2, n2, m2, pw⟩ := Sig.open hr
  simp only [Sig.cs, List.cons.injEq, Value.slice.injEq, and_true, true_and] at hcs
  obtain ⟨⟨rfl, rfl⟩, ⟨rfl, rfl⟩, ⟨rfl, rfl⟩⟩ := hcs
  replace n0 := n0.mono (S' := fun b => T0 b ∧ rng W.heap.size w1.heap.size b) (fun b x => ⟨x, by have := m0 b x; unfold rng at this ⊢; (try simp at this); omega⟩)
  replace n1 := n1.mono (S' := fun b => T1 b ∧ rng W.heap.size w1.heap.size b) (fun b x => ⟨x, by have := m1 b x; unfold rng at this ⊢; (try simp at this); omega⟩)
  replace n2 := n2.mono (S' := fun b => T2 b ∧ rng W.heap.size w1.heap.size b) (fun b x => ⟨x, by have := m2 b x; unfold rng at this ⊢; (try simp at this); omega⟩)
  have pw2 := pw rfl
  exact ⟨B0, j0, B1, j1, B2, j2, rfl, Seal.mk' (S0 := fun b => T0 b ∧ rng W.heap.size w1.heap.size b) (S1 := fun b => T1 b ∧ rng W.heap.size w1.heap.size b) (S2 := fun b => T2 b ∧ rng W.heap.size w1.heap.size b) f0 f1 f2 f3 f4 u0 v0 (by (repeat (first | with_reducible exact n0 | with_reducible apply Row.drewC | with_reducible refine Row.allocC ?_ _ | with_reducible refine Row.setC ?_ ?_ _)); all_goals (intro h; have h2 : rng W.heap.size w1.heap.size _ := h.2; unfold rng at h2; (try simp at h2); omega)) (fun b h => by have h2 : rng W.heap.size w1.heap.size b := h.2; unfold rng at h2 ⊢; simp; omega) u1 v1 (by (repeat (first | with_reducible exact n1 | with_reducible apply Row.drewC | with_reducible refine Row.allocC ?_ _ | with_reducible refine Row.setC ?_ ?_ _)); all_goals (intro h; have h2 : rng W.heap.size w1.heap.size _ := h.2; unfold rng at h2; (try simp at h2); omega)) (fun b h => by have h2 : rng W.heap.size w1.heap.size b := h.2; unfold rng at h2 ⊢; simp; omega) u2 v2 (by (repeat (first | with_reducible exact n2 | with_reducible apply Row.drewC | with_reducible refine Row.allocC ?_ _ | with_reducible refine Row.setC ?_ ?_ _)); all_goals (intro h; have h2 : rng W.heap.size w1.heap.size _ := h.2; unfold rng at h2; (try simp at h2); omega)) (fun b h => by have h2 : rng W.heap.size w1.heap.size b := h.2; unfold rng at h2 ⊢; simp; omega) (fun _ => pwmk3 (disj_sub (pwget3_0_1 pw2) (fun b x => x.1) (fun b x => x.1)) (disj_sub (pwget3_0_2 pw2) (fun b x => x.1) (fun b x => x.1)) (disj_sub (pwget3_1_2 pw2) (fun b x => x.1) (fun b x => x.1))), Below.trans hwW1 (Below.mono (show Below W1.heap.size W1 _ from (by (repeat (first | with_reducible exact hWW.trans (hB.mono hWl) | with_reducible apply Below.drew | with_reducible refine Below.alloc ?_ ?_ _ | with_reducible refine Below.setCell ?_ ?_ _)); all_goals (first | omega | (simp; done) | (simp; omega)))) (by omega))⟩

end Go.Proofs.YtlfnmbcnehaikaaGreatDoor
