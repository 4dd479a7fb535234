/- A part of the proof: what the laws need of it. -/
import Derived.Deep.RegionHeld3
import Derived.Test.YtgllafgpmenjjaaGreatDoorHReL5xAq
import Derived.Test.YtgllafgpmenjjaaGreatDoorHReL6xInf
import Derived.Lib.Hide
set_option linter.unusedVariables false
set_option linter.unusedSimpArgs false
set_option linter.unusedVariables false
set_option linter.unusedSimpArgs false
namespace Go.Proofs.YtgllafgpmenjjaaGreatDoor
open Go.RowKit Lay Mk
theorem Below.via {w w' : World} {o : Obj} (hb : Below (w.alloc o).heap.size (w.alloc o) w') : Below w.heap.size w w' := ((Below.refl _ _).alloc (Nat.le_refl _) _).trans (hb.mono (by simp))
theorem Below.viad {w w' : World} (hb : Below w.drew.heap.size w.drew w') : Below w.heap.size w w' := ((Below.refl _ _).drew).trans (hb.mono (Nat.le_refl _))
theorem Below.step {a b c : World} (h : Below a.heap.size a b) (k : Below b.heap.size b c) : Below a.heap.size a c := h.trans (k.mono h.size)
theorem rngS {a b c d : Nat} (h : c ≤ a) (k : b ≤ d) : sub (rng a b) (rng c d) := fun x hx => by unfold rng at *; omega
theorem cell_alloc {w : World} {o : Obj} {b i : Nat} {v : Value} (h : w.cell? ⟨b, i, none⟩ = some v) : (w.alloc o).cell? ⟨b, i, none⟩ = some v :=
  (World.cell?_of_block (a := ⟨b, i, none⟩) (Below.heap_alloc w o b (block_lt_of_cell (a := ⟨b, i, none⟩) h))).trans h
theorem old_rngR {α : Type} [Lay α] {m : Bool} {w : World} {A : Option Addr} {cap : Nat} {xs : List α} {S : Blks} (h : Row m w A cap xs S) : Row m w A cap xs (rng 0 w.heap.size) := h.tight.mono (fun _ x => ⟨Nat.zero_le _, x.2⟩)
theorem nagg_slice {P : Program} {W : World} {r : Reach} {base : Nat} {t e : TypeId} {v : Value} (ht : P.underlying t = some (.slice e)) (h : Value.okWide P W r base t v) : ∀ cs, v ≠ .agg cs := by
  rintro cs rfl
  unfold Value.okWide at h
  rw [ht] at h
  simp [Cell.okWide, Cell.ok, ht] at h
theorem cells_one {v u : Value} (h : v.cells.toList = [u]) (hn : ∀ cs, v ≠ .agg cs) : v = u := by
  cases v <;> first | (exfalso; exact hn _ rfl) | (simpa [Value.cells] using h)
theorem yieldsIf_loadT {P : Program} {ops : Array Oper} {S : World → Prop} {o : Oper} {a : Act} (hw : Region.wanted o (yielded ops a.tmps) = true) (t : TypeId) (x : Operand) (ho : o.op = .load t x) {b off : Nat} (hx : a.eval x = .pointer (some ⟨b, off, none⟩)) {cs : List Value} (ha : ∀ w, S w → At w b off cs) {fs : Array Field}
    (hu : P.underlying t = some (.struct fs)) {k : Nat} (hi : (P.info? t).map (·.size) = some k) (hk : cs.length = k) : YieldsIf P ops S o (.agg cs.toArray) a := by
  subst hk
  refine .inl ⟨hw, fun w hS => ?_⟩
  unfold execOp
  simp only [ho, hx, Instr.loadAt, Instr.sureAddr, Sem.run_bind, Sem.run_pure, Result.andThen_ok, run_loadAt (ha w hS) hu hi]
end Go.Proofs.YtgllafgpmenjjaaGreatDoor

set_option linter.unusedVariables false
set_option linter.unusedSimpArgs false
namespace Go.Proofs.YtgllafgpmenjjaaGreatDoor
open Go.RowKit Lay Mk

set_option maxRecDepth 20000 in set_option maxHeartbeats 2000000 in
theorem spec_NameOk (s : ByteArray) (w : World) (hs : s.size ≤ maxLen) : Calls Tryz.prog 159 #[.string s] w fun e w' => e = .returned (.bool (nameOk s)) ∧ w = w' := by
  unfold maxLen at hs
  go_enter Tryz.func159, Tryz.ntmps159
  go_wp2
  go_loop [3] (fun i => ∃ k : Nat, k ≤ s.size ∧ i = .int .i64 k ∧ Hid (∀ j (h : j < s.size), j < k → nmB s[j].toNat = true)) (fun i => s.size - (intOf i).toNat)
  case atStart => exact ⟨0, Nat.zero_le _, rfl, Lib.hid (fun j _ h => absurd h (Nat.not_lt_zero j))⟩
  case round =>
    obtain ⟨k, hk, rfl, ha⟩ := hrel
    by_cases hlt : k < s.size
    · by_cases hg : nmB s[k].toNat = true
      · have hg2 : (97 ≤ s[k].toNat ∧ s[k].toNat ≤ 122) ∨ (48 ≤ s[k].toNat ∧ s[k].toNat ≤ 57) ∨ s[k].toNat = 64 ∨ s[k].toNat = 46 := by simpa [nmB] using hg
        have hnew := Lib.hid (all_succ hlt ha.out hg); clear hg ha
        rcases hg2 with ⟨g1, g2⟩ | ⟨g1, g2⟩ | g1 | g1
        all_goals
          go_wp2_with (go_at_call 87; refine (spec_in _ _ _ _).mono ?_; rintro e w' ⟨rfl, rfl⟩)
          all_goals
            go_round
            case rel => exact ⟨k + 1, by omega, by go_num, hnew⟩
            case measure => simp [intOf]; omega
      · have hg2 : ((s[k].toNat < 48 ∧ s[k].toNat ≠ 46) ∨ (57 < s[k].toNat ∧ s[k].toNat < 97 ∧ s[k].toNat ≠ 64) ∨ 122 < s[k].toNat) := by simp [nmB] at hg; omega
        have hbad := Lib.hid (nameOk_bad hlt (by simpa using hg)); clear hg ha
        rcases hg2 with ⟨g1, g2⟩ | ⟨g1, g2, g3⟩ | g1
        · have x1 : ((s[k].toNat : Int) != 46) = true := by rw [bne_iff_ne]; omega
          have x2 : ((s[k].toNat : Int) == 46) = false := by rw [beq_eq_false_iff_ne]; omega
          have x3 : ((s[k].toNat : Int) != 64) = true := by rw [bne_iff_ne]; omega
          have x4 : ((s[k].toNat : Int) == 64) = false := by rw [beq_eq_false_iff_ne]; omega
          (go_wp2_with (go_at_call 87; refine (spec_in _ _ _ _).mono ?_; rintro e w' ⟨rfl, rfl⟩)
           all_goals first | (go_ret; exact ⟨by rw [hbad.out]; rfl, rfl⟩) | (exfalso; simp_all; done))
        · have x1 : ((s[k].toNat : Int) != 46) = true := by rw [bne_iff_ne]; omega
          have x2 : ((s[k].toNat : Int) == 46) = false := by rw [beq_eq_false_iff_ne]; omega
          have x3 : ((s[k].toNat : Int) != 64) = true := by rw [bne_iff_ne]; omega
          have x4 : ((s[k].toNat : Int) == 64) = false := by rw [beq_eq_false_iff_ne]; omega
          (go_wp2_with (go_at_call 87; refine (spec_in _ _ _ _).mono ?_; rintro e w' ⟨rfl, rfl⟩)
           all_goals first | (go_ret; exact ⟨by rw [hbad.out]; rfl, rfl⟩) | (exfalso; simp_all; done))
        · have x1 : ((s[k].toNat : Int) != 46) = true := by rw [bne_iff_ne]; omega
          have x2 : ((s[k].toNat : Int) == 46) = false := by rw [beq_eq_false_iff_ne]; omega
          have x3 : ((s[k].toNat : Int) != 64) = true := by rw [bne_iff_ne]; omega
          have x4 : ((s[k].toNat : Int) == 64) = false := by rw [beq_eq_false_iff_ne]; omega
          (go_wp2_with (go_at_call 87; refine (spec_in _ _ _ _).mono ?_; rintro e w' ⟨rfl, rfl⟩)
           all_goals first | (go_ret; exact ⟨by rw [hbad.out]; rfl, rfl⟩) | (exfalso; simp_all; done))
    · have hke : k = s.size := by omega
      have HE := Lib.hid (nameOk_end ha.out (.inl hke) hk)
      have HK := Lib.hid hke; clear hke ha
      have hge : s.size ≤ k := by omega
      go_wp2_with (go_at_call 87; refine (spec_in _ _ _ _).mono ?_; rintro e w' ⟨rfl, rfl⟩)
      go_ret
      exact ⟨by rw [HE.out]; rfl, rfl⟩

set_option maxRecDepth 20000 in set_option maxHeartbeats 2000000 in
theorem impl_NameOk (s : ByteArray) (w : World) (hs : s.size ≤ maxLen) : Calls Tryz.prog 179 #[.string s] w fun e w' => e = .returned (.bool (nameOk s)) ∧ w = w' := by
  unfold maxLen at hs
  go_enter Tryz.func179, Tryz.ntmps179
  go_wp2
  go_loop [3] (fun i => ∃ k : Nat, k ≤ s.size ∧ i = .int .i64 k ∧ Hid (∀ j (h : j < s.size), j < k → nmB s[j].toNat = true)) (fun i => s.size - (intOf i).toNat)
  case atStart => exact ⟨0, Nat.zero_le _, rfl, Lib.hid (fun j _ h => absurd h (Nat.not_lt_zero j))⟩
  case round =>
    obtain ⟨k, hk, rfl, ha⟩ := hrel
    by_cases hlt : k < s.size
    · by_cases h12 : 12 < k
      · have HE := Lib.hid (nameOk_end ha.out (.inr h12) hk)
        go_wp2_with (go_at_call 98; refine (impl_in _ _ _ _).mono ?_; rintro e w' ⟨rfl, rfl⟩)
        go_ret
        exact ⟨by rw [HE.out]; rfl, rfl⟩
      by_cases hg : nmB s[k].toNat = true
      · have hg2 : (97 ≤ s[k].toNat ∧ s[k].toNat ≤ 122) ∨ (48 ≤ s[k].toNat ∧ s[k].toNat ≤ 57) ∨ s[k].toNat = 64 ∨ s[k].toNat = 46 := by simpa [nmB] using hg
        have hnew := Lib.hid (all_succ hlt ha.out hg); clear hg ha
        rcases hg2 with ⟨g1, g2⟩ | ⟨g1, g2⟩ | g1 | g1
        all_goals
          go_wp2_with (go_at_call 98; refine (impl_in _ _ _ _).mono ?_; rintro e w' ⟨rfl, rfl⟩)
          all_goals
            go_round
            case rel => exact ⟨k + 1, by omega, by go_num, hnew⟩
            case measure => simp [intOf]; omega
      · have hg2 : ((s[k].toNat < 48 ∧ s[k].toNat ≠ 46) ∨ (57 < s[k].toNat ∧ s[k].toNat < 97 ∧ s[k].toNat ≠ 64) ∨ 122 < s[k].toNat) := by simp [nmB] at hg; omega
        have hbad := Lib.hid (nameOk_bad hlt (by simpa using hg)); clear hg ha
        rcases hg2 with ⟨g1, g2⟩ | ⟨g1, g2, g3⟩ | g1
        · have x1 : ((s[k].toNat : Int) != 46) = true := by rw [bne_iff_ne]; omega
          have x2 : ((s[k].toNat : Int) == 46) = false := by rw [beq_eq_false_iff_ne]; omega
          have x3 : ((s[k].toNat : Int) != 64) = true := by rw [bne_iff_ne]; omega
          have x4 : ((s[k].toNat : Int) == 64) = false := by rw [beq_eq_false_iff_ne]; omega
          (go_wp2_with (go_at_call 98; refine (impl_in _ _ _ _).mono ?_; rintro e w' ⟨rfl, rfl⟩)
           all_goals first | (go_ret; exact ⟨by rw [hbad.out]; rfl, rfl⟩) | (exfalso; simp_all; done))
        · have x1 : ((s[k].toNat : Int) != 46) = true := by rw [bne_iff_ne]; omega
          have x2 : ((s[k].toNat : Int) == 46) = false := by rw [beq_eq_false_iff_ne]; omega
          have x3 : ((s[k].toNat : Int) != 64) = true := by rw [bne_iff_ne]; omega
          have x4 : ((s[k].toNat : Int) == 64) = false := by rw [beq_eq_false_iff_ne]; omega
          (go_wp2_with (go_at_call 98; refine (impl_in _ _ _ _).mono ?_; rintro e w' ⟨rfl, rfl⟩)
           all_goals first | (go_ret; exact ⟨by rw [hbad.out]; rfl, rfl⟩) | (exfalso; simp_all; done))
        · have x1 : ((s[k].toNat : Int) != 46) = true := by rw [bne_iff_ne]; omega
          have x2 : ((s[k].toNat : Int) == 46) = false := by rw [beq_eq_false_iff_ne]; omega
          have x3 : ((s[k].toNat : Int) != 64) = true := by rw [bne_iff_ne]; omega
          have x4 : ((s[k].toNat : Int) == 64) = false := by rw [beq_eq_false_iff_ne]; omega
          (go_wp2_with (go_at_call 98; refine (impl_in _ _ _ _).mono ?_; rintro e w' ⟨rfl, rfl⟩)
           all_goals first | (go_ret; exact ⟨by rw [hbad.out]; rfl, rfl⟩) | (exfalso; simp_all; done))
    · have hke : k = s.size := by omega
      have HE := Lib.hid (nameOk_end ha.out (.inl hke) hk)
      have HK := Lib.hid hke; clear hke ha
      have hge : s.size ≤ k := by omega
      go_wp2_with (go_at_call 98; refine (impl_in _ _ _ _).mono ?_; rintro e w' ⟨rfl, rfl⟩)
      go_ret
      exact ⟨by rw [HE.out]; rfl, rfl⟩

set_option maxRecDepth 20000 in set_option maxHeartbeats 2000000 in
theorem spec_ValueOk (s : ByteArray) (w : World) (hs : s.size ≤ maxLen) : Calls Tryz.prog 168 #[.string s] w fun e w' => e = .returned (.bool (valueOk s)) ∧ w = w' := by
  unfold maxLen at hs
  go_enter Tryz.func168, Tryz.ntmps168
  go_wp2
  go_loop [3] (fun i => ∃ k : Nat, k ≤ s.size ∧ i = .int .i64 k ∧ Hid (∀ j (h : j < s.size), j < k → vlB s[j].toNat = true)) (fun i => s.size - (intOf i).toNat)
  case atStart => exact ⟨0, Nat.zero_le _, rfl, Lib.hid (fun j _ h => absurd h (Nat.not_lt_zero j))⟩
  case round =>
    obtain ⟨k, hk, rfl, ha⟩ := hrel
    by_cases hlt : k < s.size
    · by_cases hg : vlB s[k].toNat = true
      · have hg2 : 33 ≤ s[k].toNat ∧ s[k].toNat ≤ 126 := by simpa [vlB] using hg
        have hnew := Lib.hid (all_succ hlt ha.out hg); clear hg ha
        obtain ⟨g1, g2⟩ := hg2
        have hi : inB (s[k].toNat : Int) 33 126 = true := by simp [inB]; omega
        all_goals
          go_wp2_with (go_at_call 87; refine (spec_in _ _ _ _).mono ?_; rintro e w' ⟨rfl, rfl⟩)
          all_goals
            go_round
            case rel => exact ⟨k + 1, by omega, by go_num, hnew⟩
            case measure => simp [intOf]; omega
      · have hby : s[k].toNat < 256 := s[k].toNat_lt
        have hg2 : s[k].toNat < 33 ∨ 126 < s[k].toNat := by simp [vlB] at hg; omega
        have hbad := Lib.hid (valueOk_bad hlt (by simpa using hg)); clear hg ha
        have hi : inB (s[k].toNat : Int) 33 126 = false := by simp [inB]; omega
        rcases hg2 with g1 | g1
        · (go_wp2_with (go_at_call 87; refine (spec_in _ _ _ _).mono ?_; rintro e w' ⟨rfl, rfl⟩)
           all_goals first | (go_ret; exact ⟨by rw [hbad.out]; rfl, rfl⟩) | (exfalso; simp_all; done))
        · (go_wp2_with (go_at_call 87; refine (spec_in _ _ _ _).mono ?_; rintro e w' ⟨rfl, rfl⟩)
           all_goals first | (go_ret; exact ⟨by rw [hbad.out]; rfl, rfl⟩) | (exfalso; simp_all; done))
    · have hke : k = s.size := by omega
      have HE := Lib.hid (valueOk_end ha.out (.inl hke) hk)
      have HK := Lib.hid hke; clear hke ha
      have hge : s.size ≤ k := by omega
      go_wp2_with (go_at_call 87; refine (spec_in _ _ _ _).mono ?_; rintro e w' ⟨rfl, rfl⟩)
      go_ret
      exact ⟨by rw [HE.out]; rfl, rfl⟩

set_option maxRecDepth 20000 in set_option maxHeartbeats 2000000 in
theorem impl_ValueOk (s : ByteArray) (w : World) (hs : s.size ≤ maxLen) : Calls Tryz.prog 200 #[.string s] w fun e w' => e = .returned (.bool (valueOk s)) ∧ w = w' := by
  unfold maxLen at hs
  go_enter Tryz.func200, Tryz.ntmps200
  go_wp2
  go_loop [3] (fun i => ∃ k : Nat, k ≤ s.size ∧ i = .int .i64 k ∧ Hid (∀ j (h : j < s.size), j < k → vlB s[j].toNat = true)) (fun i => s.size - (intOf i).toNat)
  case atStart => exact ⟨0, Nat.zero_le _, rfl, Lib.hid (fun j _ h => absurd h (Nat.not_lt_zero j))⟩
  case round =>
    obtain ⟨k, hk, rfl, ha⟩ := hrel
    by_cases hlt : k < s.size
    · by_cases h12 : 12 < k
      · have HE := Lib.hid (valueOk_end ha.out (.inr h12) hk)
        go_wp2_with (go_at_call 98; refine (impl_in _ _ _ _).mono ?_; rintro e w' ⟨rfl, rfl⟩)
        go_ret
        exact ⟨by rw [HE.out]; rfl, rfl⟩
      by_cases hg : vlB s[k].toNat = true
      · have hg2 : 33 ≤ s[k].toNat ∧ s[k].toNat ≤ 126 := by simpa [vlB] using hg
        have hnew := Lib.hid (all_succ hlt ha.out hg); clear hg ha
        obtain ⟨g1, g2⟩ := hg2
        have hi : inB (s[k].toNat : Int) 33 126 = true := by simp [inB]; omega
        all_goals
          go_wp2_with (go_at_call 98; refine (impl_in _ _ _ _).mono ?_; rintro e w' ⟨rfl, rfl⟩)
          all_goals
            go_round
            case rel => exact ⟨k + 1, by omega, by go_num, hnew⟩
            case measure => simp [intOf]; omega
      · have hby : s[k].toNat < 256 := s[k].toNat_lt
        have hg2 : s[k].toNat < 33 ∨ 126 < s[k].toNat := by simp [vlB] at hg; omega
        have hbad := Lib.hid (valueOk_bad hlt (by simpa using hg)); clear hg ha
        have hi : inB (s[k].toNat : Int) 33 126 = false := by simp [inB]; omega
        rcases hg2 with g1 | g1
        · (go_wp2_with (go_at_call 98; refine (impl_in _ _ _ _).mono ?_; rintro e w' ⟨rfl, rfl⟩)
           all_goals first | (go_ret; exact ⟨by rw [hbad.out]; rfl, rfl⟩) | (exfalso; simp_all; done))
        · (go_wp2_with (go_at_call 98; refine (impl_in _ _ _ _).mono ?_; rintro e w' ⟨rfl, rfl⟩)
           all_goals first | (go_ret; exact ⟨by rw [hbad.out]; rfl, rfl⟩) | (exfalso; simp_all; done))
    · have hke : k = s.size := by omega
      have HE := Lib.hid (valueOk_end ha.out (.inl hke) hk)
      have HK := Lib.hid hke; clear hke ha
      have hge : s.size ≤ k := by omega
      go_wp2_with (go_at_call 98; refine (impl_in _ _ _ _).mono ?_; rintro e w' ⟨rfl, rfl⟩)
      go_ret
      exact ⟨by rw [HE.out]; rfl, rfl⟩
end Go.Proofs.YtgllafgpmenjjaaGreatDoor
