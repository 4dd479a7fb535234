/- A part of the proof: what the laws need of it. -/
import Derived.Test.YtlfnmbcnehaikaaGreatDoorHRaHo
import Derived.Test.YtlfnmbcnehaikaaGreatDoorHRaL1xLay
import Derived.Test.YtlfnmbcnehaikaaGreatDoorHRaL9xAr
import Derived.Test.YtlfnmbcnehaikaaGreatDoorHRaTg
set_option linter.unusedVariables false
set_option linter.unusedSimpArgs false
set_option linter.unusedVariables false
set_option linter.unusedSimpArgs false
namespace Go.Proofs.YtlfnmbcnehaikaaGreatDoor
open Go.RowKit Lay Mk
def wideOk (l : List ByteArray) (n : Nat) : Bool := l.all (fun s => decide (s.size = 16)) && decide (l.length = n)
def sigForm (x : Sig) : Bool := inB x.at_ 0 15 && wideOk x.open_ 8 && wideOk x.shut 8 && wideOk x.sides 4
def lockOf (s : ByteArray) : ByteArray := tagHash 6 [s] 16
theorem tagOk_of {kind : Int} {xs : List ByteArray} (hk : inB kind 1 8 = true) (hl : xs.length ≤ 60) (hp : ∀ x ∈ xs, x.size ≤ 200) : tagOk kind xs = true := by
  unfold tagOk; rw [hk, decide_eq_true hl]
  rw [parts_good (fun j h => hp _ (List.getElem_mem h))]; rfl
theorem tagHash_size {kind : Int} {xs : List ByteArray} (h : tagOk kind xs = true) : (tagHash kind xs 16).size = 16 := by
  unfold tagHash; rw [if_pos h, cutDigest_size (by omega)]; rfl
theorem tag_one {kind : Int} {s : ByteArray} (hk : inB kind 1 8 = true) (h : s.size ≤ 200) : tagOk kind [s] = true := tagOk_of hk (by simp) (fun x hx => by simp at hx; subst hx; exact h)
theorem tag_two {kind : Int} {s t : ByteArray} (hk : inB kind 1 8 = true) (h : s.size ≤ 200) (h2 : t.size ≤ 200) : tagOk kind [s, t] = true := tagOk_of hk (by simp) (fun x hx => by simp at hx; rcases hx with rfl | rfl <;> assumption)
theorem wide_bad {l : List ByteArray} {n k : Nat} (hk : k < l.length) (h : l[k].size ≠ 16) : wideOk l n = false := by
  unfold wideOk; rw [Bool.and_eq_false_iff]; left; rw [List.all_eq_false]; exact ⟨_, List.getElem_mem hk, by simp [h]⟩
theorem wide_end {l : List ByteArray} {n : Nat} (h : ∀ k (hk : k < l.length), l[k].size = 16) : wideOk l n = decide (l.length = n) := by
  unfold wideOk
  have : l.all (fun s => decide (s.size = 16)) = true := by
    rw [List.all_eq_true]; intro s hs
    obtain ⟨k, hk, rfl⟩ := List.getElem_of_mem hs
    simp [h k hk]
  rw [this]; simp
theorem wide_at {l : List ByteArray} {n : Nat} (h : wideOk l n = true) : l.length = n ∧ ∀ s ∈ l, s.size = 16 := by
  unfold wideOk at h
  rw [Bool.and_eq_true, List.all_eq_true] at h
  exact ⟨by simpa using h.2, fun s hs => by simpa using h.1 s hs⟩
theorem lockOf_size {s : ByteArray} (h : s.size ≤ 200) : (lockOf s).size = 16 := tagHash_size (tag_one (by decide) h)
set_option maxHeartbeats 2000000 in

theorem impl_wide (w : World) (l : List ByteArray) (A : Option Addr) (cap : Nat) (S : Blks) (hx : Row false w A cap l S) (hl0 : l.length ≤ maxLen) (n : Nat) (hn : n ≤ 100) : Calls Tryz.prog 197 #[.slice A l.length cap, .int .i64 n, .int .i64 16] w fun e w' => e = .returned (.bool (wideOk l n)) ∧ w = w' := by
  have hl : l.length ≤ 9223372036854775807 := hl0
  clear hl0
  have HB := Lib.hid (fun (k : Nat) hk h => wide_bad (l := l) (n := n) (k := k) hk h)
  have HE := Lib.hid (fun h => wide_end (l := l) (n := n) h)
  go_enter Tryz.func197, Tryz.ntmps197
  go_wp2
  go_loopw [11] (fun i wr => ∃ k : Nat, k ≤ l.length ∧ i = .int .i64 k ∧ Hid (∀ j (h : j < l.length), j < k → l[j].size = 16) ∧ w = wr) (fun i _ => l.length - (intOf i).toNat)
  case atStart => exact ⟨0, Nat.zero_le _, rfl, Lib.hid (fun j _ h => absurd h (by omega)), rfl⟩
  case round =>
    obtain ⟨k, hk, rfl, HS, rfl⟩ := hrel
    by_cases hlt : k < l.length
    · obtain ⟨b1, o1, rfl, hl1, f0, s0⟩ := Row.str hx hlt
      have HBk := Lib.hid (HB.out k hlt)
      have HN : Hid (l[k].size = 16 → ∀ j (h : j < l.length), j < k + 1 → l[j].size = 16) := Lib.hid (fun h0 j h hj => by rcases Nat.lt_succ_iff_lt_or_eq.1 hj with h1 | h1; exact HS.out j h h1; subst h1; exact h0)
      obtain ⟨x, hxx⟩ : ∃ x, l[k] = x := ⟨_, rfl⟩
      rw [hxx] at f0 HBk HN s0
      clear hxx
      by_cases h16 : x.size = 16
      · have HNx := Lib.hid (HN.out h16)
        have hq : ((x.size : Int) != 16) = false := by rw [bne_eq_false_iff_eq]; omega
        clear HB HE HBk HN h16
        go_wp2
        go_roundw
        case rel => exact ⟨k + 1, by omega, by go_num, HNx, trivial⟩
        case measure => simp [intOf]; omega
      · have HF := Lib.hid (HBk.out h16)
        have hq : ((x.size : Int) != 16) = true := by rw [bne_iff_ne]; omega
        clear HB HE HBk HN h16
        go_wp2
        go_ret
        exact ⟨by rw [HF.out]; rfl, rfl⟩
    · have hke : k = l.length := by omega
      subst hke
      have HF := Lib.hid (HE.out (fun k hk => HS.out k hk hk))
      have hc : ((l.length : Int) == (n : Int)) = decide (l.length = n) := by rw [Bool.eq_iff_iff, beq_iff_eq, decide_eq_true_iff]; omega
      have HC := Lib.hid hc
      clear hc HB HE HS
      go_wp2
      go_ret
      exact ⟨ret_bool (by rw [HF.out, ← HC.out]), rfl⟩

set_option maxHeartbeats 2000000 in
theorem spec_wide (w : World) (l : List ByteArray) (A : Option Addr) (cap : Nat) (S : Blks) (hx : Row false w A cap l S) (hl0 : l.length ≤ maxLen) (n : Nat) (hn : n ≤ 100) : Calls Tryz.prog 184 #[.slice A l.length cap, .int .i64 n] w fun e w' => e = .returned (.bool (wideOk l n)) ∧ w = w' := by
  have hl : l.length ≤ 9223372036854775807 := hl0
  clear hl0
  have HB := Lib.hid (fun (k : Nat) hk h => wide_bad (l := l) (n := n) (k := k) hk h)
  have HE := Lib.hid (fun h => wide_end (l := l) (n := n) h)
  go_enter Tryz.func184, Tryz.ntmps184
  go_wp2
  go_loopw [5] (fun i wr => ∃ k : Nat, k ≤ l.length ∧ i = .int .i64 k ∧ Hid (∀ j (h : j < l.length), j < k → l[j].size = 16) ∧ w = wr) (fun i _ => l.length - (intOf i).toNat)
  case atStart => exact ⟨0, Nat.zero_le _, rfl, Lib.hid (fun j _ h => absurd h (by omega)), rfl⟩
  case round =>
    obtain ⟨k, hk, rfl, HS, rfl⟩ := hrel
    by_cases hlt : k < l.length
    · obtain ⟨b1, o1, rfl, hl1, f0, s0⟩ := Row.str hx hlt
      have HBk := Lib.hid (HB.out k hlt)
      have HN : Hid (l[k].size = 16 → ∀ j (h : j < l.length), j < k + 1 → l[j].size = 16) := Lib.hid (fun h0 j h hj => by rcases Nat.lt_succ_iff_lt_or_eq.1 hj with h1 | h1; exact HS.out j h h1; subst h1; exact h0)
      obtain ⟨x, hxx⟩ : ∃ x, l[k] = x := ⟨_, rfl⟩
      rw [hxx] at f0 HBk HN s0
      clear hxx
      by_cases h16 : x.size = 16
      · have HNx := Lib.hid (HN.out h16)
        have hq : ((x.size : Int) != 16) = false := by rw [bne_eq_false_iff_eq]; omega
        clear HB HE HBk HN h16
        go_wp2
        go_roundw
        case rel => exact ⟨k + 1, by omega, by go_num, HNx, trivial⟩
        case measure => simp [intOf]; omega
      · have HF := Lib.hid (HBk.out h16)
        have hq : ((x.size : Int) != 16) = true := by rw [bne_iff_ne]; omega
        clear HB HE HBk HN h16
        go_wp2
        go_ret
        exact ⟨by rw [HF.out]; rfl, rfl⟩
    · have hke : k = l.length := by omega
      subst hke
      have HF := Lib.hid (HE.out (fun k hk => HS.out k hk hk))
      have hc : ((l.length : Int) == (n : Int)) = decide (l.length = n) := by rw [Bool.eq_iff_iff, beq_iff_eq, decide_eq_true_iff]; omega
      have HC := Lib.hid hc
      clear hc HB HE HS
      go_wp2
      go_ret
      exact ⟨ret_bool (by rw [HF.out, ← HC.out]), rfl⟩

set_option maxRecDepth 20000 in set_option maxHeartbeats 4000000 in
theorem impl_form (w : World) (x : Sig) (cs : List Value) (S : Blks) (hx : rd false w cs x S) : Calls Tryz.prog 159 #[.agg cs.toArray] w fun e w' => e = .returned (.bool (sigForm x)) ∧ Below w.heap.size w w' := by
  obtain ⟨A0, k0, S0, A1, k1, S1, A2, k2, S2, rfl, ha, l0, m0, r0, _, l1, m1, r1, _, l2, m2, r2, _⟩ := Sig.open hx
  clear hx
  obtain ⟨at_, op, sh, si⟩ := x
  simp only [Sig.cs]
  simp only at ha l0 m0 r0 l1 m1 r1 l2 m2 r2
  have R0 := fun W hb => impl_wide W op A0 k0 S0 (r0.later hb) (by exact Nat.le_trans l0 m0) 8 (by omega)
  have R1 := fun W hb => impl_wide W sh A1 k1 S1 (r1.later hb) (by exact Nat.le_trans l1 m1) 8 (by omega)
  have R2 := fun W hb => impl_wide W si A2 k2 S2 (r2.later hb) (by exact Nat.le_trans l2 m2) 4 (by omega)
  have HR0 := Lib.hid R0
  have HR1 := Lib.hid R1
  have HR2 := Lib.hid R2
  clear R0 R1 R2 r0 r1 r2
  have HF : Hid (sigForm ⟨at_, op, sh, si⟩ = (inB at_ 0 15 && wideOk op 8 && wideOk sh 8 && wideOk si 4)) := Lib.hid rfl
  have HA := fun W => (Below.refl W.heap.size W).alloc (Nat.le_refl _)
  cases hin : inB at_ 0 15
  · rw [hin] at HF
    go_enter Tryz.func159, Tryz.ntmps159
    go_wp2_with (go_at_call 62; refine (impl_in _ _ _ _).mono ?_; rintro e w2 ⟨rfl, rfl⟩)
    go_ret; exact ⟨ret_bool (by rw [HF.out]; rfl), HA _ _⟩
  cases h0 : wideOk op 8
  · rw [hin, h0] at HF
    go_enter Tryz.func159, Tryz.ntmps159
    go_wp2_with (go_at_call 62; refine (impl_in _ _ _ _).mono ?_; rintro e w2 ⟨rfl, rfl⟩)
    refine (HR0.out _ (HA _ _)).mono ?_
    rintro e w2 ⟨rfl, rfl⟩
    rw [h0]
    go_wp2_with (fail)
    go_ret; exact ⟨ret_bool (by rw [HF.out]; rfl), HA _ _⟩
  cases h1 : wideOk sh 8
  · rw [hin, h0, h1] at HF
    go_enter Tryz.func159, Tryz.ntmps159
    go_wp2_with (go_at_call 62; refine (impl_in _ _ _ _).mono ?_; rintro e w2 ⟨rfl, rfl⟩)
    refine (HR0.out _ (HA _ _)).mono ?_
    rintro e w2 ⟨rfl, rfl⟩
    rw [h0]
    go_wp2_with (fail)
    refine (HR1.out _ (HA _ _)).mono ?_
    rintro e w2 ⟨rfl, rfl⟩
    rw [h1]
    go_wp2_with (fail)
    go_ret; exact ⟨ret_bool (by rw [HF.out]; rfl), HA _ _⟩
  · rw [hin, h0, h1] at HF
    go_enter Tryz.func159, Tryz.ntmps159
    go_wp2_with (go_at_call 62; refine (impl_in _ _ _ _).mono ?_; rintro e w2 ⟨rfl, rfl⟩)
    refine (HR0.out _ (HA _ _)).mono ?_
    rintro e w2 ⟨rfl, rfl⟩
    rw [h0]
    go_wp2_with (fail)
    refine (HR1.out _ (HA _ _)).mono ?_
    rintro e w2 ⟨rfl, rfl⟩
    rw [h1]
    go_wp2_with (fail)
    refine (HR2.out _ (HA _ _)).mono ?_
    rintro e w2 ⟨rfl, rfl⟩
    obtain ⟨b, hb⟩ : ∃ b, wideOk si 4 = b := ⟨_, rfl⟩
    rw [hb] at HF ⊢
    go_wp2_with (fail)
    go_ret; exact ⟨ret_bool (by rw [HF.out]; rfl), HA _ _⟩

set_option maxRecDepth 20000 in set_option maxHeartbeats 4000000 in
theorem spec_form (w : World) (x : Sig) (cs : List Value) (S : Blks) (hx : rd false w cs x S) : Calls Tryz.prog 141 #[.agg cs.toArray] w fun e w' => e = .returned (.bool (sigForm x)) ∧ Below w.heap.size w w' := by
  obtain ⟨A0, k0, S0, A1, k1, S1, A2, k2, S2, rfl, ha, l0, m0, r0, _, l1, m1, r1, _, l2, m2, r2, _⟩ := Sig.open hx
  clear hx
  obtain ⟨at_, op, sh, si⟩ := x
  simp only [Sig.cs]
  simp only at ha l0 m0 r0 l1 m1 r1 l2 m2 r2
  have R0 := fun W hb => spec_wide W op A0 k0 S0 (r0.later hb) (by exact Nat.le_trans l0 m0) 8 (by omega)
  have R1 := fun W hb => spec_wide W sh A1 k1 S1 (r1.later hb) (by exact Nat.le_trans l1 m1) 8 (by omega)
  have R2 := fun W hb => spec_wide W si A2 k2 S2 (r2.later hb) (by exact Nat.le_trans l2 m2) 4 (by omega)
  have HR0 := Lib.hid R0
  have HR1 := Lib.hid R1
  have HR2 := Lib.hid R2
  clear R0 R1 R2 r0 r1 r2
  have HF : Hid (sigForm ⟨at_, op, sh, si⟩ = (inB at_ 0 15 && wideOk op 8 && wideOk sh 8 && wideOk si 4)) := Lib.hid rfl
  have HA := fun W => (Below.refl W.heap.size W).alloc (Nat.le_refl _)
  cases hin : inB at_ 0 15
  · rw [hin] at HF
    go_enter Tryz.func141, Tryz.ntmps141
    go_wp2_with (go_at_call 48; refine (spec_in _ _ _ _).mono ?_; rintro e w2 ⟨rfl, rfl⟩)
    go_ret; exact ⟨ret_bool (by rw [HF.out]; rfl), HA _ _⟩
  cases h0 : wideOk op 8
  · rw [hin, h0] at HF
    go_enter Tryz.func141, Tryz.ntmps141
    go_wp2_with (go_at_call 48; refine (spec_in _ _ _ _).mono ?_; rintro e w2 ⟨rfl, rfl⟩)
    refine (HR0.out _ (HA _ _)).mono ?_
    rintro e w2 ⟨rfl, rfl⟩
    rw [h0]
    go_wp2_with (fail)
    go_ret; exact ⟨ret_bool (by rw [HF.out]; rfl), HA _ _⟩
  cases h1 : wideOk sh 8
  · rw [hin, h0, h1] at HF
    go_enter Tryz.func141, Tryz.ntmps141
    go_wp2_with (go_at_call 48; refine (spec_in _ _ _ _).mono ?_; rintro e w2 ⟨rfl, rfl⟩)
    refine (HR0.out _ (HA _ _)).mono ?_
    rintro e w2 ⟨rfl, rfl⟩
    rw [h0]
    go_wp2_with (fail)
    refine (HR1.out _ (HA _ _)).mono ?_
    rintro e w2 ⟨rfl, rfl⟩
    rw [h1]
    go_wp2_with (fail)
    go_ret; exact ⟨ret_bool (by rw [HF.out]; rfl), HA _ _⟩
  · rw [hin, h0, h1] at HF
    go_enter Tryz.func141, Tryz.ntmps141
    go_wp2_with (go_at_call 48; refine (spec_in _ _ _ _).mono ?_; rintro e w2 ⟨rfl, rfl⟩)
    refine (HR0.out _ (HA _ _)).mono ?_
    rintro e w2 ⟨rfl, rfl⟩
    rw [h0]
    go_wp2_with (fail)
    refine (HR1.out _ (HA _ _)).mono ?_
    rintro e w2 ⟨rfl, rfl⟩
    rw [h1]
    go_wp2_with (fail)
    refine (HR2.out _ (HA _ _)).mono ?_
    rintro e w2 ⟨rfl, rfl⟩
    obtain ⟨b, hb⟩ : ∃ b, wideOk si 4 = b := ⟨_, rfl⟩
    rw [hb] at HF ⊢
    go_wp2_with (fail)
    go_ret; exact ⟨ret_bool (by rw [HF.out]; rfl), HA _ _⟩

end Go.Proofs.YtlfnmbcnehaikaaGreatDoor

set_option linter.unusedVariables false
set_option linter.unusedSimpArgs false
namespace Go.Proofs.YtlfnmbcnehaikaaGreatDoor
open Go.RowKit Lay Mk
def figT (v : Nat) : ByteArray := ⟨#[UInt8.ofNat (48 + v)]⟩
def seedOf (n : Int) : ByteArray := if inB n 0 2 then ⟨#[104, 111, 117, 115, 101]⟩ ++ figT n.toNat else ⟨#[]⟩
theorem dec_small {v : Nat} (h : v < 10) : (⟨(Go.Lib.decDigits v).toArray⟩ : ByteArray) = figT v := by
  unfold Go.Lib.decDigits; simp [h, figT]
theorem impl_Decimal (v : Nat) (h : v < 10) (w : World) : Calls Tryz.prog 85 #[.int .i64 v] w fun e w' => e = .returned (.string (figT v)) ∧ Below w.heap.size w w' := by
  have hd := dec_small h
  go_enter Tryz.func85, Tryz.ntmps85
  go_wp2_with (fail)
  refine (Tryz.strconv_Itoa_small v (by omega) _).mono ?_
  rintro e0 w1 ⟨rfl, hw⟩
  subst hw
  rw [hd]
  go_wp2
  go_ret
  exact ⟨rfl, Below.refl _ _⟩
theorem spec_Decimal0 (w : World) : Calls Tryz.prog 78 #[.int .i64 0] w fun e w' => e = .returned (.string (figT 0)) ∧ Below w.heap.size w w' := by
  go_enter Tryz.func78, Tryz.ntmps78
  go_wp2
  go_ret
  exact ⟨rfl, Below.refl _ _⟩
set_option maxRecDepth 20000 in set_option maxHeartbeats 4000000 in
theorem spec_Decimal1 (w : World) : Calls Tryz.prog 78 #[.int .i64 1] w fun e w' => e = .returned (.string (figT 1)) ∧ Below w.heap.size w w' := by
  go_enter Tryz.func78, Tryz.ntmps78
  go_wp2
  go_loopw [0, 4] (fun n s wr => ∃ b : Bool, n = .int .i64 (if b then 0 else 1) ∧ s = .string (if b then figT 1 else ⟨#[]⟩) ∧ Below w.heap.size w wr) (fun n _ _ => (intOf n).toNat)
  case atStart => exact ⟨false, rfl, rfl, Below.refl _ _⟩
  case round =>
    obtain ⟨b, rfl, rfl, hB⟩ := hrel
    have hz := hB.size
    cases b
    · simp only [Bool.false_eq_true, if_false]
      go_wp2_with (first | (refine wpList_strB rfl _ rfl Tryz.underlying5 Tryz.underlying9 rfl rfl (br_lit _ _ _ [49] rfl) ?_) | go_in)
      go_roundw
      case rel => exact ⟨true, rfl, by rfl, hB.alloc hz _⟩
      case measure => simp [intOf]
    · simp only [if_true]
      go_wp2
      go_ret
      exact ⟨rfl, hB⟩
set_option maxRecDepth 20000 in set_option maxHeartbeats 4000000 in
theorem spec_Decimal2 (w : World) : Calls Tryz.prog 78 #[.int .i64 2] w fun e w' => e = .returned (.string (figT 2)) ∧ Below w.heap.size w w' := by
  go_enter Tryz.func78, Tryz.ntmps78
  go_wp2
  go_loopw [0, 4] (fun n s wr => ∃ b : Bool, n = .int .i64 (if b then 0 else 2) ∧ s = .string (if b then figT 2 else ⟨#[]⟩) ∧ Below w.heap.size w wr) (fun n _ _ => (intOf n).toNat)
  case atStart => exact ⟨false, rfl, rfl, Below.refl _ _⟩
  case round =>
    obtain ⟨b, rfl, rfl, hB⟩ := hrel
    have hz := hB.size
    cases b
    · simp only [Bool.false_eq_true, if_false]
      go_wp2_with (first | (refine wpList_strB rfl _ rfl Tryz.underlying5 Tryz.underlying9 rfl rfl (br_lit _ _ _ [50] rfl) ?_) | go_in)
      go_roundw
      case rel => exact ⟨true, rfl, by rfl, hB.alloc hz _⟩
      case measure => simp [intOf]
    · simp only [if_true]
      go_wp2
      go_ret
      exact ⟨rfl, hB⟩
set_option maxRecDepth 20000 in set_option maxHeartbeats 4000000 in
theorem impl_SeedOf (w : World) (n : Int) (_hn : I64 n) : Calls Tryz.prog 35 #[.int .i64 n] w fun e w' => e = .returned (.string (seedOf n)) ∧ Below w.heap.size w w' := by
  cases hi : inB n 0 2
  · have HS : Hid (seedOf n = ⟨#[]⟩) := Lib.hid (by unfold seedOf; rw [hi]; rfl)
    go_enter Tryz.func35, Tryz.ntmps35
    go_wp2_with (go_at_call 57; refine (house_in _ _).mono ?_; rintro e w2 ⟨rfl, rfl⟩)
    go_ret
    exact ⟨by rw [HS.out]; rfl, Below.refl _ _⟩
  · have HS : Hid (seedOf n = ⟨#[104, 111, 117, 115, 101]⟩ ++ figT n.toNat) := Lib.hid (by unfold seedOf; rw [hi]; rfl)
    have hb : n = 0 ∨ n = 1 ∨ n = 2 := by simp [inB] at hi; omega
    have hD : ∀ W, Calls Tryz.prog 85 #[.int .i64 n] W fun e w' => e = .returned (.string (figT n.toNat)) ∧ Below W.heap.size W w' := fun W => by
      rcases hb with rfl | rfl | rfl
      · exact impl_Decimal 0 (by decide) W
      · exact impl_Decimal 1 (by decide) W
      · exact impl_Decimal 2 (by decide) W
    have hsz : (figT n.toNat).size = 1 := rfl
    obtain ⟨f, hf⟩ : ∃ f, figT n.toNat = f := ⟨_, rfl⟩
    rw [hf] at HS hD hsz
    clear hf hb
    go_enter Tryz.func35, Tryz.ntmps35
    go_wp2_with (go_at_call 57; refine (house_in _ _).mono ?_; rintro e w2 ⟨rfl, rfl⟩)
    refine (hD _).mono ?_
    rintro e0 w1 ⟨rfl, hb⟩
    have hc : ¬ 9223372036854775807 < (⟨#[104, 111, 117, 115, 101]⟩ : ByteArray).size + f.size := by rw [hsz]; decide
    go_wp2
    go_ret
    exact ⟨by rw [HS.out]; rfl, hb⟩
set_option maxRecDepth 20000 in set_option maxHeartbeats 4000000 in
theorem spec_SeedOf (w : World) (n : Int) (_hn : I64 n) : Calls Tryz.prog 31 #[.int .i64 n] w fun e w' => e = .returned (.string (seedOf n)) ∧ Below w.heap.size w w' := by
  cases hi : inB n 0 2
  · have HS : Hid (seedOf n = ⟨#[]⟩) := Lib.hid (by unfold seedOf; rw [hi]; rfl)
    go_enter Tryz.func31, Tryz.ntmps31
    go_wp2_with (go_at_call 48; refine (spec_in _ _ _ _).mono ?_; rintro e w2 ⟨rfl, rfl⟩)
    go_ret
    exact ⟨by rw [HS.out]; rfl, Below.refl _ _⟩
  · have HS : Hid (seedOf n = ⟨#[104, 111, 117, 115, 101]⟩ ++ figT n.toNat) := Lib.hid (by unfold seedOf; rw [hi]; rfl)
    have hb : n = 0 ∨ n = 1 ∨ n = 2 := by simp [inB] at hi; omega
    have hD : ∀ W, Calls Tryz.prog 78 #[.int .i64 n] W fun e w' => e = .returned (.string (figT n.toNat)) ∧ Below W.heap.size W w' := fun W => by
      rcases hb with rfl | rfl | rfl
      · exact spec_Decimal0 W
      · exact spec_Decimal1 W
      · exact spec_Decimal2 W
    have hsz : (figT n.toNat).size = 1 := rfl
    obtain ⟨f, hf⟩ : ∃ f, figT n.toNat = f := ⟨_, rfl⟩
    rw [hf] at HS hD hsz
    clear hf hb
    go_enter Tryz.func31, Tryz.ntmps31
    go_wp2_with (go_at_call 48; refine (spec_in _ _ _ _).mono ?_; rintro e w2 ⟨rfl, rfl⟩)
    refine (hD _).mono ?_
    rintro e0 w1 ⟨rfl, hb⟩
    have hc : ¬ 9223372036854775807 < (⟨#[104, 111, 117, 115, 101]⟩ : ByteArray).size + f.size := by rw [hsz]; decide
    go_wp2
    go_ret
    exact ⟨by rw [HS.out]; rfl, hb⟩
end Go.Proofs.YtlfnmbcnehaikaaGreatDoor
