/- A part of the proof: what the laws need of it. -/
import Derived.Test.YtojbehmbeoemgaaDoorHEvL18xHo
import Derived.Test.YtojbehmbeoemgaaDoorHEvL9xFd
import Derived.Test.YtojbehmbeoemgaaDoorHEvTg
import Derived.Test.YtojbehmbeoemgaaDoorHEvL13xDc
import Derived.Test.YtojbehmbeoemgaaDoorHEvDx
set_option linter.unusedVariables false
set_option linter.unusedSimpArgs false
set_option linter.unusedVariables false
set_option linter.unusedSimpArgs false
namespace Go.Proofs.YtojbehmbeoemgaaDoor
open Go.RowKit Lay Mk
def wideOk (l : List ByteArray) (n : Nat) : Bool := l.all (fun s => decide (s.size = 16)) && decide (l.length = n)
def sigForm (x : Sig) : Bool := inB x.at_ 0 15 && wideOk x.open_ 8 && wideOk x.shut 8 && wideOk x.sides 4
def signBits (t : ByteArray) : Nat := if h : 0 < (tagHash 7 [t] 16).size then ((tagHash 7 [t] 16)[0]'h).toNat else 0
def bitOf (n k : Nat) : Nat := n / 2 ^ (7 - k) % 2
def lockOf (s : ByteArray) : ByteArray := tagHash 6 [s] 16
def lockPair (bits : Nat) (x : Sig) (k : Nat) : List ByteArray := if bitOf bits k = 0 then [lockOf (x.open_.getD k ⟨#[]⟩), x.shut.getD k ⟨#[]⟩] else [x.shut.getD k ⟨#[]⟩, lockOf (x.open_.getD k ⟨#[]⟩)]
def locksTo (bits : Nat) (x : Sig) : Nat → List ByteArray
  | 0 => []
  | k + 1 => locksTo bits x k ++ lockPair bits x k
def climb : ByteArray → Nat → List ByteArray → ByteArray
  | h, _, [] => h
  | h, a, s :: r => climb (tagHash 3 (if a % 2 = 0 then [h, s] else [s, h]) 16) (a / 2) r
def sigRoot (t : ByteArray) (x : Sig) : ByteArray := climb (tagHash 6 (locksTo (signBits t) x 8) 16) x.at_.toNat x.sides
def sigOk (root t : ByteArray) (x : Sig) : Bool := sigForm x && decide (t.size ≤ 200) && decide (sigRoot t x = root)
theorem i64_and1 (n : Int) : bits .and .i64 n 1 = n % 2 := by
  have h1 : (BitVec.ofInt 64 1).toNat = 2 ^ 1 - 1 := by decide
  have key : (BitVec.ofInt 64 n &&& BitVec.ofInt 64 1).toNat = (n % ((2 ^ 64 : Nat) : Int)).toNat % 2 ^ 1 := by
    rw [BitVec.toNat_and, BitVec.toNat_ofInt, h1, Nat.and_two_pow_sub_one_eq_mod]
  show IntKind.i64.wrap ((BitVec.ofInt 64 n &&& BitVec.ofInt 64 1).toNat : Nat) = n % 2
  rw [key, IntKind.wrap_i64]
  omega
theorem signBits_lt (t : ByteArray) : signBits t < 256 := by
  unfold signBits; split
  · exact UInt8.toNat_lt _
  · omega
theorem tagOk_of {kind : Int} {xs : List ByteArray} (hk : inB kind 1 8 = true) (hl : xs.length ≤ 60) (hp : ∀ x ∈ xs, x.size ≤ 200) : tagOk kind xs = true := by
  unfold tagOk; rw [hk, decide_eq_true hl]
  rw [parts_good (fun j h => hp _ (List.getElem_mem h))]; rfl
theorem tagHash_size {kind : Int} {xs : List ByteArray} (h : tagOk kind xs = true) : (tagHash kind xs 16).size = 16 := by
  unfold tagHash; rw [if_pos h, cutDigest_size (by omega)]; rfl
theorem tagHash_cut {kind : Int} {xs : List ByteArray} (h : tagOk kind xs = true) : cutDigest (tagText kind xs) 16 = tagHash kind xs 16 := by
  unfold tagHash; rw [if_pos h]
theorem signBits_at {t : ByteArray} (h : 0 < (tagHash 7 [t] 16).size) : signBits t = ((tagHash 7 [t] 16)[0]'h).toNat := by unfold signBits; rw [dif_pos h]
theorem tag_one {kind : Int} {s : ByteArray} (hk : inB kind 1 8 = true) (h : s.size ≤ 200) : tagOk kind [s] = true := tagOk_of hk (by simp) (fun x hx => by simp at hx; subst hx; exact h)
theorem tag_two {kind : Int} {s t : ByteArray} (hk : inB kind 1 8 = true) (h : s.size ≤ 200) (h2 : t.size ≤ 200) : tagOk kind [s, t] = true := tagOk_of hk (by simp) (fun x hx => by simp at hx; rcases hx with rfl | rfl <;> assumption)
theorem wide_bad {l : List ByteArray} {n k : Nat} (hk : k < l.length) (h : l[k].size ≠ 16) : wideOk l n = false := by
  unfold wideOk; rw [Bool.and_eq_false_iff]; left; rw [List.all_eq_false]; exact ⟨_, List.getElem_mem hk, by simp [h]⟩
theorem wide_end {l : List ByteArray} {n : Nat} (h : ∀ k (hk : k < l.length), l[k].size = 16) : wideOk l n = decide (l.length = n) := by
  unfold wideOk
  have : l.all (fun s => decide (s.size = 16)) = true := by
    rw [List.all_eq_true]; intro s hs
    obtain ⟨k, hk, rfl⟩ := List.getElem_of_mem hs
    simp [h k hk]
  rw [this]; simp
theorem wide_at {l : List ByteArray} {n : Nat} (h : wideOk l n = true) : l.length = n ∧ ∀ s ∈ l, s.size = 16 := by
  unfold wideOk at h
  rw [Bool.and_eq_true, List.all_eq_true] at h
  exact ⟨by simpa using h.2, fun s hs => by simpa using h.1 s hs⟩
theorem form_parts {x : Sig} (h : sigForm x = true) : (0 ≤ x.at_ ∧ x.at_ ≤ 15) ∧ wideOk x.open_ 8 = true ∧ wideOk x.shut 8 = true ∧ wideOk x.sides 4 = true := by
  unfold sigForm at h
  simp only [Bool.and_eq_true] at h
  obtain ⟨⟨⟨h1, h2⟩, h3⟩, h4⟩ := h
  exact ⟨by simpa [inB] using h1, h2, h3, h4⟩
theorem lockOf_size {s : ByteArray} (h : s.size ≤ 200) : (lockOf s).size = 16 := tagHash_size (tag_one (by decide) h)
theorem getD_wide {l : List ByteArray} {n : Nat} (h : wideOk l n = true) {k : Nat} (hk : k < n) : (l.getD k ⟨#[]⟩).size = 16 := by
  obtain ⟨h1, h2⟩ := wide_at h
  rw [List.getD_eq_getElem?_getD, List.getElem?_eq_getElem (by omega), Option.getD_some]
  exact h2 _ (List.getElem_mem _)
theorem lockPair_size {bits : Nat} {x : Sig} (h1 : wideOk x.open_ 8 = true) (h2 : wideOk x.shut 8 = true) {k : Nat} (hk : k < 8) : ∀ s ∈ lockPair bits x k, s.size = 16 := by
  have a := lockOf_size (s := x.open_.getD k ⟨#[]⟩) (by rw [getD_wide h1 hk]; omega)
  have b := getD_wide h2 hk
  intro s hs
  unfold lockPair at hs
  split at hs <;> (simp at hs; rcases hs with rfl | rfl <;> first | (simpa using a) | (simpa using b))
theorem lockPair_len (bits : Nat) (x : Sig) (k : Nat) : (lockPair bits x k).length = 2 := by unfold lockPair; split <;> rfl
theorem locksTo_len (bits : Nat) (x : Sig) : ∀ k, (locksTo bits x k).length = 2 * k
  | 0 => rfl
  | k + 1 => by unfold locksTo; rw [List.length_append, locksTo_len bits x k, lockPair_len]; omega
theorem locksTo_size {bits : Nat} {x : Sig} (h1 : wideOk x.open_ 8 = true) (h2 : wideOk x.shut 8 = true) : ∀ k, k ≤ 8 → ∀ s ∈ locksTo bits x k, s.size = 16
  | 0, _ => fun s hs => by cases hs
  | k + 1, hk => fun s hs => by
    unfold locksTo at hs
    rcases List.mem_append.1 hs with h | h
    · exact locksTo_size h1 h2 k (by omega) s h
    · exact lockPair_size h1 h2 (by omega) s h
theorem locks_ok {bits : Nat} {x : Sig} (h : sigForm x = true) : tagOk 6 (locksTo bits x 8) = true := by
  obtain ⟨_, h1, h2, _⟩ := form_parts h
  exact tagOk_of (by decide) (by rw [locksTo_len]; omega) (fun s hs => by rw [locksTo_size h1 h2 8 (by omega) s hs]; omega)
set_option maxHeartbeats 2000000 in

theorem impl_wide (w : World) (l : List ByteArray) (A : Option Addr) (cap : Nat) (S : Blks) (hx : Row false w A cap l S) (hl0 : l.length ≤ maxLen) (n : Nat) (hn : n ≤ 100) : Calls Tryd.prog 84 #[.slice A l.length cap, .int .i64 n, .int .i64 16] w fun e w' => e = .returned (.bool (wideOk l n)) ∧ w = w' := by
  have hl : l.length ≤ 9223372036854775807 := hl0
  clear hl0
  have HB := Lib.hid (fun (k : Nat) hk h => wide_bad (l := l) (n := n) (k := k) hk h)
  have HE := Lib.hid (fun h => wide_end (l := l) (n := n) h)
  go_enter Tryd.func84, Tryd.ntmps84
  go_wp2
  go_loopw [11] (fun i wr => ∃ k : Nat, k ≤ l.length ∧ i = .int .i64 k ∧ Hid (∀ j (h : j < l.length), j < k → l[j].size = 16) ∧ w = wr) (fun i _ => l.length - (intOf i).toNat)
  case atStart => exact ⟨0, Nat.zero_le _, rfl, Lib.hid (fun j _ h => absurd h (by omega)), rfl⟩
  case round =>
    obtain ⟨k, hk, rfl, HS, rfl⟩ := hrel
    by_cases hlt : k < l.length
    · obtain ⟨b1, o1, rfl, hl1, f0, s0⟩ := Row.str hx hlt
      have HBk := Lib.hid (HB.out k hlt)
      have HN : Hid (l[k].size = 16 → ∀ j (h : j < l.length), j < k + 1 → l[j].size = 16) := Lib.hid (fun h0 j h hj => by rcases Nat.lt_succ_iff_lt_or_eq.1 hj with h1 | h1; exact HS.out j h h1; subst h1; exact h0)
      obtain ⟨x, hxx⟩ : ∃ x, l[k] = x := ⟨_, rfl⟩
      rw [hxx] at f0 HBk HN s0
      clear hxx
      by_cases h16 : x.size = 16
      · have HNx := Lib.hid (HN.out h16)
        have hq : ((x.size : Int) != 16) = false := by rw [bne_eq_false_iff_eq]; omega
        clear HB HE HBk HN h16
        go_wp2
        go_roundw
        case rel => exact ⟨k + 1, by omega, by go_num, HNx, trivial⟩
        case measure => simp [intOf]; omega
      · have HF := Lib.hid (HBk.out h16)
        have hq : ((x.size : Int) != 16) = true := by rw [bne_iff_ne]; omega
        clear HB HE HBk HN h16
        go_wp2
        go_ret
        exact ⟨by rw [HF.out]; rfl, rfl⟩
    · have hke : k = l.length := by omega
      subst hke
      have HF := Lib.hid (HE.out (fun k hk => HS.out k hk hk))
      have hc : ((l.length : Int) == (n : Int)) = decide (l.length = n) := by rw [Bool.eq_iff_iff, beq_iff_eq, decide_eq_true_iff]; omega
      have HC := Lib.hid hc
      clear hc HB HE HS
      go_wp2
      go_ret
      exact ⟨ret_bool (by rw [HF.out, ← HC.out]), rfl⟩

set_option maxRecDepth 20000 in set_option maxHeartbeats 4000000 in
theorem impl_form (w : World) (x : Sig) (cs : List Value) (S : Blks) (hx : rd false w cs x S) : Calls Tryd.prog 155 #[.agg cs.toArray] w fun e w' => e = .returned (.bool (sigForm x)) ∧ Below w.heap.size w w' := by
  obtain ⟨A0, k0, S0, A1, k1, S1, A2, k2, S2, rfl, ha, l0, m0, r0, _, l1, m1, r1, _, l2, m2, r2, _⟩ := Sig.open hx
  clear hx
  obtain ⟨at_, op, sh, si⟩ := x
  simp only [Sig.cs]
  simp only at ha l0 m0 r0 l1 m1 r1 l2 m2 r2
  have R0 := fun W hb => impl_wide W op A0 k0 S0 (r0.later hb) (by exact Nat.le_trans l0 m0) 8 (by omega)
  have R1 := fun W hb => impl_wide W sh A1 k1 S1 (r1.later hb) (by exact Nat.le_trans l1 m1) 8 (by omega)
  have R2 := fun W hb => impl_wide W si A2 k2 S2 (r2.later hb) (by exact Nat.le_trans l2 m2) 4 (by omega)
  have HR0 := Lib.hid R0
  have HR1 := Lib.hid R1
  have HR2 := Lib.hid R2
  clear R0 R1 R2 r0 r1 r2
  have HF : Hid (sigForm ⟨at_, op, sh, si⟩ = (inB at_ 0 15 && wideOk op 8 && wideOk sh 8 && wideOk si 4)) := Lib.hid rfl
  have HA := fun W => (Below.refl W.heap.size W).alloc (Nat.le_refl _)
  cases hin : inB at_ 0 15
  · rw [hin] at HF
    go_enter Tryd.func155, Tryd.ntmps155
    go_wp2_with (go_at_call 125; refine (impl_in _ _ _ _).mono ?_; rintro e w2 ⟨rfl, rfl⟩)
    go_ret; exact ⟨ret_bool (by rw [HF.out]; rfl), HA _ _⟩
  cases h0 : wideOk op 8
  · rw [hin, h0] at HF
    go_enter Tryd.func155, Tryd.ntmps155
    go_wp2_with (go_at_call 125; refine (impl_in _ _ _ _).mono ?_; rintro e w2 ⟨rfl, rfl⟩)
    refine (HR0.out _ (HA _ _)).mono ?_
    rintro e w2 ⟨rfl, rfl⟩
    rw [h0]
    go_wp2_with (fail)
    go_ret; exact ⟨ret_bool (by rw [HF.out]; rfl), HA _ _⟩
  cases h1 : wideOk sh 8
  · rw [hin, h0, h1] at HF
    go_enter Tryd.func155, Tryd.ntmps155
    go_wp2_with (go_at_call 125; refine (impl_in _ _ _ _).mono ?_; rintro e w2 ⟨rfl, rfl⟩)
    refine (HR0.out _ (HA _ _)).mono ?_
    rintro e w2 ⟨rfl, rfl⟩
    rw [h0]
    go_wp2_with (fail)
    refine (HR1.out _ (HA _ _)).mono ?_
    rintro e w2 ⟨rfl, rfl⟩
    rw [h1]
    go_wp2_with (fail)
    go_ret; exact ⟨ret_bool (by rw [HF.out]; rfl), HA _ _⟩
  · rw [hin, h0, h1] at HF
    go_enter Tryd.func155, Tryd.ntmps155
    go_wp2_with (go_at_call 125; refine (impl_in _ _ _ _).mono ?_; rintro e w2 ⟨rfl, rfl⟩)
    refine (HR0.out _ (HA _ _)).mono ?_
    rintro e w2 ⟨rfl, rfl⟩
    rw [h0]
    go_wp2_with (fail)
    refine (HR1.out _ (HA _ _)).mono ?_
    rintro e w2 ⟨rfl, rfl⟩
    rw [h1]
    go_wp2_with (fail)
    refine (HR2.out _ (HA _ _)).mono ?_
    rintro e w2 ⟨rfl, rfl⟩
    obtain ⟨b, hb⟩ : ∃ b, wideOk si 4 = b := ⟨_, rfl⟩
    rw [hb] at HF ⊢
    go_wp2_with (fail)
    go_ret; exact ⟨ret_bool (by rw [HF.out]; rfl), HA _ _⟩

set_option maxHeartbeats 2000000 in
theorem impl_BitOf (w : World) (n : Nat) (hn : n < 256) (k : Nat) (hk : k < 8) : Calls Tryd.prog 158 #[.int .i64 n, .int .i64 k] w fun e w' => e = .returned (.int .i64 (bitOf n k)) ∧ w = w' := by
  rcases (show k = 0 ∨ k = 1 ∨ k = 2 ∨ k = 3 ∨ k = 4 ∨ k = 5 ∨ k = 6 ∨ k = 7 by omega) with rfl | rfl | rfl | rfl | rfl | rfl | rfl | rfl
  · have hi : inB 0 0 7 = true := by decide
    have hb : bitOf n 0 = n / 128 % 2 := rfl
    have HB := Lib.hid hb
    clear hb
    go_enter Tryd.func158, Tryd.ntmps158
    go_wp2_with (go_at_call 125; refine (impl_in _ _ _ _).mono ?_; rintro e w2 ⟨rfl, rfl⟩)
    go_ret
    exact ⟨by rw [HB.out]; exact ret_int (by rw [i64_and1]; omega), rfl⟩
  · have hi : inB 1 0 7 = true := by decide
    have hb : bitOf n 1 = n / 64 % 2 := rfl
    have HB := Lib.hid hb
    clear hb
    go_enter Tryd.func158, Tryd.ntmps158
    go_wp2_with (go_at_call 125; refine (impl_in _ _ _ _).mono ?_; rintro e w2 ⟨rfl, rfl⟩)
    go_ret
    exact ⟨by rw [HB.out]; exact ret_int (by rw [i64_and1]; omega), rfl⟩
  · have hi : inB 2 0 7 = true := by decide
    have hb : bitOf n 2 = n / 32 % 2 := rfl
    have HB := Lib.hid hb
    clear hb
    go_enter Tryd.func158, Tryd.ntmps158
    go_wp2_with (go_at_call 125; refine (impl_in _ _ _ _).mono ?_; rintro e w2 ⟨rfl, rfl⟩)
    go_ret
    exact ⟨by rw [HB.out]; exact ret_int (by rw [i64_and1]; omega), rfl⟩
  · have hi : inB 3 0 7 = true := by decide
    have hb : bitOf n 3 = n / 16 % 2 := rfl
    have HB := Lib.hid hb
    clear hb
    go_enter Tryd.func158, Tryd.ntmps158
    go_wp2_with (go_at_call 125; refine (impl_in _ _ _ _).mono ?_; rintro e w2 ⟨rfl, rfl⟩)
    go_ret
    exact ⟨by rw [HB.out]; exact ret_int (by rw [i64_and1]; omega), rfl⟩
  · have hi : inB 4 0 7 = true := by decide
    have hb : bitOf n 4 = n / 8 % 2 := rfl
    have HB := Lib.hid hb
    clear hb
    go_enter Tryd.func158, Tryd.ntmps158
    go_wp2_with (go_at_call 125; refine (impl_in _ _ _ _).mono ?_; rintro e w2 ⟨rfl, rfl⟩)
    go_ret
    exact ⟨by rw [HB.out]; exact ret_int (by rw [i64_and1]; omega), rfl⟩
  · have hi : inB 5 0 7 = true := by decide
    have hb : bitOf n 5 = n / 4 % 2 := rfl
    have HB := Lib.hid hb
    clear hb
    go_enter Tryd.func158, Tryd.ntmps158
    go_wp2_with (go_at_call 125; refine (impl_in _ _ _ _).mono ?_; rintro e w2 ⟨rfl, rfl⟩)
    go_ret
    exact ⟨by rw [HB.out]; exact ret_int (by rw [i64_and1]; omega), rfl⟩
  · have hi : inB 6 0 7 = true := by decide
    have hb : bitOf n 6 = n / 2 % 2 := rfl
    have HB := Lib.hid hb
    clear hb
    go_enter Tryd.func158, Tryd.ntmps158
    go_wp2_with (go_at_call 125; refine (impl_in _ _ _ _).mono ?_; rintro e w2 ⟨rfl, rfl⟩)
    go_ret
    exact ⟨by rw [HB.out]; exact ret_int (by rw [i64_and1]; omega), rfl⟩
  · have hi : inB 7 0 7 = true := by decide
    have hb : bitOf n 7 = n / 1 % 2 := rfl
    have HB := Lib.hid hb
    clear hb
    go_enter Tryd.func158, Tryd.ntmps158
    go_wp2_with (go_at_call 125; refine (impl_in _ _ _ _).mono ?_; rintro e w2 ⟨rfl, rfl⟩)
    go_ret
    exact ⟨by rw [HB.out]; exact ret_int (by rw [i64_and1]; omega), rfl⟩
set_option maxHeartbeats 2000000 in
theorem spec_BitOf (w : World) (n : Nat) (hn : n < 256) (k : Nat) (hk : k < 8) : Calls Tryd.prog 110 #[.int .i64 n, .int .i64 k] w fun e w' => e = .returned (.int .i64 (bitOf n k)) ∧ w = w' := by
  rcases (show k = 0 ∨ k = 1 ∨ k = 2 ∨ k = 3 ∨ k = 4 ∨ k = 5 ∨ k = 6 ∨ k = 7 by omega) with rfl | rfl | rfl | rfl | rfl | rfl | rfl | rfl
  · have hi : inB 0 0 7 = true := by decide
    have hb : bitOf n 0 = n / 128 % 2 := rfl
    have HB := Lib.hid hb
    clear hb
    go_enter Tryd.func110, Tryd.ntmps110
    go_wp2_with (go_at_call 50; refine (spec_in _ _ _ _).mono ?_; rintro e w2 ⟨rfl, rfl⟩)
    go_ret
    exact ⟨by rw [HB.out]; exact ret_int (by rw [i64_and1]; omega), rfl⟩
  · have hi : inB 1 0 7 = true := by decide
    have hb : bitOf n 1 = n / 64 % 2 := rfl
    have HB := Lib.hid hb
    clear hb
    go_enter Tryd.func110, Tryd.ntmps110
    go_wp2_with (go_at_call 50; refine (spec_in _ _ _ _).mono ?_; rintro e w2 ⟨rfl, rfl⟩)
    go_ret
    exact ⟨by rw [HB.out]; exact ret_int (by rw [i64_and1]; omega), rfl⟩
  · have hi : inB 2 0 7 = true := by decide
    have hb : bitOf n 2 = n / 32 % 2 := rfl
    have HB := Lib.hid hb
    clear hb
    go_enter Tryd.func110, Tryd.ntmps110
    go_wp2_with (go_at_call 50; refine (spec_in _ _ _ _).mono ?_; rintro e w2 ⟨rfl, rfl⟩)
    go_ret
    exact ⟨by rw [HB.out]; exact ret_int (by rw [i64_and1]; omega), rfl⟩
  · have hi : inB 3 0 7 = true := by decide
    have hb : bitOf n 3 = n / 16 % 2 := rfl
    have HB := Lib.hid hb
    clear hb
    go_enter Tryd.func110, Tryd.ntmps110
    go_wp2_with (go_at_call 50; refine (spec_in _ _ _ _).mono ?_; rintro e w2 ⟨rfl, rfl⟩)
    go_ret
    exact ⟨by rw [HB.out]; exact ret_int (by rw [i64_and1]; omega), rfl⟩
  · have hi : inB 4 0 7 = true := by decide
    have hb : bitOf n 4 = n / 8 % 2 := rfl
    have HB := Lib.hid hb
    clear hb
    go_enter Tryd.func110, Tryd.ntmps110
    go_wp2_with (go_at_call 50; refine (spec_in _ _ _ _).mono ?_; rintro e w2 ⟨rfl, rfl⟩)
    go_ret
    exact ⟨by rw [HB.out]; exact ret_int (by rw [i64_and1]; omega), rfl⟩
  · have hi : inB 5 0 7 = true := by decide
    have hb : bitOf n 5 = n / 4 % 2 := rfl
    have HB := Lib.hid hb
    clear hb
    go_enter Tryd.func110, Tryd.ntmps110
    go_wp2_with (go_at_call 50; refine (spec_in _ _ _ _).mono ?_; rintro e w2 ⟨rfl, rfl⟩)
    go_ret
    exact ⟨by rw [HB.out]; exact ret_int (by rw [i64_and1]; omega), rfl⟩
  · have hi : inB 6 0 7 = true := by decide
    have hb : bitOf n 6 = n / 2 % 2 := rfl
    have HB := Lib.hid hb
    clear hb
    go_enter Tryd.func110, Tryd.ntmps110
    go_wp2_with (go_at_call 50; refine (spec_in _ _ _ _).mono ?_; rintro e w2 ⟨rfl, rfl⟩)
    go_ret
    exact ⟨by rw [HB.out]; exact ret_int (by rw [i64_and1]; omega), rfl⟩
  · have hi : inB 7 0 7 = true := by decide
    have hb : bitOf n 7 = n / 1 % 2 := rfl
    have HB := Lib.hid hb
    clear hb
    go_enter Tryd.func110, Tryd.ntmps110
    go_wp2_with (go_at_call 50; refine (spec_in _ _ _ _).mono ?_; rintro e w2 ⟨rfl, rfl⟩)
    go_ret
    exact ⟨by rw [HB.out]; exact ret_int (by rw [i64_and1]; omega), rfl⟩
end Go.Proofs.YtojbehmbeoemgaaDoor

set_option linter.unusedVariables false
set_option linter.unusedSimpArgs false
namespace Go.Proofs.YtojbehmbeoemgaaDoor
open Go.RowKit Lay Mk
def figT (v : Nat) : ByteArray := ⟨#[UInt8.ofNat (48 + v)]⟩
def seedOf (n : Int) : ByteArray := if inB n 0 2 then ⟨#[104, 111, 117, 115, 101]⟩ ++ figT n.toNat else ⟨#[]⟩
theorem spec_Decimal0 (w : World) : Calls Tryd.prog 51 #[.int .i64 0] w fun e w' => e = .returned (.string (figT 0)) ∧ Below w.heap.size w w' := by
  go_enter Tryd.func51, Tryd.ntmps51
  go_wp2
  go_ret
  exact ⟨rfl, Below.refl _ _⟩
set_option maxRecDepth 20000 in set_option maxHeartbeats 4000000 in
theorem spec_Decimal1 (w : World) : Calls Tryd.prog 51 #[.int .i64 1] w fun e w' => e = .returned (.string (figT 1)) ∧ Below w.heap.size w w' := by
  go_enter Tryd.func51, Tryd.ntmps51
  go_wp2
  go_loopw [0, 4] (fun n s wr => ∃ b : Bool, n = .int .i64 (if b then 0 else 1) ∧ s = .string (if b then figT 1 else ⟨#[]⟩) ∧ Below w.heap.size w wr) (fun n _ _ => (intOf n).toNat)
  case atStart => exact ⟨false, rfl, rfl, Below.refl _ _⟩
  case round =>
    obtain ⟨b, rfl, rfl, hB⟩ := hrel
    have hz := hB.size
    cases b
    · simp only [Bool.false_eq_true, if_false]
      go_wp2_with (first | (refine wpList_strB rfl _ rfl Tryd.underlying5 Tryd.underlying9 rfl rfl (br_lit _ _ _ [49] rfl) ?_) | go_in)
      go_roundw
      case rel => exact ⟨true, rfl, by rfl, hB.alloc hz _⟩
      case measure => simp [intOf]
    · simp only [if_true]
      go_wp2
      go_ret
      exact ⟨rfl, hB⟩
set_option maxRecDepth 20000 in set_option maxHeartbeats 4000000 in
theorem spec_Decimal2 (w : World) : Calls Tryd.prog 51 #[.int .i64 2] w fun e w' => e = .returned (.string (figT 2)) ∧ Below w.heap.size w w' := by
  go_enter Tryd.func51, Tryd.ntmps51
  go_wp2
  go_loopw [0, 4] (fun n s wr => ∃ b : Bool, n = .int .i64 (if b then 0 else 2) ∧ s = .string (if b then figT 2 else ⟨#[]⟩) ∧ Below w.heap.size w wr) (fun n _ _ => (intOf n).toNat)
  case atStart => exact ⟨false, rfl, rfl, Below.refl _ _⟩
  case round =>
    obtain ⟨b, rfl, rfl, hB⟩ := hrel
    have hz := hB.size
    cases b
    · simp only [Bool.false_eq_true, if_false]
      go_wp2_with (first | (refine wpList_strB rfl _ rfl Tryd.underlying5 Tryd.underlying9 rfl rfl (br_lit _ _ _ [50] rfl) ?_) | go_in)
      go_roundw
      case rel => exact ⟨true, rfl, by rfl, hB.alloc hz _⟩
      case measure => simp [intOf]
    · simp only [if_true]
      go_wp2
      go_ret
      exact ⟨rfl, hB⟩
theorem spec_SeedOf (w : World) (n : Int) (_hn : I64 n) : Calls Tryd.prog 13 #[.int .i64 n] w fun e w' => e = .returned (.string (seedOf n)) ∧ Below w.heap.size w w' := by
  cases hi : inB n 0 2
  · have HS : Hid (seedOf n = ⟨#[]⟩) := Lib.hid (by unfold seedOf; rw [hi]; rfl)
    go_enter Tryd.func13, Tryd.ntmps13
    go_wp2_with (go_at_call 50; refine (spec_in _ _ _ _).mono ?_; rintro e w2 ⟨rfl, rfl⟩)
    go_ret
    exact ⟨by rw [HS.out]; rfl, Below.refl _ _⟩
  · have HS : Hid (seedOf n = ⟨#[104, 111, 117, 115, 101]⟩ ++ figT n.toNat) := Lib.hid (by unfold seedOf; rw [hi]; rfl)
    have hb : n = 0 ∨ n = 1 ∨ n = 2 := by simp [inB] at hi; omega
    have hD : ∀ W, Calls Tryd.prog 51 #[.int .i64 n] W fun e w' => e = .returned (.string (figT n.toNat)) ∧ Below W.heap.size W w' := fun W => by
      rcases hb with rfl | rfl | rfl
      · exact spec_Decimal0 W
      · exact spec_Decimal1 W
      · exact spec_Decimal2 W
    have hsz : (figT n.toNat).size = 1 := rfl
    obtain ⟨f, hf⟩ : ∃ f, figT n.toNat = f := ⟨_, rfl⟩
    rw [hf] at HS hD hsz
    clear hf hb
    go_enter Tryd.func13, Tryd.ntmps13
    go_wp2_with (go_at_call 50; refine (spec_in _ _ _ _).mono ?_; rintro e w2 ⟨rfl, rfl⟩)
    refine (hD _).mono ?_
    rintro e0 w1 ⟨rfl, hb⟩
    have hc : ¬ 9223372036854775807 < (⟨#[104, 111, 117, 115, 101]⟩ : ByteArray).size + f.size := by rw [hsz]; decide
    go_wp2
    go_ret
    exact ⟨by rw [HS.out]; rfl, hb⟩
theorem seedOf_le (n : Int) : (seedOf n).size ≤ 100 := by
  unfold seedOf; split
  · rw [ByteArray.size_append]; show 5 + 1 ≤ 100; omega
  · exact Nat.zero_le _
set_option maxRecDepth 20000 in set_option maxHeartbeats 4000000 in
theorem spec_l14Seed0 (w : World) : Calls Tryd.prog 106 #[.int .i64 0] w fun e w' => e = .returned (.string (seedOf 0)) ∧ Below w.heap.size w w' := by
  have hc : ¬ 9223372036854775807 < (⟨#[104, 111, 117, 115, 101]⟩ : ByteArray).size + (bs [48]).size := by decide
  go_enter Tryd.func106, Tryd.ntmps106
  go_wp2_with (first | (refine wpList_strB rfl _ rfl Tryd.underlying5 Tryd.underlying9 rfl rfl (br_lit _ _ _ [48] rfl) ?_))
  go_ret
  exact ⟨by first | rfl | decide, (Below.refl _ _).alloc (Nat.le_refl _) _⟩
set_option maxRecDepth 20000 in set_option maxHeartbeats 4000000 in
theorem spec_l14Seed1 (w : World) : Calls Tryd.prog 106 #[.int .i64 1] w fun e w' => e = .returned (.string (seedOf 1)) ∧ Below w.heap.size w w' := by
  have hc : ¬ 9223372036854775807 < (⟨#[104, 111, 117, 115, 101]⟩ : ByteArray).size + (bs [49]).size := by decide
  go_enter Tryd.func106, Tryd.ntmps106
  go_wp2_with (first | (refine wpList_strB rfl _ rfl Tryd.underlying5 Tryd.underlying9 rfl rfl (br_lit _ _ _ [49] rfl) ?_))
  go_ret
  exact ⟨by first | rfl | decide, (Below.refl _ _).alloc (Nat.le_refl _) _⟩
set_option maxRecDepth 20000 in set_option maxHeartbeats 4000000 in
theorem spec_l14Seed2 (w : World) : Calls Tryd.prog 106 #[.int .i64 2] w fun e w' => e = .returned (.string (seedOf 2)) ∧ Below w.heap.size w w' := by
  have hc : ¬ 9223372036854775807 < (⟨#[104, 111, 117, 115, 101]⟩ : ByteArray).size + (bs [50]).size := by decide
  go_enter Tryd.func106, Tryd.ntmps106
  go_wp2_with (first | (refine wpList_strB rfl _ rfl Tryd.underlying5 Tryd.underlying9 rfl rfl (br_lit _ _ _ [50] rfl) ?_))
  go_ret
  exact ⟨by first | rfl | decide, (Below.refl _ _).alloc (Nat.le_refl _) _⟩
theorem spec_l14Seed (w : World) (n : Int) (h : inB n 0 2 = true) : Calls Tryd.prog 106 #[.int .i64 n] w fun e w' => e = .returned (.string (seedOf n)) ∧ Below w.heap.size w w' := by
  have hb : n = 0 ∨ n = 1 ∨ n = 2 := by simp [inB] at h; omega
  rcases hb with rfl | rfl | rfl
  · exact spec_l14Seed0 w
  · exact spec_l14Seed1 w
  · exact spec_l14Seed2 w
set_option maxRecDepth 20000 in set_option maxHeartbeats 4000000 in
theorem spec_l13Root (w : World) (g : Nat) (xs : List UInt8) (A : Option Addr) (cap : Nat) (S : Blks) (hc : Cur w g xs A cap) (hx : Row false w A cap xs S) (hS : ∀ b, S b → b < g) (hg : g < w.heap.size) (hl : xs.length ≤ 1048576) : Calls Tryd.prog 105 #[.pointer (some ⟨g, 0, none⟩)] w fun e w' => ∃ t : ByteArray, e = .returned (.string t) ∧ t.size = 16 ∧ Cur w' g xs A cap ∧ Chg (fun b => b = g ∨ w.heap.size ≤ b) w w' := by
  go_enter Tryd.func105, Tryd.ntmps105
  go_wp2_with (fail)
  refine (spec_l01Text w g xs A cap S hc hx hS hg hl 2 (by omega)).mono ?_
  rintro e1 w1 ⟨t, rfl, ht, hc1, hch⟩
  have hz := hch.size
  go_wp2_with (fail)
  refine (spec_CutDigest w1 t (by omega) 16 (by unfold I64; omega)).mono ?_
  rintro e2 w2 ⟨rfl, hb2⟩
  go_wp2
  go_ret
  exact ⟨_, rfl, cutDigest_size (by omega), hc1.keep (hb2.block _ (by omega)), hch.below hb2 hz⟩
set_option maxRecDepth 20000 in set_option maxHeartbeats 4000000 in
theorem spec_l01BelowBig (w : World) (g : Nat) (xs : List UInt8) (A : Option Addr) (cap : Nat) (S : Blks) (hc : Cur w g xs A cap) (hx : Row false w A cap xs S) (hS : ∀ b, S b → b < g) (hg : g < w.heap.size) (hl : xs.length ≤ 1048576) : Calls Tryd.prog 49 #[.pointer (some ⟨g, 0, none⟩), .int .i64 10000] w fun e w' => ∃ x : Int, e = .returned (.int .i64 x) ∧ 0 ≤ x ∧ x < 10000 ∧ Cur w' g xs A cap ∧ Chg (fun b => b = g) w w' := by
  have hSg : ¬ S g := fun h => by have := hS g h; omega
  go_enter Tryd.func49, Tryd.ntmps49
  go_wp2_with (fail)
  refine (spec_l01Byte w g xs A cap S hc hx hSg hl).mono ?_
  rintro e1 w1 ⟨x, rfl, hx0, hx1, hc1, hch1⟩
  have hr1 : Row false w1 A cap xs S := Row.chg hx hch1 (fun b h1 h2 => by have h3 : b = g := h2; subst h3; exact hSg h1)
  go_wp2_with (fail)
  refine (spec_l01Byte w1 g xs A cap S hc1 hr1 hSg hl).mono ?_
  rintro e2 w2 ⟨y, rfl, hy0, hy1, hc2, hch2⟩
  have hr2 : Row false w2 A cap xs S := Row.chg hr1 hch2 (fun b h1 h2 => by have h3 : b = g := h2; subst h3; exact hSg h1)
  go_wp2_with (fail)
  refine (spec_l01Byte w2 g xs A cap S hc2 hr2 hSg hl).mono ?_
  rintro e3 w3 ⟨z, rfl, hz0, hz1, hc3, hch3⟩
  have hr3 : Row false w3 A cap xs S := Row.chg hr2 hch3 (fun b h1 h2 => by have h3 : b = g := h2; subst h3; exact hSg h1)
  go_wp2_with (fail)
  refine (spec_l01Byte w3 g xs A cap S hc3 hr3 hSg hl).mono ?_
  rintro e4 w4 ⟨v, rfl, hv0, hv1, hc4, hch4⟩
  obtain ⟨x, rfl⟩ : ∃ n : Nat, x = n := ⟨x.toNat, by omega⟩
  obtain ⟨y, rfl⟩ : ∃ n : Nat, y = n := ⟨y.toNat, by omega⟩
  obtain ⟨z, rfl⟩ : ∃ n : Nat, z = n := ⟨z.toNat, by omega⟩
  obtain ⟨v, rfl⟩ : ∃ n : Nat, v = n := ⟨v.toNat, by omega⟩
  obtain ⟨X, hX⟩ : ∃ X : Nat, (X : Int) = (x : Int) * 16777216 := ⟨((x : Int) * 16777216).toNat, by omega⟩
  obtain ⟨Y, hY⟩ : ∃ Y : Nat, (Y : Int) = (y : Int) * 65536 := ⟨((y : Int) * 65536).toNat, by omega⟩
  obtain ⟨Z, hZ⟩ : ∃ Z : Nat, (Z : Int) = (z : Int) * 256 := ⟨((z : Int) * 256).toNat, by omega⟩
  obtain ⟨N, hN⟩ : ∃ N : Nat, N = X + Y + Z + v := ⟨_, rfl⟩
  have a1 : IntKind.i64.wrap ((x : Int) * 16777216) = (X : Int) := by rw [IntWalk.i64_in _ (by omega)]; exact hX.symm
  have a2 : IntKind.i64.wrap ((y : Int) * 65536) = (Y : Int) := by rw [IntWalk.i64_in _ (by omega)]; exact hY.symm
  have a3 : IntKind.i64.wrap ((z : Int) * 256) = (Z : Int) := by rw [IntWalk.i64_in _ (by omega)]; exact hZ.symm
  have a4 : IntKind.i64.wrap ((X : Int) + (Y : Int)) = (X : Int) + (Y : Int) := IntWalk.i64_in _ (by omega)
  have a5 : IntKind.i64.wrap ((X : Int) + (Y : Int) + (Z : Int)) = (X : Int) + (Y : Int) + (Z : Int) := IntWalk.i64_in _ (by omega)
  have a6 : IntKind.i64.wrap ((X : Int) + (Y : Int) + (Z : Int) + (v : Int)) = (N : Int) := by rw [IntWalk.i64_in _ (by omega)]; omega
  have a7 : Int.tmod (N : Int) 10000 = (N : Int) % 10000 := Int.tmod_eq_emod_of_nonneg (by omega)
  clear hX hY hZ hN hx0 hx1 hy0 hy1 hz0 hz1 hv0 hv1
  go_wp2
  go_ret
  exact ⟨(N : Int) % 10000, rfl, Int.emod_nonneg _ (by omega), Int.emod_lt_of_pos _ (by omega), hc4, ((hch1.trans hch2).trans hch3).trans hch4⟩
set_option maxRecDepth 20000 in set_option maxHeartbeats 4000000 in
theorem spec_DrawPlaces (w : World) (xs : List UInt8) (A : Option Addr) (cap : Nat) (S : Blks) (hx : Row false w A cap xs S) (hS : ∀ b, S b → b < w.heap.size) (hl : xs.length ≤ 1048576) : Calls Tryd.prog 11 #[.slice A xs.length cap] w fun e w' => ∃ (L : List Int) (A2 : Option Addr) (c2 : Nat), e = .returned (.slice A2 L.length c2) ∧ L.length = 12 ∧ (∀ x ∈ L, 0 ≤ x ∧ x < 10000) ∧ Row false w' A2 c2 L (nw w.heap.size) ∧ Below w.heap.size w w' := by
  go_enter Tryd.func11, Tryd.ntmps11
  go_wp2_with (fail)
  refine (spec_l01New w xs A cap S hx hl).mono ?_
  rintro e0 w1 ⟨g, rfl, hg, hc, hb⟩
  have hgl : g < w1.heap.size := by obtain ⟨i, h, _, h2⟩ := hc; exact (Array.getElem?_eq_some_iff.1 h2).1
  have hz := hb.size
  have hS2 : ∀ b, S b → b < g := fun b h => by have := hS b h; omega
  have hSg : ¬ S g := fun h => by have := hS2 g h; omega
  have hx1 := Row.later hx hb
  go_wp2_with (fail)
  refine (spec_l01Byte w1 g xs A cap S hc hx1 hSg hl).mono ?_
  rintro e2 w2 ⟨q, rfl, -, -, hc2, hch2⟩
  have hr2 : Row false w2 A cap xs S := Row.chg hx1 hch2 (fun b h1 h2 => by have h3 : b = g := h2; subst h3; exact hSg h1)
  have hz2 := hch2.size
  have hB2 : Below w.heap.size w w2 := hb.trans (hch2.to_below hz (fun b h => by have h3 : b = g := h; omega))
  have hg2 : g < w2.heap.size := by omega
  clear hch2 hx1
  go_wp2
  go_loopw [4, 5] (fun u i wr => ∃ (k : Nat) (L : List Int) (A2 : Option Addr) (c2 : Nat), k ≤ 12 ∧ i = .int .i64 k ∧ u = .slice A2 L.length c2 ∧ Hid (L.length = k) ∧ L.length ≤ c2 ∧ c2 ≤ maxLen ∧ Hid (∀ x ∈ L, 0 ≤ x ∧ x < 10000) ∧ Row true wr A2 c2 L (nw w2.heap.size) ∧ Cur wr g xs A cap ∧ Chg (fun b => b = g ∨ w2.heap.size ≤ b) w2 wr) (fun _ i _ => 12 - (intOf i).toNat)
  case atStart => exact ⟨0, [], _, _, Nat.zero_le _, rfl, rfl, Lib.hid rfl, by simp, by decide, Lib.hid (fun x h => by cases h), row_lit0 _ _ _ rfl (Nat.le_refl _), hc2.keep (Below.heap_alloc w2 _ _ hg2), (Chg.refl _ _).alloc _⟩
  case round =>
    obtain ⟨k, L, A2, c2, hk, rfl, rfl, HLk, hle, hcm, HLb, hrow, hc3, hch⟩ := hrel
    have hz3 := hch.size
    by_cases hlt : k < 12
    · have hxr : Row false wr A cap xs S := Row.keep hr2 (fun b hb => hch.block b (by have := hS2 b hb; omega) (by have := hS2 b hb; omega))
      have hLl : L.length ≤ 12 := by rw [HLk.out]; omega
      go_wp2_with (fail)
      refine (spec_l01BelowBig wr g xs A cap S hc3 hxr hS2 (by omega) hl).mono ?_
      rintro e4 w4 ⟨x, rfl, hx0, hx1, hc4, hch4⟩
      have hz4 := hch4.size
      have hrow4 : Row true w4 A2 c2 L (nw w2.heap.size) := Row.chg hrow hch4 (fun b h1 h2 => by have h3 : w2.heap.size ≤ b := h1; have h4 : b = g := h2; omega)
      have hchA : Chg (fun b => b = g ∨ w2.heap.size ≤ b) w2 w4 := hch.trans (hch4.mono (fun b _ h => .inl h))
      have hxi : Flat.ok x := (show I64 x from by unfold I64; omega)
      go_wp2_with (at_builtin; refine wpList_app (α := Int) rfl _ _ rfl rfl rfl (hrow4.allocC _) hle hcm rfl rfl (src_newb w4 x hxi _ _ _ (by first | rfl | simp) rfl) (disj_none_ _) (by simp; omega) ?_; intro A' cap' w5 h1 h2 h3 h4)
      go_roundw
      case rel => exact ⟨k + 1, L ++ [x], A', cap', hlt, by go_num, by simp, Lib.hid (by rw [List.length_append, HLk.out]; rfl), by simpa using h1, h2, Lib.hid (fun z hz => by rcases List.mem_append.1 hz with h | h; exact HLb.out z h; exact (show z = x from (by simpa using h)) ▸ (show 0 ≤ x ∧ x < 10000 from ⟨hx0, hx1⟩)), row_og h3 (fun b hb => by unfold nw; simp at hb; omega), (hc4.keep (Below.heap_alloc w4 _ _ (by omega))).keep (h4.block _ (by simp; omega) (by unfold nw; omega)), (hchA.alloc _).trans (h4.mono (fun b _ h => .inr h))⟩
      case measure => simp [intOf]; omega
    · have hke : k = 12 := by omega
      subst hke
      go_wp2
      go_ret
      exact ⟨L, A2, c2, rfl, HLk.out, HLb.out, (hrow.mono (fun b h => by have h1 : w2.heap.size ≤ b := h; show w.heap.size ≤ b; omega)).weak, hB2.trans (hch.to_below (by omega) (fun b h => by omega))⟩
end Go.Proofs.YtojbehmbeoemgaaDoor
