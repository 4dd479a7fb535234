/- A part of the proof: what the laws need of it. -/
import Derived.Test.YtgllafgpmenjjaaGreatDoorHReL21xPr
import Derived.Test.YtgllafgpmenjjaaGreatDoorHReL23xSkS
import Derived.Test.YtgllafgpmenjjaaGreatDoorHReL10xDt
import Derived.Test.YtgllafgpmenjjaaGreatDoorHReL20xSi
import Derived.Test.YtgllafgpmenjjaaGreatDoorHReL11xDp
import Derived.Deep.RegionHeld3
import Derived.Deep.RegionLaw
import Derived.Deep.AppendLies
import Derived.StillTailTactics
import Derived.Test.YtgllafgpmenjjaaGreatDoorHReL6xInf
set_option linter.unusedVariables false
set_option linter.unusedSimpArgs false
set_option linter.unusedVariables false
set_option linter.unusedSimpArgs false
namespace Go.Proofs.YtgllafgpmenjjaaGreatDoor
open Go.RowKit Lay Mk
def pubIn (seed : ByteArray) (a : Int) : Bool := decide (seed.size ≤ 100) && inB a 0 15
def pubLocks (seed : ByteArray) (a : Int) : Nat → List ByteArray
  | 0 => []
  | j + 1 => pubLocks seed a j ++ [lockOf (secretOf seed a ((j / 2 : Nat) : Int) ((j % 2 : Nat) : Int))]
def publicOf (seed : ByteArray) (a : Int) : ByteArray := if pubIn seed a = true then tagHash 6 (pubLocks seed a 16) 16 else ⟨#[]⟩
def poolTo (seed : ByteArray) : Nat → List ByteArray
  | 0 => []
  | k + 1 => poolTo seed k ++ [publicOf seed (k : Int)]
def poolOf (seed : ByteArray) : List ByteArray := poolTo seed 16
theorem poolTo_len (seed : ByteArray) : ∀ k, (poolTo seed k).length = k
  | 0 => rfl
  | k + 1 => by unfold poolTo; rw [List.length_append, poolTo_len seed k]; rfl
theorem pubLocks_len (seed : ByteArray) (a : Int) : ∀ k, (pubLocks seed a k).length = k
  | 0 => rfl
  | k + 1 => by unfold pubLocks; rw [List.length_append, pubLocks_len seed a k]; rfl
theorem secretIn_eq (seed : ByteArray) (a : Int) {b v : Nat} (hb : b < 8) (hv : v < 2) : secretIn seed a b v = pubIn seed a := by
  have h1 : inB (b : Int) 0 7 = true := by unfold inB; simp; omega
  have h2 : inB (v : Int) 0 1 = true := by unfold inB; simp; omega
  unfold secretIn pubIn; rw [h1, h2]; simp
theorem secret_no {seed : ByteArray} {a : Int} {b v : Nat} (hb : b < 8) (hv : v < 2) (h : pubIn seed a = false) : secretOf seed a b v = ⟨#[]⟩ := by
  unfold secretOf; rw [secretIn_eq seed a hb hv, h]; rfl
theorem secret_yes {seed : ByteArray} {a : Int} {b v : Nat} (hb : b < 8) (hv : v < 2) (h : pubIn seed a = true) : (secretOf seed a b v).size = 16 := secretOf_size (by rw [secretIn_eq seed a hb hv, h])
theorem pubLocks_next (seed : ByteArray) (a : Int) {b v : Nat} (hv : v < 2) : pubLocks seed a (2 * b + v + 1) = pubLocks seed a (2 * b + v) ++ [lockOf (secretOf seed a b v)] := by
  rw [pubLocks, show (2 * b + v) / 2 = b by omega, show (2 * b + v) % 2 = v by omega]
theorem pubLocks_size {seed : ByteArray} {a : Int} (h : pubIn seed a = true) : ∀ k, k ≤ 16 → ∀ s ∈ pubLocks seed a k, s.size = 16
  | 0, _ => fun s hs => by cases hs
  | k + 1, hk => fun s hs => by
    unfold pubLocks at hs
    rcases List.mem_append.1 hs with h1 | h1
    · exact pubLocks_size h k (by omega) s h1
    · simp at h1; subst h1
      exact lockOf_size (by have := secret_yes (seed := seed) (a := a) (b := k / 2) (v := k % 2) (by omega) (by omega) h; simpa using (by omega : (secretOf seed a ((k / 2 : Nat) : Int) ((k % 2 : Nat) : Int)).size ≤ 200))
theorem publicOf_yes {seed : ByteArray} {a : Int} (h : pubIn seed a = true) : (publicOf seed a).size = 16 := by
  unfold publicOf; rw [if_pos h]
  exact tagHash_size (tagOk_of (by decide) (by rw [pubLocks_len]; omega) (fun s hs => by rw [pubLocks_size h 16 (Nat.le_refl _) s hs]; omega))
theorem publicOf_le (seed : ByteArray) (a : Int) : (publicOf seed a).size ≤ 32 := by
  unfold publicOf; split
  · exact tagHash_le _ _ _
  · exact Nat.zero_le _
theorem str_nonempty {s : ByteArray} {n : Nat} (h : s.size = n + 1) : ¬ s.toList = [] := by
  intro e
  rw [ByteArray.toList_eq] at e
  have : s.data.toList.length = 0 := by rw [e]; rfl
  have h2 : s.data.toList.length = s.size := by simp
  omega
set_option maxRecDepth 20000 in set_option maxHeartbeats 8000000 in
theorem spec_PublicOf (w : World) (seed : ByteArray) (hs : seed.size ≤ maxLen) (a : Int) : Calls Tryz.prog 192 #[.string seed, .int .i64 a] w fun e w' => e = .returned (.string (publicOf seed a)) ∧ Below w.heap.size w w' := by
  have HFN : Hid (pubIn seed a = false → publicOf seed a = ⟨#[]⟩) := Lib.hid (fun h => by unfold publicOf; rw [h]; rfl)
  have HFY : Hid (pubIn seed a = true → publicOf seed a = tagHash 6 (pubLocks seed a 16) 16) := Lib.hid (fun h => by unfold publicOf; rw [if_pos h])
  go_enter Tryz.func192, Tryz.ntmps192
  go_wp2
  have HO := Lib.hid (Own.litAt (α := ByteArray) (Below.refl w.heap.size w) 9 rfl (b := w.heap.size) rfl)
  go_loopw [5,6] (fun u i wr => ∃ (b : Nat) (L : List ByteArray) (n : Nat) (A : Option Addr) (c : Nat), b ≤ 8 ∧ i = .int .i64 b ∧ u = .slice A n c ∧ Hid (n = L.length) ∧ Hid (L = pubLocks seed a (2 * b)) ∧ n ≤ 2 * b ∧ Hid (0 < b → pubIn seed a = true) ∧ Own w wr A c L) (fun _ i _ => 8 - (intOf i).toNat)
  case atStart => exact ⟨0, [], 0, some ⟨w.heap.size, 0, none⟩, 0, by omega, rfl, rfl, Lib.hid rfl, Lib.hid rfl, by simp, Lib.hid (fun h => absurd h (by omega)), HO.out⟩
  case round =>
    clear HO
    obtain ⟨b, L, n, A, c, hb8, rfl, rfl, HLn, HL, hLb, HP, hown⟩ := hrel
    by_cases hlt : b < 8
    · have HOW := Lib.hid hown
      have hltI : (b : Int) < 8 := by omega
      have HL0 := Lib.hid (show L = pubLocks seed a (2 * b + 0) from HL.out)
      have HP0 := Lib.hid (show 0 < 2 * b + 0 → pubIn seed a = true from fun h => HP.out (by omega))
      clear hown HL HP
      go_wp2_with (fail)
      go_loopw [5,7] (fun u i wr => ∃ (v : Nat) (L : List ByteArray) (n : Nat) (A : Option Addr) (c : Nat), v ≤ 2 ∧ i = .int .i64 v ∧ u = .slice A n c ∧ Hid (n = L.length) ∧ Hid (L = pubLocks seed a (2 * b + v)) ∧ n ≤ 2 * b + v ∧ Hid (0 < 2 * b + v → pubIn seed a = true) ∧ Own w wr A c L) (fun _ i _ => 2 - (intOf i).toNat)
      case atStart => exact ⟨0, L, n, A, c, by omega, rfl, rfl, HLn, HL0, by omega, HP0, HOW.out⟩
      case round =>
        clear HOW HL0 HP0 hLb HLn
        obtain ⟨v, L, n, A, c, hv2, rfl, rfl, HLn, HL, hLb, HP, hown⟩ := hrel
        have HOW := Lib.hid hown
        clear hown
        by_cases hlt2 : v < 2
        · have HN := Lib.hid (pubLocks_next seed a (b := b) hlt2)
          have HSN := Lib.hid (fun h => secret_no (seed := seed) (a := a) hlt hlt2 h)
          have HSY := Lib.hid (fun h => secret_yes (seed := seed) (a := a) hlt hlt2 h)
          have hC := spec_SecretOf
          have HCL := Lib.hid (fun W (h : Below w.heap.size w W) => spec_SecretOf W seed hs a b v)
          obtain ⟨s, hss⟩ : ∃ s, secretOf seed a b v = s := ⟨_, rfl⟩
          rw [hss] at HN HCL
          simp only [hss] at HSN HSY
          clear hss hC
          go_wp2_with (fail)
          refine (HCL.out _ HOW.out.bl).mono ?_
          rintro e5 w5 ⟨rfl, hb5⟩
          have HO5 := Lib.hid (HOW.out.later hb5)
          clear hb5
          cases hp : pubIn seed a
          · have hse := HSN.out hp
            have HE := Lib.hid (HFN.out hp)
            subst hse
            clear hp HSN HSY HN HCL
            go_wp2
            go_ret
            exact ⟨ret_str (by rw [HE.out]), HO5.out.bl⟩
          · have h16 := HSY.out hp
            have hne := str_nonempty h16
            have hne2 : (s.toList == ([] : List UInt8)) = false := beq_eq_false_iff_ne.2 hne
            have hne3 : (!s.toList.isEmpty) = true := by cases h : s.toList with
              | nil => exact absurd h hne
              | cons _ _ => rfl
            have HPT := Lib.hid hp
            have hlk := lockOf_size (s := s) (by omega)
            have HLK := Lib.hid (fun W (h : Below w.heap.size w W) => spec_LockOf W s (by omega))
            obtain ⟨lk, hlkk⟩ : ∃ lk, lockOf s = lk := ⟨_, rfl⟩
            rw [hlkk] at hlk HLK HN
            have hlm : lk.size ≤ maxLen := ml (Nat.le_of_eq hlk) (by omega)
            have HLKs := Lib.hid hlk
            clear hp HSN HSY hlkk h16 HCL hlk
            go_wp2_with (fail)
            refine (HLK.out _ HO5.out.bl).mono ?_
            rintro e6 w6 ⟨rfl, hb6⟩
            go_wp2_with (at_builtin; refine wpList_push (α := ByteArray) rfl _ _ rfl rfl HLn.out ((HO5.out.later hb6).alloc _) rfl rfl (src1 hlm rfl rfl) (by omega) ?_; intro A7 c7 w7 o7 z7)
            go_roundw
            case rel => first | exact ⟨v + 1, L ++ [lk], n + 1, A7, c7, by omega, by go_num, rfl, Lib.hid (by rw [List.length_append, HLn.out]; rfl), Lib.hid (by rw [show 2 * b + (v + 1) = 2 * b + v + 1 by omega, HN.out, HL.out]), by omega, Lib.hid (fun _ => HPT.out), o7⟩ | ((repeat apply Exists.intro); exact ⟨⟨v + 1, L ++ [lk], n + 1, A7, c7, by omega, by go_num, rfl, Lib.hid (by rw [List.length_append, HLn.out]; rfl), Lib.hid (by rw [show 2 * b + (v + 1) = 2 * b + v + 1 by omega, HN.out, HL.out]), by omega, Lib.hid (fun _ => HPT.out), o7⟩, rfl⟩)
            case measure => simp [intOf]; omega
        · have hve : v = 2 := by omega
          subst hve
          have HL2 : Hid (L = pubLocks seed a (2 * (b + 1))) := Lib.hid (by rw [HL.out]; congr 1)
          have HP2 : Hid (0 < b + 1 → pubIn seed a = true) := Lib.hid (fun _ => HP.out (by omega))
          go_wp2
          go_roundw
          case rel => first | exact ⟨b + 1, L, n, A, c, by omega, by go_num, rfl, HLn, HL2, by omega, HP2, HOW.out⟩ | ((repeat apply Exists.intro); exact ⟨⟨b + 1, L, n, A, c, by omega, by go_num, rfl, HLn, HL2, by omega, HP2, HOW.out⟩, rfl⟩)
          case measure => simp [intOf]; omega
    · have hbe : b = 8 := by omega
      subst hbe
      have hpt := HP.out (by omega)
      have HE : Hid (publicOf seed a = tagHash 6 L 16) := Lib.hid (by rw [HFY.out hpt, HL.out])
      have HOW := Lib.hid hown
      clear hpt hown
      go_wp2_with (fail)
      rw [HLn.out]
      have hLb2 : L.length ≤ 16 := by rw [← HLn.out]; omega
      refine (spec_TagHash _ 6 (by unfold I64; omega) L A c _ HOW.out.weak (by omega) 16 (by unfold I64; omega)).mono ?_
      rintro e5 w5 ⟨rfl, hb5⟩
      go_wp2
      go_ret
      exact ⟨ret_str (by rw [HE.out]), HOW.out.bl.trans (hb5.mono HOW.out.size)⟩
set_option maxRecDepth 20000 in set_option maxHeartbeats 8000000 in
theorem spec_PoolOf (w : World) (seed : ByteArray) (hs : seed.size ≤ maxLen) : Calls Tryz.prog 155 #[.string seed] w (OwnRes (poolOf seed) w) := by
  go_enter Tryz.func155, Tryz.ntmps155
  go_wp2
  have HO := Lib.hid (Own.litAt (α := ByteArray) (Below.refl w.heap.size w) 9 rfl (b := w.heap.size) rfl)
  go_loopw [3,4] (fun u i wr => ∃ (k : Nat) (L : List ByteArray) (A : Option Addr) (c : Nat), k ≤ 16 ∧ i = .int .i64 k ∧ u = .slice A L.length c ∧ Hid (L = poolTo seed k) ∧ L.length ≤ k ∧ Own w wr A c L) (fun _ i _ => 16 - (intOf i).toNat)
  case atStart => exact ⟨0, [], some ⟨w.heap.size, 0, none⟩, 0, by omega, rfl, rfl, Lib.hid rfl, by simp, HO.out⟩
  case round =>
    clear HO
    obtain ⟨k, L, A, c, hk, rfl, rfl, HL, hLk, hown⟩ := hrel
    have HOW := Lib.hid hown
    clear hown
    by_cases hlt : k < 16
    · have HN : Hid (poolTo seed (k + 1) = L ++ [publicOf seed (k : Int)]) := Lib.hid (by rw [poolTo, HL.out])
      have HCL := Lib.hid (fun W (h : Below w.heap.size w W) => spec_PublicOf W seed hs (k : Int))
      have hpm : (publicOf seed (k : Int)).size ≤ maxLen := ml (publicOf_le seed k) (by omega)
      obtain ⟨p, hp⟩ : ∃ p, publicOf seed (k : Int) = p := ⟨_, rfl⟩
      rw [hp] at HN HCL hpm
      clear hp
      go_wp2_with (fail)
      refine (HCL.out _ HOW.out.bl).mono ?_
      rintro e6 w6 ⟨rfl, hb6⟩
      go_wp2_with (at_builtin; refine wpList_push (α := ByteArray) rfl _ _ rfl rfl rfl ((HOW.out.later hb6).alloc _) rfl rfl (src1 hpm rfl rfl) (by omega) ?_; intro A7 c7 w7 o7 z7)
      go_roundw
      case rel => first | exact ⟨k + 1, L ++ [p], A7, c7, by omega, by go_num, by simp, Lib.hid HN.out.symm, by simp; omega, o7⟩ | ((repeat apply Exists.intro); exact ⟨⟨k + 1, L ++ [p], A7, c7, by omega, by go_num, by simp, Lib.hid HN.out.symm, by simp; omega, o7⟩, rfl⟩)
      case measure => simp [intOf]; omega
    · have hke : k = 16 := by omega
      subst hke
      have HE : Hid (poolOf seed = L) := Lib.hid (by rw [HL.out]; rfl)
      go_wp2
      go_ret
      exact OwnRes.mk HOW.out HE.out rfl
end Go.Proofs.YtgllafgpmenjjaaGreatDoor

set_option linter.unusedVariables false
set_option linter.unusedSimpArgs false
namespace Go.Proofs.YtgllafgpmenjjaaGreatDoor
open Go.RowKit Lay Mk
def sealAt (e : Int) : Int := if inB e 1 4 = true then e - 1 else -1
def sealOk (root : ByteArray) (s : Seal) : Bool := headOk s.head && decide (s.sig.at_ = sealAt s.head.epoch) && sigOk root (headHash s.head) s.sig
def sameHd (a b : Head) : Bool := decide (a.house = b.house) && decide (a.epoch = b.epoch) && decide (a.root = b.root) && decide (a.prev = b.prev)
theorem inB_14 {e : Int} (h : inB e 1 4 = true) : 1 ≤ e ∧ e ≤ 4 := by simpa [inB] using h
set_option maxRecDepth 20000 in set_option maxHeartbeats 4000000 in
theorem impl_SealAt (e : Int) (w : World) : Calls Tryz.prog 102 #[.int .i64 e] w fun r w' => r = .returned (.int .i64 (sealAt e)) ∧ w = w' := by
  cases hi : inB e 1 4
  · have HC : Hid (sealAt e = -1) := Lib.hid (by unfold sealAt; rw [hi]; rfl)
    go_enter Tryz.func102, Tryz.ntmps102
    go_wp2_with (go_at_call 152; refine (epoch_in _ _).mono ?_; rintro e0 w2 ⟨rfl, rfl⟩)
    go_ret
    exact ⟨by rw [HC.out]; rfl, rfl⟩
  · have HC : Hid (sealAt e = e - 1) := Lib.hid (by unfold sealAt; rw [hi]; rfl)
    obtain ⟨h1, h2⟩ := inB_14 hi
    go_enter Tryz.func102, Tryz.ntmps102
    go_wp2_with (go_at_call 152; refine (epoch_in _ _).mono ?_; rintro e0 w2 ⟨rfl, rfl⟩)
    go_ret
    exact ⟨by rw [HC.out]; rfl, rfl⟩
set_option maxRecDepth 20000 in set_option maxHeartbeats 4000000 in
theorem spec_SealAt (e : Int) (w : World) : Calls Tryz.prog 133 #[.int .i64 e] w fun r w' => r = .returned (.int .i64 (sealAt e)) ∧ w = w' := by
  cases hi : inB e 1 4
  · have HC : Hid (sealAt e = -1) := Lib.hid (by unfold sealAt; rw [hi]; rfl)
    go_enter Tryz.func133, Tryz.ntmps133
    go_wp2_with (go_at_call 87; refine (spec_in _ _ _ _).mono ?_; rintro e0 w2 ⟨rfl, rfl⟩)
    go_ret
    exact ⟨by rw [HC.out]; rfl, rfl⟩
  · have HC : Hid (sealAt e = e - 1) := Lib.hid (by unfold sealAt; rw [hi]; rfl)
    obtain ⟨h1, h2⟩ := inB_14 hi
    go_enter Tryz.func133, Tryz.ntmps133
    go_wp2_with (go_at_call 87; refine (spec_in _ _ _ _).mono ?_; rintro e0 w2 ⟨rfl, rfl⟩)
    go_ret
    exact ⟨by rw [HC.out]; rfl, rfl⟩
set_option maxRecDepth 20000 in set_option maxHeartbeats 8000000 in
theorem impl_SealOk (w : World) (root : ByteArray) (x : Seal) (cs : List Value) (S : Blks) (hx : rd false w cs x S) (hT : Tabs w) : Calls Tryz.prog 54 #[.string root, .agg cs.toArray] w fun e w' => e = .returned (.bool (sealOk root x)) ∧ Below w.heap.size w w' := by
  obtain ⟨A0, k0, S0, A1, k1, S1, A2, k2, S2, rfl, f0, f1, f2, f3, f4, a0, b0, r0, s0, a1, b1, r1, s1, a2, b2, r2, s2, pw⟩ := Seal.open hx
  clear hx
  obtain ⟨⟨hh, he, hr, hp⟩, ⟨a, so, ss, sd⟩⟩ := x
  simp only at f0 f1 f2 f3 f4 a0 b0 r0 a1 b1 r1 a2 b2 r2
  have HSig := Lib.hid (fun W (h : Below w.heap.size w W) => impl_SigOk W root (headHash ⟨hh, he, hr, hp⟩) ⟨a, so, ss, sd⟩ _ S (Lay.later (Sig.mk' (x := ⟨a, so, ss, sd⟩) f4 a0 b0 r0 s0 a1 b1 r1 s1 a2 b2 r2 s2 (fun h => by simp at h)) h) (hT.later h))
  have HOK : Hid (sealOk root ⟨⟨hh, he, hr, hp⟩, ⟨a, so, ss, sd⟩⟩ = (headOk ⟨hh, he, hr, hp⟩ && decide (a = sealAt he) && sigOk root (headHash ⟨hh, he, hr, hp⟩) ⟨a, so, ss, sd⟩)) := Lib.hid rfl
  have HT := Lib.hid hT
  clear hT
  clear pw r0 r1 r2
  simp only [Seal.cs]
  simp only [Sig.cs] at HSig
  have HSA := Lib.hid (fun W => impl_SealAt he W)
  have HHO := Lib.hid (fun W => impl_HeadOk ⟨hh, he, hr, hp⟩ W)
  obtain ⟨v, hv⟩ : ∃ v, sealAt he = v := ⟨_, rfl⟩
  rw [hv] at HOK HSA
  clear hv
  cases hok : headOk ⟨hh, he, hr, hp⟩ <;> rw [hok] at HHO
  · have HF : Hid (sealOk root ⟨⟨hh, he, hr, hp⟩, ⟨a, so, ss, sd⟩⟩ = false) := Lib.hid (by rw [HOK.out, hok]; rfl)
    go_enter Tryz.func54, Tryz.ntmps54
    go_wp2
    generalize hW : w.alloc (.cells #[.int .i64 hh, .int .i64 he, .string hr, .string hp, .int .i64 a, .slice A0 so.length k0, .slice A1 ss.length k1, .slice A2 sd.length k2] 61) = W
    have HBW : Hid (Below w.heap.size w W) := by rw [← hW]; exact Lib.hid ((Below.refl _ _).alloc (Nat.le_refl _) _)
    obtain ⟨B, hBe⟩ : ∃ B, w.heap.size = B := ⟨_, rfl⟩
    have hBlt : B < W.heap.size := by rw [← hW, ← hBe]; simp
    have c0 := Grown.cell (show W.cell? ⟨B, 0, none⟩ = some (.int .i64 hh) by rw [← hW, ← hBe]; exact box_cell _ _ _ _ _ rfl)
    have c1 := Grown.cell (show W.cell? ⟨B, 1, none⟩ = some (.int .i64 he) by rw [← hW, ← hBe]; exact box_cell _ _ _ _ _ rfl)
    have c2 := Grown.cell (show W.cell? ⟨B, 2, none⟩ = some (.string hr) by rw [← hW, ← hBe]; exact box_cell _ _ _ _ _ rfl)
    have c3 := Grown.cell (show W.cell? ⟨B, 3, none⟩ = some (.string hp) by rw [← hW, ← hBe]; exact box_cell _ _ _ _ _ rfl)
    have c4 := Grown.cell (show W.cell? ⟨B, 4, none⟩ = some (.int .i64 a) by rw [← hW, ← hBe]; exact box_cell _ _ _ _ _ rfl)
    have c5 := Grown.cell (show W.cell? ⟨B, 5, none⟩ = some (.slice A0 so.length k0) by rw [← hW, ← hBe]; exact box_cell _ _ _ _ _ rfl)
    have c6 := Grown.cell (show W.cell? ⟨B, 6, none⟩ = some (.slice A1 ss.length k1) by rw [← hW, ← hBe]; exact box_cell _ _ _ _ _ rfl)
    have c7 := Grown.cell (show W.cell? ⟨B, 7, none⟩ = some (.slice A2 sd.length k2) by rw [← hW, ← hBe]; exact box_cell _ _ _ _ _ rfl)
    have HBE := Lib.hid hBe
    rw [hBe]
    clear hW hBe
    refine wp_region_grown (by kernel_rfl) (by kernel_rfl) ?_
    repeat (go_big_quiet_step (first | (go_at_call 101; exact grown_call (HHO.out _)) | (go_at_call 102; exact grown_same (HSA.out _)) | (go_at_call 75; exact grown_call (impl_HeadHash ⟨hh, he, hr, hp⟩ _ (HT.out.later (HBW.out.trans ((Grown.ok _).mono HBW.out.size))))) | (go_at_call 103; exact grown_call (HSig.out _ (HBW.out.trans ((Grown.ok _).mono HBW.out.size))))))
    refine wpQuiet_nil ?_
    intro w2 hw2
    have hR := Lib.hid (grown_below hw2)
    clear hw2
    go_wp2
    go_ret
    exact ⟨ret_bool (by rw [HF.out]), (HBW.out).trans (hR.out.mono HBW.out.size)⟩
  · by_cases hav : a = v
    · have HF : Hid (sealOk root ⟨⟨hh, he, hr, hp⟩, ⟨a, so, ss, sd⟩⟩ = sigOk root (headHash ⟨hh, he, hr, hp⟩) ⟨a, so, ss, sd⟩) := Lib.hid (by rw [HOK.out, hok, decide_eq_true hav]; rfl)
      subst hav
      obtain ⟨z, hz⟩ : ∃ z, sigOk root (headHash ⟨hh, he, hr, hp⟩) ⟨a, so, ss, sd⟩ = z := ⟨_, rfl⟩
      rw [hz] at HSig HF
      clear hz
      go_enter Tryz.func54, Tryz.ntmps54
      go_wp2
      generalize hW : w.alloc (.cells #[.int .i64 hh, .int .i64 he, .string hr, .string hp, .int .i64 a, .slice A0 so.length k0, .slice A1 ss.length k1, .slice A2 sd.length k2] 61) = W
      have HBW : Hid (Below w.heap.size w W) := by rw [← hW]; exact Lib.hid ((Below.refl _ _).alloc (Nat.le_refl _) _)
      obtain ⟨B, hBe⟩ : ∃ B, w.heap.size = B := ⟨_, rfl⟩
      have hBlt : B < W.heap.size := by rw [← hW, ← hBe]; simp
      have c0 := Grown.cell (show W.cell? ⟨B, 0, none⟩ = some (.int .i64 hh) by rw [← hW, ← hBe]; exact box_cell _ _ _ _ _ rfl)
      have c1 := Grown.cell (show W.cell? ⟨B, 1, none⟩ = some (.int .i64 he) by rw [← hW, ← hBe]; exact box_cell _ _ _ _ _ rfl)
      have c2 := Grown.cell (show W.cell? ⟨B, 2, none⟩ = some (.string hr) by rw [← hW, ← hBe]; exact box_cell _ _ _ _ _ rfl)
      have c3 := Grown.cell (show W.cell? ⟨B, 3, none⟩ = some (.string hp) by rw [← hW, ← hBe]; exact box_cell _ _ _ _ _ rfl)
      have c4 := Grown.cell (show W.cell? ⟨B, 4, none⟩ = some (.int .i64 a) by rw [← hW, ← hBe]; exact box_cell _ _ _ _ _ rfl)
      have c5 := Grown.cell (show W.cell? ⟨B, 5, none⟩ = some (.slice A0 so.length k0) by rw [← hW, ← hBe]; exact box_cell _ _ _ _ _ rfl)
      have c6 := Grown.cell (show W.cell? ⟨B, 6, none⟩ = some (.slice A1 ss.length k1) by rw [← hW, ← hBe]; exact box_cell _ _ _ _ _ rfl)
      have c7 := Grown.cell (show W.cell? ⟨B, 7, none⟩ = some (.slice A2 sd.length k2) by rw [← hW, ← hBe]; exact box_cell _ _ _ _ _ rfl)
      have HBE := Lib.hid hBe
      rw [hBe]
      clear hW hBe
      refine wp_region_grown (by kernel_rfl) (by kernel_rfl) ?_
      repeat (go_big_quiet_step (first | (go_at_call 101; exact grown_call (HHO.out _)) | (go_at_call 102; exact grown_same (HSA.out _)) | (go_at_call 75; exact grown_call (impl_HeadHash ⟨hh, he, hr, hp⟩ _ (HT.out.later (HBW.out.trans ((Grown.ok _).mono HBW.out.size))))) | (go_at_call 103; exact grown_call (HSig.out _ (HBW.out.trans ((Grown.ok _).mono HBW.out.size))))))
      refine wpQuiet_nil ?_
      intro w2 hw2
      have hR := Lib.hid (grown_below hw2)
      clear hw2
      go_wp2
      go_ret
      exact ⟨ret_bool (by rw [HF.out]), (HBW.out).trans (hR.out.mono HBW.out.size)⟩
    · have HF : Hid (sealOk root ⟨⟨hh, he, hr, hp⟩, ⟨a, so, ss, sd⟩⟩ = false) := Lib.hid (by rw [HOK.out, hok, decide_eq_false hav]; rfl)
      have hq1 : (a == v) = false := beq_eq_false_iff_ne.2 hav
      have hq2 : decide (a = v) = false := decide_eq_false hav
      go_enter Tryz.func54, Tryz.ntmps54
      go_wp2
      generalize hW : w.alloc (.cells #[.int .i64 hh, .int .i64 he, .string hr, .string hp, .int .i64 a, .slice A0 so.length k0, .slice A1 ss.length k1, .slice A2 sd.length k2] 61) = W
      have HBW : Hid (Below w.heap.size w W) := by rw [← hW]; exact Lib.hid ((Below.refl _ _).alloc (Nat.le_refl _) _)
      obtain ⟨B, hBe⟩ : ∃ B, w.heap.size = B := ⟨_, rfl⟩
      have hBlt : B < W.heap.size := by rw [← hW, ← hBe]; simp
      have c0 := Grown.cell (show W.cell? ⟨B, 0, none⟩ = some (.int .i64 hh) by rw [← hW, ← hBe]; exact box_cell _ _ _ _ _ rfl)
      have c1 := Grown.cell (show W.cell? ⟨B, 1, none⟩ = some (.int .i64 he) by rw [← hW, ← hBe]; exact box_cell _ _ _ _ _ rfl)
      have c2 := Grown.cell (show W.cell? ⟨B, 2, none⟩ = some (.string hr) by rw [← hW, ← hBe]; exact box_cell _ _ _ _ _ rfl)
      have c3 := Grown.cell (show W.cell? ⟨B, 3, none⟩ = some (.string hp) by rw [← hW, ← hBe]; exact box_cell _ _ _ _ _ rfl)
      have c4 := Grown.cell (show W.cell? ⟨B, 4, none⟩ = some (.int .i64 a) by rw [← hW, ← hBe]; exact box_cell _ _ _ _ _ rfl)
      have c5 := Grown.cell (show W.cell? ⟨B, 5, none⟩ = some (.slice A0 so.length k0) by rw [← hW, ← hBe]; exact box_cell _ _ _ _ _ rfl)
      have c6 := Grown.cell (show W.cell? ⟨B, 6, none⟩ = some (.slice A1 ss.length k1) by rw [← hW, ← hBe]; exact box_cell _ _ _ _ _ rfl)
      have c7 := Grown.cell (show W.cell? ⟨B, 7, none⟩ = some (.slice A2 sd.length k2) by rw [← hW, ← hBe]; exact box_cell _ _ _ _ _ rfl)
      have HBE := Lib.hid hBe
      rw [hBe]
      clear hW hBe
      refine wp_region_grown (by kernel_rfl) (by kernel_rfl) ?_
      repeat (go_big_quiet_step (first | (go_at_call 101; exact grown_call (HHO.out _)) | (go_at_call 102; exact grown_same (HSA.out _)) | (go_at_call 75; exact grown_call (impl_HeadHash ⟨hh, he, hr, hp⟩ _ (HT.out.later (HBW.out.trans ((Grown.ok _).mono HBW.out.size))))) | (go_at_call 103; exact grown_call (HSig.out _ (HBW.out.trans ((Grown.ok _).mono HBW.out.size))))))
      refine wpQuiet_nil ?_
      intro w2 hw2
      have hR := Lib.hid (grown_below hw2)
      clear hw2
      go_wp2
      go_ret
      exact ⟨ret_bool (by rw [HF.out]), (HBW.out).trans (hR.out.mono HBW.out.size)⟩
end Go.Proofs.YtgllafgpmenjjaaGreatDoor

set_option linter.unusedVariables false
set_option linter.unusedSimpArgs false
namespace Go.Proofs.YtgllafgpmenjjaaGreatDoor
open Go.RowKit Lay Mk
def foldPair (ix m : Nat) (h s : ByteArray) : List ByteArray := if bitOf ix m = 1 then [s, h] else [h, s]
def foldL (n : Int) (ix : Nat) : Nat → ByteArray → List ByteArray → List ByteArray
  | _, _, [] => []
  | m, h, s :: r => tagText 3 (foldPair ix (m - 1) h s) :: foldL n ix (m - 1) (tagHash 3 (foldPair ix (m - 1) h s) n) r
def foldH (n : Int) (ix : Nat) : Nat → ByteArray → List ByteArray → ByteArray
  | _, h, [] => h
  | m, h, s :: r => foldH n ix (m - 1) (tagHash 3 (foldPair ix (m - 1) h s) n) r
def foldUp (n : Int) (h : ByteArray) (ix : Nat) (lv : Int) (sides : List ByteArray) : ByteArray := if (inB lv 0 8 && decide ((sides.length : Int) ≤ lv)) = true then foldH n ix lv.toNat h sides else ⟨#[]⟩
theorem foldL_len (n : Int) (ix : Nat) : ∀ (l : List ByteArray) (m : Nat) (h : ByteArray), (foldL n ix m h l).length = l.length
  | [], _, _ => rfl
  | s :: r, m, h => by unfold foldL; rw [List.length_cons, foldL_len n ix r]; rfl
theorem bitOf_two (n k : Nat) : bitOf n k = 0 ∨ bitOf n k = 1 := by unfold bitOf; omega
theorem pair_one2 {ix m : Nat} {h s : ByteArray} (e : bitOf ix m = 1) : foldPair ix m h s = [s, h] := by unfold foldPair; rw [if_pos e]
theorem pair_zero2 {ix m : Nat} {h s : ByteArray} (e : bitOf ix m = 0) : foldPair ix m h s = [h, s] := by unfold foldPair; rw [if_neg (by omega)]
theorem drop_at {l : List ByteArray} {k : Nat} (h : k < l.length) : l.drop k = l[k] :: l.drop (k + 1) := List.drop_eq_getElem_cons h
theorem hash_max2 (k : Int) (l : List ByteArray) (n : Int) : (tagHash k l n).size ≤ maxLen := ml (tagHash_le k l n) (by omega)
theorem tagText_max {kind : Int} {xs : List ByteArray} : (tagText kind xs).size ≤ 100000 := by
  unfold tagText
  split
  · rename_i h
    unfold tagOk at h
    simp only [Bool.and_eq_true, decide_eq_true_eq] at h
    obtain ⟨⟨_, h2⟩, h3⟩ := h
    rw [bs_size]
    unfold tagBody
    rw [List.length_cons]
    have key : ∀ ys : List ByteArray, partsOk ys = true → (ys.flatMap partB).length ≤ 205 * ys.length := by
      intro ys
      induction ys with
      | nil => intro _; simp
      | cons y r ih =>
        intro hp
        unfold partsOk at hp ih
        rw [List.all_cons, Bool.and_eq_true] at hp
        have h4 := ih hp.2
        have h5 := partB_le (p := y) (by simpa using hp.1)
        rw [List.flatMap_cons, List.length_append, List.length_cons]
        omega
    have := key xs h3
    omega
  · exact Nat.zero_le _
theorem row_pairC (w : World) (s t : ByteArray) (hs : s.size ≤ maxLen) (ht : t.size ≤ maxLen) (ty : TypeId) (b : Nat) (hb : b = w.heap.size) : Row false (w.alloc (.cells #[.string s, .string t] ty)) (some ⟨b, 0, none⟩) 2 [s, t] (fun q => q = b) := by
  subst hb; exact row_pair w s t hs ht ty
set_option maxRecDepth 20000 in set_option maxHeartbeats 8000000 in
theorem impl_foldTexts (w : World) (hash : ByteArray) (hh : hash.size ≤ maxLen) (ix : Nat) (hix : ix < 256) (lv : Nat) (hlv : lv ≤ 8) (sides : List ByteArray) (A0 : Option Addr) (cap0 : Nat) (S : Blks) (hx : Row false w A0 cap0 sides S) (hsl : sides.length ≤ lv) (n : Int) (hn : I64 n) (hT : Tabs w) : Calls Tryz.prog 145 #[.string hash, .int .i64 ix, .int .i64 lv, .slice A0 sides.length cap0, .int .i64 n] w fun e w' => ∃ A c, e = .returned (.tuple #[.slice A (foldL n ix lv hash sides).length c, .string (foldH n ix lv hash sides)]) ∧ Own w w' A c (foldL n ix lv hash sides) := by
  have HT := Lib.hid hT
  clear hT
  obtain ⟨RL, hRL⟩ : ∃ R, foldL n ix lv hash sides = R := ⟨_, rfl⟩
  obtain ⟨RH, hRH⟩ : ∃ R, foldH n ix lv hash sides = R := ⟨_, rfl⟩
  have HRL := Lib.hid hRL
  have HRH := Lib.hid hRH
  rw [hRL, hRH]
  clear hRL hRH
  go_enter Tryz.func145, Tryz.ntmps145
  go_wp2
  have HO := Lib.hid (Own.start (α := ByteArray) (Below.refl w.heap.size w))
  go_loopw [0, 2, 12, 20] (fun x v u i wr => ∃ (k m : Nat) (h : ByteArray) (L : List ByteArray) (nL : Nat) (A : Option Addr) (c : Nat), k ≤ sides.length ∧ i = .int .i64 k ∧ v = .int .i64 m ∧ Hid (m + k = lv) ∧ x = .string h ∧ h.size ≤ maxLen ∧ u = .slice A nL c ∧ Hid (nL = L.length) ∧ nL ≤ k ∧ Hid (RL = L ++ foldL n ix m h (sides.drop k)) ∧ Hid (RH = foldH n ix m h (sides.drop k)) ∧ Own w wr A c L) (fun _ _ _ i _ => sides.length - (intOf i).toNat)
  case atStart => exact ⟨0, lv, hash, [], 0, none, 0, Nat.zero_le _, rfl, rfl, Lib.hid rfl, rfl, hh, rfl, Lib.hid rfl, Nat.le_refl _, Lib.hid (by rw [← HRL.out]; simp), Lib.hid (by rw [← HRH.out]; simp), HO.out⟩
  case round =>
    clear HO HRL HRH
    obtain ⟨k, m, h, L, nL, A, c, hk, rfl, rfl, HM, rfl, hhm, rfl, HnL, hnk, HL, HH, hown⟩ := hrel
    have hb := hown.bl
    have HOW := Lib.hid hown
    by_cases hlt : k < sides.length
    · obtain ⟨b1, o1, rfl, hl1, f0, s0⟩ := Row.str hx hlt
      replace f0 := (hb.cell (p := ⟨b1, o1 + k, none⟩) hl1).trans f0
      have hl2 : b1 < wr.heap.size := Nat.lt_of_lt_of_le hl1 hb.size
      have HD := Lib.hid (drop_at hlt)
      obtain ⟨s, hs⟩ : ∃ s, sides[k] = s := ⟨_, rfl⟩
      rw [hs] at f0 s0 HD
      obtain ⟨m', hm'⟩ : ∃ m', m = m' + 1 := ⟨m - 1, by have := HM.out; omega⟩
      subst hm'
      have HM2 : Hid (m' + (k + 1) = lv) := Lib.hid (by have := HM.out; omega)
      have hm8 : m' < 8 := by have := HM.out; omega
      have HNL : Hid (RL = L ++ tagText 3 (foldPair ix m' h s) :: foldL n ix m' (tagHash 3 (foldPair ix m' h s) n) (sides.drop (k + 1))) := Lib.hid (by rw [HL.out, HD.out]; rfl)
      have HNH : Hid (RH = foldH n ix m' (tagHash 3 (foldPair ix m' h s) n) (sides.drop (k + 1))) := Lib.hid (by rw [HH.out, HD.out]; rfl)
      have hsub : IntKind.i64.wrap (((m' + 1 : Nat) : Int) - 1) = (m' : Int) := by rw [IntWalk.i64_in _ (by omega)]; omega
      have hsub2 : ((m' + 1 : Nat) : Int) - 1 = (m' : Int) := by omega
      have hsub3 : (m' : Int) + 1 - 1 = (m' : Int) := by omega
      have HBT := Lib.hid (fun W => impl_BitOf W ix hix m' hm8)
      have HOWb := Lib.hid hb
      clear hs HD HL HH HM hown hb
      rcases bitOf_two ix m' with hbit | hbit
      · have hq : ((bitOf ix m' : Int) == 1) = false := by rw [hbit]; rfl
        have HPE := Lib.hid (pair_zero2 (h := h) (s := s) hbit)
        have HNL2 : Hid (RL = L ++ tagText 3 [h, s] :: foldL n ix m' (tagHash 3 [h, s] n) (sides.drop (k + 1))) := Lib.hid (by rw [HNL.out, HPE.out])
        have HNH2 : Hid (RH = foldH n ix m' (tagHash 3 [h, s] n) (sides.drop (k + 1))) := Lib.hid (by rw [HNH.out, HPE.out])
        obtain ⟨bt, hbt⟩ : ∃ bt, bitOf ix m' = bt := ⟨_, rfl⟩
        rw [hbt] at hq HBT
        clear hbit HPE hbt HNL HNH
        go_wp2_with (first | (go_at_call 183; refine (HBT.out _).mono ?_; rintro e9 w9 ⟨rfl, rfl⟩) | (go_at_call 184; fail))
        refine (impl_TagText _ 3 (by unfold I64; omega) [h, s] _ _ _ (row_pairC _ h s hhm s0 _ _ (by first | rfl | simp)) (by simp)).mono ?_
        rintro e5 w5 ⟨rfl, hb5⟩
        have HO5 := Lib.hid ((HOW.out.alloc _).later hb5)
        have htm := tagText_max (kind := 3) (xs := [h, s])
        have HTH : Hid (tagHash 3 [h, s] n = if tagOk 3 [h, s] = true then cutDigest (tagText 3 [h, s]) n else ⟨#[]⟩) := Lib.hid rfl
        have hhx := hash_max2 3 [h, s] n
        obtain ⟨h', hh'⟩ : ∃ h', tagHash 3 [h, s] n = h' := ⟨_, rfl⟩
        rw [hh'] at HTH HNL2 HNH2 hhx
        obtain ⟨t, ht⟩ : ∃ t, tagText 3 [h, s] = t := ⟨_, rfl⟩
        rw [ht] at HTH HNL2 htm
        simp only [ht]
        have htx : t.size ≤ maxLen := ml htm (by omega)
        have hts : t.size ≤ 100000000 := by omega
        have HLL : Hid (RL = (L ++ [t]) ++ foldL n ix m' h' (sides.drop (k + 1))) := Lib.hid (by rw [HNL2.out]; simp)
        clear ht hh' hb5 hsub hsub2 hsub3 HNL2 htm
        cases hok : tagOk 3 [h, s]
        · have HE : Hid (h' = ⟨#[]⟩) := Lib.hid (by rw [HTH.out, hok]; rfl)
          clear hok HTH
          go_wp2_with (at_builtin; refine wpList_push (α := ByteArray) rfl _ _ rfl rfl HnL.out (HO5.out.alloc _) rfl rfl (src1 htx rfl rfl) (by omega) ?_; intro A6 c6 w6 o6 z6)
          go_roundw
          case rel => first | exact ⟨k + 1, m', ⟨#[]⟩, L ++ [t], nL + 1, A6, c6, hlt, by go_num, rfl, HM2, rfl, (by exact Nat.zero_le _), rfl, Lib.hid (by rw [HnL.out]; simp), by omega, Lib.hid (by rw [HLL.out, HE.out]), Lib.hid (by rw [HNH2.out, HE.out]), o6⟩ | ((repeat apply Exists.intro); exact ⟨⟨k + 1, m', ⟨#[]⟩, L ++ [t], nL + 1, A6, c6, hlt, by go_num, rfl, HM2, rfl, (by exact Nat.zero_le _), rfl, Lib.hid (by rw [HnL.out]; simp), by omega, Lib.hid (by rw [HLL.out, HE.out]), Lib.hid (by rw [HNH2.out, HE.out]), o6⟩, rfl⟩)
          case measure => simp [intOf]; omega
        · have HE : Hid (h' = cutDigest t n) := Lib.hid (by rw [HTH.out, hok]; rfl)
          clear hok HTH
          go_wp2_with (first | (at_builtin; refine wpList_push (α := ByteArray) rfl _ _ rfl rfl HnL.out (HO5.out.alloc _) rfl rfl (src1 htx rfl rfl) (by omega) ?_; intro A6 c6 w6 o6 z6) | (go_at_call 147; fail))
          refine (impl_CutDigest _ t hts n hn (HT.out.later o6.bl)).mono ?_
          rintro e7 w7 ⟨rfl, hb7⟩
          rw [← HE.out]
          have HO7 := Lib.hid (o6.later hb7)
          clear hb7 o6
          go_wp2
          go_roundw
          case rel => first | exact ⟨k + 1, m', h', L ++ [t], nL + 1, A6, c6, hlt, by go_num, rfl, HM2, rfl, hhx, rfl, Lib.hid (by rw [HnL.out]; simp), by omega, HLL, HNH2, HO7.out⟩ | ((repeat apply Exists.intro); exact ⟨⟨k + 1, m', h', L ++ [t], nL + 1, A6, c6, hlt, by go_num, rfl, HM2, rfl, hhx, rfl, Lib.hid (by rw [HnL.out]; simp), by omega, HLL, HNH2, HO7.out⟩, rfl⟩)
          case measure => simp [intOf]; omega
      · have hq : ((bitOf ix m' : Int) == 1) = true := by rw [hbit]; rfl
        have HPE := Lib.hid (pair_one2 (h := h) (s := s) hbit)
        have HNL2 : Hid (RL = L ++ tagText 3 [s, h] :: foldL n ix m' (tagHash 3 [s, h] n) (sides.drop (k + 1))) := Lib.hid (by rw [HNL.out, HPE.out])
        have HNH2 : Hid (RH = foldH n ix m' (tagHash 3 [s, h] n) (sides.drop (k + 1))) := Lib.hid (by rw [HNH.out, HPE.out])
        obtain ⟨bt, hbt⟩ : ∃ bt, bitOf ix m' = bt := ⟨_, rfl⟩
        rw [hbt] at hq HBT
        clear hbit HPE hbt HNL HNH
        go_wp2_with (first | (go_at_call 183; refine (HBT.out _).mono ?_; rintro e9 w9 ⟨rfl, rfl⟩) | (go_at_call 184; fail))
        refine (impl_TagText _ 3 (by unfold I64; omega) [s, h] _ _ _ (row_pairC _ s h s0 hhm _ _ (by first | rfl | simp)) (by simp)).mono ?_
        rintro e5 w5 ⟨rfl, hb5⟩
        have HO5 := Lib.hid (((HOW.out.alloc _).alloc _).later hb5)
        have htm := tagText_max (kind := 3) (xs := [s, h])
        have HTH : Hid (tagHash 3 [s, h] n = if tagOk 3 [s, h] = true then cutDigest (tagText 3 [s, h]) n else ⟨#[]⟩) := Lib.hid rfl
        have hhx := hash_max2 3 [s, h] n
        obtain ⟨h', hh'⟩ : ∃ h', tagHash 3 [s, h] n = h' := ⟨_, rfl⟩
        rw [hh'] at HTH HNL2 HNH2 hhx
        obtain ⟨t, ht⟩ : ∃ t, tagText 3 [s, h] = t := ⟨_, rfl⟩
        rw [ht] at HTH HNL2 htm
        simp only [ht]
        have htx : t.size ≤ maxLen := ml htm (by omega)
        have hts : t.size ≤ 100000000 := by omega
        have HLL : Hid (RL = (L ++ [t]) ++ foldL n ix m' h' (sides.drop (k + 1))) := Lib.hid (by rw [HNL2.out]; simp)
        clear ht hh' hb5 hsub hsub2 hsub3 HNL2 htm
        cases hok : tagOk 3 [s, h]
        · have HE : Hid (h' = ⟨#[]⟩) := Lib.hid (by rw [HTH.out, hok]; rfl)
          clear hok HTH
          go_wp2_with (at_builtin; refine wpList_push (α := ByteArray) rfl _ _ rfl rfl HnL.out (HO5.out.alloc _) rfl rfl (src1 htx rfl rfl) (by omega) ?_; intro A6 c6 w6 o6 z6)
          go_roundw
          case rel => first | exact ⟨k + 1, m', ⟨#[]⟩, L ++ [t], nL + 1, A6, c6, hlt, by go_num, rfl, HM2, rfl, (by exact Nat.zero_le _), rfl, Lib.hid (by rw [HnL.out]; simp), by omega, Lib.hid (by rw [HLL.out, HE.out]), Lib.hid (by rw [HNH2.out, HE.out]), o6⟩ | ((repeat apply Exists.intro); exact ⟨⟨k + 1, m', ⟨#[]⟩, L ++ [t], nL + 1, A6, c6, hlt, by go_num, rfl, HM2, rfl, (by exact Nat.zero_le _), rfl, Lib.hid (by rw [HnL.out]; simp), by omega, Lib.hid (by rw [HLL.out, HE.out]), Lib.hid (by rw [HNH2.out, HE.out]), o6⟩, rfl⟩)
          case measure => simp [intOf]; omega
        · have HE : Hid (h' = cutDigest t n) := Lib.hid (by rw [HTH.out, hok]; rfl)
          clear hok HTH
          go_wp2_with (first | (at_builtin; refine wpList_push (α := ByteArray) rfl _ _ rfl rfl HnL.out (HO5.out.alloc _) rfl rfl (src1 htx rfl rfl) (by omega) ?_; intro A6 c6 w6 o6 z6) | (go_at_call 147; fail))
          refine (impl_CutDigest _ t hts n hn (HT.out.later o6.bl)).mono ?_
          rintro e7 w7 ⟨rfl, hb7⟩
          rw [← HE.out]
          have HO7 := Lib.hid (o6.later hb7)
          clear hb7 o6
          go_wp2
          go_roundw
          case rel => first | exact ⟨k + 1, m', h', L ++ [t], nL + 1, A6, c6, hlt, by go_num, rfl, HM2, rfl, hhx, rfl, Lib.hid (by rw [HnL.out]; simp), by omega, HLL, HNH2, HO7.out⟩ | ((repeat apply Exists.intro); exact ⟨⟨k + 1, m', h', L ++ [t], nL + 1, A6, c6, hlt, by go_num, rfl, HM2, rfl, hhx, rfl, Lib.hid (by rw [HnL.out]; simp), by omega, HLL, HNH2, HO7.out⟩, rfl⟩)
          case measure => simp [intOf]; omega
    · have hke : k = sides.length := by omega
      have HE1 : Hid (RL = L) := Lib.hid (by rw [HL.out, List.drop_of_length_le (by omega)]; simp [foldL])
      have HE2 : Hid (RH = h) := Lib.hid (by rw [HH.out, List.drop_of_length_le (by omega)]; simp [foldH])
      clear hown hb
      go_wp2
      go_ret2
      exact ⟨A, c, by rw [HE1.out, HE2.out, ← HnL.out]; rfl, by rw [HE1.out]; exact HOW.out⟩
set_option maxRecDepth 20000 in set_option maxHeartbeats 8000000 in
theorem impl_FoldUp (w : World) (hash : ByteArray) (hh : hash.size ≤ maxLen) (ix : Nat) (hix : ix < 256) (lv : Int) (hlv : I64 lv) (sides : List ByteArray) (A0 : Option Addr) (cap0 : Nat) (S : Blks) (hx : Row false w A0 cap0 sides S) (hsl : sides.length ≤ 4000000000) (n : Int) (hn : I64 n) (hT : Tabs w) : Calls Tryz.prog 95 #[.string hash, .int .i64 ix, .int .i64 lv, .slice A0 sides.length cap0, .int .i64 n] w fun e w' => e = .returned (.string (foldUp n hash ix lv sides)) ∧ Below w.heap.size w w' := by
  unfold I64 at hlv
  cases hin : inB lv 0 8
  · have HC : Hid (foldUp n hash ix lv sides = ⟨#[]⟩) := Lib.hid (by unfold foldUp; rw [hin]; rfl)
    go_enter Tryz.func95, Tryz.ntmps95
    go_wp2_with (go_at_call 98; refine (impl_in _ _ _ _).mono ?_; rintro e2 w2 ⟨rfl, rfl⟩)
    go_ret
    exact ⟨ret_str (by rw [HC.out]), Below.refl _ _⟩
  have h08 : 0 ≤ lv ∧ lv ≤ 8 := by simpa [inB] using hin
  by_cases hlt : lv < (sides.length : Int)
  · have HC : Hid (foldUp n hash ix lv sides = ⟨#[]⟩) := Lib.hid (by unfold foldUp; rw [hin, decide_eq_false (by omega)]; rfl)
    go_enter Tryz.func95, Tryz.ntmps95
    go_wp2_with (go_at_call 98; refine (impl_in _ _ _ _).mono ?_; rintro e2 w2 ⟨rfl, rfl⟩)
    go_ret
    exact ⟨ret_str (by rw [HC.out]), Below.refl _ _⟩
  have HC : Hid (foldUp n hash ix lv sides = foldH n ix lv.toNat hash sides) := Lib.hid (by unfold foldUp; rw [hin, decide_eq_true (by omega)]; rfl)
  obtain ⟨l, rfl⟩ : ∃ l : Nat, lv = l := ⟨lv.toNat, by omega⟩
  rw [Int.toNat_natCast] at HC
  have HFT := Lib.hid (impl_foldTexts w hash hh ix hix l (by omega) sides A0 cap0 S hx (by omega) n hn hT)
  clear hT
  go_enter Tryz.func95, Tryz.ntmps95
  go_wp2_with (first | (go_at_call 98; refine (impl_in _ _ _ _).mono ?_; rintro e2 w2 ⟨rfl, rfl⟩) | (go_at_call 145; fail))
  refine HFT.out.mono ?_
  rintro e5 w5 ⟨A, c, rfl, own⟩
  have HB := Lib.hid own.bl
  clear own
  go_wp2
  go_ret
  exact ⟨ret_str (by rw [HC.out]), HB.out⟩
end Go.Proofs.YtgllafgpmenjjaaGreatDoor

set_option linter.unusedVariables false
set_option linter.unusedSimpArgs false
namespace Go.Proofs.YtgllafgpmenjjaaGreatDoor
open Go.RowKit Lay Mk
theorem name_size {s : ByteArray} (h : nameOk s = true) : s.size ≤ 12 := by
  unfold nameOk at h
  rw [Bool.and_eq_true] at h
  have h2 : 1 ≤ (s.size : Int) ∧ (s.size : Int) ≤ 12 := by simpa [inB] using h.2
  omega
theorem value_size {s : ByteArray} (h : valueOk s = true) : s.size ≤ 12 := by
  unfold valueOk at h
  rw [Bool.and_eq_true] at h
  have h2 : 1 ≤ (s.size : Int) ∧ (s.size : Int) ≤ 12 := by simpa [inB] using h.2
  omega
theorem bucket_tag {xs : List Leaf} (h : leavesOk xs = true) : tagOk (bucketKind xs) (bucketParts xs) = true := by
  have h1 := leavesOk_len h
  have h2 := parts_len xs
  have h3 : partsOk (bucketParts xs) = true := by
    unfold partsOk bucketParts
    rw [List.all_eq_true]
    intro p hp
    rw [List.mem_flatMap] at hp
    obtain ⟨x, hx, hp⟩ := hp
    have h4 := leavesOk_all h x hx
    simp only [List.mem_cons, List.not_mem_nil, or_false] at hp
    rcases hp with rfl | rfl
    · have := name_size h4.1; simp; omega
    · have := value_size h4.2; simp; omega
  have h5 : inB (bucketKind xs) 1 8 = true := by unfold bucketKind; split <;> rfl
  unfold tagOk
  rw [h5, h3, decide_eq_true (by omega)]; rfl
theorem szL_ok {xs : List Leaf} (h : ∀ x ∈ xs, nameOk x.name = true ∧ valueOk x.value = true) : szL xs ≤ 25 * xs.length := by
  induction xs with
  | nil => exact Nat.le_refl _
  | cons x r ih =>
    have h1 := ih (fun y hy => h y (List.mem_cons_of_mem _ hy))
    have h2 := h x (List.mem_cons_self ..)
    have h3 := name_size h2.1
    have h4 := value_size h2.2
    simp only [szL, List.map_cons, List.sum_cons, List.length_cons] at h1 ⊢
    have h5 : Mk.sz x = x.name.size + x.value.size := rfl
    omega
set_option maxRecDepth 20000 in set_option maxHeartbeats 8000000 in
theorem spec_BucketHash (w : World) (xs : List Leaf) (A : Option Addr) (cap : Nat) (S : Blks) (hx : Row false w A cap xs S) (hok : leavesOk xs = true) (n : Int) (hn : I64 n) : Calls Tryz.prog 194 #[.slice A xs.length cap, .int .i64 n] w fun e w' => e = .returned (.string (bucketHash xs n)) ∧ Below w.heap.size w w' := by
  have hl := leavesOk_len hok
  have hz : szL xs ≤ 1048576 := by have := szL_ok (leavesOk_all hok); omega
  have HBT := Lib.hid (spec_BucketText w xs A cap S hx (by omega) hz hok)
  rw [bucket_tag hok] at HBT
  have htl : (bucketTx xs).size ≤ 20000 := tagText_le _ _
  have HE : Hid (bucketHash xs n = cutDigest (bucketTx xs) n) := Lib.hid rfl
  obtain ⟨t, ht⟩ : ∃ t, bucketTx xs = t := ⟨_, rfl⟩
  rw [ht] at HBT htl HE
  clear ht hz hok
  go_enter Tryz.func194, Tryz.ntmps194
  go_wp2_with (fail)
  refine HBT.out.mono ?_
  rintro e1 w1 ⟨rfl, hb1⟩
  go_wp2_with (fail)
  refine (spec_CutDigest _ t (by omega) n hn).mono ?_
  rintro e2 w2 ⟨rfl, hb2⟩
  have HB := Lib.hid (hb1.trans (hb2.mono hb1.size))
  clear hb1 hb2
  go_wp2
  go_ret
  exact ⟨ret_str (by rw [HE.out]), HB.out⟩
def spotOf (x : Leaf) : Spot := ⟨x, (indexOf x.name : Int)⟩
def spotsOf (xs : List Leaf) : List Spot := xs.map spotOf
theorem spotsOf_len (xs : List Leaf) : (spotsOf xs).length = xs.length := by unfold spotsOf; simp
theorem spotsOf_snoc {xs : List Leaf} {k : Nat} (h : k < xs.length) : spotsOf (xs.take (k + 1)) = spotsOf (xs.take k) ++ [spotOf xs[k]] := by
  unfold spotsOf; rw [List.take_succ_eq_append_getElem h, List.map_append]; rfl
set_option maxRecDepth 20000 in set_option maxHeartbeats 8000000 in
theorem spec_l10Spots (w : World) (xs : List Leaf) (A : Option Addr) (cap : Nat) (S : Blks) (hx : Row false w A cap xs S) (hl : xs.length ≤ 1048576) (hz : szL xs ≤ 1048576) : Calls Tryz.prog 161 #[.slice A xs.length cap] w (OwnRes (spotsOf xs) w) := by
  go_enter Tryz.func161, Tryz.ntmps161
  go_wp2
  have HO := Lib.hid (Own.litAt (α := Spot) (Below.refl w.heap.size w) 228 rfl (b := w.heap.size) rfl)
  go_loopw [3, 4] (fun u i wr => ∃ (k : Nat) (A2 : Option Addr) (c : Nat), k ≤ xs.length ∧ i = .int .i64 k ∧ u = .slice A2 k c ∧ Own w wr A2 c (spotsOf (xs.take k))) (fun _ i _ => xs.length - (intOf i).toNat)
  case atStart => exact ⟨0, some ⟨w.heap.size, 0, none⟩, 0, Nat.zero_le _, rfl, rfl, HO.out⟩
  case round =>
    clear HO
    obtain ⟨k, A2, c, hk, rfl, rfl, hown⟩ := hrel
    have hb := hown.bl
    have HOW := Lib.hid hown
    by_cases hlt : k < xs.length
    · obtain ⟨b1, o1, rfl, hl1, e0, e1, s0, s1⟩ := Row.atLeaf hx hlt
      have HN := Lib.hid (spotsOf_snoc hlt)
      have hsz := leaf_size hlt hz
      have HNL : Hid ((spotsOf (xs.take k)).length = k) := Lib.hid (by rw [spotsOf_len, List.length_take]; omega)
      obtain ⟨x, hx'⟩ : ∃ x, xs[k] = x := ⟨_, rfl⟩
      rw [hx'] at e0 e1 s0 s1 HN hsz
      clear hx'
      have HM := Lib.hid (fun (w' : World) (h : Below w.heap.size w w') => (⟨(h.cell (p := ⟨b1, o1 + k * 2, none⟩) hl1).trans e0, (h.cell (p := ⟨b1, o1 + k * 2 + 1, none⟩) hl1).trans e1, h⟩ : w'.cell? ⟨b1, o1 + k * 2, none⟩ = some (.string x.name) ∧ w'.cell? ⟨b1, o1 + k * 2 + 1, none⟩ = some (.string x.value) ∧ Below w.heap.size w w'))
      have HIX := Lib.hid (fun W' => spec_IndexOf W' x.name (by omega))
      have hwl := hb.size
      have hok : Flat.ok (spotOf x) := (show x.name.size ≤ maxLen ∧ x.value.size ≤ maxLen ∧ I64 ((indexOf x.name : Nat) : Int) from ⟨s0, s1, by have := indexOf_lt x.name; unfold I64; omega⟩)
      have HSX : Hid (spotOf x = ⟨x, (indexOf x.name : Int)⟩) := Lib.hid rfl
      rw [HSX.out] at HN hok
      obtain ⟨ix, hix⟩ : ∃ ix, indexOf x.name = ix := ⟨_, rfl⟩
      rw [hix] at HIX HN hok
      have hB := Below.refl wr.heap.size wr
      have hki : (k : Int) < (xs.length : Int) := by omega
      have hk0 : (0 : Int) ≤ (k : Int) := by omega
      clear hix HSX e0 e1 s0 s1 hown
      go_wp2_with (fail)
      go_region_held3 (fun w' => w'.cell? ⟨b1, o1 + k * 2, none⟩ = some (.string x.name) ∧ w'.cell? ⟨b1, o1 + k * 2 + 1, none⟩ = some (.string x.value) ∧ Below w.heap.size w w')
        (first | exact HM.out _ hE | exact HM.out _ (hb.trans (Below.mono (w := wr) (by (repeat (first | with_reducible exact hB | with_reducible apply Below.drew | with_reducible refine Below.alloc ?_ ?_ _ | with_reducible refine Below.setCell ?_ ?_ _)); all_goals (first | omega | (simp; done) | (simp; omega))) hwl)))
        (first | (go_at_call 86; refine (HIX.out _).mono ?_; rintro e5 w5 ⟨rfl, hb5⟩; have hB := Below.step (a := wr) (by (repeat (first | with_reducible exact hB | with_reducible apply Below.drew | with_reducible refine Below.alloc ?_ ?_ _ | with_reducible refine Below.setCell ?_ ?_ _)); all_goals (first | omega | (simp; done) | (simp; omega))) hb5; have hs5 := hB.size) | ((refine step_push (α := Spot) (w0 := w) rfl _ _ rfl rfl HNL.out.symm (HOW.out.later (by (repeat (first | with_reducible exact hB | with_reducible apply Below.drew | with_reducible refine Below.alloc ?_ ?_ _ | with_reducible refine Below.setCell ?_ ?_ _)); all_goals (first | omega | (simp; done) | (simp; omega)))) rfl rfl (src1 hok (by first | rfl | simp) rfl) (by omega) ?_); intro A6 c6 w6 o6 hE))
      go_wp2
      go_roundw
      case rel => exact ⟨k + 1, A6, c6, hlt, by go_num, rfl, by rw [HN.out]; exact o6⟩
      case measure => simp [intOf]; omega
    · have HE : Hid (spotsOf xs = spotsOf (xs.take k)) := Lib.hid (by rw [List.take_of_length_le (by omega)])
      have HNL : Hid (k = (spotsOf (xs.take k)).length) := Lib.hid (by rw [spotsOf_len, List.length_take]; omega)
      clear hown hb
      go_wp2
      go_ret
      exact OwnRes.mk HOW.out HE.out HNL.out
end Go.Proofs.YtgllafgpmenjjaaGreatDoor

set_option linter.unusedVariables false
set_option linter.unusedSimpArgs false
namespace Go.Proofs.YtgllafgpmenjjaaGreatDoor
open Go.RowKit Lay Mk
theorem place_lt {ix k m : Nat} (hix : ix < 256) (hk : k < m) (hm : m ≤ 8) : (ix / 2 ^ k) ^^^ 1 < 2 ^ (8 - k) := by
  refine Nat.xor_lt_two_pow ?_ (Nat.lt_of_lt_of_le (by decide : 1 < 2 ^ 1) (Nat.pow_le_pow_right (by omega) (by omega)))
  rw [Nat.div_lt_iff_lt_mul (Nat.two_pow_pos k), ← Nat.pow_add, show 8 - k + k = 8 by omega]
  exact hix
end Go.Proofs.YtgllafgpmenjjaaGreatDoor
