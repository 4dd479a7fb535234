/- A part of the proof: what the laws need of it. -/
import Derived.Test.YtojbehmbeoemgaaDoorHEvL21xPr
import Derived.Test.YtojbehmbeoemgaaDoorHEvL23xSkS
import Derived.Test.YtojbehmbeoemgaaDoorHEvL10xSa
set_option linter.unusedVariables false
set_option linter.unusedSimpArgs false
set_option linter.unusedVariables false
set_option linter.unusedSimpArgs false
namespace Go.Proofs.YtojbehmbeoemgaaDoor
open Go.RowKit Lay Mk
def pubIn (seed : ByteArray) (a : Int) : Bool := decide (seed.size ≤ 100) && inB a 0 15
def pubLocks (seed : ByteArray) (a : Int) : Nat → List ByteArray
  | 0 => []
  | j + 1 => pubLocks seed a j ++ [lockOf (secretOf seed a ((j / 2 : Nat) : Int) ((j % 2 : Nat) : Int))]
def publicOf (seed : ByteArray) (a : Int) : ByteArray := if pubIn seed a = true then tagHash 6 (pubLocks seed a 16) 16 else ⟨#[]⟩
def poolTo (seed : ByteArray) : Nat → List ByteArray
  | 0 => []
  | k + 1 => poolTo seed k ++ [publicOf seed (k : Int)]
def poolOf (seed : ByteArray) : List ByteArray := poolTo seed 16
theorem poolTo_len (seed : ByteArray) : ∀ k, (poolTo seed k).length = k
  | 0 => rfl
  | k + 1 => by unfold poolTo; rw [List.length_append, poolTo_len seed k]; rfl
theorem pubLocks_len (seed : ByteArray) (a : Int) : ∀ k, (pubLocks seed a k).length = k
  | 0 => rfl
  | k + 1 => by unfold pubLocks; rw [List.length_append, pubLocks_len seed a k]; rfl
theorem secretIn_eq (seed : ByteArray) (a : Int) {b v : Nat} (hb : b < 8) (hv : v < 2) : secretIn seed a b v = pubIn seed a := by
  have h1 : inB (b : Int) 0 7 = true := by unfold inB; simp; omega
  have h2 : inB (v : Int) 0 1 = true := by unfold inB; simp; omega
  unfold secretIn pubIn; rw [h1, h2]; simp
theorem secret_no {seed : ByteArray} {a : Int} {b v : Nat} (hb : b < 8) (hv : v < 2) (h : pubIn seed a = false) : secretOf seed a b v = ⟨#[]⟩ := by
  unfold secretOf; rw [secretIn_eq seed a hb hv, h]; rfl
theorem secret_yes {seed : ByteArray} {a : Int} {b v : Nat} (hb : b < 8) (hv : v < 2) (h : pubIn seed a = true) : (secretOf seed a b v).size = 16 := secretOf_size (by rw [secretIn_eq seed a hb hv, h])
theorem pubLocks_next (seed : ByteArray) (a : Int) {b v : Nat} (hv : v < 2) : pubLocks seed a (2 * b + v + 1) = pubLocks seed a (2 * b + v) ++ [lockOf (secretOf seed a b v)] := by
  rw [pubLocks, show (2 * b + v) / 2 = b by omega, show (2 * b + v) % 2 = v by omega]
theorem pubLocks_size {seed : ByteArray} {a : Int} (h : pubIn seed a = true) : ∀ k, k ≤ 16 → ∀ s ∈ pubLocks seed a k, s.size = 16
  | 0, _ => fun s hs => by cases hs
  | k + 1, hk => fun s hs => by
    unfold pubLocks at hs
    rcases List.mem_append.1 hs with h1 | h1
    · exact pubLocks_size h k (by omega) s h1
    · simp at h1; subst h1
      exact lockOf_size (by have := secret_yes (seed := seed) (a := a) (b := k / 2) (v := k % 2) (by omega) (by omega) h; simpa using (by omega : (secretOf seed a ((k / 2 : Nat) : Int) ((k % 2 : Nat) : Int)).size ≤ 200))
theorem publicOf_yes {seed : ByteArray} {a : Int} (h : pubIn seed a = true) : (publicOf seed a).size = 16 := by
  unfold publicOf; rw [if_pos h]
  exact tagHash_size (tagOk_of (by decide) (by rw [pubLocks_len]; omega) (fun s hs => by rw [pubLocks_size h 16 (Nat.le_refl _) s hs]; omega))
theorem publicOf_le (seed : ByteArray) (a : Int) : (publicOf seed a).size ≤ 32 := by
  unfold publicOf; split
  · exact tagHash_le _ _ _
  · exact Nat.zero_le _
theorem str_nonempty {s : ByteArray} {n : Nat} (h : s.size = n + 1) : ¬ s.toList = [] := by
  intro e
  rw [ByteArray.toList_eq] at e
  have : s.data.toList.length = 0 := by rw [e]; rfl
  have h2 : s.data.toList.length = s.size := by simp
  omega
set_option maxRecDepth 20000 in set_option maxHeartbeats 8000000 in
theorem spec_PublicOf (w : World) (seed : ByteArray) (hs : seed.size ≤ maxLen) (a : Int) : Calls Tryd.prog 56 #[.string seed, .int .i64 a] w fun e w' => e = .returned (.string (publicOf seed a)) ∧ Below w.heap.size w w' := by
  have HFN : Hid (pubIn seed a = false → publicOf seed a = ⟨#[]⟩) := Lib.hid (fun h => by unfold publicOf; rw [h]; rfl)
  have HFY : Hid (pubIn seed a = true → publicOf seed a = tagHash 6 (pubLocks seed a 16) 16) := Lib.hid (fun h => by unfold publicOf; rw [if_pos h])
  go_enter Tryd.func56, Tryd.ntmps56
  go_wp2
  have HO := Lib.hid (Own.litAt (α := ByteArray) (Below.refl w.heap.size w) 9 rfl (b := w.heap.size) rfl)
  go_loopw [5,6] (fun u i wr => ∃ (b : Nat) (L : List ByteArray) (n : Nat) (A : Option Addr) (c : Nat), b ≤ 8 ∧ i = .int .i64 b ∧ u = .slice A n c ∧ Hid (n = L.length) ∧ Hid (L = pubLocks seed a (2 * b)) ∧ n ≤ 2 * b ∧ Hid (0 < b → pubIn seed a = true) ∧ Own w wr A c L) (fun _ i _ => 8 - (intOf i).toNat)
  case atStart => exact ⟨0, [], 0, some ⟨w.heap.size, 0, none⟩, 0, by omega, rfl, rfl, Lib.hid rfl, Lib.hid rfl, by simp, Lib.hid (fun h => absurd h (by omega)), HO.out⟩
  case round =>
    clear HO
    obtain ⟨b, L, n, A, c, hb8, rfl, rfl, HLn, HL, hLb, HP, hown⟩ := hrel
    by_cases hlt : b < 8
    · have HOW := Lib.hid hown
      have hltI : (b : Int) < 8 := by omega
      have HL0 := Lib.hid (show L = pubLocks seed a (2 * b + 0) from HL.out)
      have HP0 := Lib.hid (show 0 < 2 * b + 0 → pubIn seed a = true from fun h => HP.out (by omega))
      clear hown HL HP
      go_wp2_with (fail)
      go_loopw [5,7] (fun u i wr => ∃ (v : Nat) (L : List ByteArray) (n : Nat) (A : Option Addr) (c : Nat), v ≤ 2 ∧ i = .int .i64 v ∧ u = .slice A n c ∧ Hid (n = L.length) ∧ Hid (L = pubLocks seed a (2 * b + v)) ∧ n ≤ 2 * b + v ∧ Hid (0 < 2 * b + v → pubIn seed a = true) ∧ Own w wr A c L) (fun _ i _ => 2 - (intOf i).toNat)
      case atStart => exact ⟨0, L, n, A, c, by omega, rfl, rfl, HLn, HL0, by omega, HP0, HOW.out⟩
      case round =>
        clear HOW HL0 HP0 hLb HLn
        obtain ⟨v, L, n, A, c, hv2, rfl, rfl, HLn, HL, hLb, HP, hown⟩ := hrel
        have HOW := Lib.hid hown
        clear hown
        by_cases hlt2 : v < 2
        · have HN := Lib.hid (pubLocks_next seed a (b := b) hlt2)
          have HSN := Lib.hid (fun h => secret_no (seed := seed) (a := a) hlt hlt2 h)
          have HSY := Lib.hid (fun h => secret_yes (seed := seed) (a := a) hlt hlt2 h)
          have hC := spec_SecretOf
          have HCL := Lib.hid (fun W (h : Below w.heap.size w W) => spec_SecretOf W seed hs a b v)
          obtain ⟨s, hss⟩ : ∃ s, secretOf seed a b v = s := ⟨_, rfl⟩
          rw [hss] at HN HCL
          simp only [hss] at HSN HSY
          clear hss hC
          go_wp2_with (fail)
          refine (HCL.out _ HOW.out.bl).mono ?_
          rintro e5 w5 ⟨rfl, hb5⟩
          have HO5 := Lib.hid (HOW.out.later hb5)
          clear hb5
          cases hp : pubIn seed a
          · have hse := HSN.out hp
            have HE := Lib.hid (HFN.out hp)
            subst hse
            clear hp HSN HSY HN HCL
            go_wp2
            go_ret
            exact ⟨ret_str (by rw [HE.out]), HO5.out.bl⟩
          · have h16 := HSY.out hp
            have hne := str_nonempty h16
            have hne2 : (s.toList == ([] : List UInt8)) = false := beq_eq_false_iff_ne.2 hne
            have hne3 : (!s.toList.isEmpty) = true := by cases h : s.toList with
              | nil => exact absurd h hne
              | cons _ _ => rfl
            have HPT := Lib.hid hp
            have hlk := lockOf_size (s := s) (by omega)
            have HLK := Lib.hid (fun W (h : Below w.heap.size w W) => spec_LockOf W s (by omega))
            obtain ⟨lk, hlkk⟩ : ∃ lk, lockOf s = lk := ⟨_, rfl⟩
            rw [hlkk] at hlk HLK HN
            have hlm : lk.size ≤ maxLen := ml (Nat.le_of_eq hlk) (by omega)
            have HLKs := Lib.hid hlk
            clear hp HSN HSY hlkk h16 HCL hlk
            go_wp2_with (fail)
            refine (HLK.out _ HO5.out.bl).mono ?_
            rintro e6 w6 ⟨rfl, hb6⟩
            go_wp2_with (at_builtin; refine wpList_push (α := ByteArray) rfl _ _ rfl rfl HLn.out ((HO5.out.later hb6).alloc _) rfl rfl (src1 hlm rfl rfl) (by omega) ?_; intro A7 c7 w7 o7 z7)
            go_roundw
            case rel => first | exact ⟨v + 1, L ++ [lk], n + 1, A7, c7, by omega, by go_num, rfl, Lib.hid (by rw [List.length_append, HLn.out]; rfl), Lib.hid (by rw [show 2 * b + (v + 1) = 2 * b + v + 1 by omega, HN.out, HL.out]), by omega, Lib.hid (fun _ => HPT.out), o7⟩ | ((repeat apply Exists.intro); exact ⟨⟨v + 1, L ++ [lk], n + 1, A7, c7, by omega, by go_num, rfl, Lib.hid (by rw [List.length_append, HLn.out]; rfl), Lib.hid (by rw [show 2 * b + (v + 1) = 2 * b + v + 1 by omega, HN.out, HL.out]), by omega, Lib.hid (fun _ => HPT.out), o7⟩, rfl⟩)
            case measure => simp [intOf]; omega
        · have hve : v = 2 := by omega
          subst hve
          have HL2 : Hid (L = pubLocks seed a (2 * (b + 1))) := Lib.hid (by rw [HL.out]; congr 1)
          have HP2 : Hid (0 < b + 1 → pubIn seed a = true) := Lib.hid (fun _ => HP.out (by omega))
          go_wp2
          go_roundw
          case rel => first | exact ⟨b + 1, L, n, A, c, by omega, by go_num, rfl, HLn, HL2, by omega, HP2, HOW.out⟩ | ((repeat apply Exists.intro); exact ⟨⟨b + 1, L, n, A, c, by omega, by go_num, rfl, HLn, HL2, by omega, HP2, HOW.out⟩, rfl⟩)
          case measure => simp [intOf]; omega
    · have hbe : b = 8 := by omega
      subst hbe
      have hpt := HP.out (by omega)
      have HE : Hid (publicOf seed a = tagHash 6 L 16) := Lib.hid (by rw [HFY.out hpt, HL.out])
      have HOW := Lib.hid hown
      clear hpt hown
      go_wp2_with (fail)
      rw [HLn.out]
      have hLb2 : L.length ≤ 16 := by rw [← HLn.out]; omega
      refine (spec_TagHash _ 6 (by unfold I64; omega) L A c _ HOW.out.weak (by omega) 16 (by unfold I64; omega)).mono ?_
      rintro e5 w5 ⟨rfl, hb5⟩
      go_wp2
      go_ret
      exact ⟨ret_str (by rw [HE.out]), HOW.out.bl.trans (hb5.mono HOW.out.size)⟩
set_option maxRecDepth 20000 in set_option maxHeartbeats 8000000 in
theorem spec_PoolOf (w : World) (seed : ByteArray) (hs : seed.size ≤ maxLen) : Calls Tryd.prog 15 #[.string seed] w (OwnRes (poolOf seed) w) := by
  go_enter Tryd.func15, Tryd.ntmps15
  go_wp2
  have HO := Lib.hid (Own.litAt (α := ByteArray) (Below.refl w.heap.size w) 9 rfl (b := w.heap.size) rfl)
  go_loopw [3,4] (fun u i wr => ∃ (k : Nat) (L : List ByteArray) (A : Option Addr) (c : Nat), k ≤ 16 ∧ i = .int .i64 k ∧ u = .slice A L.length c ∧ Hid (L = poolTo seed k) ∧ L.length ≤ k ∧ Own w wr A c L) (fun _ i _ => 16 - (intOf i).toNat)
  case atStart => exact ⟨0, [], some ⟨w.heap.size, 0, none⟩, 0, by omega, rfl, rfl, Lib.hid rfl, by simp, HO.out⟩
  case round =>
    clear HO
    obtain ⟨k, L, A, c, hk, rfl, rfl, HL, hLk, hown⟩ := hrel
    have HOW := Lib.hid hown
    clear hown
    by_cases hlt : k < 16
    · have HN : Hid (poolTo seed (k + 1) = L ++ [publicOf seed (k : Int)]) := Lib.hid (by rw [poolTo, HL.out])
      have HCL := Lib.hid (fun W (h : Below w.heap.size w W) => spec_PublicOf W seed hs (k : Int))
      have hpm : (publicOf seed (k : Int)).size ≤ maxLen := ml (publicOf_le seed k) (by omega)
      obtain ⟨p, hp⟩ : ∃ p, publicOf seed (k : Int) = p := ⟨_, rfl⟩
      rw [hp] at HN HCL hpm
      clear hp
      go_wp2_with (fail)
      refine (HCL.out _ HOW.out.bl).mono ?_
      rintro e6 w6 ⟨rfl, hb6⟩
      go_wp2_with (at_builtin; refine wpList_push (α := ByteArray) rfl _ _ rfl rfl rfl ((HOW.out.later hb6).alloc _) rfl rfl (src1 hpm rfl rfl) (by omega) ?_; intro A7 c7 w7 o7 z7)
      go_roundw
      case rel => first | exact ⟨k + 1, L ++ [p], A7, c7, by omega, by go_num, by simp, Lib.hid HN.out.symm, by simp; omega, o7⟩ | ((repeat apply Exists.intro); exact ⟨⟨k + 1, L ++ [p], A7, c7, by omega, by go_num, by simp, Lib.hid HN.out.symm, by simp; omega, o7⟩, rfl⟩)
      case measure => simp [intOf]; omega
    · have hke : k = 16 := by omega
      subst hke
      have HE : Hid (poolOf seed = L) := Lib.hid (by rw [HL.out]; rfl)
      go_wp2
      go_ret
      exact OwnRes.mk HOW.out HE.out rfl
end Go.Proofs.YtojbehmbeoemgaaDoor

set_option linter.unusedVariables false
set_option linter.unusedSimpArgs false
namespace Go.Proofs.YtojbehmbeoemgaaDoor
open Go.RowKit Lay Mk
def sealAt (e : Int) : Int := if inB e 1 4 = true then e - 1 else -1
def sealOk (root : ByteArray) (s : Seal) : Bool := headOk s.head && decide (s.sig.at_ = sealAt s.head.epoch) && sigOk root (headHash s.head) s.sig
def sameHd (a b : Head) : Bool := decide (a.house = b.house) && decide (a.epoch = b.epoch) && decide (a.root = b.root) && decide (a.prev = b.prev)
def evidenceOk (root : ByteArray) (p : Pair) : Bool := sealOk root p.a && sealOk root p.b && decide (p.a.head.house = p.b.head.house) && decide (p.a.head.epoch = p.b.head.epoch) && !sameHd p.a.head p.b.head
theorem inB_14 {e : Int} (h : inB e 1 4 = true) : 1 ≤ e ∧ e ≤ 4 := by simpa [inB] using h
set_option maxRecDepth 20000 in set_option maxHeartbeats 4000000 in
theorem impl_SealAt (e : Int) (w : World) : Calls Tryd.prog 116 #[.int .i64 e] w fun r w' => r = .returned (.int .i64 (sealAt e)) ∧ w = w' := by
  cases hi : inB e 1 4
  · have HC : Hid (sealAt e = -1) := Lib.hid (by unfold sealAt; rw [hi]; rfl)
    go_enter Tryd.func116, Tryd.ntmps116
    go_wp2_with (go_at_call 144; refine (epoch_in _ _).mono ?_; rintro e0 w2 ⟨rfl, rfl⟩)
    go_ret
    exact ⟨by rw [HC.out]; rfl, rfl⟩
  · have HC : Hid (sealAt e = e - 1) := Lib.hid (by unfold sealAt; rw [hi]; rfl)
    obtain ⟨h1, h2⟩ := inB_14 hi
    go_enter Tryd.func116, Tryd.ntmps116
    go_wp2_with (go_at_call 144; refine (epoch_in _ _).mono ?_; rintro e0 w2 ⟨rfl, rfl⟩)
    go_ret
    exact ⟨by rw [HC.out]; rfl, rfl⟩
set_option maxRecDepth 20000 in set_option maxHeartbeats 4000000 in
theorem spec_SealAt (e : Int) (w : World) : Calls Tryd.prog 54 #[.int .i64 e] w fun r w' => r = .returned (.int .i64 (sealAt e)) ∧ w = w' := by
  cases hi : inB e 1 4
  · have HC : Hid (sealAt e = -1) := Lib.hid (by unfold sealAt; rw [hi]; rfl)
    go_enter Tryd.func54, Tryd.ntmps54
    go_wp2_with (go_at_call 50; refine (spec_in _ _ _ _).mono ?_; rintro e0 w2 ⟨rfl, rfl⟩)
    go_ret
    exact ⟨by rw [HC.out]; rfl, rfl⟩
  · have HC : Hid (sealAt e = e - 1) := Lib.hid (by unfold sealAt; rw [hi]; rfl)
    obtain ⟨h1, h2⟩ := inB_14 hi
    go_enter Tryd.func54, Tryd.ntmps54
    go_wp2_with (go_at_call 50; refine (spec_in _ _ _ _).mono ?_; rintro e0 w2 ⟨rfl, rfl⟩)
    go_ret
    exact ⟨by rw [HC.out]; rfl, rfl⟩
set_option maxRecDepth 20000 in set_option maxHeartbeats 8000000 in
theorem impl_SealOk (w : World) (root : ByteArray) (x : Seal) (cs : List Value) (S : Blks) (hx : rd false w cs x S) (hT : Tabs w) : Calls Tryd.prog 57 #[.string root, .agg cs.toArray] w fun e w' => e = .returned (.bool (sealOk root x)) ∧ Below w.heap.size w w' := by
  obtain ⟨A0, k0, S0, A1, k1, S1, A2, k2, S2, rfl, f0, f1, f2, f3, f4, a0, b0, r0, s0, a1, b1, r1, s1, a2, b2, r2, s2, pw⟩ := Seal.open hx
  clear hx
  obtain ⟨⟨hh, he, hr, hp⟩, ⟨a, so, ss, sd⟩⟩ := x
  simp only at f0 f1 f2 f3 f4 a0 b0 r0 a1 b1 r1 a2 b2 r2
  have HSig := Lib.hid (fun W (h : Below w.heap.size w W) => impl_SigOk W root (headHash ⟨hh, he, hr, hp⟩) ⟨a, so, ss, sd⟩ _ S (Lay.later (Sig.mk' (x := ⟨a, so, ss, sd⟩) f4 a0 b0 r0 s0 a1 b1 r1 s1 a2 b2 r2 s2 (fun h => by simp at h)) h) (hT.later h))
  have HOK : Hid (sealOk root ⟨⟨hh, he, hr, hp⟩, ⟨a, so, ss, sd⟩⟩ = (headOk ⟨hh, he, hr, hp⟩ && decide (a = sealAt he) && sigOk root (headHash ⟨hh, he, hr, hp⟩) ⟨a, so, ss, sd⟩)) := Lib.hid rfl
  have HT := Lib.hid hT
  clear hT
  clear pw r0 r1 r2
  simp only [Seal.cs]
  simp only [Sig.cs] at HSig
  have HSA := Lib.hid (fun W => impl_SealAt he W)
  have HHO := Lib.hid (fun W => impl_HeadOk ⟨hh, he, hr, hp⟩ W)
  obtain ⟨v, hv⟩ : ∃ v, sealAt he = v := ⟨_, rfl⟩
  rw [hv] at HOK HSA
  clear hv
  cases hok : headOk ⟨hh, he, hr, hp⟩ <;> rw [hok] at HHO
  · have HF : Hid (sealOk root ⟨⟨hh, he, hr, hp⟩, ⟨a, so, ss, sd⟩⟩ = false) := Lib.hid (by rw [HOK.out, hok]; rfl)
    go_enter Tryd.func57, Tryd.ntmps57
    go_wp2
    generalize hW : w.alloc (.cells #[.int .i64 hh, .int .i64 he, .string hr, .string hp, .int .i64 a, .slice A0 so.length k0, .slice A1 ss.length k1, .slice A2 sd.length k2] 30) = W
    have HBW : Hid (Below w.heap.size w W) := by rw [← hW]; exact Lib.hid ((Below.refl _ _).alloc (Nat.le_refl _) _)
    obtain ⟨B, hBe⟩ : ∃ B, w.heap.size = B := ⟨_, rfl⟩
    have hBlt : B < W.heap.size := by rw [← hW, ← hBe]; simp
    have c0 := Grown.cell (show W.cell? ⟨B, 0, none⟩ = some (.int .i64 hh) by rw [← hW, ← hBe]; exact box_cell _ _ _ _ _ rfl)
    have c1 := Grown.cell (show W.cell? ⟨B, 1, none⟩ = some (.int .i64 he) by rw [← hW, ← hBe]; exact box_cell _ _ _ _ _ rfl)
    have c2 := Grown.cell (show W.cell? ⟨B, 2, none⟩ = some (.string hr) by rw [← hW, ← hBe]; exact box_cell _ _ _ _ _ rfl)
    have c3 := Grown.cell (show W.cell? ⟨B, 3, none⟩ = some (.string hp) by rw [← hW, ← hBe]; exact box_cell _ _ _ _ _ rfl)
    have c4 := Grown.cell (show W.cell? ⟨B, 4, none⟩ = some (.int .i64 a) by rw [← hW, ← hBe]; exact box_cell _ _ _ _ _ rfl)
    have c5 := Grown.cell (show W.cell? ⟨B, 5, none⟩ = some (.slice A0 so.length k0) by rw [← hW, ← hBe]; exact box_cell _ _ _ _ _ rfl)
    have c6 := Grown.cell (show W.cell? ⟨B, 6, none⟩ = some (.slice A1 ss.length k1) by rw [← hW, ← hBe]; exact box_cell _ _ _ _ _ rfl)
    have c7 := Grown.cell (show W.cell? ⟨B, 7, none⟩ = some (.slice A2 sd.length k2) by rw [← hW, ← hBe]; exact box_cell _ _ _ _ _ rfl)
    have HBE := Lib.hid hBe
    rw [hBe]
    clear hW hBe
    refine wp_region_grown (by kernel_rfl) (by kernel_rfl) ?_
    repeat (go_big_quiet_step (first | (go_at_call 115; exact grown_call (HHO.out _)) | (go_at_call 116; exact grown_same (HSA.out _)) | (go_at_call 118; exact grown_call (impl_HeadHash ⟨hh, he, hr, hp⟩ _ (HT.out.later (HBW.out.trans ((Grown.ok _).mono HBW.out.size))))) | (go_at_call 117; exact grown_call (HSig.out _ (HBW.out.trans ((Grown.ok _).mono HBW.out.size))))))
    refine wpQuiet_nil ?_
    intro w2 hw2
    have hR := Lib.hid (grown_below hw2)
    clear hw2
    go_wp2
    go_ret
    exact ⟨ret_bool (by rw [HF.out]), (HBW.out).trans (hR.out.mono HBW.out.size)⟩
  · by_cases hav : a = v
    · have HF : Hid (sealOk root ⟨⟨hh, he, hr, hp⟩, ⟨a, so, ss, sd⟩⟩ = sigOk root (headHash ⟨hh, he, hr, hp⟩) ⟨a, so, ss, sd⟩) := Lib.hid (by rw [HOK.out, hok, decide_eq_true hav]; rfl)
      subst hav
      obtain ⟨z, hz⟩ : ∃ z, sigOk root (headHash ⟨hh, he, hr, hp⟩) ⟨a, so, ss, sd⟩ = z := ⟨_, rfl⟩
      rw [hz] at HSig HF
      clear hz
      go_enter Tryd.func57, Tryd.ntmps57
      go_wp2
      generalize hW : w.alloc (.cells #[.int .i64 hh, .int .i64 he, .string hr, .string hp, .int .i64 a, .slice A0 so.length k0, .slice A1 ss.length k1, .slice A2 sd.length k2] 30) = W
      have HBW : Hid (Below w.heap.size w W) := by rw [← hW]; exact Lib.hid ((Below.refl _ _).alloc (Nat.le_refl _) _)
      obtain ⟨B, hBe⟩ : ∃ B, w.heap.size = B := ⟨_, rfl⟩
      have hBlt : B < W.heap.size := by rw [← hW, ← hBe]; simp
      have c0 := Grown.cell (show W.cell? ⟨B, 0, none⟩ = some (.int .i64 hh) by rw [← hW, ← hBe]; exact box_cell _ _ _ _ _ rfl)
      have c1 := Grown.cell (show W.cell? ⟨B, 1, none⟩ = some (.int .i64 he) by rw [← hW, ← hBe]; exact box_cell _ _ _ _ _ rfl)
      have c2 := Grown.cell (show W.cell? ⟨B, 2, none⟩ = some (.string hr) by rw [← hW, ← hBe]; exact box_cell _ _ _ _ _ rfl)
      have c3 := Grown.cell (show W.cell? ⟨B, 3, none⟩ = some (.string hp) by rw [← hW, ← hBe]; exact box_cell _ _ _ _ _ rfl)
      have c4 := Grown.cell (show W.cell? ⟨B, 4, none⟩ = some (.int .i64 a) by rw [← hW, ← hBe]; exact box_cell _ _ _ _ _ rfl)
      have c5 := Grown.cell (show W.cell? ⟨B, 5, none⟩ = some (.slice A0 so.length k0) by rw [← hW, ← hBe]; exact box_cell _ _ _ _ _ rfl)
      have c6 := Grown.cell (show W.cell? ⟨B, 6, none⟩ = some (.slice A1 ss.length k1) by rw [← hW, ← hBe]; exact box_cell _ _ _ _ _ rfl)
      have c7 := Grown.cell (show W.cell? ⟨B, 7, none⟩ = some (.slice A2 sd.length k2) by rw [← hW, ← hBe]; exact box_cell _ _ _ _ _ rfl)
      have HBE := Lib.hid hBe
      rw [hBe]
      clear hW hBe
      refine wp_region_grown (by kernel_rfl) (by kernel_rfl) ?_
      repeat (go_big_quiet_step (first | (go_at_call 115; exact grown_call (HHO.out _)) | (go_at_call 116; exact grown_same (HSA.out _)) | (go_at_call 118; exact grown_call (impl_HeadHash ⟨hh, he, hr, hp⟩ _ (HT.out.later (HBW.out.trans ((Grown.ok _).mono HBW.out.size))))) | (go_at_call 117; exact grown_call (HSig.out _ (HBW.out.trans ((Grown.ok _).mono HBW.out.size))))))
      refine wpQuiet_nil ?_
      intro w2 hw2
      have hR := Lib.hid (grown_below hw2)
      clear hw2
      go_wp2
      go_ret
      exact ⟨ret_bool (by rw [HF.out]), (HBW.out).trans (hR.out.mono HBW.out.size)⟩
    · have HF : Hid (sealOk root ⟨⟨hh, he, hr, hp⟩, ⟨a, so, ss, sd⟩⟩ = false) := Lib.hid (by rw [HOK.out, hok, decide_eq_false hav]; rfl)
      have hq1 : (a == v) = false := beq_eq_false_iff_ne.2 hav
      have hq2 : decide (a = v) = false := decide_eq_false hav
      go_enter Tryd.func57, Tryd.ntmps57
      go_wp2
      generalize hW : w.alloc (.cells #[.int .i64 hh, .int .i64 he, .string hr, .string hp, .int .i64 a, .slice A0 so.length k0, .slice A1 ss.length k1, .slice A2 sd.length k2] 30) = W
      have HBW : Hid (Below w.heap.size w W) := by rw [← hW]; exact Lib.hid ((Below.refl _ _).alloc (Nat.le_refl _) _)
      obtain ⟨B, hBe⟩ : ∃ B, w.heap.size = B := ⟨_, rfl⟩
      have hBlt : B < W.heap.size := by rw [← hW, ← hBe]; simp
      have c0 := Grown.cell (show W.cell? ⟨B, 0, none⟩ = some (.int .i64 hh) by rw [← hW, ← hBe]; exact box_cell _ _ _ _ _ rfl)
      have c1 := Grown.cell (show W.cell? ⟨B, 1, none⟩ = some (.int .i64 he) by rw [← hW, ← hBe]; exact box_cell _ _ _ _ _ rfl)
      have c2 := Grown.cell (show W.cell? ⟨B, 2, none⟩ = some (.string hr) by rw [← hW, ← hBe]; exact box_cell _ _ _ _ _ rfl)
      have c3 := Grown.cell (show W.cell? ⟨B, 3, none⟩ = some (.string hp) by rw [← hW, ← hBe]; exact box_cell _ _ _ _ _ rfl)
      have c4 := Grown.cell (show W.cell? ⟨B, 4, none⟩ = some (.int .i64 a) by rw [← hW, ← hBe]; exact box_cell _ _ _ _ _ rfl)
      have c5 := Grown.cell (show W.cell? ⟨B, 5, none⟩ = some (.slice A0 so.length k0) by rw [← hW, ← hBe]; exact box_cell _ _ _ _ _ rfl)
      have c6 := Grown.cell (show W.cell? ⟨B, 6, none⟩ = some (.slice A1 ss.length k1) by rw [← hW, ← hBe]; exact box_cell _ _ _ _ _ rfl)
      have c7 := Grown.cell (show W.cell? ⟨B, 7, none⟩ = some (.slice A2 sd.length k2) by rw [← hW, ← hBe]; exact box_cell _ _ _ _ _ rfl)
      have HBE := Lib.hid hBe
      rw [hBe]
      clear hW hBe
      refine wp_region_grown (by kernel_rfl) (by kernel_rfl) ?_
      repeat (go_big_quiet_step (first | (go_at_call 115; exact grown_call (HHO.out _)) | (go_at_call 116; exact grown_same (HSA.out _)) | (go_at_call 118; exact grown_call (impl_HeadHash ⟨hh, he, hr, hp⟩ _ (HT.out.later (HBW.out.trans ((Grown.ok _).mono HBW.out.size))))) | (go_at_call 117; exact grown_call (HSig.out _ (HBW.out.trans ((Grown.ok _).mono HBW.out.size))))))
      refine wpQuiet_nil ?_
      intro w2 hw2
      have hR := Lib.hid (grown_below hw2)
      clear hw2
      go_wp2
      go_ret
      exact ⟨ret_bool (by rw [HF.out]), (HBW.out).trans (hR.out.mono HBW.out.size)⟩
end Go.Proofs.YtojbehmbeoemgaaDoor
