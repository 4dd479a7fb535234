/- A part of the proof: what the laws need of it. -/
import Derived.Test.YtlfnmbcnehaikaaGreatDoorHRaL12xDh
import Derived.Test.YtlfnmbcnehaikaaGreatDoorHRaL21xRb
import Derived.Sort.Walk0
import Derived.Test.YtlfnmbcnehaikaaGreatDoorHRaL9xAr
import Derived.Test.YtlfnmbcnehaikaaGreatDoorHRaL6xOq
set_option linter.unusedVariables false
set_option linter.unusedSimpArgs false
set_option linter.unusedVariables false
set_option linter.unusedSimpArgs false
namespace Go.Proofs.YtlfnmbcnehaikaaGreatDoor
open Go.RowKit Lay Mk
def rsV (o : Option (ByteArray × Nat)) : Value := match o with
  | none => .tuple #[.string ⟨#[]⟩, .int .i64 0, .bool false]
  | some (s, x) => .tuple #[.string s, .int .i64 x, .bool true]
theorem ret_rs {s u : ByteArray} {x : Nat} {j : Int} (h1 : s = u) (h2 : j = x) : Ending.returned (.tuple #[.string s, .int .i64 j, .bool true]) = Ending.returned (rsV (some (u, x))) := by rw [h1, h2]; rfl
set_option maxRecDepth 20000 in set_option maxHeartbeats 4000000 in
theorem impl_ReadShort (w : World) (t : ByteArray) (ht : t.size ≤ 1048576) (a : Nat) (ha : a ≤ t.size) : Calls Tryz.prog 181 #[.string t, .int .i64 a] w fun e w' => e = .returned (rsV (rdShort t a)) ∧ w = w' := by
  have h0 := impl_ReadVar w t ht a ha
  cases hv : rdVar t a with
  | none =>
    have HR := Lib.hid (rdShort_no hv)
    rw [hv] at h0
    have HV : Hid (Calls Tryz.prog 178 #[.string t, .int .i64 a] w fun e w' => e = .returned (.tuple #[.int .i64 0, .int .i64 0, .bool false]) ∧ w = w') := Lib.hid h0
    clear h0 hv
    go_enter Tryz.func181, Tryz.ntmps181
    go_wp2_with (go_at_call 178; refine HV.out.mono ?_; rintro e w' ⟨rfl, rfl⟩)
    refine bodyPost_ret (v := .tuple #[.string ⟨#[]⟩, .int .i64 0, .bool false]) (by simp [results, Tryz.results181, go_sem, *]) rfl ?_
    exact ⟨by rw [HR.out]; rfl, rfl⟩
  | some q =>
    obtain ⟨n, x⟩ := q
    have h1 := rdVar_some hv
    have HR := Lib.hid (rdShort_at hv)
    rw [hv] at h0
    have HV : Hid (Calls Tryz.prog 178 #[.string t, .int .i64 a] w fun e w' => e = .returned (.tuple #[.int .i64 n, .int .i64 x, .bool true]) ∧ w = w') := Lib.hid h0
    clear h0 hv
    have hws : IntKind.i64.wrap ((t.size : Int) - x) = (t.size : Int) - x := by rw [IntWalk.i64_in] <;> omega
    by_cases hn : n ≤ 20000
    rotate_left
    · have HE : Hid (rdShort t a = none) := Lib.hid (by rw [HR.out, if_neg (fun h => hn h.1)])
      have d1 : decide ((20000 : Int) < (n : Int)) = true := by rw [decide_eq_true_iff]; omega
      go_enter Tryz.func181, Tryz.ntmps181
      go_wp2_with (go_at_call 178; refine HV.out.mono ?_; rintro e w' ⟨rfl, rfl⟩)
      refine bodyPost_ret (v := .tuple #[.string ⟨#[]⟩, .int .i64 0, .bool false]) (by simp [results, Tryz.results181, go_sem, *]) rfl ?_
      exact ⟨by rw [HE.out]; rfl, rfl⟩
    have d1 : decide ((20000 : Int) < (n : Int)) = false := by rw [decide_eq_false_iff_not]; omega
    by_cases hs : n ≤ t.size - x
    rotate_left
    · have HE : Hid (rdShort t a = none) := Lib.hid (by rw [HR.out, if_neg (fun h => hs h.2)])
      have d2 : decide ((t.size : Int) - (x : Int) < (n : Int)) = true := by rw [decide_eq_true_iff]; omega
      go_enter Tryz.func181, Tryz.ntmps181
      go_wp2_with (go_at_call 178; refine HV.out.mono ?_; rintro e w' ⟨rfl, rfl⟩)
      refine bodyPost_ret (v := .tuple #[.string ⟨#[]⟩, .int .i64 0, .bool false]) (by simp [results, Tryz.results181, go_sem, *]) rfl ?_
      exact ⟨by rw [HE.out]; rfl, rfl⟩
    have HE : Hid (rdShort t a = some (t.extract x (x + n), x + n)) := Lib.hid (by rw [HR.out, if_pos ⟨hn, hs⟩])
    have d2 : decide ((t.size : Int) - (x : Int) < (n : Int)) = false := by rw [decide_eq_false_iff_not]; omega
    have hwa : IntKind.i64.wrap ((x : Int) + n) = (x : Int) + n := by rw [IntWalk.i64_in] <;> omega
    have b1 : (x : Int) ≤ (x : Int) + n := by omega
    have b2 : (x : Int) + n ≤ (t.size : Int) := by omega
    go_enter Tryz.func181, Tryz.ntmps181
    go_wp2_with (go_at_call 178; refine HV.out.mono ?_; rintro e w' ⟨rfl, rfl⟩)
    refine bodyPost_ret (v := .tuple #[.string (t.extract x (x + n)), .int .i64 ((x : Int) + n), .bool true]) (by simp [results, Tryz.results181, go_sem, *]) rfl ?_
    exact ⟨by rw [HE.out]; exact ret_rs rfl (by omega), rfl⟩
set_option maxRecDepth 20000 in set_option maxHeartbeats 4000000 in
theorem spec_ReadShort (w : World) (t : ByteArray) (ht : t.size ≤ 1048576) (a : Nat) (ha : a ≤ t.size) : Calls Tryz.prog 124 #[.string t, .int .i64 a] w fun e w' => e = .returned (rsV (rdShort t a)) ∧ Below w.heap.size w w' := by
  have h0 := spec_ReadVar w t ht a ha
  cases hv : rdVar t a with
  | none =>
    have HR := Lib.hid (rdShort_no hv)
    rw [hv] at h0
    have HV : Hid (Calls Tryz.prog 172 #[.string t, .int .i64 a] w fun e w' => e = .returned (.tuple #[.int .i64 0, .int .i64 0, .bool false]) ∧ Below w.heap.size w w') := Lib.hid h0
    clear h0 hv
    go_enter Tryz.func124, Tryz.ntmps124
    go_wp2_with (go_at_call 172; refine HV.out.mono ?_; rintro e w' ⟨rfl, hb⟩)
    refine bodyPost_ret (v := .tuple #[.string ⟨#[]⟩, .int .i64 0, .bool false]) (by simp [results, Tryz.results124, go_sem, *]) rfl ?_
    exact ⟨by rw [HR.out]; rfl, hb⟩
  | some q =>
    obtain ⟨n, x⟩ := q
    have h1 := rdVar_some hv
    have HR := Lib.hid (rdShort_at hv)
    rw [hv] at h0
    have HV : Hid (Calls Tryz.prog 172 #[.string t, .int .i64 a] w fun e w' => e = .returned (.tuple #[.int .i64 n, .int .i64 x, .bool true]) ∧ Below w.heap.size w w') := Lib.hid h0
    clear h0 hv
    have hws : IntKind.i64.wrap ((t.size : Int) - x) = (t.size : Int) - x := by rw [IntWalk.i64_in] <;> omega
    by_cases hn : n ≤ 20000
    rotate_left
    · have HE : Hid (rdShort t a = none) := Lib.hid (by rw [HR.out, if_neg (fun h => hn h.1)])
      have d1 : decide ((20000 : Int) < (n : Int)) = true := by rw [decide_eq_true_iff]; omega
      go_enter Tryz.func124, Tryz.ntmps124
      go_wp2_with (go_at_call 172; refine HV.out.mono ?_; rintro e w' ⟨rfl, hb⟩)
      refine bodyPost_ret (v := .tuple #[.string ⟨#[]⟩, .int .i64 0, .bool false]) (by simp [results, Tryz.results124, go_sem, *]) rfl ?_
      exact ⟨by rw [HE.out]; rfl, hb⟩
    have d1 : decide ((20000 : Int) < (n : Int)) = false := by rw [decide_eq_false_iff_not]; omega
    by_cases hs : n ≤ t.size - x
    rotate_left
    · have HE : Hid (rdShort t a = none) := Lib.hid (by rw [HR.out, if_neg (fun h => hs h.2)])
      have d2 : decide ((t.size : Int) - (x : Int) < (n : Int)) = true := by rw [decide_eq_true_iff]; omega
      go_enter Tryz.func124, Tryz.ntmps124
      go_wp2_with (go_at_call 172; refine HV.out.mono ?_; rintro e w' ⟨rfl, hb⟩)
      refine bodyPost_ret (v := .tuple #[.string ⟨#[]⟩, .int .i64 0, .bool false]) (by simp [results, Tryz.results124, go_sem, *]) rfl ?_
      exact ⟨by rw [HE.out]; rfl, hb⟩
    have HE : Hid (rdShort t a = some (t.extract x (x + n), x + n)) := Lib.hid (by rw [HR.out, if_pos ⟨hn, hs⟩])
    have d2 : decide ((t.size : Int) - (x : Int) < (n : Int)) = false := by rw [decide_eq_false_iff_not]; omega
    have hwa : IntKind.i64.wrap ((x : Int) + n) = (x : Int) + n := by rw [IntWalk.i64_in] <;> omega
    have b1 : (x : Int) ≤ (x : Int) + n := by omega
    have b2 : (x : Int) + n ≤ (t.size : Int) := by omega
    go_enter Tryz.func124, Tryz.ntmps124
    go_wp2_with (go_at_call 172; refine HV.out.mono ?_; rintro e w' ⟨rfl, hb⟩)
    refine bodyPost_ret (v := .tuple #[.string (t.extract x (x + n)), .int .i64 ((x : Int) + n), .bool true]) (by simp [results, Tryz.results124, go_sem, *]) rfl ?_
    exact ⟨by rw [HE.out]; exact ret_rs rfl (by omega), hb⟩
set_option maxRecDepth 20000 in set_option maxHeartbeats 4000000 in
theorem spec_Frame (w : World) (s : ByteArray) (hs : s.size ≤ 1048576) : Calls Tryz.prog 173 #[.string s] w fun e w' => e = .returned (.tuple #[.string (if inB s.size 1 9000 then frameT s else ⟨#[]⟩), .bool (inB s.size 1 9000)]) ∧ Below w.heap.size w w' := by
  have hv := varT_le (n := s.size) (by omega)
  have hf := fourB_size (sumOf s)
  have q1 : ¬ 9223372036854775807 < (varT s.size).size + (fourB (sumOf s)).size := by omega
  have q2 : ¬ 9223372036854775807 < (varT s.size ++ fourB (sumOf s)).size + s.size := by rw [ByteArray.size_append]; omega
  have q2b : ¬ 9223372036854775807 < (varT s.size).size + (fourB (sumOf s)).size + s.size := by omega
  cases hin : inB s.size 1 9000
  · go_enter Tryz.func173, Tryz.ntmps173
    go_wp2_with (go_at_call 48; refine (spec_in _ _ _ _).mono ?_; rintro e w' ⟨rfl, rfl⟩)
    refine bodyPost_ret (v := .tuple #[.string ⟨#[]⟩, .bool false]) (by simp [results, Tryz.results173, go_sem, *]) rfl ?_
    exact ⟨rfl, Below.refl _ _⟩
  · go_enter Tryz.func173, Tryz.ntmps173
    go_wp2_with (first | (go_at_call 48; refine (spec_in _ _ _ _).mono ?_; rintro e w' ⟨rfl, rfl⟩) | (go_at_call 109; refine (spec_l01Var s.size _ (by omega)).mono ?_; rintro e1 w1 ⟨rfl, hb1⟩) | (go_at_call 204; refine (spec_SumOf _ s hs).mono ?_; rintro e2 w2 ⟨rfl, rfl⟩) | (go_at_call 203; refine (spec_l02Four _ _ (sumOf_lt s)).mono ?_; rintro e3 w3 ⟨rfl, hb3⟩))
    refine bodyPost_ret (v := .tuple #[.string (frameT s), .bool true]) (by simp [results, Tryz.results173, go_sem, frameT, *]) rfl ?_
    exact ⟨rfl, hb1.trans (hb3.mono hb1.size)⟩
end Go.Proofs.YtlfnmbcnehaikaaGreatDoor

set_option linter.unusedVariables false
set_option linter.unusedSimpArgs false
namespace Go.Proofs.YtlfnmbcnehaikaaGreatDoor
open Go.RowKit Lay Mk
def pubIn (seed : ByteArray) (a : Int) : Bool := decide (seed.size ≤ 100) && inB a 0 15
def pubLocks (seed : ByteArray) (a : Int) : Nat → List ByteArray
  | 0 => []
  | j + 1 => pubLocks seed a j ++ [lockOf (secretOf seed a ((j / 2 : Nat) : Int) ((j % 2 : Nat) : Int))]
def publicOf (seed : ByteArray) (a : Int) : ByteArray := if pubIn seed a = true then tagHash 6 (pubLocks seed a 16) 16 else ⟨#[]⟩
def poolTo (seed : ByteArray) : Nat → List ByteArray
  | 0 => []
  | k + 1 => poolTo seed k ++ [publicOf seed (k : Int)]
def poolOf (seed : ByteArray) : List ByteArray := poolTo seed 16
theorem poolTo_len (seed : ByteArray) : ∀ k, (poolTo seed k).length = k
  | 0 => rfl
  | k + 1 => by unfold poolTo; rw [List.length_append, poolTo_len seed k]; rfl
theorem secretIn_eq (seed : ByteArray) (a : Int) {b v : Nat} (hb : b < 8) (hv : v < 2) : secretIn seed a b v = pubIn seed a := by
  have h1 : inB (b : Int) 0 7 = true := by unfold inB; simp; omega
  have h2 : inB (v : Int) 0 1 = true := by unfold inB; simp; omega
  unfold secretIn pubIn; rw [h1, h2]; simp
theorem secret_no {seed : ByteArray} {a : Int} {b v : Nat} (hb : b < 8) (hv : v < 2) (h : pubIn seed a = false) : secretOf seed a b v = ⟨#[]⟩ := by
  unfold secretOf; rw [secretIn_eq seed a hb hv, h]; rfl
theorem secret_yes {seed : ByteArray} {a : Int} {b v : Nat} (hb : b < 8) (hv : v < 2) (h : pubIn seed a = true) : (secretOf seed a b v).size = 16 := secretOf_size (by rw [secretIn_eq seed a hb hv, h])
theorem pubLocks_next (seed : ByteArray) (a : Int) {b v : Nat} (hv : v < 2) : pubLocks seed a (2 * b + v + 1) = pubLocks seed a (2 * b + v) ++ [lockOf (secretOf seed a b v)] := by
  rw [pubLocks, show (2 * b + v) / 2 = b by omega, show (2 * b + v) % 2 = v by omega]
theorem publicOf_le (seed : ByteArray) (a : Int) : (publicOf seed a).size ≤ 32 := by
  unfold publicOf; split
  · exact tagHash_le _ _ _
  · exact Nat.zero_le _
theorem str_nonempty {s : ByteArray} {n : Nat} (h : s.size = n + 1) : ¬ s.toList = [] := by
  intro e
  rw [ByteArray.toList_eq] at e
  have : s.data.toList.length = 0 := by rw [e]; rfl
  have h2 : s.data.toList.length = s.size := by simp
  omega
set_option maxRecDepth 20000 in set_option maxHeartbeats 4000000 in
theorem impl_LockOf (w : World) (s : ByteArray) (hs : s.size ≤ 200) (hT : Tabs w) : Calls Tryz.prog 134 #[.string s] w fun e w' => e = .returned (.string (lockOf s)) ∧ Below w.heap.size w w' := by
  go_enter Tryz.func134, Tryz.ntmps134
  go_wp2_with (fail)
  refine (impl_hashOf _ 6 (by unfold I64; omega) [s] _ _ _ (row_one w s (ml hs (by omega)) _) (by simp) 16 (by unfold I64; omega) (hT.later ((Below.refl _ _).alloc (Nat.le_refl _) _))).mono ?_
  rintro e5 w5 ⟨rfl, hb5⟩
  go_wp2
  go_ret
  exact ⟨rfl, Below.via hb5⟩
set_option maxRecDepth 20000 in set_option maxHeartbeats 8000000 in
theorem spec_PublicOf (w : World) (seed : ByteArray) (hs : seed.size ≤ maxLen) (a : Int) : Calls Tryz.prog 77 #[.string seed, .int .i64 a] w fun e w' => e = .returned (.string (publicOf seed a)) ∧ Below w.heap.size w w' := by
  have HFN : Hid (pubIn seed a = false → publicOf seed a = ⟨#[]⟩) := Lib.hid (fun h => by unfold publicOf; rw [h]; rfl)
  have HFY : Hid (pubIn seed a = true → publicOf seed a = tagHash 6 (pubLocks seed a 16) 16) := Lib.hid (fun h => by unfold publicOf; rw [if_pos h])
  go_enter Tryz.func77, Tryz.ntmps77
  go_wp2
  have HO := Lib.hid (Own.litAt (α := ByteArray) (Below.refl w.heap.size w) 9 rfl (b := w.heap.size) rfl)
  go_loopw [5,6] (fun u i wr => ∃ (b : Nat) (L : List ByteArray) (n : Nat) (A : Option Addr) (c : Nat), b ≤ 8 ∧ i = .int .i64 b ∧ u = .slice A n c ∧ Hid (n = L.length) ∧ Hid (L = pubLocks seed a (2 * b)) ∧ n ≤ 2 * b ∧ Hid (0 < b → pubIn seed a = true) ∧ Own w wr A c L) (fun _ i _ => 8 - (intOf i).toNat)
  case atStart => exact ⟨0, [], 0, some ⟨w.heap.size, 0, none⟩, 0, by omega, rfl, rfl, Lib.hid rfl, Lib.hid rfl, by simp, Lib.hid (fun h => absurd h (by omega)), HO.out⟩
  case round =>
    clear HO
    obtain ⟨b, L, n, A, c, hb8, rfl, rfl, HLn, HL, hLb, HP, hown⟩ := hrel
    by_cases hlt : b < 8
    · have HOW := Lib.hid hown
      have hltI : (b : Int) < 8 := by omega
      have HL0 := Lib.hid (show L = pubLocks seed a (2 * b + 0) from HL.out)
      have HP0 := Lib.hid (show 0 < 2 * b + 0 → pubIn seed a = true from fun h => HP.out (by omega))
      clear hown HL HP
      go_wp2_with (fail)
      go_loopw [5,7] (fun u i wr => ∃ (v : Nat) (L : List ByteArray) (n : Nat) (A : Option Addr) (c : Nat), v ≤ 2 ∧ i = .int .i64 v ∧ u = .slice A n c ∧ Hid (n = L.length) ∧ Hid (L = pubLocks seed a (2 * b + v)) ∧ n ≤ 2 * b + v ∧ Hid (0 < 2 * b + v → pubIn seed a = true) ∧ Own w wr A c L) (fun _ i _ => 2 - (intOf i).toNat)
      case atStart => exact ⟨0, L, n, A, c, by omega, rfl, rfl, HLn, HL0, by omega, HP0, HOW.out⟩
      case round =>
        clear HOW HL0 HP0 hLb HLn
        obtain ⟨v, L, n, A, c, hv2, rfl, rfl, HLn, HL, hLb, HP, hown⟩ := hrel
        have HOW := Lib.hid hown
        clear hown
        by_cases hlt2 : v < 2
        · have HN := Lib.hid (pubLocks_next seed a (b := b) hlt2)
          have HSN := Lib.hid (fun h => secret_no (seed := seed) (a := a) hlt hlt2 h)
          have HSY := Lib.hid (fun h => secret_yes (seed := seed) (a := a) hlt hlt2 h)
          have hC := spec_SecretOf
          have HCL := Lib.hid (fun W (h : Below w.heap.size w W) => spec_SecretOf W seed hs a b v)
          obtain ⟨s, hss⟩ : ∃ s, secretOf seed a b v = s := ⟨_, rfl⟩
          rw [hss] at HN HCL
          simp only [hss] at HSN HSY
          clear hss hC
          go_wp2_with (fail)
          refine (HCL.out _ HOW.out.bl).mono ?_
          rintro e5 w5 ⟨rfl, hb5⟩
          have HO5 := Lib.hid (HOW.out.later hb5)
          clear hb5
          cases hp : pubIn seed a
          · have hse := HSN.out hp
            have HE := Lib.hid (HFN.out hp)
            subst hse
            clear hp HSN HSY HN HCL
            go_wp2
            go_ret
            exact ⟨ret_str (by rw [HE.out]), HO5.out.bl⟩
          · have h16 := HSY.out hp
            have hne := str_nonempty h16
            have hne2 : (s.toList == ([] : List UInt8)) = false := beq_eq_false_iff_ne.2 hne
            have hne3 : (!s.toList.isEmpty) = true := by cases h : s.toList with
              | nil => exact absurd h hne
              | cons _ _ => rfl
            have HPT := Lib.hid hp
            have hlk := lockOf_size (s := s) (by omega)
            have HLK := Lib.hid (fun W (h : Below w.heap.size w W) => spec_LockOf W s (by omega))
            obtain ⟨lk, hlkk⟩ : ∃ lk, lockOf s = lk := ⟨_, rfl⟩
            rw [hlkk] at hlk HLK HN
            have hlm : lk.size ≤ maxLen := ml (Nat.le_of_eq hlk) (by omega)
            have HLKs := Lib.hid hlk
            clear hp HSN HSY hlkk h16 HCL hlk
            go_wp2_with (fail)
            refine (HLK.out _ HO5.out.bl).mono ?_
            rintro e6 w6 ⟨rfl, hb6⟩
            go_wp2_with (at_builtin; refine wpList_push (α := ByteArray) rfl _ _ rfl rfl HLn.out ((HO5.out.later hb6).alloc _) rfl rfl (src1 hlm rfl rfl) (by omega) ?_; intro A7 c7 w7 o7 z7)
            go_roundw
            case rel => first | exact ⟨v + 1, L ++ [lk], n + 1, A7, c7, by omega, by go_num, rfl, Lib.hid (by rw [List.length_append, HLn.out]; rfl), Lib.hid (by rw [show 2 * b + (v + 1) = 2 * b + v + 1 by omega, HN.out, HL.out]), by omega, Lib.hid (fun _ => HPT.out), o7⟩ | ((repeat apply Exists.intro); exact ⟨⟨v + 1, L ++ [lk], n + 1, A7, c7, by omega, by go_num, rfl, Lib.hid (by rw [List.length_append, HLn.out]; rfl), Lib.hid (by rw [show 2 * b + (v + 1) = 2 * b + v + 1 by omega, HN.out, HL.out]), by omega, Lib.hid (fun _ => HPT.out), o7⟩, rfl⟩)
            case measure => simp [intOf]; omega
        · have hve : v = 2 := by omega
          subst hve
          have HL2 : Hid (L = pubLocks seed a (2 * (b + 1))) := Lib.hid (by rw [HL.out]; congr 1)
          have HP2 : Hid (0 < b + 1 → pubIn seed a = true) := Lib.hid (fun _ => HP.out (by omega))
          go_wp2
          go_roundw
          case rel => first | exact ⟨b + 1, L, n, A, c, by omega, by go_num, rfl, HLn, HL2, by omega, HP2, HOW.out⟩ | ((repeat apply Exists.intro); exact ⟨⟨b + 1, L, n, A, c, by omega, by go_num, rfl, HLn, HL2, by omega, HP2, HOW.out⟩, rfl⟩)
          case measure => simp [intOf]; omega
    · have hbe : b = 8 := by omega
      subst hbe
      have hpt := HP.out (by omega)
      have HE : Hid (publicOf seed a = tagHash 6 L 16) := Lib.hid (by rw [HFY.out hpt, HL.out])
      have HOW := Lib.hid hown
      clear hpt hown
      go_wp2_with (fail)
      rw [HLn.out]
      have hLb2 : L.length ≤ 16 := by rw [← HLn.out]; omega
      refine (spec_TagHash _ 6 (by unfold I64; omega) L A c _ HOW.out.weak (by omega) 16 (by unfold I64; omega)).mono ?_
      rintro e5 w5 ⟨rfl, hb5⟩
      go_wp2
      go_ret
      exact ⟨ret_str (by rw [HE.out]), HOW.out.bl.trans (hb5.mono HOW.out.size)⟩
set_option maxRecDepth 20000 in set_option maxHeartbeats 8000000 in
theorem spec_PoolOf (w : World) (seed : ByteArray) (hs : seed.size ≤ maxLen) : Calls Tryz.prog 30 #[.string seed] w (OwnRes (poolOf seed) w) := by
  go_enter Tryz.func30, Tryz.ntmps30
  go_wp2
  have HO := Lib.hid (Own.litAt (α := ByteArray) (Below.refl w.heap.size w) 9 rfl (b := w.heap.size) rfl)
  go_loopw [3,4] (fun u i wr => ∃ (k : Nat) (L : List ByteArray) (A : Option Addr) (c : Nat), k ≤ 16 ∧ i = .int .i64 k ∧ u = .slice A L.length c ∧ Hid (L = poolTo seed k) ∧ L.length ≤ k ∧ Own w wr A c L) (fun _ i _ => 16 - (intOf i).toNat)
  case atStart => exact ⟨0, [], some ⟨w.heap.size, 0, none⟩, 0, by omega, rfl, rfl, Lib.hid rfl, by simp, HO.out⟩
  case round =>
    clear HO
    obtain ⟨k, L, A, c, hk, rfl, rfl, HL, hLk, hown⟩ := hrel
    have HOW := Lib.hid hown
    clear hown
    by_cases hlt : k < 16
    · have HN : Hid (poolTo seed (k + 1) = L ++ [publicOf seed (k : Int)]) := Lib.hid (by rw [poolTo, HL.out])
      have HCL := Lib.hid (fun W (h : Below w.heap.size w W) => spec_PublicOf W seed hs (k : Int))
      have hpm : (publicOf seed (k : Int)).size ≤ maxLen := ml (publicOf_le seed k) (by omega)
      obtain ⟨p, hp⟩ : ∃ p, publicOf seed (k : Int) = p := ⟨_, rfl⟩
      rw [hp] at HN HCL hpm
      clear hp
      go_wp2_with (fail)
      refine (HCL.out _ HOW.out.bl).mono ?_
      rintro e6 w6 ⟨rfl, hb6⟩
      go_wp2_with (at_builtin; refine wpList_push (α := ByteArray) rfl _ _ rfl rfl rfl ((HOW.out.later hb6).alloc _) rfl rfl (src1 hpm rfl rfl) (by omega) ?_; intro A7 c7 w7 o7 z7)
      go_roundw
      case rel => first | exact ⟨k + 1, L ++ [p], A7, c7, by omega, by go_num, by simp, Lib.hid HN.out.symm, by simp; omega, o7⟩ | ((repeat apply Exists.intro); exact ⟨⟨k + 1, L ++ [p], A7, c7, by omega, by go_num, by simp, Lib.hid HN.out.symm, by simp; omega, o7⟩, rfl⟩)
      case measure => simp [intOf]; omega
    · have hke : k = 16 := by omega
      subst hke
      have HE : Hid (poolOf seed = L) := Lib.hid (by rw [HL.out]; rfl)
      go_wp2
      go_ret
      exact OwnRes.mk HOW.out HE.out rfl
set_option maxRecDepth 20000 in set_option maxHeartbeats 8000000 in
theorem impl_PublicOf (w : World) (seed : ByteArray) (hs : seed.size ≤ maxLen) (a : Int) (hT : Tabs w) : Calls Tryz.prog 84 #[.string seed, .int .i64 a] w fun e w' => e = .returned (.string (publicOf seed a)) ∧ Below w.heap.size w w' := by
  have HT := Lib.hid hT
  clear hT
  have HFN : Hid (pubIn seed a = false → publicOf seed a = ⟨#[]⟩) := Lib.hid (fun h => by unfold publicOf; rw [h]; rfl)
  have HFY : Hid (pubIn seed a = true → publicOf seed a = tagHash 6 (pubLocks seed a 16) 16) := Lib.hid (fun h => by unfold publicOf; rw [if_pos h])
  go_enter Tryz.func84, Tryz.ntmps84
  go_wp2
  have HO := Lib.hid (Own.start (α := ByteArray) (Below.refl w.heap.size w))
  go_loopw [5,9] (fun u i wr => ∃ (b : Nat) (L : List ByteArray) (n : Nat) (A : Option Addr) (c : Nat), b ≤ 8 ∧ i = .int .i64 b ∧ u = .slice A n c ∧ Hid (n = L.length) ∧ Hid (L = pubLocks seed a (2 * b)) ∧ n ≤ 2 * b ∧ Hid (0 < b → pubIn seed a = true) ∧ Own w wr A c L) (fun _ i _ => 8 - (intOf i).toNat)
  case atStart => exact ⟨0, [], 0, none, 0, by omega, rfl, rfl, Lib.hid rfl, Lib.hid rfl, by simp, Lib.hid (fun h => absurd h (by omega)), HO.out⟩
  case round =>
    clear HO
    obtain ⟨b, L, n, A, c, hb8, rfl, rfl, HLn, HL, hLb, HP, hown⟩ := hrel
    by_cases hlt : b < 8
    · have HOW := Lib.hid hown
      have hltI : (b : Int) < 8 := by omega
      have HL0 := Lib.hid (show L = pubLocks seed a (2 * b + 0) from HL.out)
      have HP0 := Lib.hid (show 0 < 2 * b + 0 → pubIn seed a = true from fun h => HP.out (by omega))
      clear hown HL HP
      go_wp2_with (fail)
      go_loopw [5,12] (fun u i wr => ∃ (v : Nat) (L : List ByteArray) (n : Nat) (A : Option Addr) (c : Nat), v ≤ 2 ∧ i = .int .i64 v ∧ u = .slice A n c ∧ Hid (n = L.length) ∧ Hid (L = pubLocks seed a (2 * b + v)) ∧ n ≤ 2 * b + v ∧ Hid (0 < 2 * b + v → pubIn seed a = true) ∧ Own w wr A c L) (fun _ i _ => 2 - (intOf i).toNat)
      case atStart => exact ⟨0, L, n, A, c, by omega, rfl, rfl, HLn, HL0, by omega, HP0, HOW.out⟩
      case round =>
        clear HOW HL0 HP0 hLb HLn
        obtain ⟨v, L, n, A, c, hv2, rfl, rfl, HLn, HL, hLb, HP, hown⟩ := hrel
        have HOW := Lib.hid hown
        clear hown
        by_cases hlt2 : v < 2
        · have HN := Lib.hid (pubLocks_next seed a (b := b) hlt2)
          have HSN := Lib.hid (fun h => secret_no (seed := seed) (a := a) hlt hlt2 h)
          have HSY := Lib.hid (fun h => secret_yes (seed := seed) (a := a) hlt hlt2 h)
          have hC := impl_SecretOf
          have HCL := Lib.hid (fun W (h : Below w.heap.size w W) => impl_SecretOf W seed hs a b v (HT.out.later h))
          obtain ⟨s, hss⟩ : ∃ s, secretOf seed a b v = s := ⟨_, rfl⟩
          rw [hss] at HN HCL
          simp only [hss] at HSN HSY
          clear hss hC
          go_wp2_with (fail)
          refine (HCL.out _ HOW.out.bl).mono ?_
          rintro e5 w5 ⟨rfl, hb5⟩
          have HO5 := Lib.hid (HOW.out.later hb5)
          clear hb5
          cases hp : pubIn seed a
          · have hse := HSN.out hp
            have HE := Lib.hid (HFN.out hp)
            subst hse
            clear hp HSN HSY HN HCL
            go_wp2
            go_ret
            exact ⟨ret_str (by rw [HE.out]), HO5.out.bl⟩
          · have h16 := HSY.out hp
            have hne := str_nonempty h16
            have hne2 : (s.toList == ([] : List UInt8)) = false := beq_eq_false_iff_ne.2 hne
            have hne3 : (!s.toList.isEmpty) = true := by cases h : s.toList with
              | nil => exact absurd h hne
              | cons _ _ => rfl
            have HPT := Lib.hid hp
            have hlk := lockOf_size (s := s) (by omega)
            have HLK := Lib.hid (fun W (h : Below w.heap.size w W) => impl_LockOf W s (by omega) (HT.out.later h))
            obtain ⟨lk, hlkk⟩ : ∃ lk, lockOf s = lk := ⟨_, rfl⟩
            rw [hlkk] at hlk HLK HN
            have hlm : lk.size ≤ maxLen := ml (Nat.le_of_eq hlk) (by omega)
            have HLKs := Lib.hid hlk
            clear hp HSN HSY hlkk h16 HCL hlk
            go_wp2_with (fail)
            refine (HLK.out _ HO5.out.bl).mono ?_
            rintro e6 w6 ⟨rfl, hb6⟩
            go_wp2_with (at_builtin; refine wpList_push (α := ByteArray) rfl _ _ rfl rfl HLn.out ((HO5.out.later hb6).alloc _) rfl rfl (src1 hlm rfl rfl) (by omega) ?_; intro A7 c7 w7 o7 z7)
            go_roundw
            case rel => first | exact ⟨v + 1, L ++ [lk], n + 1, A7, c7, by omega, by go_num, rfl, Lib.hid (by rw [List.length_append, HLn.out]; rfl), Lib.hid (by rw [show 2 * b + (v + 1) = 2 * b + v + 1 by omega, HN.out, HL.out]), by omega, Lib.hid (fun _ => HPT.out), o7⟩ | ((repeat apply Exists.intro); exact ⟨⟨v + 1, L ++ [lk], n + 1, A7, c7, by omega, by go_num, rfl, Lib.hid (by rw [List.length_append, HLn.out]; rfl), Lib.hid (by rw [show 2 * b + (v + 1) = 2 * b + v + 1 by omega, HN.out, HL.out]), by omega, Lib.hid (fun _ => HPT.out), o7⟩, rfl⟩)
            case measure => simp [intOf]; omega
        · have hve : v = 2 := by omega
          subst hve
          have HL2 : Hid (L = pubLocks seed a (2 * (b + 1))) := Lib.hid (by rw [HL.out]; congr 1)
          have HP2 : Hid (0 < b + 1 → pubIn seed a = true) := Lib.hid (fun _ => HP.out (by omega))
          go_wp2
          go_roundw
          case rel => first | exact ⟨b + 1, L, n, A, c, by omega, by go_num, rfl, HLn, HL2, by omega, HP2, HOW.out⟩ | ((repeat apply Exists.intro); exact ⟨⟨b + 1, L, n, A, c, by omega, by go_num, rfl, HLn, HL2, by omega, HP2, HOW.out⟩, rfl⟩)
          case measure => simp [intOf]; omega
    · have hbe : b = 8 := by omega
      subst hbe
      have hpt := HP.out (by omega)
      have HE : Hid (publicOf seed a = tagHash 6 L 16) := Lib.hid (by rw [HFY.out hpt, HL.out])
      have HOW := Lib.hid hown
      clear hpt hown
      go_wp2_with (fail)
      rw [HLn.out]
      have hLb2 : L.length ≤ 16 := by rw [← HLn.out]; omega
      refine (impl_TagHash _ 6 (by unfold I64; omega) L A c _ HOW.out.weak (by omega) 16 (by unfold I64; omega) (HT.out.later HOW.out.bl)).mono ?_
      rintro e5 w5 ⟨rfl, hb5⟩
      go_wp2
      go_ret
      exact ⟨ret_str (by rw [HE.out]), HOW.out.bl.trans (hb5.mono HOW.out.size)⟩
set_option maxRecDepth 20000 in set_option maxHeartbeats 8000000 in
theorem impl_PoolOf (w : World) (seed : ByteArray) (hs : seed.size ≤ maxLen) (hT : Tabs w) : Calls Tryz.prog 34 #[.string seed] w (OwnRes (poolOf seed) w) := by
  have HT := Lib.hid hT
  clear hT
  go_enter Tryz.func34, Tryz.ntmps34
  go_wp2
  have HO := Lib.hid (Own.start (α := ByteArray) (Below.refl w.heap.size w))
  go_loopw [3,5] (fun u i wr => ∃ (k : Nat) (L : List ByteArray) (A : Option Addr) (c : Nat), k ≤ 16 ∧ i = .int .i64 k ∧ u = .slice A L.length c ∧ Hid (L = poolTo seed k) ∧ L.length ≤ k ∧ Own w wr A c L) (fun _ i _ => 16 - (intOf i).toNat)
  case atStart => exact ⟨0, [], none, 0, by omega, rfl, rfl, Lib.hid rfl, by simp, HO.out⟩
  case round =>
    clear HO
    obtain ⟨k, L, A, c, hk, rfl, rfl, HL, hLk, hown⟩ := hrel
    have HOW := Lib.hid hown
    clear hown
    by_cases hlt : k < 16
    · have HN : Hid (poolTo seed (k + 1) = L ++ [publicOf seed (k : Int)]) := Lib.hid (by rw [poolTo, HL.out])
      have HCL := Lib.hid (fun W (h : Below w.heap.size w W) => impl_PublicOf W seed hs (k : Int) (HT.out.later h))
      have hpm : (publicOf seed (k : Int)).size ≤ maxLen := ml (publicOf_le seed k) (by omega)
      obtain ⟨p, hp⟩ : ∃ p, publicOf seed (k : Int) = p := ⟨_, rfl⟩
      rw [hp] at HN HCL hpm
      clear hp
      go_wp2_with (fail)
      refine (HCL.out _ HOW.out.bl).mono ?_
      rintro e6 w6 ⟨rfl, hb6⟩
      go_wp2_with (at_builtin; refine wpList_push (α := ByteArray) rfl _ _ rfl rfl rfl ((HOW.out.later hb6).alloc _) rfl rfl (src1 hpm rfl rfl) (by omega) ?_; intro A7 c7 w7 o7 z7)
      go_roundw
      case rel => first | exact ⟨k + 1, L ++ [p], A7, c7, by omega, by go_num, by simp, Lib.hid HN.out.symm, by simp; omega, o7⟩ | ((repeat apply Exists.intro); exact ⟨⟨k + 1, L ++ [p], A7, c7, by omega, by go_num, by simp, Lib.hid HN.out.symm, by simp; omega, o7⟩, rfl⟩)
      case measure => simp [intOf]; omega
    · have hke : k = 16 := by omega
      subst hke
      have HE : Hid (poolOf seed = L) := Lib.hid (by rw [HL.out]; rfl)
      go_wp2
      go_ret
      exact OwnRes.mk HOW.out HE.out rfl
end Go.Proofs.YtlfnmbcnehaikaaGreatDoor

set_option linter.unusedVariables false
set_option linter.unusedSimpArgs false
namespace Go.Proofs.YtlfnmbcnehaikaaGreatDoor
open Go.RowKit Lay Mk
theorem impl_fname (s : ByteArray) (w : World) : Calls Tryz.prog 177 #[.string s] w fun e w' => e = .returned (.bool (inB s.size 1 8)) ∧ w = w' := by
  go_enter Tryz.func177, Tryz.ntmps177
  go_wp2_with (go_at_call 62; refine (impl_in _ _ _ _).mono ?_; rintro e w' ⟨rfl, rfl⟩)
  go_ret
  exact ⟨rfl, rfl⟩
theorem spec_fname (s : ByteArray) (w : World) : Calls Tryz.prog 170 #[.string s] w fun e w' => e = .returned (.bool (inB s.size 1 8)) ∧ w = w' := by
  go_enter Tryz.func170, Tryz.ntmps170
  go_wp2_with (go_at_call 48; refine (spec_in _ _ _ _).mono ?_; rintro e w' ⟨rfl, rfl⟩)
  go_ret
  exact ⟨rfl, rfl⟩
set_option maxRecDepth 20000 in set_option maxHeartbeats 8000000 in
theorem impl_DiskOk (w : World) (xs : List File) (A : Option Addr) (cap : Nat) (S : Blks) (hx : Row false w A cap xs S) (hl : xs.length ≤ 4000000000) : Calls Tryz.prog 130 #[.agg #[.slice A xs.length cap]] w fun e w' => e = .returned (.bool (diskOk xs)) ∧ Below w.heap.size w w' := by
  go_enter Tryz.func130, Tryz.ntmps130
  go_wp2_with (fail)
  obtain ⟨W, hW⟩ : ∃ W, w.alloc (.cells #[.slice A xs.length cap] 28) = W := ⟨_, rfl⟩
  have hWf : Below w.heap.size w W ∧ W.heap.size = w.heap.size + 1 ∧ W.cell? ⟨w.heap.size, 0, none⟩ = some (.slice A xs.length cap) := by
    rw [← hW]
    exact ⟨(Below.refl _ _).alloc (Nat.le_refl _) _, by simp, box_cell _ _ _ _ _ rfl⟩
  rw [hW]
  clear hW
  obtain ⟨bW, sW, cW⟩ := hWf
  have hxW := Row.later hx bW
  clear hx
  go_loopw [8] (fun i wr => ∃ k : Nat, k ≤ xs.length ∧ i = .int .i64 k ∧ Hid (∀ j, j < k → fileP xs j = true) ∧ Below W.heap.size W wr) (fun i _ => xs.length - (intOf i).toNat)
  case atStart => exact ⟨0, Nat.zero_le _, rfl, Lib.hid upto_zero, Below.refl _ _⟩
  case round =>
    obtain ⟨k, hk, rfl, hall, hb⟩ := hrel
    have hz := hb.size
    have c0 := (hb.cell (p := ⟨w.heap.size, 0, none⟩) (by show w.heap.size < _; omega)).trans cW
    by_cases hlt : k < xs.length
    · obtain ⟨b1, o1, rfl, hl1, f0, f1, f2, s0, s1, i2⟩ := Row.atFile hxW hlt
      replace f0 := (hb.cell (p := ⟨b1, o1 + k * 3, none⟩) hl1).trans f0
      replace f1 := (hb.cell (p := ⟨b1, o1 + k * 3 + 1, none⟩) hl1).trans f1
      replace f2 := (hb.cell (p := ⟨b1, o1 + k * 3 + 2, none⟩) hl1).trans f2
      have hl2 : b1 < wr.heap.size := by omega
      have hlw : w.heap.size < wr.heap.size := by omega
      have HP := Lib.hid (fileP_at hlt)
      have HB := Lib.hid (diskOk_bad hlt)
      have HN := Lib.hid (upto_succ (p := fileP xs) hall.out)
      obtain ⟨x, hxx⟩ : ∃ x, xs[k] = x := ⟨_, rfl⟩
      rw [hxx] at f0 f1 f2 s0 s1 i2 HP
      have HX := Lib.hid hxx; clear hxx
      have HFT : Hid (fileFits x = (inB x.name.size 1 8 && decide (x.text.size ≤ 20000) && inB x.kept 0 x.text.size)) := Lib.hid rfl
      have hBl : Below W.heap.size W (wr.alloc (.cells #[.string x.name, .string x.text, .int .i64 x.kept] 102)) := hb.alloc hz _
      cases hn : inB x.name.size 1 8
      · have HF : Hid (diskOk xs = false) := Lib.hid (HB.out (by rw [HP.out, HFT.out, hn]; first | rfl | simp))
        go_wp2
        go_quiet ((first | (go_at_call 177; exact quiet_w (impl_fname _ _)) | (go_at_call 62; exact quiet_w (impl_in _ _ _ _))))
        go_wp2
        go_ret
        exact ⟨ret_bool (by rw [HF.out]), bW.trans ((Below.drewN hBl _).mono bW.size)⟩
      by_cases hv : x.text.size ≤ 20000
      rotate_left
      · have dv : decide ((20000 : Int) < (x.text.size : Int)) = true := by rw [decide_eq_true_iff]; omega
        have dv2 : decide (x.text.size ≤ 20000) = false := by rw [decide_eq_false_iff_not]; omega
        have HF : Hid (diskOk xs = false) := Lib.hid (HB.out (by rw [HP.out, HFT.out, hn, dv2]; first | rfl | simp))
        go_wp2
        go_quiet ((first | (go_at_call 177; exact quiet_w (impl_fname _ _)) | (go_at_call 62; exact quiet_w (impl_in _ _ _ _))))
        go_wp2
        go_ret
        exact ⟨ret_bool (by rw [HF.out]), bW.trans ((Below.drewN hBl _).mono bW.size)⟩
      have dv : decide ((20000 : Int) < (x.text.size : Int)) = false := by rw [decide_eq_false_iff_not]; omega
      have dv2 : decide (x.text.size ≤ 20000) = true := by rw [decide_eq_true_iff]; omega
      have HV := Lib.hid dv2; clear dv2
      cases hq : inB x.kept 0 x.text.size
      · have HF : Hid (diskOk xs = false) := Lib.hid (HB.out (by rw [HP.out, HFT.out, hn, HV.out, hq]; first | rfl | simp))
        go_wp2
        go_quiet ((first | (go_at_call 177; exact quiet_w (impl_fname _ _)) | (go_at_call 62; exact quiet_w (impl_in _ _ _ _))))
        go_wp2
        go_ret
        exact ⟨ret_bool (by rw [HF.out]), bW.trans ((Below.drewN hBl _).mono bW.size)⟩
      rcases Nat.eq_zero_or_pos k with h0 | h0
      · subst h0
        simp only [Nat.zero_mul, Nat.add_zero] at f0 f1 f2
        have d0 : decide ((0 : Int) < ((0 : Nat) : Int)) = false := rfl
        have d1 : decide ((0 : Int) < 0) = false := rfl
        have HF : Hid (∀ q, q < 0 + 1 → fileP xs q = true) := Lib.hid (by exact HN.out (by rw [HP.out, HFT.out, hn, HV.out, hq]; rfl))
        go_wp2
        go_quiet ((first | (go_at_call 177; exact quiet_w (impl_fname _ _)) | (go_at_call 62; exact quiet_w (impl_in _ _ _ _))))
        go_wp2
        go_roundw
        case rel => exact ⟨0 + 1, by omega, by go_num, HF, Below.drewN hBl _⟩
        case measure => simp [intOf]; omega
      obtain ⟨j, rfl⟩ : ∃ j, k = j + 1 := ⟨k - 1, by omega⟩
      have HPL := Lib.hid (prevFile_succ hlt x)
      obtain ⟨b3, o3, e3, _, g0, _, _, t0, _, _⟩   := Row.atFile hxW (show j < xs.length by omega)
      injection e3 with e3
      injection e3 with e3 e4
      subst e3; subst e4
      replace g0 := (hb.cell (p := ⟨b1, o1 + j * 3, none⟩) hl1).trans g0
      obtain ⟨y, hyy⟩ : ∃ y, xs[j].name = y := ⟨_, rfl⟩
      rw [hyy] at g0 HPL
      have HY := Lib.hid hyy; clear hyy t0
      have d2 : decide ((0 : Int) < (j : Int) + 1) = true := by rw [decide_eq_true_eq]; omega
      cases hp : Op.bytesLess y.toList x.name.toList
      · have HF : Hid (diskOk xs = false) := Lib.hid (HB.out (by rw [HP.out, HFT.out, hn, HV.out, hq, HPL.out, show fLess y x.name = false from hp]; first | rfl | simp))
        go_wp2
        go_quiet ((first | (go_at_call 177; exact quiet_w (impl_fname _ _)) | (go_at_call 62; exact quiet_w (impl_in _ _ _ _))))
        go_wp2
        go_ret
        exact ⟨ret_bool (by rw [HF.out]), bW.trans ((Below.drewN hBl _).mono bW.size)⟩
      · have HF : Hid (∀ q, q < j + 1 + 1 → fileP xs q = true) := Lib.hid (by exact HN.out (by rw [HP.out, HFT.out, hn, HV.out, hq, HPL.out, show fLess y x.name = true from hp]; rfl))
        go_wp2
        go_quiet ((first | (go_at_call 177; exact quiet_w (impl_fname _ _)) | (go_at_call 62; exact quiet_w (impl_in _ _ _ _))))
        go_wp2
        go_roundw
        case rel => exact ⟨j + 1 + 1, by omega, by go_num, HF, Below.drewN hBl _⟩
        case measure => simp [intOf]; omega
    · have hke : k = xs.length := by omega
      subst hke
      have HE := Lib.hid (diskOk_end hall.out)
      go_wp2_with (fail)
      go_ret
      exact ⟨ret_bool (by rw [HE.out]; first | rfl | (congr 1; simp; done) | (apply decide_eq_decide.2; omega)), bW.trans (hb.mono bW.size)⟩
set_option maxRecDepth 20000 in set_option maxHeartbeats 8000000 in
theorem spec_DiskOk (w : World) (xs : List File) (A : Option Addr) (cap : Nat) (S : Blks) (hx : Row false w A cap xs S) (hl : xs.length ≤ 4000000000) : Calls Tryz.prog 121 #[.agg #[.slice A xs.length cap]] w fun e w' => e = .returned (.bool (diskOk xs)) ∧ Below w.heap.size w w' := by
  by_cases hlen : xs.length ≤ 30
  rotate_left
  · have HL := Lib.hid (diskOk_long (xs := xs) (by omega))
    have d30 : decide ((30 : Int) < (xs.length : Int)) = true := by rw [decide_eq_true_iff]; omega
    go_enter Tryz.func121, Tryz.ntmps121
    go_wp2_with (fail)
    go_ret
    exact ⟨ret_bool (by rw [HL.out]), (Below.refl _ _).alloc (Nat.le_refl _) _⟩
  have d30 : decide ((30 : Int) < (xs.length : Int)) = false := by rw [decide_eq_false_iff_not]; omega
  go_enter Tryz.func121, Tryz.ntmps121
  go_wp2_with (fail)
  obtain ⟨W, hW⟩ : ∃ W, w.alloc (.cells #[.slice A xs.length cap] 28) = W := ⟨_, rfl⟩
  have hWf : Below w.heap.size w W ∧ W.heap.size = w.heap.size + 1 ∧ W.cell? ⟨w.heap.size, 0, none⟩ = some (.slice A xs.length cap) := by
    rw [← hW]
    exact ⟨(Below.refl _ _).alloc (Nat.le_refl _) _, by simp, box_cell _ _ _ _ _ rfl⟩
  rw [hW]
  clear hW
  obtain ⟨bW, sW, cW⟩ := hWf
  have hxW := Row.later hx bW
  clear hx
  go_loopw [3] (fun i wr => ∃ k : Nat, k ≤ xs.length ∧ i = .int .i64 k ∧ Hid (∀ j, j < k → fileP xs j = true) ∧ Below W.heap.size W wr) (fun i _ => xs.length - (intOf i).toNat)
  case atStart => exact ⟨0, Nat.zero_le _, rfl, Lib.hid upto_zero, Below.refl _ _⟩
  case round =>
    obtain ⟨k, hk, rfl, hall, hb⟩ := hrel
    have hz := hb.size
    have c0 := (hb.cell (p := ⟨w.heap.size, 0, none⟩) (by show w.heap.size < _; omega)).trans cW
    by_cases hlt : k < xs.length
    · obtain ⟨b1, o1, rfl, hl1, f0, f1, f2, s0, s1, i2⟩ := Row.atFile hxW hlt
      replace f0 := (hb.cell (p := ⟨b1, o1 + k * 3, none⟩) hl1).trans f0
      replace f1 := (hb.cell (p := ⟨b1, o1 + k * 3 + 1, none⟩) hl1).trans f1
      replace f2 := (hb.cell (p := ⟨b1, o1 + k * 3 + 2, none⟩) hl1).trans f2
      have hl2 : b1 < wr.heap.size := by omega
      have hlw : w.heap.size < wr.heap.size := by omega
      have HP := Lib.hid (fileP_at hlt)
      have HB := Lib.hid (diskOk_bad hlt)
      have HN := Lib.hid (upto_succ (p := fileP xs) hall.out)
      obtain ⟨x, hxx⟩ : ∃ x, xs[k] = x := ⟨_, rfl⟩
      rw [hxx] at f0 f1 f2 s0 s1 i2 HP
      have HX := Lib.hid hxx; clear hxx
      have HFT : Hid (fileFits x = (inB x.name.size 1 8 && decide (x.text.size ≤ 20000) && inB x.kept 0 x.text.size)) := Lib.hid rfl
      have hBl : Below W.heap.size W (wr.alloc (.cells #[.string x.name, .string x.text, .int .i64 x.kept] 102)) := hb.alloc hz _
      cases hn : inB x.name.size 1 8
      · have HF : Hid (diskOk xs = false) := Lib.hid (HB.out (by rw [HP.out, HFT.out, hn]; first | rfl | simp))
        go_wp2
        go_quiet ((first | (go_at_call 170; exact quiet_w (spec_fname _ _)) | (go_at_call 48; exact quiet_w (spec_in _ _ _ _))))
        go_wp2
        go_ret
        exact ⟨ret_bool (by rw [HF.out]), bW.trans ((Below.drewN hBl _).mono bW.size)⟩
      by_cases hv : x.text.size ≤ 20000
      rotate_left
      · have dv : decide ((20000 : Int) < (x.text.size : Int)) = true := by rw [decide_eq_true_iff]; omega
        have dv2 : decide (x.text.size ≤ 20000) = false := by rw [decide_eq_false_iff_not]; omega
        have HF : Hid (diskOk xs = false) := Lib.hid (HB.out (by rw [HP.out, HFT.out, hn, dv2]; first | rfl | simp))
        go_wp2
        go_quiet ((first | (go_at_call 170; exact quiet_w (spec_fname _ _)) | (go_at_call 48; exact quiet_w (spec_in _ _ _ _))))
        go_wp2
        go_ret
        exact ⟨ret_bool (by rw [HF.out]), bW.trans ((Below.drewN hBl _).mono bW.size)⟩
      have dv : decide ((20000 : Int) < (x.text.size : Int)) = false := by rw [decide_eq_false_iff_not]; omega
      have dv2 : decide (x.text.size ≤ 20000) = true := by rw [decide_eq_true_iff]; omega
      have HV := Lib.hid dv2; clear dv2
      cases hq : inB x.kept 0 x.text.size
      · have HF : Hid (diskOk xs = false) := Lib.hid (HB.out (by rw [HP.out, HFT.out, hn, HV.out, hq]; first | rfl | simp))
        go_wp2
        go_quiet ((first | (go_at_call 170; exact quiet_w (spec_fname _ _)) | (go_at_call 48; exact quiet_w (spec_in _ _ _ _))))
        go_wp2
        go_ret
        exact ⟨ret_bool (by rw [HF.out]), bW.trans ((Below.drewN hBl _).mono bW.size)⟩
      rcases Nat.eq_zero_or_pos k with h0 | h0
      · subst h0
        simp only [Nat.zero_mul, Nat.add_zero] at f0 f1 f2
        have d0 : decide ((0 : Int) < ((0 : Nat) : Int)) = false := rfl
        have d1 : decide ((0 : Int) < 0) = false := rfl
        have HF : Hid (∀ q, q < 0 + 1 → fileP xs q = true) := Lib.hid (by exact HN.out (by rw [HP.out, HFT.out, hn, HV.out, hq]; rfl))
        go_wp2
        go_quiet ((first | (go_at_call 170; exact quiet_w (spec_fname _ _)) | (go_at_call 48; exact quiet_w (spec_in _ _ _ _))))
        go_wp2
        go_roundw
        case rel => exact ⟨0 + 1, by omega, by go_num, HF, Below.drewN hBl _⟩
        case measure => simp [intOf]; omega
      obtain ⟨j, rfl⟩ : ∃ j, k = j + 1 := ⟨k - 1, by omega⟩
      have HPL := Lib.hid (prevFile_succ hlt x)
      obtain ⟨b3, o3, e3, _, g0, _, _, t0, _, _⟩   := Row.atFile hxW (show j < xs.length by omega)
      injection e3 with e3
      injection e3 with e3 e4
      subst e3; subst e4
      replace g0 := (hb.cell (p := ⟨b1, o1 + j * 3, none⟩) hl1).trans g0
      obtain ⟨y, hyy⟩ : ∃ y, xs[j].name = y := ⟨_, rfl⟩
      rw [hyy] at g0 HPL
      have HY := Lib.hid hyy; clear hyy t0
      have d2 : decide ((0 : Int) < (j : Int) + 1) = true := by rw [decide_eq_true_eq]; omega
      cases hp : Op.bytesLess y.toList x.name.toList
      · have HF : Hid (diskOk xs = false) := Lib.hid (HB.out (by rw [HP.out, HFT.out, hn, HV.out, hq, HPL.out, show fLess y x.name = false from hp]; first | rfl | simp))
        go_wp2
        go_quiet ((first | (go_at_call 170; exact quiet_w (spec_fname _ _)) | (go_at_call 48; exact quiet_w (spec_in _ _ _ _))))
        go_wp2
        go_ret
        exact ⟨ret_bool (by rw [HF.out]), bW.trans ((Below.drewN hBl _).mono bW.size)⟩
      · have HF : Hid (∀ q, q < j + 1 + 1 → fileP xs q = true) := Lib.hid (by exact HN.out (by rw [HP.out, HFT.out, hn, HV.out, hq, HPL.out, show fLess y x.name = true from hp]; rfl))
        go_wp2
        go_quiet ((first | (go_at_call 170; exact quiet_w (spec_fname _ _)) | (go_at_call 48; exact quiet_w (spec_in _ _ _ _))))
        go_wp2
        go_roundw
        case rel => exact ⟨j + 1 + 1, by omega, by go_num, HF, Below.drewN hBl _⟩
        case measure => simp [intOf]; omega
    · have hke : k = xs.length := by omega
      subst hke
      have HE := Lib.hid (diskOk_end hall.out)
      have HD := Lib.hid (decide_eq_true hlen)
      go_wp2_with (fail)
      go_ret
      exact ⟨ret_bool (by rw [HE.out, HD.out]), bW.trans (hb.mono bW.size)⟩
end Go.Proofs.YtlfnmbcnehaikaaGreatDoor
