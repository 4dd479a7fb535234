/- Walks: the messages that the coordinator sends again. -/
import Derived.Test.YtbnfkpbaaoknmaaFd
set_option linter.unusedVariables false
set_option linter.unusedSimpArgs false
namespace Go.Proofs.Ytbnfkpbaaoknmaa
open Go.RowKit Lay Mk
def shardsOf (p : Nat → Bool) (mk : Nat → Letter) : Nat → List Letter
  | 0 => []
  | n + 1 => shardsOf p mk n ++ (if p n then [mk n] else [])
theorem shardsOf_yes {p : Nat → Bool} {mk : Nat → Letter} {n : Nat} (h : p n = true) : shardsOf p mk (n + 1) = shardsOf p mk n ++ [mk n] := by simp [shardsOf, h]
theorem shardsOf_no {p : Nat → Bool} {mk : Nat → Letter} {n : Nat} (h : p n = false) : shardsOf p mk (n + 1) = shardsOf p mk n := by simp [shardsOf, h]
theorem shardsOf_len (p : Nat → Bool) (mk : Nat → Letter) : ∀ n, (shardsOf p mk n).length ≤ n
  | 0 => by simp [shardsOf]
  | n + 1 => by
    have := shardsOf_len p mk n
    unfold shardsOf
    split
    · simp; omega
    · simp; omega
theorem isE_dec (a : ByteArray) : a.toList.isEmpty = decide (a = ⟨#[]⟩) := by
  by_cases h : a = ⟨#[]⟩
  · subst h; rw [ByteArray.toList_eq]; rfl
  · rw [decide_eq_false h]
    cases hv : a.toList with
    | nil => exact absurd (toList_inj (a := a) (b := ⟨#[]⟩) (by rw [hv, ByteArray.toList_eq])) h
    | cons _ _ => rfl
def tickL (kind epoch try_ : Int) (i : Nat) : Letter := ⟨kind, 0, (i : Int) + 1, epoch, try_, ⟨#[]⟩⟩
theorem tickL_ok {kind epoch try_ : Int} (h1 : I64 kind) (h2 : I64 epoch) (h3 : I64 try_) {i : Nat} (hi : i < 1048576) : Flat.ok (tickL kind epoch try_ i) :=
  (⟨h1, by unfold I64; omega, by unfold I64; simp only [tickL]; omega, h2, h3, by decide⟩ : I64 kind ∧ I64 0 ∧ I64 (tickL kind epoch try_ i).to ∧ I64 epoch ∧ I64 try_ ∧ (⟨#[]⟩ : ByteArray).size ≤ maxLen)
theorem cnL_letter : ∀ xs : List Letter, cnL xs = 6 * xs.length
  | [] => rfl
  | x :: xs => by have := cnL_letter xs; simp only [cnL, List.map_cons, List.sum_cons, List.length_cons] at *; show 6 + _ = _; omega

set_option maxRecDepth 20000 in set_option maxHeartbeats 8000000 in
theorem impl_toShards1 (w : World) (kind epoch try_ : Int) (n : Nat) (hk : I64 kind) (he : I64 epoch) (ht : I64 try_) (hn : n ≤ 1048576) (p : Nat → Bool) (c : Value)
    (hc : ∀ (w' : World) (i : Nat), Below w.heap.size w w' → i < n → Calls Try.prog 104 #[.int .i64 i, c] w' fun e w'' => e = .returned (.bool (p i)) ∧ Below w'.heap.size w' w'') :
    Calls Try.prog 103 #[.int .i64 kind, .int .i64 n, .int .i64 epoch, .int .i64 try_, .func (.func 104) #[] #[c]] w fun e w' => ∃ A' cap', e = .returned (.slice A' (shardsOf p (tickL kind epoch try_) n).length cap') ∧ (shardsOf p (tickL kind epoch try_) n).length ≤ cap' ∧ cap' ≤ maxLen ∧ Row true w' A' cap' (shardsOf p (tickL kind epoch try_) n) (rng w.heap.size w'.heap.size) ∧ Below w.heap.size w w' := by
  have HC := Lib.hid hc
  clear hc
  go_enter Try.func103, Try.ntmps103
  go_wp2
  go_loopw [11, 14] (fun u i wr => ∃ (k : Nat) (ys : List Letter) (A : Option Addr) (cap : Nat), k ≤ n ∧ i = .int .i64 k ∧ u = .slice A ys.length cap ∧ Hid (ys = shardsOf p (tickL kind epoch try_) k) ∧ ys.length ≤ k ∧ ys.length ≤ cap ∧ cap ≤ maxLen ∧ Row true wr A cap ys (nw w.heap.size) ∧ Below w.heap.size w wr) (fun _ i _ => n - (intOf i).toNat)
  case atStart => exact ⟨0, [], none, 0, Nat.zero_le _, rfl, rfl, Lib.hid rfl, by simp, by simp, by decide, row_nil _ _, Below.refl _ _⟩
  case round =>
    obtain ⟨k, ys, A, cap, hkn, rfl, rfl, hys, hyk, hle, hcm2, hrow, hb⟩ := hrel
    have hz := hb.size
    by_cases hlt : k < n
    · go_wp2_with (fail)
      refine (HC.out wr k hb hlt).mono ?_
      rintro e1 w1 ⟨rfl, hb1⟩
      have hb2 : Below w.heap.size w w1 := hb.trans (hb1.mono hz)
      have hrow1 := Row.later hrow hb1
      have hz1 := hb2.size
      have hok := tickL_ok hk he ht (i := k) (by omega)
      cases hp : p k
      · have hN := Lib.hid (shardsOf_no (mk := tickL kind epoch try_) hp)
        go_wp2
        go_roundw
        case rel => exact ⟨k + 1, ys, A, cap, by omega, by go_num, rfl, Lib.hid (by rw [hN.out, hys.out]), by omega, hle, hcm2, hrow1, hb2⟩
        case measure => simp [intOf]; omega
      · have hY := Lib.hid (shardsOf_yes (mk := tickL kind epoch try_) hp)
        have hz2 : w.heap.size ≤ (w1.alloc (.cells #[.int .i64 kind, .int .i64 0, .int .i64 ((k : Int) + 1), .int .i64 epoch, .int .i64 try_, .string ⟨#[]⟩] 151)).heap.size := by simp; omega
        go_wp2_with (at_builtin; refine wpList_app (α := Letter) rfl _ _ rfl rfl rfl (hrow1.allocC _) hle hcm2 rfl rfl (src_newb _ (tickL kind epoch try_ k) hok _ _ _ (by first | rfl | simp) rfl) (disj_none_ _) (by omega) ?_; intro A' cap' w' h1 h2 h3 h4)
        go_roundw
        case rel => exact ⟨k + 1, ys ++ [tickL kind epoch try_ k], A', cap', by omega, by go_num, by simp, Lib.hid (by rw [hY.out, hys.out]), by simp; omega, by simpa using h1, h2, row_step h3 hz2, (hb2.alloc hz1 _).trans (h4.nw hz2 (sub_refl _))⟩
        case measure => simp [intOf]; omega
    · have hke : k = n := by omega
      subst hke
      have hyy := hys.out
      subst hyy
      go_wp2
      go_ret
      exact ⟨A, cap, rfl, hle, hcm2, (to_rng hrow).mono (rngS (Nat.le_refl _) (Nat.le_refl _)), hb⟩

set_option maxRecDepth 20000 in set_option maxHeartbeats 8000000 in
theorem impl_toShards2 (w : World) (kind epoch try_ : Int) (n : Nat) (hk : I64 kind) (he : I64 epoch) (ht : I64 try_) (hn : n ≤ 1048576) (p : Nat → Bool) (c : Value)
    (hc : ∀ (w' : World) (i : Nat), Below w.heap.size w w' → i < n → Calls Try.prog 105 #[.int .i64 i, c] w' fun e w'' => e = .returned (.bool (p i)) ∧ Below w'.heap.size w' w'') :
    Calls Try.prog 103 #[.int .i64 kind, .int .i64 n, .int .i64 epoch, .int .i64 try_, .func (.func 105) #[] #[c]] w fun e w' => ∃ A' cap', e = .returned (.slice A' (shardsOf p (tickL kind epoch try_) n).length cap') ∧ (shardsOf p (tickL kind epoch try_) n).length ≤ cap' ∧ cap' ≤ maxLen ∧ Row true w' A' cap' (shardsOf p (tickL kind epoch try_) n) (rng w.heap.size w'.heap.size) ∧ Below w.heap.size w w' := by
  have HC := Lib.hid hc
  clear hc
  go_enter Try.func103, Try.ntmps103
  go_wp2
  go_loopw [11, 14] (fun u i wr => ∃ (k : Nat) (ys : List Letter) (A : Option Addr) (cap : Nat), k ≤ n ∧ i = .int .i64 k ∧ u = .slice A ys.length cap ∧ Hid (ys = shardsOf p (tickL kind epoch try_) k) ∧ ys.length ≤ k ∧ ys.length ≤ cap ∧ cap ≤ maxLen ∧ Row true wr A cap ys (nw w.heap.size) ∧ Below w.heap.size w wr) (fun _ i _ => n - (intOf i).toNat)
  case atStart => exact ⟨0, [], none, 0, Nat.zero_le _, rfl, rfl, Lib.hid rfl, by simp, by simp, by decide, row_nil _ _, Below.refl _ _⟩
  case round =>
    obtain ⟨k, ys, A, cap, hkn, rfl, rfl, hys, hyk, hle, hcm2, hrow, hb⟩ := hrel
    have hz := hb.size
    by_cases hlt : k < n
    · go_wp2_with (fail)
      refine (HC.out wr k hb hlt).mono ?_
      rintro e1 w1 ⟨rfl, hb1⟩
      have hb2 : Below w.heap.size w w1 := hb.trans (hb1.mono hz)
      have hrow1 := Row.later hrow hb1
      have hz1 := hb2.size
      have hok := tickL_ok hk he ht (i := k) (by omega)
      cases hp : p k
      · have hN := Lib.hid (shardsOf_no (mk := tickL kind epoch try_) hp)
        go_wp2
        go_roundw
        case rel => exact ⟨k + 1, ys, A, cap, by omega, by go_num, rfl, Lib.hid (by rw [hN.out, hys.out]), by omega, hle, hcm2, hrow1, hb2⟩
        case measure => simp [intOf]; omega
      · have hY := Lib.hid (shardsOf_yes (mk := tickL kind epoch try_) hp)
        have hz2 : w.heap.size ≤ (w1.alloc (.cells #[.int .i64 kind, .int .i64 0, .int .i64 ((k : Int) + 1), .int .i64 epoch, .int .i64 try_, .string ⟨#[]⟩] 151)).heap.size := by simp; omega
        go_wp2_with (at_builtin; refine wpList_app (α := Letter) rfl _ _ rfl rfl rfl (hrow1.allocC _) hle hcm2 rfl rfl (src_newb _ (tickL kind epoch try_ k) hok _ _ _ (by first | rfl | simp) rfl) (disj_none_ _) (by omega) ?_; intro A' cap' w' h1 h2 h3 h4)
        go_roundw
        case rel => exact ⟨k + 1, ys ++ [tickL kind epoch try_ k], A', cap', by omega, by go_num, by simp, Lib.hid (by rw [hY.out, hys.out]), by simp; omega, by simpa using h1, h2, row_step h3 hz2, (hb2.alloc hz1 _).trans (h4.nw hz2 (sub_refl _))⟩
        case measure => simp [intOf]; omega
    · have hke : k = n := by omega
      subst hke
      have hyy := hys.out
      subst hyy
      go_wp2
      go_ret
      exact ⟨A, cap, rfl, hle, hcm2, (to_rng hrow).mono (rngS (Nat.le_refl _) (Nat.le_refl _)), hb⟩

def voteP (xs : List ByteArray) (i : Nat) : Bool := decide (xs.getD i ⟨#[]⟩ = ⟨#[]⟩)
def doneP (xs : List Bool) (i : Nat) : Bool := !(xs.getD i false)
theorem voteP_at {xs : List ByteArray} {i : Nat} (h : i < xs.length) : voteP xs i = decide (xs[i] = ⟨#[]⟩) := by simp [voteP, List.getD, h]
theorem doneP_at {xs : List Bool} {i : Nat} (h : i < xs.length) : doneP xs i = !xs[i] := by simp [doneP, List.getD, h]
def lastTry (x : Coord) : Int := x.tries.getD (x.seals.length - 1) 0
def tickAsk (x : Coord) : List Letter := if x.asking then shardsOf (voteP x.votes) (tickL 1 ((x.seals.length : Int) + 1) x.try_) x.votes.length else []
def tickDone (x : Coord) : List Letter := if x.tries.length = x.seals.length ∧ 0 < x.seals.length then shardsOf (doneP x.dones) (tickL 4 x.seals.length (lastTry x)) x.dones.length else []
def tickCoord (x : Coord) : List Letter := if x.up then tickAsk x ++ tickDone x else []
set_option maxRecDepth 20000 in set_option maxHeartbeats 4000000 in
theorem impl_tick1 (w : World) (xs : List ByteArray) (A : Option Addr) (cap : Nat) (S : Blks) (hx : Row false w A cap xs S) (i : Nat) (hi : i < xs.length) (hl : xs.length ≤ 1048576) (b off : Nat) (q : w.cell? ⟨b, off + 9, none⟩ = some (.slice A xs.length cap)) :
    Calls Try.prog 104 #[.int .i64 i, .pointer (some ⟨b, off, none⟩)] w fun e w' => e = .returned (.bool (voteP xs i)) ∧ Below w.heap.size w w' := by
  have hV := Lib.hid (voteP_at hi)
  obtain ⟨b1, o1, rfl, hl1, f0, _⟩ := Row.str hx hi
  have hd := isE_dec xs[i]
  go_enter Try.func104, Try.ntmps104
  go_wp2
  go_ret
  exact ⟨by rw [hV.out, ← hd]; rfl, Below.refl _ _⟩
set_option maxRecDepth 20000 in set_option maxHeartbeats 4000000 in
theorem impl_tick2 (w : World) (xs : List Bool) (A : Option Addr) (cap : Nat) (S : Blks) (hx : Row false w A cap xs S) (i : Nat) (hi : i < xs.length) (hl : xs.length ≤ 1048576) (b off : Nat) (q : w.cell? ⟨b, off + 10, none⟩ = some (.slice A xs.length cap)) :
    Calls Try.prog 105 #[.int .i64 i, .pointer (some ⟨b, off, none⟩)] w fun e w' => e = .returned (.bool (doneP xs i)) ∧ Below w.heap.size w w' := by
  have hV := Lib.hid (doneP_at hi)
  obtain ⟨b1, o1, rfl, hl1, f0⟩ := Row.bool hx hi
  go_enter Try.func105, Try.ntmps105
  go_wp2
  go_ret
  exact ⟨by rw [hV.out]; rfl, Below.refl _ _⟩

theorem coord_lens (x : Coord) (hz : x.sz ≤ 1048576) : x.votes.length ≤ 1048576 ∧ x.dones.length ≤ 1048576 ∧ x.seals.length ≤ 1048576 ∧ x.tries.length ≤ 1048576 := by
  simp only [Coord.sz] at hz
  have := szT_le x.votes 0
  have := szT_le x.dones 0
  have := szT_le x.seals 0
  have := szT_le x.tries 0
  omega
theorem tickAsk_len (x : Coord) : (tickAsk x).length ≤ x.votes.length := by
  unfold tickAsk; split
  · exact shardsOf_len _ _ _
  · simp
theorem tickDone_len (x : Coord) : (tickDone x).length ≤ x.dones.length := by
  unfold tickDone; split
  · exact shardsOf_len _ _ _
  · simp
theorem cnb_tickCoord (x : Coord) (hz : x.sz ≤ 1048576) : cnL (tickCoord x) ≤ 1000000000000 := by
  rw [cnL_letter]
  have := coord_lens x hz
  have := tickAsk_len x
  have := tickDone_len x
  unfold tickCoord; split
  · rw [List.length_append]; omega
  · simp
theorem tick_no {x : Coord} (h : x.up = false) : tickCoord x = [] := by simp [tickCoord, h]
theorem tick_yes {x : Coord} (h : x.up = true) : tickCoord x = tickAsk x ++ tickDone x := by simp [tickCoord, h]
theorem ask_no {x : Coord} (h : x.asking = false) : tickAsk x = [] := by simp [tickAsk, h]
theorem ask_yes {x : Coord} (h : x.asking = true) : tickAsk x = shardsOf (voteP x.votes) (tickL 1 ((x.seals.length : Int) + 1) x.try_) x.votes.length := by simp [tickAsk, h]
theorem done_no {x : Coord} (h : ¬ (x.tries.length = x.seals.length ∧ 0 < x.seals.length)) : tickDone x = [] := by simp only [tickDone, h, if_false]
theorem done_yes {x : Coord} {m : Nat} (h1 : x.tries.length = x.seals.length) (h2 : x.seals.length = m + 1) (h3 : m < x.tries.length) : tickDone x = shardsOf (doneP x.dones) (tickL 4 (x.seals.length : Int) x.tries[m]) x.dones.length := by
  have hc : x.tries.length = x.seals.length ∧ 0 < x.seals.length := ⟨h1, by omega⟩
  have hl : lastTry x = x.tries[m] := by unfold lastTry; rw [h2]; simp [List.getD, h3]
  unfold tickDone; rw [if_pos hc, hl]

end Go.Proofs.Ytbnfkpbaaoknmaa
