/- A part of the proof: what the laws need of it. -/
import Derived.Test.YtojbehmbeoemgaaDoorHEvSn
set_option linter.unusedVariables false
set_option linter.unusedSimpArgs false
set_option linter.unusedVariables false
set_option linter.unusedSimpArgs false
namespace Go.Proofs.YtojbehmbeoemgaaDoor
open Go.RowKit Lay Mk
set_option maxRecDepth 20000 in set_option maxHeartbeats 4000000 in
theorem spec_LockOf (w : World) (s : ByteArray) (hs : s.size ≤ 200) : Calls Tryd.prog 112 #[.string s] w fun e w' => e = .returned (.string (lockOf s)) ∧ Below w.heap.size w w' := by
  go_enter Tryd.func112, Tryd.ntmps112
  go_wp2_with (fail)
  refine (spec_TagHash _ 6 (by unfold I64; omega) [s] _ _ _ (row_one w s (ml hs (by omega)) _) (by simp) 16 (by unfold I64; omega)).mono ?_
  rintro e5 w5 ⟨rfl, hb5⟩
  go_wp2
  go_ret
  exact ⟨rfl, Below.via hb5⟩
end Go.Proofs.YtojbehmbeoemgaaDoor

set_option linter.unusedVariables false
set_option linter.unusedSimpArgs false
namespace Go.Proofs.YtojbehmbeoemgaaDoor
open Go.RowKit Lay Mk
set_option maxRecDepth 20000 in set_option maxHeartbeats 8000000 in
theorem impl_SigOk (w : World) (root t : ByteArray) (x : Sig) (cs : List Value) (S : Blks) (hx : rd false w cs x S) (hT : Tabs w) : Calls Tryd.prog 117 #[.string root, .string t, .agg cs.toArray] w fun e w' => e = .returned (.bool (sigOk root t x)) ∧ Below w.heap.size w w' := by
  have HTx := Lib.hid (fun W h h2 => impl_SigTexts W t x cs S (Lay.later hx h) h2)
  have HT := Lib.hid hT; clear hT
  have HOK : Hid (sigOk root t x = ((sigForm x && decide (t.size ≤ 200)) && decide (sigRoot t x = root))) := Lib.hid rfl
  obtain ⟨A0, k0, S0, A1, k1, S1, A2, k2, S2, rfl, -⟩ := Sig.open hx
  clear hx
  simp only [Sig.cs] at HTx ⊢
  go_enter Tryd.func117, Tryd.ntmps117
  go_wp2_with (fail)
  refine (HTx.out _ ((Below.refl _ _).alloc (Nat.le_refl _) _) (HT.out.later ((Below.refl _ _).alloc (Nat.le_refl _) _))).mono ?_
  rintro e1 w1 ⟨A, c, l, S', rfl, hlen, hr, hN, hY, hb⟩
  have HB : Hid (Below w.heap.size w w1) := Lib.hid (Below.via hb)
  cases hok : (sigForm x && decide (t.size ≤ 200))
  · have hl := hN hok
    subst hl
    rw [hok] at HOK
    clear hN hY hr hb
    go_wp2
    go_ret
    exact ⟨ret_bool (by rw [HOK.out]; rfl), HB.out⟩
  · obtain ⟨pre, tl, rfl, htl, hcut⟩ := hY hok
    rw [hok] at HOK
    clear hN hY
    obtain ⟨b1, o1, rfl, hl1, f0, s0⟩ := Row.str hr (i := pre.length) (by simp)
    rw [List.getElem_concat_length (rfl)] at f0
    have hln : (pre ++ [tl]).length = pre.length + 1 := by simp
    obtain ⟨n, hn⟩ : ∃ n, pre.length = n := ⟨_, rfl⟩
    rw [hn] at hln f0
    rw [hln] at hlen ⊢
    have hw1 : IntKind.i64.wrap (((n + 1 : Nat) : Int) - 1) = (n : Int) := by rw [IntWalk.i64_in _ (by omega)]; omega
    have hp : (0 : Int) < ((n + 1 : Nat) : Int) := by omega
    have hq : ((n + 1 : Nat) : Int) - 1 = (n : Int) := by omega
    have hpp : (0 : Int) < (n : Int) + 1 := by omega
    have hlt2 : (n : Int) < ((n + 1 : Nat) : Int) := by omega
    have hlt3 : (n : Int) < (n : Int) + 1 := by omega
    have hqq : (n : Int) + 1 - 1 = (n : Int) := by omega
    have hw2 : IntKind.i64.wrap (n : Int) = (n : Int) := IntWalk.i64_in _ (by omega)
    have HC := Lib.hid hcut
    clear hb hr hln hcut hn s0
    go_wp2_with (fail)
    refine (impl_CutDigest _ tl (by omega) 16 (by unfold I64; omega) (HT.out.later HB.out)).mono ?_
    rintro e2 w2 ⟨rfl, hb2⟩
    rw [HC.out]
    have HB2 := Lib.hid (HB.out.trans (hb2.mono HB.out.size))
    clear hb2
    by_cases hroot : sigRoot t x = root
    · have hse := str_eq hroot
      rw [decide_eq_true hroot] at HOK
      clear hroot
      go_wp2
      go_ret
      exact ⟨ret_bool (by rw [HOK.out]; rfl), HB2.out⟩
    · have hse := str_ne hroot
      rw [decide_eq_false hroot] at HOK
      clear hroot
      go_wp2
      go_ret
      exact ⟨ret_bool (by rw [HOK.out]; rfl), HB2.out⟩
end Go.Proofs.YtojbehmbeoemgaaDoor

