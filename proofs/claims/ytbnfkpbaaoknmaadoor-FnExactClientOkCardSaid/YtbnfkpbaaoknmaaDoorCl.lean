/- Walks: is a client valid. -/
import Derived.Test.YtbnfkpbaaoknmaaDoorHs
set_option linter.unusedVariables false
set_option linter.unusedSimpArgs false
namespace Go.Proofs.YtbnfkpbaaoknmaaDoor
open Go.RowKit Lay Mk
def clientOk (x : Client) : Bool := inB x.house 0 2 && chainOk x.seen x.house
theorem client_seen (x : Client) (hz : x.sz ≤ 1048576) : x.seen.length ≤ 1048576 := by
  have h1 : szL x.seen ≤ x.sz := Nat.le_refl _
  have := szT_le x.seen 0
  omega
set_option maxRecDepth 20000 in set_option maxHeartbeats 4000000 in
theorem impl_ClientOk (w : World) (x : Client) (cs : List Value) (S : Blks) (hx : rd false w cs x S) (hz : x.sz ≤ 1048576) (hT : Tabs w) : Calls Tryd.prog 23 #[.agg cs.toArray] w fun e w' => e = .returned (.bool (clientOk x)) ∧ Below w.heap.size w w' := by
  have hl := client_seen x hz
  obtain ⟨A0, k0, S0, rfl, f0, a0, b0, r0, s0⟩ := Client.open hx
  clear hx
  simp only [Client.cs]
  cases hi : inB x.house 0 2
  · have HC : Hid (clientOk x = false) := Lib.hid (by unfold clientOk; rw [hi]; rfl)
    go_enter Tryd.func23, Tryd.ntmps23
    go_wp2_with (go_at_call 36; refine (house_in _ _).mono ?_; rintro e w2 ⟨rfl, rfl⟩)
    go_ret
    exact ⟨by rw [HC.out]; rfl, (Below.refl _ _).alloc (Nat.le_refl _) _⟩
  · have HC : Hid (clientOk x = chainOk x.seen x.house) := Lib.hid (by unfold clientOk; rw [hi]; rfl)
    go_enter Tryd.func23, Tryd.ntmps23
    go_wp2_with (go_at_call 36; refine (house_in _ _).mono ?_; rintro e w2 ⟨rfl, rfl⟩)
    refine (impl_ChainOk _ x.seen _ _ _ (r0.later ((Below.refl _ _).alloc (Nat.le_refl _) _)) (by omega) a0 x.house (hT.later ((Below.refl _ _).alloc (Nat.le_refl _) _))).mono ?_
    rintro e0 w1 ⟨rfl, hb⟩
    go_wp2
    go_ret
    exact ⟨by rw [HC.out]; rfl, ((Below.refl _ _).alloc (Nat.le_refl _) _).trans (hb.mono (by simp))⟩
set_option maxRecDepth 20000 in set_option maxHeartbeats 4000000 in
theorem spec_ClientOk (w : World) (x : Client) (cs : List Value) (S : Blks) (hx : rd false w cs x S) (hz : x.sz ≤ 1048576) : Calls Tryd.prog 21 #[.agg cs.toArray] w fun e w' => e = .returned (.bool (clientOk x)) ∧ Below w.heap.size w w' := by
  have hl := client_seen x hz
  obtain ⟨A0, k0, S0, rfl, f0, a0, b0, r0, s0⟩ := Client.open hx
  clear hx
  simp only [Client.cs]
  cases hi : inB x.house 0 2
  · have HC : Hid (clientOk x = false) := Lib.hid (by unfold clientOk; rw [hi]; rfl)
    go_enter Tryd.func21, Tryd.ntmps21
    go_wp2_with (go_at_call 34; refine (spec_in _ _ _ _).mono ?_; rintro e w2 ⟨rfl, rfl⟩)
    go_ret
    exact ⟨by rw [HC.out]; rfl, (Below.refl _ _).alloc (Nat.le_refl _) _⟩
  · have HC : Hid (clientOk x = chainOk x.seen x.house) := Lib.hid (by unfold clientOk; rw [hi]; rfl)
    go_enter Tryd.func21, Tryd.ntmps21
    go_wp2_with (go_at_call 34; refine (spec_in _ _ _ _).mono ?_; rintro e w2 ⟨rfl, rfl⟩)
    refine (spec_ChainOk _ x.seen _ _ _ (r0.later ((Below.refl _ _).alloc (Nat.le_refl _) _)) (by omega) x.house).mono ?_
    rintro e0 w1 ⟨rfl, hb⟩
    go_wp2
    go_ret
    exact ⟨by rw [HC.out]; rfl, ((Below.refl _ _).alloc (Nat.le_refl _) _).trans (hb.mono (by simp))⟩
end Go.Proofs.YtbnfkpbaaoknmaaDoor
