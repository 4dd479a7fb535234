/- The shard of a name, both sides. -/
import Derived.Test.YtcbbjfafmmcfiaaGreatDoorKRp
import Derived.Test.YtcbbjfafmmcfiaaGreatDoorKTk
set_option linter.unusedVariables false
set_option linter.unusedSimpArgs false
namespace Go.Proofs.YtcbbjfafmmcfiaaGreatDoor
open Go.RowKit Lay Mk
theorem shard_no {name : ByteArray} {k : Int} (h : inB k 0 2 = false) : shardOf name k = 0 := by unfold shardOf; rw [h]; rfl
theorem shard_at {name : ByteArray} {k : Int} (h : inB k 0 2 = true) : shardOf name k = ((indexOf name / 2 ^ (8 - k.toNat) : Nat) : Int) := by unfold shardOf; rw [h]; rfl
theorem shard_lt (name : ByteArray) (k : Int) : 0 ≤ shardOf name k ∧ shardOf name k < 4 := by
  cases h : inB k 0 2
  · rw [shard_no h]; omega
  · rw [shard_at h]
    have hk : 0 ≤ k ∧ k ≤ 2 := by simpa [inB] using h
    have hi := indexOf_lt name
    rcases (show k = 0 ∨ k = 1 ∨ k = 2 by omega) with rfl | rfl | rfl
    · show (0 : Int) ≤ ((indexOf name / 256 : Nat) : Int) ∧ ((indexOf name / 256 : Nat) : Int) < 4; omega
    · show (0 : Int) ≤ ((indexOf name / 128 : Nat) : Int) ∧ ((indexOf name / 128 : Nat) : Int) < 4; omega
    · show (0 : Int) ≤ ((indexOf name / 64 : Nat) : Int) ∧ ((indexOf name / 64 : Nat) : Int) < 4; omega
set_option maxRecDepth 20000 in set_option maxHeartbeats 4000000 in
theorem impl_ShardOf (w : World) (name : ByteArray) (hn : name.size ≤ 1048576) (k : Int) (hT : Tabs w) : Calls Tryz.prog 73 #[.string name, .int .i64 k] w fun e w' => e = .returned (.int .i64 (shardOf name k)) ∧ Below w.heap.size w w' := by
  have HT := Lib.hid hT
  clear hT
  have HIX := Lib.hid (fun W (h : Below w.heap.size w W) => impl_IndexOf W name (by omega) (HT.out.later h))
  have HSP := Lib.hid (fun W => impl_isSplit k W)
  cases hk : inB k 0 2 <;> rw [hk] at HSP
  · have HE := Lib.hid (shard_no (name := name) hk)
    clear hk
    go_enter Tryz.func73, Tryz.ntmps73
    go_wp2_with (fail)
    refine (HSP.out _).mono ?_
    rintro e1 w1 ⟨rfl, rfl⟩
    go_wp2
    go_ret
    exact ⟨ret_int (by rw [HE.out]), Below.refl _ _⟩
  · have HE := Lib.hid (shard_at (name := name) hk)
    have hk2 : 0 ≤ k ∧ k ≤ 2 := by simpa [inB] using hk
    have hi := indexOf_lt name
    obtain ⟨ix, hix⟩ : ∃ ix, indexOf name = ix := ⟨_, rfl⟩
    rw [hix] at HE HIX hi
    clear hix hk
    rcases (show k = 0 ∨ k = 1 ∨ k = 2 by omega) with rfl | rfl | rfl
    · have HE2 : Hid (shardOf name 0 = ((ix / 256 : Nat) : Int)) := Lib.hid HE.out
      clear HE hk2
      go_enter Tryz.func73, Tryz.ntmps73
      go_wp2_with (fail)
      refine (HSP.out _).mono ?_
      rintro e1 w1 ⟨rfl, rfl⟩
      go_wp2_with (fail)
      refine (HIX.out _ (Below.refl _ _)).mono ?_
      rintro e2 w2 ⟨rfl, hb2⟩
      go_wp2
      go_ret
      exact ⟨ret_int (by rw [HE2.out]; first | rfl | omega | (simp; done)), hb2⟩
    · have HE2 : Hid (shardOf name 1 = ((ix / 128 : Nat) : Int)) := Lib.hid HE.out
      clear HE hk2
      go_enter Tryz.func73, Tryz.ntmps73
      go_wp2_with (fail)
      refine (HSP.out _).mono ?_
      rintro e1 w1 ⟨rfl, rfl⟩
      go_wp2_with (fail)
      refine (HIX.out _ (Below.refl _ _)).mono ?_
      rintro e2 w2 ⟨rfl, hb2⟩
      go_wp2
      go_ret
      exact ⟨ret_int (by rw [HE2.out]; first | rfl | omega | (simp; done)), hb2⟩
    · have HE2 : Hid (shardOf name 2 = ((ix / 64 : Nat) : Int)) := Lib.hid HE.out
      clear HE hk2
      go_enter Tryz.func73, Tryz.ntmps73
      go_wp2_with (fail)
      refine (HSP.out _).mono ?_
      rintro e1 w1 ⟨rfl, rfl⟩
      go_wp2_with (fail)
      refine (HIX.out _ (Below.refl _ _)).mono ?_
      rintro e2 w2 ⟨rfl, hb2⟩
      go_wp2
      go_ret
      exact ⟨ret_int (by rw [HE2.out]; first | rfl | omega | (simp; done)), hb2⟩
set_option maxRecDepth 20000 in set_option maxHeartbeats 4000000 in
theorem spec_ShardOf (w : World) (name : ByteArray) (hn : name.size ≤ 1048576) (k : Int) : Calls Tryz.prog 63 #[.string name, .int .i64 k] w fun e w' => e = .returned (.int .i64 (shardOf name k)) ∧ Below w.heap.size w w' := by
  have HIX := Lib.hid (fun W => spec_IndexOf W name (by omega))
  have HSP := Lib.hid (fun W => spec_in k 0 2 W)
  cases hk : inB k 0 2 <;> rw [hk] at HSP
  · have HE := Lib.hid (shard_no (name := name) hk)
    clear hk
    go_enter Tryz.func63, Tryz.ntmps63
    go_wp2_with (fail)
    refine (HSP.out _).mono ?_
    rintro e1 w1 ⟨rfl, rfl⟩
    go_wp2
    go_ret
    exact ⟨ret_int (by rw [HE.out]), Below.refl _ _⟩
  · have HE := Lib.hid (shard_at (name := name) hk)
    have hk2 : 0 ≤ k ∧ k ≤ 2 := by simpa [inB] using hk
    have hi := indexOf_lt name
    obtain ⟨ix, hix⟩ : ∃ ix, indexOf name = ix := ⟨_, rfl⟩
    rw [hix] at HE HIX hi
    clear hix hk
    rcases (show k = 0 ∨ k = 1 ∨ k = 2 by omega) with rfl | rfl | rfl
    · have HE2 : Hid (shardOf name 0 = ((ix / 256 : Nat) : Int)) := Lib.hid HE.out
      clear HE hk2
      go_enter Tryz.func63, Tryz.ntmps63
      go_wp2_with (fail)
      refine (HSP.out _).mono ?_
      rintro e1 w1 ⟨rfl, rfl⟩
      go_wp2_with (fail)
      refine (HIX.out _).mono ?_
      rintro e2 w2 ⟨rfl, hb2⟩
      go_wp2
      go_ret
      exact ⟨ret_int (by rw [HE2.out]; first | rfl | omega | (simp; done)), hb2⟩
    · have HE2 : Hid (shardOf name 1 = ((ix / 128 : Nat) : Int)) := Lib.hid HE.out
      clear HE hk2
      go_enter Tryz.func63, Tryz.ntmps63
      go_wp2_with (fail)
      refine (HSP.out _).mono ?_
      rintro e1 w1 ⟨rfl, rfl⟩
      go_wp2_with (fail)
      refine (HIX.out _).mono ?_
      rintro e2 w2 ⟨rfl, hb2⟩
      go_wp2
      go_ret
      exact ⟨ret_int (by rw [HE2.out]; first | rfl | omega | (simp; done)), hb2⟩
    · have HE2 : Hid (shardOf name 2 = ((ix / 64 : Nat) : Int)) := Lib.hid HE.out
      clear HE hk2
      go_enter Tryz.func63, Tryz.ntmps63
      go_wp2_with (fail)
      refine (HSP.out _).mono ?_
      rintro e1 w1 ⟨rfl, rfl⟩
      go_wp2_with (fail)
      refine (HIX.out _).mono ?_
      rintro e2 w2 ⟨rfl, hb2⟩
      go_wp2
      go_ret
      exact ⟨ret_int (by rw [HE2.out]; first | rfl | omega | (simp; done)), hb2⟩
end Go.Proofs.YtcbbjfafmmcfiaaGreatDoor
