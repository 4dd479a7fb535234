/- The heads of signed heads. -/
import Derived.Test.YthgonaodmpegfaaGreatDoorOw
set_option linter.unusedVariables false
set_option linter.unusedSimpArgs false
namespace Go.Proofs.YthgonaodmpegfaaGreatDoor
open Go.RowKit Lay Mk
theorem mapT_snoc {α β : Type} (g : α → β) {l : List α} {k : Nat} (h : k < l.length) : (l.take (k + 1)).map g = (l.take k).map g ++ [g l[k]] := by
  rw [List.take_succ_eq_append_getElem h, List.map_append]; rfl
def headL (xs : List Seal) : List Head := xs.map (fun s => s.head)
set_option maxRecDepth 20000 in set_option maxHeartbeats 4000000 in
theorem impl_headsOf (w : World) (xs : List Seal) (A : Option Addr) (cap : Nat) (S : Blks) (hx : Row false w A cap xs S) (hl : xs.length ≤ 1048576) : Calls Tryz.prog 49 #[.slice A xs.length cap] w (OwnRes (headL xs) w) := by
  go_enter Tryz.func49, Tryz.ntmps49
  go_wp2
  have HO := Lib.hid (Own.start (α := Head) (Below.refl w.heap.size w))
  go_loopw [3, 8] (fun u i wr => ∃ (k : Nat) (L : List Head) (A2 : Option Addr) (c : Nat), k ≤ xs.length ∧ i = .int .i64 k ∧ u = .slice A2 L.length c ∧ Hid (L = (xs.take k).map (fun s => s.head)) ∧ L.length ≤ k ∧ Own w wr A2 c L) (fun _ i _ => xs.length - (intOf i).toNat)
  case atStart => exact ⟨0, [], none, 0, by omega, rfl, rfl, Lib.hid rfl, by simp, HO.out⟩
  case round =>
    clear HO
    obtain ⟨k, L, A2, c, hk, rfl, rfl, HL, hLk, hown⟩ := hrel
    have hb := hown.bl
    have HOW := Lib.hid hown
    by_cases hlt : k < xs.length
    · obtain ⟨b1, o1, cc, T1, rfl, hl1, ha, hr, _, _⟩ := Row.at_ hx hlt
      replace ha := ha.keep (hb.block b1 hl1)
      have HN : Hid ((xs.take (k + 1)).map (fun s => s.head) = L ++ [(xs[k]).head]) := Lib.hid (by rw [mapT_snoc _ hlt, HL.out])
      obtain ⟨s, hs⟩ : ∃ s, xs[k] = s := ⟨_, rfl⟩
      rw [hs] at hr HN
      clear hs
      obtain ⟨D0, m0, U0, D1, m1, U1, D2, m2, U2, rfl, f0, f1, f2, f3, -⟩ := Seal.open hr
      have hok : Flat.ok s.head := (⟨f0, f1, f2, f3⟩ : I64 s.head.house ∧ I64 s.head.epoch ∧ s.head.root.size ≤ maxLen ∧ s.head.prev.size ≤ maxLen)
      clear hr
      rw [show Lay.n Seal = 8 from rfl] at ha
      have e0 := ha 0 _ rfl
      have e1 := ha 1 _ rfl
      have e2 := ha 2 _ rfl
      have e3 := ha 3 _ rfl
      have e4 := ha 4 _ rfl
      have e5 := ha 5 _ rfl
      have e6 := ha 6 _ rfl
      have e7 := ha 7 _ rfl
      simp only [Nat.add_zero] at e0
      have hl3 : b1 < wr.heap.size := Nat.lt_of_lt_of_le hl1 hb.size
      clear ha hown hb f0 f1 f2 f3
      go_wp2_with (at_builtin; refine wpList_push (α := Head) rfl _ _ rfl rfl rfl ((HOW.out.alloc _).alloc _) rfl rfl (src1 hok (by first | rfl | simp) rfl) (by omega) ?_; intro A6 c6 w6 o6 z6)
      go_roundw
      case rel => exact ⟨k + 1, L ++ [s.head], A6, c6, hlt, by go_num, by simp, Lib.hid HN.out.symm, by simp; omega, o6⟩
      case measure => simp [intOf]; omega
    · have HE : Hid (headL xs = L) := Lib.hid (by unfold headL; rw [HL.out, List.take_of_length_le (by omega)])
      clear hown hb
      go_wp2
      go_ret
      exact OwnRes.mk HOW.out HE.out rfl
set_option maxRecDepth 20000 in set_option maxHeartbeats 4000000 in
theorem spec_l19Heads (w : World) (xs : List Seal) (A : Option Addr) (cap : Nat) (S : Blks) (hx : Row false w A cap xs S) (hl : xs.length ≤ 1048576) : Calls Tryz.prog 41 #[.slice A xs.length cap] w (OwnRes (headL xs) w) := by
  go_enter Tryz.func41, Tryz.ntmps41
  go_wp2
  have HO := Lib.hid (Own.litAt (α := Head) (Below.refl w.heap.size w) 96 rfl (b := w.heap.size) rfl)
  go_loopw [3, 4] (fun u i wr => ∃ (k : Nat) (L : List Head) (A2 : Option Addr) (c : Nat), k ≤ xs.length ∧ i = .int .i64 k ∧ u = .slice A2 L.length c ∧ Hid (L = (xs.take k).map (fun s => s.head)) ∧ L.length ≤ k ∧ Own w wr A2 c L) (fun _ i _ => xs.length - (intOf i).toNat)
  case atStart => exact ⟨0, [], some ⟨w.heap.size, 0, none⟩, 0, by omega, rfl, rfl, Lib.hid rfl, by simp, HO.out⟩
  case round =>
    clear HO
    obtain ⟨k, L, A2, c, hk, rfl, rfl, HL, hLk, hown⟩ := hrel
    have hb := hown.bl
    have HOW := Lib.hid hown
    by_cases hlt : k < xs.length
    · obtain ⟨b1, o1, cc, T1, rfl, hl1, ha, hr, _, _⟩ := Row.at_ hx hlt
      replace ha := ha.keep (hb.block b1 hl1)
      have HN : Hid ((xs.take (k + 1)).map (fun s => s.head) = L ++ [(xs[k]).head]) := Lib.hid (by rw [mapT_snoc _ hlt, HL.out])
      obtain ⟨s, hs⟩ : ∃ s, xs[k] = s := ⟨_, rfl⟩
      rw [hs] at hr HN
      clear hs
      obtain ⟨D0, m0, U0, D1, m1, U1, D2, m2, U2, rfl, f0, f1, f2, f3, -⟩ := Seal.open hr
      have hok : Flat.ok s.head := (⟨f0, f1, f2, f3⟩ : I64 s.head.house ∧ I64 s.head.epoch ∧ s.head.root.size ≤ maxLen ∧ s.head.prev.size ≤ maxLen)
      clear hr
      rw [show Lay.n Seal = 8 from rfl] at ha
      have e0 := ha 0 _ rfl
      have e1 := ha 1 _ rfl
      have e2 := ha 2 _ rfl
      have e3 := ha 3 _ rfl
      have e4 := ha 4 _ rfl
      have e5 := ha 5 _ rfl
      have e6 := ha 6 _ rfl
      have e7 := ha 7 _ rfl
      simp only [Nat.add_zero] at e0
      have hl3 : b1 < wr.heap.size := Nat.lt_of_lt_of_le hl1 hb.size
      clear ha hown hb f0 f1 f2 f3
      go_wp2_with (at_builtin; refine wpList_push (α := Head) rfl _ _ rfl rfl rfl (HOW.out.alloc _) rfl rfl (src1 hok (by first | rfl | simp) rfl) (by omega) ?_; intro A6 c6 w6 o6 z6)
      go_roundw
      case rel => exact ⟨k + 1, L ++ [s.head], A6, c6, hlt, by go_num, by simp, Lib.hid HN.out.symm, by simp; omega, o6⟩
      case measure => simp [intOf]; omega
    · have HE : Hid (headL xs = L) := Lib.hid (by unfold headL; rw [HL.out, List.take_of_length_le (by omega)])
      clear hown hb
      go_wp2
      go_ret
      exact OwnRes.mk HOW.out HE.out rfl
end Go.Proofs.YthgonaodmpegfaaGreatDoor
