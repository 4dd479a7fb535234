/- The hashes of a tree's places: the reference's walks, first part. -/
import Derived.Test.YtojbehmbeoemgaaDoorKNe
import Derived.Deep.RegionHeld3
set_option linter.unusedVariables false
set_option linter.unusedSimpArgs false
namespace Go.Proofs.YtojbehmbeoemgaaDoor
open Go.RowKit Lay Mk
theorem name_size {s : ByteArray} (h : nameOk s = true) : s.size ≤ 12 := by
  unfold nameOk at h
  rw [Bool.and_eq_true] at h
  have h2 : 1 ≤ (s.size : Int) ∧ (s.size : Int) ≤ 12 := by simpa [inB] using h.2
  omega
theorem value_size {s : ByteArray} (h : valueOk s = true) : s.size ≤ 12 := by
  unfold valueOk at h
  rw [Bool.and_eq_true] at h
  have h2 : 1 ≤ (s.size : Int) ∧ (s.size : Int) ≤ 12 := by simpa [inB] using h.2
  omega
theorem bucket_tag {xs : List Leaf} (h : leavesOk xs = true) : tagOk (bucketKind xs) (bucketParts xs) = true := by
  have h1 := leavesOk_len h
  have h2 := parts_len xs
  have h3 : partsOk (bucketParts xs) = true := by
    unfold partsOk bucketParts
    rw [List.all_eq_true]
    intro p hp
    rw [List.mem_flatMap] at hp
    obtain ⟨x, hx, hp⟩ := hp
    have h4 := leavesOk_all h x hx
    simp only [List.mem_cons, List.not_mem_nil, or_false] at hp
    rcases hp with rfl | rfl
    · have := name_size h4.1; simp; omega
    · have := value_size h4.2; simp; omega
  have h5 : inB (bucketKind xs) 1 8 = true := by unfold bucketKind; split <;> rfl
  unfold tagOk
  rw [h5, h3, decide_eq_true (by omega)]; rfl
theorem szL_ok {xs : List Leaf} (h : ∀ x ∈ xs, nameOk x.name = true ∧ valueOk x.value = true) : szL xs ≤ 25 * xs.length := by
  induction xs with
  | nil => exact Nat.le_refl _
  | cons x r ih =>
    have h1 := ih (fun y hy => h y (List.mem_cons_of_mem _ hy))
    have h2 := h x (List.mem_cons_self ..)
    have h3 := name_size h2.1
    have h4 := value_size h2.2
    simp only [szL, List.map_cons, List.sum_cons, List.length_cons] at h1 ⊢
    have h5 : Mk.sz x = x.name.size + x.value.size := rfl
    omega
set_option maxRecDepth 20000 in set_option maxHeartbeats 8000000 in
theorem spec_BucketHash (w : World) (xs : List Leaf) (A : Option Addr) (cap : Nat) (S : Blks) (hx : Row false w A cap xs S) (hok : leavesOk xs = true) (n : Int) (hn : I64 n) : Calls Tryd.prog 81 #[.slice A xs.length cap, .int .i64 n] w fun e w' => e = .returned (.string (bucketHash xs n)) ∧ Below w.heap.size w w' := by
  have hl := leavesOk_len hok
  have hz : szL xs ≤ 1048576 := by have := szL_ok (leavesOk_all hok); omega
  have HBT := Lib.hid (spec_BucketText w xs A cap S hx (by omega) hz hok)
  rw [bucket_tag hok] at HBT
  have htl : (bucketTx xs).size ≤ 20000 := tagText_le _ _
  have HE : Hid (bucketHash xs n = cutDigest (bucketTx xs) n) := Lib.hid rfl
  obtain ⟨t, ht⟩ : ∃ t, bucketTx xs = t := ⟨_, rfl⟩
  rw [ht] at HBT htl HE
  clear ht hz hok
  go_enter Tryd.func81, Tryd.ntmps81
  go_wp2_with (fail)
  refine HBT.out.mono ?_
  rintro e1 w1 ⟨rfl, hb1⟩
  go_wp2_with (fail)
  refine (spec_CutDigest _ t (by omega) n hn).mono ?_
  rintro e2 w2 ⟨rfl, hb2⟩
  have HB := Lib.hid (hb1.trans (hb2.mono hb1.size))
  clear hb1 hb2
  go_wp2
  go_ret
  exact ⟨ret_str (by rw [HE.out]), HB.out⟩
def spotOf (x : Leaf) : Spot := ⟨x, (indexOf x.name : Int)⟩
def spotsOf (xs : List Leaf) : List Spot := xs.map spotOf
theorem spotsOf_len (xs : List Leaf) : (spotsOf xs).length = xs.length := by unfold spotsOf; simp
theorem spotsOf_snoc {xs : List Leaf} {k : Nat} (h : k < xs.length) : spotsOf (xs.take (k + 1)) = spotsOf (xs.take k) ++ [spotOf xs[k]] := by
  unfold spotsOf; rw [List.take_succ_eq_append_getElem h, List.map_append]; rfl
set_option maxRecDepth 20000 in set_option maxHeartbeats 8000000 in
theorem spec_l10Spots (w : World) (xs : List Leaf) (A : Option Addr) (cap : Nat) (S : Blks) (hx : Row false w A cap xs S) (hl : xs.length ≤ 1048576) (hz : szL xs ≤ 1048576) : Calls Tryd.prog 89 #[.slice A xs.length cap] w (OwnRes (spotsOf xs) w) := by
  go_enter Tryd.func89, Tryd.ntmps89
  go_wp2
  have HO := Lib.hid (Own.litAt (α := Spot) (Below.refl w.heap.size w) 153 rfl (b := w.heap.size) rfl)
  go_loopw [3, 4] (fun u i wr => ∃ (k : Nat) (A2 : Option Addr) (c : Nat), k ≤ xs.length ∧ i = .int .i64 k ∧ u = .slice A2 k c ∧ Own w wr A2 c (spotsOf (xs.take k))) (fun _ i _ => xs.length - (intOf i).toNat)
  case atStart => exact ⟨0, some ⟨w.heap.size, 0, none⟩, 0, Nat.zero_le _, rfl, rfl, HO.out⟩
  case round =>
    clear HO
    obtain ⟨k, A2, c, hk, rfl, rfl, hown⟩ := hrel
    have hb := hown.bl
    have HOW := Lib.hid hown
    by_cases hlt : k < xs.length
    · obtain ⟨b1, o1, rfl, hl1, e0, e1, s0, s1⟩ := Row.atLeaf hx hlt
      have HN := Lib.hid (spotsOf_snoc hlt)
      have hsz := leaf_size hlt hz
      have HNL : Hid ((spotsOf (xs.take k)).length = k) := Lib.hid (by rw [spotsOf_len, List.length_take]; omega)
      obtain ⟨x, hx'⟩ : ∃ x, xs[k] = x := ⟨_, rfl⟩
      rw [hx'] at e0 e1 s0 s1 HN hsz
      clear hx'
      have HM := Lib.hid (fun (w' : World) (h : Below w.heap.size w w') => (⟨(h.cell (p := ⟨b1, o1 + k * 2, none⟩) hl1).trans e0, (h.cell (p := ⟨b1, o1 + k * 2 + 1, none⟩) hl1).trans e1, h⟩ : w'.cell? ⟨b1, o1 + k * 2, none⟩ = some (.string x.name) ∧ w'.cell? ⟨b1, o1 + k * 2 + 1, none⟩ = some (.string x.value) ∧ Below w.heap.size w w'))
      have HIX := Lib.hid (fun W' => spec_IndexOf W' x.name (by omega))
      have hwl := hb.size
      have hok : Flat.ok (spotOf x) := (show x.name.size ≤ maxLen ∧ x.value.size ≤ maxLen ∧ I64 ((indexOf x.name : Nat) : Int) from ⟨s0, s1, by have := indexOf_lt x.name; unfold I64; omega⟩)
      have HSX : Hid (spotOf x = ⟨x, (indexOf x.name : Int)⟩) := Lib.hid rfl
      rw [HSX.out] at HN hok
      obtain ⟨ix, hix⟩ : ∃ ix, indexOf x.name = ix := ⟨_, rfl⟩
      rw [hix] at HIX HN hok
      have hB := Below.refl wr.heap.size wr
      have hki : (k : Int) < (xs.length : Int) := by omega
      have hk0 : (0 : Int) ≤ (k : Int) := by omega
      clear hix HSX e0 e1 s0 s1 hown
      go_wp2_with (fail)
      go_region_held3 (fun w' => w'.cell? ⟨b1, o1 + k * 2, none⟩ = some (.string x.name) ∧ w'.cell? ⟨b1, o1 + k * 2 + 1, none⟩ = some (.string x.value) ∧ Below w.heap.size w w')
        (first | exact HM.out _ hE | exact HM.out _ (hb.trans (Below.mono (w := wr) (by (repeat (first | with_reducible exact hB | with_reducible apply Below.drew | with_reducible refine Below.alloc ?_ ?_ _ | with_reducible refine Below.setCell ?_ ?_ _)); all_goals (first | omega | (simp; done) | (simp; omega))) hwl)))
        (first | (go_at_call 30; refine (HIX.out _).mono ?_; rintro e5 w5 ⟨rfl, hb5⟩; have hB := Below.step (a := wr) (by (repeat (first | with_reducible exact hB | with_reducible apply Below.drew | with_reducible refine Below.alloc ?_ ?_ _ | with_reducible refine Below.setCell ?_ ?_ _)); all_goals (first | omega | (simp; done) | (simp; omega))) hb5; have hs5 := hB.size) | ((refine step_push (α := Spot) (w0 := w) rfl _ _ rfl rfl HNL.out.symm (HOW.out.later (by (repeat (first | with_reducible exact hB | with_reducible apply Below.drew | with_reducible refine Below.alloc ?_ ?_ _ | with_reducible refine Below.setCell ?_ ?_ _)); all_goals (first | omega | (simp; done) | (simp; omega)))) rfl rfl (src1 hok (by first | rfl | simp) rfl) (by omega) ?_); intro A6 c6 w6 o6 hE))
      go_wp2
      go_roundw
      case rel => exact ⟨k + 1, A6, c6, hlt, by go_num, rfl, by rw [HN.out]; exact o6⟩
      case measure => simp [intOf]; omega
    · have HE : Hid (spotsOf xs = spotsOf (xs.take k)) := Lib.hid (by rw [List.take_of_length_le (by omega)])
      have HNL : Hid (k = (spotsOf (xs.take k)).length) := Lib.hid (by rw [spotsOf_len, List.length_take]; omega)
      clear hown hb
      go_wp2
      go_ret
      exact OwnRes.mk HOW.out HE.out HNL.out
end Go.Proofs.YtojbehmbeoemgaaDoor
