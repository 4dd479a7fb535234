/- Walks: a bucket's hash; texts of leaves; texts joined; both sides. -/
import Derived.Test.YtojbehmbeoemgaaDoorKYm
import Derived.Test.YtojbehmbeoemgaaDoorKNw
import Derived.Test.YtojbehmbeoemgaaDoorB2
import Derived.Deep.RegionHeld3
set_option linter.unusedVariables false
set_option linter.unusedSimpArgs false
namespace Go.Proofs.YtojbehmbeoemgaaDoor
open Go.RowKit Lay Mk
set_option maxRecDepth 20000 in set_option maxHeartbeats 4000000 in
theorem impl_BucketText (w : World) (xs : List Leaf) (A : Option Addr) (cap : Nat) (S : Blks) (hx : Row false w A cap xs S) (hok : leavesOk xs = true) : Calls Tryd.prog 139 #[.slice A xs.length cap] w fun e w' => e = .returned (.tuple #[.string (bucketTx xs), .bool true]) ∧ Below w.heap.size w w' := by
  have hl := leavesOk_len hok
  have HL := Lib.hid (impl_LeavesOk w xs A cap S hx (by omega))
  rw [hok] at HL
  have HB := Lib.hid (fun W (h : Below w.heap.size w W) => impl_bucketText W xs A cap S (Row.later hx h) (by omega))
  go_enter Tryd.func139, Tryd.ntmps139
  go_wp2_with (fail)
  refine HL.out.mono ?_
  rintro e1 w1 ⟨rfl, hb1⟩
  go_wp2_with (fail)
  refine (HB.out _ hb1).mono ?_
  rintro e2 w2 ⟨rfl, hb2⟩
  have HBB := Lib.hid (hb1.trans (hb2.mono hb1.size))
  clear hb1 hb2
  go_wp2
  go_ret2
  exact ⟨rfl, HBB.out⟩
set_option maxRecDepth 20000 in set_option maxHeartbeats 4000000 in
theorem impl_BucketHash (w : World) (xs : List Leaf) (A : Option Addr) (cap : Nat) (S : Blks) (hx : Row false w A cap xs S) (hok : leavesOk xs = true) (n : Int) (hn : I64 n) (hT : Tabs w) : Calls Tryd.prog 85 #[.slice A xs.length cap, .int .i64 n] w fun e w' => e = .returned (.string (bucketHash xs n)) ∧ Below w.heap.size w w' := by
  have HT := Lib.hid hT
  clear hT
  have HBT := Lib.hid (impl_BucketText w xs A cap S hx hok)
  have htl : (bucketTx xs).size ≤ 20000 := tagText_le _ _
  have HE : Hid (bucketHash xs n = cutDigest (bucketTx xs) n) := Lib.hid rfl
  obtain ⟨t, ht⟩ : ∃ t, bucketTx xs = t := ⟨_, rfl⟩
  rw [ht] at HBT htl HE
  clear ht hok
  go_enter Tryd.func85, Tryd.ntmps85
  go_wp2_with (fail)
  refine HBT.out.mono ?_
  rintro e1 w1 ⟨rfl, hb1⟩
  go_wp2_with (fail)
  refine (impl_CutDigest _ t (by omega) n hn (HT.out.later hb1)).mono ?_
  rintro e2 w2 ⟨rfl, hb2⟩
  have HB := Lib.hid (hb1.trans (hb2.mono hb1.size))
  clear hb1 hb2
  go_wp2
  go_ret
  exact ⟨ret_str (by rw [HE.out]), HB.out⟩
/-- texts, one behind the other -/
def catAll (l : List ByteArray) : ByteArray := l.foldl (· ++ ·) ⟨#[]⟩
theorem catAll_snoc (l : List ByteArray) (s : ByteArray) : catAll (l ++ [s]) = catAll l ++ s := by unfold catAll; rw [List.foldl_append]; rfl
theorem cat_assoc (a b c : ByteArray) : a ++ b ++ c = a ++ (b ++ c) := ByteArray.ext (by simp)
theorem cat_nil (a : ByteArray) : a ++ ⟨#[]⟩ = a := ByteArray.ext (by simp)
def shT (s : ByteArray) : ByteArray := varT s.size ++ s
theorem shT_size {s : ByteArray} (h : s.size ≤ 1000000000) : (shT s).size ≤ s.size + 5 := by unfold shT; rw [ByteArray.size_append]; have := varT_le h; omega
theorem impl_shText (w : World) (s : ByteArray) (hs : s.size ≤ 1000000000) : Calls Tryd.prog 102 #[.string s] w fun e w' => e = .returned (.string (shT s)) ∧ Below w.heap.size w w' := by
  have hv := varT_le hs
  have hc : ¬ 9223372036854775807 < (varT s.size).size + s.size := by omega
  go_enter Tryd.func102, Tryd.ntmps102
  go_wp2_with (fail)
  refine (impl_varText s.size _ hs).mono ?_
  rintro e0 w1 ⟨rfl, hb⟩
  go_wp2
  go_ret
  exact ⟨rfl, hb⟩
def leafT (l : Leaf) : ByteArray := shT l.name ++ shT l.value
def leavesT (xs : List Leaf) : ByteArray := varT xs.length ++ catAll (xs.map leafT)
theorem leavesT_snoc {xs : List Leaf} {k : Nat} (h : k < xs.length) : catAll ((xs.take (k + 1)).map leafT) = catAll ((xs.take k).map leafT) ++ leafT xs[k] := by
  rw [List.take_succ_eq_append_getElem h, List.map_append]; exact catAll_snoc _ _
theorem catAll_le {α : Type} (f : α → ByteArray) (m : Nat) : ∀ (l : List α), (∀ x ∈ l, (f x).size ≤ m) → (catAll (l.map f)).size ≤ l.length * m := by
  suffices h : ∀ (l : List α) (a : ByteArray), (∀ x ∈ l, (f x).size ≤ m) → ((l.map f).foldl (· ++ ·) a).size ≤ a.size + l.length * m by
    intro l hl
    have := h l ⟨#[]⟩ hl
    have e : (⟨#[]⟩ : ByteArray).size = 0 := rfl
    unfold catAll; omega
  intro l
  induction l with
  | nil => intro a _; simp
  | cons x r ih =>
    intro a hl
    have h1 := ih (a ++ f x) (fun y hy => hl y (List.mem_cons_of_mem _ hy))
    have h2 := hl x (List.mem_cons_self ..)
    rw [ByteArray.size_append] at h1
    rw [List.map_cons, List.foldl_cons, List.length_cons, Nat.succ_mul]
    omega
theorem leafT_le {x : Leaf} (h1 : nameOk x.name = true) (h2 : valueOk x.value = true) : (leafT x).size ≤ 34 := by
  have a := name_size h1
  have b := value_size h2
  unfold leafT
  rw [ByteArray.size_append]
  have := shT_size (s := x.name) (by omega)
  have := shT_size (s := x.value) (by omega)
  omega
theorem leavesT_le {xs : List Leaf} (h : leavesOk xs = true) : (leavesT xs).size ≤ 821 := by
  have hl := leavesOk_len h
  have h1 := catAll_le leafT 34 xs (fun x hx => leafT_le (leavesOk_all h x hx).1 (leavesOk_all h x hx).2)
  have h2 := varT_le (n := xs.length) (by omega)
  unfold leavesT
  rw [ByteArray.size_append]; omega
theorem cat_take_le {xs : List Leaf} (h : leavesOk xs = true) (k : Nat) : (catAll ((xs.take k).map leafT)).size ≤ 816 := by
  have hl := leavesOk_len h
  have h1 := catAll_le leafT 34 (xs.take k) (fun x hx => leafT_le (leavesOk_all h x (List.mem_of_mem_take hx)).1 (leavesOk_all h x (List.mem_of_mem_take hx)).2)
  have h2 := List.length_take_le k xs
  have h3 : (xs.take k).length * 34 ≤ 24 * 34 := Nat.mul_le_mul_right _ (by rw [List.length_take]; omega)
  omega
end Go.Proofs.YtojbehmbeoemgaaDoor
