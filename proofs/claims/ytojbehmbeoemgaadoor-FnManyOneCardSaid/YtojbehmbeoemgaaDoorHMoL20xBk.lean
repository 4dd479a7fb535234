/- A part of the proof: what the laws need of it. -/
import Derived.Deep.RegionHeld3
import Derived.Test.YtojbehmbeoemgaaDoorHMoSi
import Derived.Test.YtojbehmbeoemgaaDoorHMoL11xDp
import Derived.Test.YtojbehmbeoemgaaDoorHMoL10xDt
set_option linter.unusedVariables false
set_option linter.unusedSimpArgs false
set_option linter.unusedVariables false
set_option linter.unusedSimpArgs false
namespace Go.Proofs.YtojbehmbeoemgaaDoor
open Go.RowKit Lay Mk
def bucketParts (xs : List Leaf) : List ByteArray := xs.flatMap (fun l => [l.name, l.value])
def bucketKind (xs : List Leaf) : Int := if xs.isEmpty then 1 else 2
def bucketTx (xs : List Leaf) : ByteArray := tagText (bucketKind xs) (bucketParts xs)
def bucketOf (xs : List Leaf) (i : Int) : List Leaf := xs.filter (fun l => decide ((indexOf l.name : Int) = i))
theorem parts_snoc {xs : List Leaf} {k : Nat} (h : k < xs.length) : bucketParts (xs.take (k + 1)) = bucketParts (xs.take k) ++ [xs[k].name, xs[k].value] := by
  unfold bucketParts; rw [List.take_succ_eq_append_getElem h, List.flatMap_append]; simp
theorem parts_len (xs : List Leaf) : (bucketParts xs).length = 2 * xs.length := by
  unfold bucketParts
  induction xs with
  | nil => rfl
  | cons x r ih => rw [List.flatMap_cons, List.length_append, ih]; simp; omega
theorem row_pairB (w : World) (s t : ByteArray) (hs : s.size ≤ maxLen) (ht : t.size ≤ maxLen) (ty : TypeId) (b : Nat) (hb : b = w.heap.size) : Row false (w.alloc (.cells #[.string s, .string t] ty)) (some ⟨b, 0, none⟩) 2 [s, t] (fun q => q = b) := by
  subst hb; exact row_pair w s t hs ht ty
theorem bucket_snoc {xs : List Leaf} {i : Int} {k : Nat} (h : k < xs.length) : bucketOf (xs.take (k + 1)) i = bucketOf (xs.take k) i ++ (if (indexOf xs[k].name : Int) = i then [xs[k]] else []) := by
  unfold bucketOf; rw [List.take_succ_eq_append_getElem h, List.filter_append]
  congr 1
  by_cases hc : (indexOf xs[k].name : Int) = i <;> simp [hc]
set_option maxRecDepth 20000 in set_option maxHeartbeats 4000000 in
theorem impl_bucketText (w : World) (xs : List Leaf) (A : Option Addr) (cap : Nat) (S : Blks) (hx : Row false w A cap xs S) (hl : xs.length ≤ 1048576) : Calls Tryd.prog 127 #[.slice A xs.length cap] w fun e w' => e = .returned (.string (bucketTx xs)) ∧ Below w.heap.size w w' := by
  go_enter Tryd.func127, Tryd.ntmps127
  go_wp2
  have HO := Lib.hid (Own.start (α := ByteArray) (Below.refl w.heap.size w))
  go_loopw [3, 4, 11] (fun z u i wr => ∃ (k : Nat) (kd : Int) (L : List ByteArray) (A2 : Option Addr) (c : Nat), k ≤ xs.length ∧ i = .int .i64 k ∧ z = .int .i64 kd ∧ Hid (kd = if k = 0 then 1 else 2) ∧ u = .slice A2 L.length c ∧ Hid (L = bucketParts (xs.take k)) ∧ L.length ≤ 2 * k ∧ Own w wr A2 c L) (fun _ _ i _ => xs.length - (intOf i).toNat)
  case atStart => exact ⟨0, 1, [], none, 0, by omega, rfl, rfl, Lib.hid rfl, rfl, Lib.hid rfl, by simp, HO.out⟩
  case round =>
    clear HO
    obtain ⟨k, kd, L, A2, c, hk, rfl, rfl, HK, rfl, HL, hLk, hown⟩ := hrel
    have hb := hown.bl
    have HOW := Lib.hid hown
    by_cases hlt : k < xs.length
    · obtain ⟨b1, o1, cc, T1, rfl, hl1, ha, hr, _, _⟩ := Row.at_ hx hlt
      replace ha := ha.keep (hb.block b1 hl1)
      have HN : Hid (bucketParts (xs.take (k + 1)) = L ++ [xs[k].name, xs[k].value]) := Lib.hid (by rw [parts_snoc hlt, HL.out])
      obtain ⟨l, hl_⟩ : ∃ l, xs[k] = l := ⟨_, rfl⟩
      rw [hl_] at hr HN
      clear hl_
      obtain ⟨rfl, f0, f1⟩ := Leaf.open hr
      clear hr
      rw [show Lay.n Leaf = 2 from rfl] at ha
      have e0 := ha 0 _ rfl
      have e1 := ha 1 _ rfl
      simp only [Nat.add_zero] at e0
      have hl3 : b1 < wr.heap.size := Nat.lt_of_lt_of_le hl1 hb.size
      clear ha hown hb
      go_wp2_with (at_builtin; refine wpList_push (α := ByteArray) rfl _ _ rfl rfl rfl ((HOW.out.alloc _).alloc _) rfl rfl (Src.flat (row_pairB _ l.name l.value f0 f1 _ _ (by first | rfl | simp))) (by simp; omega) ?_; intro A6 c6 w6 o6 z6)
      go_roundw
      case rel => exact ⟨k + 1, 2, L ++ [l.name, l.value], A6, c6, hlt, by go_num, rfl, Lib.hid (by simp), by simp, Lib.hid HN.out.symm, by simp; omega, o6⟩
      case measure => simp [intOf]; omega
    · have hke : k = xs.length := by omega
      have HE : Hid (bucketTx xs = tagText kd L) := Lib.hid (by
        unfold bucketTx bucketKind
        rw [HL.out, HK.out, List.take_of_length_le (by omega), hke]
        congr 1
        cases xs <;> simp)
      have hki : I64 kd := by rw [HK.out]; unfold I64; split <;> omega
      clear hown hb HK HL
      go_wp2_with (fail)
      refine (impl_TagText _ kd hki L A2 c _ HOW.out.weak (by omega)).mono ?_
      rintro e5 w5 ⟨rfl, hb5⟩
      go_wp2
      go_ret
      exact ⟨ret_str (by rw [HE.out]), HOW.out.bl.trans (hb5.mono HOW.out.size)⟩
set_option maxRecDepth 20000 in set_option maxHeartbeats 4000000 in
theorem spec_BucketText (w : World) (xs : List Leaf) (A : Option Addr) (cap : Nat) (S : Blks) (hx : Row false w A cap xs S) (hl : xs.length ≤ 1048576) (hz : szL xs ≤ 1048576) (hok : leavesOk xs = true) : Calls Tryd.prog 136 #[.slice A xs.length cap] w fun e w' => e = .returned (.tuple #[.string (bucketTx xs), .bool (tagOk (bucketKind xs) (bucketParts xs))]) ∧ Below w.heap.size w w' := by
  have HLV := Lib.hid (spec_LeavesOk w xs A cap S hx (by omega))
  rw [hok] at HLV
  clear hok
  by_cases h0 : xs.length = 0
  · have HE : Hid (bucketTx xs = tagText 1 [] ∧ tagOk (bucketKind xs) (bucketParts xs) = tagOk 1 []) := Lib.hid (by cases xs with | nil => exact ⟨rfl, rfl⟩ | cons a b => simp at h0)
    rw [h0] at HLV ⊢
    clear h0 hl
    go_enter Tryd.func136, Tryd.ntmps136
    go_wp2_with (fail)
    refine HLV.out.mono ?_
    rintro e0 w0 ⟨rfl, hb0⟩
    have HB0 := Lib.hid hb0
    go_wp2_with (fail)
    refine (spec_TagText _ 1 (by unfold I64; omega) [] _ _ _ (Row.weak (row_lit0 w0 9 (fun b => w0.heap.size ≤ b) rfl (Nat.le_refl _))) (by simp)).mono ?_
    rintro e5 w5 ⟨rfl, hb5⟩
    go_wp2
    go_ret2
    exact ⟨by rw [HE.out.1, HE.out.2]; rfl, (HB0.out.alloc HB0.out.size _).trans (hb5.mono (by have := HB0.out.size; simp; omega))⟩
  have hpos : (0 : Int) < (xs.length : Int) := by omega
  have hq0 : ((xs.length : Int) == 0) = false := by rw [beq_eq_false_iff_ne]; omega
  have HE : Hid (bucketTx xs = tagText 2 (bucketParts xs) ∧ tagOk (bucketKind xs) (bucketParts xs) = tagOk 2 (bucketParts xs)) := Lib.hid (by cases xs with | nil => simp at h0 | cons a b => exact ⟨rfl, rfl⟩)
  clear h0
  go_enter Tryd.func136, Tryd.ntmps136
  go_wp2_with (fail)
  refine HLV.out.mono ?_
  rintro e0 w0 ⟨rfl, hb0⟩
  have HB0 := Lib.hid hb0
  have HO := Lib.hid (Own.litAt (α := ByteArray) (Below.refl w0.heap.size w0) 9 rfl (b := w0.heap.size) rfl)
  replace hx := Row.later hx hb0
  clear hb0
  go_wp2_with (fail)
  go_loopw [4, 5] (fun u i wr => ∃ (k : Nat) (L : List ByteArray) (A2 : Option Addr) (c : Nat), k ≤ xs.length ∧ i = .int .i64 k ∧ u = .slice A2 L.length c ∧ Hid (L = bucketParts (xs.take k)) ∧ L.length ≤ 2 * k ∧ Own w0 wr A2 c L) (fun _ i _ => xs.length - (intOf i).toNat)
  case atStart => exact ⟨0, [], some ⟨w0.heap.size, 0, none⟩, 0, by omega, rfl, rfl, Lib.hid rfl, by simp, HO.out⟩
  case round =>
    clear HO
    obtain ⟨k, L, A2, c, hk, rfl, rfl, HL, hLk, hown⟩ := hrel
    have hb := hown.bl
    have HOW := Lib.hid hown
    by_cases hlt : k < xs.length
    · obtain ⟨b1, o1, cc, T1, rfl, hl1, ha, hr, _, _⟩ := Row.at_ hx hlt
      have HN : Hid (bucketParts (xs.take (k + 1)) = L ++ [xs[k].name, xs[k].value]) := Lib.hid (by rw [parts_snoc hlt, HL.out])
      obtain ⟨l, hl_⟩ : ∃ l, xs[k] = l := ⟨_, rfl⟩
      rw [hl_] at hr HN
      clear hl_
      obtain ⟨rfl, f0, f1⟩ := Leaf.open hr
      clear hr
      rw [show Lay.n Leaf = 2 from rfl] at ha
      have e0 := ha 0 _ rfl
      have e1 := ha 1 _ rfl
      simp only [Nat.add_zero] at e0
      have hki : (k : Int) < (xs.length : Int) := by omega
      have hk0 : (0 : Int) ≤ (k : Int) := by omega
      have hB := Below.refl wr.heap.size wr
      have hBw := hb
      have hBws := hb.size
      have HM := Lib.hid (fun (w' : World) (h : Below w0.heap.size w0 w') => (⟨(h.cell (p := ⟨b1, o1 + k * 2, none⟩) hl1).trans e0, (h.cell (p := ⟨b1, o1 + k * 2 + 1, none⟩) hl1).trans e1, h⟩ : w'.cell? ⟨b1, o1 + k * 2, none⟩ = some (.string l.name) ∧ w'.cell? ⟨b1, o1 + k * 2 + 1, none⟩ = some (.string l.value) ∧ Below w0.heap.size w0 w'))
      clear ha hown hb e0 e1
      go_wp2_with (fail)
      go_region_held3 (fun w' => w'.cell? ⟨b1, o1 + k * 2, none⟩ = some (.string l.name) ∧ w'.cell? ⟨b1, o1 + k * 2 + 1, none⟩ = some (.string l.value) ∧ Below w0.heap.size w0 w')
        (first | exact HM.out _ hE | exact HM.out _ (hBw.trans (Below.mono (w := wr) (by (repeat (first | with_reducible exact hB | with_reducible apply Below.drew | with_reducible refine Below.alloc ?_ ?_ _)); all_goals (first | omega | (simp; done) | (simp; omega))) hBws)))
        (((refine step_push (α := ByteArray) (w0 := w0) rfl _ _ rfl rfl rfl (HOW.out.later (by (repeat (first | with_reducible exact hB | with_reducible apply Below.drew | with_reducible refine Below.alloc ?_ ?_ _)); all_goals (first | omega | (simp; done) | (simp; omega)))) rfl rfl (Src.flat (by first | exact row_pairB _ l.name l.value f0 f1 _ _ (by first | rfl | simp) | exact Row.drewC (row_pairB _ l.name l.value f0 f1 _ _ (by first | rfl | simp)))) (by simp; omega) ?_); intro A6 c6 w6 o6 hE))
      go_wp2
      go_roundw
      case rel => exact ⟨k + 1, L ++ [l.name, l.value], A6, c6, hlt, by go_num, by simp, Lib.hid HN.out.symm, by simp; omega, o6⟩
      case measure => simp [intOf]; omega
    · have HE2 : Hid (bucketParts xs = L) := Lib.hid (by rw [HL.out, List.take_of_length_le (by omega)])
      clear hown hb HL
      go_wp2_with (fail)
      refine (spec_TagText _ 2 (by unfold I64; omega) L A2 c _ HOW.out.weak (by omega)).mono ?_
      rintro e5 w5 ⟨rfl, hb5⟩
      go_wp2
      go_ret2
      exact ⟨by rw [HE.out.1, HE.out.2, HE2.out]; rfl, HB0.out.trans ((HOW.out.bl.trans (hb5.mono HOW.out.size)).mono HB0.out.size)⟩
theorem leaf_size {xs : List Leaf} {k : Nat} (hk : k < xs.length) (hz : szL xs ≤ 1048576) : xs[k].name.size ≤ 1048576 := by
  have h1 := sz_le_L xs k hk
  have h2 : Mk.sz xs[k] = xs[k].sz := rfl
  simp only [Leaf.sz] at h2
  omega
set_option maxRecDepth 20000 in set_option maxHeartbeats 4000000 in
theorem impl_BucketOf (w : World) (xs : List Leaf) (A : Option Addr) (cap : Nat) (S : Blks) (hx : Row false w A cap xs S) (hl : xs.length ≤ 1048576) (hz : szL xs ≤ 1048576) (ix : Int) (hT : Tabs w) : Calls Tryd.prog 72 #[.slice A xs.length cap, .int .i64 ix] w (OwnRes (bucketOf xs ix) w) := by
  have HT := Lib.hid hT
  clear hT
  go_enter Tryd.func72, Tryd.ntmps72
  go_wp2
  have HO := Lib.hid (Own.start (α := Leaf) (Below.refl w.heap.size w))
  go_loopw [5, 10] (fun u i wr => ∃ (k : Nat) (L : List Leaf) (A2 : Option Addr) (c : Nat), k ≤ xs.length ∧ i = .int .i64 k ∧ u = .slice A2 L.length c ∧ Hid (L = bucketOf (xs.take k) ix) ∧ L.length ≤ k ∧ Own w wr A2 c L) (fun _ i _ => xs.length - (intOf i).toNat)
  case atStart => exact ⟨0, [], none, 0, by omega, rfl, rfl, Lib.hid rfl, by simp, HO.out⟩
  case round =>
    clear HO
    obtain ⟨k, L, A2, c, hk, rfl, rfl, HL, hLk, hown⟩ := hrel
    have hb := hown.bl
    have HOW := Lib.hid hown
    by_cases hlt : k < xs.length
    · obtain ⟨b1, o1, cc, T1, rfl, hl1, ha, hr, _, _⟩ := Row.at_ hx hlt
      replace ha := ha.keep (hb.block b1 hl1)
      have hsz := leaf_size hlt hz
      have HN := Lib.hid (bucket_snoc (i := ix) hlt)
      obtain ⟨l, hl_⟩ : ∃ l, xs[k] = l := ⟨_, rfl⟩
      rw [hl_] at hr HN hsz
      clear hl_
      obtain ⟨rfl, f0, f1⟩ := Leaf.open hr
      have hok : Flat.ok l := (⟨f0, f1⟩ : l.name.size ≤ maxLen ∧ l.value.size ≤ maxLen)
      clear hr
      rw [show Lay.n Leaf = 2 from rfl] at ha
      have e0 := ha 0 _ rfl
      have e1 := ha 1 _ rfl
      simp only [Nat.add_zero] at e0
      have hl3 : b1 < wr.heap.size := Nat.lt_of_lt_of_le hl1 hb.size
      have HIX := Lib.hid (fun W (h' : Below wr.heap.size wr W) => impl_IndexOf W l.name (by omega) (HT.out.later (hb.trans (h'.mono hb.size))))
      obtain ⟨z, hzz⟩ : ∃ z, indexOf l.name = z := ⟨_, rfl⟩
      rw [hzz] at HIX HN
      have HBl := Lib.hid hb
      clear hzz ha hown hb
      by_cases hc : (z : Int) = ix
      · have HN2 : Hid (bucketOf (xs.take (k + 1)) ix = L ++ [l]) := Lib.hid (by rw [HN.out, if_pos hc, HL.out])
        have hq : ((z : Int) == ix) = true := beq_iff_eq.2 hc
        clear hc HN
        go_wp2_with (fail)
        refine (HIX.out _ ((Below.refl _ _).alloc (Nat.le_refl _) _)).mono ?_
        rintro e5 w5 ⟨rfl, hb5⟩
        have HO5 := Lib.hid ((HOW.out.alloc _).later hb5)
        replace e0 := (hb5.cell (p := ⟨wr.heap.size, 0, none⟩) (by simp)).trans (box_cell wr #[.string l.name, .string l.value] _ 0 _ rfl)
        replace e1 := (hb5.cell (p := ⟨wr.heap.size, 1, none⟩) (by simp)).trans (box_cell wr #[.string l.name, .string l.value] _ 1 _ rfl)
        clear hb5
        go_wp2_with (at_builtin; refine wpList_push (α := Leaf) rfl _ _ rfl rfl rfl (HO5.out.alloc _) rfl rfl (src1 hok (by first | rfl | simp) rfl) (by omega) ?_; intro A6 c6 w6 o6 z6)
        go_roundw
        case rel => exact ⟨k + 1, L ++ [l], A6, c6, hlt, by go_num, by simp, Lib.hid HN2.out.symm, by simp; omega, o6⟩
        case measure => simp [intOf]; omega
      · have HN2 : Hid (bucketOf (xs.take (k + 1)) ix = L) := Lib.hid (by rw [HN.out, if_neg hc, HL.out, List.append_nil])
        have hq : ((z : Int) == ix) = false := beq_eq_false_iff_ne.2 hc
        clear hc HN
        go_wp2_with (fail)
        refine (HIX.out _ ((Below.refl _ _).alloc (Nat.le_refl _) _)).mono ?_
        rintro e5 w5 ⟨rfl, hb5⟩
        have HO5 := Lib.hid ((HOW.out.alloc _).later hb5)
        replace e0 := (hb5.cell (p := ⟨wr.heap.size, 0, none⟩) (by simp)).trans (box_cell wr #[.string l.name, .string l.value] _ 0 _ rfl)
        replace e1 := (hb5.cell (p := ⟨wr.heap.size, 1, none⟩) (by simp)).trans (box_cell wr #[.string l.name, .string l.value] _ 1 _ rfl)
        clear hb5
        go_wp2
        go_roundw
        case rel => exact ⟨k + 1, L, A2, c, hlt, by go_num, rfl, Lib.hid HN2.out.symm, by omega, HO5.out⟩
        case measure => simp [intOf]; omega
    · have HE : Hid (bucketOf xs ix = L) := Lib.hid (by rw [HL.out, List.take_of_length_le (by omega)])
      clear hown hb
      go_wp2
      go_ret
      exact OwnRes.mk HOW.out HE.out rfl
set_option maxRecDepth 20000 in set_option maxHeartbeats 4000000 in
theorem spec_BucketOf (w : World) (xs : List Leaf) (A : Option Addr) (cap : Nat) (S : Blks) (hx : Row false w A cap xs S) (hl : xs.length ≤ 1048576) (hz : szL xs ≤ 1048576) (ix : Int) : Calls Tryd.prog 76 #[.slice A xs.length cap, .int .i64 ix] w (OwnRes (bucketOf xs ix) w) := by
  go_enter Tryd.func76, Tryd.ntmps76
  go_wp2
  have HO := Lib.hid (Own.litAt (α := Leaf) (Below.refl w.heap.size w) 110 rfl (b := w.heap.size) rfl)
  go_loopw [5, 6] (fun u i wr => ∃ (k : Nat) (L : List Leaf) (A2 : Option Addr) (c : Nat), k ≤ xs.length ∧ i = .int .i64 k ∧ u = .slice A2 L.length c ∧ Hid (L = bucketOf (xs.take k) ix) ∧ L.length ≤ k ∧ Own w wr A2 c L) (fun _ i _ => xs.length - (intOf i).toNat)
  case atStart => exact ⟨0, [], some ⟨w.heap.size, 0, none⟩, 0, by omega, rfl, rfl, Lib.hid rfl, by simp, HO.out⟩
  case round =>
    clear HO
    obtain ⟨k, L, A2, c, hk, rfl, rfl, HL, hLk, hown⟩ := hrel
    have hb := hown.bl
    have HOW := Lib.hid hown
    by_cases hlt : k < xs.length
    · obtain ⟨b1, o1, cc, T1, rfl, hl1, ha, hr, _, _⟩ := Row.at_ hx hlt
      replace ha := ha.keep (hb.block b1 hl1)
      have hsz := leaf_size hlt hz
      have HN := Lib.hid (bucket_snoc (i := ix) hlt)
      obtain ⟨l, hl_⟩ : ∃ l, xs[k] = l := ⟨_, rfl⟩
      rw [hl_] at hr HN hsz
      clear hl_
      obtain ⟨rfl, f0, f1⟩ := Leaf.open hr
      have hok : Flat.ok l := (⟨f0, f1⟩ : l.name.size ≤ maxLen ∧ l.value.size ≤ maxLen)
      clear hr
      rw [show Lay.n Leaf = 2 from rfl] at ha
      have e0 := ha 0 _ rfl
      have e1 := ha 1 _ rfl
      simp only [Nat.add_zero] at e0
      have hl3 : b1 < wr.heap.size := Nat.lt_of_lt_of_le hl1 hb.size
      have HIX := Lib.hid (fun W (h' : Below wr.heap.size wr W) => spec_IndexOf W l.name (by omega))
      obtain ⟨z, hzz⟩ : ∃ z, indexOf l.name = z := ⟨_, rfl⟩
      rw [hzz] at HIX HN
      have HBl := Lib.hid hb
      clear hzz ha hown hb
      by_cases hc : (z : Int) = ix
      · have HN2 : Hid (bucketOf (xs.take (k + 1)) ix = L ++ [l]) := Lib.hid (by rw [HN.out, if_pos hc, HL.out])
        have hq : ((z : Int) == ix) = true := beq_iff_eq.2 hc
        clear hc HN
        go_wp2_with (fail)
        refine (HIX.out _ (Below.refl _ _)).mono ?_
        rintro e5 w5 ⟨rfl, hb5⟩
        have HO5 := Lib.hid ((HOW.out).later hb5)
        replace e0 := (hb5.cell (p := ⟨b1, o1 + k * 2, none⟩) hl3).trans e0
        replace e1 := (hb5.cell (p := ⟨b1, o1 + k * 2 + 1, none⟩) hl3).trans e1
        clear hb5
        go_wp2_with (at_builtin; refine wpList_push (α := Leaf) rfl _ _ rfl rfl rfl (HO5.out.alloc _) rfl rfl (src1 hok (by first | rfl | simp) rfl) (by omega) ?_; intro A6 c6 w6 o6 z6)
        go_roundw
        case rel => exact ⟨k + 1, L ++ [l], A6, c6, hlt, by go_num, by simp, Lib.hid HN2.out.symm, by simp; omega, o6⟩
        case measure => simp [intOf]; omega
      · have HN2 : Hid (bucketOf (xs.take (k + 1)) ix = L) := Lib.hid (by rw [HN.out, if_neg hc, HL.out, List.append_nil])
        have hq : ((z : Int) == ix) = false := beq_eq_false_iff_ne.2 hc
        clear hc HN
        go_wp2_with (fail)
        refine (HIX.out _ (Below.refl _ _)).mono ?_
        rintro e5 w5 ⟨rfl, hb5⟩
        have HO5 := Lib.hid ((HOW.out).later hb5)
        replace e0 := (hb5.cell (p := ⟨b1, o1 + k * 2, none⟩) hl3).trans e0
        replace e1 := (hb5.cell (p := ⟨b1, o1 + k * 2 + 1, none⟩) hl3).trans e1
        clear hb5
        go_wp2
        go_roundw
        case rel => exact ⟨k + 1, L, A2, c, hlt, by go_num, rfl, Lib.hid HN2.out.symm, by omega, HO5.out⟩
        case measure => simp [intOf]; omega
    · have HE : Hid (bucketOf xs ix = L) := Lib.hid (by rw [HL.out, List.take_of_length_le (by omega)])
      clear hown hb
      go_wp2
      go_ret
      exact OwnRes.mk HOW.out HE.out rfl
end Go.Proofs.YtojbehmbeoemgaaDoor

set_option linter.unusedVariables false
set_option linter.unusedSimpArgs false
namespace Go.Proofs.YtojbehmbeoemgaaDoor
open Go.RowKit Lay Mk
theorem row_pairAt (w : World) (s t : ByteArray) (hs : s.size ≤ maxLen) (ht : t.size ≤ maxLen) (ty : TypeId) (b : Nat) (hb : b = w.heap.size) : Row false (w.alloc (.cells #[.string s, .string t] ty)) (some ⟨b, 0, none⟩) 2 [s, t] (fun q => q = b) := by
  subst hb; exact row_pair w s t hs ht ty
end Go.Proofs.YtojbehmbeoemgaaDoor
