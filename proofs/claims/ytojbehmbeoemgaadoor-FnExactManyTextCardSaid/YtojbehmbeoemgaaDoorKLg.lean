/- Walks: entries: looking up, taking out, copying. -/
import Derived.Test.YtojbehmbeoemgaaDoorKLf
set_option linter.unusedVariables false
set_option linter.unusedSimpArgs false
namespace Go.Proofs.YtojbehmbeoemgaaDoor
open Go.RowKit Lay Mk
def nameIs (n : ByteArray) (x : Leaf) : Bool := decide (x.name = n)
def nameNe (n : ByteArray) (x : Leaf) : Bool := !decide (x.name = n)
def leafGet (xs : List Leaf) (n : ByteArray) : ByteArray × Bool := match xs.find? (nameIs n) with | some x => (x.value, true) | none => (⟨#[]⟩, false)
def leafWithout (xs : List Leaf) (n : ByteArray) : List Leaf := xs.filter (nameNe n)
theorem without_all (xs : List Leaf) (n : ByteArray) : foldT (gath (nameNe n) id) [] xs xs.length = leafWithout xs n := by rw [foldT_all, gath_fold]; simp [leafWithout]
theorem leafGet_hit {xs : List Leaf} {n : ByteArray} {x : Leaf} (h : xs.find? (nameIs n) = some x) : leafGet xs n = (x.value, true) := by simp [leafGet, h]
theorem leafGet_miss {xs : List Leaf} {n : ByteArray} (h : xs.find? (nameIs n) = none) : leafGet xs n = (⟨#[]⟩, false) := by simp [leafGet, h]
theorem find_zero {α : Type} {p : α → Bool} {xs : List α} : (xs.take 0).find? p = none := rfl
theorem Src.flat2 {α : Type} [Lay α] [Flat α] {m : Bool} {w : World} {A : Option Addr} {cap : Nat} {xs : List α} {S : Blks} (h : Row m w A cap xs S) : Src w A xs none_ := Src.flat h

set_option maxRecDepth 20000 in set_option maxHeartbeats 4000000 in
theorem impl_LeafGet (w : World) (xs : List Leaf) (A0 : Option Addr) (cap0 : Nat) (S : Blks) (hx : Row false w A0 cap0 xs S) (hl : xs.length ≤ 2000000000) (nm : ByteArray) (_hn : nm.size ≤ maxLen) : Calls Tryd.prog 63 #[.slice A0 xs.length cap0, .string nm] w fun e w' => e = .returned (.tuple #[.string (leafGet xs nm).1, .bool (leafGet xs nm).2]) ∧ Below w.heap.size w w' := by
  go_enter Tryd.func63, Tryd.ntmps63
  go_wp2
  go_loopw [10] (fun i wr => ∃ k : Nat, k ≤ xs.length ∧ i = .int .i64 k ∧ Hid ((xs.take k).find? (nameIs nm) = none) ∧ Below w.heap.size w wr) (fun i _ => xs.length - (intOf i).toNat)
  case atStart => exact ⟨0, Nat.zero_le _, rfl, Lib.hid rfl, Below.refl _ _⟩
  case round =>
    obtain ⟨k, hk, rfl, hf, hb⟩ := hrel
    have hz := hb.size
    by_cases hlt : k < xs.length
    · obtain ⟨b1, o1, e1, hl1, c0, c1, t0, t1⟩ := Row.atLeaf hx hlt
      subst e1
      replace c0 := (hb.cell (p := ⟨b1, o1 + k * 2, none⟩) hl1).trans c0
      replace c1 := (hb.cell (p := ⟨b1, o1 + k * 2 + 1, none⟩) hl1).trans c1
      have hl2 : b1 < wr.heap.size := Nat.lt_of_lt_of_le hl1 hz
      have hH := Lib.hid (find_hit hlt hf.out)
      have hN := Lib.hid (find_next hlt hf.out)
      obtain ⟨x, hxx⟩ : ∃ x, xs[k] = x := ⟨_, rfl⟩
      rw [hxx] at c0 c1 t0 t1 hN hH
      clear hxx
      by_cases hc : x.name = nm
      · have HR := Lib.hid (leafGet_hit (hH.out (by simpa [nameIs] using hc)))
        have hsb := str_eq hc
        clear hc
        go_wp2
        go_ret2
        exact ⟨by rw [HR.out]; rfl, (hb.alloc hz _)⟩
      · have HN := Lib.hid (hN.out (by simpa [nameIs] using hc))
        have hsb := str_ne hc
        clear hc
        go_wp2
        go_roundw
        case rel => exact ⟨k + 1, by omega, by go_num, HN, (hb.alloc hz _)⟩
        case measure => simp [intOf]; omega
    · have hke : k = xs.length := by omega
      subst hke
      have HR := Lib.hid (leafGet_miss (find_all hf.out))
      go_wp2
      go_ret2
      exact ⟨by rw [HR.out]; rfl, hb⟩

set_option maxRecDepth 20000 in set_option maxHeartbeats 4000000 in
theorem spec_LeafGet (w : World) (xs : List Leaf) (A0 : Option Addr) (cap0 : Nat) (S : Blks) (hx : Row false w A0 cap0 xs S) (hl : xs.length ≤ 2000000000) (nm : ByteArray) (_hn : nm.size ≤ maxLen) : Calls Tryd.prog 60 #[.slice A0 xs.length cap0, .string nm] w fun e w' => e = .returned (.tuple #[.string (leafGet xs nm).1, .bool (leafGet xs nm).2]) ∧ Below w.heap.size w w' := by
  go_enter Tryd.func60, Tryd.ntmps60
  go_wp2
  go_loopw [6] (fun i wr => ∃ k : Nat, k ≤ xs.length ∧ i = .int .i64 k ∧ Hid ((xs.take k).find? (nameIs nm) = none) ∧ Below w.heap.size w wr) (fun i _ => xs.length - (intOf i).toNat)
  case atStart => exact ⟨0, Nat.zero_le _, rfl, Lib.hid rfl, Below.refl _ _⟩
  case round =>
    obtain ⟨k, hk, rfl, hf, hb⟩ := hrel
    have hz := hb.size
    by_cases hlt : k < xs.length
    · obtain ⟨b1, o1, e1, hl1, c0, c1, t0, t1⟩ := Row.atLeaf hx hlt
      subst e1
      replace c0 := (hb.cell (p := ⟨b1, o1 + k * 2, none⟩) hl1).trans c0
      replace c1 := (hb.cell (p := ⟨b1, o1 + k * 2 + 1, none⟩) hl1).trans c1
      have hl2 : b1 < wr.heap.size := Nat.lt_of_lt_of_le hl1 hz
      have hH := Lib.hid (find_hit hlt hf.out)
      have hN := Lib.hid (find_next hlt hf.out)
      obtain ⟨x, hxx⟩ : ∃ x, xs[k] = x := ⟨_, rfl⟩
      rw [hxx] at c0 c1 t0 t1 hN hH
      clear hxx
      by_cases hc : x.name = nm
      · have HR := Lib.hid (leafGet_hit (hH.out (by simpa [nameIs] using hc)))
        have hsb := str_eq hc
        clear hc
        go_wp2
        go_ret2
        exact ⟨by rw [HR.out]; rfl, hb⟩
      · have HN := Lib.hid (hN.out (by simpa [nameIs] using hc))
        have hsb := str_ne hc
        clear hc
        go_wp2
        go_roundw
        case rel => exact ⟨k + 1, by omega, by go_num, HN, hb⟩
        case measure => simp [intOf]; omega
    · have hke : k = xs.length := by omega
      subst hke
      have HR := Lib.hid (leafGet_miss (find_all hf.out))
      go_wp2
      go_ret2
      exact ⟨by rw [HR.out]; rfl, hb⟩

set_option maxRecDepth 20000 in set_option maxHeartbeats 8000000 in
theorem spec_l09Without (w : World) (xs : List Leaf) (A0 : Option Addr) (cap0 : Nat) (S : Blks) (hx : Row false w A0 cap0 xs S) (hl : xs.length ≤ 2000000000) (nm : ByteArray) (_hn : nm.size ≤ maxLen) : Calls Tryd.prog 150 #[.slice A0 xs.length cap0, .string nm] w fun e w' => ∃ A' cap', e = .returned (.slice A' (leafWithout xs nm).length cap') ∧ (leafWithout xs nm).length ≤ cap' ∧ cap' ≤ maxLen ∧ Row true w' A' cap' (leafWithout xs nm) (rng w.heap.size w'.heap.size) ∧ Below w.heap.size w w' := by
  go_enter Tryd.func150, Tryd.ntmps150
  go_wp2
  go_loopw [5, 6] (fun u i wr => ∃ (k : Nat) (ys : List Leaf) (A : Option Addr) (cap : Nat), k ≤ xs.length ∧ i = .int .i64 k ∧ u = .slice A ys.length cap ∧ Hid (ys = [] ++ foldT (gath (nameNe nm) id) [] xs k) ∧ ys.length ≤ 0 + k ∧ ys.length ≤ cap ∧ cap ≤ maxLen ∧ Row true wr A cap ys (nw w.heap.size) ∧ Chg (nw w.heap.size) w wr) (fun _ i _ => xs.length - (intOf i).toNat)
  case atStart => exact ⟨0, [], _, _, Nat.zero_le _, rfl, rfl, Lib.hid (by simp [foldT]), by simp, by simp, by decide, row_lit0 _ _ _ rfl (Nat.le_refl _), (Chg.refl _ _).alloc _⟩
  case round =>
    obtain ⟨k, ys, A, cap, hk, rfl, rfl, hys, hyk, hle, hcm2, hrow, hch⟩ := hrel
    have hz := hch.size
    by_cases hlt : k < xs.length
    · obtain ⟨b1, o1, e1, hl1, hS1, c0, c1, t0, t1⟩ := Row.inLeaf hx hlt
      subst e1
      have hnO : ¬ (nw w.heap.size) b1 := (fun h => by unfold nw at h; omega)
      replace c0 := (hch.cell (o := o1 + k * 2) hl1 hnO).trans c0
      replace c1 := (hch.cell (o := o1 + k * 2 + 1) hl1 hnO).trans c1
      have hl2 : b1 < wr.heap.size := Nat.lt_of_lt_of_le hl1 hz
      have hN := Lib.hid (gathT_no (p := (nameNe nm)) (g := id) hlt)
      have hY := Lib.hid (gathT_yes (p := (nameNe nm)) (g := id) hlt)
      obtain ⟨x, hxx⟩ : ∃ x, xs[k] = x := ⟨_, rfl⟩
      rw [hxx] at c0 c1 t0 t1 hN hY
      clear hxx
      have hok : Flat.ok x := (⟨t0, t1⟩ : x.name.size ≤ maxLen ∧ x.value.size ≤ maxLen)
      have hz2 : w.heap.size ≤ (wr.alloc (.cells #[.string x.name, .string x.value] 110)).heap.size := by simp; omega
      by_cases hc : (nameNe nm) x = true
      · have HY := Lib.hid (hY.out hc)
        have hsb : (x.name.toList == nm.toList) = false := str_ne (by simpa [nameNe] using hc)
        clear hc
        go_wp2_with (at_builtin; refine wpList_app (α := Leaf) rfl _ _ rfl rfl rfl (hrow.allocC _) hle hcm2 rfl rfl (src_newb _ x hok _ _ _ (by first | rfl | simp) rfl) (disj_none_ _) (by omega) ?_; intro A' cap' w' h1 h2 h3 h4)
        go_roundw
        case rel => exact ⟨k + 1, ys ++ [x], A', cap', by omega, by go_num, by simp, Lib.hid (by rw [HY.out, hys.out]; simp), by simp; omega, by simpa using h1, h2, row_og h3 (fun b hb => (fun b h => h) b (Nat.le_trans hz2 hb)), (hch.alloc _).trans h4⟩
        case measure => simp [intOf]; omega
      · have hc : (nameNe nm) x = false := by simpa using hc
        have HN := Lib.hid (hN.out hc)
        have hsb : (x.name.toList == nm.toList) = true := str_eq (by simpa [nameNe] using hc)
        clear hc
        go_wp2
        go_roundw
        case rel => exact ⟨k + 1, ys, A, cap, by omega, by go_num, rfl, Lib.hid (by rw [HN.out, hys.out]), by omega, hle, hcm2, hrow, hch⟩
        case measure => simp [intOf]; omega
    · have hke : k = xs.length := by omega
      subst hke
      have hyy : ys = leafWithout xs nm := by rw [hys.out, without_all]; rfl
      subst hyy
      go_wp2
      go_ret
      exact ⟨A, cap, rfl, hle, hcm2, to_rng hrow, hch.to_below (Nat.le_refl _) (fun b h => h)⟩

end Go.Proofs.YtojbehmbeoemgaaDoor
