/- Walks: entries: looking up, taking out, copying. -/
import Derived.Test.YtcbbjfafmmcfiaaGreatDoorKLf
set_option linter.unusedVariables false
set_option linter.unusedSimpArgs false
namespace Go.Proofs.YtcbbjfafmmcfiaaGreatDoor
open Go.RowKit Lay Mk
def nameIs (n : ByteArray) (x : Leaf) : Bool := decide (x.name = n)
def nameNe (n : ByteArray) (x : Leaf) : Bool := !decide (x.name = n)
def leafGet (xs : List Leaf) (n : ByteArray) : ByteArray × Bool := match xs.find? (nameIs n) with | some x => (x.value, true) | none => (⟨#[]⟩, false)
def leafWithout (xs : List Leaf) (n : ByteArray) : List Leaf := xs.filter (nameNe n)
theorem without_all (xs : List Leaf) (n : ByteArray) : foldT (gath (nameNe n) id) [] xs xs.length = leafWithout xs n := by rw [foldT_all, gath_fold]; simp [leafWithout]
theorem leafGet_hit {xs : List Leaf} {n : ByteArray} {x : Leaf} (h : xs.find? (nameIs n) = some x) : leafGet xs n = (x.value, true) := by simp [leafGet, h]
theorem leafGet_miss {xs : List Leaf} {n : ByteArray} (h : xs.find? (nameIs n) = none) : leafGet xs n = (⟨#[]⟩, false) := by simp [leafGet, h]
theorem find_zero {α : Type} {p : α → Bool} {xs : List α} : (xs.take 0).find? p = none := rfl
theorem Src.flat2 {α : Type} [Lay α] [Flat α] {m : Bool} {w : World} {A : Option Addr} {cap : Nat} {xs : List α} {S : Blks} (h : Row m w A cap xs S) : Src w A xs none_ := Src.flat h

set_option maxRecDepth 20000 in set_option maxHeartbeats 4000000 in
theorem impl_LeafGet (w : World) (xs : List Leaf) (A0 : Option Addr) (cap0 : Nat) (S : Blks) (hx : Row false w A0 cap0 xs S) (hl : xs.length ≤ 2000000000) (nm : ByteArray) (_hn : nm.size ≤ maxLen) : Calls Tryz.prog 264 #[.slice A0 xs.length cap0, .string nm] w fun e w' => e = .returned (.tuple #[.string (leafGet xs nm).1, .bool (leafGet xs nm).2]) ∧ Below w.heap.size w w' := by
  go_enter Tryz.func264, Tryz.ntmps264
  go_wp2
  go_loopw [10] (fun i wr => ∃ k : Nat, k ≤ xs.length ∧ i = .int .i64 k ∧ Hid ((xs.take k).find? (nameIs nm) = none) ∧ Below w.heap.size w wr) (fun i _ => xs.length - (intOf i).toNat)
  case atStart => exact ⟨0, Nat.zero_le _, rfl, Lib.hid rfl, Below.refl _ _⟩
  case round =>
    obtain ⟨k, hk, rfl, hf, hb⟩ := hrel
    have hz := hb.size
    by_cases hlt : k < xs.length
    · obtain ⟨b1, o1, e1, hl1, c0, c1, t0, t1⟩ := Row.atLeaf hx hlt
      subst e1
      replace c0 := (hb.cell (p := ⟨b1, o1 + k * 2, none⟩) hl1).trans c0
      replace c1 := (hb.cell (p := ⟨b1, o1 + k * 2 + 1, none⟩) hl1).trans c1
      have hl2 : b1 < wr.heap.size := Nat.lt_of_lt_of_le hl1 hz
      have hH := Lib.hid (find_hit hlt hf.out)
      have hN := Lib.hid (find_next hlt hf.out)
      obtain ⟨x, hxx⟩ : ∃ x, xs[k] = x := ⟨_, rfl⟩
      rw [hxx] at c0 c1 t0 t1 hN hH
      clear hxx
      by_cases hc : x.name = nm
      · have HR := Lib.hid (leafGet_hit (hH.out (by simpa [nameIs] using hc)))
        have hsb := str_eq hc
        clear hc
        go_wp2
        go_ret2
        exact ⟨by rw [HR.out]; rfl, (hb.alloc hz _)⟩
      · have HN := Lib.hid (hN.out (by simpa [nameIs] using hc))
        have hsb := str_ne hc
        clear hc
        go_wp2
        go_roundw
        case rel => exact ⟨k + 1, by omega, by go_num, HN, (hb.alloc hz _)⟩
        case measure => simp [intOf]; omega
    · have hke : k = xs.length := by omega
      subst hke
      have HR := Lib.hid (leafGet_miss (find_all hf.out))
      go_wp2
      go_ret2
      exact ⟨by rw [HR.out]; rfl, hb⟩

set_option maxRecDepth 20000 in set_option maxHeartbeats 4000000 in
theorem spec_LeafGet (w : World) (xs : List Leaf) (A0 : Option Addr) (cap0 : Nat) (S : Blks) (hx : Row false w A0 cap0 xs S) (hl : xs.length ≤ 2000000000) (nm : ByteArray) (_hn : nm.size ≤ maxLen) : Calls Tryz.prog 254 #[.slice A0 xs.length cap0, .string nm] w fun e w' => e = .returned (.tuple #[.string (leafGet xs nm).1, .bool (leafGet xs nm).2]) ∧ Below w.heap.size w w' := by
  go_enter Tryz.func254, Tryz.ntmps254
  go_wp2
  go_loopw [6] (fun i wr => ∃ k : Nat, k ≤ xs.length ∧ i = .int .i64 k ∧ Hid ((xs.take k).find? (nameIs nm) = none) ∧ Below w.heap.size w wr) (fun i _ => xs.length - (intOf i).toNat)
  case atStart => exact ⟨0, Nat.zero_le _, rfl, Lib.hid rfl, Below.refl _ _⟩
  case round =>
    obtain ⟨k, hk, rfl, hf, hb⟩ := hrel
    have hz := hb.size
    by_cases hlt : k < xs.length
    · obtain ⟨b1, o1, e1, hl1, c0, c1, t0, t1⟩ := Row.atLeaf hx hlt
      subst e1
      replace c0 := (hb.cell (p := ⟨b1, o1 + k * 2, none⟩) hl1).trans c0
      replace c1 := (hb.cell (p := ⟨b1, o1 + k * 2 + 1, none⟩) hl1).trans c1
      have hl2 : b1 < wr.heap.size := Nat.lt_of_lt_of_le hl1 hz
      have hH := Lib.hid (find_hit hlt hf.out)
      have hN := Lib.hid (find_next hlt hf.out)
      obtain ⟨x, hxx⟩ : ∃ x, xs[k] = x := ⟨_, rfl⟩
      rw [hxx] at c0 c1 t0 t1 hN hH
      clear hxx
      by_cases hc : x.name = nm
      · have HR := Lib.hid (leafGet_hit (hH.out (by simpa [nameIs] using hc)))
        have hsb := str_eq hc
        clear hc
        go_wp2
        go_ret2
        exact ⟨by rw [HR.out]; rfl, hb⟩
      · have HN := Lib.hid (hN.out (by simpa [nameIs] using hc))
        have hsb := str_ne hc
        clear hc
        go_wp2
        go_roundw
        case rel => exact ⟨k + 1, by omega, by go_num, HN, hb⟩
        case measure => simp [intOf]; omega
    · have hke : k = xs.length := by omega
      subst hke
      have HR := Lib.hid (leafGet_miss (find_all hf.out))
      go_wp2
      go_ret2
      exact ⟨by rw [HR.out]; rfl, hb⟩

end Go.Proofs.YtcbbjfafmmcfiaaGreatDoor
