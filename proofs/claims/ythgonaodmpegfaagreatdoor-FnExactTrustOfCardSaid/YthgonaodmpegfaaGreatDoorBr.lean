/- From the form's reading of an argument to a layout. -/
import Derived.Test.YthgonaodmpegfaaGreatDoorProg
import Derived.Test.YthgonaodmpegfaaGreatDoorMk
import Derived.ProofKit
set_option linter.unusedVariables false
set_option linter.unusedSimpArgs false
namespace Go.Proofs.YthgonaodmpegfaaGreatDoor
open Go.RowKit Lay Mk

def All : Blks := fun _ => True
/-- whatever the form can read at this type is a datum of this layout -/
def Rdb (α : Type) [Lay α] (P : Program) (t : TypeId) : Prop := ∀ (H : Type) (enc : TypeId × Value → H) (w : World) (base : Nat) (spare : Nat → Bool) (held : Bool) (fuel : Nat) (cs : List Value) (x : DataW H × List MemPlace),
  DataW.trod enc P w base spare held fuel t cs = some x → ∃ a : α, rd false w cs a All

theorem rdb_int {P : Program} {t : TypeId} (ht : P.underlying t = some (.int .i64)) : Rdb Int P t := by
  intro H enc w base spare held fuel cs x h
  obtain ⟨n, rfl, _, hw⟩ := DataW.trod_int ht h
  refine ⟨n, rfl, ?_⟩
  unfold I64
  simp [Lit.wf, IntKind.min, IntKind.max, IntKind.signed, IntKind.bits] at hw
  omega
theorem rdb_bool {P : Program} {t : TypeId} (ht : P.underlying t = some .bool) : Rdb Bool P t := by
  intro H enc w base spare held fuel cs x h
  obtain ⟨n, rfl, _⟩ := DataW.trod_bool ht h
  exact ⟨n, rfl⟩
theorem rdb_str {P : Program} {t : TypeId} (ht : P.underlying t = some .string) : Rdb ByteArray P t := by
  intro H enc w base spare held fuel cs x h
  obtain ⟨n, rfl, _, hw⟩ := DataW.trod_string ht h
  exact ⟨n, rfl, hw⟩
theorem rdb_slice {α : Type} [Lay α] [SlTy α] {P : Program} {t e : TypeId} (ht : P.underlying t = some (.slice e)) (hn : P.cellsOf e = n α) (hb : Rdb α P e) : Rdb (List α) P t := by
  intro H enc w base spare held fuel cs x h
  rcases DataW.trod_slice ht h with ⟨rfl, _⟩ | ⟨a, len, cap, elems, rest, m, _, rfl, _, _, hlc, hcm, hlen, hel, _, _⟩
  · exact ⟨[], none, 0, rfl, Nat.le_refl _, by decide, fun h => absurd rfl h⟩
  · have hx : ∀ i, i < len → ∃ a' : α, ∃ cs', w.cells? base (a.add (i * n α)) (n α) = some cs' ∧ rd false w cs' a' All := by
      intro i hi
      have h1 := hel i hi
      rw [List.getElem?_eq_getElem (by omega)] at h1
      obtain ⟨cs', h2, h3⟩ := Option.bind_eq_some_iff.1 h1
      obtain ⟨a', h4⟩ := hb H enc w base spare held m cs' _ h3
      rw [hn] at h2
      exact ⟨a', cs', h2, h4⟩
    let f : Fin len → α := fun i => Classical.choose (hx i i.2)
    have hf : ∀ i : Fin len, ∃ cs', w.cells? base (a.add (i * n α)) (n α) = some cs' ∧ rd false w cs' (f i) All := fun i => Classical.choose_spec (hx i i.2)
    refine ⟨List.ofFn f, some a, cap, by simp, by simpa using hlc, hcm, fun hne => ?_⟩
    have hpos : 0 < len := by
      rcases Nat.eq_zero_or_pos len with h0 | h0
      · subst h0; simp at hne
      · exact h0
    have hp := Lay.pos (α := α)
    have hadd : a.spot = none := by
      obtain ⟨cs', h2, h3⟩ := hf ⟨0, hpos⟩
      obtain ⟨_, hl, hc⟩ := World.cells?_some h2
      have h4 := hc 0 (by omega)
      rw [List.getElem?_eq_getElem (by omega)] at h4
      cases hs : a.spot with
      | none => rfl
      | some s =>
        exfalso
        unfold World.cell? at h4
        simp [Addr.add, hs] at h4
        split at h4 <;> simp at h4
    obtain ⟨b, off, spot⟩ := a
    simp only at hadd
    subst hadd
    refine ⟨b, off, rfl, trivial, fun _ => All, fun _ => sub_refl _, (by simp), fun i hi => ?_⟩
    have hi' : i < len := by simpa using hi
    obtain ⟨cs', h2, h3⟩ := hf ⟨i, hi'⟩
    obtain ⟨_, hl, hc⟩ := World.cells?_some h2
    refine ⟨cs', fun j u hu => ?_, by simpa using h3⟩
    have hj : j < n α := by have := (List.getElem?_eq_some_iff.1 hu).1; omega
    have h4 := hc j hj
    rw [Addr.add_lit, Addr.add_lit] at h4
    rw [hu] at h4
    exact h4
theorem rd_pair_drop {α β : Type} [Lay α] [Lay β] {w : World} {cs : List Value} {a : α} {b : β} {o k : Nat} (h1 : rd false w ((cs.drop o).take k) a All) (h2 : rd false w (cs.drop (o + k)) b All) : rd false w (cs.drop o) (a, b) All :=
  ⟨(cs.drop o).take k, cs.drop (o + k), All, All, by rw [← List.drop_drop, List.take_append_drop], sub_refl _, sub_refl _, by simp, h1, h2⟩
theorem rd_last_drop {α : Type} [Lay α] {w : World} {cs : List Value} {a : α} {o k : Nat} (h1 : rd false w ((cs.drop o).take k) a All) (hl : cs.length = o + k) : rd false w (cs.drop o) a All := by
  rwa [List.take_of_length_le (by simp; omega)] at h1
end Go.Proofs.YthgonaodmpegfaaGreatDoor
