/- What the program's table says of the element types; layouts without rows. Written by a program (gen_inf.py). -/
import Derived.Test.YtbnfkpbaaoknmaaDoorAq
set_option linter.unusedVariables false
set_option linter.unusedSimpArgs false
namespace Go.Proofs.YtbnfkpbaaoknmaaDoor
open Go.RowKit Lay
instance inf_U8 : Inf UInt8 := ⟨⟨.int .u8 0, 1, by kernel_rfl, rfl, by decide⟩, by kernel_rfl⟩
instance flat_U8 : Flat UInt8 := ⟨fun a => [.int .u8 a.toNat], fun _ => True, by intros; simp [rd]⟩
instance inf_Int : Inf Int := ⟨⟨.int .i64 0, 8, by kernel_rfl, rfl, by decide⟩, by kernel_rfl⟩
instance flat_Int : Flat Int := ⟨fun a => [.int .i64 a], I64, Iff.rfl⟩
instance inf_Head : Inf Head := ⟨⟨.agg #[.int .i64 0, .int .i64 0, .string ⟨#[]⟩, .string ⟨#[]⟩], 48, by kernel_rfl, rfl, by decide⟩, by kernel_rfl⟩
instance flat_Head : Flat Head := ⟨Head.cs, fun x => I64 x.house ∧ I64 x.epoch ∧ x.root.size ≤ maxLen ∧ x.prev.size ≤ maxLen, ⟨fun h => Head.open h, fun ⟨e, h⟩ => by subst e; obtain ⟨f0, f1, f2, f3⟩ := h; exact Head.mk' f0 f1 f2 f3⟩⟩
instance inf_String : Inf ByteArray := ⟨⟨.string ⟨#[]⟩, 16, by kernel_rfl, rfl, by decide⟩, by kernel_rfl⟩
instance flat_String : Flat ByteArray := ⟨fun a => [.string a], fun a => a.size ≤ maxLen, Iff.rfl⟩
theorem Row.atHead {m : Bool} {w : World} {A : Option Addr} {cap : Nat} {xs : List Head} {S : Blks} (h : Row m w A cap xs S) {i : Nat} (hi : i < xs.length) :
    ∃ b off, A = some ⟨b, off, none⟩ ∧ b < w.heap.size ∧ w.cell? ⟨b, off + i * 4, none⟩ = some (.int .i64 xs[i].house) ∧ w.cell? ⟨b, off + i * 4 + 1, none⟩ = some (.int .i64 xs[i].epoch) ∧ w.cell? ⟨b, off + i * 4 + 2, none⟩ = some (.string xs[i].root) ∧ w.cell? ⟨b, off + i * 4 + 3, none⟩ = some (.string xs[i].prev) ∧ I64 xs[i].house ∧ I64 xs[i].epoch ∧ xs[i].root.size ≤ maxLen ∧ xs[i].prev.size ≤ maxLen := by
  obtain ⟨b, off, cs, T, e, hb, ha, hr, _, _⟩ := Row.at_ h hi
  obtain ⟨rfl, hs⟩ := Head.open hr
  rw [show n Head = 4 from rfl] at ha
  exact ⟨b, off, e, hb, ha 0 _ rfl, ha 1 _ rfl, ha 2 _ rfl, ha 3 _ rfl, hs⟩
theorem Row.inHead {m : Bool} {w : World} {A : Option Addr} {cap : Nat} {xs : List Head} {S : Blks} (h : Row m w A cap xs S) {i : Nat} (hi : i < xs.length) :
    ∃ b off, A = some ⟨b, off, none⟩ ∧ b < w.heap.size ∧ S b ∧ w.cell? ⟨b, off + i * 4, none⟩ = some (.int .i64 xs[i].house) ∧ w.cell? ⟨b, off + i * 4 + 1, none⟩ = some (.int .i64 xs[i].epoch) ∧ w.cell? ⟨b, off + i * 4 + 2, none⟩ = some (.string xs[i].root) ∧ w.cell? ⟨b, off + i * 4 + 3, none⟩ = some (.string xs[i].prev) ∧ I64 xs[i].house ∧ I64 xs[i].epoch ∧ xs[i].root.size ≤ maxLen ∧ xs[i].prev.size ≤ maxLen := by
  obtain ⟨b, off, cs, T, e, hb, ha, hr, _, hS⟩ := Row.at_ h hi
  obtain ⟨rfl, hs⟩ := Head.open hr
  rw [show n Head = 4 from rfl] at ha
  exact ⟨b, off, e, hb, hS, ha 0 _ rfl, ha 1 _ rfl, ha 2 _ rfl, ha 3 _ rfl, hs⟩
end Go.Proofs.YtbnfkpbaaoknmaaDoor
