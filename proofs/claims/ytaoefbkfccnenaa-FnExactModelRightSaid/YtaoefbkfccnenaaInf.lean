/- What the program's table says of the element types; layouts without rows. Written by a program (gen_inf.py). -/
import Derived.Test.YtaoefbkfccnenaaAq
set_option linter.unusedVariables false
set_option linter.unusedSimpArgs false
namespace Go.Proofs.Ytaoefbkfccnenaa
open Go.RowKit Lay
instance inf_String : Inf ByteArray := ⟨⟨.string ⟨#[]⟩, 16, by kernel_rfl, rfl, by decide⟩, by kernel_rfl⟩
instance flat_String : Flat ByteArray := ⟨fun a => [.string a], fun a => a.size ≤ maxLen, Iff.rfl⟩
instance inf_Int : Inf Int := ⟨⟨.int .i64 0, 8, by kernel_rfl, rfl, by decide⟩, by kernel_rfl⟩
instance flat_Int : Flat Int := ⟨fun a => [.int .i64 a], I64, Iff.rfl⟩
instance inf_Bool : Inf Bool := ⟨⟨.bool false, 1, by kernel_rfl, rfl, by decide⟩, by kernel_rfl⟩
instance flat_Bool : Flat Bool := ⟨fun a => [.bool a], fun _ => True, by intros; simp [rd]⟩
instance inf_File : Inf File := ⟨⟨.agg #[.string ⟨#[]⟩, .string ⟨#[]⟩, .int .i64 0], 40, by kernel_rfl, rfl, by decide⟩, by kernel_rfl⟩
instance flat_File : Flat File := ⟨File.cs, fun x => x.name.size ≤ maxLen ∧ x.text.size ≤ maxLen ∧ I64 x.kept, ⟨fun h => File.open h, fun ⟨e, h⟩ => by subst e; obtain ⟨f0, f1, f2⟩ := h; exact File.mk' f0 f1 f2⟩⟩
instance inf_Seal : Inf Seal := ⟨⟨.agg #[.int .i64 0, .int .i64 0, .string ⟨#[]⟩, .string ⟨#[]⟩, .int .i64 0, .slice none 0 0, .slice none 0 0, .slice none 0 0], 128, by kernel_rfl, rfl, by decide⟩, by kernel_rfl⟩
instance inf_Server : Inf Server := ⟨⟨.agg #[.int .i64 0, .int .i64 0, .bool false, .slice none 0 0, .int .i64 0, .slice none 0 0, .slice none 0 0, .slice none 0 0, .int .i64 0, .int .i64 0, .int .i64 0], 152, by kernel_rfl, rfl, by decide⟩, by kernel_rfl⟩
instance inf_LeafS : Inf (List Leaf) := ⟨⟨.slice none 0 0, 24, by kernel_rfl, rfl, by decide⟩, by kernel_rfl⟩
instance inf_Change : Inf Change := ⟨⟨.agg #[.int .i64 0, .string ⟨#[]⟩, .string ⟨#[]⟩], 40, by kernel_rfl, rfl, by decide⟩, by kernel_rfl⟩
instance flat_Change : Flat Change := ⟨Change.cs, fun x => I64 x.id ∧ x.name.size ≤ maxLen ∧ x.value.size ≤ maxLen, ⟨fun h => Change.open h, fun ⟨e, h⟩ => by subst e; obtain ⟨f0, f1, f2⟩ := h; exact Change.mk' f0 f1 f2⟩⟩
instance inf_Leaf : Inf Leaf := ⟨⟨.agg #[.string ⟨#[]⟩, .string ⟨#[]⟩], 32, by kernel_rfl, rfl, by decide⟩, by kernel_rfl⟩
instance flat_Leaf : Flat Leaf := ⟨Leaf.cs, fun x => x.name.size ≤ maxLen ∧ x.value.size ≤ maxLen, ⟨fun h => Leaf.open h, fun ⟨e, h⟩ => by subst e; obtain ⟨f0, f1⟩ := h; exact Leaf.mk' f0 f1⟩⟩
theorem Row.atFile {m : Bool} {w : World} {A : Option Addr} {cap : Nat} {xs : List File} {S : Blks} (h : Row m w A cap xs S) {i : Nat} (hi : i < xs.length) :
    ∃ b off, A = some ⟨b, off, none⟩ ∧ b < w.heap.size ∧ w.cell? ⟨b, off + i * 3, none⟩ = some (.string xs[i].name) ∧ w.cell? ⟨b, off + i * 3 + 1, none⟩ = some (.string xs[i].text) ∧ w.cell? ⟨b, off + i * 3 + 2, none⟩ = some (.int .i64 xs[i].kept) ∧ xs[i].name.size ≤ maxLen ∧ xs[i].text.size ≤ maxLen ∧ I64 xs[i].kept := by
  obtain ⟨b, off, cs, T, e, hb, ha, hr, _, _⟩ := Row.at_ h hi
  obtain ⟨rfl, hs⟩ := File.open hr
  rw [show n File = 3 from rfl] at ha
  exact ⟨b, off, e, hb, ha 0 _ rfl, ha 1 _ rfl, ha 2 _ rfl, hs⟩
theorem Row.inFile {m : Bool} {w : World} {A : Option Addr} {cap : Nat} {xs : List File} {S : Blks} (h : Row m w A cap xs S) {i : Nat} (hi : i < xs.length) :
    ∃ b off, A = some ⟨b, off, none⟩ ∧ b < w.heap.size ∧ S b ∧ w.cell? ⟨b, off + i * 3, none⟩ = some (.string xs[i].name) ∧ w.cell? ⟨b, off + i * 3 + 1, none⟩ = some (.string xs[i].text) ∧ w.cell? ⟨b, off + i * 3 + 2, none⟩ = some (.int .i64 xs[i].kept) ∧ xs[i].name.size ≤ maxLen ∧ xs[i].text.size ≤ maxLen ∧ I64 xs[i].kept := by
  obtain ⟨b, off, cs, T, e, hb, ha, hr, _, hS⟩ := Row.at_ h hi
  obtain ⟨rfl, hs⟩ := File.open hr
  rw [show n File = 3 from rfl] at ha
  exact ⟨b, off, e, hb, hS, ha 0 _ rfl, ha 1 _ rfl, ha 2 _ rfl, hs⟩
theorem Row.atChange {m : Bool} {w : World} {A : Option Addr} {cap : Nat} {xs : List Change} {S : Blks} (h : Row m w A cap xs S) {i : Nat} (hi : i < xs.length) :
    ∃ b off, A = some ⟨b, off, none⟩ ∧ b < w.heap.size ∧ w.cell? ⟨b, off + i * 3, none⟩ = some (.int .i64 xs[i].id) ∧ w.cell? ⟨b, off + i * 3 + 1, none⟩ = some (.string xs[i].name) ∧ w.cell? ⟨b, off + i * 3 + 2, none⟩ = some (.string xs[i].value) ∧ I64 xs[i].id ∧ xs[i].name.size ≤ maxLen ∧ xs[i].value.size ≤ maxLen := by
  obtain ⟨b, off, cs, T, e, hb, ha, hr, _, _⟩ := Row.at_ h hi
  obtain ⟨rfl, hs⟩ := Change.open hr
  rw [show n Change = 3 from rfl] at ha
  exact ⟨b, off, e, hb, ha 0 _ rfl, ha 1 _ rfl, ha 2 _ rfl, hs⟩
theorem Row.inChange {m : Bool} {w : World} {A : Option Addr} {cap : Nat} {xs : List Change} {S : Blks} (h : Row m w A cap xs S) {i : Nat} (hi : i < xs.length) :
    ∃ b off, A = some ⟨b, off, none⟩ ∧ b < w.heap.size ∧ S b ∧ w.cell? ⟨b, off + i * 3, none⟩ = some (.int .i64 xs[i].id) ∧ w.cell? ⟨b, off + i * 3 + 1, none⟩ = some (.string xs[i].name) ∧ w.cell? ⟨b, off + i * 3 + 2, none⟩ = some (.string xs[i].value) ∧ I64 xs[i].id ∧ xs[i].name.size ≤ maxLen ∧ xs[i].value.size ≤ maxLen := by
  obtain ⟨b, off, cs, T, e, hb, ha, hr, _, hS⟩ := Row.at_ h hi
  obtain ⟨rfl, hs⟩ := Change.open hr
  rw [show n Change = 3 from rfl] at ha
  exact ⟨b, off, e, hb, hS, ha 0 _ rfl, ha 1 _ rfl, ha 2 _ rfl, hs⟩
theorem Row.atLeaf {m : Bool} {w : World} {A : Option Addr} {cap : Nat} {xs : List Leaf} {S : Blks} (h : Row m w A cap xs S) {i : Nat} (hi : i < xs.length) :
    ∃ b off, A = some ⟨b, off, none⟩ ∧ b < w.heap.size ∧ w.cell? ⟨b, off + i * 2, none⟩ = some (.string xs[i].name) ∧ w.cell? ⟨b, off + i * 2 + 1, none⟩ = some (.string xs[i].value) ∧ xs[i].name.size ≤ maxLen ∧ xs[i].value.size ≤ maxLen := by
  obtain ⟨b, off, cs, T, e, hb, ha, hr, _, _⟩ := Row.at_ h hi
  obtain ⟨rfl, hs⟩ := Leaf.open hr
  rw [show n Leaf = 2 from rfl] at ha
  exact ⟨b, off, e, hb, ha 0 _ rfl, ha 1 _ rfl, hs⟩
theorem Row.inLeaf {m : Bool} {w : World} {A : Option Addr} {cap : Nat} {xs : List Leaf} {S : Blks} (h : Row m w A cap xs S) {i : Nat} (hi : i < xs.length) :
    ∃ b off, A = some ⟨b, off, none⟩ ∧ b < w.heap.size ∧ S b ∧ w.cell? ⟨b, off + i * 2, none⟩ = some (.string xs[i].name) ∧ w.cell? ⟨b, off + i * 2 + 1, none⟩ = some (.string xs[i].value) ∧ xs[i].name.size ≤ maxLen ∧ xs[i].value.size ≤ maxLen := by
  obtain ⟨b, off, cs, T, e, hb, ha, hr, _, hS⟩ := Row.at_ h hi
  obtain ⟨rfl, hs⟩ := Leaf.open hr
  rw [show n Leaf = 2 from rfl] at ha
  exact ⟨b, off, e, hb, hS, ha 0 _ rfl, ha 1 _ rfl, hs⟩
end Go.Proofs.Ytaoefbkfccnenaa
