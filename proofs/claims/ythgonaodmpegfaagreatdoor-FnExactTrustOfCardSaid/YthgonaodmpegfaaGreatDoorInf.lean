/- What the program's table says of the element types; layouts without rows. Written by a program (gen_inf.py). -/
import Derived.Test.YthgonaodmpegfaaGreatDoorAq
set_option linter.unusedVariables false
set_option linter.unusedSimpArgs false
namespace Go.Proofs.YthgonaodmpegfaaGreatDoor
open Go.RowKit Lay
instance inf_String : Inf ByteArray := ⟨⟨.string ⟨#[]⟩, 16, by kernel_rfl, rfl, by decide⟩, by kernel_rfl⟩
instance flat_String : Flat ByteArray := ⟨fun a => [.string a], fun a => a.size ≤ maxLen, Iff.rfl⟩
instance inf_Int : Inf Int := ⟨⟨.int .i64 0, 8, by kernel_rfl, rfl, by decide⟩, by kernel_rfl⟩
instance flat_Int : Flat Int := ⟨fun a => [.int .i64 a], I64, Iff.rfl⟩
instance inf_Bool : Inf Bool := ⟨⟨.bool false, 1, by kernel_rfl, rfl, by decide⟩, by kernel_rfl⟩
instance flat_Bool : Flat Bool := ⟨fun a => [.bool a], fun _ => True, by intros; simp [rd]⟩
instance inf_File : Inf File := ⟨⟨.agg #[.string ⟨#[]⟩, .string ⟨#[]⟩, .int .i64 0], 40, by kernel_rfl, rfl, by decide⟩, by kernel_rfl⟩
instance flat_File : Flat File := ⟨File.cs, fun x => x.name.size ≤ maxLen ∧ x.text.size ≤ maxLen ∧ I64 x.kept, ⟨fun h => File.open h, fun ⟨e, h⟩ => by subst e; obtain ⟨f0, f1, f2⟩ := h; exact File.mk' f0 f1 f2⟩⟩
instance inf_Seal : Inf Seal := ⟨⟨.agg #[.int .i64 0, .int .i64 0, .string ⟨#[]⟩, .string ⟨#[]⟩, .int .i64 0, .slice none 0 0, .slice none 0 0, .slice none 0 0], 128, by kernel_rfl, rfl, by decide⟩, by kernel_rfl⟩
instance inf_Server : Inf Server := ⟨⟨.agg #[.int .i64 0, .int .i64 0, .bool false, .slice none 0 0, .int .i64 0, .slice none 0 0, .slice none 0 0, .slice none 0 0, .int .i64 0, .int .i64 0, .int .i64 0], 152, by kernel_rfl, rfl, by decide⟩, by kernel_rfl⟩
instance inf_Whole : Inf Whole := ⟨⟨.agg #[.slice none 0 0, .slice none 0 0, .slice none 0 0, .int .i64 0, .int .i64 0, .string ⟨#[]⟩, .string ⟨#[]⟩, .int .i64 0, .slice none 0 0, .slice none 0 0, .slice none 0 0, .slice none 0 0], 224, by kernel_rfl, rfl, by decide⟩, by kernel_rfl⟩
instance inf_House : Inf House := ⟨⟨.agg #[.int .i64 0, .int .i64 0, .bool false, .slice none 0 0, .slice none 0 0, .slice none 0 0, .slice none 0 0, .int .i64 0, .bool false, .slice none 0 0, .slice none 0 0, .slice none 0 0, .slice none 0 0, .slice none 0 0], 256, by kernel_rfl, rfl, by decide⟩, by kernel_rfl⟩
instance inf_Auditor : Inf Auditor := ⟨⟨.agg #[.int .i64 0, .bool false, .slice none 0 0, .slice none 0 0, .slice none 0 0, .slice none 0 0], 112, by kernel_rfl, rfl, by decide⟩, by kernel_rfl⟩
instance inf_Note : Inf Note := ⟨⟨.agg #[.int .i64 0, .string ⟨#[]⟩], 24, by kernel_rfl, rfl, by decide⟩, by kernel_rfl⟩
instance flat_Note : Flat Note := ⟨Note.cs, fun x => I64 x.to ∧ x.text.size ≤ maxLen, ⟨fun h => Note.open h, fun ⟨e, h⟩ => by subst e; obtain ⟨f0, f1⟩ := h; exact Note.mk' f0 f1⟩⟩
instance inf_Given : Inf Given := ⟨⟨.agg #[.int .i64 0, .int .i64 0, .int .i64 0, .int .i64 0, .slice none 0 0, .slice none 0 0, .slice none 0 0], 104, by kernel_rfl, rfl, by decide⟩, by kernel_rfl⟩
instance inf_Head : Inf Head := ⟨⟨.agg #[.int .i64 0, .int .i64 0, .string ⟨#[]⟩, .string ⟨#[]⟩], 48, by kernel_rfl, rfl, by decide⟩, by kernel_rfl⟩
instance flat_Head : Flat Head := ⟨Head.cs, fun x => I64 x.house ∧ I64 x.epoch ∧ x.root.size ≤ maxLen ∧ x.prev.size ≤ maxLen, ⟨fun h => Head.open h, fun ⟨e, h⟩ => by subst e; obtain ⟨f0, f1, f2, f3⟩ := h; exact Head.mk' f0 f1 f2 f3⟩⟩
instance inf_Leaf : Inf Leaf := ⟨⟨.agg #[.string ⟨#[]⟩, .string ⟨#[]⟩], 32, by kernel_rfl, rfl, by decide⟩, by kernel_rfl⟩
instance flat_Leaf : Flat Leaf := ⟨Leaf.cs, fun x => x.name.size ≤ maxLen ∧ x.value.size ≤ maxLen, ⟨fun h => Leaf.open h, fun ⟨e, h⟩ => by subst e; obtain ⟨f0, f1⟩ := h; exact Leaf.mk' f0 f1⟩⟩
instance inf_Stamp : Inf Stamp := ⟨⟨.agg #[.int .i64 0, .int .i64 0, .slice none 0 0, .slice none 0 0, .slice none 0 0], 88, by kernel_rfl, rfl, by decide⟩, by kernel_rfl⟩
instance inf_LeafS : Inf (List Leaf) := ⟨⟨.slice none 0 0, 24, by kernel_rfl, rfl, by decide⟩, by kernel_rfl⟩
instance inf_Change : Inf Change := ⟨⟨.agg #[.int .i64 0, .string ⟨#[]⟩, .string ⟨#[]⟩], 40, by kernel_rfl, rfl, by decide⟩, by kernel_rfl⟩
instance flat_Change : Flat Change := ⟨Change.cs, fun x => I64 x.id ∧ x.name.size ≤ maxLen ∧ x.value.size ≤ maxLen, ⟨fun h => Change.open h, fun ⟨e, h⟩ => by subst e; obtain ⟨f0, f1, f2⟩ := h; exact Change.mk' f0 f1 f2⟩⟩
instance inf_U8 : Inf UInt8 := ⟨⟨.int .u8 0, 1, by kernel_rfl, rfl, by decide⟩, by kernel_rfl⟩
instance flat_U8 : Flat UInt8 := ⟨fun a => [.int .u8 a.toNat], fun _ => True, by intros; simp [rd]⟩
instance inf_Pair : Inf Pair := ⟨⟨.agg #[.int .i64 0, .int .i64 0, .string ⟨#[]⟩, .string ⟨#[]⟩, .int .i64 0, .slice none 0 0, .slice none 0 0, .slice none 0 0, .int .i64 0, .int .i64 0, .string ⟨#[]⟩, .string ⟨#[]⟩, .int .i64 0, .slice none 0 0, .slice none 0 0, .slice none 0 0], 256, by kernel_rfl, rfl, by decide⟩, by kernel_rfl⟩
theorem Row.atFile {m : Bool} {w : World} {A : Option Addr} {cap : Nat} {xs : List File} {S : Blks} (h : Row m w A cap xs S) {i : Nat} (hi : i < xs.length) :
    ∃ b off, A = some ⟨b, off, none⟩ ∧ b < w.heap.size ∧ w.cell? ⟨b, off + i * 3, none⟩ = some (.string xs[i].name) ∧ w.cell? ⟨b, off + i * 3 + 1, none⟩ = some (.string xs[i].text) ∧ w.cell? ⟨b, off + i * 3 + 2, none⟩ = some (.int .i64 xs[i].kept) ∧ xs[i].name.size ≤ maxLen ∧ xs[i].text.size ≤ maxLen ∧ I64 xs[i].kept := by
  obtain ⟨b, off, cs, T, e, hb, ha, hr, _, _⟩ := Row.at_ h hi
  obtain ⟨rfl, hs⟩ := File.open hr
  rw [show n File = 3 from rfl] at ha
  exact ⟨b, off, e, hb, ha 0 _ rfl, ha 1 _ rfl, ha 2 _ rfl, hs⟩
theorem Row.inFile {m : Bool} {w : World} {A : Option Addr} {cap : Nat} {xs : List File} {S : Blks} (h : Row m w A cap xs S) {i : Nat} (hi : i < xs.length) :
    ∃ b off, A = some ⟨b, off, none⟩ ∧ b < w.heap.size ∧ S b ∧ w.cell? ⟨b, off + i * 3, none⟩ = some (.string xs[i].name) ∧ w.cell? ⟨b, off + i * 3 + 1, none⟩ = some (.string xs[i].text) ∧ w.cell? ⟨b, off + i * 3 + 2, none⟩ = some (.int .i64 xs[i].kept) ∧ xs[i].name.size ≤ maxLen ∧ xs[i].text.size ≤ maxLen ∧ I64 xs[i].kept := by
  obtain ⟨b, off, cs, T, e, hb, ha, hr, _, hS⟩ := Row.at_ h hi
  obtain ⟨rfl, hs⟩ := File.open hr
  rw [show n File = 3 from rfl] at ha
  exact ⟨b, off, e, hb, hS, ha 0 _ rfl, ha 1 _ rfl, ha 2 _ rfl, hs⟩
theorem Row.atNote {m : Bool} {w : World} {A : Option Addr} {cap : Nat} {xs : List Note} {S : Blks} (h : Row m w A cap xs S) {i : Nat} (hi : i < xs.length) :
    ∃ b off, A = some ⟨b, off, none⟩ ∧ b < w.heap.size ∧ w.cell? ⟨b, off + i * 2, none⟩ = some (.int .i64 xs[i].to) ∧ w.cell? ⟨b, off + i * 2 + 1, none⟩ = some (.string xs[i].text) ∧ I64 xs[i].to ∧ xs[i].text.size ≤ maxLen := by
  obtain ⟨b, off, cs, T, e, hb, ha, hr, _, _⟩ := Row.at_ h hi
  obtain ⟨rfl, hs⟩ := Note.open hr
  rw [show n Note = 2 from rfl] at ha
  exact ⟨b, off, e, hb, ha 0 _ rfl, ha 1 _ rfl, hs⟩
theorem Row.inNote {m : Bool} {w : World} {A : Option Addr} {cap : Nat} {xs : List Note} {S : Blks} (h : Row m w A cap xs S) {i : Nat} (hi : i < xs.length) :
    ∃ b off, A = some ⟨b, off, none⟩ ∧ b < w.heap.size ∧ S b ∧ w.cell? ⟨b, off + i * 2, none⟩ = some (.int .i64 xs[i].to) ∧ w.cell? ⟨b, off + i * 2 + 1, none⟩ = some (.string xs[i].text) ∧ I64 xs[i].to ∧ xs[i].text.size ≤ maxLen := by
  obtain ⟨b, off, cs, T, e, hb, ha, hr, _, hS⟩ := Row.at_ h hi
  obtain ⟨rfl, hs⟩ := Note.open hr
  rw [show n Note = 2 from rfl] at ha
  exact ⟨b, off, e, hb, hS, ha 0 _ rfl, ha 1 _ rfl, hs⟩
theorem Row.atHead {m : Bool} {w : World} {A : Option Addr} {cap : Nat} {xs : List Head} {S : Blks} (h : Row m w A cap xs S) {i : Nat} (hi : i < xs.length) :
    ∃ b off, A = some ⟨b, off, none⟩ ∧ b < w.heap.size ∧ w.cell? ⟨b, off + i * 4, none⟩ = some (.int .i64 xs[i].house) ∧ w.cell? ⟨b, off + i * 4 + 1, none⟩ = some (.int .i64 xs[i].epoch) ∧ w.cell? ⟨b, off + i * 4 + 2, none⟩ = some (.string xs[i].root) ∧ w.cell? ⟨b, off + i * 4 + 3, none⟩ = some (.string xs[i].prev) ∧ I64 xs[i].house ∧ I64 xs[i].epoch ∧ xs[i].root.size ≤ maxLen ∧ xs[i].prev.size ≤ maxLen := by
  obtain ⟨b, off, cs, T, e, hb, ha, hr, _, _⟩ := Row.at_ h hi
  obtain ⟨rfl, hs⟩ := Head.open hr
  rw [show n Head = 4 from rfl] at ha
  exact ⟨b, off, e, hb, ha 0 _ rfl, ha 1 _ rfl, ha 2 _ rfl, ha 3 _ rfl, hs⟩
theorem Row.inHead {m : Bool} {w : World} {A : Option Addr} {cap : Nat} {xs : List Head} {S : Blks} (h : Row m w A cap xs S) {i : Nat} (hi : i < xs.length) :
    ∃ b off, A = some ⟨b, off, none⟩ ∧ b < w.heap.size ∧ S b ∧ w.cell? ⟨b, off + i * 4, none⟩ = some (.int .i64 xs[i].house) ∧ w.cell? ⟨b, off + i * 4 + 1, none⟩ = some (.int .i64 xs[i].epoch) ∧ w.cell? ⟨b, off + i * 4 + 2, none⟩ = some (.string xs[i].root) ∧ w.cell? ⟨b, off + i * 4 + 3, none⟩ = some (.string xs[i].prev) ∧ I64 xs[i].house ∧ I64 xs[i].epoch ∧ xs[i].root.size ≤ maxLen ∧ xs[i].prev.size ≤ maxLen := by
  obtain ⟨b, off, cs, T, e, hb, ha, hr, _, hS⟩ := Row.at_ h hi
  obtain ⟨rfl, hs⟩ := Head.open hr
  rw [show n Head = 4 from rfl] at ha
  exact ⟨b, off, e, hb, hS, ha 0 _ rfl, ha 1 _ rfl, ha 2 _ rfl, ha 3 _ rfl, hs⟩
theorem Row.atLeaf {m : Bool} {w : World} {A : Option Addr} {cap : Nat} {xs : List Leaf} {S : Blks} (h : Row m w A cap xs S) {i : Nat} (hi : i < xs.length) :
    ∃ b off, A = some ⟨b, off, none⟩ ∧ b < w.heap.size ∧ w.cell? ⟨b, off + i * 2, none⟩ = some (.string xs[i].name) ∧ w.cell? ⟨b, off + i * 2 + 1, none⟩ = some (.string xs[i].value) ∧ xs[i].name.size ≤ maxLen ∧ xs[i].value.size ≤ maxLen := by
  obtain ⟨b, off, cs, T, e, hb, ha, hr, _, _⟩ := Row.at_ h hi
  obtain ⟨rfl, hs⟩ := Leaf.open hr
  rw [show n Leaf = 2 from rfl] at ha
  exact ⟨b, off, e, hb, ha 0 _ rfl, ha 1 _ rfl, hs⟩
theorem Row.inLeaf {m : Bool} {w : World} {A : Option Addr} {cap : Nat} {xs : List Leaf} {S : Blks} (h : Row m w A cap xs S) {i : Nat} (hi : i < xs.length) :
    ∃ b off, A = some ⟨b, off, none⟩ ∧ b < w.heap.size ∧ S b ∧ w.cell? ⟨b, off + i * 2, none⟩ = some (.string xs[i].name) ∧ w.cell? ⟨b, off + i * 2 + 1, none⟩ = some (.string xs[i].value) ∧ xs[i].name.size ≤ maxLen ∧ xs[i].value.size ≤ maxLen := by
  obtain ⟨b, off, cs, T, e, hb, ha, hr, _, hS⟩ := Row.at_ h hi
  obtain ⟨rfl, hs⟩ := Leaf.open hr
  rw [show n Leaf = 2 from rfl] at ha
  exact ⟨b, off, e, hb, hS, ha 0 _ rfl, ha 1 _ rfl, hs⟩
theorem Row.atChange {m : Bool} {w : World} {A : Option Addr} {cap : Nat} {xs : List Change} {S : Blks} (h : Row m w A cap xs S) {i : Nat} (hi : i < xs.length) :
    ∃ b off, A = some ⟨b, off, none⟩ ∧ b < w.heap.size ∧ w.cell? ⟨b, off + i * 3, none⟩ = some (.int .i64 xs[i].id) ∧ w.cell? ⟨b, off + i * 3 + 1, none⟩ = some (.string xs[i].name) ∧ w.cell? ⟨b, off + i * 3 + 2, none⟩ = some (.string xs[i].value) ∧ I64 xs[i].id ∧ xs[i].name.size ≤ maxLen ∧ xs[i].value.size ≤ maxLen := by
  obtain ⟨b, off, cs, T, e, hb, ha, hr, _, _⟩ := Row.at_ h hi
  obtain ⟨rfl, hs⟩ := Change.open hr
  rw [show n Change = 3 from rfl] at ha
  exact ⟨b, off, e, hb, ha 0 _ rfl, ha 1 _ rfl, ha 2 _ rfl, hs⟩
theorem Row.inChange {m : Bool} {w : World} {A : Option Addr} {cap : Nat} {xs : List Change} {S : Blks} (h : Row m w A cap xs S) {i : Nat} (hi : i < xs.length) :
    ∃ b off, A = some ⟨b, off, none⟩ ∧ b < w.heap.size ∧ S b ∧ w.cell? ⟨b, off + i * 3, none⟩ = some (.int .i64 xs[i].id) ∧ w.cell? ⟨b, off + i * 3 + 1, none⟩ = some (.string xs[i].name) ∧ w.cell? ⟨b, off + i * 3 + 2, none⟩ = some (.string xs[i].value) ∧ I64 xs[i].id ∧ xs[i].name.size ≤ maxLen ∧ xs[i].value.size ≤ maxLen := by
  obtain ⟨b, off, cs, T, e, hb, ha, hr, _, hS⟩ := Row.at_ h hi
  obtain ⟨rfl, hs⟩ := Change.open hr
  rw [show n Change = 3 from rfl] at ha
  exact ⟨b, off, e, hb, hS, ha 0 _ rfl, ha 1 _ rfl, ha 2 _ rfl, hs⟩
end Go.Proofs.YthgonaodmpegfaaGreatDoor
