/- Layouts, worlds, rows: the common part, 1. -/
import Derived.WalkKit
import Derived.WalkLawsBesides
import Derived.WalkSpells
import Derived.StillTailTactics
import Derived.Test.YtojbehmbeoemgaaDoorProg
import Derived.ProofKit
import Derived.Maps.AppendAt
import Derived.Laws.OwnMore
import Derived.Laws.IdiomStrings
set_option linter.unusedVariables false
set_option linter.unusedSimpArgs false
namespace Go.Proofs.YtojbehmbeoemgaaDoor
open Go.RowKit

/-- a region that draws its order: n operations that only read, then a forced tail -/
theorem still_tail {P : Program} {id : Nat} {Q : Exit → Act → World → Prop} {a : Act} {w : World} {l : List Oper} (n : Nat) (hm : P.follows .mixedOrders = true) (hB : Region.lexTailB .any l.toArray n = true)
    (h : wpStill P l.toArray w.drew (fun a' => wpList P l.toArray Q (l.drop n) a' w.drew) (l.take n) a) : (Code.region id l.toArray true).wp P Q a w :=
  wp_region_still_tail n hm hB h

abbrev Blks := Nat → Prop
def disj (A B : Blks) : Prop := ∀ b, A b → ¬ B b
def sub (A B : Blks) : Prop := ∀ b, A b → B b
def both (A B : Blks) : Blks := fun b => A b ∧ B b
def rng (lo hi : Nat) : Blks := fun b => lo ≤ b ∧ b < hi
theorem sub_refl (A : Blks) : sub A A := fun _ h => h
theorem sub_trans {A B C : Blks} (h : sub A B) (k : sub B C) : sub A C := fun b x => k b (h b x)
theorem disj_sub {A B A' B' : Blks} (h : disj A B) (ha : sub A' A) (hb : sub B' B) : disj A' B' := fun b x y => h b (ha b x) (hb b y)
theorem disj_symm {A B : Blks} (h : disj A B) : disj B A := fun b x y => h b y x

/-- the blocks of S lie in w' as in w -/
def Same (S : Blks) (w w' : World) : Prop := ∀ b, S b → w'.heap[b]? = w.heap[b]?
theorem Same.sub {S T : Blks} {w w' : World} (h : Same S w w') (k : sub T S) : Same T w w' := fun b x => h b (k b x)
theorem Same.trans {S : Blks} {a b c : World} (h : Same S a b) (k : Same S b c) : Same S a c := fun x y => (k x y).trans (h x y)
theorem Same.refl (S : Blks) (w : World) : Same S w w := fun _ _ => rfl
theorem Same.below {S : Blks} {w w' : World} {B : Nat} (h : Below B w w') (k : ∀ b, S b → b < B) : Same S w w' := fun b x => h.block b (k b x)

/-- only blocks of S, and new ones, have turned -/
structure Chg (S : Blks) (w w' : World) : Prop where
  os : w'.os = w.os
  tape : w'.tape = w.tape
  output : w'.output = w.output
  size : w.heap.size ≤ w'.heap.size
  block : ∀ k, k < w.heap.size → ¬ S k → w'.heap[k]? = w.heap[k]?
theorem Chg.refl (S : Blks) (w : World) : Chg S w w := ⟨rfl, rfl, rfl, Nat.le_refl _, fun _ _ _ => rfl⟩
theorem Chg.trans {S : Blks} {a b c : World} (h : Chg S a b) (k : Chg S b c) : Chg S a c :=
  ⟨k.os.trans h.os, k.tape.trans h.tape, k.output.trans h.output, Nat.le_trans h.size k.size, fun i hi hs => (k.block i (Nat.lt_of_lt_of_le hi h.size) hs).trans (h.block i hi hs)⟩
theorem Chg.mono {S T : Blks} {w w' : World} (h : Chg S w w') (k : ∀ b, b < w.heap.size → S b → T b) : Chg T w w' :=
  ⟨h.os, h.tape, h.output, h.size, fun i hi hs => h.block i hi (fun x => hs (k i hi x))⟩
theorem Chg.drew {S : Blks} {a w : World} (h : Chg S a w) : Chg S a w.drew := ⟨h.os, h.tape, h.output, h.size, h.block⟩
theorem Chg.drewN {S : Blks} {a w : World} (h : Chg S a w) (n : Nat) : Chg S a (w.drewN n) := ⟨h.os, h.tape, h.output, h.size, h.block⟩
theorem Chg.alloc {S : Blks} {a w : World} (h : Chg S a w) (o : Obj) : Chg S a (w.alloc o) :=
  h.trans ⟨rfl, rfl, rfl, by simp, fun k hk _ => Below.heap_alloc _ _ _ hk⟩
theorem Chg.setCell {S : Blks} {a w : World} (h : Chg S a w) {p : Addr} (hp : S p.block ∨ a.heap.size ≤ p.block) (u : Value) : Chg S a (w.setCell p u) :=
  ⟨h.os, h.tape, h.output, by simpa [World.setCell] using h.size, fun i hi hs => (Below.heap_setCell w p u i (by
    rintro rfl
    rcases hp with hp | hp
    · exact hs hp
    · omega)).trans (h.block i hi hs)⟩
theorem Chg.below {S : Blks} {a w w' : World} {B : Nat} (h : Chg S a w) (hb : Below B w w') (hB : a.heap.size ≤ B) : Chg S a w' :=
  ⟨hb.os.trans h.os, hb.tape.trans h.tape, hb.output.trans h.output, Nat.le_trans h.size hb.size, fun i hi hs => (hb.block i (by omega)).trans (h.block i hi hs)⟩
theorem Chg.to_below {S : Blks} {w w' : World} {B : Nat} (h : Chg S w w') (hB : B ≤ w.heap.size) (hs : ∀ b, S b → B ≤ b) : Below B w w' :=
  ⟨h.os, h.tape, h.output, h.size, fun k hk => h.block k (by omega) (fun x => by have := hs k x; omega)⟩
theorem Chg.same {S T : Blks} {w w' : World} (h : Chg S w w') (hd : disj T S) (hl : ∀ b, T b → b < w.heap.size) : Same T w w' := fun b x => h.block b (hl b x) (hd b x)

/-- n cells that lie one behind the other -/
def At (w : World) (b off : Nat) (cs : List Value) : Prop := ∀ j u, cs[j]? = some u → w.cell? ⟨b, off + j, none⟩ = some u
theorem At.keep {w w' : World} {b off : Nat} {cs : List Value} (h : At w b off cs) (k : w'.heap[b]? = w.heap[b]?) : At w' b off cs :=
  fun j u hu => (World.cell?_of_block (a := ⟨b, off + j, none⟩) k).trans (h j u hu)
theorem At.lt {w : World} {b off : Nat} {cs : List Value} (h : At w b off cs) (hc : cs ≠ []) : b < w.heap.size := by
  cases cs with
  | nil => exact absurd rfl hc
  | cons c r => exact World.block_lt_of_cell? w ⟨b, off + 0, none⟩ (h 0 c rfl)

class Lay (α : Type) where
  ty : TypeId
  n : Nat
  rd : Bool → World → List Value → α → Blks → Prop
  pos : 0 < n
  len : ∀ {m w cs a S}, rd m w cs a S → cs.length = n
  keep : ∀ {m w w' cs a S}, rd m w cs a S → Same S w w' → rd m w' cs a S
  mono : ∀ {m w cs a S S'}, rd m w cs a S → sub S S' → rd m w cs a S'
  weak : ∀ {w cs a S}, rd true w cs a S → rd false w cs a S
  tight : ∀ {m w cs a S}, rd m w cs a S → rd m w cs a (fun b => S b ∧ b < w.heap.size)
  one : ∀ {m w cs a S}, rd m w cs a S → ∀ u ∈ cs, u.oneCell' = true
open Lay

def I64 (a : Int) : Prop := -9223372036854775808 ≤ a ∧ a ≤ 9223372036854775807

/-- elements of a row, from cell off on -/
def Els {α : Type} [Lay α] (m : Bool) (w : World) (b off : Nat) (xs : List α) (S : Blks) : Prop :=
  ∃ T : Nat → Blks, (∀ i, sub (T i) S) ∧ (m = true → ∀ i j, i ≠ j → disj (T i) (T j)) ∧
    ∀ i (h : i < xs.length), ∃ cs, At w b (off + i * n α) cs ∧ rd m w cs xs[i] (T i)

theorem Els.keep {α : Type} [Lay α] {m : Bool} {w w' : World} {b off : Nat} {xs : List α} {S : Blks} (h : Els m w b off xs S) (hb : xs ≠ [] → w'.heap[b]? = w.heap[b]?) (k : Same S w w') : Els m w' b off xs S := by
  obtain ⟨T, h1, h2, h3⟩ := h
  refine ⟨T, h1, h2, fun i hi => ?_⟩
  obtain ⟨cs, h4, h5⟩ := h3 i hi
  exact ⟨cs, h4.keep (hb (by rintro rfl; simp at hi)), Lay.keep h5 (k.sub (h1 i))⟩

theorem Els.mono {α : Type} [Lay α] {m : Bool} {w : World} {b off : Nat} {xs : List α} {S S' : Blks} (h : Els m w b off xs S) (k : sub S S') : Els m w b off xs S' := by
  obtain ⟨T, h1, h2, h3⟩ := h
  exact ⟨T, fun i => sub_trans (h1 i) k, h2, h3⟩

theorem Els.weak {α : Type} [Lay α] {w : World} {b off : Nat} {xs : List α} {S : Blks} (h : Els true w b off xs S) : Els false w b off xs S := by
  obtain ⟨T, h1, _, h3⟩ := h
  exact ⟨T, h1, by simp, fun i hi => let ⟨cs, h4, h5⟩ := h3 i hi; ⟨cs, h4, Lay.weak h5⟩⟩

theorem Els.tight {α : Type} [Lay α] {m : Bool} {w : World} {b off : Nat} {xs : List α} {S : Blks} (h : Els m w b off xs S) : Els m w b off xs (fun b => S b ∧ b < w.heap.size) := by
  obtain ⟨T, h1, h2, h3⟩ := h
  refine ⟨fun i b => T i b ∧ b < w.heap.size, fun i b hb => ⟨h1 i b hb.1, hb.2⟩, fun hm i j hij b x y => h2 hm i j hij b x.1 y.1, fun i hi => ?_⟩
  obtain ⟨cs, h4, h5⟩ := h3 i hi
  exact ⟨cs, h4, Lay.tight h5⟩

/-- a slice that is borrowed -/
def RowF {α : Type} [Lay α] (w : World) (A : Option Addr) (xs : List α) (S : Blks) : Prop :=
  xs ≠ [] → ∃ b off, A = some ⟨b, off, none⟩ ∧ S b ∧ Els false w b off xs S
/-- a slice that is owned: the whole row is its own -/
def RowT {α : Type} [Lay α] (w : World) (A : Option Addr) (cap : Nat) (xs : List α) (S : Blks) : Prop :=
  (A = none ∧ xs = [] ∧ cap = 0) ∨
  ∃ g cur, A = some ⟨g, 0, none⟩ ∧ S g ∧ w.heap[g]? = some (.cells cur (ty α) (0, 0)) ∧ cur.size = cap * n α ∧ Els true w g 0 xs (fun b => S b ∧ b ≠ g)

def Row {α : Type} [Lay α] (m : Bool) (w : World) (A : Option Addr) (cap : Nat) (xs : List α) (S : Blks) : Prop :=
  if m then RowT w A cap xs S else RowF w A xs S

theorem Row.keep {α : Type} [Lay α] {m : Bool} {w w' : World} {A : Option Addr} {cap : Nat} {xs : List α} {S : Blks} (h : Row m w A cap xs S) (k : Same S w w') : Row m w' A cap xs S := by
  cases m with
  | false =>
    intro hx
    obtain ⟨b, off, e, hb, h1⟩ := h hx
    exact ⟨b, off, e, hb, h1.keep (fun _ => k b hb) k⟩
  | true =>
    rcases h with h | ⟨g, cur, e, hg, h1, h2, h3⟩
    · exact .inl h
    · exact .inr ⟨g, cur, e, hg, (k g hg).trans h1, h2, h3.keep (fun _ => k g hg) (k.sub fun b x => x.1)⟩

theorem Row.mono {α : Type} [Lay α] {m : Bool} {w : World} {A : Option Addr} {cap : Nat} {xs : List α} {S S' : Blks} (h : Row m w A cap xs S) (k : sub S S') : Row m w A cap xs S' := by
  cases m with
  | false =>
    intro hx
    obtain ⟨b, off, e, hb, h1⟩ := h hx
    exact ⟨b, off, e, k b hb, h1.mono k⟩
  | true =>
    rcases h with h | ⟨g, cur, e, hg, h1, h2, h3⟩
    · exact .inl h
    · exact .inr ⟨g, cur, e, k g hg, h1, h2, h3.mono fun b x => ⟨k b x.1, x.2⟩⟩

theorem Row.weak {α : Type} [Lay α] {w : World} {A : Option Addr} {cap : Nat} {xs : List α} {S : Blks} (h : Row true w A cap xs S) : Row false w A cap xs S := by
  intro hx
  rcases h with ⟨_, h, _⟩ | ⟨g, cur, e, hg, h1, h2, h3⟩
  · exact absurd h hx
  · exact ⟨g, 0, e, hg, h3.weak.mono fun b x => x.1⟩

theorem heap_lt {w : World} {g : Nat} {o : Obj} (h : w.heap[g]? = some o) : g < w.heap.size := (Array.getElem?_eq_some_iff.1 h).1

theorem Row.tight {α : Type} [Lay α] {m : Bool} {w : World} {A : Option Addr} {cap : Nat} {xs : List α} {S : Blks} (h : Row m w A cap xs S) : Row m w A cap xs (fun b => S b ∧ b < w.heap.size) := by
  cases m with
  | false =>
    intro hx
    obtain ⟨b, off, e, hb, h1⟩ := h hx
    refine ⟨b, off, e, ⟨hb, ?_⟩, h1.tight⟩
    obtain ⟨T, _, _, h3⟩ := h1
    obtain ⟨cs, h4, h5⟩ := h3 0 (by cases xs; simp at hx; simp)
    have := Lay.len h5
    have hp := Lay.pos (α := α)
    exact h4.lt (by rintro rfl; simp at this; omega)
  | true =>
    rcases h with h | ⟨g, cur, e, hg, h1, h2, h3⟩
    · exact .inl h
    · exact .inr ⟨g, cur, e, ⟨hg, heap_lt h1⟩, h1, h2, h3.tight.mono fun b x => ⟨⟨x.1.1, x.2⟩, x.1.2⟩⟩

/-- a slice's cell -/
def rdS {α : Type} [Lay α] (m : Bool) (w : World) (cs : List Value) (xs : List α) (S : Blks) : Prop :=
  ∃ A cap, cs = [.slice A xs.length cap] ∧ xs.length ≤ cap ∧ cap ≤ maxLen ∧ Row m w A cap xs S

/-- two layouts one behind the other -/
def rdP {α β : Type} [Lay α] [Lay β] (m : Bool) (w : World) (cs : List Value) (p : α × β) (S : Blks) : Prop :=
  ∃ c1 c2 S1 S2, cs = c1 ++ c2 ∧ sub S1 S ∧ sub S2 S ∧ (m = true → disj S1 S2) ∧ rd m w c1 p.1 S1 ∧ rd m w c2 p.2 S2

theorem rdP.len {α β : Type} [Lay α] [Lay β] {m : Bool} {w : World} {cs : List Value} {p : α × β} {S : Blks} (h : rdP m w cs p S) : cs.length = n α + n β := by
  obtain ⟨c1, c2, S1, S2, rfl, _, _, _, h1, h2⟩ := h
  rw [List.length_append, Lay.len h1, Lay.len h2]
theorem rdP.keep {α β : Type} [Lay α] [Lay β] {m : Bool} {w w' : World} {cs : List Value} {p : α × β} {S : Blks} (h : rdP m w cs p S) (k : Same S w w') : rdP m w' cs p S := by
  obtain ⟨c1, c2, S1, S2, e, h3, h4, h5, h1, h2⟩ := h
  exact ⟨c1, c2, S1, S2, e, h3, h4, h5, Lay.keep h1 (k.sub h3), Lay.keep h2 (k.sub h4)⟩
theorem rdP.mono {α β : Type} [Lay α] [Lay β] {m : Bool} {w : World} {cs : List Value} {p : α × β} {S S' : Blks} (h : rdP m w cs p S) (k : sub S S') : rdP m w cs p S' := by
  obtain ⟨c1, c2, S1, S2, e, h3, h4, h5, h1, h2⟩ := h
  exact ⟨c1, c2, S1, S2, e, sub_trans h3 k, sub_trans h4 k, h5, h1, h2⟩
theorem rdP.weak {α β : Type} [Lay α] [Lay β] {w : World} {cs : List Value} {p : α × β} {S : Blks} (h : rdP true w cs p S) : rdP false w cs p S := by
  obtain ⟨c1, c2, S1, S2, e, h3, h4, h5, h1, h2⟩ := h
  exact ⟨c1, c2, S1, S2, e, h3, h4, by simp, Lay.weak h1, Lay.weak h2⟩
theorem rdP.tight {α β : Type} [Lay α] [Lay β] {m : Bool} {w : World} {cs : List Value} {p : α × β} {S : Blks} (h : rdP m w cs p S) : rdP m w cs p (fun b => S b ∧ b < w.heap.size) := by
  obtain ⟨c1, c2, S1, S2, e, h3, h4, h5, h1, h2⟩ := h
  exact ⟨c1, c2, _, _, e, fun b x => ⟨h3 b x.1, x.2⟩, fun b x => ⟨h4 b x.1, x.2⟩, fun hm b x y => h5 hm b x.1 y.1, Lay.tight h1, Lay.tight h2⟩
theorem rdP.one {α β : Type} [Lay α] [Lay β] {m : Bool} {w : World} {cs : List Value} {p : α × β} {S : Blks} (h : rdP m w cs p S) : ∀ u ∈ cs, u.oneCell' = true := by
  obtain ⟨c1, c2, S1, S2, rfl, h3, h4, h5, h1, h2⟩ := h
  intro u hu
  rcases List.mem_append.1 hu with hu | hu
  · exact Lay.one h1 u hu
  · exact Lay.one h2 u hu

end Go.Proofs.YtojbehmbeoemgaaDoor

set_option linter.unusedVariables false
set_option linter.unusedSimpArgs false
namespace Go.Proofs.YtojbehmbeoemgaaDoor
open Go.RowKit Lay

instance instInt : Lay Int where
  ty := 3
  n := 1
  rd _ _ cs a _ := cs = [.int .i64 a] ∧ I64 a
  pos := by decide
  len h := by rw [h.1]; rfl
  keep h _ := h
  mono h _ := h
  weak h := h
  tight h := h
  one h := by rw [h.1]; simp [Value.oneCell']
instance instBool : Lay Bool where
  ty := 4
  n := 1
  rd _ _ cs a _ := cs = [.bool a]
  pos := by decide
  len h := by rw [h]; rfl
  keep h _ := h
  mono h _ := h
  weak h := h
  tight h := h
  one h := by rw [h]; simp [Value.oneCell']
instance instStr : Lay ByteArray where
  ty := 9
  n := 1
  rd _ _ cs a _ := cs = [.string a] ∧ a.size ≤ maxLen
  pos := by decide
  len h := by rw [h.1]; rfl
  keep h _ := h
  mono h _ := h
  weak h := h
  tight h := h
  one h := by rw [h.1]; simp [Value.oneCell']
/-- a slice of slices bears its element type's number by its own -/
class SlTy (α : Type) where
  st : TypeId
instance instList {α : Type} [Lay α] [SlTy α] : Lay (List α) where
  ty := SlTy.st α
  n := 1
  rd m w cs xs S := rdS m w cs xs S
  pos := by decide
  len h := by obtain ⟨A, cap, rfl, _⟩ := h; rfl
  keep h k := by obtain ⟨A, cap, e, h1, h2, h3⟩ := h; exact ⟨A, cap, e, h1, h2, h3.keep k⟩
  mono h k := by obtain ⟨A, cap, e, h1, h2, h3⟩ := h; exact ⟨A, cap, e, h1, h2, h3.mono k⟩
  weak h := by obtain ⟨A, cap, e, h1, h2, h3⟩ := h; exact ⟨A, cap, e, h1, h2, h3.weak⟩
  tight h := by obtain ⟨A, cap, e, h1, h2, h3⟩ := h; exact ⟨A, cap, e, h1, h2, h3.tight⟩
  one h := by obtain ⟨A, cap, rfl, _⟩ := h; simp [Value.oneCell']
instance instProd {α β : Type} [Lay α] [Lay β] : Lay (α × β) where
  ty := 0
  n := n α + n β
  rd m w cs p S := rdP m w cs p S
  pos := by have := Lay.pos (α := α); omega
  len h := h.len
  keep h k := h.keep k
  mono h k := h.mono k
  weak h := h.weak
  tight h := h.tight
  one h := h.one
/-- a layout by another -/
abbrev layVia {α β : Type} [Lay β] (t : TypeId) (f : α → β) : Lay α where
  ty := t
  n := n β
  rd m w cs a S := rd m w cs (f a) S
  pos := Lay.pos
  len h := Lay.len h
  keep h k := Lay.keep h k
  mono h k := Lay.mono h k
  weak h := Lay.weak h
  tight h := Lay.tight h
  one h := Lay.one h

section
variable {β : Type} [Lay β] {m : Bool} {w : World} {cs : List Value} {S : Blks}
theorem open_int {a : Int} (h : rd m w cs a S) : cs = [.int .i64 a] ∧ I64 a := h
theorem open_bool {a : Bool} (h : rd m w cs a S) : cs = [.bool a] := h
theorem open_str {a : ByteArray} (h : rd m w cs a S) : cs = [.string a] ∧ a.size ≤ maxLen := h
theorem open_list {α : Type} [Lay α] [SlTy α] {xs : List α} (h : rd m w cs xs S) : ∃ A cap, cs = [.slice A xs.length cap] ∧ xs.length ≤ cap ∧ cap ≤ maxLen ∧ Row m w A cap xs S := h
theorem open_int2 {a : Int} {b : β} (h : rd m w cs (a, b) S) : ∃ c, cs = .int .i64 a :: c ∧ I64 a ∧ rd m w c b S := by
  obtain ⟨c1, c2, S1, S2, e, h3, h4, h5, h1, h2⟩ := h
  obtain ⟨h1, h6⟩ := h1
  subst h1
  exact ⟨c2, e, h6, Lay.mono h2 h4⟩
theorem open_bool2 {a : Bool} {b : β} (h : rd m w cs (a, b) S) : ∃ c, cs = .bool a :: c ∧ rd m w c b S := by
  obtain ⟨c1, c2, S1, S2, e, h3, h4, h5, h1, h2⟩ := h
  have h1 : c1 = [.bool a] := h1
  subst h1
  exact ⟨c2, e, Lay.mono h2 h4⟩
theorem open_str2 {a : ByteArray} {b : β} (h : rd m w cs (a, b) S) : ∃ c, cs = .string a :: c ∧ a.size ≤ maxLen ∧ rd m w c b S := by
  obtain ⟨c1, c2, S1, S2, e, h3, h4, h5, h1, h2⟩ := h
  obtain ⟨h1, h6⟩ := h1
  subst h1
  exact ⟨c2, e, h6, Lay.mono h2 h4⟩
theorem open_list2 {α : Type} [Lay α] [SlTy α] {xs : List α} {b : β} (h : rd m w cs (xs, b) S) :
    ∃ A cap c S1 S2, cs = .slice A xs.length cap :: c ∧ xs.length ≤ cap ∧ cap ≤ maxLen ∧ Row m w A cap xs S1 ∧ sub S1 S ∧ sub S2 S ∧ (m = true → disj S1 S2) ∧ rd m w c b S2 := by
  obtain ⟨c1, c2, S1, S2, e, h3, h4, h5, h1, h2⟩ := h
  obtain ⟨A, cap, h1, h6, h7, h8⟩ := h1
  subst h1
  exact ⟨A, cap, c2, S1, S2, e, h6, h7, h8, h3, h4, h5, h2⟩
theorem open_two {α : Type} [Lay α] {a : α} {b : β} (h : rd m w cs (a, b) S) :
    ∃ c1 c2 S1 S2, cs = c1 ++ c2 ∧ sub S1 S ∧ sub S2 S ∧ (m = true → disj S1 S2) ∧ rd m w c1 a S1 ∧ rd m w c2 b S2 := h
theorem mk_int2 {a : Int} {b : β} {c : List Value} (ha : I64 a) (h : rd m w c b S) : rd m w (.int .i64 a :: c) (a, b) S :=
  ⟨[.int .i64 a], c, fun _ => False, S, rfl, (fun _ x => x.elim), sub_refl S, (fun _ _ x => x.elim), ⟨rfl, ha⟩, h⟩
theorem mk_bool2 {a : Bool} {b : β} {c : List Value} (h : rd m w c b S) : rd m w (.bool a :: c) (a, b) S :=
  ⟨[.bool a], c, fun _ => False, S, rfl, (fun _ x => x.elim), sub_refl S, (fun _ _ x => x.elim), rfl, h⟩
theorem mk_str2 {a : ByteArray} {b : β} {c : List Value} (ha : a.size ≤ maxLen) (h : rd m w c b S) : rd m w (.string a :: c) (a, b) S :=
  ⟨[.string a], c, fun _ => False, S, rfl, (fun _ x => x.elim), sub_refl S, (fun _ _ x => x.elim), ⟨rfl, ha⟩, h⟩
end
end Go.Proofs.YtojbehmbeoemgaaDoor

set_option linter.unusedVariables false
set_option linter.unusedSimpArgs false
namespace Go.Proofs.YtojbehmbeoemgaaDoor
open Go.RowKit Lay

/-- the digits of a number, most significant first, ahead of what is there -/
def mdig : Nat → Nat → ByteArray → ByteArray
  | 0, _, out => out
  | f + 1, k, out => if k = 0 then out else mdig f (k / 10) (⟨#[UInt8.ofNat (48 + k % 10)]⟩ ++ out)
/-- the mark of a string -/
def mtext (k : Nat) : ByteArray := if k = 0 then ⟨#[109, 48]⟩ else ⟨#[109]⟩ ++ mdig k k ByteArray.empty

/-- counting and marking -/
class Mk (α : Type) [Lay α] where
  sz : α → Nat
  cn : α → Nat
  me : α → Nat → α
  z : α
  zc : List Value
  zrd : ∀ (m : Bool) (w : World), rd m w zc z (fun _ => False)
open Mk
def szL {α : Type} [Lay α] [Mk α] (xs : List α) : Nat := xs.length + (xs.map sz).sum
def cnL {α : Type} [Lay α] [Mk α] (xs : List α) : Nat := (xs.map cn).sum
def meL {α : Type} [Lay α] [Mk α] : List α → Nat → List α
  | [], _ => []
  | x :: xs, k => me x k :: meL xs (k + cn x)
@[simp] theorem meL_length {α : Type} [Lay α] [Mk α] : ∀ (xs : List α) (k : Nat), (meL xs k).length = xs.length
  | [], _ => rfl
  | x :: xs, k => by simp [meL, meL_length xs]
theorem meL_get {α : Type} [Lay α] [Mk α] : ∀ (xs : List α) (k i : Nat) (h : i < xs.length), (meL xs k)[i]'(by simpa using h) = me xs[i] (k + cnL (xs.take i))
  | [], _, _, h => by simp at h
  | x :: xs, k, 0, h => by simp [meL, cnL]
  | x :: xs, k, i + 1, h => by
    simp only [meL, List.getElem_cons_succ, List.take_succ_cons]
    rw [meL_get xs (k + cn x) i (by simpa using h)]
    simp [cnL, Nat.add_assoc]
theorem sum_take_le : ∀ (l : List Nat) (i : Nat), (l.take i).sum ≤ l.sum
  | [], _ => by simp
  | x :: l, 0 => by simp
  | x :: l, i + 1 => by simp only [List.take_succ_cons, List.sum_cons]; have := sum_take_le l i; omega
theorem sum_take_succ (l : List Nat) (i : Nat) (h : i < l.length) : (l.take (i + 1)).sum = (l.take i).sum + l[i] := by
  rw [List.take_succ_eq_append_getElem h, List.sum_append]; simp only [List.sum_cons, List.sum_nil, Nat.add_zero]
theorem cnL_take_succ {α : Type} [Lay α] [Mk α] (xs : List α) (i : Nat) (h : i < xs.length) : cnL (xs.take (i + 1)) = cnL (xs.take i) + cn xs[i] := by
  unfold cnL; rw [List.map_take, List.map_take, sum_take_succ _ _ (by simpa using h)]; simp
theorem cnL_take_le {α : Type} [Lay α] [Mk α] (xs : List α) (i : Nat) : cnL (xs.take i) ≤ cnL xs := by
  unfold cnL; rw [List.map_take]; exact sum_take_le _ _
def szT {α : Type} [Lay α] [Mk α] (xs : List α) (i : Nat) : Nat := ((xs.map sz).take i).sum
theorem szT_succ {α : Type} [Lay α] [Mk α] (xs : List α) (i : Nat) (h : i < xs.length) : szT xs (i + 1) = szT xs i + sz xs[i] := by
  unfold szT; rw [sum_take_succ _ _ (by simpa using h)]; simp
theorem szT_le {α : Type} [Lay α] [Mk α] (xs : List α) (i : Nat) : xs.length + szT xs i ≤ szL xs := by
  unfold szL szT; have := sum_take_le (xs.map sz) i; omega
theorem szT_all {α : Type} [Lay α] [Mk α] (xs : List α) : xs.length + szT xs xs.length = szL xs := by
  unfold szL szT; rw [List.take_of_length_le (by simp)]
theorem szT_zero {α : Type} [Lay α] [Mk α] (xs : List α) : szT xs 0 = 0 := by simp [szT]
theorem sz_le_L {α : Type} [Lay α] [Mk α] (xs : List α) (i : Nat) (h : i < xs.length) : xs.length + sz xs[i] ≤ szL xs := by
  have h1 := szT_succ xs i h
  have h2 := szT_le xs (i + 1)
  omega
/-- what a count of sizes answers -/
def SzR (n left : Int) (s : Nat) : Prop := (n = -1 ∧ left < s) ∨ (n = left - s ∧ (s : Int) ≤ left)

instance mkInt : Mk Int where
  sz _ := 0
  cn _ := 1
  me _ k := k
  z := 0
  zc := [.int .i64 0]
  zrd _ _ := ⟨rfl, by unfold I64; omega⟩
instance mkBool : Mk Bool where
  sz _ := 0
  cn _ := 1
  me _ k := ((k : Int) % 3 == 0)
  z := false
  zc := [.bool false]
  zrd _ _ := rfl
instance mkStr : Mk ByteArray where
  sz s := s.size
  cn _ := 1
  me _ k := mtext k
  z := ByteArray.empty
  zc := [.string ByteArray.empty]
  zrd _ _ := ⟨rfl, by decide⟩
instance mkList {α : Type} [Lay α] [SlTy α] [Mk α] : Mk (List α) where
  sz xs := szL xs
  cn xs := cnL xs
  me xs k := meL xs k
  z := []
  zc := [.slice none 0 0]
  zrd m w := ⟨none, 0, rfl, by simp, by decide, by cases m; exact fun h => absurd rfl h; exact .inl ⟨rfl, rfl, rfl⟩⟩

/-- the elements of one owned row, one of them set anew -/
theorem Row.set {α : Type} [Lay α] {w w' : World} {g cap : Nat} {ys : List α} {S : Blks} {T : Nat → Blks} {cur cur' : Array Value} {i : Nat} {y : α} {cs : List Value} {U : Blks}
    (hg : S g) (hc : cur.size = cap * n α) (hT : ∀ i, sub (T i) (fun b => S b ∧ b ≠ g)) (hd : ∀ i j, i ≠ j → disj (T i) (T j))
    (he : ∀ j (h : j < ys.length), j ≠ i → ∃ cs, At w g (j * n α) cs ∧ rd true w cs ys[j] (T j))
    (hi : i < ys.length) (hw' : w'.heap[g]? = some (.cells cur' (ty α) (0, 0))) (hc' : cur'.size = cur.size)
    (hsame : ∀ o, o < ys.length * n α → o / n α ≠ i → w'.cell? ⟨g, o, none⟩ = w.cell? ⟨g, o, none⟩)
    (hoth : ∀ j, j < ys.length → j ≠ i → Same (T j) w w')
    (hU : sub U (fun b => S b ∧ b ≠ g)) (hUd : ∀ j, j < ys.length → j ≠ i → disj U (T j))
    (hat : At w' g (i * n α) cs) (hrd : rd true w' cs y U) : Row true w' (some ⟨g, 0, none⟩) cap (ys.set i y) S := by
  refine .inr ⟨g, cur', rfl, hg, hw', by rw [hc', hc], ?_⟩
  refine ⟨fun j b => if j = i then U b else (T j b ∧ j < ys.length), fun j => ?_, fun _ j k hjk => ?_, fun j hj => ?_⟩
  · intro b hb
    by_cases e : j = i
    · simp only [e, if_true] at hb; exact hU b hb
    · simp only [e, if_false] at hb; exact hT j b hb.1
  · intro b hb hb2
    by_cases e1 : j = i
    · subst e1
      have e2 : ¬ k = j := fun h => hjk h.symm
      simp only [if_true] at hb
      simp only [e2, if_false] at hb2
      exact hUd k hb2.2 e2 b hb hb2.1
    · simp only [e1, if_false] at hb
      by_cases e2 : k = i
      · subst e2
        simp only [if_true] at hb2
        exact hUd j hb.2 e1 b hb2 hb.1
      · simp only [e2, if_false] at hb2
        exact hd j k hjk b hb.1 hb2.1
  · have hj' : j < ys.length := by simpa using hj
    by_cases e : j = i
    · subst e
      refine ⟨cs, by simpa using hat, ?_⟩
      simp only [if_true, List.getElem_set_self]
      exact hrd
    · obtain ⟨c, h1, h2⟩ := he j hj' e
      refine ⟨c, ?_, ?_⟩
      · intro q u hu
        have hq : q < n α := by
          have hl := Lay.len h2
          have := (List.getElem?_eq_some_iff.1 hu).1
          omega
        have hm : j * n α + n α ≤ ys.length * n α := by rw [← Nat.succ_mul]; exact Nat.mul_le_mul_right _ hj'
        have hs := hsame (j * n α + q) (by omega) (by
          rw [Nat.mul_comm, Nat.mul_add_div (Lay.pos), Nat.div_eq_of_lt hq]; simpa using e)
        have h1' := h1 q u hu
        simp only [Nat.zero_add] at h1' ⊢
        rw [hs]; exact h1'
      · have hne : ¬ i = j := fun h => e h.symm
        simp only [e, if_false, List.getElem_set, hne]
        exact Lay.mono (Lay.keep h2 (hoth j hj' e)) (fun b hb => ⟨hb, hj'⟩)
theorem Lay.later {α : Type} [Lay α] {m : Bool} {w w' : World} {cs : List Value} {a : α} {S : Blks} (h : rd m w cs a S) (hb : Below w.heap.size w w') : rd m w' cs a S :=
  Lay.mono (Lay.keep (Lay.tight h) (fun b x => hb.block b x.2)) (fun _ x => x.1)
theorem Row.later {α : Type} [Lay α] {m : Bool} {w w' : World} {A : Option Addr} {cap : Nat} {xs : List α} {S : Blks} (h : Row m w A cap xs S) (hb : Below w.heap.size w w') : Row m w' A cap xs S :=
  (h.tight.keep (fun b x => hb.block b x.2)).mono (fun _ x => x.1)
theorem Lay.chg {α : Type} [Lay α] {m : Bool} {w w' : World} {cs : List Value} {a : α} {S T : Blks} (h : rd m w cs a S) (hb : Chg T w w') (hd : disj S T) : rd m w' cs a S :=
  Lay.mono (Lay.keep (Lay.tight h) (fun b x => hb.block b x.2 (hd b x.1))) (fun _ x => x.1)
theorem Row.chg {α : Type} [Lay α] {m : Bool} {w w' : World} {A : Option Addr} {cap : Nat} {xs : List α} {S T : Blks} (h : Row m w A cap xs S) (hb : Chg T w w') (hd : disj S T) : Row m w' A cap xs S :=
  (h.tight.keep (fun b x => hb.block b x.2 (hd b x.1))).mono (fun _ x => x.1)
/-- a block of cells of one element type, m cells long, none frozen -/
def Shp (w : World) (g : Nat) (t : TypeId) (m : Nat) : Prop := ∃ cur : Array Value, w.heap[g]? = some (.cells cur t (0, 0)) ∧ cur.size = m
theorem Shp.lt {w : World} {g t m : Nat} (h : Shp w g t m) : g < w.heap.size := heap_lt h.choose_spec.1
theorem Shp.frozen {w : World} {g t m : Nat} (h : Shp w g t m) (o : Nat) : w.frozen? ⟨g, o, none⟩ = false := by
  obtain ⟨cur, h1, _⟩ := h
  exact frozen_of_row w g o cur t h1
theorem Shp.drew {w : World} {g t m : Nat} (h : Shp w g t m) : Shp w.drew g t m := h
theorem Shp.alloc {w : World} {g t m : Nat} (h : Shp w g t m) (o : Obj) : Shp (w.alloc o) g t m := by
  obtain ⟨cur, h1, h2⟩ := h
  exact ⟨cur, (Below.heap_alloc w o g (heap_lt h1)).trans h1, h2⟩
theorem Shp.set {w : World} {g t m : Nat} (h : Shp w g t m) (p : Addr) (u : Value) : Shp (w.setCell p u) g t m := by
  obtain ⟨cur, h1, h2⟩ := h
  by_cases e : g = p.block
  · subst e
    refine ⟨if p.spot.isSome then cur else cur.setIfInBounds p.off u, ?_, ?_⟩
    · simp [World.setCell, Array.getElem?_modify, h1]
    · split <;> simp [h2]
  · exact ⟨cur, (Below.heap_setCell w p u g e).trans h1, h2⟩
theorem Shp.of {w w' : World} {g t m : Nat} (h : Shp w g t m) (k : w'.heap[g]? = w.heap[g]?) : Shp w' g t m := by
  obtain ⟨cur, h1, h2⟩ := h
  exact ⟨cur, k.trans h1, h2⟩
theorem Row.setC {α : Type} [Lay α] {m : Bool} {w : World} {A : Option Addr} {cap : Nat} {xs : List α} {S : Blks} (h : Row m w A cap xs S) {p : Addr} (hp : ¬ S p.block) (u : Value) : Row m (w.setCell p u) A cap xs S :=
  h.keep (fun b hb => Below.heap_setCell w p u b (fun e => hp (e ▸ hb)))
theorem Row.drewC {α : Type} [Lay α] {m : Bool} {w : World} {A : Option Addr} {cap : Nat} {xs : List α} {S : Blks} (h : Row m w A cap xs S) : Row m w.drew A cap xs S := h.keep (fun _ _ => rfl)
theorem Row.allocC {α : Type} [Lay α] {m : Bool} {w : World} {A : Option Addr} {cap : Nat} {xs : List α} {S : Blks} (h : Row m w A cap xs S) (o : Obj) : Row m (w.alloc o) A cap xs S :=
  (h.tight.keep (fun b x => Below.heap_alloc w o b x.2)).mono (fun _ x => x.1)
theorem cell_set_ne (w : World) (g p o : Nat) (u : Value) (h : o ≠ p) : (w.setCell ⟨g, p, none⟩ u).cell? ⟨g, o, none⟩ = w.cell? ⟨g, o, none⟩ :=
  World.cell?_setCell_other w _ _ u (by intro e; injection e with _ e2; exact h e2.symm)
theorem Row.setN {α : Type} [Lay α] {w w' : World} {g cap N i : Nat} {ys : List α} {S : Blks} {T : Nat → Blks} {y : α} {cs : List Value} (hN : n α = N)
    (hg : S g) (hT : ∀ j, sub (T j) (fun b => S b ∧ b ≠ g)) (hd : ∀ i j, i ≠ j → disj (T i) (T j))
    (he : ∀ j (h : j < ys.length), ∃ cs, At w g (0 + j * n α) cs ∧ rd true w cs ys[j] (T j))
    (hi : i < ys.length) (hsh : Shp w' g (ty α) (cap * N))
    (hsame : ∀ o, o / N ≠ i → w'.cell? ⟨g, o, none⟩ = w.cell? ⟨g, o, none⟩)
    (hchg : Chg (fun b => b = g ∨ T i b) w w')
    (hat : At w' g (i * N) cs) (hrd : rd true w' cs y (T i)) : Row true w' (some ⟨g, 0, none⟩) cap (ys.set i y) S := by
  subst hN
  obtain ⟨cur', hw', hc'⟩ := hsh
  refine .inr ⟨g, cur', rfl, hg, hw', hc', T, hT, fun _ => hd, fun j hj => ?_⟩
  have hj' : j < ys.length := by simpa using hj
  by_cases e : j = i
  · subst e
    refine ⟨cs, by simpa using hat, ?_⟩
    simp only [List.getElem_set_self]
    exact hrd
  · obtain ⟨c, h1, h2⟩ := he j hj'
    refine ⟨c, ?_, ?_⟩
    · intro q u hu
      have hq : q < n α := by
        have hl := Lay.len h2
        have := (List.getElem?_eq_some_iff.1 hu).1
        omega
      have hs := hsame (j * n α + q) (by
        rw [Nat.mul_comm, Nat.mul_add_div (Lay.pos), Nat.div_eq_of_lt hq]; simpa using e)
      have h1' := h1 q u hu
      simp only [Nat.zero_add] at h1' ⊢
      rw [hs]; exact h1'
    · have hne : ¬ i = j := fun h => e h.symm
      simp only [List.getElem_set, hne, if_false]
      refine Lay.chg h2 hchg (fun b hb hb2 => ?_)
      rcases hb2 with rfl | hb2
      · exact (hT j _ hb).2 rfl
      · exact hd j i e b hb hb2
theorem meL_step {α : Type} [Lay α] [Mk α] (xs : List α) (k0 k : Nat) (h : k < xs.length) :
    meL (xs.take (k + 1)) k0 ++ xs.drop (k + 1) = (meL (xs.take k) k0 ++ xs.drop k).set k (me xs[k] (k0 + cnL (xs.take k))) := by
  apply List.ext_getElem
  · simp; omega
  · intro j h1 h2
    by_cases e : j = k
    · subst e
      rw [List.getElem_set_self, List.getElem_append_left (by simp; omega), meL_get _ _ _ (by simp; omega)]
      simp [List.take_take, Nat.min_eq_left (Nat.le_succ j)]
    · rw [List.getElem_set_ne (by omega)]
      by_cases hl : j < k
      · rw [List.getElem_append_left (by simp; omega), List.getElem_append_left (by simp; omega), meL_get _ _ _ (by simp; omega), meL_get _ _ _ (by simp; omega)]
        simp [List.take_take, Nat.min_eq_left (show j ≤ k + 1 by omega), Nat.min_eq_left (show j ≤ k by omega)]
      · rw [List.getElem_append_right (by simp; omega), List.getElem_append_right (by simp; omega)]
        simp only [meL_length, List.length_take, List.getElem_drop]
        congr 1
        omega
theorem meL_at {α : Type} [Lay α] [Mk α] (xs : List α) (k0 k : Nat) (h : k < xs.length) (h2 : k < (meL (xs.take k) k0 ++ xs.drop k).length) : (meL (xs.take k) k0 ++ xs.drop k)[k] = xs[k] := by
  rw [List.getElem_append_right (by simp; omega)]
  simp [Nat.min_eq_left (Nat.le_of_lt h)]
end Go.Proofs.YtojbehmbeoemgaaDoor

set_option linter.unusedVariables false
set_option linter.unusedSimpArgs false
namespace Go.Proofs.YtojbehmbeoemgaaDoor
open Go.RowKit Lay Mk

def All : Blks := fun _ => True
/-- whatever the form can read at this type is a datum of this layout -/
def Rdb (α : Type) [Lay α] (P : Program) (t : TypeId) : Prop := ∀ (H : Type) (enc : TypeId × Value → H) (w : World) (base : Nat) (spare : Nat → Bool) (held : Bool) (fuel : Nat) (cs : List Value) (x : DataW H × List MemPlace),
  DataW.trod enc P w base spare held fuel t cs = some x → ∃ a : α, rd false w cs a All

theorem rdb_int {P : Program} {t : TypeId} (ht : P.underlying t = some (.int .i64)) : Rdb Int P t := by
  intro H enc w base spare held fuel cs x h
  obtain ⟨n, rfl, _, hw⟩ := DataW.trod_int ht h
  refine ⟨n, rfl, ?_⟩
  unfold I64
  simp [Lit.wf, IntKind.min, IntKind.max, IntKind.signed, IntKind.bits] at hw
  omega
theorem rdb_bool {P : Program} {t : TypeId} (ht : P.underlying t = some .bool) : Rdb Bool P t := by
  intro H enc w base spare held fuel cs x h
  obtain ⟨n, rfl, _⟩ := DataW.trod_bool ht h
  exact ⟨n, rfl⟩
theorem rdb_str {P : Program} {t : TypeId} (ht : P.underlying t = some .string) : Rdb ByteArray P t := by
  intro H enc w base spare held fuel cs x h
  obtain ⟨n, rfl, _, hw⟩ := DataW.trod_string ht h
  exact ⟨n, rfl, hw⟩
theorem rdb_slice {α : Type} [Lay α] [SlTy α] {P : Program} {t e : TypeId} (ht : P.underlying t = some (.slice e)) (hn : P.cellsOf e = n α) (hb : Rdb α P e) : Rdb (List α) P t := by
  intro H enc w base spare held fuel cs x h
  rcases DataW.trod_slice ht h with ⟨rfl, _⟩ | ⟨a, len, cap, elems, rest, m, _, rfl, _, _, hlc, hcm, hlen, hel, _, _⟩
  · exact ⟨[], none, 0, rfl, Nat.le_refl _, by decide, fun h => absurd rfl h⟩
  · have hx : ∀ i, i < len → ∃ a' : α, ∃ cs', w.cells? base (a.add (i * n α)) (n α) = some cs' ∧ rd false w cs' a' All := by
      intro i hi
      have h1 := hel i hi
      rw [List.getElem?_eq_getElem (by omega)] at h1
      obtain ⟨cs', h2, h3⟩ := Option.bind_eq_some_iff.1 h1
      obtain ⟨a', h4⟩ := hb H enc w base spare held m cs' _ h3
      rw [hn] at h2
      exact ⟨a', cs', h2, h4⟩
    let f : Fin len → α := fun i => Classical.choose (hx i i.2)
    have hf : ∀ i : Fin len, ∃ cs', w.cells? base (a.add (i * n α)) (n α) = some cs' ∧ rd false w cs' (f i) All := fun i => Classical.choose_spec (hx i i.2)
    refine ⟨List.ofFn f, some a, cap, by simp, by simpa using hlc, hcm, fun hne => ?_⟩
    have hpos : 0 < len := by
      rcases Nat.eq_zero_or_pos len with h0 | h0
      · subst h0; simp at hne
      · exact h0
    have hp := Lay.pos (α := α)
    have hadd : a.spot = none := by
      obtain ⟨cs', h2, h3⟩ := hf ⟨0, hpos⟩
      obtain ⟨_, hl, hc⟩ := World.cells?_some h2
      have h4 := hc 0 (by omega)
      rw [List.getElem?_eq_getElem (by omega)] at h4
      cases hs : a.spot with
      | none => rfl
      | some s =>
        exfalso
        unfold World.cell? at h4
        simp [Addr.add, hs] at h4
        split at h4 <;> simp at h4
    obtain ⟨b, off, spot⟩ := a
    simp only at hadd
    subst hadd
    refine ⟨b, off, rfl, trivial, fun _ => All, fun _ => sub_refl _, (by simp), fun i hi => ?_⟩
    have hi' : i < len := by simpa using hi
    obtain ⟨cs', h2, h3⟩ := hf ⟨i, hi'⟩
    obtain ⟨_, hl, hc⟩ := World.cells?_some h2
    refine ⟨cs', fun j u hu => ?_, by simpa using h3⟩
    have hj : j < n α := by have := (List.getElem?_eq_some_iff.1 hu).1; omega
    have h4 := hc j hj
    rw [Addr.add_lit, Addr.add_lit] at h4
    rw [hu] at h4
    exact h4
theorem rd_pair_drop {α β : Type} [Lay α] [Lay β] {w : World} {cs : List Value} {a : α} {b : β} {o k : Nat} (h1 : rd false w ((cs.drop o).take k) a All) (h2 : rd false w (cs.drop (o + k)) b All) : rd false w (cs.drop o) (a, b) All :=
  ⟨(cs.drop o).take k, cs.drop (o + k), All, All, by rw [← List.drop_drop, List.take_append_drop], sub_refl _, sub_refl _, by simp, h1, h2⟩
theorem rd_last_drop {α : Type} [Lay α] {w : World} {cs : List Value} {a : α} {o k : Nat} (h1 : rd false w ((cs.drop o).take k) a All) (hl : cs.length = o + k) : rd false w (cs.drop o) a All := by
  rwa [List.take_of_length_le (by simp; omega)] at h1
end Go.Proofs.YtojbehmbeoemgaaDoor

set_option linter.unusedVariables false
set_option linter.unusedSimpArgs false
namespace Go.Proofs.YtojbehmbeoemgaaDoor
open Go.RowKit Lay

/-- elements that can be taken over into an owned row -/
def Src {α : Type} [Lay α] (w : World) (A : Option Addr) (ys : List α) (T : Blks) : Prop :=
  ys ≠ [] → ∃ b off, A = some ⟨b, off, none⟩ ∧ Els true w b off ys T

theorem flat_cells {α : Type} [Lay α] {m : Bool} {w : World} {b off : Nat} : ∀ {xs : List α} {S : Blks}, Els m w b off xs S →
    ∃ cells : List Value, cells.length = xs.length * n α ∧ At w b off cells ∧ (∀ u ∈ cells, u.oneCell' = true)
  | [], _, _ => ⟨[], by simp, fun j u hu => by simp at hu, by simp⟩
  | x :: xs, S, h => by
    obtain ⟨T, h1, h2, h3⟩ := h
    obtain ⟨c0, ha0, hr0⟩ := h3 0 (by simp)
    have ht : Els m w b (off + n α) xs S := ⟨fun i => T (i + 1), fun i => h1 _, fun hm i j hij => h2 hm _ _ (by omega), fun i hi => by
      obtain ⟨cs, h4, h5⟩ := h3 (i + 1) (by simpa using hi)
      refine ⟨cs, ?_, h5⟩
      have e : off + (i + 1) * n α = off + n α + i * n α := by rw [Nat.add_mul]; omega
      rw [e] at h4; exact h4⟩
    obtain ⟨cells, hl, ha, h1⟩ := flat_cells ht
    have hl0 := Lay.len hr0
    refine ⟨c0 ++ cells, by simp [hl, hl0, Nat.add_mul, Nat.add_comm], fun j u hu => ?_, fun u hu => ?_⟩
    · by_cases hj : j < c0.length
      · rw [List.getElem?_append_left hj] at hu
        have := ha0 j u hu
        simpa using this
      · rw [List.getElem?_append_right (by omega)] at hu
        have := ha (j - c0.length) u hu
        rw [show off + n α + (j - c0.length) = off + j by omega] at this
        exact this
    · rcases List.mem_append.1 hu with h | h
      · exact Lay.one hr0 u h
      · exact h1 u h

theorem add_none (b off j : Nat) : (⟨b, off, none⟩ : Addr).add j = ⟨b, off + j, none⟩ := by unfold Addr.add; split <;> simp_all

/-- cells behind one another are what they are: two readings of one place -/
theorem At.take {w : World} {b off : Nat} {cs : List Value} (h : At w b off cs) {cur : Array Value} {e : TypeId} {fr : Nat × Nat} (hb : w.heap[b]? = some (.cells cur e fr)) : (cur.toList.drop off).take cs.length = cs := by
  apply List.ext_getElem?
  intro j
  by_cases hj : j < cs.length
  · have := h j _ (List.getElem?_eq_getElem hj)
    rw [cell_of_row w b (off + j) cur e fr hb] at this
    rw [List.getElem?_take, if_pos hj, List.getElem?_drop, List.getElem?_eq_getElem hj, Array.getElem?_toList, this]
  · rw [List.getElem?_take, if_neg hj, List.getElem?_eq_none (by omega)]

theorem Els.keep2 {α : Type} [Lay α] {m : Bool} {w w' : World} {b off b' off' : Nat} {xs : List α} {S : Blks} (h : Els m w b off xs S)
    (k : Same S w w') (hc : ∀ j, j < xs.length * n α → ∀ u, w.cell? ⟨b, off + j, none⟩ = some u → w'.cell? ⟨b', off' + j, none⟩ = some u) : Els m w' b' off' xs S := by
  obtain ⟨T, h1, h2, h3⟩ := h
  refine ⟨T, h1, h2, fun i hi => ?_⟩
  obtain ⟨cs, h4, h5⟩ := h3 i hi
  refine ⟨cs, fun j u hu => ?_, Lay.keep h5 (k.sub (h1 i))⟩
  have hj : j < n α := by have := (List.getElem?_eq_some_iff.1 hu).1; have := Lay.len h5; omega
  have hm : i * n α + n α ≤ xs.length * n α := by rw [← Nat.succ_mul]; exact Nat.mul_le_mul_right _ hi
  have := hc (i * n α + j) (by omega) u (by rw [← Nat.add_assoc]; exact h4 j u hu)
  rw [← Nat.add_assoc] at this
  exact this

theorem Els.app {α : Type} [Lay α] {w : World} {b off : Nat} {xs ys : List α} {S T : Blks} (h : Els true w b off xs S) (k : Els true w b (off + xs.length * n α) ys T) (hd : disj S T) :
    Els true w b off (xs ++ ys) (fun b => S b ∨ T b) := by
  obtain ⟨U, h1, h2, h3⟩ := h
  obtain ⟨V, k1, k2, k3⟩ := k
  refine ⟨fun i => if i < xs.length then U i else V (i - xs.length), fun i => ?_, fun hm i j hij => ?_, fun i hi => ?_⟩
  · by_cases e : i < xs.length
    · simp only [e, if_true]; exact fun b x => .inl (h1 i b x)
    · simp only [e, if_false]; exact fun b x => .inr (k1 _ b x)
  · by_cases e : i < xs.length <;> by_cases f : j < xs.length
    · simp only [e, f, if_true]; exact h2 rfl i j hij
    · simp only [e, f, if_true, if_false]; exact disj_sub hd (h1 i) (k1 _)
    · simp only [e, f, if_true, if_false]; exact disj_symm (disj_sub hd (h1 j) (k1 _))
    · simp only [e, f, if_false]; exact k2 rfl _ _ (by omega)
  · by_cases e : i < xs.length
    · obtain ⟨cs, h4, h5⟩ := h3 i e
      refine ⟨cs, h4, ?_⟩
      simp only [e, if_true, List.getElem_append_left e]
      exact h5
    · obtain ⟨cs, h4, h5⟩ := k3 (i - xs.length) (by simp at hi; omega)
      refine ⟨cs, ?_, ?_⟩
      · have e2 : off + xs.length * n α + (i - xs.length) * n α = off + i * n α := by
          rw [Nat.add_assoc, ← Nat.add_mul]; congr 2; omega
        rw [e2] at h4; exact h4
      · simp only [e, if_false, List.getElem_append_right (Nat.le_of_not_lt e)]
        exact h5

theorem run_app {α : Type} [Lay α] {P : Program} {w : World} {S T : Blks} {A A2 : Option Addr} {cap c2 : Nat} {xs ys : List α} (t tt : TypeId) (i : TypeInfo) (z : Value) (bytes : Nat)
    (ht : P.underlying t = some (.slice (ty α))) (hi : P.info? (ty α) = some i) (hz : i.zero = some z) (hsize : i.size = n α) (hby : i.bytes = bytes) (hzs : z.cells.size = n α)
    (hx : Row true w A cap xs S) (hxc : xs.length ≤ cap) (hcm : cap ≤ maxLen) (hy : Src w A2 ys T) (hd : disj S T)
    (h63 : xs.length + ys.length ≤ maxLen) (hbytes : (xs.length + ys.length) * bytes ≤ 140737488355328) :
    ∃ A' cap' w', (Builtin.append_ #[t, t] tt #[.slice A xs.length cap, .slice A2 ys.length c2]).run P w = .ok (.slice A' (xs.length + ys.length) cap') w' ∧ xs.length + ys.length ≤ cap' ∧ cap' ≤ maxLen ∧
      Row true w' A' cap' (xs ++ ys) (fun b => S b ∨ T b ∨ (w.heap.size ≤ b ∧ b < w'.heap.size)) ∧ Chg S w w' := by
  have hp := Lay.pos (α := α)
  -- what the row holds, as cells
  have hown : ∃ cells, w.ownsRow 0 (ty α) (n α) (.slice A xs.length cap) xs.length cells := by
    rcases hx with ⟨rfl, rfl, rfl⟩ | ⟨g, cur, rfl, hg, hb, hs, he⟩
    · exact ⟨[], by simp, .inl ⟨rfl, rfl⟩⟩
    · refine ⟨cur.toList.take (xs.length * n α), ?_, .inr ⟨g, cap, cur, rfl, Nat.zero_le _, hb, hxc, hcm, hs, rfl⟩⟩
      have hm : xs.length * n α ≤ cap * n α := Nat.mul_le_mul_right _ hxc
      simp only [List.length_take, Array.length_toList, hs]; exact Nat.min_eq_left hm
  obtain ⟨cells, hown⟩ := hown
  by_cases hne : ys = []
  · subst hne
    refine ⟨A, cap, w, ?_, by simpa using hxc, hcm, by simpa using hx.mono (fun b h => .inl h), Chg.refl _ _⟩
    rcases hown.2 with ⟨h0, h1⟩ | ⟨g, cap', cur, h0, _, _, hnc, _⟩
    · injection h0 with e1 e2 e3; subst e1; subst e3
      cases A2 <;> simp [Builtin.append_, run_underlying ht, sizeOf, typeInfo, hi, Builtin.lenOf, Builtin.firstCells, loadCells, loadCellsFrom, h1]
    · injection h0 with e1 e2 e3; subst e1; subst e3
      cases A2 <;> simp [Builtin.append_, run_underlying ht, sizeOf, typeInfo, hi, Builtin.lenOf, Builtin.firstCells, loadCells, loadCellsFrom, hnc, storeCells]
  · obtain ⟨b2, o2, rfl, hys⟩ := hy hne
    replace hys := hys.tight
    obtain ⟨news, hl, hn, h1⟩ := flat_cells hys
    obtain ⟨v', w', hr, ho, hg, _, hat⟩ := run_append_own_at (P := P) w 0 t tt (ty α) i z (n α) bytes ht hi hz hsize hby hzs hp _ xs.length cells hown ⟨b2, o2, none⟩ ys.length c2 news hl
      (fun j u hu => by rw [add_none]; exact hn j u hu) h1 h63 hbytes (Nat.zero_le _)
    have hchg : Chg S w w' := by
      refine ⟨hg.os, hg.tape, hg.output, hg.size, fun k hk hs => hg.block k hk (fun e => hs ?_)⟩
      rcases hx with ⟨rfl, rfl, rfl⟩ | ⟨g, cur, rfl, hg, _⟩
      · simp [Value.ownBlock] at e
      · simp [Value.ownBlock] at e; subst e; exact hg
    have hpos : 0 < ys.length := by cases ys with | nil => exact absurd rfl hne | cons _ _ => simp
    rcases ho.2 with ⟨_, h0⟩ | ⟨g', cap', cur', rfl, _, hb', hnc', hcm', hs', htake⟩
    · omega
    -- the new row's elements
    have hg' : S g' ∨ (w.heap.size ≤ g' ∧ g' < w'.heap.size) := by
      rcases hat with h | h
      · rcases hx with ⟨rfl, rfl, rfl⟩ | ⟨g, cur, rfl, hg, _⟩
        · simp [Value.ownBlock] at h
        · simp [Value.ownBlock] at h; subst h; exact .inl hg
      · simp [Value.ownBlock] at h; subst h; exact .inr ⟨Nat.le_refl _, heap_lt hb'⟩
    have hcell : ∀ j u, (cells ++ news)[j]? = some u → w'.cell? ⟨g', j, none⟩ = some u := by
      intro j u hu
      rw [cell_of_row w' g' j cur' (ty α) (0, 0) hb']
      rw [← htake, List.getElem?_take] at hu
      split at hu
      · simpa using hu
      · cases hu
    have hnewE : Els true w' g' (0 + xs.length * n α) ys (fun b => T b ∧ b < w.heap.size) := by
      refine hys.keep2 (b' := g') (off' := 0 + xs.length * n α) (fun b hb => hg.block b hb.2 (fun e => ?_)) (fun j hj u hu => ?_)
      · rcases hx with ⟨rfl, rfl, rfl⟩ | ⟨g, cur, rfl, hg, _⟩
        · simp [Value.ownBlock] at e
        · simp [Value.ownBlock] at e; subst e; exact hd _ hg hb.1
      · have hj' : j < news.length := by omega
        have e1 := hn j _ (List.getElem?_eq_getElem hj')
        rw [e1] at hu
        apply hcell
        rw [List.getElem?_append_right (by rw [hown.1]; omega), hown.1, Nat.zero_add, Nat.add_sub_cancel_left, List.getElem?_eq_getElem hj', hu]
    have hoth : ∀ b, b < w.heap.size → ¬ S b → w'.heap[b]? = w.heap[b]? := hchg.block
    have hgn : ¬ (T g' ∧ g' < w.heap.size) := by
      rintro ⟨h1, h2⟩
      rcases hg' with h | h
      · exact hd _ h h1
      · omega
    have holdE : ∃ S0 : Blks, sub S0 (fun b => S b ∧ b ≠ g' ∧ b < w.heap.size) ∧ Els true w' g' 0 xs S0 := by
      rcases hx with ⟨rfl, rfl, rfl⟩ | ⟨g, cur, rfl, hg2, hb, hs, he⟩
      · exact ⟨fun _ => False, fun _ x => x.elim, fun _ _ => False, fun _ _ x => x, fun _ _ _ _ _ x => x.elim, fun i hi => absurd hi (by simp)⟩
      · have he2 := he.tight
        refine ⟨_, ?_, he2.keep2 (b' := g') (off' := 0) (fun b hb3 => hg.block b hb3.2 (fun e => ?_)) (fun j hj u hu => ?_)⟩
        · intro b hb3
          refine ⟨hb3.1.1, ?_, hb3.2⟩
          rcases hat with h | h
          · simp [Value.ownBlock] at h; subst h; exact hb3.1.2
          · simp [Value.ownBlock] at h; subst h; have := hb3.2; omega
        · simp [Value.ownBlock] at e; exact hb3.1.2 e
        · have h0 := hown.cells (g := g) rfl j
          have hj' : j < cells.length := by rw [hown.1]; exact hj
          have e1 := h0 _ (List.getElem?_eq_getElem hj')
          rw [add_none, hu] at e1
          rw [Nat.zero_add]
          apply hcell
          rw [List.getElem?_append_left hj', List.getElem?_eq_getElem hj', e1]
    obtain ⟨S0, hS0, holdE⟩ := holdE
    refine ⟨some ⟨g', 0, none⟩, cap', w', hr, hnc', hcm', ?_, hchg⟩
    refine .inr ⟨g', cur', rfl, by rcases hg' with h | h; exact .inl h; exact .inr (.inr h), hb', hs', ?_⟩
    refine (Els.app holdE hnewE (fun b h1 h2 => hd b (hS0 b h1).1 h2.1)).mono (fun b h => ?_)
    rcases h with h | h
    · exact ⟨.inl (hS0 b h).1, (hS0 b h).2.1⟩
    · exact ⟨.inr (.inl h.1), by rintro rfl; exact hgn h⟩
end Go.Proofs.YtojbehmbeoemgaaDoor

set_option linter.unusedVariables false
set_option linter.unusedSimpArgs false
namespace Go.Proofs.YtojbehmbeoemgaaDoor
open Go.RowKit Lay Mk
instance slInt : SlTy Int := ⟨33⟩
instance slBool : SlTy Bool := ⟨0⟩
instance slStr : SlTy ByteArray := ⟨26⟩
theorem I64_zero : I64 0 := by unfold I64; omega
theorem empty_le : ByteArray.empty.size ≤ maxLen := by decide
theorem Row.nil {α : Type} [Lay α] (m : Bool) (w : World) {S : Blks} : Row (α := α) m w none 0 [] S := by cases m; exact fun h => absurd rfl h; exact .inl ⟨rfl, rfl, rfl⟩
def un (A B : Blks) : Blks := fun b => A b ∨ B b
theorem un_left (A B : Blks) : sub A (un A B) := fun _ h => .inl h
theorem un_right (A B : Blks) : sub B (un A B) := fun _ h => .inr h
theorem un_sub {A B S : Blks} (h : sub A S) (k : sub B S) : sub (un A B) S := fun b x => x.elim (h b) (k b)
theorem sub_none (S : Blks) : sub (fun _ => False) S := fun _ x => x.elim
theorem disj_none (S : Blks) : disj S (fun _ => False) := fun _ _ x => x
theorem disj_un {A B C : Blks} (h : disj A B) (k : disj A C) : disj A (un B C) := fun b x y => y.elim (h b x) (k b x)
theorem un_disj {A B C : Blks} (h : disj A C) (k : disj B C) : disj (un A B) C := fun b x y => x.elim (fun z => h b z y) (fun z => k b z y)
theorem pwget2_0_1 {S0 S1 : Blks} (h : List.Pairwise disj [S0, S1]) : disj S0 S1 := (List.pairwise_iff_getElem.1 h 0 1 (by simp) (by simp) (by omega))
theorem pwmk2 {S0 S1 : Blks} (h0_1 : disj S0 S1) : List.Pairwise disj [S0, S1] := by
  simp only [List.pairwise_cons, List.mem_cons, List.not_mem_nil, or_false, forall_eq_or_imp, forall_eq, List.Pairwise.nil, and_true, false_implies, implies_true]
  exact h0_1
theorem pwget3_0_1 {S0 S1 S2 : Blks} (h : List.Pairwise disj [S0, S1, S2]) : disj S0 S1 := (List.pairwise_iff_getElem.1 h 0 1 (by simp) (by simp) (by omega))
theorem pwget3_0_2 {S0 S1 S2 : Blks} (h : List.Pairwise disj [S0, S1, S2]) : disj S0 S2 := (List.pairwise_iff_getElem.1 h 0 2 (by simp) (by simp) (by omega))
theorem pwget3_1_2 {S0 S1 S2 : Blks} (h : List.Pairwise disj [S0, S1, S2]) : disj S1 S2 := (List.pairwise_iff_getElem.1 h 1 2 (by simp) (by simp) (by omega))
theorem pwmk3 {S0 S1 S2 : Blks} (h0_1 : disj S0 S1) (h0_2 : disj S0 S2) (h1_2 : disj S1 S2) : List.Pairwise disj [S0, S1, S2] := by
  simp only [List.pairwise_cons, List.mem_cons, List.not_mem_nil, or_false, forall_eq_or_imp, forall_eq, List.Pairwise.nil, and_true, false_implies, implies_true]
  exact ⟨⟨h0_1, h0_2⟩, h1_2⟩
theorem pwget6_0_1 {S0 S1 S2 S3 S4 S5 : Blks} (h : List.Pairwise disj [S0, S1, S2, S3, S4, S5]) : disj S0 S1 := (List.pairwise_iff_getElem.1 h 0 1 (by simp) (by simp) (by omega))
theorem pwget6_0_2 {S0 S1 S2 S3 S4 S5 : Blks} (h : List.Pairwise disj [S0, S1, S2, S3, S4, S5]) : disj S0 S2 := (List.pairwise_iff_getElem.1 h 0 2 (by simp) (by simp) (by omega))
theorem pwget6_0_3 {S0 S1 S2 S3 S4 S5 : Blks} (h : List.Pairwise disj [S0, S1, S2, S3, S4, S5]) : disj S0 S3 := (List.pairwise_iff_getElem.1 h 0 3 (by simp) (by simp) (by omega))
theorem pwget6_0_4 {S0 S1 S2 S3 S4 S5 : Blks} (h : List.Pairwise disj [S0, S1, S2, S3, S4, S5]) : disj S0 S4 := (List.pairwise_iff_getElem.1 h 0 4 (by simp) (by simp) (by omega))
theorem pwget6_0_5 {S0 S1 S2 S3 S4 S5 : Blks} (h : List.Pairwise disj [S0, S1, S2, S3, S4, S5]) : disj S0 S5 := (List.pairwise_iff_getElem.1 h 0 5 (by simp) (by simp) (by omega))
theorem pwget6_1_2 {S0 S1 S2 S3 S4 S5 : Blks} (h : List.Pairwise disj [S0, S1, S2, S3, S4, S5]) : disj S1 S2 := (List.pairwise_iff_getElem.1 h 1 2 (by simp) (by simp) (by omega))
theorem pwget6_1_3 {S0 S1 S2 S3 S4 S5 : Blks} (h : List.Pairwise disj [S0, S1, S2, S3, S4, S5]) : disj S1 S3 := (List.pairwise_iff_getElem.1 h 1 3 (by simp) (by simp) (by omega))
theorem pwget6_1_4 {S0 S1 S2 S3 S4 S5 : Blks} (h : List.Pairwise disj [S0, S1, S2, S3, S4, S5]) : disj S1 S4 := (List.pairwise_iff_getElem.1 h 1 4 (by simp) (by simp) (by omega))
theorem pwget6_1_5 {S0 S1 S2 S3 S4 S5 : Blks} (h : List.Pairwise disj [S0, S1, S2, S3, S4, S5]) : disj S1 S5 := (List.pairwise_iff_getElem.1 h 1 5 (by simp) (by simp) (by omega))
theorem pwget6_2_3 {S0 S1 S2 S3 S4 S5 : Blks} (h : List.Pairwise disj [S0, S1, S2, S3, S4, S5]) : disj S2 S3 := (List.pairwise_iff_getElem.1 h 2 3 (by simp) (by simp) (by omega))
theorem pwget6_2_4 {S0 S1 S2 S3 S4 S5 : Blks} (h : List.Pairwise disj [S0, S1, S2, S3, S4, S5]) : disj S2 S4 := (List.pairwise_iff_getElem.1 h 2 4 (by simp) (by simp) (by omega))
theorem pwget6_2_5 {S0 S1 S2 S3 S4 S5 : Blks} (h : List.Pairwise disj [S0, S1, S2, S3, S4, S5]) : disj S2 S5 := (List.pairwise_iff_getElem.1 h 2 5 (by simp) (by simp) (by omega))
theorem pwget6_3_4 {S0 S1 S2 S3 S4 S5 : Blks} (h : List.Pairwise disj [S0, S1, S2, S3, S4, S5]) : disj S3 S4 := (List.pairwise_iff_getElem.1 h 3 4 (by simp) (by simp) (by omega))
theorem pwget6_3_5 {S0 S1 S2 S3 S4 S5 : Blks} (h : List.Pairwise disj [S0, S1, S2, S3, S4, S5]) : disj S3 S5 := (List.pairwise_iff_getElem.1 h 3 5 (by simp) (by simp) (by omega))
theorem pwget6_4_5 {S0 S1 S2 S3 S4 S5 : Blks} (h : List.Pairwise disj [S0, S1, S2, S3, S4, S5]) : disj S4 S5 := (List.pairwise_iff_getElem.1 h 4 5 (by simp) (by simp) (by omega))
theorem pwmk6 {S0 S1 S2 S3 S4 S5 : Blks} (h0_1 : disj S0 S1) (h0_2 : disj S0 S2) (h0_3 : disj S0 S3) (h0_4 : disj S0 S4) (h0_5 : disj S0 S5) (h1_2 : disj S1 S2) (h1_3 : disj S1 S3) (h1_4 : disj S1 S4) (h1_5 : disj S1 S5) (h2_3 : disj S2 S3) (h2_4 : disj S2 S4) (h2_5 : disj S2 S5) (h3_4 : disj S3 S4) (h3_5 : disj S3 S5) (h4_5 : disj S4 S5) : List.Pairwise disj [S0, S1, S2, S3, S4, S5] := by
  simp only [List.pairwise_cons, List.mem_cons, List.not_mem_nil, or_false, forall_eq_or_imp, forall_eq, List.Pairwise.nil, and_true, false_implies, implies_true]
  exact ⟨⟨h0_1, h0_2, h0_3, h0_4, h0_5⟩, ⟨h1_2, h1_3, h1_4, h1_5⟩, ⟨h2_3, h2_4, h2_5⟩, ⟨h3_4, h3_5⟩, h4_5⟩
structure Head where
  house : Int
  epoch : Int
  root : ByteArray
  prev : ByteArray
abbrev Head.tup (x : Head) : Int × Int × ByteArray × ByteArray := (x.house, x.epoch, x.root, x.prev)
instance instHead : Lay Head := layVia 25 Head.tup
instance slHead : SlTy Head := ⟨0⟩
def Head.cs (x : Head) : List Value := [.int .i64 x.house, .int .i64 x.epoch, .string x.root, .string x.prev]
theorem Head.open {m : Bool} {w : World} {cs : List Value} {x : Head} {S : Blks} (h : rd m w cs x S) : cs = Head.cs x ∧ I64 x.house ∧ I64 x.epoch ∧ x.root.size ≤ maxLen ∧ x.prev.size ≤ maxLen := by
  have h0 : rd m w cs x.tup S := h
  obtain ⟨c1, rfl, f3, h2⟩ := open_int2 h0
  obtain ⟨c4, rfl, f6, h5⟩ := open_int2 h2
  obtain ⟨c7, rfl, f9, h8⟩ := open_str2 h5
  obtain ⟨rfl, f10⟩ := open_str h8
  exact ⟨rfl, f3, f6, f9, f10⟩
theorem Head.mk' {m : Bool} {w : World} {x : Head} {S : Blks} (f0 : I64 x.house) (f1 : I64 x.epoch) (f2 : x.root.size ≤ maxLen) (f3 : x.prev.size ≤ maxLen) : rd m w (Head.cs x) x S :=
  Lay.mono (show rd m w (Head.cs x) x.tup (fun _ => False) from (mk_int2 f0 (mk_int2 f1 (mk_str2 f2 ⟨rfl, f3⟩)))) (sub_none _)
def Head.sz (x : Head) : Nat := x.root.size + x.prev.size
def Head.cn (_x : Head) : Nat := 1 + 1 + 1 + 1
def Head.me (_x : Head) (k : Nat) : Head := (⟨((k : Nat) : Int), ((k + 1 : Nat) : Int), mtext (k + 1 + 1), mtext (k + 1 + 1 + 1)⟩ : Head)
def Head.ct (_x : Head) : Nat := 0
def Head.mt (x : Head) (_k : Nat) : Head := (⟨x.house, x.epoch, x.root, x.prev⟩ : Head)
def Head.zero : Head := (⟨0, 0, ByteArray.empty, ByteArray.empty⟩ : Head)
instance mkHead : Mk Head where
  sz := Head.sz
  cn := Head.cn
  me := Head.me
  z := Head.zero
  zc := Head.cs Head.zero
  zrd _ _ := Head.mk' I64_zero I64_zero empty_le empty_le

structure Sig where
  at_ : Int
  open_ : List ByteArray
  shut : List ByteArray
  sides : List ByteArray
abbrev Sig.tup (x : Sig) : Int × (List ByteArray) × (List ByteArray) × (List ByteArray) := (x.at_, x.open_, x.shut, x.sides)
instance instSig : Lay Sig := layVia 28 Sig.tup
instance slSig : SlTy Sig := ⟨0⟩
def Sig.cs (x : Sig) (A0 : Option Addr) (k0 : Nat) (A1 : Option Addr) (k1 : Nat) (A2 : Option Addr) (k2 : Nat) : List Value := [.int .i64 x.at_, .slice A0 x.open_.length k0, .slice A1 x.shut.length k1, .slice A2 x.sides.length k2]
theorem Sig.open {m : Bool} {w : World} {cs : List Value} {x : Sig} {S : Blks} (h : rd m w cs x S) : ∃ A0 k0 S0 A1 k1 S1 A2 k2 S2, cs = Sig.cs x A0 k0 A1 k1 A2 k2 ∧ I64 x.at_ ∧ x.open_.length ≤ k0 ∧ k0 ≤ maxLen ∧ Row m w A0 k0 x.open_ S0 ∧ sub S0 S ∧ x.shut.length ≤ k1 ∧ k1 ≤ maxLen ∧ Row m w A1 k1 x.shut S1 ∧ sub S1 S ∧ x.sides.length ≤ k2 ∧ k2 ≤ maxLen ∧ Row m w A2 k2 x.sides S2 ∧ sub S2 S ∧ (m = true → List.Pairwise disj [S0, S1, S2]) := by
  have h0 : rd m w cs x.tup S := h
  obtain ⟨c1, rfl, f3, h2⟩ := open_int2 h0
  obtain ⟨A0, k0, c7, S0, R8, rfl, g4, g5, g6, s9, s10, d11, h12⟩ := open_list2 h2
  obtain ⟨A1, k1, c16, S1, R17, rfl, g13, g14, g15, s18, s19, d20, h21⟩ := open_list2 h12
  obtain ⟨A2, k2, rfl, g22, g23, g24⟩ := open_list h21
  exact ⟨A0, k0, S0, A1, k1, S1, A2, k2, _, rfl, f3, g4, g5, g6, s9, g13, g14, g15, (sub_trans s18 s10), g22, g23, g24, (sub_trans s19 s10), fun _hm => pwmk3 (disj_sub (d11 _hm) (sub_refl _) s18) (disj_sub (d11 _hm) (sub_refl _) s19) (disj_sub (d20 _hm) (sub_refl _) (sub_refl _))⟩
theorem Sig.mk' {m : Bool} {w : World} {x : Sig} {S : Blks} (f0 : I64 x.at_) {A0 : Option Addr} {k0 : Nat} {S0 : Blks} (a0 : x.open_.length ≤ k0) (b0 : k0 ≤ maxLen) (r0 : Row m w A0 k0 x.open_ S0) (s0 : sub S0 S) {A1 : Option Addr} {k1 : Nat} {S1 : Blks} (a1 : x.shut.length ≤ k1) (b1 : k1 ≤ maxLen) (r1 : Row m w A1 k1 x.shut S1) (s1 : sub S1 S) {A2 : Option Addr} {k2 : Nat} {S2 : Blks} (a2 : x.sides.length ≤ k2) (b2 : k2 ≤ maxLen) (r2 : Row m w A2 k2 x.sides S2) (s2 : sub S2 S) (pw : m = true → List.Pairwise disj [S0, S1, S2]) : rd m w (Sig.cs x A0 k0 A1 k1 A2 k2) x S :=
  Lay.mono (show rd m w (Sig.cs x A0 k0 A1 k1 A2 k2) x.tup (un S0 (un S1 S2)) from (mk_int2 f0 ⟨[_], _, S0, (un S1 S2), rfl, (un_left _ _), (un_sub (sub_trans (un_left _ _) (un_right _ _)) (sub_trans (sub_trans (sub_refl _) (un_right _ _)) (un_right _ _))), (fun _hm => (disj_un (pwget3_0_1 (pw _hm)) (pwget3_0_2 (pw _hm)))), ⟨_, _, rfl, a0, b0, r0⟩, ⟨[_], _, S1, S2, rfl, (un_left _ _), (sub_trans (sub_refl _) (un_right _ _)), (fun _hm => (pwget3_1_2 (pw _hm))), ⟨_, _, rfl, a1, b1, r1⟩, ⟨_, _, rfl, a2, b2, r2⟩⟩⟩)) ((un_sub s0 (un_sub s1 s2)))
def Sig.sz (x : Sig) : Nat := szL x.open_ + szL x.shut + szL x.sides
def Sig.cn (x : Sig) : Nat := 1 + cnL x.open_ + cnL x.shut + cnL x.sides
def Sig.me (x : Sig) (k : Nat) : Sig := (⟨((k : Nat) : Int), meL x.open_ (k + 1), meL x.shut (k + 1 + cnL x.open_), meL x.sides (k + 1 + cnL x.open_ + cnL x.shut)⟩ : Sig)
def Sig.ct (x : Sig) : Nat := cnL x.open_ + cnL x.shut + cnL x.sides
def Sig.mt (x : Sig) (k : Nat) : Sig := (⟨x.at_, meL x.open_ (k), meL x.shut (k + cnL x.open_), meL x.sides (k + cnL x.open_ + cnL x.shut)⟩ : Sig)
def Sig.zero : Sig := (⟨0, [], [], []⟩ : Sig)
instance mkSig : Mk Sig where
  sz := Sig.sz
  cn := Sig.cn
  me := Sig.me
  z := Sig.zero
  zc := Sig.cs Sig.zero none 0 none 0 none 0
  zrd _ _ := Sig.mk' I64_zero (Nat.le_refl 0) (Nat.zero_le _) (Row.nil _ _) (sub_refl _) (Nat.le_refl 0) (Nat.zero_le _) (Row.nil _ _) (sub_refl _) (Nat.le_refl 0) (Nat.zero_le _) (Row.nil _ _) (sub_refl _) (fun _ => by simp [disj])

structure Leaf where
  name : ByteArray
  value : ByteArray
abbrev Leaf.tup (x : Leaf) : ByteArray × ByteArray := (x.name, x.value)
instance instLeaf : Lay Leaf := layVia 110 Leaf.tup
instance slLeaf : SlTy Leaf := ⟨55⟩
instance slLeafS : SlTy (List Leaf) := ⟨49⟩
def Leaf.cs (x : Leaf) : List Value := [.string x.name, .string x.value]
theorem Leaf.open {m : Bool} {w : World} {cs : List Value} {x : Leaf} {S : Blks} (h : rd m w cs x S) : cs = Leaf.cs x ∧ x.name.size ≤ maxLen ∧ x.value.size ≤ maxLen := by
  have h0 : rd m w cs x.tup S := h
  obtain ⟨c1, rfl, f3, h2⟩ := open_str2 h0
  obtain ⟨rfl, f4⟩ := open_str h2
  exact ⟨rfl, f3, f4⟩
theorem Leaf.mk' {m : Bool} {w : World} {x : Leaf} {S : Blks} (f0 : x.name.size ≤ maxLen) (f1 : x.value.size ≤ maxLen) : rd m w (Leaf.cs x) x S :=
  Lay.mono (show rd m w (Leaf.cs x) x.tup (fun _ => False) from (mk_str2 f0 ⟨rfl, f1⟩)) (sub_none _)
def Leaf.sz (x : Leaf) : Nat := x.name.size + x.value.size
def Leaf.cn (_x : Leaf) : Nat := 1 + 1
def Leaf.me (_x : Leaf) (k : Nat) : Leaf := (⟨mtext (k), mtext (k + 1)⟩ : Leaf)
def Leaf.ct (_x : Leaf) : Nat := 0
def Leaf.mt (x : Leaf) (_k : Nat) : Leaf := (⟨x.name, x.value⟩ : Leaf)
def Leaf.zero : Leaf := (⟨ByteArray.empty, ByteArray.empty⟩ : Leaf)
instance mkLeaf : Mk Leaf where
  sz := Leaf.sz
  cn := Leaf.cn
  me := Leaf.me
  z := Leaf.zero
  zc := Leaf.cs Leaf.zero
  zrd _ _ := Leaf.mk' empty_le empty_le

structure Proof where
  bucket : List Leaf
  sides : List ByteArray
abbrev Proof.tup (x : Proof) : (List Leaf) × (List ByteArray) := (x.bucket, x.sides)
instance instProof : Lay Proof := layVia 61 Proof.tup
instance slProof : SlTy Proof := ⟨0⟩
def Proof.cs (x : Proof) (A0 : Option Addr) (k0 : Nat) (A1 : Option Addr) (k1 : Nat) : List Value := [.slice A0 x.bucket.length k0, .slice A1 x.sides.length k1]
theorem Proof.open {m : Bool} {w : World} {cs : List Value} {x : Proof} {S : Blks} (h : rd m w cs x S) : ∃ A0 k0 S0 A1 k1 S1, cs = Proof.cs x A0 k0 A1 k1 ∧ x.bucket.length ≤ k0 ∧ k0 ≤ maxLen ∧ Row m w A0 k0 x.bucket S0 ∧ sub S0 S ∧ x.sides.length ≤ k1 ∧ k1 ≤ maxLen ∧ Row m w A1 k1 x.sides S1 ∧ sub S1 S ∧ (m = true → List.Pairwise disj [S0, S1]) := by
  have h0 : rd m w cs x.tup S := h
  obtain ⟨A0, k0, c4, S0, R5, rfl, g1, g2, g3, s6, s7, d8, h9⟩ := open_list2 h0
  obtain ⟨A1, k1, rfl, g10, g11, g12⟩ := open_list h9
  exact ⟨A0, k0, S0, A1, k1, _, rfl, g1, g2, g3, s6, g10, g11, g12, s7, fun _hm => pwmk2 (disj_sub (d8 _hm) (sub_refl _) (sub_refl _))⟩
theorem Proof.mk' {m : Bool} {w : World} {x : Proof} {S : Blks} {A0 : Option Addr} {k0 : Nat} {S0 : Blks} (a0 : x.bucket.length ≤ k0) (b0 : k0 ≤ maxLen) (r0 : Row m w A0 k0 x.bucket S0) (s0 : sub S0 S) {A1 : Option Addr} {k1 : Nat} {S1 : Blks} (a1 : x.sides.length ≤ k1) (b1 : k1 ≤ maxLen) (r1 : Row m w A1 k1 x.sides S1) (s1 : sub S1 S) (pw : m = true → List.Pairwise disj [S0, S1]) : rd m w (Proof.cs x A0 k0 A1 k1) x S :=
  Lay.mono (show rd m w (Proof.cs x A0 k0 A1 k1) x.tup (un S0 S1) from ⟨[_], _, S0, S1, rfl, (un_left _ _), (sub_trans (sub_refl _) (un_right _ _)), (fun _hm => (pwget2_0_1 (pw _hm))), ⟨_, _, rfl, a0, b0, r0⟩, ⟨_, _, rfl, a1, b1, r1⟩⟩) ((un_sub s0 s1))
def Proof.sz (x : Proof) : Nat := szL x.bucket + szL x.sides
def Proof.cn (x : Proof) : Nat := cnL x.bucket + cnL x.sides
def Proof.me (x : Proof) (k : Nat) : Proof := (⟨meL x.bucket (k), meL x.sides (k + cnL x.bucket)⟩ : Proof)
def Proof.ct (x : Proof) : Nat := cnL x.bucket + cnL x.sides
def Proof.mt (x : Proof) (k : Nat) : Proof := (⟨meL x.bucket (k), meL x.sides (k + cnL x.bucket)⟩ : Proof)
def Proof.zero : Proof := (⟨[], []⟩ : Proof)
instance mkProof : Mk Proof where
  sz := Proof.sz
  cn := Proof.cn
  me := Proof.me
  z := Proof.zero
  zc := Proof.cs Proof.zero none 0 none 0
  zrd _ _ := Proof.mk' (Nat.le_refl 0) (Nat.zero_le _) (Row.nil _ _) (sub_refl _) (Nat.le_refl 0) (Nat.zero_le _) (Row.nil _ _) (sub_refl _) (fun _ => by simp [disj])

structure Seal where
  head : Head
  sig : Sig
abbrev Seal.tup (x : Seal) : Head × Sig := (x.head, x.sig)
instance instSeal : Lay Seal := layVia 30 Seal.tup
instance slSeal : SlTy Seal := ⟨0⟩
def Seal.cs (x : Seal) (A0 : Option Addr) (k0 : Nat) (A1 : Option Addr) (k1 : Nat) (A2 : Option Addr) (k2 : Nat) : List Value := [.int .i64 x.head.house, .int .i64 x.head.epoch, .string x.head.root, .string x.head.prev, .int .i64 x.sig.at_, .slice A0 x.sig.open_.length k0, .slice A1 x.sig.shut.length k1, .slice A2 x.sig.sides.length k2]
theorem Seal.open {m : Bool} {w : World} {cs : List Value} {x : Seal} {S : Blks} (h : rd m w cs x S) : ∃ A0 k0 S0 A1 k1 S1 A2 k2 S2, cs = Seal.cs x A0 k0 A1 k1 A2 k2 ∧ I64 x.head.house ∧ I64 x.head.epoch ∧ x.head.root.size ≤ maxLen ∧ x.head.prev.size ≤ maxLen ∧ I64 x.sig.at_ ∧ x.sig.open_.length ≤ k0 ∧ k0 ≤ maxLen ∧ Row m w A0 k0 x.sig.open_ S0 ∧ sub S0 S ∧ x.sig.shut.length ≤ k1 ∧ k1 ≤ maxLen ∧ Row m w A1 k1 x.sig.shut S1 ∧ sub S1 S ∧ x.sig.sides.length ≤ k2 ∧ k2 ≤ maxLen ∧ Row m w A2 k2 x.sig.sides S2 ∧ sub S2 S ∧ (m = true → List.Pairwise disj [S0, S1, S2]) := by
  have h0 : rd m w cs x.tup S := h
  obtain ⟨c1, c2, P3, R4, rfl, s5, s6, d7, h8, h9⟩ := open_two h0
  obtain ⟨rfl, f10, f11, f12, f13⟩ := Head.open h8
  obtain ⟨A0, k0, S0, A1, k1, S1, A2, k2, S2, rfl, f14, g15, g16, g17, s18, g19, g20, g21, s22, g23, g24, g25, s26, pw27⟩ := Sig.open h9
  exact ⟨A0, k0, S0, A1, k1, S1, A2, k2, S2, rfl, f10, f11, f12, f13, f14, g15, g16, g17, (sub_trans s18 s6), g19, g20, g21, (sub_trans s22 s6), g23, g24, g25, (sub_trans s26 s6), fun _hm => pwmk3 (pwget3_0_1 (pw27 _hm)) (pwget3_0_2 (pw27 _hm)) (pwget3_1_2 (pw27 _hm))⟩
theorem Seal.mk' {m : Bool} {w : World} {x : Seal} {S : Blks} (f0 : I64 x.head.house) (f1 : I64 x.head.epoch) (f2 : x.head.root.size ≤ maxLen) (f3 : x.head.prev.size ≤ maxLen) (f4 : I64 x.sig.at_) {A0 : Option Addr} {k0 : Nat} {S0 : Blks} (a0 : x.sig.open_.length ≤ k0) (b0 : k0 ≤ maxLen) (r0 : Row m w A0 k0 x.sig.open_ S0) (s0 : sub S0 S) {A1 : Option Addr} {k1 : Nat} {S1 : Blks} (a1 : x.sig.shut.length ≤ k1) (b1 : k1 ≤ maxLen) (r1 : Row m w A1 k1 x.sig.shut S1) (s1 : sub S1 S) {A2 : Option Addr} {k2 : Nat} {S2 : Blks} (a2 : x.sig.sides.length ≤ k2) (b2 : k2 ≤ maxLen) (r2 : Row m w A2 k2 x.sig.sides S2) (s2 : sub S2 S) (pw : m = true → List.Pairwise disj [S0, S1, S2]) : rd m w (Seal.cs x A0 k0 A1 k1 A2 k2) x S :=
  Lay.mono (show rd m w (Seal.cs x A0 k0 A1 k1 A2 k2) x.tup (un S0 (un S1 S2)) from ⟨Head.cs x.head, _, (fun _ => False), (un S0 (un S1 S2)), rfl, (sub_none _), (un_sub (un_left _ _) (un_sub (sub_trans (un_left _ _) (un_right _ _)) (sub_trans (sub_trans (sub_refl _) (un_right _ _)) (un_right _ _)))), (fun _hm => (disj_symm (disj_none _))), (Head.mk' f0 f1 f2 f3), (Sig.mk' f4 a0 b0 r0 (un_left _ _) a1 b1 r1 (sub_trans (un_left _ _) (un_right _ _)) a2 b2 r2 (sub_trans (sub_trans (sub_refl _) (un_right _ _)) (un_right _ _)) (fun _hm => pwmk3 (pwget3_0_1 (pw _hm)) (pwget3_0_2 (pw _hm)) (pwget3_1_2 (pw _hm))))⟩) ((un_sub s0 (un_sub s1 s2)))
def Seal.sz (x : Seal) : Nat := x.head.sz + x.sig.sz
def Seal.cn (x : Seal) : Nat := 1 + 1 + 1 + 1 + 1 + cnL x.sig.open_ + cnL x.sig.shut + cnL x.sig.sides
def Seal.me (x : Seal) (k : Nat) : Seal := (⟨(⟨((k : Nat) : Int), ((k + 1 : Nat) : Int), mtext (k + 1 + 1), mtext (k + 1 + 1 + 1)⟩ : Head), (⟨((k + 1 + 1 + 1 + 1 : Nat) : Int), meL x.sig.open_ (k + 1 + 1 + 1 + 1 + 1), meL x.sig.shut (k + 1 + 1 + 1 + 1 + 1 + cnL x.sig.open_), meL x.sig.sides (k + 1 + 1 + 1 + 1 + 1 + cnL x.sig.open_ + cnL x.sig.shut)⟩ : Sig)⟩ : Seal)
def Seal.ct (x : Seal) : Nat := cnL x.sig.open_ + cnL x.sig.shut + cnL x.sig.sides
def Seal.mt (x : Seal) (k : Nat) : Seal := (⟨(⟨x.head.house, x.head.epoch, x.head.root, x.head.prev⟩ : Head), (⟨x.sig.at_, meL x.sig.open_ (k), meL x.sig.shut (k + cnL x.sig.open_), meL x.sig.sides (k + cnL x.sig.open_ + cnL x.sig.shut)⟩ : Sig)⟩ : Seal)
def Seal.zero : Seal := (⟨(⟨0, 0, ByteArray.empty, ByteArray.empty⟩ : Head), (⟨0, [], [], []⟩ : Sig)⟩ : Seal)
instance mkSeal : Mk Seal where
  sz := Seal.sz
  cn := Seal.cn
  me := Seal.me
  z := Seal.zero
  zc := Seal.cs Seal.zero none 0 none 0 none 0
  zrd _ _ := Seal.mk' I64_zero I64_zero empty_le empty_le I64_zero (Nat.le_refl 0) (Nat.zero_le _) (Row.nil _ _) (sub_refl _) (Nat.le_refl 0) (Nat.zero_le _) (Row.nil _ _) (sub_refl _) (Nat.le_refl 0) (Nat.zero_le _) (Row.nil _ _) (sub_refl _) (fun _ => by simp [disj])

structure Change where
  id : Int
  name : ByteArray
  value : ByteArray
abbrev Change.tup (x : Change) : Int × ByteArray × ByteArray := (x.id, x.name, x.value)
instance instChange : Lay Change := layVia 0 Change.tup
instance slChange : SlTy Change := ⟨0⟩
def Change.cs (x : Change) : List Value := [.int .i64 x.id, .string x.name, .string x.value]
theorem Change.open {m : Bool} {w : World} {cs : List Value} {x : Change} {S : Blks} (h : rd m w cs x S) : cs = Change.cs x ∧ I64 x.id ∧ x.name.size ≤ maxLen ∧ x.value.size ≤ maxLen := by
  have h0 : rd m w cs x.tup S := h
  obtain ⟨c1, rfl, f3, h2⟩ := open_int2 h0
  obtain ⟨c4, rfl, f6, h5⟩ := open_str2 h2
  obtain ⟨rfl, f7⟩ := open_str h5
  exact ⟨rfl, f3, f6, f7⟩
theorem Change.mk' {m : Bool} {w : World} {x : Change} {S : Blks} (f0 : I64 x.id) (f1 : x.name.size ≤ maxLen) (f2 : x.value.size ≤ maxLen) : rd m w (Change.cs x) x S :=
  Lay.mono (show rd m w (Change.cs x) x.tup (fun _ => False) from (mk_int2 f0 (mk_str2 f1 ⟨rfl, f2⟩))) (sub_none _)
def Change.sz (x : Change) : Nat := x.name.size + x.value.size
def Change.cn (_x : Change) : Nat := 1 + 1 + 1
def Change.me (_x : Change) (k : Nat) : Change := (⟨((k : Nat) : Int), mtext (k + 1), mtext (k + 1 + 1)⟩ : Change)
def Change.ct (_x : Change) : Nat := 0
def Change.mt (x : Change) (_k : Nat) : Change := (⟨x.id, x.name, x.value⟩ : Change)
def Change.zero : Change := (⟨0, ByteArray.empty, ByteArray.empty⟩ : Change)
instance mkChange : Mk Change where
  sz := Change.sz
  cn := Change.cn
  me := Change.me
  z := Change.zero
  zc := Change.cs Change.zero
  zrd _ _ := Change.mk' I64_zero empty_le empty_le

structure Letter where
  kind : Int
  from_ : Int
  to : Int
  epoch : Int
  try_ : Int
  root : ByteArray
abbrev Letter.tup (x : Letter) : Int × Int × Int × Int × Int × ByteArray := (x.kind, x.from_, x.to, x.epoch, x.try_, x.root)
instance instLetter : Lay Letter := layVia 0 Letter.tup
instance slLetter : SlTy Letter := ⟨0⟩
def Letter.cs (x : Letter) : List Value := [.int .i64 x.kind, .int .i64 x.from_, .int .i64 x.to, .int .i64 x.epoch, .int .i64 x.try_, .string x.root]
theorem Letter.open {m : Bool} {w : World} {cs : List Value} {x : Letter} {S : Blks} (h : rd m w cs x S) : cs = Letter.cs x ∧ I64 x.kind ∧ I64 x.from_ ∧ I64 x.to ∧ I64 x.epoch ∧ I64 x.try_ ∧ x.root.size ≤ maxLen := by
  have h0 : rd m w cs x.tup S := h
  obtain ⟨c1, rfl, f3, h2⟩ := open_int2 h0
  obtain ⟨c4, rfl, f6, h5⟩ := open_int2 h2
  obtain ⟨c7, rfl, f9, h8⟩ := open_int2 h5
  obtain ⟨c10, rfl, f12, h11⟩ := open_int2 h8
  obtain ⟨c13, rfl, f15, h14⟩ := open_int2 h11
  obtain ⟨rfl, f16⟩ := open_str h14
  exact ⟨rfl, f3, f6, f9, f12, f15, f16⟩
theorem Letter.mk' {m : Bool} {w : World} {x : Letter} {S : Blks} (f0 : I64 x.kind) (f1 : I64 x.from_) (f2 : I64 x.to) (f3 : I64 x.epoch) (f4 : I64 x.try_) (f5 : x.root.size ≤ maxLen) : rd m w (Letter.cs x) x S :=
  Lay.mono (show rd m w (Letter.cs x) x.tup (fun _ => False) from (mk_int2 f0 (mk_int2 f1 (mk_int2 f2 (mk_int2 f3 (mk_int2 f4 ⟨rfl, f5⟩)))))) (sub_none _)
def Letter.sz (x : Letter) : Nat := x.root.size
def Letter.cn (_x : Letter) : Nat := 1 + 1 + 1 + 1 + 1 + 1
def Letter.me (_x : Letter) (k : Nat) : Letter := (⟨((k : Nat) : Int), ((k + 1 : Nat) : Int), ((k + 1 + 1 : Nat) : Int), ((k + 1 + 1 + 1 : Nat) : Int), ((k + 1 + 1 + 1 + 1 : Nat) : Int), mtext (k + 1 + 1 + 1 + 1 + 1)⟩ : Letter)
def Letter.ct (_x : Letter) : Nat := 0
def Letter.mt (x : Letter) (_k : Nat) : Letter := (⟨x.kind, x.from_, x.to, x.epoch, x.try_, x.root⟩ : Letter)
def Letter.zero : Letter := (⟨0, 0, 0, 0, 0, ByteArray.empty⟩ : Letter)
instance mkLetter : Mk Letter where
  sz := Letter.sz
  cn := Letter.cn
  me := Letter.me
  z := Letter.zero
  zc := Letter.cs Letter.zero
  zrd _ _ := Letter.mk' I64_zero I64_zero I64_zero I64_zero I64_zero empty_le

structure Pair where
  a : Seal
  b : Seal
abbrev Pair.tup (x : Pair) : Seal × Seal := (x.a, x.b)
instance instPair : Lay Pair := layVia 41 Pair.tup
instance slPair : SlTy Pair := ⟨0⟩
def Pair.cs (x : Pair) (A0 : Option Addr) (k0 : Nat) (A1 : Option Addr) (k1 : Nat) (A2 : Option Addr) (k2 : Nat) (A3 : Option Addr) (k3 : Nat) (A4 : Option Addr) (k4 : Nat) (A5 : Option Addr) (k5 : Nat) : List Value := [.int .i64 x.a.head.house, .int .i64 x.a.head.epoch, .string x.a.head.root, .string x.a.head.prev, .int .i64 x.a.sig.at_, .slice A0 x.a.sig.open_.length k0, .slice A1 x.a.sig.shut.length k1, .slice A2 x.a.sig.sides.length k2, .int .i64 x.b.head.house, .int .i64 x.b.head.epoch, .string x.b.head.root, .string x.b.head.prev, .int .i64 x.b.sig.at_, .slice A3 x.b.sig.open_.length k3, .slice A4 x.b.sig.shut.length k4, .slice A5 x.b.sig.sides.length k5]
theorem Pair.open {m : Bool} {w : World} {cs : List Value} {x : Pair} {S : Blks} (h : rd m w cs x S) : ∃ A0 k0 S0 A1 k1 S1 A2 k2 S2 A3 k3 S3 A4 k4 S4 A5 k5 S5, cs = Pair.cs x A0 k0 A1 k1 A2 k2 A3 k3 A4 k4 A5 k5 ∧ I64 x.a.head.house ∧ I64 x.a.head.epoch ∧ x.a.head.root.size ≤ maxLen ∧ x.a.head.prev.size ≤ maxLen ∧ I64 x.a.sig.at_ ∧ I64 x.b.head.house ∧ I64 x.b.head.epoch ∧ x.b.head.root.size ≤ maxLen ∧ x.b.head.prev.size ≤ maxLen ∧ I64 x.b.sig.at_ ∧ x.a.sig.open_.length ≤ k0 ∧ k0 ≤ maxLen ∧ Row m w A0 k0 x.a.sig.open_ S0 ∧ sub S0 S ∧ x.a.sig.shut.length ≤ k1 ∧ k1 ≤ maxLen ∧ Row m w A1 k1 x.a.sig.shut S1 ∧ sub S1 S ∧ x.a.sig.sides.length ≤ k2 ∧ k2 ≤ maxLen ∧ Row m w A2 k2 x.a.sig.sides S2 ∧ sub S2 S ∧ x.b.sig.open_.length ≤ k3 ∧ k3 ≤ maxLen ∧ Row m w A3 k3 x.b.sig.open_ S3 ∧ sub S3 S ∧ x.b.sig.shut.length ≤ k4 ∧ k4 ≤ maxLen ∧ Row m w A4 k4 x.b.sig.shut S4 ∧ sub S4 S ∧ x.b.sig.sides.length ≤ k5 ∧ k5 ≤ maxLen ∧ Row m w A5 k5 x.b.sig.sides S5 ∧ sub S5 S ∧ (m = true → List.Pairwise disj [S0, S1, S2, S3, S4, S5]) := by
  have h0 : rd m w cs x.tup S := h
  obtain ⟨c1, c2, P3, R4, rfl, s5, s6, d7, h8, h9⟩ := open_two h0
  obtain ⟨A0, k0, S0, A1, k1, S1, A2, k2, S2, rfl, f10, f11, f12, f13, f14, g15, g16, g17, s18, g19, g20, g21, s22, g23, g24, g25, s26, pw27⟩ := Seal.open h8
  obtain ⟨A3, k3, S3, A4, k4, S4, A5, k5, S5, rfl, f28, f29, f30, f31, f32, g33, g34, g35, s36, g37, g38, g39, s40, g41, g42, g43, s44, pw45⟩ := Seal.open h9
  exact ⟨A0, k0, S0, A1, k1, S1, A2, k2, S2, A3, k3, S3, A4, k4, S4, A5, k5, S5, rfl, f10, f11, f12, f13, f14, f28, f29, f30, f31, f32, g15, g16, g17, (sub_trans s18 s5), g19, g20, g21, (sub_trans s22 s5), g23, g24, g25, (sub_trans s26 s5), g33, g34, g35, (sub_trans s36 s6), g37, g38, g39, (sub_trans s40 s6), g41, g42, g43, (sub_trans s44 s6), fun _hm => pwmk6 (pwget3_0_1 (pw27 _hm)) (pwget3_0_2 (pw27 _hm)) (disj_sub (d7 _hm) s18 s36) (disj_sub (d7 _hm) s18 s40) (disj_sub (d7 _hm) s18 s44) (pwget3_1_2 (pw27 _hm)) (disj_sub (d7 _hm) s22 s36) (disj_sub (d7 _hm) s22 s40) (disj_sub (d7 _hm) s22 s44) (disj_sub (d7 _hm) s26 s36) (disj_sub (d7 _hm) s26 s40) (disj_sub (d7 _hm) s26 s44) (pwget3_0_1 (pw45 _hm)) (pwget3_0_2 (pw45 _hm)) (pwget3_1_2 (pw45 _hm))⟩
theorem Pair.mk' {m : Bool} {w : World} {x : Pair} {S : Blks} (f0 : I64 x.a.head.house) (f1 : I64 x.a.head.epoch) (f2 : x.a.head.root.size ≤ maxLen) (f3 : x.a.head.prev.size ≤ maxLen) (f4 : I64 x.a.sig.at_) {A0 : Option Addr} {k0 : Nat} {S0 : Blks} (a0 : x.a.sig.open_.length ≤ k0) (b0 : k0 ≤ maxLen) (r0 : Row m w A0 k0 x.a.sig.open_ S0) (s0 : sub S0 S) {A1 : Option Addr} {k1 : Nat} {S1 : Blks} (a1 : x.a.sig.shut.length ≤ k1) (b1 : k1 ≤ maxLen) (r1 : Row m w A1 k1 x.a.sig.shut S1) (s1 : sub S1 S) {A2 : Option Addr} {k2 : Nat} {S2 : Blks} (a2 : x.a.sig.sides.length ≤ k2) (b2 : k2 ≤ maxLen) (r2 : Row m w A2 k2 x.a.sig.sides S2) (s2 : sub S2 S) (f8 : I64 x.b.head.house) (f9 : I64 x.b.head.epoch) (f10 : x.b.head.root.size ≤ maxLen) (f11 : x.b.head.prev.size ≤ maxLen) (f12 : I64 x.b.sig.at_) {A3 : Option Addr} {k3 : Nat} {S3 : Blks} (a3 : x.b.sig.open_.length ≤ k3) (b3 : k3 ≤ maxLen) (r3 : Row m w A3 k3 x.b.sig.open_ S3) (s3 : sub S3 S) {A4 : Option Addr} {k4 : Nat} {S4 : Blks} (a4 : x.b.sig.shut.length ≤ k4) (b4 : k4 ≤ maxLen) (r4 : Row m w A4 k4 x.b.sig.shut S4) (s4 : sub S4 S) {A5 : Option Addr} {k5 : Nat} {S5 : Blks} (a5 : x.b.sig.sides.length ≤ k5) (b5 : k5 ≤ maxLen) (r5 : Row m w A5 k5 x.b.sig.sides S5) (s5 : sub S5 S) (pw : m = true → List.Pairwise disj [S0, S1, S2, S3, S4, S5]) : rd m w (Pair.cs x A0 k0 A1 k1 A2 k2 A3 k3 A4 k4 A5 k5) x S :=
  Lay.mono (show rd m w (Pair.cs x A0 k0 A1 k1 A2 k2 A3 k3 A4 k4 A5 k5) x.tup (un S0 (un S1 (un S2 (un S3 (un S4 S5))))) from ⟨Seal.cs x.a A0 k0 A1 k1 A2 k2, _, (un S0 (un S1 S2)), (un S3 (un S4 S5)), rfl, (un_sub (un_left _ _) (un_sub (sub_trans (un_left _ _) (un_right _ _)) (sub_trans (sub_trans (un_left _ _) (un_right _ _)) (un_right _ _)))), (un_sub (sub_trans (sub_trans (sub_trans (un_left _ _) (un_right _ _)) (un_right _ _)) (un_right _ _)) (un_sub (sub_trans (sub_trans (sub_trans (sub_trans (un_left _ _) (un_right _ _)) (un_right _ _)) (un_right _ _)) (un_right _ _)) (sub_trans (sub_trans (sub_trans (sub_trans (sub_trans (sub_refl _) (un_right _ _)) (un_right _ _)) (un_right _ _)) (un_right _ _)) (un_right _ _)))), (fun _hm => (un_disj (disj_un (pwget6_0_3 (pw _hm)) (disj_un (pwget6_0_4 (pw _hm)) (pwget6_0_5 (pw _hm)))) (un_disj (disj_un (pwget6_1_3 (pw _hm)) (disj_un (pwget6_1_4 (pw _hm)) (pwget6_1_5 (pw _hm)))) (disj_un (pwget6_2_3 (pw _hm)) (disj_un (pwget6_2_4 (pw _hm)) (pwget6_2_5 (pw _hm))))))), (Seal.mk' f0 f1 f2 f3 f4 a0 b0 r0 (un_left _ _) a1 b1 r1 (sub_trans (un_left _ _) (un_right _ _)) a2 b2 r2 (sub_trans (sub_trans (sub_refl _) (un_right _ _)) (un_right _ _)) (fun _hm => pwmk3 (pwget6_0_1 (pw _hm)) (pwget6_0_2 (pw _hm)) (pwget6_1_2 (pw _hm)))), (Seal.mk' f8 f9 f10 f11 f12 a3 b3 r3 (un_left _ _) a4 b4 r4 (sub_trans (un_left _ _) (un_right _ _)) a5 b5 r5 (sub_trans (sub_trans (sub_refl _) (un_right _ _)) (un_right _ _)) (fun _hm => pwmk3 (pwget6_3_4 (pw _hm)) (pwget6_3_5 (pw _hm)) (pwget6_4_5 (pw _hm))))⟩) ((un_sub s0 (un_sub s1 (un_sub s2 (un_sub s3 (un_sub s4 s5))))))
def Pair.sz (x : Pair) : Nat := x.a.sz + x.b.sz
def Pair.cn (x : Pair) : Nat := 1 + 1 + 1 + 1 + 1 + cnL x.a.sig.open_ + cnL x.a.sig.shut + cnL x.a.sig.sides + 1 + 1 + 1 + 1 + 1 + cnL x.b.sig.open_ + cnL x.b.sig.shut + cnL x.b.sig.sides
def Pair.me (x : Pair) (k : Nat) : Pair := (⟨(⟨(⟨((k : Nat) : Int), ((k + 1 : Nat) : Int), mtext (k + 1 + 1), mtext (k + 1 + 1 + 1)⟩ : Head), (⟨((k + 1 + 1 + 1 + 1 : Nat) : Int), meL x.a.sig.open_ (k + 1 + 1 + 1 + 1 + 1), meL x.a.sig.shut (k + 1 + 1 + 1 + 1 + 1 + cnL x.a.sig.open_), meL x.a.sig.sides (k + 1 + 1 + 1 + 1 + 1 + cnL x.a.sig.open_ + cnL x.a.sig.shut)⟩ : Sig)⟩ : Seal), (⟨(⟨((k + 1 + 1 + 1 + 1 + 1 + cnL x.a.sig.open_ + cnL x.a.sig.shut + cnL x.a.sig.sides : Nat) : Int), ((k + 1 + 1 + 1 + 1 + 1 + cnL x.a.sig.open_ + cnL x.a.sig.shut + cnL x.a.sig.sides + 1 : Nat) : Int), mtext (k + 1 + 1 + 1 + 1 + 1 + cnL x.a.sig.open_ + cnL x.a.sig.shut + cnL x.a.sig.sides + 1 + 1), mtext (k + 1 + 1 + 1 + 1 + 1 + cnL x.a.sig.open_ + cnL x.a.sig.shut + cnL x.a.sig.sides + 1 + 1 + 1)⟩ : Head), (⟨((k + 1 + 1 + 1 + 1 + 1 + cnL x.a.sig.open_ + cnL x.a.sig.shut + cnL x.a.sig.sides + 1 + 1 + 1 + 1 : Nat) : Int), meL x.b.sig.open_ (k + 1 + 1 + 1 + 1 + 1 + cnL x.a.sig.open_ + cnL x.a.sig.shut + cnL x.a.sig.sides + 1 + 1 + 1 + 1 + 1), meL x.b.sig.shut (k + 1 + 1 + 1 + 1 + 1 + cnL x.a.sig.open_ + cnL x.a.sig.shut + cnL x.a.sig.sides + 1 + 1 + 1 + 1 + 1 + cnL x.b.sig.open_), meL x.b.sig.sides (k + 1 + 1 + 1 + 1 + 1 + cnL x.a.sig.open_ + cnL x.a.sig.shut + cnL x.a.sig.sides + 1 + 1 + 1 + 1 + 1 + cnL x.b.sig.open_ + cnL x.b.sig.shut)⟩ : Sig)⟩ : Seal)⟩ : Pair)
def Pair.ct (x : Pair) : Nat := cnL x.a.sig.open_ + cnL x.a.sig.shut + cnL x.a.sig.sides + cnL x.b.sig.open_ + cnL x.b.sig.shut + cnL x.b.sig.sides
def Pair.mt (x : Pair) (k : Nat) : Pair := (⟨(⟨(⟨x.a.head.house, x.a.head.epoch, x.a.head.root, x.a.head.prev⟩ : Head), (⟨x.a.sig.at_, meL x.a.sig.open_ (k), meL x.a.sig.shut (k + cnL x.a.sig.open_), meL x.a.sig.sides (k + cnL x.a.sig.open_ + cnL x.a.sig.shut)⟩ : Sig)⟩ : Seal), (⟨(⟨x.b.head.house, x.b.head.epoch, x.b.head.root, x.b.head.prev⟩ : Head), (⟨x.b.sig.at_, meL x.b.sig.open_ (k + cnL x.a.sig.open_ + cnL x.a.sig.shut + cnL x.a.sig.sides), meL x.b.sig.shut (k + cnL x.a.sig.open_ + cnL x.a.sig.shut + cnL x.a.sig.sides + cnL x.b.sig.open_), meL x.b.sig.sides (k + cnL x.a.sig.open_ + cnL x.a.sig.shut + cnL x.a.sig.sides + cnL x.b.sig.open_ + cnL x.b.sig.shut)⟩ : Sig)⟩ : Seal)⟩ : Pair)
def Pair.zero : Pair := (⟨(⟨(⟨0, 0, ByteArray.empty, ByteArray.empty⟩ : Head), (⟨0, [], [], []⟩ : Sig)⟩ : Seal), (⟨(⟨0, 0, ByteArray.empty, ByteArray.empty⟩ : Head), (⟨0, [], [], []⟩ : Sig)⟩ : Seal)⟩ : Pair)
instance mkPair : Mk Pair where
  sz := Pair.sz
  cn := Pair.cn
  me := Pair.me
  z := Pair.zero
  zc := Pair.cs Pair.zero none 0 none 0 none 0 none 0 none 0 none 0
  zrd _ _ := Pair.mk' I64_zero I64_zero empty_le empty_le I64_zero (Nat.le_refl 0) (Nat.zero_le _) (Row.nil _ _) (sub_refl _) (Nat.le_refl 0) (Nat.zero_le _) (Row.nil _ _) (sub_refl _) (Nat.le_refl 0) (Nat.zero_le _) (Row.nil _ _) (sub_refl _) I64_zero I64_zero empty_le empty_le I64_zero (Nat.le_refl 0) (Nat.zero_le _) (Row.nil _ _) (sub_refl _) (Nat.le_refl 0) (Nat.zero_le _) (Row.nil _ _) (sub_refl _) (Nat.le_refl 0) (Nat.zero_le _) (Row.nil _ _) (sub_refl _) (fun _ => by simp [disj])

structure Many where
  names : List ByteArray
  buckets : List (List Leaf)
  sides : List ByteArray
abbrev Many.tup (x : Many) : (List ByteArray) × (List (List Leaf)) × (List ByteArray) := (x.names, x.buckets, x.sides)
instance instMany : Lay Many := layVia 51 Many.tup
instance slMany : SlTy Many := ⟨0⟩
def Many.cs (x : Many) (A0 : Option Addr) (k0 : Nat) (A1 : Option Addr) (k1 : Nat) (A2 : Option Addr) (k2 : Nat) : List Value := [.slice A0 x.names.length k0, .slice A1 x.buckets.length k1, .slice A2 x.sides.length k2]
theorem Many.open {m : Bool} {w : World} {cs : List Value} {x : Many} {S : Blks} (h : rd m w cs x S) : ∃ A0 k0 S0 A1 k1 S1 A2 k2 S2, cs = Many.cs x A0 k0 A1 k1 A2 k2 ∧ x.names.length ≤ k0 ∧ k0 ≤ maxLen ∧ Row m w A0 k0 x.names S0 ∧ sub S0 S ∧ x.buckets.length ≤ k1 ∧ k1 ≤ maxLen ∧ Row m w A1 k1 x.buckets S1 ∧ sub S1 S ∧ x.sides.length ≤ k2 ∧ k2 ≤ maxLen ∧ Row m w A2 k2 x.sides S2 ∧ sub S2 S ∧ (m = true → List.Pairwise disj [S0, S1, S2]) := by
  have h0 : rd m w cs x.tup S := h
  obtain ⟨A0, k0, c4, S0, R5, rfl, g1, g2, g3, s6, s7, d8, h9⟩ := open_list2 h0
  obtain ⟨A1, k1, c13, S1, R14, rfl, g10, g11, g12, s15, s16, d17, h18⟩ := open_list2 h9
  obtain ⟨A2, k2, rfl, g19, g20, g21⟩ := open_list h18
  exact ⟨A0, k0, S0, A1, k1, S1, A2, k2, _, rfl, g1, g2, g3, s6, g10, g11, g12, (sub_trans s15 s7), g19, g20, g21, (sub_trans s16 s7), fun _hm => pwmk3 (disj_sub (d8 _hm) (sub_refl _) s15) (disj_sub (d8 _hm) (sub_refl _) s16) (disj_sub (d17 _hm) (sub_refl _) (sub_refl _))⟩
theorem Many.mk' {m : Bool} {w : World} {x : Many} {S : Blks} {A0 : Option Addr} {k0 : Nat} {S0 : Blks} (a0 : x.names.length ≤ k0) (b0 : k0 ≤ maxLen) (r0 : Row m w A0 k0 x.names S0) (s0 : sub S0 S) {A1 : Option Addr} {k1 : Nat} {S1 : Blks} (a1 : x.buckets.length ≤ k1) (b1 : k1 ≤ maxLen) (r1 : Row m w A1 k1 x.buckets S1) (s1 : sub S1 S) {A2 : Option Addr} {k2 : Nat} {S2 : Blks} (a2 : x.sides.length ≤ k2) (b2 : k2 ≤ maxLen) (r2 : Row m w A2 k2 x.sides S2) (s2 : sub S2 S) (pw : m = true → List.Pairwise disj [S0, S1, S2]) : rd m w (Many.cs x A0 k0 A1 k1 A2 k2) x S :=
  Lay.mono (show rd m w (Many.cs x A0 k0 A1 k1 A2 k2) x.tup (un S0 (un S1 S2)) from ⟨[_], _, S0, (un S1 S2), rfl, (un_left _ _), (un_sub (sub_trans (un_left _ _) (un_right _ _)) (sub_trans (sub_trans (sub_refl _) (un_right _ _)) (un_right _ _))), (fun _hm => (disj_un (pwget3_0_1 (pw _hm)) (pwget3_0_2 (pw _hm)))), ⟨_, _, rfl, a0, b0, r0⟩, ⟨[_], _, S1, S2, rfl, (un_left _ _), (sub_trans (sub_refl _) (un_right _ _)), (fun _hm => (pwget3_1_2 (pw _hm))), ⟨_, _, rfl, a1, b1, r1⟩, ⟨_, _, rfl, a2, b2, r2⟩⟩⟩) ((un_sub s0 (un_sub s1 s2)))
def Many.sz (x : Many) : Nat := szL x.names + szL x.buckets + szL x.sides
def Many.cn (x : Many) : Nat := cnL x.names + cnL x.buckets + cnL x.sides
def Many.me (x : Many) (k : Nat) : Many := (⟨meL x.names (k), meL x.buckets (k + cnL x.names), meL x.sides (k + cnL x.names + cnL x.buckets)⟩ : Many)
def Many.ct (x : Many) : Nat := cnL x.names + cnL x.buckets + cnL x.sides
def Many.mt (x : Many) (k : Nat) : Many := (⟨meL x.names (k), meL x.buckets (k + cnL x.names), meL x.sides (k + cnL x.names + cnL x.buckets)⟩ : Many)
def Many.zero : Many := (⟨[], [], []⟩ : Many)
instance mkMany : Mk Many where
  sz := Many.sz
  cn := Many.cn
  me := Many.me
  z := Many.zero
  zc := Many.cs Many.zero none 0 none 0 none 0
  zrd _ _ := Many.mk' (Nat.le_refl 0) (Nat.zero_le _) (Row.nil _ _) (sub_refl _) (Nat.le_refl 0) (Nat.zero_le _) (Row.nil _ _) (sub_refl _) (Nat.le_refl 0) (Nat.zero_le _) (Row.nil _ _) (sub_refl _) (fun _ => by simp [disj])

end Go.Proofs.YtojbehmbeoemgaaDoor

set_option linter.unusedVariables false
set_option linter.unusedSimpArgs false
namespace Go.Proofs.YtojbehmbeoemgaaDoor
open Go.RowKit Lay

instance instU8 : Lay UInt8 where
  ty := 5
  n := 1
  rd _ _ cs a _ := cs = [.int .u8 a.toNat]
  pos := by decide
  len h := by rw [h]; rfl
  keep h _ := h
  mono h _ := h
  weak h := h
  tight h := h
  one h := by rw [h]; simp [Value.oneCell']
instance slU8 : SlTy UInt8 := ⟨22⟩

/-- what the program's table says of an element type -/
class Inf (α : Type) [Lay α] [SlTy α] : Prop where
  ex : ∃ z bytes, (Tryd.prog.info? (ty α)).map (fun i => (i.zero, i.size, i.bytes)) = some (some z, n α, bytes) ∧ z.cells.size = n α ∧ bytes ≤ 2000
  st : Tryd.prog.underlying (SlTy.st α) = some (.slice (ty α))

/-- layouts without rows of their own -/
class Flat (α : Type) [Lay α] where
  cs : α → List Value
  ok : α → Prop
  iff : ∀ {m w c a S}, rd m w c a S ↔ c = cs a ∧ ok a

def none_ : Blks := fun _ => False
theorem disj_none_ (S : Blks) : disj S none_ := fun _ _ x => x

theorem Flat.els {α : Type} [Lay α] [Flat α] {m : Bool} {w : World} {b off : Nat} {xs : List α} {S : Blks} (h : Els m w b off xs S) : Els true w b off xs none_ := by
  obtain ⟨T, _, _, h3⟩ := h
  refine ⟨fun _ => none_, fun _ _ x => x, fun _ _ _ _ _ x => x.elim, fun i hi => ?_⟩
  obtain ⟨cs, h4, h5⟩ := h3 i hi
  exact ⟨cs, h4, Flat.iff.2 (Flat.iff.1 h5)⟩
theorem Src.flat {α : Type} [Lay α] [Flat α] {m : Bool} {w : World} {A : Option Addr} {cap : Nat} {xs : List α} {S : Blks} (h : Row m w A cap xs S) : Src w A xs none_ := by
  intro hne
  cases m with
  | false =>
    obtain ⟨b, off, e, hb, h1⟩ := h hne
    exact ⟨b, off, e, Flat.els h1⟩
  | true =>
    rcases h with ⟨_, h, _⟩ | ⟨g, cur, e, hg, h1, h2, h3⟩
    · exact absurd h hne
    · exact ⟨g, 0, e, Flat.els h3⟩
theorem Src.keep {α : Type} [Lay α] {w w' : World} {A : Option Addr} {xs : List α} {T : Blks} (h : Src w A xs T) (hb : Below w.heap.size w w') : Src w' A xs T := by
  intro hne
  obtain ⟨b, off, e, h1⟩ := h hne
  refine ⟨b, off, e, (h1.tight.keep (fun _ => ?_) (fun b x => hb.block b x.2)).mono (fun _ x => x.1)⟩
  apply hb.block
  obtain ⟨T, _, _, h3⟩ := h1
  obtain ⟨cs, h4, h5⟩ := h3 0 (by cases xs; simp at hne; simp)
  have := Lay.len h5
  have hp := Lay.pos (α := α)
  exact h4.lt (by rintro rfl; simp at this; omega)
theorem src_new {α : Type} [Lay α] [Flat α] (w : World) (y : α) (ok : Flat.ok y) (cs : Array Value) (t : TypeId) (h : cs.toList = Flat.cs y) : Src (w.alloc (.cells cs t)) (some ⟨w.heap.size, 0, none⟩) [y] none_ := by
  intro _
  refine ⟨_, _, rfl, fun _ => none_, fun _ _ x => x, fun _ _ _ _ _ x => x.elim, fun i hi => ?_⟩
  have hi : i = 0 := by simpa using hi
  subst hi
  refine ⟨Flat.cs y, fun j u hu => ?_, Flat.iff.2 ⟨rfl, ok⟩⟩
  rw [World.cell?_alloc_mark]
  rw [← h] at hu
  simpa using hu
theorem src_new2 {α : Type} [Lay α] [Flat α] (w : World) (x y : α) (ok : Flat.ok x) (ok2 : Flat.ok y) (cs : Array Value) (t : TypeId) (h : cs.toList = Flat.cs x ++ Flat.cs y) : Src (w.alloc (.cells cs t)) (some ⟨w.heap.size, 0, none⟩) [x, y] none_ := by
  intro _
  have hl : ∀ a : α, Flat.ok a → (Flat.cs a).length = n α := fun a ha => Lay.len (m := true) (w := w) (S := none_) (Flat.iff.2 ⟨rfl, ha⟩)
  refine ⟨_, _, rfl, fun _ => none_, fun _ _ x => x, fun _ _ _ _ _ x => x.elim, fun i hi => ?_⟩
  have hi : i < 2 := by simpa using hi
  rcases (show i = 0 ∨ i = 1 by omega) with rfl | rfl
  · refine ⟨Flat.cs x, fun j u hu => ?_, Flat.iff.2 ⟨rfl, ok⟩⟩
    rw [World.cell?_alloc_mark]
    have : cs.toList[j]? = some u := by rw [h, List.getElem?_append_left (List.getElem?_eq_some_iff.1 hu).1]; exact hu
    simpa using this
  · refine ⟨Flat.cs y, fun j u hu => ?_, Flat.iff.2 ⟨rfl, ok2⟩⟩
    rw [World.cell?_alloc_mark]
    have : cs.toList[0 + 1 * n α + j]? = some u := by rw [h, List.getElem?_append_right (by rw [hl x ok]; omega), hl x ok, ← hu]; congr 1; omega
    simpa using this

theorem ret_int {k : IntKind} {a b : Int} (h : a = b) : Ending.returned (.int k a) = .returned (.int k b) := by rw [h]
theorem ret_str {a b : ByteArray} (h : a = b) : Ending.returned (.string a) = .returned (.string b) := by rw [h]
theorem ret_bool {a b : Bool} (h : a = b) : Ending.returned (.bool a) = .returned (.bool b) := by rw [h]
theorem ret_strb {a b : ByteArray} {c d : Bool} (h : a = b) (k : c = d) : Ending.returned (.tuple #[.string a, .bool c]) = .returned (.tuple #[.string b, .bool d]) := by rw [h, k]
/-- the string of some bytes -/
def bs (l : List UInt8) : ByteArray := ⟨l.toArray⟩
theorem bs_size (l : List UInt8) : (bs l).size = l.length := by unfold bs; exact List.size_toArray
theorem bs_app (a b : List UInt8) : bs a ++ bs b = bs (a ++ b) := by apply ByteArray.ext; simp [bs]
theorem bs_data (s : ByteArray) : bs s.data.toList = s := by apply ByteArray.ext; simp [bs]
theorem u8_eq (k : Nat) (z : Int) (h : z = k) (h2 : k < 256) : z = ((UInt8.ofNat k).toNat : Int) := by simp; omega
theorem src_u8 [Flat UInt8] (w : World) (z : Int) (b : UInt8) (t : TypeId) (h : z = (b.toNat : Int)) : Src (w.alloc (.cells #[.int .u8 z] t)) (some ⟨w.heap.size, 0, none⟩) [b] none_ := by
  subst h
  intro _
  refine ⟨_, _, rfl, fun _ => none_, fun _ _ x => x, fun _ _ _ _ _ x => x.elim, fun i hi => ?_⟩
  have hi : i = 0 := by simpa using hi
  subst hi
  refine ⟨[.int .u8 b.toNat], fun j u hu => ?_, rfl⟩
  rw [World.cell?_alloc_mark]
  simpa using hu

theorem wpList_app {α : Type} [Lay α] [SlTy α] [Inf α] {ops : Array Oper} {rest : List Oper} {o : Oper} {a : Act} {Q : Exit → Act → World → Prop} {w : World} (hgd : o.guard = none) (s x : Operand)
    (ho : o.op = .call { callee := .builtin .append, args := #[s, x], argTypes := #[SlTy.st α, SlTy.st α] })
    {A A2 : Option Addr} {cap c2 k m : Nat} {xs ys : List α} {S T : Blks} (hs : a.eval s = .slice A k cap) (hk : k = xs.length) (hrow : Row true w A cap xs S) (hle : k ≤ cap) (hcm : cap ≤ maxLen)
    (hx : a.eval x = .slice A2 m c2) (hm : m = ys.length) (hsrc : Src w A2 ys T) (hd : disj S T) (hb : k + m ≤ 4000000000)
    (h : ∀ A' cap' w', k + m ≤ cap' → cap' ≤ maxLen → Row true w' A' cap' (xs ++ ys) (fun b => S b ∨ T b ∨ (w.heap.size ≤ b ∧ b < w'.heap.size)) → Chg S w w' → wpList Tryd.prog ops Q rest (a.put o.dst (.slice A' (k + m) cap')) w') :
    wpList Tryd.prog ops Q (o :: rest) a w := by
  refine wpList_plain hgd fun K hK => ?_
  subst hk; subst hm
  obtain ⟨z, bytes, e, hz, hby⟩ := Inf.ex (α := α)
  obtain ⟨i, hi, h0, h1, h2⟩ := info_parts e
  obtain ⟨A', cap', w', hr, h3, h4, h5, h6⟩ := run_app (P := Tryd.prog) (c2 := c2) (SlTy.st α) o.type i z bytes Inf.st hi h0 h1 h2 hz hrow hle hcm hsrc hd (by unfold maxLen; omega)
    (Nat.le_trans (Nat.mul_le_mul hb hby) (by decide))
  unfold Oper.wp execOp
  simp only [ho, resolve, invoke, builtin, Sem.run_bind, Sem.run_pure, Result.andThen_ok, List.map_toArray, List.map_cons, List.map_nil, hs, hx, hr]
  exact hK _ _ (h A' cap' w' h3 h4 h5 h6)

theorem Row.at_ {α : Type} [Lay α] {m : Bool} {w : World} {A : Option Addr} {cap : Nat} {xs : List α} {S : Blks} (h : Row m w A cap xs S) {i : Nat} (hi : i < xs.length) :
    ∃ b off cs T, A = some ⟨b, off, none⟩ ∧ b < w.heap.size ∧ At w b (off + i * n α) cs ∧ rd m w cs xs[i] T ∧ sub T S ∧ S b := by
  have hne : xs ≠ [] := by rintro rfl; simp at hi
  have key : ∀ {b off : Nat} {U : Blks}, Els m w b off xs U → sub U S → ∃ cs T, b < w.heap.size ∧ At w b (off + i * n α) cs ∧ rd m w cs xs[i] T ∧ sub T S := by
    rintro b off U ⟨T, h1, _, h3⟩ hU
    obtain ⟨cs, h4, h5⟩ := h3 i hi
    have hl := Lay.len h5
    have hp := Lay.pos (α := α)
    exact ⟨cs, T i, h4.lt (by rintro rfl; simp at hl; omega), h4, h5, sub_trans (h1 i) hU⟩
  cases m with
  | false =>
    obtain ⟨b, off, e, hb, h1⟩ := h hne
    obtain ⟨cs, T, h2, h3, h4, h5⟩ := key h1 (sub_refl _)
    exact ⟨b, off, cs, T, e, h2, h3, h4, h5, hb⟩
  | true =>
    rcases h with ⟨_, h, _⟩ | ⟨g, cur, e, hg, h1, h2, h3⟩
    · exact absurd h hne
    · obtain ⟨cs, T, h4, h5, h6, h7⟩ := key h3 (fun b x => x.1)
      exact ⟨g, 0, cs, T, e, h4, h5, h6, h7, hg⟩

theorem cells_u8 {w : World} {A : Option Addr} {cap : Nat} {xs : List UInt8} {S : Blks} (h : Row true w A cap xs S) (hne : xs ≠ []) : ∃ b off, A = some ⟨b, off, none⟩ ∧ ∀ j (hj : j < xs.length), w.cell? ⟨b, off + j, none⟩ = some (.int .u8 (xs[j].toNat : Int)) := by
  rcases h with ⟨_, h, _⟩ | ⟨g, cur, e, hg, h1, h2, T, _, _, h3⟩
  · exact absurd h hne
  · refine ⟨g, 0, e, fun j hj => ?_⟩
    obtain ⟨cs, h4, h5⟩ := h3 j hj
    have h5 : cs = [.int .u8 xs[j].toNat] := h5
    subst h5
    have := h4 0 _ rfl
    simpa [show n UInt8 = 1 from rfl] using this

theorem wpList_bytes {ops : Array Oper} {rest : List Oper} {o : Oper} {a : Act} {Q : Exit → Act → World → Prop} {w : World} (hgd : o.guard = none) (x : Operand)
    (ho : o.op = .convert (SlTy.st UInt8) (ty ByteArray) x) [hI : Inf UInt8] (he : Tryd.prog.underlying (ty UInt8) = some (.int .u8)) (hdst : Tryd.prog.underlying (ty ByteArray) = some .string)
    {A : Option Addr} {cap k : Nat} {l : List UInt8} {S : Blks} (hx : a.eval x = .slice A k cap) (hk : k = l.length) (hrow : Row true w A cap l S)
    (h : wpList Tryd.prog ops Q rest (a.put o.dst (.string (bs l))) w) : wpList Tryd.prog ops Q (o :: rest) a w := by
  refine wpList_plain hgd fun K hK => ?_
  subst hk
  have hr : (convert (SlTy.st UInt8) (ty ByteArray) (.slice A l.length cap)).run Tryd.prog w = .ok (.string ⟨l.toArray⟩) w := by
    by_cases hne : l = []
    · subst hne
      rw [run_convert_bytes_string w _ _ (ty UInt8) A _ cap Inf.st he hdst]
      rcases hrow with ⟨rfl, _, rfl⟩ | ⟨g, cur, rfl, hg, h1, h2, _⟩
      · rfl
      · exact run_bytesToString w ⟨g, 0, none⟩ 0 cap [] rfl
    · obtain ⟨b, off, rfl, hc⟩ := cells_u8 hrow hne
      exact run_convert_bytes_back w _ _ (ty UInt8) ⟨b, off, none⟩ cap l Inf.st he hdst (fun j hj => by rw [add_none]; exact hc j hj)
  unfold Oper.wp execOp
  simp only [ho, Sem.run_bind, Sem.run_pure, Result.andThen_ok, hx, hr]
  exact hK _ _ h
def u8c (b : UInt8) : Value := .int .u8 b.toNat
theorem at_lit (v : World) (cs : Array Value) (t : TypeId) (fr : Nat × Nat) (l : List UInt8) (h : cs.toList = l.map u8c) : At (v.alloc (.cells cs t fr)) v.heap.size 0 (l.map u8c) := fun j u hu => by
  rw [World.cell?_alloc_mark]
  rw [← h] at hu
  simpa using hu
theorem wpList_bytesAt {ops : Array Oper} {rest : List Oper} {o : Oper} {a : Act} {Q : Exit → Act → World → Prop} {w : World} (hgd : o.guard = none) (x : Operand)
    (ho : o.op = .convert (SlTy.st UInt8) (ty ByteArray) x) [hI : Inf UInt8] (he : Tryd.prog.underlying (ty UInt8) = some (.int .u8)) (hdst : Tryd.prog.underlying (ty ByteArray) = some .string)
    {b off cap k : Nat} (l : List UInt8) (hx : a.eval x = .slice (some ⟨b, off, none⟩) k cap) (hk : k = l.length) (ha : At w b off (l.map u8c))
    (h : wpList Tryd.prog ops Q rest (a.put o.dst (.string (bs l))) w) : wpList Tryd.prog ops Q (o :: rest) a w := by
  refine wpList_plain hgd fun K hK => ?_
  subst hk
  have hr : (convert (SlTy.st UInt8) (ty ByteArray) (.slice (some ⟨b, off, none⟩) l.length cap)).run Tryd.prog w = .ok (.string (bs l)) w :=
    run_convert_bytes_back w _ _ (ty UInt8) ⟨b, off, none⟩ cap l Inf.st he hdst (fun j hj => by rw [add_none]; exact ha j _ (by simp [u8c, hj]))
  unfold Oper.wp execOp
  simp only [ho, Sem.run_bind, Sem.run_pure, Result.andThen_ok, hx, hr]
  exact hK _ _ h
end Go.Proofs.YtojbehmbeoemgaaDoor
