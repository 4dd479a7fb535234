/- The structs of the directory as layouts. Written by a program (gen_ty.py). -/
import Derived.Test.YtlbmikcfjgnnaaaDoorMk
set_option linter.unusedVariables false
set_option linter.unusedSimpArgs false
namespace Go.Proofs.YtlbmikcfjgnnaaaDoor
open Go.RowKit Lay Mk
instance slInt : SlTy Int := ⟨26⟩
instance slBool : SlTy Bool := ⟨0⟩
instance slStr : SlTy ByteArray := ⟨0⟩
theorem I64_zero : I64 0 := by unfold I64; omega
theorem empty_le : ByteArray.empty.size ≤ maxLen := by decide
theorem Row.nil {α : Type} [Lay α] (m : Bool) (w : World) {S : Blks} : Row (α := α) m w none 0 [] S := by cases m; exact fun h => absurd rfl h; exact .inl ⟨rfl, rfl, rfl⟩
def un (A B : Blks) : Blks := fun b => A b ∨ B b
theorem un_left (A B : Blks) : sub A (un A B) := fun _ h => .inl h
theorem un_right (A B : Blks) : sub B (un A B) := fun _ h => .inr h
theorem un_sub {A B S : Blks} (h : sub A S) (k : sub B S) : sub (un A B) S := fun b x => x.elim (h b) (k b)
theorem sub_none (S : Blks) : sub (fun _ => False) S := fun _ x => x.elim
theorem disj_none (S : Blks) : disj S (fun _ => False) := fun _ _ x => x
theorem disj_un {A B C : Blks} (h : disj A B) (k : disj A C) : disj A (un B C) := fun b x y => y.elim (h b x) (k b x)
theorem un_disj {A B C : Blks} (h : disj A C) (k : disj B C) : disj (un A B) C := fun b x y => x.elim (fun z => h b z y) (fun z => k b z y)
structure Change where
  id : Int
  name : ByteArray
  value : ByteArray
abbrev Change.tup (x : Change) : Int × ByteArray × ByteArray := (x.id, x.name, x.value)
instance instChange : Lay Change := layVia 0 Change.tup
instance slChange : SlTy Change := ⟨0⟩
def Change.cs (x : Change) : List Value := [.int .i64 x.id, .string x.name, .string x.value]
theorem Change.open {m : Bool} {w : World} {cs : List Value} {x : Change} {S : Blks} (h : rd m w cs x S) : cs = Change.cs x ∧ I64 x.id ∧ x.name.size ≤ maxLen ∧ x.value.size ≤ maxLen := by
  have h0 : rd m w cs x.tup S := h
  obtain ⟨c1, rfl, f3, h2⟩ := open_int2 h0
  obtain ⟨c4, rfl, f6, h5⟩ := open_str2 h2
  obtain ⟨rfl, f7⟩ := open_str h5
  exact ⟨rfl, f3, f6, f7⟩
theorem Change.mk' {m : Bool} {w : World} {x : Change} {S : Blks} (f0 : I64 x.id) (f1 : x.name.size ≤ maxLen) (f2 : x.value.size ≤ maxLen) : rd m w (Change.cs x) x S :=
  Lay.mono (show rd m w (Change.cs x) x.tup (fun _ => False) from (mk_int2 f0 (mk_str2 f1 ⟨rfl, f2⟩))) (sub_none _)
def Change.sz (x : Change) : Nat := x.name.size + x.value.size
def Change.cn (_x : Change) : Nat := 1 + 1 + 1
def Change.me (_x : Change) (k : Nat) : Change := (⟨((k : Nat) : Int), mtext (k + 1), mtext (k + 1 + 1)⟩ : Change)
def Change.ct (_x : Change) : Nat := 0
def Change.mt (x : Change) (_k : Nat) : Change := (⟨x.id, x.name, x.value⟩ : Change)
def Change.zero : Change := (⟨0, ByteArray.empty, ByteArray.empty⟩ : Change)
instance mkChange : Mk Change where
  sz := Change.sz
  cn := Change.cn
  me := Change.me
  z := Change.zero
  zc := Change.cs Change.zero
  zrd _ _ := Change.mk' I64_zero empty_le empty_le

structure Letter where
  kind : Int
  from_ : Int
  to : Int
  epoch : Int
  try_ : Int
  root : ByteArray
abbrev Letter.tup (x : Letter) : Int × Int × Int × Int × Int × ByteArray := (x.kind, x.from_, x.to, x.epoch, x.try_, x.root)
instance instLetter : Lay Letter := layVia 0 Letter.tup
instance slLetter : SlTy Letter := ⟨0⟩
def Letter.cs (x : Letter) : List Value := [.int .i64 x.kind, .int .i64 x.from_, .int .i64 x.to, .int .i64 x.epoch, .int .i64 x.try_, .string x.root]
theorem Letter.open {m : Bool} {w : World} {cs : List Value} {x : Letter} {S : Blks} (h : rd m w cs x S) : cs = Letter.cs x ∧ I64 x.kind ∧ I64 x.from_ ∧ I64 x.to ∧ I64 x.epoch ∧ I64 x.try_ ∧ x.root.size ≤ maxLen := by
  have h0 : rd m w cs x.tup S := h
  obtain ⟨c1, rfl, f3, h2⟩ := open_int2 h0
  obtain ⟨c4, rfl, f6, h5⟩ := open_int2 h2
  obtain ⟨c7, rfl, f9, h8⟩ := open_int2 h5
  obtain ⟨c10, rfl, f12, h11⟩ := open_int2 h8
  obtain ⟨c13, rfl, f15, h14⟩ := open_int2 h11
  obtain ⟨rfl, f16⟩ := open_str h14
  exact ⟨rfl, f3, f6, f9, f12, f15, f16⟩
theorem Letter.mk' {m : Bool} {w : World} {x : Letter} {S : Blks} (f0 : I64 x.kind) (f1 : I64 x.from_) (f2 : I64 x.to) (f3 : I64 x.epoch) (f4 : I64 x.try_) (f5 : x.root.size ≤ maxLen) : rd m w (Letter.cs x) x S :=
  Lay.mono (show rd m w (Letter.cs x) x.tup (fun _ => False) from (mk_int2 f0 (mk_int2 f1 (mk_int2 f2 (mk_int2 f3 (mk_int2 f4 ⟨rfl, f5⟩)))))) (sub_none _)
def Letter.sz (x : Letter) : Nat := x.root.size
def Letter.cn (_x : Letter) : Nat := 1 + 1 + 1 + 1 + 1 + 1
def Letter.me (_x : Letter) (k : Nat) : Letter := (⟨((k : Nat) : Int), ((k + 1 : Nat) : Int), ((k + 1 + 1 : Nat) : Int), ((k + 1 + 1 + 1 : Nat) : Int), ((k + 1 + 1 + 1 + 1 : Nat) : Int), mtext (k + 1 + 1 + 1 + 1 + 1)⟩ : Letter)
def Letter.ct (_x : Letter) : Nat := 0
def Letter.mt (x : Letter) (_k : Nat) : Letter := (⟨x.kind, x.from_, x.to, x.epoch, x.try_, x.root⟩ : Letter)
def Letter.zero : Letter := (⟨0, 0, 0, 0, 0, ByteArray.empty⟩ : Letter)
instance mkLetter : Mk Letter where
  sz := Letter.sz
  cn := Letter.cn
  me := Letter.me
  z := Letter.zero
  zc := Letter.cs Letter.zero
  zrd _ _ := Letter.mk' I64_zero I64_zero I64_zero I64_zero I64_zero empty_le

end Go.Proofs.YtlbmikcfjgnnaaaDoor
