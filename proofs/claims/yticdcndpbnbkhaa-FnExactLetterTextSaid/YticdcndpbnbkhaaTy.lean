/- The structs of the directory as layouts. Written by a program (gen_ty.py). -/
import Derived.Test.YticdcndpbnbkhaaMk
namespace Go.Proofs.Yticdcndpbnbkhaa
open Go.RowKit Lay Mk
instance slInt : SlTy Int := ⟨55⟩
instance slBool : SlTy Bool := ⟨0⟩
instance slStr : SlTy ByteArray := ⟨53⟩
theorem I64_zero : I64 0 := by unfold I64; omega
theorem empty_le : ByteArray.empty.size ≤ maxLen := by decide
theorem Row.nil {α : Type} [Lay α] (m : Bool) (w : World) {S : Blks} : Row (α := α) m w none 0 [] S := by cases m; exact fun h => absurd rfl h; exact .inl ⟨rfl, rfl, rfl⟩
def un (A B : Blks) : Blks := fun b => A b ∨ B b
theorem un_left (A B : Blks) : sub A (un A B) := fun _ h => .inl h
theorem un_right (A B : Blks) : sub B (un A B) := fun _ h => .inr h
theorem un_sub {A B S : Blks} (h : sub A S) (k : sub B S) : sub (un A B) S := fun b x => x.elim (h b) (k b)
theorem sub_none (S : Blks) : sub (fun _ => False) S := fun _ x => x.elim
theorem disj_none (S : Blks) : disj S (fun _ => False) := fun _ _ x => x
theorem disj_un {A B C : Blks} (h : disj A B) (k : disj A C) : disj A (un B C) := fun b x y => y.elim (h b x) (k b x)
theorem un_disj {A B C : Blks} (h : disj A C) (k : disj B C) : disj (un A B) C := fun b x y => x.elim (fun z => h b z y) (fun z => k b z y)
structure Head where
  house : Int
  epoch : Int
  root : ByteArray
  prev : ByteArray
abbrev Head.tup (x : Head) : Int × Int × ByteArray × ByteArray := (x.house, x.epoch, x.root, x.prev)
instance instHead : Lay Head := layVia 81 Head.tup
instance slHead : SlTy Head := ⟨38⟩
def Head.cs (x : Head) : List Value := [.int .i64 x.house, .int .i64 x.epoch, .string x.root, .string x.prev]
theorem Head.open {m : Bool} {w : World} {cs : List Value} {x : Head} {S : Blks} (h : rd m w cs x S) : cs = Head.cs x ∧ I64 x.house ∧ I64 x.epoch ∧ x.root.size ≤ maxLen ∧ x.prev.size ≤ maxLen := by
  have h0 : rd m w cs x.tup S := h
  obtain ⟨c1, rfl, f3, h2⟩ := open_int2 h0
  obtain ⟨c4, rfl, f6, h5⟩ := open_int2 h2
  obtain ⟨c7, rfl, f9, h8⟩ := open_str2 h5
  obtain ⟨rfl, f10⟩ := open_str h8
  exact ⟨rfl, f3, f6, f9, f10⟩
theorem Head.mk' {m : Bool} {w : World} {x : Head} {S : Blks} (f0 : I64 x.house) (f1 : I64 x.epoch) (f2 : x.root.size ≤ maxLen) (f3 : x.prev.size ≤ maxLen) : rd m w (Head.cs x) x S :=
  Lay.mono (show rd m w (Head.cs x) x.tup (fun _ => False) from (mk_int2 f0 (mk_int2 f1 (mk_str2 f2 ⟨rfl, f3⟩)))) (sub_none _)
def Head.sz (x : Head) : Nat := x.root.size + x.prev.size
def Head.cn (x : Head) : Nat := 1 + 1 + 1 + 1
def Head.me (x : Head) (k : Nat) : Head := (⟨((k : Nat) : Int), ((k + 1 : Nat) : Int), mtext (k + 1 + 1), mtext (k + 1 + 1 + 1)⟩ : Head)
def Head.ct (x : Head) : Nat := 0
def Head.mt (x : Head) (k : Nat) : Head := (⟨x.house, x.epoch, x.root, x.prev⟩ : Head)
def Head.zero : Head := (⟨0, 0, ByteArray.empty, ByteArray.empty⟩ : Head)
instance mkHead : Mk Head where
  sz := Head.sz
  cn := Head.cn
  me := Head.me
  z := Head.zero
  zc := Head.cs Head.zero
  zrd _ _ := Head.mk' I64_zero I64_zero empty_le empty_le

structure Change where
  id : Int
  name : ByteArray
  value : ByteArray
abbrev Change.tup (x : Change) : Int × ByteArray × ByteArray := (x.id, x.name, x.value)
instance instChange : Lay Change := layVia 33 Change.tup
instance slChange : SlTy Change := ⟨0⟩
def Change.cs (x : Change) : List Value := [.int .i64 x.id, .string x.name, .string x.value]
theorem Change.open {m : Bool} {w : World} {cs : List Value} {x : Change} {S : Blks} (h : rd m w cs x S) : cs = Change.cs x ∧ I64 x.id ∧ x.name.size ≤ maxLen ∧ x.value.size ≤ maxLen := by
  have h0 : rd m w cs x.tup S := h
  obtain ⟨c1, rfl, f3, h2⟩ := open_int2 h0
  obtain ⟨c4, rfl, f6, h5⟩ := open_str2 h2
  obtain ⟨rfl, f7⟩ := open_str h5
  exact ⟨rfl, f3, f6, f7⟩
theorem Change.mk' {m : Bool} {w : World} {x : Change} {S : Blks} (f0 : I64 x.id) (f1 : x.name.size ≤ maxLen) (f2 : x.value.size ≤ maxLen) : rd m w (Change.cs x) x S :=
  Lay.mono (show rd m w (Change.cs x) x.tup (fun _ => False) from (mk_int2 f0 (mk_str2 f1 ⟨rfl, f2⟩))) (sub_none _)
def Change.sz (x : Change) : Nat := x.name.size + x.value.size
def Change.cn (x : Change) : Nat := 1 + 1 + 1
def Change.me (x : Change) (k : Nat) : Change := (⟨((k : Nat) : Int), mtext (k + 1), mtext (k + 1 + 1)⟩ : Change)
def Change.ct (x : Change) : Nat := 0
def Change.mt (x : Change) (k : Nat) : Change := (⟨x.id, x.name, x.value⟩ : Change)
def Change.zero : Change := (⟨0, ByteArray.empty, ByteArray.empty⟩ : Change)
instance mkChange : Mk Change where
  sz := Change.sz
  cn := Change.cn
  me := Change.me
  z := Change.zero
  zc := Change.cs Change.zero
  zrd _ _ := Change.mk' I64_zero empty_le empty_le

structure Letter where
  kind : Int
  from_ : Int
  to : Int
  epoch : Int
  try_ : Int
  root : ByteArray
abbrev Letter.tup (x : Letter) : Int × Int × Int × Int × Int × ByteArray := (x.kind, x.from_, x.to, x.epoch, x.try_, x.root)
instance instLetter : Lay Letter := layVia 26 Letter.tup
instance slLetter : SlTy Letter := ⟨0⟩
def Letter.cs (x : Letter) : List Value := [.int .i64 x.kind, .int .i64 x.from_, .int .i64 x.to, .int .i64 x.epoch, .int .i64 x.try_, .string x.root]
theorem Letter.open {m : Bool} {w : World} {cs : List Value} {x : Letter} {S : Blks} (h : rd m w cs x S) : cs = Letter.cs x ∧ I64 x.kind ∧ I64 x.from_ ∧ I64 x.to ∧ I64 x.epoch ∧ I64 x.try_ ∧ x.root.size ≤ maxLen := by
  have h0 : rd m w cs x.tup S := h
  obtain ⟨c1, rfl, f3, h2⟩ := open_int2 h0
  obtain ⟨c4, rfl, f6, h5⟩ := open_int2 h2
  obtain ⟨c7, rfl, f9, h8⟩ := open_int2 h5
  obtain ⟨c10, rfl, f12, h11⟩ := open_int2 h8
  obtain ⟨c13, rfl, f15, h14⟩ := open_int2 h11
  obtain ⟨rfl, f16⟩ := open_str h14
  exact ⟨rfl, f3, f6, f9, f12, f15, f16⟩
theorem Letter.mk' {m : Bool} {w : World} {x : Letter} {S : Blks} (f0 : I64 x.kind) (f1 : I64 x.from_) (f2 : I64 x.to) (f3 : I64 x.epoch) (f4 : I64 x.try_) (f5 : x.root.size ≤ maxLen) : rd m w (Letter.cs x) x S :=
  Lay.mono (show rd m w (Letter.cs x) x.tup (fun _ => False) from (mk_int2 f0 (mk_int2 f1 (mk_int2 f2 (mk_int2 f3 (mk_int2 f4 ⟨rfl, f5⟩)))))) (sub_none _)
def Letter.sz (x : Letter) : Nat := x.root.size
def Letter.cn (x : Letter) : Nat := 1 + 1 + 1 + 1 + 1 + 1
def Letter.me (x : Letter) (k : Nat) : Letter := (⟨((k : Nat) : Int), ((k + 1 : Nat) : Int), ((k + 1 + 1 : Nat) : Int), ((k + 1 + 1 + 1 : Nat) : Int), ((k + 1 + 1 + 1 + 1 : Nat) : Int), mtext (k + 1 + 1 + 1 + 1 + 1)⟩ : Letter)
def Letter.ct (x : Letter) : Nat := 0
def Letter.mt (x : Letter) (k : Nat) : Letter := (⟨x.kind, x.from_, x.to, x.epoch, x.try_, x.root⟩ : Letter)
def Letter.zero : Letter := (⟨0, 0, 0, 0, 0, ByteArray.empty⟩ : Letter)
instance mkLetter : Mk Letter where
  sz := Letter.sz
  cn := Letter.cn
  me := Letter.me
  z := Letter.zero
  zc := Letter.cs Letter.zero
  zrd _ _ := Letter.mk' I64_zero I64_zero I64_zero I64_zero I64_zero empty_le

structure Move where
  kind : Int
  node : Int
  at_ : Int
  change : Change
abbrev Move.tup (x : Move) : Int × Int × Int × Change := (x.kind, x.node, x.at_, x.change)
instance instMove : Lay Move := layVia 50 Move.tup
instance slMove : SlTy Move := ⟨0⟩
def Move.cs (x : Move) : List Value := [.int .i64 x.kind, .int .i64 x.node, .int .i64 x.at_, .int .i64 x.change.id, .string x.change.name, .string x.change.value]
theorem Move.open {m : Bool} {w : World} {cs : List Value} {x : Move} {S : Blks} (h : rd m w cs x S) : cs = Move.cs x ∧ I64 x.kind ∧ I64 x.node ∧ I64 x.at_ ∧ I64 x.change.id ∧ x.change.name.size ≤ maxLen ∧ x.change.value.size ≤ maxLen := by
  have h0 : rd m w cs x.tup S := h
  obtain ⟨c1, rfl, f3, h2⟩ := open_int2 h0
  obtain ⟨c4, rfl, f6, h5⟩ := open_int2 h2
  obtain ⟨c7, rfl, f9, h8⟩ := open_int2 h5
  obtain ⟨rfl, f10, f11, f12⟩ := Change.open h8
  exact ⟨rfl, f3, f6, f9, f10, f11, f12⟩
theorem Move.mk' {m : Bool} {w : World} {x : Move} {S : Blks} (f0 : I64 x.kind) (f1 : I64 x.node) (f2 : I64 x.at_) (f3 : I64 x.change.id) (f4 : x.change.name.size ≤ maxLen) (f5 : x.change.value.size ≤ maxLen) : rd m w (Move.cs x) x S :=
  Lay.mono (show rd m w (Move.cs x) x.tup (fun _ => False) from (mk_int2 f0 (mk_int2 f1 (mk_int2 f2 (Change.mk' f3 f4 f5))))) (sub_none _)
def Move.sz (x : Move) : Nat := x.change.sz
def Move.cn (x : Move) : Nat := 1 + 1 + 1 + 1 + 1 + 1
def Move.me (x : Move) (k : Nat) : Move := (⟨((k : Nat) : Int), ((k + 1 : Nat) : Int), ((k + 1 + 1 : Nat) : Int), (⟨((k + 1 + 1 + 1 : Nat) : Int), mtext (k + 1 + 1 + 1 + 1), mtext (k + 1 + 1 + 1 + 1 + 1)⟩ : Change)⟩ : Move)
def Move.ct (x : Move) : Nat := 0
def Move.mt (x : Move) (k : Nat) : Move := (⟨x.kind, x.node, x.at_, (⟨x.change.id, x.change.name, x.change.value⟩ : Change)⟩ : Move)
def Move.zero : Move := (⟨0, 0, 0, (⟨0, ByteArray.empty, ByteArray.empty⟩ : Change)⟩ : Move)
instance mkMove : Mk Move where
  sz := Move.sz
  cn := Move.cn
  me := Move.me
  z := Move.zero
  zc := Move.cs Move.zero
  zrd _ _ := Move.mk' I64_zero I64_zero I64_zero I64_zero empty_le empty_le

structure Event where
  kind : Int
  house : Int
  at_ : Int
  move : Move
  text : ByteArray
abbrev Event.tup (x : Event) : Int × Int × Int × Move × ByteArray := (x.kind, x.house, x.at_, x.move, x.text)
instance instEvent : Lay Event := layVia 68 Event.tup
instance slEvent : SlTy Event := ⟨0⟩
def Event.cs (x : Event) : List Value := [.int .i64 x.kind, .int .i64 x.house, .int .i64 x.at_, .int .i64 x.move.kind, .int .i64 x.move.node, .int .i64 x.move.at_, .int .i64 x.move.change.id, .string x.move.change.name, .string x.move.change.value, .string x.text]
theorem Event.open {m : Bool} {w : World} {cs : List Value} {x : Event} {S : Blks} (h : rd m w cs x S) : cs = Event.cs x ∧ I64 x.kind ∧ I64 x.house ∧ I64 x.at_ ∧ I64 x.move.kind ∧ I64 x.move.node ∧ I64 x.move.at_ ∧ I64 x.move.change.id ∧ x.move.change.name.size ≤ maxLen ∧ x.move.change.value.size ≤ maxLen ∧ x.text.size ≤ maxLen := by
  have h0 : rd m w cs x.tup S := h
  obtain ⟨c1, rfl, f3, h2⟩ := open_int2 h0
  obtain ⟨c4, rfl, f6, h5⟩ := open_int2 h2
  obtain ⟨c7, rfl, f9, h8⟩ := open_int2 h5
  obtain ⟨c10, c11, P12, R13, rfl, s14, s15, d16, h17, h18⟩ := open_two h8
  obtain ⟨rfl, f19, f20, f21, f22, f23, f24⟩ := Move.open h17
  obtain ⟨rfl, f25⟩ := open_str h18
  exact ⟨rfl, f3, f6, f9, f19, f20, f21, f22, f23, f24, f25⟩
theorem Event.mk' {m : Bool} {w : World} {x : Event} {S : Blks} (f0 : I64 x.kind) (f1 : I64 x.house) (f2 : I64 x.at_) (f3 : I64 x.move.kind) (f4 : I64 x.move.node) (f5 : I64 x.move.at_) (f6 : I64 x.move.change.id) (f7 : x.move.change.name.size ≤ maxLen) (f8 : x.move.change.value.size ≤ maxLen) (f9 : x.text.size ≤ maxLen) : rd m w (Event.cs x) x S :=
  Lay.mono (show rd m w (Event.cs x) x.tup (fun _ => False) from (mk_int2 f0 (mk_int2 f1 (mk_int2 f2 ⟨Move.cs x.move, _, (fun _ => False), (fun _ => False), rfl, (sub_none _), (sub_none _), (fun hm => fun _ _ x => x), (Move.mk' f3 f4 f5 f6 f7 f8), ⟨rfl, f9⟩⟩)))) (sub_none _)
def Event.sz (x : Event) : Nat := x.move.sz + x.text.size
def Event.cn (x : Event) : Nat := 1 + 1 + 1 + 1 + 1 + 1 + 1 + 1 + 1 + 1
def Event.me (x : Event) (k : Nat) : Event := (⟨((k : Nat) : Int), ((k + 1 : Nat) : Int), ((k + 1 + 1 : Nat) : Int), (⟨((k + 1 + 1 + 1 : Nat) : Int), ((k + 1 + 1 + 1 + 1 : Nat) : Int), ((k + 1 + 1 + 1 + 1 + 1 : Nat) : Int), (⟨((k + 1 + 1 + 1 + 1 + 1 + 1 : Nat) : Int), mtext (k + 1 + 1 + 1 + 1 + 1 + 1 + 1), mtext (k + 1 + 1 + 1 + 1 + 1 + 1 + 1 + 1)⟩ : Change)⟩ : Move), mtext (k + 1 + 1 + 1 + 1 + 1 + 1 + 1 + 1 + 1)⟩ : Event)
def Event.ct (x : Event) : Nat := 0
def Event.mt (x : Event) (k : Nat) : Event := (⟨x.kind, x.house, x.at_, (⟨x.move.kind, x.move.node, x.move.at_, (⟨x.move.change.id, x.move.change.name, x.move.change.value⟩ : Change)⟩ : Move), x.text⟩ : Event)
def Event.zero : Event := (⟨0, 0, 0, (⟨0, 0, 0, (⟨0, ByteArray.empty, ByteArray.empty⟩ : Change)⟩ : Move), ByteArray.empty⟩ : Event)
instance mkEvent : Mk Event where
  sz := Event.sz
  cn := Event.cn
  me := Event.me
  z := Event.zero
  zc := Event.cs Event.zero
  zrd _ _ := Event.mk' I64_zero I64_zero I64_zero I64_zero I64_zero I64_zero I64_zero empty_le empty_le empty_le

structure Client where
  house : Int
  seen : List Head
abbrev Client.tup (x : Client) : Int × (List Head) := (x.house, x.seen)
instance instClient : Lay Client := layVia 40 Client.tup
instance slClient : SlTy Client := ⟨0⟩
def Client.cs (x : Client) (A0 : Option Addr) (k0 : Nat) : List Value := [.int .i64 x.house, .slice A0 x.seen.length k0]
theorem Client.open {m : Bool} {w : World} {cs : List Value} {x : Client} {S : Blks} (h : rd m w cs x S) : ∃ A0 k0 S0, cs = Client.cs x A0 k0 ∧ I64 x.house ∧ x.seen.length ≤ k0 ∧ k0 ≤ maxLen ∧ Row m w A0 k0 x.seen S0 ∧ sub S0 S := by
  have h0 : rd m w cs x.tup S := h
  obtain ⟨c1, rfl, f3, h2⟩ := open_int2 h0
  obtain ⟨A0, k0, rfl, g4, g5, g6⟩ := open_list h2
  exact ⟨A0, k0, _, rfl, f3, g4, g5, g6, (sub_refl _)⟩
theorem Client.mk' {m : Bool} {w : World} {x : Client} {S : Blks} (f0 : I64 x.house) {A0 : Option Addr} {k0 : Nat} {S0 : Blks} (a0 : x.seen.length ≤ k0) (b0 : k0 ≤ maxLen) (r0 : Row m w A0 k0 x.seen S0) (s0 : sub S0 S) : rd m w (Client.cs x A0 k0) x S :=
  Lay.mono (show rd m w (Client.cs x A0 k0) x.tup S0 from (mk_int2 f0 ⟨_, _, rfl, a0, b0, r0⟩)) (s0)
def Client.sz (x : Client) : Nat := szL x.seen
def Client.cn (x : Client) : Nat := 1 + cnL x.seen
def Client.me (x : Client) (k : Nat) : Client := (⟨((k : Nat) : Int), meL x.seen (k + 1)⟩ : Client)
def Client.ct (x : Client) : Nat := cnL x.seen
def Client.mt (x : Client) (k : Nat) : Client := (⟨x.house, meL x.seen (k)⟩ : Client)
def Client.zero : Client := (⟨0, []⟩ : Client)
instance mkClient : Mk Client where
  sz := Client.sz
  cn := Client.cn
  me := Client.me
  z := Client.zero
  zc := Client.cs Client.zero none 0
  zrd _ _ := Client.mk' I64_zero (Nat.le_refl 0) (Nat.zero_le _) (Row.nil _ _) (sub_refl _)

end Go.Proofs.Yticdcndpbnbkhaa
