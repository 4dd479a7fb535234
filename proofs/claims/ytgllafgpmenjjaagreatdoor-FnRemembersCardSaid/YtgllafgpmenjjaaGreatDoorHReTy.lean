/- A part of the proof: what the laws need of it. -/
import Derived.Test.YtgllafgpmenjjaaGreatDoorHReMk
set_option linter.unusedVariables false
set_option linter.unusedSimpArgs false
set_option linter.unusedVariables false
set_option linter.unusedSimpArgs false
namespace Go.Proofs.YtgllafgpmenjjaaGreatDoor
open Go.RowKit Lay Mk
instance slInt : SlTy Int := ⟨86⟩
instance slBool : SlTy Bool := ⟨0⟩
instance slStr : SlTy ByteArray := ⟨25⟩
theorem I64_zero : I64 0 := by unfold I64; omega
theorem empty_le : ByteArray.empty.size ≤ maxLen := by decide
theorem Row.nil {α : Type} [Lay α] (m : Bool) (w : World) {S : Blks} : Row (α := α) m w none 0 [] S := by cases m; exact fun h => absurd rfl h; exact .inl ⟨rfl, rfl, rfl⟩
def un (A B : Blks) : Blks := fun b => A b ∨ B b
theorem un_left (A B : Blks) : sub A (un A B) := fun _ h => .inl h
theorem un_right (A B : Blks) : sub B (un A B) := fun _ h => .inr h
theorem un_sub {A B S : Blks} (h : sub A S) (k : sub B S) : sub (un A B) S := fun b x => x.elim (h b) (k b)
theorem sub_none (S : Blks) : sub (fun _ => False) S := fun _ x => x.elim
theorem disj_none (S : Blks) : disj S (fun _ => False) := fun _ _ x => x
theorem disj_un {A B C : Blks} (h : disj A B) (k : disj A C) : disj A (un B C) := fun b x y => y.elim (h b x) (k b x)
theorem un_disj {A B C : Blks} (h : disj A C) (k : disj B C) : disj (un A B) C := fun b x y => x.elim (fun z => h b z y) (fun z => k b z y)
theorem pwget2_0_1 {S0 S1 : Blks} (h : List.Pairwise disj [S0, S1]) : disj S0 S1 := (List.pairwise_iff_getElem.1 h 0 1 (by simp) (by simp) (by omega))
theorem pwmk2 {S0 S1 : Blks} (h0_1 : disj S0 S1) : List.Pairwise disj [S0, S1] := by
  simp only [List.pairwise_cons, List.mem_cons, List.not_mem_nil, or_false, forall_eq_or_imp, forall_eq, List.Pairwise.nil, and_true, false_implies, implies_true]
  exact h0_1
theorem pwget3_0_1 {S0 S1 S2 : Blks} (h : List.Pairwise disj [S0, S1, S2]) : disj S0 S1 := (List.pairwise_iff_getElem.1 h 0 1 (by simp) (by simp) (by omega))
theorem pwget3_0_2 {S0 S1 S2 : Blks} (h : List.Pairwise disj [S0, S1, S2]) : disj S0 S2 := (List.pairwise_iff_getElem.1 h 0 2 (by simp) (by simp) (by omega))
theorem pwget3_1_2 {S0 S1 S2 : Blks} (h : List.Pairwise disj [S0, S1, S2]) : disj S1 S2 := (List.pairwise_iff_getElem.1 h 1 2 (by simp) (by simp) (by omega))
theorem pwmk3 {S0 S1 S2 : Blks} (h0_1 : disj S0 S1) (h0_2 : disj S0 S2) (h1_2 : disj S1 S2) : List.Pairwise disj [S0, S1, S2] := by
  simp only [List.pairwise_cons, List.mem_cons, List.not_mem_nil, or_false, forall_eq_or_imp, forall_eq, List.Pairwise.nil, and_true, false_implies, implies_true]
  exact ⟨⟨h0_1, h0_2⟩, h1_2⟩
theorem pwget7_0_1 {S0 S1 S2 S3 S4 S5 S6 : Blks} (h : List.Pairwise disj [S0, S1, S2, S3, S4, S5, S6]) : disj S0 S1 := (List.pairwise_iff_getElem.1 h 0 1 (by simp) (by simp) (by omega))
theorem pwget7_0_2 {S0 S1 S2 S3 S4 S5 S6 : Blks} (h : List.Pairwise disj [S0, S1, S2, S3, S4, S5, S6]) : disj S0 S2 := (List.pairwise_iff_getElem.1 h 0 2 (by simp) (by simp) (by omega))
theorem pwget7_0_3 {S0 S1 S2 S3 S4 S5 S6 : Blks} (h : List.Pairwise disj [S0, S1, S2, S3, S4, S5, S6]) : disj S0 S3 := (List.pairwise_iff_getElem.1 h 0 3 (by simp) (by simp) (by omega))
theorem pwget7_0_4 {S0 S1 S2 S3 S4 S5 S6 : Blks} (h : List.Pairwise disj [S0, S1, S2, S3, S4, S5, S6]) : disj S0 S4 := (List.pairwise_iff_getElem.1 h 0 4 (by simp) (by simp) (by omega))
theorem pwget7_0_5 {S0 S1 S2 S3 S4 S5 S6 : Blks} (h : List.Pairwise disj [S0, S1, S2, S3, S4, S5, S6]) : disj S0 S5 := (List.pairwise_iff_getElem.1 h 0 5 (by simp) (by simp) (by omega))
theorem pwget7_0_6 {S0 S1 S2 S3 S4 S5 S6 : Blks} (h : List.Pairwise disj [S0, S1, S2, S3, S4, S5, S6]) : disj S0 S6 := (List.pairwise_iff_getElem.1 h 0 6 (by simp) (by simp) (by omega))
theorem pwget7_1_2 {S0 S1 S2 S3 S4 S5 S6 : Blks} (h : List.Pairwise disj [S0, S1, S2, S3, S4, S5, S6]) : disj S1 S2 := (List.pairwise_iff_getElem.1 h 1 2 (by simp) (by simp) (by omega))
theorem pwget7_1_3 {S0 S1 S2 S3 S4 S5 S6 : Blks} (h : List.Pairwise disj [S0, S1, S2, S3, S4, S5, S6]) : disj S1 S3 := (List.pairwise_iff_getElem.1 h 1 3 (by simp) (by simp) (by omega))
theorem pwget7_1_4 {S0 S1 S2 S3 S4 S5 S6 : Blks} (h : List.Pairwise disj [S0, S1, S2, S3, S4, S5, S6]) : disj S1 S4 := (List.pairwise_iff_getElem.1 h 1 4 (by simp) (by simp) (by omega))
theorem pwget7_1_5 {S0 S1 S2 S3 S4 S5 S6 : Blks} (h : List.Pairwise disj [S0, S1, S2, S3, S4, S5, S6]) : disj S1 S5 := (List.pairwise_iff_getElem.1 h 1 5 (by simp) (by simp) (by omega))
theorem pwget7_1_6 {S0 S1 S2 S3 S4 S5 S6 : Blks} (h : List.Pairwise disj [S0, S1, S2, S3, S4, S5, S6]) : disj S1 S6 := (List.pairwise_iff_getElem.1 h 1 6 (by simp) (by simp) (by omega))
theorem pwget7_2_3 {S0 S1 S2 S3 S4 S5 S6 : Blks} (h : List.Pairwise disj [S0, S1, S2, S3, S4, S5, S6]) : disj S2 S3 := (List.pairwise_iff_getElem.1 h 2 3 (by simp) (by simp) (by omega))
theorem pwget7_2_4 {S0 S1 S2 S3 S4 S5 S6 : Blks} (h : List.Pairwise disj [S0, S1, S2, S3, S4, S5, S6]) : disj S2 S4 := (List.pairwise_iff_getElem.1 h 2 4 (by simp) (by simp) (by omega))
theorem pwget7_2_5 {S0 S1 S2 S3 S4 S5 S6 : Blks} (h : List.Pairwise disj [S0, S1, S2, S3, S4, S5, S6]) : disj S2 S5 := (List.pairwise_iff_getElem.1 h 2 5 (by simp) (by simp) (by omega))
theorem pwget7_2_6 {S0 S1 S2 S3 S4 S5 S6 : Blks} (h : List.Pairwise disj [S0, S1, S2, S3, S4, S5, S6]) : disj S2 S6 := (List.pairwise_iff_getElem.1 h 2 6 (by simp) (by simp) (by omega))
theorem pwget7_3_4 {S0 S1 S2 S3 S4 S5 S6 : Blks} (h : List.Pairwise disj [S0, S1, S2, S3, S4, S5, S6]) : disj S3 S4 := (List.pairwise_iff_getElem.1 h 3 4 (by simp) (by simp) (by omega))
theorem pwget7_3_5 {S0 S1 S2 S3 S4 S5 S6 : Blks} (h : List.Pairwise disj [S0, S1, S2, S3, S4, S5, S6]) : disj S3 S5 := (List.pairwise_iff_getElem.1 h 3 5 (by simp) (by simp) (by omega))
theorem pwget7_3_6 {S0 S1 S2 S3 S4 S5 S6 : Blks} (h : List.Pairwise disj [S0, S1, S2, S3, S4, S5, S6]) : disj S3 S6 := (List.pairwise_iff_getElem.1 h 3 6 (by simp) (by simp) (by omega))
theorem pwget7_4_5 {S0 S1 S2 S3 S4 S5 S6 : Blks} (h : List.Pairwise disj [S0, S1, S2, S3, S4, S5, S6]) : disj S4 S5 := (List.pairwise_iff_getElem.1 h 4 5 (by simp) (by simp) (by omega))
theorem pwget7_4_6 {S0 S1 S2 S3 S4 S5 S6 : Blks} (h : List.Pairwise disj [S0, S1, S2, S3, S4, S5, S6]) : disj S4 S6 := (List.pairwise_iff_getElem.1 h 4 6 (by simp) (by simp) (by omega))
theorem pwget7_5_6 {S0 S1 S2 S3 S4 S5 S6 : Blks} (h : List.Pairwise disj [S0, S1, S2, S3, S4, S5, S6]) : disj S5 S6 := (List.pairwise_iff_getElem.1 h 5 6 (by simp) (by simp) (by omega))
theorem pwmk7 {S0 S1 S2 S3 S4 S5 S6 : Blks} (h0_1 : disj S0 S1) (h0_2 : disj S0 S2) (h0_3 : disj S0 S3) (h0_4 : disj S0 S4) (h0_5 : disj S0 S5) (h0_6 : disj S0 S6) (h1_2 : disj S1 S2) (h1_3 : disj S1 S3) (h1_4 : disj S1 S4) (h1_5 : disj S1 S5) (h1_6 : disj S1 S6) (h2_3 : disj S2 S3) (h2_4 : disj S2 S4) (h2_5 : disj S2 S5) (h2_6 : disj S2 S6) (h3_4 : disj S3 S4) (h3_5 : disj S3 S5) (h3_6 : disj S3 S6) (h4_5 : disj S4 S5) (h4_6 : disj S4 S6) (h5_6 : disj S5 S6) : List.Pairwise disj [S0, S1, S2, S3, S4, S5, S6] := by
  simp only [List.pairwise_cons, List.mem_cons, List.not_mem_nil, or_false, forall_eq_or_imp, forall_eq, List.Pairwise.nil, and_true, false_implies, implies_true]
  exact ⟨⟨h0_1, h0_2, h0_3, h0_4, h0_5, h0_6⟩, ⟨h1_2, h1_3, h1_4, h1_5, h1_6⟩, ⟨h2_3, h2_4, h2_5, h2_6⟩, ⟨h3_4, h3_5, h3_6⟩, ⟨h4_5, h4_6⟩, h5_6⟩
structure Head where
  house : Int
  epoch : Int
  root : ByteArray
  prev : ByteArray
abbrev Head.tup (x : Head) : Int × Int × ByteArray × ByteArray := (x.house, x.epoch, x.root, x.prev)
instance instHead : Lay Head := layVia 58 Head.tup
instance slHead : SlTy Head := ⟨45⟩
def Head.cs (x : Head) : List Value := [.int .i64 x.house, .int .i64 x.epoch, .string x.root, .string x.prev]
theorem Head.open {m : Bool} {w : World} {cs : List Value} {x : Head} {S : Blks} (h : rd m w cs x S) : cs = Head.cs x ∧ I64 x.house ∧ I64 x.epoch ∧ x.root.size ≤ maxLen ∧ x.prev.size ≤ maxLen := by
  have h0 : rd m w cs x.tup S := h
  obtain ⟨c1, rfl, f3, h2⟩ := open_int2 h0
  obtain ⟨c4, rfl, f6, h5⟩ := open_int2 h2
  obtain ⟨c7, rfl, f9, h8⟩ := open_str2 h5
  obtain ⟨rfl, f10⟩ := open_str h8
  exact ⟨rfl, f3, f6, f9, f10⟩
theorem Head.mk' {m : Bool} {w : World} {x : Head} {S : Blks} (f0 : I64 x.house) (f1 : I64 x.epoch) (f2 : x.root.size ≤ maxLen) (f3 : x.prev.size ≤ maxLen) : rd m w (Head.cs x) x S :=
  Lay.mono (show rd m w (Head.cs x) x.tup (fun _ => False) from (mk_int2 f0 (mk_int2 f1 (mk_str2 f2 ⟨rfl, f3⟩)))) (sub_none _)
def Head.sz (x : Head) : Nat := x.root.size + x.prev.size
def Head.cn (_x : Head) : Nat := 1 + 1 + 1 + 1
def Head.me (_x : Head) (k : Nat) : Head := (⟨((k : Nat) : Int), ((k + 1 : Nat) : Int), mtext (k + 1 + 1), mtext (k + 1 + 1 + 1)⟩ : Head)
def Head.ct (_x : Head) : Nat := 0
def Head.zero : Head := (⟨0, 0, ByteArray.empty, ByteArray.empty⟩ : Head)
instance mkHead : Mk Head where
  sz := Head.sz
  cn := Head.cn
  me := Head.me
  z := Head.zero
  zc := Head.cs Head.zero
  zrd _ _ := Head.mk' I64_zero I64_zero empty_le empty_le

structure Sig where
  at_ : Int
  open_ : List ByteArray
  shut : List ByteArray
  sides : List ByteArray
abbrev Sig.tup (x : Sig) : Int × (List ByteArray) × (List ByteArray) × (List ByteArray) := (x.at_, x.open_, x.shut, x.sides)
instance instSig : Lay Sig := layVia 59 Sig.tup
instance slSig : SlTy Sig := ⟨0⟩
def Sig.cs (x : Sig) (A0 : Option Addr) (k0 : Nat) (A1 : Option Addr) (k1 : Nat) (A2 : Option Addr) (k2 : Nat) : List Value := [.int .i64 x.at_, .slice A0 x.open_.length k0, .slice A1 x.shut.length k1, .slice A2 x.sides.length k2]
theorem Sig.open {m : Bool} {w : World} {cs : List Value} {x : Sig} {S : Blks} (h : rd m w cs x S) : ∃ A0 k0 S0 A1 k1 S1 A2 k2 S2, cs = Sig.cs x A0 k0 A1 k1 A2 k2 ∧ I64 x.at_ ∧ x.open_.length ≤ k0 ∧ k0 ≤ maxLen ∧ Row m w A0 k0 x.open_ S0 ∧ sub S0 S ∧ x.shut.length ≤ k1 ∧ k1 ≤ maxLen ∧ Row m w A1 k1 x.shut S1 ∧ sub S1 S ∧ x.sides.length ≤ k2 ∧ k2 ≤ maxLen ∧ Row m w A2 k2 x.sides S2 ∧ sub S2 S ∧ (m = true → List.Pairwise disj [S0, S1, S2]) := by
  have h0 : rd m w cs x.tup S := h
  obtain ⟨c1, rfl, f3, h2⟩ := open_int2 h0
  obtain ⟨A0, k0, c7, S0, R8, rfl, g4, g5, g6, s9, s10, d11, h12⟩ := open_list2 h2
  obtain ⟨A1, k1, c16, S1, R17, rfl, g13, g14, g15, s18, s19, d20, h21⟩ := open_list2 h12
  obtain ⟨A2, k2, rfl, g22, g23, g24⟩ := open_list h21
  exact ⟨A0, k0, S0, A1, k1, S1, A2, k2, _, rfl, f3, g4, g5, g6, s9, g13, g14, g15, (sub_trans s18 s10), g22, g23, g24, (sub_trans s19 s10), fun _hm => pwmk3 (disj_sub (d11 _hm) (sub_refl _) s18) (disj_sub (d11 _hm) (sub_refl _) s19) (disj_sub (d20 _hm) (sub_refl _) (sub_refl _))⟩
theorem Sig.mk' {m : Bool} {w : World} {x : Sig} {S : Blks} (f0 : I64 x.at_) {A0 : Option Addr} {k0 : Nat} {S0 : Blks} (a0 : x.open_.length ≤ k0) (b0 : k0 ≤ maxLen) (r0 : Row m w A0 k0 x.open_ S0) (s0 : sub S0 S) {A1 : Option Addr} {k1 : Nat} {S1 : Blks} (a1 : x.shut.length ≤ k1) (b1 : k1 ≤ maxLen) (r1 : Row m w A1 k1 x.shut S1) (s1 : sub S1 S) {A2 : Option Addr} {k2 : Nat} {S2 : Blks} (a2 : x.sides.length ≤ k2) (b2 : k2 ≤ maxLen) (r2 : Row m w A2 k2 x.sides S2) (s2 : sub S2 S) (pw : m = true → List.Pairwise disj [S0, S1, S2]) : rd m w (Sig.cs x A0 k0 A1 k1 A2 k2) x S :=
  Lay.mono (show rd m w (Sig.cs x A0 k0 A1 k1 A2 k2) x.tup (un S0 (un S1 S2)) from (mk_int2 f0 ⟨[_], _, S0, (un S1 S2), rfl, (un_left _ _), (un_sub (sub_trans (un_left _ _) (un_right _ _)) (sub_trans (sub_trans (sub_refl _) (un_right _ _)) (un_right _ _))), (fun _hm => (disj_un (pwget3_0_1 (pw _hm)) (pwget3_0_2 (pw _hm)))), ⟨_, _, rfl, a0, b0, r0⟩, ⟨[_], _, S1, S2, rfl, (un_left _ _), (sub_trans (sub_refl _) (un_right _ _)), (fun _hm => (pwget3_1_2 (pw _hm))), ⟨_, _, rfl, a1, b1, r1⟩, ⟨_, _, rfl, a2, b2, r2⟩⟩⟩)) ((un_sub s0 (un_sub s1 s2)))
def Sig.sz (x : Sig) : Nat := szL x.open_ + szL x.shut + szL x.sides
def Sig.cn (x : Sig) : Nat := 1 + cnL x.open_ + cnL x.shut + cnL x.sides
def Sig.me (x : Sig) (k : Nat) : Sig := (⟨((k : Nat) : Int), meL x.open_ (k + 1), meL x.shut (k + 1 + cnL x.open_), meL x.sides (k + 1 + cnL x.open_ + cnL x.shut)⟩ : Sig)
def Sig.ct (x : Sig) : Nat := cnL x.open_ + cnL x.shut + cnL x.sides
def Sig.zero : Sig := (⟨0, [], [], []⟩ : Sig)
instance mkSig : Mk Sig where
  sz := Sig.sz
  cn := Sig.cn
  me := Sig.me
  z := Sig.zero
  zc := Sig.cs Sig.zero none 0 none 0 none 0
  zrd _ _ := Sig.mk' I64_zero (Nat.le_refl 0) (Nat.zero_le _) (Row.nil _ _) (sub_refl _) (Nat.le_refl 0) (Nat.zero_le _) (Row.nil _ _) (sub_refl _) (Nat.le_refl 0) (Nat.zero_le _) (Row.nil _ _) (sub_refl _) (fun _ => by simp [disj])

structure Leaf where
  name : ByteArray
  value : ByteArray
abbrev Leaf.tup (x : Leaf) : ByteArray × ByteArray := (x.name, x.value)
instance instLeaf : Lay Leaf := layVia 180 Leaf.tup
instance slLeaf : SlTy Leaf := ⟨55⟩
instance slLeafS : SlTy (List Leaf) := ⟨0⟩
def Leaf.cs (x : Leaf) : List Value := [.string x.name, .string x.value]
theorem Leaf.open {m : Bool} {w : World} {cs : List Value} {x : Leaf} {S : Blks} (h : rd m w cs x S) : cs = Leaf.cs x ∧ x.name.size ≤ maxLen ∧ x.value.size ≤ maxLen := by
  have h0 : rd m w cs x.tup S := h
  obtain ⟨c1, rfl, f3, h2⟩ := open_str2 h0
  obtain ⟨rfl, f4⟩ := open_str h2
  exact ⟨rfl, f3, f4⟩
theorem Leaf.mk' {m : Bool} {w : World} {x : Leaf} {S : Blks} (f0 : x.name.size ≤ maxLen) (f1 : x.value.size ≤ maxLen) : rd m w (Leaf.cs x) x S :=
  Lay.mono (show rd m w (Leaf.cs x) x.tup (fun _ => False) from (mk_str2 f0 ⟨rfl, f1⟩)) (sub_none _)
def Leaf.sz (x : Leaf) : Nat := x.name.size + x.value.size
def Leaf.cn (_x : Leaf) : Nat := 1 + 1
def Leaf.me (_x : Leaf) (k : Nat) : Leaf := (⟨mtext (k), mtext (k + 1)⟩ : Leaf)
def Leaf.ct (_x : Leaf) : Nat := 0
def Leaf.zero : Leaf := (⟨ByteArray.empty, ByteArray.empty⟩ : Leaf)
instance mkLeaf : Mk Leaf where
  sz := Leaf.sz
  cn := Leaf.cn
  me := Leaf.me
  z := Leaf.zero
  zc := Leaf.cs Leaf.zero
  zrd _ _ := Leaf.mk' empty_le empty_le

structure Proof where
  bucket : List Leaf
  sides : List ByteArray
abbrev Proof.tup (x : Proof) : (List Leaf) × (List ByteArray) := (x.bucket, x.sides)
instance instProof : Lay Proof := layVia 57 Proof.tup
instance slProof : SlTy Proof := ⟨0⟩
def Proof.cs (x : Proof) (A0 : Option Addr) (k0 : Nat) (A1 : Option Addr) (k1 : Nat) : List Value := [.slice A0 x.bucket.length k0, .slice A1 x.sides.length k1]
theorem Proof.open {m : Bool} {w : World} {cs : List Value} {x : Proof} {S : Blks} (h : rd m w cs x S) : ∃ A0 k0 S0 A1 k1 S1, cs = Proof.cs x A0 k0 A1 k1 ∧ x.bucket.length ≤ k0 ∧ k0 ≤ maxLen ∧ Row m w A0 k0 x.bucket S0 ∧ sub S0 S ∧ x.sides.length ≤ k1 ∧ k1 ≤ maxLen ∧ Row m w A1 k1 x.sides S1 ∧ sub S1 S ∧ (m = true → List.Pairwise disj [S0, S1]) := by
  have h0 : rd m w cs x.tup S := h
  obtain ⟨A0, k0, c4, S0, R5, rfl, g1, g2, g3, s6, s7, d8, h9⟩ := open_list2 h0
  obtain ⟨A1, k1, rfl, g10, g11, g12⟩ := open_list h9
  exact ⟨A0, k0, S0, A1, k1, _, rfl, g1, g2, g3, s6, g10, g11, g12, s7, fun _hm => pwmk2 (disj_sub (d8 _hm) (sub_refl _) (sub_refl _))⟩
theorem Proof.mk' {m : Bool} {w : World} {x : Proof} {S : Blks} {A0 : Option Addr} {k0 : Nat} {S0 : Blks} (a0 : x.bucket.length ≤ k0) (b0 : k0 ≤ maxLen) (r0 : Row m w A0 k0 x.bucket S0) (s0 : sub S0 S) {A1 : Option Addr} {k1 : Nat} {S1 : Blks} (a1 : x.sides.length ≤ k1) (b1 : k1 ≤ maxLen) (r1 : Row m w A1 k1 x.sides S1) (s1 : sub S1 S) (pw : m = true → List.Pairwise disj [S0, S1]) : rd m w (Proof.cs x A0 k0 A1 k1) x S :=
  Lay.mono (show rd m w (Proof.cs x A0 k0 A1 k1) x.tup (un S0 S1) from ⟨[_], _, S0, S1, rfl, (un_left _ _), (sub_trans (sub_refl _) (un_right _ _)), (fun _hm => (pwget2_0_1 (pw _hm))), ⟨_, _, rfl, a0, b0, r0⟩, ⟨_, _, rfl, a1, b1, r1⟩⟩) ((un_sub s0 s1))
def Proof.sz (x : Proof) : Nat := szL x.bucket + szL x.sides
def Proof.cn (x : Proof) : Nat := cnL x.bucket + cnL x.sides
def Proof.me (x : Proof) (k : Nat) : Proof := (⟨meL x.bucket (k), meL x.sides (k + cnL x.bucket)⟩ : Proof)
def Proof.ct (x : Proof) : Nat := cnL x.bucket + cnL x.sides
def Proof.zero : Proof := (⟨[], []⟩ : Proof)
instance mkProof : Mk Proof where
  sz := Proof.sz
  cn := Proof.cn
  me := Proof.me
  z := Proof.zero
  zc := Proof.cs Proof.zero none 0 none 0
  zrd _ _ := Proof.mk' (Nat.le_refl 0) (Nat.zero_le _) (Row.nil _ _) (sub_refl _) (Nat.le_refl 0) (Nat.zero_le _) (Row.nil _ _) (sub_refl _) (fun _ => by simp [disj])

structure Seal where
  head : Head
  sig : Sig
abbrev Seal.tup (x : Seal) : Head × Sig := (x.head, x.sig)
instance instSeal : Lay Seal := layVia 61 Seal.tup
instance slSeal : SlTy Seal := ⟨53⟩
def Seal.cs (x : Seal) (A0 : Option Addr) (k0 : Nat) (A1 : Option Addr) (k1 : Nat) (A2 : Option Addr) (k2 : Nat) : List Value := [.int .i64 x.head.house, .int .i64 x.head.epoch, .string x.head.root, .string x.head.prev, .int .i64 x.sig.at_, .slice A0 x.sig.open_.length k0, .slice A1 x.sig.shut.length k1, .slice A2 x.sig.sides.length k2]
theorem Seal.open {m : Bool} {w : World} {cs : List Value} {x : Seal} {S : Blks} (h : rd m w cs x S) : ∃ A0 k0 S0 A1 k1 S1 A2 k2 S2, cs = Seal.cs x A0 k0 A1 k1 A2 k2 ∧ I64 x.head.house ∧ I64 x.head.epoch ∧ x.head.root.size ≤ maxLen ∧ x.head.prev.size ≤ maxLen ∧ I64 x.sig.at_ ∧ x.sig.open_.length ≤ k0 ∧ k0 ≤ maxLen ∧ Row m w A0 k0 x.sig.open_ S0 ∧ sub S0 S ∧ x.sig.shut.length ≤ k1 ∧ k1 ≤ maxLen ∧ Row m w A1 k1 x.sig.shut S1 ∧ sub S1 S ∧ x.sig.sides.length ≤ k2 ∧ k2 ≤ maxLen ∧ Row m w A2 k2 x.sig.sides S2 ∧ sub S2 S ∧ (m = true → List.Pairwise disj [S0, S1, S2]) := by
  have h0 : rd m w cs x.tup S := h
  obtain ⟨c1, c2, P3, R4, rfl, s5, s6, d7, h8, h9⟩ := open_two h0
  obtain ⟨rfl, f10, f11, f12, f13⟩ := Head.open h8
  obtain ⟨A0, k0, S0, A1, k1, S1, A2, k2, S2, rfl, f14, g15, g16, g17, s18, g19, g20, g21, s22, g23, g24, g25, s26, pw27⟩ := Sig.open h9
  exact ⟨A0, k0, S0, A1, k1, S1, A2, k2, S2, rfl, f10, f11, f12, f13, f14, g15, g16, g17, (sub_trans s18 s6), g19, g20, g21, (sub_trans s22 s6), g23, g24, g25, (sub_trans s26 s6), fun _hm => pwmk3 (pwget3_0_1 (pw27 _hm)) (pwget3_0_2 (pw27 _hm)) (pwget3_1_2 (pw27 _hm))⟩
theorem Seal.mk' {m : Bool} {w : World} {x : Seal} {S : Blks} (f0 : I64 x.head.house) (f1 : I64 x.head.epoch) (f2 : x.head.root.size ≤ maxLen) (f3 : x.head.prev.size ≤ maxLen) (f4 : I64 x.sig.at_) {A0 : Option Addr} {k0 : Nat} {S0 : Blks} (a0 : x.sig.open_.length ≤ k0) (b0 : k0 ≤ maxLen) (r0 : Row m w A0 k0 x.sig.open_ S0) (s0 : sub S0 S) {A1 : Option Addr} {k1 : Nat} {S1 : Blks} (a1 : x.sig.shut.length ≤ k1) (b1 : k1 ≤ maxLen) (r1 : Row m w A1 k1 x.sig.shut S1) (s1 : sub S1 S) {A2 : Option Addr} {k2 : Nat} {S2 : Blks} (a2 : x.sig.sides.length ≤ k2) (b2 : k2 ≤ maxLen) (r2 : Row m w A2 k2 x.sig.sides S2) (s2 : sub S2 S) (pw : m = true → List.Pairwise disj [S0, S1, S2]) : rd m w (Seal.cs x A0 k0 A1 k1 A2 k2) x S :=
  Lay.mono (show rd m w (Seal.cs x A0 k0 A1 k1 A2 k2) x.tup (un S0 (un S1 S2)) from ⟨Head.cs x.head, _, (fun _ => False), (un S0 (un S1 S2)), rfl, (sub_none _), (un_sub (un_left _ _) (un_sub (sub_trans (un_left _ _) (un_right _ _)) (sub_trans (sub_trans (sub_refl _) (un_right _ _)) (un_right _ _)))), (fun _hm => (disj_symm (disj_none _))), (Head.mk' f0 f1 f2 f3), (Sig.mk' f4 a0 b0 r0 (un_left _ _) a1 b1 r1 (sub_trans (un_left _ _) (un_right _ _)) a2 b2 r2 (sub_trans (sub_trans (sub_refl _) (un_right _ _)) (un_right _ _)) (fun _hm => pwmk3 (pwget3_0_1 (pw _hm)) (pwget3_0_2 (pw _hm)) (pwget3_1_2 (pw _hm))))⟩) ((un_sub s0 (un_sub s1 s2)))
def Seal.sz (x : Seal) : Nat := x.head.sz + x.sig.sz
def Seal.cn (x : Seal) : Nat := 1 + 1 + 1 + 1 + 1 + cnL x.sig.open_ + cnL x.sig.shut + cnL x.sig.sides
def Seal.me (x : Seal) (k : Nat) : Seal := (⟨(⟨((k : Nat) : Int), ((k + 1 : Nat) : Int), mtext (k + 1 + 1), mtext (k + 1 + 1 + 1)⟩ : Head), (⟨((k + 1 + 1 + 1 + 1 : Nat) : Int), meL x.sig.open_ (k + 1 + 1 + 1 + 1 + 1), meL x.sig.shut (k + 1 + 1 + 1 + 1 + 1 + cnL x.sig.open_), meL x.sig.sides (k + 1 + 1 + 1 + 1 + 1 + cnL x.sig.open_ + cnL x.sig.shut)⟩ : Sig)⟩ : Seal)
def Seal.ct (x : Seal) : Nat := cnL x.sig.open_ + cnL x.sig.shut + cnL x.sig.sides
def Seal.zero : Seal := (⟨(⟨0, 0, ByteArray.empty, ByteArray.empty⟩ : Head), (⟨0, [], [], []⟩ : Sig)⟩ : Seal)
instance mkSeal : Mk Seal where
  sz := Seal.sz
  cn := Seal.cn
  me := Seal.me
  z := Seal.zero
  zc := Seal.cs Seal.zero none 0 none 0 none 0
  zrd _ _ := Seal.mk' I64_zero I64_zero empty_le empty_le I64_zero (Nat.le_refl 0) (Nat.zero_le _) (Row.nil _ _) (sub_refl _) (Nat.le_refl 0) (Nat.zero_le _) (Row.nil _ _) (sub_refl _) (Nat.le_refl 0) (Nat.zero_le _) (Row.nil _ _) (sub_refl _) (fun _ => by simp [disj])

structure Trust where
  roots : List ByteArray
  k : Int
  need : Int
abbrev Trust.tup (x : Trust) : (List ByteArray) × Int × Int := (x.roots, x.k, x.need)
instance instTrust : Lay Trust := layVia 51 Trust.tup
instance slTrust : SlTy Trust := ⟨0⟩
def Trust.cs (x : Trust) (A0 : Option Addr) (k0 : Nat) : List Value := [.slice A0 x.roots.length k0, .int .i64 x.k, .int .i64 x.need]
theorem Trust.open {m : Bool} {w : World} {cs : List Value} {x : Trust} {S : Blks} (h : rd m w cs x S) : ∃ A0 k0 S0, cs = Trust.cs x A0 k0 ∧ I64 x.k ∧ I64 x.need ∧ x.roots.length ≤ k0 ∧ k0 ≤ maxLen ∧ Row m w A0 k0 x.roots S0 ∧ sub S0 S := by
  have h0 : rd m w cs x.tup S := h
  obtain ⟨A0, k0, c4, S0, R5, rfl, g1, g2, g3, s6, s7, d8, h9⟩ := open_list2 h0
  obtain ⟨c10, rfl, f12, h11⟩ := open_int2 h9
  obtain ⟨rfl, f13⟩ := open_int h11
  exact ⟨A0, k0, S0, rfl, f12, f13, g1, g2, g3, s6⟩
theorem Trust.mk' {m : Bool} {w : World} {x : Trust} {S : Blks} {A0 : Option Addr} {k0 : Nat} {S0 : Blks} (a0 : x.roots.length ≤ k0) (b0 : k0 ≤ maxLen) (r0 : Row m w A0 k0 x.roots S0) (s0 : sub S0 S) (f1 : I64 x.k) (f2 : I64 x.need) : rd m w (Trust.cs x A0 k0) x S :=
  Lay.mono (show rd m w (Trust.cs x A0 k0) x.tup S0 from ⟨[_], _, S0, (fun _ => False), rfl, (sub_refl _), (sub_none _), (fun _hm => disj_none _), ⟨_, _, rfl, a0, b0, r0⟩, (mk_int2 f1 ⟨rfl, f2⟩)⟩) (s0)
def Trust.sz (x : Trust) : Nat := szL x.roots
def Trust.cn (x : Trust) : Nat := cnL x.roots + 1 + 1
def Trust.me (x : Trust) (k : Nat) : Trust := (⟨meL x.roots (k), ((k + cnL x.roots : Nat) : Int), ((k + cnL x.roots + 1 : Nat) : Int)⟩ : Trust)
def Trust.ct (x : Trust) : Nat := cnL x.roots
def Trust.zero : Trust := (⟨[], 0, 0⟩ : Trust)
instance mkTrust : Mk Trust where
  sz := Trust.sz
  cn := Trust.cn
  me := Trust.me
  z := Trust.zero
  zc := Trust.cs Trust.zero none 0
  zrd _ _ := Trust.mk' (Nat.le_refl 0) (Nat.zero_le _) (Row.nil _ _) (sub_refl _) I64_zero I64_zero

structure Stamp where
  by_ : Int
  sig : Sig
abbrev Stamp.tup (x : Stamp) : Int × Sig := (x.by_, x.sig)
instance instStamp : Lay Stamp := layVia 143 Stamp.tup
instance slStamp : SlTy Stamp := ⟨62⟩
def Stamp.cs (x : Stamp) (A0 : Option Addr) (k0 : Nat) (A1 : Option Addr) (k1 : Nat) (A2 : Option Addr) (k2 : Nat) : List Value := [.int .i64 x.by_, .int .i64 x.sig.at_, .slice A0 x.sig.open_.length k0, .slice A1 x.sig.shut.length k1, .slice A2 x.sig.sides.length k2]
theorem Stamp.open {m : Bool} {w : World} {cs : List Value} {x : Stamp} {S : Blks} (h : rd m w cs x S) : ∃ A0 k0 S0 A1 k1 S1 A2 k2 S2, cs = Stamp.cs x A0 k0 A1 k1 A2 k2 ∧ I64 x.by_ ∧ I64 x.sig.at_ ∧ x.sig.open_.length ≤ k0 ∧ k0 ≤ maxLen ∧ Row m w A0 k0 x.sig.open_ S0 ∧ sub S0 S ∧ x.sig.shut.length ≤ k1 ∧ k1 ≤ maxLen ∧ Row m w A1 k1 x.sig.shut S1 ∧ sub S1 S ∧ x.sig.sides.length ≤ k2 ∧ k2 ≤ maxLen ∧ Row m w A2 k2 x.sig.sides S2 ∧ sub S2 S ∧ (m = true → List.Pairwise disj [S0, S1, S2]) := by
  have h0 : rd m w cs x.tup S := h
  obtain ⟨c1, rfl, f3, h2⟩ := open_int2 h0
  obtain ⟨A0, k0, S0, A1, k1, S1, A2, k2, S2, rfl, f4, g5, g6, g7, s8, g9, g10, g11, s12, g13, g14, g15, s16, pw17⟩ := Sig.open h2
  exact ⟨A0, k0, S0, A1, k1, S1, A2, k2, S2, rfl, f3, f4, g5, g6, g7, s8, g9, g10, g11, s12, g13, g14, g15, s16, fun _hm => pwmk3 (pwget3_0_1 (pw17 _hm)) (pwget3_0_2 (pw17 _hm)) (pwget3_1_2 (pw17 _hm))⟩
theorem Stamp.mk' {m : Bool} {w : World} {x : Stamp} {S : Blks} (f0 : I64 x.by_) (f1 : I64 x.sig.at_) {A0 : Option Addr} {k0 : Nat} {S0 : Blks} (a0 : x.sig.open_.length ≤ k0) (b0 : k0 ≤ maxLen) (r0 : Row m w A0 k0 x.sig.open_ S0) (s0 : sub S0 S) {A1 : Option Addr} {k1 : Nat} {S1 : Blks} (a1 : x.sig.shut.length ≤ k1) (b1 : k1 ≤ maxLen) (r1 : Row m w A1 k1 x.sig.shut S1) (s1 : sub S1 S) {A2 : Option Addr} {k2 : Nat} {S2 : Blks} (a2 : x.sig.sides.length ≤ k2) (b2 : k2 ≤ maxLen) (r2 : Row m w A2 k2 x.sig.sides S2) (s2 : sub S2 S) (pw : m = true → List.Pairwise disj [S0, S1, S2]) : rd m w (Stamp.cs x A0 k0 A1 k1 A2 k2) x S :=
  Lay.mono (show rd m w (Stamp.cs x A0 k0 A1 k1 A2 k2) x.tup (un S0 (un S1 S2)) from (mk_int2 f0 (Sig.mk' f1 a0 b0 r0 (un_left _ _) a1 b1 r1 (sub_trans (un_left _ _) (un_right _ _)) a2 b2 r2 (sub_trans (sub_trans (sub_refl _) (un_right _ _)) (un_right _ _)) (fun _hm => pwmk3 (pwget3_0_1 (pw _hm)) (pwget3_0_2 (pw _hm)) (pwget3_1_2 (pw _hm)))))) ((un_sub s0 (un_sub s1 s2)))
def Stamp.sz (x : Stamp) : Nat := x.sig.sz
def Stamp.cn (x : Stamp) : Nat := 1 + 1 + cnL x.sig.open_ + cnL x.sig.shut + cnL x.sig.sides
def Stamp.me (x : Stamp) (k : Nat) : Stamp := (⟨((k : Nat) : Int), (⟨((k + 1 : Nat) : Int), meL x.sig.open_ (k + 1 + 1), meL x.sig.shut (k + 1 + 1 + cnL x.sig.open_), meL x.sig.sides (k + 1 + 1 + cnL x.sig.open_ + cnL x.sig.shut)⟩ : Sig)⟩ : Stamp)
def Stamp.ct (x : Stamp) : Nat := cnL x.sig.open_ + cnL x.sig.shut + cnL x.sig.sides
def Stamp.zero : Stamp := (⟨0, (⟨0, [], [], []⟩ : Sig)⟩ : Stamp)
instance mkStamp : Mk Stamp where
  sz := Stamp.sz
  cn := Stamp.cn
  me := Stamp.me
  z := Stamp.zero
  zc := Stamp.cs Stamp.zero none 0 none 0 none 0
  zrd _ _ := Stamp.mk' I64_zero I64_zero (Nat.le_refl 0) (Nat.zero_le _) (Row.nil _ _) (sub_refl _) (Nat.le_refl 0) (Nat.zero_le _) (Row.nil _ _) (sub_refl _) (Nat.le_refl 0) (Nat.zero_le _) (Row.nil _ _) (sub_refl _) (fun _ => by simp [disj])

structure Whole where
  proof : Proof
  tops : List ByteArray
  seal_ : Seal
  stamps : List Stamp
abbrev Whole.tup (x : Whole) : Proof × (List ByteArray) × Seal × (List Stamp) := (x.proof, x.tops, x.seal_, x.stamps)
instance instWhole : Lay Whole := layVia 64 Whole.tup
instance slWhole : SlTy Whole := ⟨77⟩
def Whole.cs (x : Whole) (A0 : Option Addr) (k0 : Nat) (A1 : Option Addr) (k1 : Nat) (A2 : Option Addr) (k2 : Nat) (A3 : Option Addr) (k3 : Nat) (A4 : Option Addr) (k4 : Nat) (A5 : Option Addr) (k5 : Nat) (A6 : Option Addr) (k6 : Nat) : List Value := [.slice A0 x.proof.bucket.length k0, .slice A1 x.proof.sides.length k1, .slice A2 x.tops.length k2, .int .i64 x.seal_.head.house, .int .i64 x.seal_.head.epoch, .string x.seal_.head.root, .string x.seal_.head.prev, .int .i64 x.seal_.sig.at_, .slice A3 x.seal_.sig.open_.length k3, .slice A4 x.seal_.sig.shut.length k4, .slice A5 x.seal_.sig.sides.length k5, .slice A6 x.stamps.length k6]
theorem Whole.open {m : Bool} {w : World} {cs : List Value} {x : Whole} {S : Blks} (h : rd m w cs x S) : ∃ A0 k0 S0 A1 k1 S1 A2 k2 S2 A3 k3 S3 A4 k4 S4 A5 k5 S5 A6 k6 S6, cs = Whole.cs x A0 k0 A1 k1 A2 k2 A3 k3 A4 k4 A5 k5 A6 k6 ∧ I64 x.seal_.head.house ∧ I64 x.seal_.head.epoch ∧ x.seal_.head.root.size ≤ maxLen ∧ x.seal_.head.prev.size ≤ maxLen ∧ I64 x.seal_.sig.at_ ∧ x.proof.bucket.length ≤ k0 ∧ k0 ≤ maxLen ∧ Row m w A0 k0 x.proof.bucket S0 ∧ sub S0 S ∧ x.proof.sides.length ≤ k1 ∧ k1 ≤ maxLen ∧ Row m w A1 k1 x.proof.sides S1 ∧ sub S1 S ∧ x.tops.length ≤ k2 ∧ k2 ≤ maxLen ∧ Row m w A2 k2 x.tops S2 ∧ sub S2 S ∧ x.seal_.sig.open_.length ≤ k3 ∧ k3 ≤ maxLen ∧ Row m w A3 k3 x.seal_.sig.open_ S3 ∧ sub S3 S ∧ x.seal_.sig.shut.length ≤ k4 ∧ k4 ≤ maxLen ∧ Row m w A4 k4 x.seal_.sig.shut S4 ∧ sub S4 S ∧ x.seal_.sig.sides.length ≤ k5 ∧ k5 ≤ maxLen ∧ Row m w A5 k5 x.seal_.sig.sides S5 ∧ sub S5 S ∧ x.stamps.length ≤ k6 ∧ k6 ≤ maxLen ∧ Row m w A6 k6 x.stamps S6 ∧ sub S6 S ∧ (m = true → List.Pairwise disj [S0, S1, S2, S3, S4, S5, S6]) := by
  have h0 : rd m w cs x.tup S := h
  obtain ⟨c1, c2, P3, R4, rfl, s5, s6, d7, h8, h9⟩ := open_two h0
  obtain ⟨A0, k0, S0, A1, k1, S1, rfl, g10, g11, g12, s13, g14, g15, g16, s17, pw18⟩ := Proof.open h8
  obtain ⟨A2, k2, c22, S2, R23, rfl, g19, g20, g21, s24, s25, d26, h27⟩ := open_list2 h9
  obtain ⟨c28, c29, P30, R31, rfl, s32, s33, d34, h35, h36⟩ := open_two h27
  obtain ⟨A3, k3, S3, A4, k4, S4, A5, k5, S5, rfl, f37, f38, f39, f40, f41, g42, g43, g44, s45, g46, g47, g48, s49, g50, g51, g52, s53, pw54⟩ := Seal.open h35
  obtain ⟨A6, k6, rfl, g55, g56, g57⟩ := open_list h36
  exact ⟨A0, k0, S0, A1, k1, S1, A2, k2, S2, A3, k3, S3, A4, k4, S4, A5, k5, S5, A6, k6, _, rfl, f37, f38, f39, f40, f41, g10, g11, g12, (sub_trans s13 s5), g14, g15, g16, (sub_trans s17 s5), g19, g20, g21, (sub_trans s24 s6), g42, g43, g44, (sub_trans (sub_trans (sub_trans s45 s32) s25) s6), g46, g47, g48, (sub_trans (sub_trans (sub_trans s49 s32) s25) s6), g50, g51, g52, (sub_trans (sub_trans (sub_trans s53 s32) s25) s6), g55, g56, g57, (sub_trans (sub_trans s33 s25) s6), fun _hm => pwmk7 (pwget2_0_1 (pw18 _hm)) (disj_sub (d7 _hm) s13 s24) (disj_sub (d7 _hm) s13 (sub_trans (sub_trans s45 s32) s25)) (disj_sub (d7 _hm) s13 (sub_trans (sub_trans s49 s32) s25)) (disj_sub (d7 _hm) s13 (sub_trans (sub_trans s53 s32) s25)) (disj_sub (d7 _hm) s13 (sub_trans s33 s25)) (disj_sub (d7 _hm) s17 s24) (disj_sub (d7 _hm) s17 (sub_trans (sub_trans s45 s32) s25)) (disj_sub (d7 _hm) s17 (sub_trans (sub_trans s49 s32) s25)) (disj_sub (d7 _hm) s17 (sub_trans (sub_trans s53 s32) s25)) (disj_sub (d7 _hm) s17 (sub_trans s33 s25)) (disj_sub (d26 _hm) (sub_refl _) (sub_trans s45 s32)) (disj_sub (d26 _hm) (sub_refl _) (sub_trans s49 s32)) (disj_sub (d26 _hm) (sub_refl _) (sub_trans s53 s32)) (disj_sub (d26 _hm) (sub_refl _) s33) (pwget3_0_1 (pw54 _hm)) (pwget3_0_2 (pw54 _hm)) (disj_sub (d34 _hm) s45 (sub_refl _)) (pwget3_1_2 (pw54 _hm)) (disj_sub (d34 _hm) s49 (sub_refl _)) (disj_sub (d34 _hm) s53 (sub_refl _))⟩
theorem Whole.mk' {m : Bool} {w : World} {x : Whole} {S : Blks} {A0 : Option Addr} {k0 : Nat} {S0 : Blks} (a0 : x.proof.bucket.length ≤ k0) (b0 : k0 ≤ maxLen) (r0 : Row m w A0 k0 x.proof.bucket S0) (s0 : sub S0 S) {A1 : Option Addr} {k1 : Nat} {S1 : Blks} (a1 : x.proof.sides.length ≤ k1) (b1 : k1 ≤ maxLen) (r1 : Row m w A1 k1 x.proof.sides S1) (s1 : sub S1 S) {A2 : Option Addr} {k2 : Nat} {S2 : Blks} (a2 : x.tops.length ≤ k2) (b2 : k2 ≤ maxLen) (r2 : Row m w A2 k2 x.tops S2) (s2 : sub S2 S) (f3 : I64 x.seal_.head.house) (f4 : I64 x.seal_.head.epoch) (f5 : x.seal_.head.root.size ≤ maxLen) (f6 : x.seal_.head.prev.size ≤ maxLen) (f7 : I64 x.seal_.sig.at_) {A3 : Option Addr} {k3 : Nat} {S3 : Blks} (a3 : x.seal_.sig.open_.length ≤ k3) (b3 : k3 ≤ maxLen) (r3 : Row m w A3 k3 x.seal_.sig.open_ S3) (s3 : sub S3 S) {A4 : Option Addr} {k4 : Nat} {S4 : Blks} (a4 : x.seal_.sig.shut.length ≤ k4) (b4 : k4 ≤ maxLen) (r4 : Row m w A4 k4 x.seal_.sig.shut S4) (s4 : sub S4 S) {A5 : Option Addr} {k5 : Nat} {S5 : Blks} (a5 : x.seal_.sig.sides.length ≤ k5) (b5 : k5 ≤ maxLen) (r5 : Row m w A5 k5 x.seal_.sig.sides S5) (s5 : sub S5 S) {A6 : Option Addr} {k6 : Nat} {S6 : Blks} (a6 : x.stamps.length ≤ k6) (b6 : k6 ≤ maxLen) (r6 : Row m w A6 k6 x.stamps S6) (s6 : sub S6 S) (pw : m = true → List.Pairwise disj [S0, S1, S2, S3, S4, S5, S6]) : rd m w (Whole.cs x A0 k0 A1 k1 A2 k2 A3 k3 A4 k4 A5 k5 A6 k6) x S :=
  Lay.mono (show rd m w (Whole.cs x A0 k0 A1 k1 A2 k2 A3 k3 A4 k4 A5 k5 A6 k6) x.tup (un S0 (un S1 (un S2 (un S3 (un S4 (un S5 S6)))))) from ⟨Proof.cs x.proof A0 k0 A1 k1, _, (un S0 S1), (un S2 (un S3 (un S4 (un S5 S6)))), rfl, (un_sub (un_left _ _) (sub_trans (un_left _ _) (un_right _ _))), (un_sub (sub_trans (sub_trans (un_left _ _) (un_right _ _)) (un_right _ _)) (un_sub (sub_trans (sub_trans (sub_trans (un_left _ _) (un_right _ _)) (un_right _ _)) (un_right _ _)) (un_sub (sub_trans (sub_trans (sub_trans (sub_trans (un_left _ _) (un_right _ _)) (un_right _ _)) (un_right _ _)) (un_right _ _)) (un_sub (sub_trans (sub_trans (sub_trans (sub_trans (sub_trans (un_left _ _) (un_right _ _)) (un_right _ _)) (un_right _ _)) (un_right _ _)) (un_right _ _)) (sub_trans (sub_trans (sub_trans (sub_trans (sub_trans (sub_trans (sub_refl _) (un_right _ _)) (un_right _ _)) (un_right _ _)) (un_right _ _)) (un_right _ _)) (un_right _ _)))))), (fun _hm => (un_disj (disj_un (pwget7_0_2 (pw _hm)) (disj_un (pwget7_0_3 (pw _hm)) (disj_un (pwget7_0_4 (pw _hm)) (disj_un (pwget7_0_5 (pw _hm)) (pwget7_0_6 (pw _hm)))))) (disj_un (pwget7_1_2 (pw _hm)) (disj_un (pwget7_1_3 (pw _hm)) (disj_un (pwget7_1_4 (pw _hm)) (disj_un (pwget7_1_5 (pw _hm)) (pwget7_1_6 (pw _hm)))))))), (Proof.mk' a0 b0 r0 (un_left _ _) a1 b1 r1 (sub_trans (sub_refl _) (un_right _ _)) (fun _hm => pwmk2 (pwget7_0_1 (pw _hm)))), ⟨[_], _, S2, (un S3 (un S4 (un S5 S6))), rfl, (un_left _ _), (un_sub (sub_trans (un_left _ _) (un_right _ _)) (un_sub (sub_trans (sub_trans (un_left _ _) (un_right _ _)) (un_right _ _)) (un_sub (sub_trans (sub_trans (sub_trans (un_left _ _) (un_right _ _)) (un_right _ _)) (un_right _ _)) (sub_trans (sub_trans (sub_trans (sub_trans (sub_refl _) (un_right _ _)) (un_right _ _)) (un_right _ _)) (un_right _ _))))), (fun _hm => (disj_un (pwget7_2_3 (pw _hm)) (disj_un (pwget7_2_4 (pw _hm)) (disj_un (pwget7_2_5 (pw _hm)) (pwget7_2_6 (pw _hm)))))), ⟨_, _, rfl, a2, b2, r2⟩, ⟨Seal.cs x.seal_ A3 k3 A4 k4 A5 k5, _, (un S3 (un S4 S5)), S6, rfl, (un_sub (un_left _ _) (un_sub (sub_trans (un_left _ _) (un_right _ _)) (sub_trans (sub_trans (un_left _ _) (un_right _ _)) (un_right _ _)))), (sub_trans (sub_trans (sub_trans (sub_refl _) (un_right _ _)) (un_right _ _)) (un_right _ _)), (fun _hm => (un_disj (pwget7_3_6 (pw _hm)) (un_disj (pwget7_4_6 (pw _hm)) (pwget7_5_6 (pw _hm))))), (Seal.mk' f3 f4 f5 f6 f7 a3 b3 r3 (un_left _ _) a4 b4 r4 (sub_trans (un_left _ _) (un_right _ _)) a5 b5 r5 (sub_trans (sub_trans (sub_refl _) (un_right _ _)) (un_right _ _)) (fun _hm => pwmk3 (pwget7_3_4 (pw _hm)) (pwget7_3_5 (pw _hm)) (pwget7_4_5 (pw _hm)))), ⟨_, _, rfl, a6, b6, r6⟩⟩⟩⟩) ((un_sub s0 (un_sub s1 (un_sub s2 (un_sub s3 (un_sub s4 (un_sub s5 s6)))))))
def Whole.sz (x : Whole) : Nat := x.proof.sz + szL x.tops + x.seal_.sz + szL x.stamps
def Whole.cn (x : Whole) : Nat := cnL x.proof.bucket + cnL x.proof.sides + cnL x.tops + 1 + 1 + 1 + 1 + 1 + cnL x.seal_.sig.open_ + cnL x.seal_.sig.shut + cnL x.seal_.sig.sides + cnL x.stamps
def Whole.me (x : Whole) (k : Nat) : Whole := (⟨(⟨meL x.proof.bucket (k), meL x.proof.sides (k + cnL x.proof.bucket)⟩ : Proof), meL x.tops (k + cnL x.proof.bucket + cnL x.proof.sides), (⟨(⟨((k + cnL x.proof.bucket + cnL x.proof.sides + cnL x.tops : Nat) : Int), ((k + cnL x.proof.bucket + cnL x.proof.sides + cnL x.tops + 1 : Nat) : Int), mtext (k + cnL x.proof.bucket + cnL x.proof.sides + cnL x.tops + 1 + 1), mtext (k + cnL x.proof.bucket + cnL x.proof.sides + cnL x.tops + 1 + 1 + 1)⟩ : Head), (⟨((k + cnL x.proof.bucket + cnL x.proof.sides + cnL x.tops + 1 + 1 + 1 + 1 : Nat) : Int), meL x.seal_.sig.open_ (k + cnL x.proof.bucket + cnL x.proof.sides + cnL x.tops + 1 + 1 + 1 + 1 + 1), meL x.seal_.sig.shut (k + cnL x.proof.bucket + cnL x.proof.sides + cnL x.tops + 1 + 1 + 1 + 1 + 1 + cnL x.seal_.sig.open_), meL x.seal_.sig.sides (k + cnL x.proof.bucket + cnL x.proof.sides + cnL x.tops + 1 + 1 + 1 + 1 + 1 + cnL x.seal_.sig.open_ + cnL x.seal_.sig.shut)⟩ : Sig)⟩ : Seal), meL x.stamps (k + cnL x.proof.bucket + cnL x.proof.sides + cnL x.tops + 1 + 1 + 1 + 1 + 1 + cnL x.seal_.sig.open_ + cnL x.seal_.sig.shut + cnL x.seal_.sig.sides)⟩ : Whole)
def Whole.ct (x : Whole) : Nat := cnL x.proof.bucket + cnL x.proof.sides + cnL x.tops + cnL x.seal_.sig.open_ + cnL x.seal_.sig.shut + cnL x.seal_.sig.sides + cnL x.stamps
def Whole.zero : Whole := (⟨(⟨[], []⟩ : Proof), [], (⟨(⟨0, 0, ByteArray.empty, ByteArray.empty⟩ : Head), (⟨0, [], [], []⟩ : Sig)⟩ : Seal), []⟩ : Whole)
instance mkWhole : Mk Whole where
  sz := Whole.sz
  cn := Whole.cn
  me := Whole.me
  z := Whole.zero
  zc := Whole.cs Whole.zero none 0 none 0 none 0 none 0 none 0 none 0 none 0
  zrd _ _ := Whole.mk' (Nat.le_refl 0) (Nat.zero_le _) (Row.nil _ _) (sub_refl _) (Nat.le_refl 0) (Nat.zero_le _) (Row.nil _ _) (sub_refl _) (Nat.le_refl 0) (Nat.zero_le _) (Row.nil _ _) (sub_refl _) I64_zero I64_zero empty_le empty_le I64_zero (Nat.le_refl 0) (Nat.zero_le _) (Row.nil _ _) (sub_refl _) (Nat.le_refl 0) (Nat.zero_le _) (Row.nil _ _) (sub_refl _) (Nat.le_refl 0) (Nat.zero_le _) (Row.nil _ _) (sub_refl _) (Nat.le_refl 0) (Nat.zero_le _) (Row.nil _ _) (sub_refl _) (fun _ => by simp [disj])

structure Change where
  id : Int
  name : ByteArray
  value : ByteArray
abbrev Change.tup (x : Change) : Int × ByteArray × ByteArray := (x.id, x.name, x.value)
instance instChange : Lay Change := layVia 176 Change.tup
instance slChange : SlTy Change := ⟨0⟩
def Change.cs (x : Change) : List Value := [.int .i64 x.id, .string x.name, .string x.value]
theorem Change.open {m : Bool} {w : World} {cs : List Value} {x : Change} {S : Blks} (h : rd m w cs x S) : cs = Change.cs x ∧ I64 x.id ∧ x.name.size ≤ maxLen ∧ x.value.size ≤ maxLen := by
  have h0 : rd m w cs x.tup S := h
  obtain ⟨c1, rfl, f3, h2⟩ := open_int2 h0
  obtain ⟨c4, rfl, f6, h5⟩ := open_str2 h2
  obtain ⟨rfl, f7⟩ := open_str h5
  exact ⟨rfl, f3, f6, f7⟩
theorem Change.mk' {m : Bool} {w : World} {x : Change} {S : Blks} (f0 : I64 x.id) (f1 : x.name.size ≤ maxLen) (f2 : x.value.size ≤ maxLen) : rd m w (Change.cs x) x S :=
  Lay.mono (show rd m w (Change.cs x) x.tup (fun _ => False) from (mk_int2 f0 (mk_str2 f1 ⟨rfl, f2⟩))) (sub_none _)
def Change.sz (x : Change) : Nat := x.name.size + x.value.size
def Change.cn (_x : Change) : Nat := 1 + 1 + 1
def Change.me (_x : Change) (k : Nat) : Change := (⟨((k : Nat) : Int), mtext (k + 1), mtext (k + 1 + 1)⟩ : Change)
def Change.ct (_x : Change) : Nat := 0
def Change.zero : Change := (⟨0, ByteArray.empty, ByteArray.empty⟩ : Change)
instance mkChange : Mk Change where
  sz := Change.sz
  cn := Change.cn
  me := Change.me
  z := Change.zero
  zc := Change.cs Change.zero
  zrd _ _ := Change.mk' I64_zero empty_le empty_le

structure Letter where
  kind : Int
  from_ : Int
  to : Int
  epoch : Int
  try_ : Int
  root : ByteArray
abbrev Letter.tup (x : Letter) : Int × Int × Int × Int × Int × ByteArray := (x.kind, x.from_, x.to, x.epoch, x.try_, x.root)
instance instLetter : Lay Letter := layVia 0 Letter.tup
instance slLetter : SlTy Letter := ⟨0⟩
def Letter.cs (x : Letter) : List Value := [.int .i64 x.kind, .int .i64 x.from_, .int .i64 x.to, .int .i64 x.epoch, .int .i64 x.try_, .string x.root]
theorem Letter.open {m : Bool} {w : World} {cs : List Value} {x : Letter} {S : Blks} (h : rd m w cs x S) : cs = Letter.cs x ∧ I64 x.kind ∧ I64 x.from_ ∧ I64 x.to ∧ I64 x.epoch ∧ I64 x.try_ ∧ x.root.size ≤ maxLen := by
  have h0 : rd m w cs x.tup S := h
  obtain ⟨c1, rfl, f3, h2⟩ := open_int2 h0
  obtain ⟨c4, rfl, f6, h5⟩ := open_int2 h2
  obtain ⟨c7, rfl, f9, h8⟩ := open_int2 h5
  obtain ⟨c10, rfl, f12, h11⟩ := open_int2 h8
  obtain ⟨c13, rfl, f15, h14⟩ := open_int2 h11
  obtain ⟨rfl, f16⟩ := open_str h14
  exact ⟨rfl, f3, f6, f9, f12, f15, f16⟩
theorem Letter.mk' {m : Bool} {w : World} {x : Letter} {S : Blks} (f0 : I64 x.kind) (f1 : I64 x.from_) (f2 : I64 x.to) (f3 : I64 x.epoch) (f4 : I64 x.try_) (f5 : x.root.size ≤ maxLen) : rd m w (Letter.cs x) x S :=
  Lay.mono (show rd m w (Letter.cs x) x.tup (fun _ => False) from (mk_int2 f0 (mk_int2 f1 (mk_int2 f2 (mk_int2 f3 (mk_int2 f4 ⟨rfl, f5⟩)))))) (sub_none _)
def Letter.sz (x : Letter) : Nat := x.root.size
def Letter.cn (_x : Letter) : Nat := 1 + 1 + 1 + 1 + 1 + 1
def Letter.me (_x : Letter) (k : Nat) : Letter := (⟨((k : Nat) : Int), ((k + 1 : Nat) : Int), ((k + 1 + 1 : Nat) : Int), ((k + 1 + 1 + 1 : Nat) : Int), ((k + 1 + 1 + 1 + 1 : Nat) : Int), mtext (k + 1 + 1 + 1 + 1 + 1)⟩ : Letter)
def Letter.ct (_x : Letter) : Nat := 0
def Letter.zero : Letter := (⟨0, 0, 0, 0, 0, ByteArray.empty⟩ : Letter)
instance mkLetter : Mk Letter where
  sz := Letter.sz
  cn := Letter.cn
  me := Letter.me
  z := Letter.zero
  zc := Letter.cs Letter.zero
  zrd _ _ := Letter.mk' I64_zero I64_zero I64_zero I64_zero I64_zero empty_le

structure Past where
  wholes : List Whole
abbrev Past.tup (x : Past) : (List Whole) := (x.wholes)
instance instPast : Lay Past := layVia 79 Past.tup
instance slPast : SlTy Past := ⟨0⟩
def Past.cs (x : Past) (A0 : Option Addr) (k0 : Nat) : List Value := [.slice A0 x.wholes.length k0]
theorem Past.open {m : Bool} {w : World} {cs : List Value} {x : Past} {S : Blks} (h : rd m w cs x S) : ∃ A0 k0 S0, cs = Past.cs x A0 k0 ∧ x.wholes.length ≤ k0 ∧ k0 ≤ maxLen ∧ Row m w A0 k0 x.wholes S0 ∧ sub S0 S := by
  have h0 : rd m w cs x.tup S := h
  obtain ⟨A0, k0, rfl, g1, g2, g3⟩ := open_list h0
  exact ⟨A0, k0, _, rfl, g1, g2, g3, (sub_refl _)⟩
theorem Past.mk' {m : Bool} {w : World} {x : Past} {S : Blks} {A0 : Option Addr} {k0 : Nat} {S0 : Blks} (a0 : x.wholes.length ≤ k0) (b0 : k0 ≤ maxLen) (r0 : Row m w A0 k0 x.wholes S0) (s0 : sub S0 S) : rd m w (Past.cs x A0 k0) x S :=
  Lay.mono (show rd m w (Past.cs x A0 k0) x.tup S0 from ⟨_, _, rfl, a0, b0, r0⟩) (s0)
def Past.sz (x : Past) : Nat := szL x.wholes
def Past.cn (x : Past) : Nat := cnL x.wholes
def Past.me (x : Past) (k : Nat) : Past := (⟨meL x.wholes (k)⟩ : Past)
def Past.ct (x : Past) : Nat := cnL x.wholes
def Past.zero : Past := (⟨[]⟩ : Past)
instance mkPast : Mk Past where
  sz := Past.sz
  cn := Past.cn
  me := Past.me
  z := Past.zero
  zc := Past.cs Past.zero none 0
  zrd _ _ := Past.mk' (Nat.le_refl 0) (Nat.zero_le _) (Row.nil _ _) (sub_refl _)

structure Client where
  house : Int
  seen : List Head
abbrev Client.tup (x : Client) : Int × (List Head) := (x.house, x.seen)
instance instClient : Lay Client := layVia 47 Client.tup
instance slClient : SlTy Client := ⟨0⟩
def Client.cs (x : Client) (A0 : Option Addr) (k0 : Nat) : List Value := [.int .i64 x.house, .slice A0 x.seen.length k0]
theorem Client.open {m : Bool} {w : World} {cs : List Value} {x : Client} {S : Blks} (h : rd m w cs x S) : ∃ A0 k0 S0, cs = Client.cs x A0 k0 ∧ I64 x.house ∧ x.seen.length ≤ k0 ∧ k0 ≤ maxLen ∧ Row m w A0 k0 x.seen S0 ∧ sub S0 S := by
  have h0 : rd m w cs x.tup S := h
  obtain ⟨c1, rfl, f3, h2⟩ := open_int2 h0
  obtain ⟨A0, k0, rfl, g4, g5, g6⟩ := open_list h2
  exact ⟨A0, k0, _, rfl, f3, g4, g5, g6, (sub_refl _)⟩
theorem Client.mk' {m : Bool} {w : World} {x : Client} {S : Blks} (f0 : I64 x.house) {A0 : Option Addr} {k0 : Nat} {S0 : Blks} (a0 : x.seen.length ≤ k0) (b0 : k0 ≤ maxLen) (r0 : Row m w A0 k0 x.seen S0) (s0 : sub S0 S) : rd m w (Client.cs x A0 k0) x S :=
  Lay.mono (show rd m w (Client.cs x A0 k0) x.tup S0 from (mk_int2 f0 ⟨_, _, rfl, a0, b0, r0⟩)) (s0)
def Client.sz (x : Client) : Nat := szL x.seen
def Client.cn (x : Client) : Nat := 1 + cnL x.seen
def Client.me (x : Client) (k : Nat) : Client := (⟨((k : Nat) : Int), meL x.seen (k + 1)⟩ : Client)
def Client.ct (x : Client) : Nat := cnL x.seen
def Client.zero : Client := (⟨0, []⟩ : Client)
instance mkClient : Mk Client where
  sz := Client.sz
  cn := Client.cn
  me := Client.me
  z := Client.zero
  zc := Client.cs Client.zero none 0
  zrd _ _ := Client.mk' I64_zero (Nat.le_refl 0) (Nat.zero_le _) (Row.nil _ _) (sub_refl _)

end Go.Proofs.YtgllafgpmenjjaaGreatDoor
