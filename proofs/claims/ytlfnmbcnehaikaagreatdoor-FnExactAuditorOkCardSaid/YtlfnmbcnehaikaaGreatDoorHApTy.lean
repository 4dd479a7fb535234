/- A part of the proof. -/
import Derived.Test.YtlfnmbcnehaikaaGreatDoorHApMk
set_option linter.unusedVariables false
set_option linter.unusedSimpArgs false
namespace Go.Proofs.YtlfnmbcnehaikaaGreatDoor
open Go.RowKit Lay Mk
instance slInt : SlTy Int:=⟨0⟩
instance slBool : SlTy Bool:=⟨0⟩
instance slStr : SlTy ByteArray:=⟨29⟩
theorem I64_zero : I64 0:=by unfold I64; omega
theorem empty_le : ByteArray.empty.size ≤ maxLen:=by decide
theorem Row.nil {α : Type} [Lay α] (m : Bool) (w : World) {S : Blks} : Row (α:=α) m w none 0 [] S:=by cases m; exact fun h => absurd rfl h; exact .inl ⟨rfl,rfl,rfl⟩
def un (A B : Blks) : Blks:=fun b => A b ∨ B b
theorem un_left (A B : Blks) : sub A (un A B):=fun _ h => .inl h
theorem un_right (A B : Blks) : sub B (un A B):=fun _ h => .inr h
theorem un_sub {A B S : Blks} (h : sub A S) (k : sub B S) : sub (un A B) S:=fun b x => x.elim (h b) (k b)
theorem sub_none (S : Blks) : sub (fun _ => False) S:=fun _ x => x.elim
theorem disj_none (S : Blks) : disj S (fun _ => False):=fun _ _ x => x
theorem disj_un {A B C : Blks} (h : disj A B) (k : disj A C) : disj A (un B C):=fun b x y => y.elim (h b x) (k b x)
theorem un_disj {A B C : Blks} (h : disj A C) (k : disj B C) : disj (un A B) C:=fun b x y => x.elim (fun z => h b z y) (fun z => k b z y)
theorem zpw {L : List Blks} (i j : Nat) (h : List.Pairwise disj L) (hi : i < L.length:=by simp) (hj : j < L.length:=by simp) (hij : i < j:=by omega) : disj L[i] L[j]:=List.pairwise_iff_getElem.1 h i j hi hj hij
variable {S0 S1 S2 S3 S4 S5 S6 S7 S8 S9 S10 S11 S12 S13 S14 S15 : Blks}
theorem pwget3_0_1 (h : List.Pairwise disj [S0,S1,S2]) : disj S0 S1:=zpw 0 1 h
theorem pwget3_0_2 (h : List.Pairwise disj [S0,S1,S2]) : disj S0 S2:=zpw 0 2 h
theorem pwget3_1_2 (h : List.Pairwise disj [S0,S1,S2]) : disj S1 S2:=zpw 1 2 h
theorem pwmk3 {S0 S1 S2 : Blks} (h0_1 : disj S0 S1) (h0_2 : disj S0 S2) (h1_2 : disj S1 S2) : List.Pairwise disj [S0,S1,S2]:=by
 simp only [List.pairwise_cons,List.mem_cons,List.not_mem_nil,or_false,forall_eq_or_imp,forall_eq,List.Pairwise.nil,and_true,false_implies,implies_true]
 exact ⟨⟨h0_1,h0_2⟩,h1_2⟩
theorem pwget4_0_1 (h : List.Pairwise disj [S0,S1,S2,S3]) : disj S0 S1:=zpw 0 1 h
theorem pwget4_0_2 (h : List.Pairwise disj [S0,S1,S2,S3]) : disj S0 S2:=zpw 0 2 h
theorem pwget4_0_3 (h : List.Pairwise disj [S0,S1,S2,S3]) : disj S0 S3:=zpw 0 3 h
theorem pwget4_1_2 (h : List.Pairwise disj [S0,S1,S2,S3]) : disj S1 S2:=zpw 1 2 h
theorem pwget4_1_3 (h : List.Pairwise disj [S0,S1,S2,S3]) : disj S1 S3:=zpw 1 3 h
theorem pwget4_2_3 (h : List.Pairwise disj [S0,S1,S2,S3]) : disj S2 S3:=zpw 2 3 h
theorem pwmk4 {S0 S1 S2 S3 : Blks} (h0_1 : disj S0 S1) (h0_2 : disj S0 S2) (h0_3 : disj S0 S3) (h1_2 : disj S1 S2) (h1_3 : disj S1 S3) (h2_3 : disj S2 S3) : List.Pairwise disj [S0,S1,S2,S3]:=by
 simp only [List.pairwise_cons,List.mem_cons,List.not_mem_nil,or_false,forall_eq_or_imp,forall_eq,List.Pairwise.nil,and_true,false_implies,implies_true]
 exact ⟨⟨h0_1,h0_2,h0_3⟩,⟨h1_2,h1_3⟩,h2_3⟩
theorem pwget6_0_1 (h : List.Pairwise disj [S0,S1,S2,S3,S4,S5]) : disj S0 S1:=zpw 0 1 h
theorem pwget6_0_2 (h : List.Pairwise disj [S0,S1,S2,S3,S4,S5]) : disj S0 S2:=zpw 0 2 h
theorem pwget6_0_3 (h : List.Pairwise disj [S0,S1,S2,S3,S4,S5]) : disj S0 S3:=zpw 0 3 h
theorem pwget6_0_4 (h : List.Pairwise disj [S0,S1,S2,S3,S4,S5]) : disj S0 S4:=zpw 0 4 h
theorem pwget6_0_5 (h : List.Pairwise disj [S0,S1,S2,S3,S4,S5]) : disj S0 S5:=zpw 0 5 h
theorem pwget6_1_2 (h : List.Pairwise disj [S0,S1,S2,S3,S4,S5]) : disj S1 S2:=zpw 1 2 h
theorem pwget6_1_3 (h : List.Pairwise disj [S0,S1,S2,S3,S4,S5]) : disj S1 S3:=zpw 1 3 h
theorem pwget6_1_4 (h : List.Pairwise disj [S0,S1,S2,S3,S4,S5]) : disj S1 S4:=zpw 1 4 h
theorem pwget6_1_5 (h : List.Pairwise disj [S0,S1,S2,S3,S4,S5]) : disj S1 S5:=zpw 1 5 h
theorem pwget6_2_3 (h : List.Pairwise disj [S0,S1,S2,S3,S4,S5]) : disj S2 S3:=zpw 2 3 h
theorem pwget6_2_4 (h : List.Pairwise disj [S0,S1,S2,S3,S4,S5]) : disj S2 S4:=zpw 2 4 h
theorem pwget6_2_5 (h : List.Pairwise disj [S0,S1,S2,S3,S4,S5]) : disj S2 S5:=zpw 2 5 h
theorem pwget6_3_4 (h : List.Pairwise disj [S0,S1,S2,S3,S4,S5]) : disj S3 S4:=zpw 3 4 h
theorem pwget6_3_5 (h : List.Pairwise disj [S0,S1,S2,S3,S4,S5]) : disj S3 S5:=zpw 3 5 h
theorem pwget6_4_5 (h : List.Pairwise disj [S0,S1,S2,S3,S4,S5]) : disj S4 S5:=zpw 4 5 h
theorem pwmk6 {S0 S1 S2 S3 S4 S5 : Blks} (h0_1 : disj S0 S1) (h0_2 : disj S0 S2) (h0_3 : disj S0 S3) (h0_4 : disj S0 S4) (h0_5 : disj S0 S5) (h1_2 : disj S1 S2) (h1_3 : disj S1 S3) (h1_4 : disj S1 S4) (h1_5 : disj S1 S5) (h2_3 : disj S2 S3) (h2_4 : disj S2 S4) (h2_5 : disj S2 S5) (h3_4 : disj S3 S4) (h3_5 : disj S3 S5) (h4_5 : disj S4 S5) : List.Pairwise disj [S0,S1,S2,S3,S4,S5]:=by
 simp only [List.pairwise_cons,List.mem_cons,List.not_mem_nil,or_false,forall_eq_or_imp,forall_eq,List.Pairwise.nil,and_true,false_implies,implies_true]
 exact ⟨⟨h0_1,h0_2,h0_3,h0_4,h0_5⟩,⟨h1_2,h1_3,h1_4,h1_5⟩,⟨h2_3,h2_4,h2_5⟩,⟨h3_4,h3_5⟩,h4_5⟩
structure Head where
 house : Int
 epoch : Int
 root : ByteArray
 prev : ByteArray
abbrev Head.tup (x : Head) : Int × Int × ByteArray × ByteArray:=(x.house,x.epoch,x.root,x.prev)
instance instHead : Lay Head:=layVia 72 Head.tup
instance slHead : SlTy Head:=⟨82⟩
def Head.cs (x : Head) : List Value:=[.int .i64 x.house, .int .i64 x.epoch, .string x.root, .string x.prev]
theorem Head.open {m : Bool} {w : World} {cs : List Value} {x : Head} {S : Blks} (h : rd m w cs x S) : cs = Head.cs x ∧ I64 x.house ∧ I64 x.epoch ∧ x.root.size ≤ maxLen ∧ x.prev.size ≤ maxLen:=by
 have h0 : rd m w cs x.tup S:=h
 obtain ⟨c1,rfl,f3,h2⟩:=open_int2 h0
 obtain ⟨c4,rfl,f6,h5⟩:=open_int2 h2
 obtain ⟨c7,rfl,f9,h8⟩:=open_str2 h5
 obtain ⟨rfl,f10⟩:=open_str h8
 exact ⟨rfl,f3,f6,f9,f10⟩
theorem Head.mk' {m : Bool} {w : World} {x : Head} {S : Blks} (f0 : I64 x.house) (f1 : I64 x.epoch) (f2 : x.root.size ≤ maxLen) (f3 : x.prev.size ≤ maxLen) : rd m w (Head.cs x) x S :=
 Lay.mono (show rd m w (Head.cs x) x.tup (fun _ => False) from (mk_int2 f0 (mk_int2 f1 (mk_str2 f2 ⟨rfl,f3⟩)))) (sub_none _)
def Head.sz (x : Head) : Nat:=x.root.size + x.prev.size
def Head.cn (_x : Head) : Nat:=1 + 1 + 1 + 1
def Head.me (_x : Head) (k : Nat) : Head:=(⟨((k : Nat) : Int),((k + 1 : Nat) : Int),mtext (k + 1 + 1),mtext (k + 1 + 1 + 1)⟩ : Head)
def Head.ct (_x : Head) : Nat:=0
def Head.zero : Head:=(⟨0,0,ByteArray.empty,ByteArray.empty⟩ : Head)
instance mkHead : Mk Head where
 sz:=Head.sz
 cn:=Head.cn
 me:=Head.me
 z:=Head.zero
 zc:=Head.cs Head.zero
 zrd _ _:=Head.mk' I64_zero I64_zero empty_le empty_le
structure Sig where
 at_ : Int
 open_ : List ByteArray
 shut : List ByteArray
 sides : List ByteArray
abbrev Sig.tup (x : Sig) : Int × (List ByteArray) × (List ByteArray) × (List ByteArray):=(x.at_,x.open_,x.shut,x.sides)
instance instSig : Lay Sig:=layVia 74 Sig.tup
instance slSig : SlTy Sig:=⟨0⟩
def Sig.cs (x : Sig) (A0 : Option Addr) (k0 : Nat) (A1 : Option Addr) (k1 : Nat) (A2 : Option Addr) (k2 : Nat) : List Value:=[.int .i64 x.at_, .slice A0 x.open_.length k0, .slice A1 x.shut.length k1, .slice A2 x.sides.length k2]
theorem Sig.open {m : Bool} {w : World} {cs : List Value} {x : Sig} {S : Blks} (h : rd m w cs x S) : ∃ A0 k0 S0 A1 k1 S1 A2 k2 S2,cs = Sig.cs x A0 k0 A1 k1 A2 k2 ∧ I64 x.at_ ∧ x.open_.length ≤ k0 ∧ k0 ≤ maxLen ∧ Row m w A0 k0 x.open_ S0 ∧ sub S0 S ∧ x.shut.length ≤ k1 ∧ k1 ≤ maxLen ∧ Row m w A1 k1 x.shut S1 ∧ sub S1 S ∧ x.sides.length ≤ k2 ∧ k2 ≤ maxLen ∧ Row m w A2 k2 x.sides S2 ∧ sub S2 S ∧ (m = true → List.Pairwise disj [S0,S1,S2]):=by
 have h0 : rd m w cs x.tup S:=h
 obtain ⟨c1,rfl,f3,h2⟩:=open_int2 h0
 obtain ⟨A0,k0,c7,S0,R8,rfl,g4,g5,g6,s9,s10,d11,h12⟩:=open_list2 h2
 obtain ⟨A1,k1,c16,S1,R17,rfl,g13,g14,g15,s18,s19,d20,h21⟩:=open_list2 h12
 obtain ⟨A2,k2,rfl,g22,g23,g24⟩:=open_list h21
 exact ⟨A0,k0,S0,A1,k1,S1,A2,k2,_,rfl,f3,g4,g5,g6,s9,g13,g14,g15,(ya6 s18 s10),g22,g23,g24,(ya6 s19 s10),fun _hm => pwmk3 (disj_sub (d11 _hm) (ya8 _) s18) (disj_sub (d11 _hm) (ya8 _) s19) (disj_sub (d20 _hm) (ya8 _) (ya8 _))⟩
theorem Sig.mk' {m : Bool} {w : World} {x : Sig} {S : Blks} (f0 : I64 x.at_) {A0 : Option Addr} {k0 : Nat} {S0 : Blks} (a0 : x.open_.length ≤ k0) (b0 : k0 ≤ maxLen) (r0 : Row m w A0 k0 x.open_ S0) (s0 : sub S0 S) {A1 : Option Addr} {k1 : Nat} {S1 : Blks} (a1 : x.shut.length ≤ k1) (b1 : k1 ≤ maxLen) (r1 : Row m w A1 k1 x.shut S1) (s1 : sub S1 S) {A2 : Option Addr} {k2 : Nat} {S2 : Blks} (a2 : x.sides.length ≤ k2) (b2 : k2 ≤ maxLen) (r2 : Row m w A2 k2 x.sides S2) (s2 : sub S2 S) (pw : m = true → List.Pairwise disj [S0,S1,S2]) : rd m w (Sig.cs x A0 k0 A1 k1 A2 k2) x S :=
 Lay.mono (show rd m w (Sig.cs x A0 k0 A1 k1 A2 k2) x.tup (un S0 (un S1 S2)) from (mk_int2 f0 ⟨[_],_,S0,(un S1 S2),rfl,(un_left _ _),(un_sub (ya6 (un_left _ _) (un_right _ _)) (ya6 (ya6 (ya8 _) (un_right _ _)) (un_right _ _))),(fun _hm => (disj_un (pwget3_0_1 (pw _hm)) (pwget3_0_2 (pw _hm)))),⟨_,_,rfl,a0,b0,r0⟩,⟨[_],_,S1,S2,rfl,(un_left _ _),(ya6 (ya8 _) (un_right _ _)),(fun _hm => (pwget3_1_2 (pw _hm))),⟨_,_,rfl,a1,b1,r1⟩,⟨_,_,rfl,a2,b2,r2⟩⟩⟩)) ((un_sub s0 (un_sub s1 s2)))
def Sig.sz (x : Sig) : Nat:=szL x.open_ + szL x.shut + szL x.sides
def Sig.cn (x : Sig) : Nat:=1 + cnL x.open_ + cnL x.shut + cnL x.sides
def Sig.me (x : Sig) (k : Nat) : Sig:=(⟨((k : Nat) : Int),meL x.open_ (k + 1),meL x.shut (k + 1 + cnL x.open_),meL x.sides (k + 1 + cnL x.open_ + cnL x.shut)⟩ : Sig)
def Sig.ct (x : Sig) : Nat:=cnL x.open_ + cnL x.shut + cnL x.sides
def Sig.zero : Sig:=(⟨0, [], [], []⟩ : Sig)
instance mkSig : Mk Sig where
 sz:=Sig.sz
 cn:=Sig.cn
 me:=Sig.me
 z:=Sig.zero
 zc:=Sig.cs Sig.zero none 0 none 0 none 0
 zrd _ _:=Sig.mk' I64_zero (Nat.le_refl 0) (Nat.zero_le _) (Row.nil _ _) (ya8 _) (Nat.le_refl 0) (Nat.zero_le _) (Row.nil _ _) (ya8 _) (Nat.le_refl 0) (Nat.zero_le _) (Row.nil _ _) (ya8 _) (fun _ => by simp [disj])
structure File where
 name : ByteArray
 text : ByteArray
 kept : Int
abbrev File.tup (x : File) : ByteArray × ByteArray × Int:=(x.name,x.text,x.kept)
instance instFile : Lay File:=layVia 102 File.tup
instance slFile : SlTy File:=⟨26⟩
def File.cs (x : File) : List Value:=[.string x.name, .string x.text, .int .i64 x.kept]
theorem File.open {m : Bool} {w : World} {cs : List Value} {x : File} {S : Blks} (h : rd m w cs x S) : cs = File.cs x ∧ x.name.size ≤ maxLen ∧ x.text.size ≤ maxLen ∧ I64 x.kept:=by
 have h0 : rd m w cs x.tup S:=h
 obtain ⟨c1,rfl,f3,h2⟩:=open_str2 h0
 obtain ⟨c4,rfl,f6,h5⟩:=open_str2 h2
 obtain ⟨rfl,f7⟩:=open_int h5
 exact ⟨rfl,f3,f6,f7⟩
theorem File.mk' {m : Bool} {w : World} {x : File} {S : Blks} (f0 : x.name.size ≤ maxLen) (f1 : x.text.size ≤ maxLen) (f2 : I64 x.kept) : rd m w (File.cs x) x S :=
 Lay.mono (show rd m w (File.cs x) x.tup (fun _ => False) from (mk_str2 f0 (mk_str2 f1 ⟨rfl,f2⟩))) (sub_none _)
def File.sz (x : File) : Nat:=x.name.size + x.text.size
def File.cn (_x : File) : Nat:=1 + 1 + 1
def File.me (_x : File) (k : Nat) : File:=(⟨mtext (k),mtext (k + 1),((k + 1 + 1 : Nat) : Int)⟩ : File)
def File.ct (_x : File) : Nat:=0
def File.zero : File:=(⟨ByteArray.empty,ByteArray.empty,0⟩ : File)
instance mkFile : Mk File where
 sz:=File.sz
 cn:=File.cn
 me:=File.me
 z:=File.zero
 zc:=File.cs File.zero
 zrd _ _:=File.mk' empty_le empty_le I64_zero
structure Disk where
 files : List File
abbrev Disk.tup (x : Disk) : (List File):=(x.files)
instance instDisk : Lay Disk:=layVia 28 Disk.tup
instance slDisk : SlTy Disk:=⟨0⟩
def Disk.cs (x : Disk) (A0 : Option Addr) (k0 : Nat) : List Value:=[.slice A0 x.files.length k0]
theorem Disk.open {m : Bool} {w : World} {cs : List Value} {x : Disk} {S : Blks} (h : rd m w cs x S) : ∃ A0 k0 S0,cs = Disk.cs x A0 k0 ∧ x.files.length ≤ k0 ∧ k0 ≤ maxLen ∧ Row m w A0 k0 x.files S0 ∧ sub S0 S:=by
 have h0 : rd m w cs x.tup S:=h
 obtain ⟨A0,k0,rfl,g1,g2,g3⟩:=open_list h0
 exact ⟨A0,k0,_,rfl,g1,g2,g3,(ya8 _)⟩
theorem Disk.mk' {m : Bool} {w : World} {x : Disk} {S : Blks} {A0 : Option Addr} {k0 : Nat} {S0 : Blks} (a0 : x.files.length ≤ k0) (b0 : k0 ≤ maxLen) (r0 : Row m w A0 k0 x.files S0) (s0 : sub S0 S) : rd m w (Disk.cs x A0 k0) x S :=
 Lay.mono (show rd m w (Disk.cs x A0 k0) x.tup S0 from ⟨_,_,rfl,a0,b0,r0⟩) (s0)
def Disk.sz (x : Disk) : Nat:=szL x.files
def Disk.cn (x : Disk) : Nat:=cnL x.files
def Disk.me (x : Disk) (k : Nat) : Disk:=(⟨meL x.files (k)⟩ : Disk)
def Disk.ct (x : Disk) : Nat:=cnL x.files
def Disk.zero : Disk:=(⟨[]⟩ : Disk)
instance mkDisk : Mk Disk where
 sz:=Disk.sz
 cn:=Disk.cn
 me:=Disk.me
 z:=Disk.zero
 zc:=Disk.cs Disk.zero none 0
 zrd _ _:=Disk.mk' (Nat.le_refl 0) (Nat.zero_le _) (Row.nil _ _) (ya8 _)
structure DAct where
 kind : Int
 name : ByteArray
 text : ByteArray
 to : ByteArray
abbrev DAct.tup (x : DAct) : Int × ByteArray × ByteArray × ByteArray:=(x.kind,x.name,x.text,x.to)
instance instDAct : Lay DAct:=layVia 197 DAct.tup
instance slDAct : SlTy DAct:=⟨171⟩
def DAct.cs (x : DAct) : List Value:=[.int .i64 x.kind, .string x.name, .string x.text, .string x.to]
theorem DAct.open {m : Bool} {w : World} {cs : List Value} {x : DAct} {S : Blks} (h : rd m w cs x S) : cs = DAct.cs x ∧ I64 x.kind ∧ x.name.size ≤ maxLen ∧ x.text.size ≤ maxLen ∧ x.to.size ≤ maxLen:=by
 have h0 : rd m w cs x.tup S:=h
 obtain ⟨c1,rfl,f3,h2⟩:=open_int2 h0
 obtain ⟨c4,rfl,f6,h5⟩:=open_str2 h2
 obtain ⟨c7,rfl,f9,h8⟩:=open_str2 h5
 obtain ⟨rfl,f10⟩:=open_str h8
 exact ⟨rfl,f3,f6,f9,f10⟩
theorem DAct.mk' {m : Bool} {w : World} {x : DAct} {S : Blks} (f0 : I64 x.kind) (f1 : x.name.size ≤ maxLen) (f2 : x.text.size ≤ maxLen) (f3 : x.to.size ≤ maxLen) : rd m w (DAct.cs x) x S :=
 Lay.mono (show rd m w (DAct.cs x) x.tup (fun _ => False) from (mk_int2 f0 (mk_str2 f1 (mk_str2 f2 ⟨rfl,f3⟩)))) (sub_none _)
def DAct.sz (x : DAct) : Nat:=x.name.size + x.text.size + x.to.size
def DAct.cn (_x : DAct) : Nat:=1 + 1 + 1 + 1
def DAct.me (_x : DAct) (k : Nat) : DAct:=(⟨((k : Nat) : Int),mtext (k + 1),mtext (k + 1 + 1),mtext (k + 1 + 1 + 1)⟩ : DAct)
def DAct.ct (_x : DAct) : Nat:=0
def DAct.zero : DAct:=(⟨0,ByteArray.empty,ByteArray.empty,ByteArray.empty⟩ : DAct)
instance mkDAct : Mk DAct where
 sz:=DAct.sz
 cn:=DAct.cn
 me:=DAct.me
 z:=DAct.zero
 zc:=DAct.cs DAct.zero
 zrd _ _:=DAct.mk' I64_zero empty_le empty_le empty_le
structure Seal where
 head : Head
 sig : Sig
abbrev Seal.tup (x : Seal) : Head × Sig:=(x.head,x.sig)
instance instSeal : Lay Seal:=layVia 76 Seal.tup
instance slSeal : SlTy Seal:=⟨30⟩
def Seal.cs (x : Seal) (A0 : Option Addr) (k0 : Nat) (A1 : Option Addr) (k1 : Nat) (A2 : Option Addr) (k2 : Nat) : List Value:=[.int .i64 x.head.house, .int .i64 x.head.epoch, .string x.head.root, .string x.head.prev, .int .i64 x.sig.at_, .slice A0 x.sig.open_.length k0, .slice A1 x.sig.shut.length k1, .slice A2 x.sig.sides.length k2]
theorem Seal.open {m : Bool} {w : World} {cs : List Value} {x : Seal} {S : Blks} (h : rd m w cs x S) : ∃ A0 k0 S0 A1 k1 S1 A2 k2 S2,cs = Seal.cs x A0 k0 A1 k1 A2 k2 ∧ I64 x.head.house ∧ I64 x.head.epoch ∧ x.head.root.size ≤ maxLen ∧ x.head.prev.size ≤ maxLen ∧ I64 x.sig.at_ ∧ x.sig.open_.length ≤ k0 ∧ k0 ≤ maxLen ∧ Row m w A0 k0 x.sig.open_ S0 ∧ sub S0 S ∧ x.sig.shut.length ≤ k1 ∧ k1 ≤ maxLen ∧ Row m w A1 k1 x.sig.shut S1 ∧ sub S1 S ∧ x.sig.sides.length ≤ k2 ∧ k2 ≤ maxLen ∧ Row m w A2 k2 x.sig.sides S2 ∧ sub S2 S ∧ (m = true → List.Pairwise disj [S0,S1,S2]):=by
 have h0 : rd m w cs x.tup S:=h
 obtain ⟨c1,c2,P3,R4,rfl,s5,s6,d7,h8,h9⟩:=open_two h0
 obtain ⟨rfl,f10,f11,f12,f13⟩:=Head.open h8
 obtain ⟨A0,k0,S0,A1,k1,S1,A2,k2,S2,rfl,f14,g15,g16,g17,s18,g19,g20,g21,s22,g23,g24,g25,s26,pw27⟩:=Sig.open h9
 exact ⟨A0,k0,S0,A1,k1,S1,A2,k2,S2,rfl,f10,f11,f12,f13,f14,g15,g16,g17,(ya6 s18 s6),g19,g20,g21,(ya6 s22 s6),g23,g24,g25,(ya6 s26 s6),fun _hm => pwmk3 (pwget3_0_1 (pw27 _hm)) (pwget3_0_2 (pw27 _hm)) (pwget3_1_2 (pw27 _hm))⟩
theorem Seal.mk' {m : Bool} {w : World} {x : Seal} {S : Blks} (f0 : I64 x.head.house) (f1 : I64 x.head.epoch) (f2 : x.head.root.size ≤ maxLen) (f3 : x.head.prev.size ≤ maxLen) (f4 : I64 x.sig.at_) {A0 : Option Addr} {k0 : Nat} {S0 : Blks} (a0 : x.sig.open_.length ≤ k0) (b0 : k0 ≤ maxLen) (r0 : Row m w A0 k0 x.sig.open_ S0) (s0 : sub S0 S) {A1 : Option Addr} {k1 : Nat} {S1 : Blks} (a1 : x.sig.shut.length ≤ k1) (b1 : k1 ≤ maxLen) (r1 : Row m w A1 k1 x.sig.shut S1) (s1 : sub S1 S) {A2 : Option Addr} {k2 : Nat} {S2 : Blks} (a2 : x.sig.sides.length ≤ k2) (b2 : k2 ≤ maxLen) (r2 : Row m w A2 k2 x.sig.sides S2) (s2 : sub S2 S) (pw : m = true → List.Pairwise disj [S0,S1,S2]) : rd m w (Seal.cs x A0 k0 A1 k1 A2 k2) x S :=
 Lay.mono (show rd m w (Seal.cs x A0 k0 A1 k1 A2 k2) x.tup (un S0 (un S1 S2)) from ⟨Head.cs x.head,_,(fun _ => False),(un S0 (un S1 S2)),rfl,(sub_none _),(un_sub (un_left _ _) (un_sub (ya6 (un_left _ _) (un_right _ _)) (ya6 (ya6 (ya8 _) (un_right _ _)) (un_right _ _)))),(fun _hm => (disj_symm (disj_none _))),(Head.mk' f0 f1 f2 f3),(Sig.mk' f4 a0 b0 r0 (un_left _ _) a1 b1 r1 (ya6 (un_left _ _) (un_right _ _)) a2 b2 r2 (ya6 (ya6 (ya8 _) (un_right _ _)) (un_right _ _)) (fun _hm => pwmk3 (pwget3_0_1 (pw _hm)) (pwget3_0_2 (pw _hm)) (pwget3_1_2 (pw _hm))))⟩) ((un_sub s0 (un_sub s1 s2)))
def Seal.sz (x : Seal) : Nat:=x.head.sz + x.sig.sz
def Seal.cn (x : Seal) : Nat:=1 + 1 + 1 + 1 + 1 + cnL x.sig.open_ + cnL x.sig.shut + cnL x.sig.sides
def Seal.me (x : Seal) (k : Nat) : Seal:=(⟨(⟨((k : Nat) : Int),((k + 1 : Nat) : Int),mtext (k + 1 + 1),mtext (k + 1 + 1 + 1)⟩ : Head),(⟨((k + 1 + 1 + 1 + 1 : Nat) : Int),meL x.sig.open_ (k + 1 + 1 + 1 + 1 + 1),meL x.sig.shut (k + 1 + 1 + 1 + 1 + 1 + cnL x.sig.open_),meL x.sig.sides (k + 1 + 1 + 1 + 1 + 1 + cnL x.sig.open_ + cnL x.sig.shut)⟩ : Sig)⟩ : Seal)
def Seal.ct (x : Seal) : Nat:=cnL x.sig.open_ + cnL x.sig.shut + cnL x.sig.sides
def Seal.zero : Seal:=(⟨(⟨0,0,ByteArray.empty,ByteArray.empty⟩ : Head),(⟨0, [], [], []⟩ : Sig)⟩ : Seal)
instance mkSeal : Mk Seal where
 sz:=Seal.sz
 cn:=Seal.cn
 me:=Seal.me
 z:=Seal.zero
 zc:=Seal.cs Seal.zero none 0 none 0 none 0
 zrd _ _:=Seal.mk' I64_zero I64_zero empty_le empty_le I64_zero (Nat.le_refl 0) (Nat.zero_le _) (Row.nil _ _) (ya8 _) (Nat.le_refl 0) (Nat.zero_le _) (Row.nil _ _) (ya8 _) (Nat.le_refl 0) (Nat.zero_le _) (Row.nil _ _) (ya8 _) (fun _ => by simp [disj])
structure Stamp where
 by_ : Int
 sig : Sig
abbrev Stamp.tup (x : Stamp) : Int × Sig:=(x.by_,x.sig)
instance instStamp : Lay Stamp:=layVia 90 Stamp.tup
instance slStamp : SlTy Stamp:=⟨0⟩
def Stamp.cs (x : Stamp) (A0 : Option Addr) (k0 : Nat) (A1 : Option Addr) (k1 : Nat) (A2 : Option Addr) (k2 : Nat) : List Value:=[.int .i64 x.by_, .int .i64 x.sig.at_, .slice A0 x.sig.open_.length k0, .slice A1 x.sig.shut.length k1, .slice A2 x.sig.sides.length k2]
theorem Stamp.open {m : Bool} {w : World} {cs : List Value} {x : Stamp} {S : Blks} (h : rd m w cs x S) : ∃ A0 k0 S0 A1 k1 S1 A2 k2 S2,cs = Stamp.cs x A0 k0 A1 k1 A2 k2 ∧ I64 x.by_ ∧ I64 x.sig.at_ ∧ x.sig.open_.length ≤ k0 ∧ k0 ≤ maxLen ∧ Row m w A0 k0 x.sig.open_ S0 ∧ sub S0 S ∧ x.sig.shut.length ≤ k1 ∧ k1 ≤ maxLen ∧ Row m w A1 k1 x.sig.shut S1 ∧ sub S1 S ∧ x.sig.sides.length ≤ k2 ∧ k2 ≤ maxLen ∧ Row m w A2 k2 x.sig.sides S2 ∧ sub S2 S ∧ (m = true → List.Pairwise disj [S0,S1,S2]):=by
 have h0 : rd m w cs x.tup S:=h
 obtain ⟨c1,rfl,f3,h2⟩:=open_int2 h0
 obtain ⟨A0,k0,S0,A1,k1,S1,A2,k2,S2,rfl,f4,g5,g6,g7,s8,g9,g10,g11,s12,g13,g14,g15,s16,pw17⟩:=Sig.open h2
 exact ⟨A0,k0,S0,A1,k1,S1,A2,k2,S2,rfl,f3,f4,g5,g6,g7,s8,g9,g10,g11,s12,g13,g14,g15,s16,fun _hm => pwmk3 (pwget3_0_1 (pw17 _hm)) (pwget3_0_2 (pw17 _hm)) (pwget3_1_2 (pw17 _hm))⟩
theorem Stamp.mk' {m : Bool} {w : World} {x : Stamp} {S : Blks} (f0 : I64 x.by_) (f1 : I64 x.sig.at_) {A0 : Option Addr} {k0 : Nat} {S0 : Blks} (a0 : x.sig.open_.length ≤ k0) (b0 : k0 ≤ maxLen) (r0 : Row m w A0 k0 x.sig.open_ S0) (s0 : sub S0 S) {A1 : Option Addr} {k1 : Nat} {S1 : Blks} (a1 : x.sig.shut.length ≤ k1) (b1 : k1 ≤ maxLen) (r1 : Row m w A1 k1 x.sig.shut S1) (s1 : sub S1 S) {A2 : Option Addr} {k2 : Nat} {S2 : Blks} (a2 : x.sig.sides.length ≤ k2) (b2 : k2 ≤ maxLen) (r2 : Row m w A2 k2 x.sig.sides S2) (s2 : sub S2 S) (pw : m = true → List.Pairwise disj [S0,S1,S2]) : rd m w (Stamp.cs x A0 k0 A1 k1 A2 k2) x S :=
 Lay.mono (show rd m w (Stamp.cs x A0 k0 A1 k1 A2 k2) x.tup (un S0 (un S1 S2)) from (mk_int2 f0 (Sig.mk' f1 a0 b0 r0 (un_left _ _) a1 b1 r1 (ya6 (un_left _ _) (un_right _ _)) a2 b2 r2 (ya6 (ya6 (ya8 _) (un_right _ _)) (un_right _ _)) (fun _hm => pwmk3 (pwget3_0_1 (pw _hm)) (pwget3_0_2 (pw _hm)) (pwget3_1_2 (pw _hm)))))) ((un_sub s0 (un_sub s1 s2)))
def Stamp.sz (x : Stamp) : Nat:=x.sig.sz
def Stamp.cn (x : Stamp) : Nat:=1 + 1 + cnL x.sig.open_ + cnL x.sig.shut + cnL x.sig.sides
def Stamp.me (x : Stamp) (k : Nat) : Stamp:=(⟨((k : Nat) : Int),(⟨((k + 1 : Nat) : Int),meL x.sig.open_ (k + 1 + 1),meL x.sig.shut (k + 1 + 1 + cnL x.sig.open_),meL x.sig.sides (k + 1 + 1 + cnL x.sig.open_ + cnL x.sig.shut)⟩ : Sig)⟩ : Stamp)
def Stamp.ct (x : Stamp) : Nat:=cnL x.sig.open_ + cnL x.sig.shut + cnL x.sig.sides
def Stamp.zero : Stamp:=(⟨0,(⟨0, [], [], []⟩ : Sig)⟩ : Stamp)
instance mkStamp : Mk Stamp where
 sz:=Stamp.sz
 cn:=Stamp.cn
 me:=Stamp.me
 z:=Stamp.zero
 zc:=Stamp.cs Stamp.zero none 0 none 0 none 0
 zrd _ _:=Stamp.mk' I64_zero I64_zero (Nat.le_refl 0) (Nat.zero_le _) (Row.nil _ _) (ya8 _) (Nat.le_refl 0) (Nat.zero_le _) (Row.nil _ _) (ya8 _) (Nat.le_refl 0) (Nat.zero_le _) (Row.nil _ _) (ya8 _) (fun _ => by simp [disj])
structure Change where
 id : Int
 name : ByteArray
 value : ByteArray
abbrev Change.tup (x : Change) : Int × ByteArray × ByteArray:=(x.id,x.name,x.value)
instance instChange : Lay Change:=layVia 0 Change.tup
instance slChange : SlTy Change:=⟨0⟩
def Change.cs (x : Change) : List Value:=[.int .i64 x.id, .string x.name, .string x.value]
theorem Change.open {m : Bool} {w : World} {cs : List Value} {x : Change} {S : Blks} (h : rd m w cs x S) : cs = Change.cs x ∧ I64 x.id ∧ x.name.size ≤ maxLen ∧ x.value.size ≤ maxLen:=by
 have h0 : rd m w cs x.tup S:=h
 obtain ⟨c1,rfl,f3,h2⟩:=open_int2 h0
 obtain ⟨c4,rfl,f6,h5⟩:=open_str2 h2
 obtain ⟨rfl,f7⟩:=open_str h5
 exact ⟨rfl,f3,f6,f7⟩
theorem Change.mk' {m : Bool} {w : World} {x : Change} {S : Blks} (f0 : I64 x.id) (f1 : x.name.size ≤ maxLen) (f2 : x.value.size ≤ maxLen) : rd m w (Change.cs x) x S :=
 Lay.mono (show rd m w (Change.cs x) x.tup (fun _ => False) from (mk_int2 f0 (mk_str2 f1 ⟨rfl,f2⟩))) (sub_none _)
def Change.sz (x : Change) : Nat:=x.name.size + x.value.size
def Change.cn (_x : Change) : Nat:=1 + 1 + 1
def Change.me (_x : Change) (k : Nat) : Change:=(⟨((k : Nat) : Int),mtext (k + 1),mtext (k + 1 + 1)⟩ : Change)
def Change.ct (_x : Change) : Nat:=0
def Change.zero : Change:=(⟨0,ByteArray.empty,ByteArray.empty⟩ : Change)
instance mkChange : Mk Change where
 sz:=Change.sz
 cn:=Change.cn
 me:=Change.me
 z:=Change.zero
 zc:=Change.cs Change.zero
 zrd _ _:=Change.mk' I64_zero empty_le empty_le
structure Letter where
 kind : Int
 from_ : Int
 to : Int
 epoch : Int
 try_ : Int
 root : ByteArray
abbrev Letter.tup (x : Letter) : Int × Int × Int × Int × Int × ByteArray:=(x.kind,x.from_,x.to,x.epoch,x.try_,x.root)
instance instLetter : Lay Letter:=layVia 0 Letter.tup
instance slLetter : SlTy Letter:=⟨0⟩
def Letter.cs (x : Letter) : List Value:=[.int .i64 x.kind, .int .i64 x.from_, .int .i64 x.to, .int .i64 x.epoch, .int .i64 x.try_, .string x.root]
theorem Letter.open {m : Bool} {w : World} {cs : List Value} {x : Letter} {S : Blks} (h : rd m w cs x S) : cs = Letter.cs x ∧ I64 x.kind ∧ I64 x.from_ ∧ I64 x.to ∧ I64 x.epoch ∧ I64 x.try_ ∧ x.root.size ≤ maxLen:=by
 have h0 : rd m w cs x.tup S:=h
 obtain ⟨c1,rfl,f3,h2⟩:=open_int2 h0
 obtain ⟨c4,rfl,f6,h5⟩:=open_int2 h2
 obtain ⟨c7,rfl,f9,h8⟩:=open_int2 h5
 obtain ⟨c10,rfl,f12,h11⟩:=open_int2 h8
 obtain ⟨c13,rfl,f15,h14⟩:=open_int2 h11
 obtain ⟨rfl,f16⟩:=open_str h14
 exact ⟨rfl,f3,f6,f9,f12,f15,f16⟩
theorem Letter.mk' {m : Bool} {w : World} {x : Letter} {S : Blks} (f0 : I64 x.kind) (f1 : I64 x.from_) (f2 : I64 x.to) (f3 : I64 x.epoch) (f4 : I64 x.try_) (f5 : x.root.size ≤ maxLen) : rd m w (Letter.cs x) x S :=
 Lay.mono (show rd m w (Letter.cs x) x.tup (fun _ => False) from (mk_int2 f0 (mk_int2 f1 (mk_int2 f2 (mk_int2 f3 (mk_int2 f4 ⟨rfl,f5⟩)))))) (sub_none _)
def Letter.sz (x : Letter) : Nat:=x.root.size
def Letter.cn (_x : Letter) : Nat:=1 + 1 + 1 + 1 + 1 + 1
def Letter.me (_x : Letter) (k : Nat) : Letter:=(⟨((k : Nat) : Int),((k + 1 : Nat) : Int),((k + 1 + 1 : Nat) : Int),((k + 1 + 1 + 1 : Nat) : Int),((k + 1 + 1 + 1 + 1 : Nat) : Int),mtext (k + 1 + 1 + 1 + 1 + 1)⟩ : Letter)
def Letter.ct (_x : Letter) : Nat:=0
def Letter.zero : Letter:=(⟨0,0,0,0,0,ByteArray.empty⟩ : Letter)
instance mkLetter : Mk Letter where
 sz:=Letter.sz
 cn:=Letter.cn
 me:=Letter.me
 z:=Letter.zero
 zc:=Letter.cs Letter.zero
 zrd _ _:=Letter.mk' I64_zero I64_zero I64_zero I64_zero I64_zero empty_le
structure Pair where
 a : Seal
 b : Seal
abbrev Pair.tup (x : Pair) : Seal × Seal:=(x.a,x.b)
instance instPair : Lay Pair:=layVia 79 Pair.tup
instance slPair : SlTy Pair:=⟨31⟩
def Pair.cs (x : Pair) (A0 : Option Addr) (k0 : Nat) (A1 : Option Addr) (k1 : Nat) (A2 : Option Addr) (k2 : Nat) (A3 : Option Addr) (k3 : Nat) (A4 : Option Addr) (k4 : Nat) (A5 : Option Addr) (k5 : Nat) : List Value:=[.int .i64 x.a.head.house, .int .i64 x.a.head.epoch, .string x.a.head.root, .string x.a.head.prev, .int .i64 x.a.sig.at_, .slice A0 x.a.sig.open_.length k0, .slice A1 x.a.sig.shut.length k1, .slice A2 x.a.sig.sides.length k2, .int .i64 x.b.head.house, .int .i64 x.b.head.epoch, .string x.b.head.root, .string x.b.head.prev, .int .i64 x.b.sig.at_, .slice A3 x.b.sig.open_.length k3, .slice A4 x.b.sig.shut.length k4, .slice A5 x.b.sig.sides.length k5]
theorem Pair.open {m : Bool} {w : World} {cs : List Value} {x : Pair} {S : Blks} (h : rd m w cs x S) : ∃ A0 k0 S0 A1 k1 S1 A2 k2 S2 A3 k3 S3 A4 k4 S4 A5 k5 S5,cs = Pair.cs x A0 k0 A1 k1 A2 k2 A3 k3 A4 k4 A5 k5 ∧ I64 x.a.head.house ∧ I64 x.a.head.epoch ∧ x.a.head.root.size ≤ maxLen ∧ x.a.head.prev.size ≤ maxLen ∧ I64 x.a.sig.at_ ∧ I64 x.b.head.house ∧ I64 x.b.head.epoch ∧ x.b.head.root.size ≤ maxLen ∧ x.b.head.prev.size ≤ maxLen ∧ I64 x.b.sig.at_ ∧ x.a.sig.open_.length ≤ k0 ∧ k0 ≤ maxLen ∧ Row m w A0 k0 x.a.sig.open_ S0 ∧ sub S0 S ∧ x.a.sig.shut.length ≤ k1 ∧ k1 ≤ maxLen ∧ Row m w A1 k1 x.a.sig.shut S1 ∧ sub S1 S ∧ x.a.sig.sides.length ≤ k2 ∧ k2 ≤ maxLen ∧ Row m w A2 k2 x.a.sig.sides S2 ∧ sub S2 S ∧ x.b.sig.open_.length ≤ k3 ∧ k3 ≤ maxLen ∧ Row m w A3 k3 x.b.sig.open_ S3 ∧ sub S3 S ∧ x.b.sig.shut.length ≤ k4 ∧ k4 ≤ maxLen ∧ Row m w A4 k4 x.b.sig.shut S4 ∧ sub S4 S ∧ x.b.sig.sides.length ≤ k5 ∧ k5 ≤ maxLen ∧ Row m w A5 k5 x.b.sig.sides S5 ∧ sub S5 S ∧ (m = true → List.Pairwise disj [S0,S1,S2,S3,S4,S5]):=by
 have h0 : rd m w cs x.tup S:=h
 obtain ⟨c1,c2,P3,R4,rfl,s5,s6,d7,h8,h9⟩:=open_two h0
 obtain ⟨A0,k0,S0,A1,k1,S1,A2,k2,S2,rfl,f10,f11,f12,f13,f14,g15,g16,g17,s18,g19,g20,g21,s22,g23,g24,g25,s26,pw27⟩:=Seal.open h8
 obtain ⟨A3,k3,S3,A4,k4,S4,A5,k5,S5,rfl,f28,f29,f30,f31,f32,g33,g34,g35,s36,g37,g38,g39,s40,g41,g42,g43,s44,pw45⟩:=Seal.open h9
 exact ⟨A0,k0,S0,A1,k1,S1,A2,k2,S2,A3,k3,S3,A4,k4,S4,A5,k5,S5,rfl,f10,f11,f12,f13,f14,f28,f29,f30,f31,f32,g15,g16,g17,(ya6 s18 s5),g19,g20,g21,(ya6 s22 s5),g23,g24,g25,(ya6 s26 s5),g33,g34,g35,(ya6 s36 s6),g37,g38,g39,(ya6 s40 s6),g41,g42,g43,(ya6 s44 s6),fun _hm => pwmk6 (pwget3_0_1 (pw27 _hm)) (pwget3_0_2 (pw27 _hm)) (disj_sub (d7 _hm) s18 s36) (disj_sub (d7 _hm) s18 s40) (disj_sub (d7 _hm) s18 s44) (pwget3_1_2 (pw27 _hm)) (disj_sub (d7 _hm) s22 s36) (disj_sub (d7 _hm) s22 s40) (disj_sub (d7 _hm) s22 s44) (disj_sub (d7 _hm) s26 s36) (disj_sub (d7 _hm) s26 s40) (disj_sub (d7 _hm) s26 s44) (pwget3_0_1 (pw45 _hm)) (pwget3_0_2 (pw45 _hm)) (pwget3_1_2 (pw45 _hm))⟩
theorem Pair.mk' {m : Bool} {w : World} {x : Pair} {S : Blks} (f0 : I64 x.a.head.house) (f1 : I64 x.a.head.epoch) (f2 : x.a.head.root.size ≤ maxLen) (f3 : x.a.head.prev.size ≤ maxLen) (f4 : I64 x.a.sig.at_) {A0 : Option Addr} {k0 : Nat} {S0 : Blks} (a0 : x.a.sig.open_.length ≤ k0) (b0 : k0 ≤ maxLen) (r0 : Row m w A0 k0 x.a.sig.open_ S0) (s0 : sub S0 S) {A1 : Option Addr} {k1 : Nat} {S1 : Blks} (a1 : x.a.sig.shut.length ≤ k1) (b1 : k1 ≤ maxLen) (r1 : Row m w A1 k1 x.a.sig.shut S1) (s1 : sub S1 S) {A2 : Option Addr} {k2 : Nat} {S2 : Blks} (a2 : x.a.sig.sides.length ≤ k2) (b2 : k2 ≤ maxLen) (r2 : Row m w A2 k2 x.a.sig.sides S2) (s2 : sub S2 S) (f8 : I64 x.b.head.house) (f9 : I64 x.b.head.epoch) (f10 : x.b.head.root.size ≤ maxLen) (f11 : x.b.head.prev.size ≤ maxLen) (f12 : I64 x.b.sig.at_) {A3 : Option Addr} {k3 : Nat} {S3 : Blks} (a3 : x.b.sig.open_.length ≤ k3) (b3 : k3 ≤ maxLen) (r3 : Row m w A3 k3 x.b.sig.open_ S3) (s3 : sub S3 S) {A4 : Option Addr} {k4 : Nat} {S4 : Blks} (a4 : x.b.sig.shut.length ≤ k4) (b4 : k4 ≤ maxLen) (r4 : Row m w A4 k4 x.b.sig.shut S4) (s4 : sub S4 S) {A5 : Option Addr} {k5 : Nat} {S5 : Blks} (a5 : x.b.sig.sides.length ≤ k5) (b5 : k5 ≤ maxLen) (r5 : Row m w A5 k5 x.b.sig.sides S5) (s5 : sub S5 S) (pw : m = true → List.Pairwise disj [S0,S1,S2,S3,S4,S5]) : rd m w (Pair.cs x A0 k0 A1 k1 A2 k2 A3 k3 A4 k4 A5 k5) x S :=
 Lay.mono (show rd m w (Pair.cs x A0 k0 A1 k1 A2 k2 A3 k3 A4 k4 A5 k5) x.tup (un S0 (un S1 (un S2 (un S3 (un S4 S5))))) from ⟨Seal.cs x.a A0 k0 A1 k1 A2 k2,_,(un S0 (un S1 S2)),(un S3 (un S4 S5)),rfl,(un_sub (un_left _ _) (un_sub (ya6 (un_left _ _) (un_right _ _)) (ya6 (ya6 (un_left _ _) (un_right _ _)) (un_right _ _)))),(un_sub (ya6 (ya6 (ya6 (un_left _ _) (un_right _ _)) (un_right _ _)) (un_right _ _)) (un_sub (ya6 (ya6 (ya6 (ya6 (un_left _ _) (un_right _ _)) (un_right _ _)) (un_right _ _)) (un_right _ _)) (ya6 (ya6 (ya6 (ya6 (ya6 (ya8 _) (un_right _ _)) (un_right _ _)) (un_right _ _)) (un_right _ _)) (un_right _ _)))),(fun _hm => (un_disj (disj_un (pwget6_0_3 (pw _hm)) (disj_un (pwget6_0_4 (pw _hm)) (pwget6_0_5 (pw _hm)))) (un_disj (disj_un (pwget6_1_3 (pw _hm)) (disj_un (pwget6_1_4 (pw _hm)) (pwget6_1_5 (pw _hm)))) (disj_un (pwget6_2_3 (pw _hm)) (disj_un (pwget6_2_4 (pw _hm)) (pwget6_2_5 (pw _hm))))))),(Seal.mk' f0 f1 f2 f3 f4 a0 b0 r0 (un_left _ _) a1 b1 r1 (ya6 (un_left _ _) (un_right _ _)) a2 b2 r2 (ya6 (ya6 (ya8 _) (un_right _ _)) (un_right _ _)) (fun _hm => pwmk3 (pwget6_0_1 (pw _hm)) (pwget6_0_2 (pw _hm)) (pwget6_1_2 (pw _hm)))),(Seal.mk' f8 f9 f10 f11 f12 a3 b3 r3 (un_left _ _) a4 b4 r4 (ya6 (un_left _ _) (un_right _ _)) a5 b5 r5 (ya6 (ya6 (ya8 _) (un_right _ _)) (un_right _ _)) (fun _hm => pwmk3 (pwget6_3_4 (pw _hm)) (pwget6_3_5 (pw _hm)) (pwget6_4_5 (pw _hm))))⟩) ((un_sub s0 (un_sub s1 (un_sub s2 (un_sub s3 (un_sub s4 s5))))))
def Pair.sz (x : Pair) : Nat:=x.a.sz + x.b.sz
def Pair.cn (x : Pair) : Nat:=1 + 1 + 1 + 1 + 1 + cnL x.a.sig.open_ + cnL x.a.sig.shut + cnL x.a.sig.sides + 1 + 1 + 1 + 1 + 1 + cnL x.b.sig.open_ + cnL x.b.sig.shut + cnL x.b.sig.sides
def Pair.me (x : Pair) (k : Nat) : Pair:=(⟨(⟨(⟨((k : Nat) : Int),((k + 1 : Nat) : Int),mtext (k + 1 + 1),mtext (k + 1 + 1 + 1)⟩ : Head),(⟨((k + 1 + 1 + 1 + 1 : Nat) : Int),meL x.a.sig.open_ (k + 1 + 1 + 1 + 1 + 1),meL x.a.sig.shut (k + 1 + 1 + 1 + 1 + 1 + cnL x.a.sig.open_),meL x.a.sig.sides (k + 1 + 1 + 1 + 1 + 1 + cnL x.a.sig.open_ + cnL x.a.sig.shut)⟩ : Sig)⟩ : Seal),(⟨(⟨((k + 1 + 1 + 1 + 1 + 1 + cnL x.a.sig.open_ + cnL x.a.sig.shut + cnL x.a.sig.sides : Nat) : Int),((k + 1 + 1 + 1 + 1 + 1 + cnL x.a.sig.open_ + cnL x.a.sig.shut + cnL x.a.sig.sides + 1 : Nat) : Int),mtext (k + 1 + 1 + 1 + 1 + 1 + cnL x.a.sig.open_ + cnL x.a.sig.shut + cnL x.a.sig.sides + 1 + 1),mtext (k + 1 + 1 + 1 + 1 + 1 + cnL x.a.sig.open_ + cnL x.a.sig.shut + cnL x.a.sig.sides + 1 + 1 + 1)⟩ : Head),(⟨((k + 1 + 1 + 1 + 1 + 1 + cnL x.a.sig.open_ + cnL x.a.sig.shut + cnL x.a.sig.sides + 1 + 1 + 1 + 1 : Nat) : Int),meL x.b.sig.open_ (k + 1 + 1 + 1 + 1 + 1 + cnL x.a.sig.open_ + cnL x.a.sig.shut + cnL x.a.sig.sides + 1 + 1 + 1 + 1 + 1),meL x.b.sig.shut (k + 1 + 1 + 1 + 1 + 1 + cnL x.a.sig.open_ + cnL x.a.sig.shut + cnL x.a.sig.sides + 1 + 1 + 1 + 1 + 1 + cnL x.b.sig.open_),meL x.b.sig.sides (k + 1 + 1 + 1 + 1 + 1 + cnL x.a.sig.open_ + cnL x.a.sig.shut + cnL x.a.sig.sides + 1 + 1 + 1 + 1 + 1 + cnL x.b.sig.open_ + cnL x.b.sig.shut)⟩ : Sig)⟩ : Seal)⟩ : Pair)
def Pair.ct (x : Pair) : Nat:=cnL x.a.sig.open_ + cnL x.a.sig.shut + cnL x.a.sig.sides + cnL x.b.sig.open_ + cnL x.b.sig.shut + cnL x.b.sig.sides
def Pair.zero : Pair:=(⟨(⟨(⟨0,0,ByteArray.empty,ByteArray.empty⟩ : Head),(⟨0, [], [], []⟩ : Sig)⟩ : Seal),(⟨(⟨0,0,ByteArray.empty,ByteArray.empty⟩ : Head),(⟨0, [], [], []⟩ : Sig)⟩ : Seal)⟩ : Pair)
instance mkPair : Mk Pair where
 sz:=Pair.sz
 cn:=Pair.cn
 me:=Pair.me
 z:=Pair.zero
 zc:=Pair.cs Pair.zero none 0 none 0 none 0 none 0 none 0 none 0
 zrd _ _:=Pair.mk' I64_zero I64_zero empty_le empty_le I64_zero (Nat.le_refl 0) (Nat.zero_le _) (Row.nil _ _) (ya8 _) (Nat.le_refl 0) (Nat.zero_le _) (Row.nil _ _) (ya8 _) (Nat.le_refl 0) (Nat.zero_le _) (Row.nil _ _) (ya8 _) I64_zero I64_zero empty_le empty_le I64_zero (Nat.le_refl 0) (Nat.zero_le _) (Row.nil _ _) (ya8 _) (Nat.le_refl 0) (Nat.zero_le _) (Row.nil _ _) (ya8 _) (Nat.le_refl 0) (Nat.zero_le _) (Row.nil _ _) (ya8 _) (fun _ => by simp [disj])
structure Auditor where
 house : Int
 up : Bool
 disk : Disk
 pool : List ByteArray
 pins : List Seal
 pairs : List Pair
abbrev Auditor.tup (x : Auditor) : Int × Bool × Disk × (List ByteArray) × (List Seal) × (List Pair):=(x.house,x.up,x.disk,x.pool,x.pins,x.pairs)
instance instAuditor : Lay Auditor:=layVia 33 Auditor.tup
instance slAuditor : SlTy Auditor:=⟨0⟩
def Auditor.cs (x : Auditor) (A0 : Option Addr) (k0 : Nat) (A1 : Option Addr) (k1 : Nat) (A2 : Option Addr) (k2 : Nat) (A3 : Option Addr) (k3 : Nat) : List Value:=[.int .i64 x.house, .bool x.up, .slice A0 x.disk.files.length k0, .slice A1 x.pool.length k1, .slice A2 x.pins.length k2, .slice A3 x.pairs.length k3]
theorem Auditor.open {m : Bool} {w : World} {cs : List Value} {x : Auditor} {S : Blks} (h : rd m w cs x S) : ∃ A0 k0 S0 A1 k1 S1 A2 k2 S2 A3 k3 S3,cs = Auditor.cs x A0 k0 A1 k1 A2 k2 A3 k3 ∧ I64 x.house ∧ x.disk.files.length ≤ k0 ∧ k0 ≤ maxLen ∧ Row m w A0 k0 x.disk.files S0 ∧ sub S0 S ∧ x.pool.length ≤ k1 ∧ k1 ≤ maxLen ∧ Row m w A1 k1 x.pool S1 ∧ sub S1 S ∧ x.pins.length ≤ k2 ∧ k2 ≤ maxLen ∧ Row m w A2 k2 x.pins S2 ∧ sub S2 S ∧ x.pairs.length ≤ k3 ∧ k3 ≤ maxLen ∧ Row m w A3 k3 x.pairs S3 ∧ sub S3 S ∧ (m = true → List.Pairwise disj [S0,S1,S2,S3]):=by
 have h0 : rd m w cs x.tup S:=h
 obtain ⟨c1,rfl,f3,h2⟩:=open_int2 h0
 obtain ⟨c4,rfl,h5⟩:=open_bool2 h2
 obtain ⟨c6,c7,P8,R9,rfl,s10,s11,d12,h13,h14⟩:=open_two h5
 obtain ⟨A0,k0,S0,rfl,g15,g16,g17,s18⟩:=Disk.open h13
 obtain ⟨A1,k1,c22,S1,R23,rfl,g19,g20,g21,s24,s25,d26,h27⟩:=open_list2 h14
 obtain ⟨A2,k2,c31,S2,R32,rfl,g28,g29,g30,s33,s34,d35,h36⟩:=open_list2 h27
 obtain ⟨A3,k3,rfl,g37,g38,g39⟩:=open_list h36
 exact ⟨A0,k0,S0,A1,k1,S1,A2,k2,S2,A3,k3,_,rfl,f3,g15,g16,g17,(ya6 s18 s10),g19,g20,g21,(ya6 s24 s11),g28,g29,g30,(ya6 (ya6 s33 s25) s11),g37,g38,g39,(ya6 (ya6 s34 s25) s11),fun _hm => pwmk4 (disj_sub (d12 _hm) s18 s24) (disj_sub (d12 _hm) s18 (ya6 s33 s25)) (disj_sub (d12 _hm) s18 (ya6 s34 s25)) (disj_sub (d26 _hm) (ya8 _) s33) (disj_sub (d26 _hm) (ya8 _) s34) (disj_sub (d35 _hm) (ya8 _) (ya8 _))⟩
theorem Auditor.mk' {m : Bool} {w : World} {x : Auditor} {S : Blks} (f0 : I64 x.house) {A0 : Option Addr} {k0 : Nat} {S0 : Blks} (a0 : x.disk.files.length ≤ k0) (b0 : k0 ≤ maxLen) (r0 : Row m w A0 k0 x.disk.files S0) (s0 : sub S0 S) {A1 : Option Addr} {k1 : Nat} {S1 : Blks} (a1 : x.pool.length ≤ k1) (b1 : k1 ≤ maxLen) (r1 : Row m w A1 k1 x.pool S1) (s1 : sub S1 S) {A2 : Option Addr} {k2 : Nat} {S2 : Blks} (a2 : x.pins.length ≤ k2) (b2 : k2 ≤ maxLen) (r2 : Row m w A2 k2 x.pins S2) (s2 : sub S2 S) {A3 : Option Addr} {k3 : Nat} {S3 : Blks} (a3 : x.pairs.length ≤ k3) (b3 : k3 ≤ maxLen) (r3 : Row m w A3 k3 x.pairs S3) (s3 : sub S3 S) (pw : m = true → List.Pairwise disj [S0,S1,S2,S3]) : rd m w (Auditor.cs x A0 k0 A1 k1 A2 k2 A3 k3) x S :=
 Lay.mono (show rd m w (Auditor.cs x A0 k0 A1 k1 A2 k2 A3 k3) x.tup (un S0 (un S1 (un S2 S3))) from (mk_int2 f0 (mk_bool2 ⟨Disk.cs x.disk A0 k0,_,S0,(un S1 (un S2 S3)),rfl,(un_left _ _),(un_sub (ya6 (un_left _ _) (un_right _ _)) (un_sub (ya6 (ya6 (un_left _ _) (un_right _ _)) (un_right _ _)) (ya6 (ya6 (ya6 (ya8 _) (un_right _ _)) (un_right _ _)) (un_right _ _)))),(fun _hm => (disj_un (pwget4_0_1 (pw _hm)) (disj_un (pwget4_0_2 (pw _hm)) (pwget4_0_3 (pw _hm))))),(Disk.mk' a0 b0 r0 (ya8 _)),⟨[_],_,S1,(un S2 S3),rfl,(un_left _ _),(un_sub (ya6 (un_left _ _) (un_right _ _)) (ya6 (ya6 (ya8 _) (un_right _ _)) (un_right _ _))),(fun _hm => (disj_un (pwget4_1_2 (pw _hm)) (pwget4_1_3 (pw _hm)))),⟨_,_,rfl,a1,b1,r1⟩,⟨[_],_,S2,S3,rfl,(un_left _ _),(ya6 (ya8 _) (un_right _ _)),(fun _hm => (pwget4_2_3 (pw _hm))),⟨_,_,rfl,a2,b2,r2⟩,⟨_,_,rfl,a3,b3,r3⟩⟩⟩⟩))) ((un_sub s0 (un_sub s1 (un_sub s2 s3))))
def Auditor.sz (x : Auditor) : Nat:=x.disk.sz + szL x.pool + szL x.pins + szL x.pairs
def Auditor.cn (x : Auditor) : Nat:=1 + 1 + cnL x.disk.files + cnL x.pool + cnL x.pins + cnL x.pairs
def Auditor.me (x : Auditor) (k : Nat) : Auditor:=(⟨((k : Nat) : Int),(((k + 1 : Nat) : Int) % 3 == 0),(⟨meL x.disk.files (k + 1 + 1)⟩ : Disk),meL x.pool (k + 1 + 1 + cnL x.disk.files),meL x.pins (k + 1 + 1 + cnL x.disk.files + cnL x.pool),meL x.pairs (k + 1 + 1 + cnL x.disk.files + cnL x.pool + cnL x.pins)⟩ : Auditor)
def Auditor.ct (x : Auditor) : Nat:=cnL x.disk.files + cnL x.pool + cnL x.pins + cnL x.pairs
def Auditor.zero : Auditor:=(⟨0,false,(⟨[]⟩ : Disk), [], [], []⟩ : Auditor)
instance mkAuditor : Mk Auditor where
 sz:=Auditor.sz
 cn:=Auditor.cn
 me:=Auditor.me
 z:=Auditor.zero
 zc:=Auditor.cs Auditor.zero none 0 none 0 none 0 none 0
 zrd _ _:=Auditor.mk' I64_zero (Nat.le_refl 0) (Nat.zero_le _) (Row.nil _ _) (ya8 _) (Nat.le_refl 0) (Nat.zero_le _) (Row.nil _ _) (ya8 _) (Nat.le_refl 0) (Nat.zero_le _) (Row.nil _ _) (ya8 _) (Nat.le_refl 0) (Nat.zero_le _) (Row.nil _ _) (ya8 _) (fun _ => by simp [disj])
end Go.Proofs.YtlfnmbcnehaikaaGreatDoor
