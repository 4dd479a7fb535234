/- A part of the proof. -/
import Derived.Test.YtcbbjfafmmcfiaaGreatDoorHAqMk
set_option linter.unusedVariables false
set_option linter.unusedSimpArgs false
namespace Go.Proofs.YtcbbjfafmmcfiaaGreatDoor
open Go.RowKit Lay Mk
instance slInt:SlTy Int:=⟨26⟩
instance slBool:SlTy Bool:=⟨121⟩
instance slStr:SlTy ByteArray:=⟨34⟩
theorem I64_zero:I64 0:=by unfold I64; omega
theorem empty_le:ByteArray.empty.size≤maxLen:=by decide
theorem Row.nil {α:Type} [Lay α] (m:Bool) (w:World) {S:Blks}:Row (α:=α) m w none 0 [] S:=by cases m; exact fun h => absurd rfl h; exact .inl ⟨rfl,rfl,rfl⟩
def un (A B:Blks):Blks:=fun b => A b∨B b
theorem yad (A B:Blks):sub A (un A B):=fun _ h => .inl h
theorem ya2 (A B:Blks):sub B (un A B):=fun _ h => .inr h
theorem un_sub {A B S:Blks} (h:sub A S) (k:sub B S):sub (un A B) S:=fun b x => x.elim (h b) (k b)
theorem sub_none (S:Blks):sub (fun _ => False) S:=fun _ x => x.elim
theorem disj_none (S:Blks):disj S (fun _ => False):=fun _ _ x => x
theorem disj_un {A B C:Blks} (h:disj A B) (k:disj A C):disj A (un B C):=fun b x y => y.elim (h b x) (k b x)
theorem un_disj {A B C:Blks} (h:disj A C) (k:disj B C):disj (un A B) C:=fun b x y => x.elim (fun z => h b z y) (fun z => k b z y)
theorem zpw {L:List Blks} (i j:Nat) (h:List.Pairwise disj L) (hi:i<L.length:=by simp) (hj:j<L.length:=by simp) (hij:i<j:=by omega):disj L[i] L[j]:=List.pairwise_iff_getElem.1 h i j hi hj hij
variable {S0 S1 S2 S3 S4 S5 S6 S7 S8 S9 S10 S11 S12 S13 S14 S15:Blks}
theorem pwget2_0_1 (h:List.Pairwise disj [S0,S1]):disj S0 S1:=zpw 0 1 h
theorem pwmk2 {S0 S1:Blks} (h0_1:disj S0 S1):List.Pairwise disj [S0,S1]:=by
 simp only [List.pairwise_cons,List.mem_cons,List.not_mem_nil,or_false,forall_eq_or_imp,forall_eq,List.Pairwise.nil,and_true,false_implies,implies_true]
 exact h0_1
theorem pwget3_0_1 (h:List.Pairwise disj [S0,S1,S2]):disj S0 S1:=zpw 0 1 h
theorem pwget3_0_2 (h:List.Pairwise disj [S0,S1,S2]):disj S0 S2:=zpw 0 2 h
theorem pwget3_1_2 (h:List.Pairwise disj [S0,S1,S2]):disj S1 S2:=zpw 1 2 h
theorem pwmk3 {S0 S1 S2:Blks} (h0_1:disj S0 S1) (h0_2:disj S0 S2) (h1_2:disj S1 S2):List.Pairwise disj [S0,S1,S2]:=by
 simp only [List.pairwise_cons,List.mem_cons,List.not_mem_nil,or_false,forall_eq_or_imp,forall_eq,List.Pairwise.nil,and_true,false_implies,implies_true]
 exact ⟨⟨h0_1,h0_2⟩,h1_2⟩
theorem pwget4_0_1 (h:List.Pairwise disj [S0,S1,S2,S3]):disj S0 S1:=zpw 0 1 h
theorem pwget4_0_2 (h:List.Pairwise disj [S0,S1,S2,S3]):disj S0 S2:=zpw 0 2 h
theorem pwget4_0_3 (h:List.Pairwise disj [S0,S1,S2,S3]):disj S0 S3:=zpw 0 3 h
theorem pwget4_1_2 (h:List.Pairwise disj [S0,S1,S2,S3]):disj S1 S2:=zpw 1 2 h
theorem pwget4_1_3 (h:List.Pairwise disj [S0,S1,S2,S3]):disj S1 S3:=zpw 1 3 h
theorem pwget4_2_3 (h:List.Pairwise disj [S0,S1,S2,S3]):disj S2 S3:=zpw 2 3 h
theorem pwmk4 {S0 S1 S2 S3:Blks} (h0_1:disj S0 S1) (h0_2:disj S0 S2) (h0_3:disj S0 S3) (h1_2:disj S1 S2) (h1_3:disj S1 S3) (h2_3:disj S2 S3):List.Pairwise disj [S0,S1,S2,S3]:=by
 simp only [List.pairwise_cons,List.mem_cons,List.not_mem_nil,or_false,forall_eq_or_imp,forall_eq,List.Pairwise.nil,and_true,false_implies,implies_true]
 exact ⟨⟨h0_1,h0_2,h0_3⟩,⟨h1_2,h1_3⟩,h2_3⟩
theorem pwget6_0_1 (h:List.Pairwise disj [S0,S1,S2,S3,S4,S5]):disj S0 S1:=zpw 0 1 h
theorem pwget6_0_2 (h:List.Pairwise disj [S0,S1,S2,S3,S4,S5]):disj S0 S2:=zpw 0 2 h
theorem pwget6_0_3 (h:List.Pairwise disj [S0,S1,S2,S3,S4,S5]):disj S0 S3:=zpw 0 3 h
theorem pwget6_0_4 (h:List.Pairwise disj [S0,S1,S2,S3,S4,S5]):disj S0 S4:=zpw 0 4 h
theorem pwget6_0_5 (h:List.Pairwise disj [S0,S1,S2,S3,S4,S5]):disj S0 S5:=zpw 0 5 h
theorem pwget6_1_2 (h:List.Pairwise disj [S0,S1,S2,S3,S4,S5]):disj S1 S2:=zpw 1 2 h
theorem pwget6_1_3 (h:List.Pairwise disj [S0,S1,S2,S3,S4,S5]):disj S1 S3:=zpw 1 3 h
theorem pwget6_1_4 (h:List.Pairwise disj [S0,S1,S2,S3,S4,S5]):disj S1 S4:=zpw 1 4 h
theorem pwget6_1_5 (h:List.Pairwise disj [S0,S1,S2,S3,S4,S5]):disj S1 S5:=zpw 1 5 h
theorem pwget6_2_3 (h:List.Pairwise disj [S0,S1,S2,S3,S4,S5]):disj S2 S3:=zpw 2 3 h
theorem pwget6_2_4 (h:List.Pairwise disj [S0,S1,S2,S3,S4,S5]):disj S2 S4:=zpw 2 4 h
theorem pwget6_2_5 (h:List.Pairwise disj [S0,S1,S2,S3,S4,S5]):disj S2 S5:=zpw 2 5 h
theorem pwget6_3_4 (h:List.Pairwise disj [S0,S1,S2,S3,S4,S5]):disj S3 S4:=zpw 3 4 h
theorem pwget6_3_5 (h:List.Pairwise disj [S0,S1,S2,S3,S4,S5]):disj S3 S5:=zpw 3 5 h
theorem pwget6_4_5 (h:List.Pairwise disj [S0,S1,S2,S3,S4,S5]):disj S4 S5:=zpw 4 5 h
theorem pwmk6 {S0 S1 S2 S3 S4 S5:Blks} (h0_1:disj S0 S1) (h0_2:disj S0 S2) (h0_3:disj S0 S3) (h0_4:disj S0 S4) (h0_5:disj S0 S5) (h1_2:disj S1 S2) (h1_3:disj S1 S3) (h1_4:disj S1 S4) (h1_5:disj S1 S5) (h2_3:disj S2 S3) (h2_4:disj S2 S4) (h2_5:disj S2 S5) (h3_4:disj S3 S4) (h3_5:disj S3 S5) (h4_5:disj S4 S5):List.Pairwise disj [S0,S1,S2,S3,S4,S5]:=by
 simp only [List.pairwise_cons,List.mem_cons,List.not_mem_nil,or_false,forall_eq_or_imp,forall_eq,List.Pairwise.nil,and_true,false_implies,implies_true]
 exact ⟨⟨h0_1,h0_2,h0_3,h0_4,h0_5⟩,⟨h1_2,h1_3,h1_4,h1_5⟩,⟨h2_3,h2_4,h2_5⟩,⟨h3_4,h3_5⟩,h4_5⟩
theorem pwget7_0_1 (h:List.Pairwise disj [S0,S1,S2,S3,S4,S5,S6]):disj S0 S1:=zpw 0 1 h
theorem pwget7_0_2 (h:List.Pairwise disj [S0,S1,S2,S3,S4,S5,S6]):disj S0 S2:=zpw 0 2 h
theorem pwget7_0_3 (h:List.Pairwise disj [S0,S1,S2,S3,S4,S5,S6]):disj S0 S3:=zpw 0 3 h
theorem pwget7_0_4 (h:List.Pairwise disj [S0,S1,S2,S3,S4,S5,S6]):disj S0 S4:=zpw 0 4 h
theorem pwget7_0_5 (h:List.Pairwise disj [S0,S1,S2,S3,S4,S5,S6]):disj S0 S5:=zpw 0 5 h
theorem pwget7_0_6 (h:List.Pairwise disj [S0,S1,S2,S3,S4,S5,S6]):disj S0 S6:=zpw 0 6 h
theorem pwget7_1_2 (h:List.Pairwise disj [S0,S1,S2,S3,S4,S5,S6]):disj S1 S2:=zpw 1 2 h
theorem pwget7_1_3 (h:List.Pairwise disj [S0,S1,S2,S3,S4,S5,S6]):disj S1 S3:=zpw 1 3 h
theorem pwget7_1_4 (h:List.Pairwise disj [S0,S1,S2,S3,S4,S5,S6]):disj S1 S4:=zpw 1 4 h
theorem pwget7_1_5 (h:List.Pairwise disj [S0,S1,S2,S3,S4,S5,S6]):disj S1 S5:=zpw 1 5 h
theorem pwget7_1_6 (h:List.Pairwise disj [S0,S1,S2,S3,S4,S5,S6]):disj S1 S6:=zpw 1 6 h
theorem pwget7_2_3 (h:List.Pairwise disj [S0,S1,S2,S3,S4,S5,S6]):disj S2 S3:=zpw 2 3 h
theorem pwget7_2_4 (h:List.Pairwise disj [S0,S1,S2,S3,S4,S5,S6]):disj S2 S4:=zpw 2 4 h
theorem pwget7_2_5 (h:List.Pairwise disj [S0,S1,S2,S3,S4,S5,S6]):disj S2 S5:=zpw 2 5 h
theorem pwget7_2_6 (h:List.Pairwise disj [S0,S1,S2,S3,S4,S5,S6]):disj S2 S6:=zpw 2 6 h
theorem pwget7_3_4 (h:List.Pairwise disj [S0,S1,S2,S3,S4,S5,S6]):disj S3 S4:=zpw 3 4 h
theorem pwget7_3_5 (h:List.Pairwise disj [S0,S1,S2,S3,S4,S5,S6]):disj S3 S5:=zpw 3 5 h
theorem pwget7_3_6 (h:List.Pairwise disj [S0,S1,S2,S3,S4,S5,S6]):disj S3 S6:=zpw 3 6 h
theorem pwget7_4_5 (h:List.Pairwise disj [S0,S1,S2,S3,S4,S5,S6]):disj S4 S5:=zpw 4 5 h
theorem pwget7_4_6 (h:List.Pairwise disj [S0,S1,S2,S3,S4,S5,S6]):disj S4 S6:=zpw 4 6 h
theorem pwget7_5_6 (h:List.Pairwise disj [S0,S1,S2,S3,S4,S5,S6]):disj S5 S6:=zpw 5 6 h
theorem pwmk7 {S0 S1 S2 S3 S4 S5 S6:Blks} (h0_1:disj S0 S1) (h0_2:disj S0 S2) (h0_3:disj S0 S3) (h0_4:disj S0 S4) (h0_5:disj S0 S5) (h0_6:disj S0 S6) (h1_2:disj S1 S2) (h1_3:disj S1 S3) (h1_4:disj S1 S4) (h1_5:disj S1 S5) (h1_6:disj S1 S6) (h2_3:disj S2 S3) (h2_4:disj S2 S4) (h2_5:disj S2 S5) (h2_6:disj S2 S6) (h3_4:disj S3 S4) (h3_5:disj S3 S5) (h3_6:disj S3 S6) (h4_5:disj S4 S5) (h4_6:disj S4 S6) (h5_6:disj S5 S6):List.Pairwise disj [S0,S1,S2,S3,S4,S5,S6]:=by
 simp only [List.pairwise_cons,List.mem_cons,List.not_mem_nil,or_false,forall_eq_or_imp,forall_eq,List.Pairwise.nil,and_true,false_implies,implies_true]
 exact ⟨⟨h0_1,h0_2,h0_3,h0_4,h0_5,h0_6⟩,⟨h1_2,h1_3,h1_4,h1_5,h1_6⟩,⟨h2_3,h2_4,h2_5,h2_6⟩,⟨h3_4,h3_5,h3_6⟩,⟨h4_5,h4_6⟩,h5_6⟩
theorem pwget9_0_1 (h:List.Pairwise disj [S0,S1,S2,S3,S4,S5,S6,S7,S8]):disj S0 S1:=zpw 0 1 h
theorem pwget9_0_2 (h:List.Pairwise disj [S0,S1,S2,S3,S4,S5,S6,S7,S8]):disj S0 S2:=zpw 0 2 h
theorem pwget9_0_3 (h:List.Pairwise disj [S0,S1,S2,S3,S4,S5,S6,S7,S8]):disj S0 S3:=zpw 0 3 h
theorem pwget9_0_4 (h:List.Pairwise disj [S0,S1,S2,S3,S4,S5,S6,S7,S8]):disj S0 S4:=zpw 0 4 h
theorem pwget9_0_5 (h:List.Pairwise disj [S0,S1,S2,S3,S4,S5,S6,S7,S8]):disj S0 S5:=zpw 0 5 h
theorem pwget9_0_6 (h:List.Pairwise disj [S0,S1,S2,S3,S4,S5,S6,S7,S8]):disj S0 S6:=zpw 0 6 h
theorem pwget9_0_7 (h:List.Pairwise disj [S0,S1,S2,S3,S4,S5,S6,S7,S8]):disj S0 S7:=zpw 0 7 h
theorem pwget9_0_8 (h:List.Pairwise disj [S0,S1,S2,S3,S4,S5,S6,S7,S8]):disj S0 S8:=zpw 0 8 h
theorem pwget9_1_2 (h:List.Pairwise disj [S0,S1,S2,S3,S4,S5,S6,S7,S8]):disj S1 S2:=zpw 1 2 h
theorem pwget9_1_3 (h:List.Pairwise disj [S0,S1,S2,S3,S4,S5,S6,S7,S8]):disj S1 S3:=zpw 1 3 h
theorem pwget9_1_4 (h:List.Pairwise disj [S0,S1,S2,S3,S4,S5,S6,S7,S8]):disj S1 S4:=zpw 1 4 h
theorem pwget9_1_5 (h:List.Pairwise disj [S0,S1,S2,S3,S4,S5,S6,S7,S8]):disj S1 S5:=zpw 1 5 h
theorem pwget9_1_6 (h:List.Pairwise disj [S0,S1,S2,S3,S4,S5,S6,S7,S8]):disj S1 S6:=zpw 1 6 h
theorem pwget9_1_7 (h:List.Pairwise disj [S0,S1,S2,S3,S4,S5,S6,S7,S8]):disj S1 S7:=zpw 1 7 h
theorem pwget9_1_8 (h:List.Pairwise disj [S0,S1,S2,S3,S4,S5,S6,S7,S8]):disj S1 S8:=zpw 1 8 h
theorem pwget9_2_3 (h:List.Pairwise disj [S0,S1,S2,S3,S4,S5,S6,S7,S8]):disj S2 S3:=zpw 2 3 h
theorem pwget9_2_4 (h:List.Pairwise disj [S0,S1,S2,S3,S4,S5,S6,S7,S8]):disj S2 S4:=zpw 2 4 h
theorem pwget9_2_5 (h:List.Pairwise disj [S0,S1,S2,S3,S4,S5,S6,S7,S8]):disj S2 S5:=zpw 2 5 h
theorem pwget9_2_6 (h:List.Pairwise disj [S0,S1,S2,S3,S4,S5,S6,S7,S8]):disj S2 S6:=zpw 2 6 h
theorem pwget9_2_7 (h:List.Pairwise disj [S0,S1,S2,S3,S4,S5,S6,S7,S8]):disj S2 S7:=zpw 2 7 h
theorem pwget9_2_8 (h:List.Pairwise disj [S0,S1,S2,S3,S4,S5,S6,S7,S8]):disj S2 S8:=zpw 2 8 h
theorem pwget9_3_4 (h:List.Pairwise disj [S0,S1,S2,S3,S4,S5,S6,S7,S8]):disj S3 S4:=zpw 3 4 h
theorem pwget9_3_5 (h:List.Pairwise disj [S0,S1,S2,S3,S4,S5,S6,S7,S8]):disj S3 S5:=zpw 3 5 h
theorem pwget9_3_6 (h:List.Pairwise disj [S0,S1,S2,S3,S4,S5,S6,S7,S8]):disj S3 S6:=zpw 3 6 h
theorem pwget9_3_7 (h:List.Pairwise disj [S0,S1,S2,S3,S4,S5,S6,S7,S8]):disj S3 S7:=zpw 3 7 h
theorem pwget9_3_8 (h:List.Pairwise disj [S0,S1,S2,S3,S4,S5,S6,S7,S8]):disj S3 S8:=zpw 3 8 h
theorem pwget9_4_5 (h:List.Pairwise disj [S0,S1,S2,S3,S4,S5,S6,S7,S8]):disj S4 S5:=zpw 4 5 h
theorem pwget9_4_6 (h:List.Pairwise disj [S0,S1,S2,S3,S4,S5,S6,S7,S8]):disj S4 S6:=zpw 4 6 h
theorem pwget9_4_7 (h:List.Pairwise disj [S0,S1,S2,S3,S4,S5,S6,S7,S8]):disj S4 S7:=zpw 4 7 h
theorem pwget9_4_8 (h:List.Pairwise disj [S0,S1,S2,S3,S4,S5,S6,S7,S8]):disj S4 S8:=zpw 4 8 h
theorem pwget9_5_6 (h:List.Pairwise disj [S0,S1,S2,S3,S4,S5,S6,S7,S8]):disj S5 S6:=zpw 5 6 h
theorem pwget9_5_7 (h:List.Pairwise disj [S0,S1,S2,S3,S4,S5,S6,S7,S8]):disj S5 S7:=zpw 5 7 h
theorem pwget9_5_8 (h:List.Pairwise disj [S0,S1,S2,S3,S4,S5,S6,S7,S8]):disj S5 S8:=zpw 5 8 h
theorem pwget9_6_7 (h:List.Pairwise disj [S0,S1,S2,S3,S4,S5,S6,S7,S8]):disj S6 S7:=zpw 6 7 h
theorem pwget9_6_8 (h:List.Pairwise disj [S0,S1,S2,S3,S4,S5,S6,S7,S8]):disj S6 S8:=zpw 6 8 h
theorem pwget9_7_8 (h:List.Pairwise disj [S0,S1,S2,S3,S4,S5,S6,S7,S8]):disj S7 S8:=zpw 7 8 h
theorem pwmk9 {S0 S1 S2 S3 S4 S5 S6 S7 S8:Blks} (h0_1:disj S0 S1) (h0_2:disj S0 S2) (h0_3:disj S0 S3) (h0_4:disj S0 S4) (h0_5:disj S0 S5) (h0_6:disj S0 S6) (h0_7:disj S0 S7) (h0_8:disj S0 S8) (h1_2:disj S1 S2) (h1_3:disj S1 S3) (h1_4:disj S1 S4) (h1_5:disj S1 S5) (h1_6:disj S1 S6) (h1_7:disj S1 S7) (h1_8:disj S1 S8) (h2_3:disj S2 S3) (h2_4:disj S2 S4) (h2_5:disj S2 S5) (h2_6:disj S2 S6) (h2_7:disj S2 S7) (h2_8:disj S2 S8) (h3_4:disj S3 S4) (h3_5:disj S3 S5) (h3_6:disj S3 S6) (h3_7:disj S3 S7) (h3_8:disj S3 S8) (h4_5:disj S4 S5) (h4_6:disj S4 S6) (h4_7:disj S4 S7) (h4_8:disj S4 S8) (h5_6:disj S5 S6) (h5_7:disj S5 S7) (h5_8:disj S5 S8) (h6_7:disj S6 S7) (h6_8:disj S6 S8) (h7_8:disj S7 S8):List.Pairwise disj [S0,S1,S2,S3,S4,S5,S6,S7,S8]:=by
 simp only [List.pairwise_cons,List.mem_cons,List.not_mem_nil,or_false,forall_eq_or_imp,forall_eq,List.Pairwise.nil,and_true,false_implies,implies_true]
 exact ⟨⟨h0_1,h0_2,h0_3,h0_4,h0_5,h0_6,h0_7,h0_8⟩,⟨h1_2,h1_3,h1_4,h1_5,h1_6,h1_7,h1_8⟩,⟨h2_3,h2_4,h2_5,h2_6,h2_7,h2_8⟩,⟨h3_4,h3_5,h3_6,h3_7,h3_8⟩,⟨h4_5,h4_6,h4_7,h4_8⟩,⟨h5_6,h5_7,h5_8⟩,⟨h6_7,h6_8⟩,h7_8⟩
structure Head where
 house:Int
 epoch:Int
 root:ByteArray
 prev:ByteArray
abbrev Head.tup (x:Head):Int × Int × ByteArray × ByteArray:=(x.house,x.epoch,x.root,x.prev)
instance instHead:Lay Head:=layVia 102 Head.tup
instance slHead:SlTy Head:=⟨94⟩
def Head.cs (x:Head):List Value:=[.int .i64 x.house,.int .i64 x.epoch,.string x.root,.string x.prev]
theorem Head.open {m:Bool} {w:World} {cs:List Value} {x:Head} {S:Blks} (h:rd m w cs x S):cs=Head.cs x∧I64 x.house∧I64 x.epoch∧x.root.size≤maxLen∧x.prev.size≤maxLen:=by
 have h0:rd m w cs x.tup S:=h
 obtain ⟨c1,rfl,f3,h2⟩:=open_int2 h0
 obtain ⟨c4,rfl,f6,h5⟩:=open_int2 h2
 obtain ⟨c7,rfl,f9,h8⟩:=open_str2 h5
 obtain ⟨rfl,f10⟩:=open_str h8
 exact ⟨rfl,f3,f6,f9,f10⟩
theorem Head.mk' {m:Bool} {w:World} {x:Head} {S:Blks} (f0:I64 x.house) (f1:I64 x.epoch) (f2:x.root.size≤maxLen) (f3:x.prev.size≤maxLen):rd m w (Head.cs x) x S :=
 Lay.mono (show rd m w (Head.cs x) x.tup (fun _ => False) from (mk_int2 f0 (mk_int2 f1 (mk_str2 f2 ⟨rfl,f3⟩)))) (sub_none _)
def Head.sz (x:Head):Nat:=x.root.size+x.prev.size
def Head.cn (_x:Head):Nat:=1+1+1+1
def Head.me (_x:Head) (k:Nat):Head:=(⟨((k:Nat):Int),((k+1:Nat):Int),mtext (k+1+1),mtext (k+1+1+1)⟩:Head)
def Head.ct (_x:Head):Nat:=0
def Head.zero:Head:=(⟨0,0,ByteArray.empty,ByteArray.empty⟩:Head)
instance mkHead:Mk Head where
 sz:=Head.sz
 cn:=Head.cn
 me:=Head.me
 z:=Head.zero
 zc:=Head.cs Head.zero
 zrd _ _:=Head.mk' I64_zero I64_zero empty_le empty_le
structure Sig where
 at_:Int
 open_:List ByteArray
 shut:List ByteArray
 sides:List ByteArray
abbrev Sig.tup (x:Sig):Int × (List ByteArray) × (List ByteArray) × (List ByteArray):=(x.at_,x.open_,x.shut,x.sides)
instance instSig:Lay Sig:=layVia 103 Sig.tup
instance slSig:SlTy Sig:=⟨0⟩
def Sig.cs (x:Sig) (A0:Option Addr) (k0:Nat) (A1:Option Addr) (k1:Nat) (A2:Option Addr) (k2:Nat):List Value:=[.int .i64 x.at_,.slice A0 x.open_.length k0,.slice A1 x.shut.length k1,.slice A2 x.sides.length k2]
theorem Sig.open {m:Bool} {w:World} {cs:List Value} {x:Sig} {S:Blks} (h:rd m w cs x S):∃ A0 k0 S0 A1 k1 S1 A2 k2 S2,cs=Sig.cs x A0 k0 A1 k1 A2 k2∧I64 x.at_∧x.open_.length≤k0∧k0≤maxLen∧Row m w A0 k0 x.open_ S0∧sub S0 S∧x.shut.length≤k1∧k1≤maxLen∧Row m w A1 k1 x.shut S1∧sub S1 S∧x.sides.length≤k2∧k2≤maxLen∧Row m w A2 k2 x.sides S2∧sub S2 S∧(m=true→List.Pairwise disj [S0,S1,S2]):=by
 have h0:rd m w cs x.tup S:=h
 obtain ⟨c1,rfl,f3,h2⟩:=open_int2 h0
 obtain ⟨A0,k0,c7,S0,R8,rfl,g4,g5,g6,s9,s10,d11,h12⟩:=open_list2 h2
 obtain ⟨A1,k1,c16,S1,R17,rfl,g13,g14,g15,s18,s19,d20,h21⟩:=open_list2 h12
 obtain ⟨A2,k2,rfl,g22,g23,g24⟩:=open_list h21
 exact ⟨A0,k0,S0,A1,k1,S1,A2,k2,_,rfl,f3,g4,g5,g6,s9,g13,g14,g15,(ya0 s18 s10),g22,g23,g24,(ya0 s19 s10),fun _hm => pwmk3 (ya6 (d11 _hm) (ya3 _) s18) (ya6 (d11 _hm) (ya3 _) s19) (ya6 (d20 _hm) (ya3 _) (ya3 _))⟩
theorem Sig.mk' {m:Bool} {w:World} {x:Sig} {S:Blks} (f0:I64 x.at_) {A0:Option Addr} {k0:Nat} {S0:Blks} (a0:x.open_.length≤k0) (b0:k0≤maxLen) (r0:Row m w A0 k0 x.open_ S0) (s0:sub S0 S) {A1:Option Addr} {k1:Nat} {S1:Blks} (a1:x.shut.length≤k1) (b1:k1≤maxLen) (r1:Row m w A1 k1 x.shut S1) (s1:sub S1 S) {A2:Option Addr} {k2:Nat} {S2:Blks} (a2:x.sides.length≤k2) (b2:k2≤maxLen) (r2:Row m w A2 k2 x.sides S2) (s2:sub S2 S) (pw:m=true→List.Pairwise disj [S0,S1,S2]):rd m w (Sig.cs x A0 k0 A1 k1 A2 k2) x S :=
 Lay.mono (show rd m w (Sig.cs x A0 k0 A1 k1 A2 k2) x.tup (un S0 (un S1 S2)) from (mk_int2 f0 ⟨[_],_,S0,(un S1 S2),rfl,(yad _ _),(un_sub (ya0 (yad _ _) (ya2 _ _)) (ya0 (ya0 (ya3 _) (ya2 _ _)) (ya2 _ _))),(fun _hm => (disj_un (pwget3_0_1 (pw _hm)) (pwget3_0_2 (pw _hm)))),⟨_,_,rfl,a0,b0,r0⟩,⟨[_],_,S1,S2,rfl,(yad _ _),(ya0 (ya3 _) (ya2 _ _)),(fun _hm => (pwget3_1_2 (pw _hm))),⟨_,_,rfl,a1,b1,r1⟩,⟨_,_,rfl,a2,b2,r2⟩⟩⟩)) ((un_sub s0 (un_sub s1 s2)))
def Sig.sz (x:Sig):Nat:=szL x.open_+szL x.shut+szL x.sides
def Sig.cn (x:Sig):Nat:=1+cnL x.open_+cnL x.shut+cnL x.sides
def Sig.me (x:Sig) (k:Nat):Sig:=(⟨((k:Nat):Int),meL x.open_ (k+1),meL x.shut (k+1+cnL x.open_),meL x.sides (k+1+cnL x.open_+cnL x.shut)⟩:Sig)
def Sig.ct (x:Sig):Nat:=cnL x.open_+cnL x.shut+cnL x.sides
def Sig.zero:Sig:=(⟨0, [], [], []⟩:Sig)
instance mkSig:Mk Sig where
 sz:=Sig.sz
 cn:=Sig.cn
 me:=Sig.me
 z:=Sig.zero
 zc:=Sig.cs Sig.zero none 0 none 0 none 0
 zrd _ _:=Sig.mk' I64_zero (Nat.le_refl 0) (Nat.zero_le _) (Row.nil _ _) (ya3 _) (Nat.le_refl 0) (Nat.zero_le _) (Row.nil _ _) (ya3 _) (Nat.le_refl 0) (Nat.zero_le _) (Row.nil _ _) (ya3 _) (fun _ => by simp [disj])
structure File where
 name:ByteArray
 text:ByteArray
 kept:Int
abbrev File.tup (x:File):ByteArray × ByteArray × Int:=(x.name,x.text,x.kept)
instance instFile:Lay File:=layVia 323 File.tup
instance slFile:SlTy File:=⟨39⟩
def File.cs (x:File):List Value:=[.string x.name,.string x.text,.int .i64 x.kept]
theorem File.open {m:Bool} {w:World} {cs:List Value} {x:File} {S:Blks} (h:rd m w cs x S):cs=File.cs x∧x.name.size≤maxLen∧x.text.size≤maxLen∧I64 x.kept:=by
 have h0:rd m w cs x.tup S:=h
 obtain ⟨c1,rfl,f3,h2⟩:=open_str2 h0
 obtain ⟨c4,rfl,f6,h5⟩:=open_str2 h2
 obtain ⟨rfl,f7⟩:=open_int h5
 exact ⟨rfl,f3,f6,f7⟩
theorem File.mk' {m:Bool} {w:World} {x:File} {S:Blks} (f0:x.name.size≤maxLen) (f1:x.text.size≤maxLen) (f2:I64 x.kept):rd m w (File.cs x) x S :=
 Lay.mono (show rd m w (File.cs x) x.tup (fun _ => False) from (mk_str2 f0 (mk_str2 f1 ⟨rfl,f2⟩))) (sub_none _)
def File.sz (x:File):Nat:=x.name.size+x.text.size
def File.cn (_x:File):Nat:=1+1+1
def File.me (_x:File) (k:Nat):File:=(⟨mtext (k),mtext (k+1),((k+1+1:Nat):Int)⟩:File)
def File.ct (_x:File):Nat:=0
def File.zero:File:=(⟨ByteArray.empty,ByteArray.empty,0⟩:File)
instance mkFile:Mk File where
 sz:=File.sz
 cn:=File.cn
 me:=File.me
 z:=File.zero
 zc:=File.cs File.zero
 zrd _ _:=File.mk' empty_le empty_le I64_zero
structure Disk where
 files:List File
abbrev Disk.tup (x:Disk):(List File):=(x.files)
instance instDisk:Lay Disk:=layVia 41 Disk.tup
instance slDisk:SlTy Disk:=⟨0⟩
def Disk.cs (x:Disk) (A0:Option Addr) (k0:Nat):List Value:=[.slice A0 x.files.length k0]
theorem Disk.open {m:Bool} {w:World} {cs:List Value} {x:Disk} {S:Blks} (h:rd m w cs x S):∃ A0 k0 S0,cs=Disk.cs x A0 k0∧x.files.length≤k0∧k0≤maxLen∧Row m w A0 k0 x.files S0∧sub S0 S:=by
 have h0:rd m w cs x.tup S:=h
 obtain ⟨A0,k0,rfl,g1,g2,g3⟩:=open_list h0
 exact ⟨A0,k0,_,rfl,g1,g2,g3,(ya3 _)⟩
theorem Disk.mk' {m:Bool} {w:World} {x:Disk} {S:Blks} {A0:Option Addr} {k0:Nat} {S0:Blks} (a0:x.files.length≤k0) (b0:k0≤maxLen) (r0:Row m w A0 k0 x.files S0) (s0:sub S0 S):rd m w (Disk.cs x A0 k0) x S :=
 Lay.mono (show rd m w (Disk.cs x A0 k0) x.tup S0 from ⟨_,_,rfl,a0,b0,r0⟩) (s0)
def Disk.sz (x:Disk):Nat:=szL x.files
def Disk.cn (x:Disk):Nat:=cnL x.files
def Disk.me (x:Disk) (k:Nat):Disk:=(⟨meL x.files (k)⟩:Disk)
def Disk.ct (x:Disk):Nat:=cnL x.files
def Disk.zero:Disk:=(⟨[]⟩:Disk)
instance mkDisk:Mk Disk where
 sz:=Disk.sz
 cn:=Disk.cn
 me:=Disk.me
 z:=Disk.zero
 zc:=Disk.cs Disk.zero none 0
 zrd _ _:=Disk.mk' (Nat.le_refl 0) (Nat.zero_le _) (Row.nil _ _) (ya3 _)
structure Leaf where
 name:ByteArray
 value:ByteArray
abbrev Leaf.tup (x:Leaf):ByteArray × ByteArray:=(x.name,x.value)
instance instLeaf:Lay Leaf:=layVia 246 Leaf.tup
instance slLeaf:SlTy Leaf:=⟨33⟩
instance slLeafS:SlTy (List Leaf):=⟨42⟩
def Leaf.cs (x:Leaf):List Value:=[.string x.name,.string x.value]
theorem Leaf.open {m:Bool} {w:World} {cs:List Value} {x:Leaf} {S:Blks} (h:rd m w cs x S):cs=Leaf.cs x∧x.name.size≤maxLen∧x.value.size≤maxLen:=by
 have h0:rd m w cs x.tup S:=h
 obtain ⟨c1,rfl,f3,h2⟩:=open_str2 h0
 obtain ⟨rfl,f4⟩:=open_str h2
 exact ⟨rfl,f3,f4⟩
theorem Leaf.mk' {m:Bool} {w:World} {x:Leaf} {S:Blks} (f0:x.name.size≤maxLen) (f1:x.value.size≤maxLen):rd m w (Leaf.cs x) x S :=
 Lay.mono (show rd m w (Leaf.cs x) x.tup (fun _ => False) from (mk_str2 f0 ⟨rfl,f1⟩)) (sub_none _)
def Leaf.sz (x:Leaf):Nat:=x.name.size+x.value.size
def Leaf.cn (_x:Leaf):Nat:=1+1
def Leaf.me (_x:Leaf) (k:Nat):Leaf:=(⟨mtext (k),mtext (k+1)⟩:Leaf)
def Leaf.ct (_x:Leaf):Nat:=0
def Leaf.zero:Leaf:=(⟨ByteArray.empty,ByteArray.empty⟩:Leaf)
instance mkLeaf:Mk Leaf where
 sz:=Leaf.sz
 cn:=Leaf.cn
 me:=Leaf.me
 z:=Leaf.zero
 zc:=Leaf.cs Leaf.zero
 zrd _ _:=Leaf.mk' empty_le empty_le
structure Proof where
 bucket:List Leaf
 sides:List ByteArray
abbrev Proof.tup (x:Proof):(List Leaf) × (List ByteArray):=(x.bucket,x.sides)
instance instProof:Lay Proof:=layVia 36 Proof.tup
instance slProof:SlTy Proof:=⟨0⟩
def Proof.cs (x:Proof) (A0:Option Addr) (k0:Nat) (A1:Option Addr) (k1:Nat):List Value:=[.slice A0 x.bucket.length k0,.slice A1 x.sides.length k1]
theorem Proof.open {m:Bool} {w:World} {cs:List Value} {x:Proof} {S:Blks} (h:rd m w cs x S):∃ A0 k0 S0 A1 k1 S1,cs=Proof.cs x A0 k0 A1 k1∧x.bucket.length≤k0∧k0≤maxLen∧Row m w A0 k0 x.bucket S0∧sub S0 S∧x.sides.length≤k1∧k1≤maxLen∧Row m w A1 k1 x.sides S1∧sub S1 S∧(m=true→List.Pairwise disj [S0,S1]):=by
 have h0:rd m w cs x.tup S:=h
 obtain ⟨A0,k0,c4,S0,R5,rfl,g1,g2,g3,s6,s7,d8,h9⟩:=open_list2 h0
 obtain ⟨A1,k1,rfl,g10,g11,g12⟩:=open_list h9
 exact ⟨A0,k0,S0,A1,k1,_,rfl,g1,g2,g3,s6,g10,g11,g12,s7,fun _hm => pwmk2 (ya6 (d8 _hm) (ya3 _) (ya3 _))⟩
theorem Proof.mk' {m:Bool} {w:World} {x:Proof} {S:Blks} {A0:Option Addr} {k0:Nat} {S0:Blks} (a0:x.bucket.length≤k0) (b0:k0≤maxLen) (r0:Row m w A0 k0 x.bucket S0) (s0:sub S0 S) {A1:Option Addr} {k1:Nat} {S1:Blks} (a1:x.sides.length≤k1) (b1:k1≤maxLen) (r1:Row m w A1 k1 x.sides S1) (s1:sub S1 S) (pw:m=true→List.Pairwise disj [S0,S1]):rd m w (Proof.cs x A0 k0 A1 k1) x S :=
 Lay.mono (show rd m w (Proof.cs x A0 k0 A1 k1) x.tup (un S0 S1) from ⟨[_],_,S0,S1,rfl,(yad _ _),(ya0 (ya3 _) (ya2 _ _)),(fun _hm => (pwget2_0_1 (pw _hm))),⟨_,_,rfl,a0,b0,r0⟩,⟨_,_,rfl,a1,b1,r1⟩⟩) ((un_sub s0 s1))
def Proof.sz (x:Proof):Nat:=szL x.bucket+szL x.sides
def Proof.cn (x:Proof):Nat:=cnL x.bucket+cnL x.sides
def Proof.me (x:Proof) (k:Nat):Proof:=(⟨meL x.bucket (k),meL x.sides (k+cnL x.bucket)⟩:Proof)
def Proof.ct (x:Proof):Nat:=cnL x.bucket+cnL x.sides
def Proof.zero:Proof:=(⟨[], []⟩:Proof)
instance mkProof:Mk Proof where
 sz:=Proof.sz
 cn:=Proof.cn
 me:=Proof.me
 z:=Proof.zero
 zc:=Proof.cs Proof.zero none 0 none 0
 zrd _ _:=Proof.mk' (Nat.le_refl 0) (Nat.zero_le _) (Row.nil _ _) (ya3 _) (Nat.le_refl 0) (Nat.zero_le _) (Row.nil _ _) (ya3 _) (fun _ => by simp [disj])
structure Seal where
 head:Head
 sig:Sig
abbrev Seal.tup (x:Seal):Head × Sig:=(x.head,x.sig)
instance instSeal:Lay Seal:=layVia 105 Seal.tup
instance slSeal:SlTy Seal:=⟨100⟩
def Seal.cs (x:Seal) (A0:Option Addr) (k0:Nat) (A1:Option Addr) (k1:Nat) (A2:Option Addr) (k2:Nat):List Value:=[.int .i64 x.head.house,.int .i64 x.head.epoch,.string x.head.root,.string x.head.prev,.int .i64 x.sig.at_,.slice A0 x.sig.open_.length k0,.slice A1 x.sig.shut.length k1,.slice A2 x.sig.sides.length k2]
theorem Seal.open {m:Bool} {w:World} {cs:List Value} {x:Seal} {S:Blks} (h:rd m w cs x S):∃ A0 k0 S0 A1 k1 S1 A2 k2 S2,cs=Seal.cs x A0 k0 A1 k1 A2 k2∧I64 x.head.house∧I64 x.head.epoch∧x.head.root.size≤maxLen∧x.head.prev.size≤maxLen∧I64 x.sig.at_∧x.sig.open_.length≤k0∧k0≤maxLen∧Row m w A0 k0 x.sig.open_ S0∧sub S0 S∧x.sig.shut.length≤k1∧k1≤maxLen∧Row m w A1 k1 x.sig.shut S1∧sub S1 S∧x.sig.sides.length≤k2∧k2≤maxLen∧Row m w A2 k2 x.sig.sides S2∧sub S2 S∧(m=true→List.Pairwise disj [S0,S1,S2]):=by
 have h0:rd m w cs x.tup S:=h
 obtain ⟨c1,c2,P3,R4,rfl,s5,s6,d7,h8,h9⟩:=open_two h0
 obtain ⟨rfl,f10,f11,f12,f13⟩:=Head.open h8
 obtain ⟨A0,k0,S0,A1,k1,S1,A2,k2,S2,rfl,f14,g15,g16,g17,s18,g19,g20,g21,s22,g23,g24,g25,s26,pw27⟩:=Sig.open h9
 exact ⟨A0,k0,S0,A1,k1,S1,A2,k2,S2,rfl,f10,f11,f12,f13,f14,g15,g16,g17,(ya0 s18 s6),g19,g20,g21,(ya0 s22 s6),g23,g24,g25,(ya0 s26 s6),fun _hm => pwmk3 (pwget3_0_1 (pw27 _hm)) (pwget3_0_2 (pw27 _hm)) (pwget3_1_2 (pw27 _hm))⟩
theorem Seal.mk' {m:Bool} {w:World} {x:Seal} {S:Blks} (f0:I64 x.head.house) (f1:I64 x.head.epoch) (f2:x.head.root.size≤maxLen) (f3:x.head.prev.size≤maxLen) (f4:I64 x.sig.at_) {A0:Option Addr} {k0:Nat} {S0:Blks} (a0:x.sig.open_.length≤k0) (b0:k0≤maxLen) (r0:Row m w A0 k0 x.sig.open_ S0) (s0:sub S0 S) {A1:Option Addr} {k1:Nat} {S1:Blks} (a1:x.sig.shut.length≤k1) (b1:k1≤maxLen) (r1:Row m w A1 k1 x.sig.shut S1) (s1:sub S1 S) {A2:Option Addr} {k2:Nat} {S2:Blks} (a2:x.sig.sides.length≤k2) (b2:k2≤maxLen) (r2:Row m w A2 k2 x.sig.sides S2) (s2:sub S2 S) (pw:m=true→List.Pairwise disj [S0,S1,S2]):rd m w (Seal.cs x A0 k0 A1 k1 A2 k2) x S :=
 Lay.mono (show rd m w (Seal.cs x A0 k0 A1 k1 A2 k2) x.tup (un S0 (un S1 S2)) from ⟨Head.cs x.head,_,(fun _ => False),(un S0 (un S1 S2)),rfl,(sub_none _),(un_sub (yad _ _) (un_sub (ya0 (yad _ _) (ya2 _ _)) (ya0 (ya0 (ya3 _) (ya2 _ _)) (ya2 _ _)))),(fun _hm => (disj_symm (disj_none _))),(Head.mk' f0 f1 f2 f3),(Sig.mk' f4 a0 b0 r0 (yad _ _) a1 b1 r1 (ya0 (yad _ _) (ya2 _ _)) a2 b2 r2 (ya0 (ya0 (ya3 _) (ya2 _ _)) (ya2 _ _)) (fun _hm => pwmk3 (pwget3_0_1 (pw _hm)) (pwget3_0_2 (pw _hm)) (pwget3_1_2 (pw _hm))))⟩) ((un_sub s0 (un_sub s1 s2)))
def Seal.sz (x:Seal):Nat:=x.head.sz+x.sig.sz
def Seal.cn (x:Seal):Nat:=1+1+1+1+1+cnL x.sig.open_+cnL x.sig.shut+cnL x.sig.sides
def Seal.me (x:Seal) (k:Nat):Seal:=(⟨(⟨((k:Nat):Int),((k+1:Nat):Int),mtext (k+1+1),mtext (k+1+1+1)⟩:Head),(⟨((k+1+1+1+1:Nat):Int),meL x.sig.open_ (k+1+1+1+1+1),meL x.sig.shut (k+1+1+1+1+1+cnL x.sig.open_),meL x.sig.sides (k+1+1+1+1+1+cnL x.sig.open_+cnL x.sig.shut)⟩:Sig)⟩:Seal)
def Seal.ct (x:Seal):Nat:=cnL x.sig.open_+cnL x.sig.shut+cnL x.sig.sides
def Seal.zero:Seal:=(⟨(⟨0,0,ByteArray.empty,ByteArray.empty⟩:Head),(⟨0, [], [], []⟩:Sig)⟩:Seal)
instance mkSeal:Mk Seal where
 sz:=Seal.sz
 cn:=Seal.cn
 me:=Seal.me
 z:=Seal.zero
 zc:=Seal.cs Seal.zero none 0 none 0 none 0
 zrd _ _:=Seal.mk' I64_zero I64_zero empty_le empty_le I64_zero (Nat.le_refl 0) (Nat.zero_le _) (Row.nil _ _) (ya3 _) (Nat.le_refl 0) (Nat.zero_le _) (Row.nil _ _) (ya3 _) (Nat.le_refl 0) (Nat.zero_le _) (Row.nil _ _) (ya3 _) (fun _ => by simp [disj])
structure Trust where
 roots:List ByteArray
 k:Int
 need:Int
abbrev Trust.tup (x:Trust):(List ByteArray) × Int × Int:=(x.roots,x.k,x.need)
instance instTrust:Lay Trust:=layVia 62 Trust.tup
instance slTrust:SlTy Trust:=⟨0⟩
def Trust.cs (x:Trust) (A0:Option Addr) (k0:Nat):List Value:=[.slice A0 x.roots.length k0,.int .i64 x.k,.int .i64 x.need]
theorem Trust.open {m:Bool} {w:World} {cs:List Value} {x:Trust} {S:Blks} (h:rd m w cs x S):∃ A0 k0 S0,cs=Trust.cs x A0 k0∧I64 x.k∧I64 x.need∧x.roots.length≤k0∧k0≤maxLen∧Row m w A0 k0 x.roots S0∧sub S0 S:=by
 have h0:rd m w cs x.tup S:=h
 obtain ⟨A0,k0,c4,S0,R5,rfl,g1,g2,g3,s6,s7,d8,h9⟩:=open_list2 h0
 obtain ⟨c10,rfl,f12,h11⟩:=open_int2 h9
 obtain ⟨rfl,f13⟩:=open_int h11
 exact ⟨A0,k0,S0,rfl,f12,f13,g1,g2,g3,s6⟩
theorem Trust.mk' {m:Bool} {w:World} {x:Trust} {S:Blks} {A0:Option Addr} {k0:Nat} {S0:Blks} (a0:x.roots.length≤k0) (b0:k0≤maxLen) (r0:Row m w A0 k0 x.roots S0) (s0:sub S0 S) (f1:I64 x.k) (f2:I64 x.need):rd m w (Trust.cs x A0 k0) x S :=
 Lay.mono (show rd m w (Trust.cs x A0 k0) x.tup S0 from ⟨[_],_,S0,(fun _ => False),rfl,(ya3 _),(sub_none _),(fun _hm => disj_none _),⟨_,_,rfl,a0,b0,r0⟩,(mk_int2 f1 ⟨rfl,f2⟩)⟩) (s0)
def Trust.sz (x:Trust):Nat:=szL x.roots
def Trust.cn (x:Trust):Nat:=cnL x.roots+1+1
def Trust.me (x:Trust) (k:Nat):Trust:=(⟨meL x.roots (k),((k+cnL x.roots:Nat):Int),((k+cnL x.roots+1:Nat):Int)⟩:Trust)
def Trust.ct (x:Trust):Nat:=cnL x.roots
def Trust.zero:Trust:=(⟨[],0,0⟩:Trust)
instance mkTrust:Mk Trust where
 sz:=Trust.sz
 cn:=Trust.cn
 me:=Trust.me
 z:=Trust.zero
 zc:=Trust.cs Trust.zero none 0
 zrd _ _:=Trust.mk' (Nat.le_refl 0) (Nat.zero_le _) (Row.nil _ _) (ya3 _) I64_zero I64_zero
structure Stamp where
 by_:Int
 sig:Sig
abbrev Stamp.tup (x:Stamp):Int × Sig:=(x.by_,x.sig)
instance instStamp:Lay Stamp:=layVia 254 Stamp.tup
instance slStamp:SlTy Stamp:=⟨106⟩
def Stamp.cs (x:Stamp) (A0:Option Addr) (k0:Nat) (A1:Option Addr) (k1:Nat) (A2:Option Addr) (k2:Nat):List Value:=[.int .i64 x.by_,.int .i64 x.sig.at_,.slice A0 x.sig.open_.length k0,.slice A1 x.sig.shut.length k1,.slice A2 x.sig.sides.length k2]
theorem Stamp.open {m:Bool} {w:World} {cs:List Value} {x:Stamp} {S:Blks} (h:rd m w cs x S):∃ A0 k0 S0 A1 k1 S1 A2 k2 S2,cs=Stamp.cs x A0 k0 A1 k1 A2 k2∧I64 x.by_∧I64 x.sig.at_∧x.sig.open_.length≤k0∧k0≤maxLen∧Row m w A0 k0 x.sig.open_ S0∧sub S0 S∧x.sig.shut.length≤k1∧k1≤maxLen∧Row m w A1 k1 x.sig.shut S1∧sub S1 S∧x.sig.sides.length≤k2∧k2≤maxLen∧Row m w A2 k2 x.sig.sides S2∧sub S2 S∧(m=true→List.Pairwise disj [S0,S1,S2]):=by
 have h0:rd m w cs x.tup S:=h
 obtain ⟨c1,rfl,f3,h2⟩:=open_int2 h0
 obtain ⟨A0,k0,S0,A1,k1,S1,A2,k2,S2,rfl,f4,g5,g6,g7,s8,g9,g10,g11,s12,g13,g14,g15,s16,pw17⟩:=Sig.open h2
 exact ⟨A0,k0,S0,A1,k1,S1,A2,k2,S2,rfl,f3,f4,g5,g6,g7,s8,g9,g10,g11,s12,g13,g14,g15,s16,fun _hm => pwmk3 (pwget3_0_1 (pw17 _hm)) (pwget3_0_2 (pw17 _hm)) (pwget3_1_2 (pw17 _hm))⟩
theorem Stamp.mk' {m:Bool} {w:World} {x:Stamp} {S:Blks} (f0:I64 x.by_) (f1:I64 x.sig.at_) {A0:Option Addr} {k0:Nat} {S0:Blks} (a0:x.sig.open_.length≤k0) (b0:k0≤maxLen) (r0:Row m w A0 k0 x.sig.open_ S0) (s0:sub S0 S) {A1:Option Addr} {k1:Nat} {S1:Blks} (a1:x.sig.shut.length≤k1) (b1:k1≤maxLen) (r1:Row m w A1 k1 x.sig.shut S1) (s1:sub S1 S) {A2:Option Addr} {k2:Nat} {S2:Blks} (a2:x.sig.sides.length≤k2) (b2:k2≤maxLen) (r2:Row m w A2 k2 x.sig.sides S2) (s2:sub S2 S) (pw:m=true→List.Pairwise disj [S0,S1,S2]):rd m w (Stamp.cs x A0 k0 A1 k1 A2 k2) x S :=
 Lay.mono (show rd m w (Stamp.cs x A0 k0 A1 k1 A2 k2) x.tup (un S0 (un S1 S2)) from (mk_int2 f0 (Sig.mk' f1 a0 b0 r0 (yad _ _) a1 b1 r1 (ya0 (yad _ _) (ya2 _ _)) a2 b2 r2 (ya0 (ya0 (ya3 _) (ya2 _ _)) (ya2 _ _)) (fun _hm => pwmk3 (pwget3_0_1 (pw _hm)) (pwget3_0_2 (pw _hm)) (pwget3_1_2 (pw _hm)))))) ((un_sub s0 (un_sub s1 s2)))
def Stamp.sz (x:Stamp):Nat:=x.sig.sz
def Stamp.cn (x:Stamp):Nat:=1+1+cnL x.sig.open_+cnL x.sig.shut+cnL x.sig.sides
def Stamp.me (x:Stamp) (k:Nat):Stamp:=(⟨((k:Nat):Int),(⟨((k+1:Nat):Int),meL x.sig.open_ (k+1+1),meL x.sig.shut (k+1+1+cnL x.sig.open_),meL x.sig.sides (k+1+1+cnL x.sig.open_+cnL x.sig.shut)⟩:Sig)⟩:Stamp)
def Stamp.ct (x:Stamp):Nat:=cnL x.sig.open_+cnL x.sig.shut+cnL x.sig.sides
def Stamp.zero:Stamp:=(⟨0,(⟨0, [], [], []⟩:Sig)⟩:Stamp)
instance mkStamp:Mk Stamp where
 sz:=Stamp.sz
 cn:=Stamp.cn
 me:=Stamp.me
 z:=Stamp.zero
 zc:=Stamp.cs Stamp.zero none 0 none 0 none 0
 zrd _ _:=Stamp.mk' I64_zero I64_zero (Nat.le_refl 0) (Nat.zero_le _) (Row.nil _ _) (ya3 _) (Nat.le_refl 0) (Nat.zero_le _) (Row.nil _ _) (ya3 _) (Nat.le_refl 0) (Nat.zero_le _) (Row.nil _ _) (ya3 _) (fun _ => by simp [disj])
structure Whole where
 proof:Proof
 tops:List ByteArray
 seal_:Seal
 stamps:List Stamp
abbrev Whole.tup (x:Whole):Proof × (List ByteArray) × Seal × (List Stamp):=(x.proof,x.tops,x.seal_,x.stamps)
instance instWhole:Lay Whole:=layVia 108 Whole.tup
instance slWhole:SlTy Whole:=⟨64⟩
def Whole.cs (x:Whole) (A0:Option Addr) (k0:Nat) (A1:Option Addr) (k1:Nat) (A2:Option Addr) (k2:Nat) (A3:Option Addr) (k3:Nat) (A4:Option Addr) (k4:Nat) (A5:Option Addr) (k5:Nat) (A6:Option Addr) (k6:Nat):List Value:=[.slice A0 x.proof.bucket.length k0,.slice A1 x.proof.sides.length k1,.slice A2 x.tops.length k2,.int .i64 x.seal_.head.house,.int .i64 x.seal_.head.epoch,.string x.seal_.head.root,.string x.seal_.head.prev,.int .i64 x.seal_.sig.at_,.slice A3 x.seal_.sig.open_.length k3,.slice A4 x.seal_.sig.shut.length k4,.slice A5 x.seal_.sig.sides.length k5,.slice A6 x.stamps.length k6]
theorem Whole.open {m:Bool} {w:World} {cs:List Value} {x:Whole} {S:Blks} (h:rd m w cs x S):∃ A0 k0 S0 A1 k1 S1 A2 k2 S2 A3 k3 S3 A4 k4 S4 A5 k5 S5 A6 k6 S6,cs=Whole.cs x A0 k0 A1 k1 A2 k2 A3 k3 A4 k4 A5 k5 A6 k6∧I64 x.seal_.head.house∧I64 x.seal_.head.epoch∧x.seal_.head.root.size≤maxLen∧x.seal_.head.prev.size≤maxLen∧I64 x.seal_.sig.at_∧x.proof.bucket.length≤k0∧k0≤maxLen∧Row m w A0 k0 x.proof.bucket S0∧sub S0 S∧x.proof.sides.length≤k1∧k1≤maxLen∧Row m w A1 k1 x.proof.sides S1∧sub S1 S∧x.tops.length≤k2∧k2≤maxLen∧Row m w A2 k2 x.tops S2∧sub S2 S∧x.seal_.sig.open_.length≤k3∧k3≤maxLen∧Row m w A3 k3 x.seal_.sig.open_ S3∧sub S3 S∧x.seal_.sig.shut.length≤k4∧k4≤maxLen∧Row m w A4 k4 x.seal_.sig.shut S4∧sub S4 S∧x.seal_.sig.sides.length≤k5∧k5≤maxLen∧Row m w A5 k5 x.seal_.sig.sides S5∧sub S5 S∧x.stamps.length≤k6∧k6≤maxLen∧Row m w A6 k6 x.stamps S6∧sub S6 S∧(m=true→List.Pairwise disj [S0,S1,S2,S3,S4,S5,S6]):=by
 have h0:rd m w cs x.tup S:=h
 obtain ⟨c1,c2,P3,R4,rfl,s5,s6,d7,h8,h9⟩:=open_two h0
 obtain ⟨A0,k0,S0,A1,k1,S1,rfl,g10,g11,g12,s13,g14,g15,g16,s17,pw18⟩:=Proof.open h8
 obtain ⟨A2,k2,c22,S2,R23,rfl,g19,g20,g21,s24,s25,d26,h27⟩:=open_list2 h9
 obtain ⟨c28,c29,P30,R31,rfl,s32,s33,d34,h35,h36⟩:=open_two h27
 obtain ⟨A3,k3,S3,A4,k4,S4,A5,k5,S5,rfl,f37,f38,f39,f40,f41,g42,g43,g44,s45,g46,g47,g48,s49,g50,g51,g52,s53,pw54⟩:=Seal.open h35
 obtain ⟨A6,k6,rfl,g55,g56,g57⟩:=open_list h36
 exact ⟨A0,k0,S0,A1,k1,S1,A2,k2,S2,A3,k3,S3,A4,k4,S4,A5,k5,S5,A6,k6,_,rfl,f37,f38,f39,f40,f41,g10,g11,g12,(ya0 s13 s5),g14,g15,g16,(ya0 s17 s5),g19,g20,g21,(ya0 s24 s6),g42,g43,g44,(ya0 (ya0 (ya0 s45 s32) s25) s6),g46,g47,g48,(ya0 (ya0 (ya0 s49 s32) s25) s6),g50,g51,g52,(ya0 (ya0 (ya0 s53 s32) s25) s6),g55,g56,g57,(ya0 (ya0 s33 s25) s6),fun _hm => pwmk7 (pwget2_0_1 (pw18 _hm)) (ya6 (d7 _hm) s13 s24) (ya6 (d7 _hm) s13 (ya0 (ya0 s45 s32) s25)) (ya6 (d7 _hm) s13 (ya0 (ya0 s49 s32) s25)) (ya6 (d7 _hm) s13 (ya0 (ya0 s53 s32) s25)) (ya6 (d7 _hm) s13 (ya0 s33 s25)) (ya6 (d7 _hm) s17 s24) (ya6 (d7 _hm) s17 (ya0 (ya0 s45 s32) s25)) (ya6 (d7 _hm) s17 (ya0 (ya0 s49 s32) s25)) (ya6 (d7 _hm) s17 (ya0 (ya0 s53 s32) s25)) (ya6 (d7 _hm) s17 (ya0 s33 s25)) (ya6 (d26 _hm) (ya3 _) (ya0 s45 s32)) (ya6 (d26 _hm) (ya3 _) (ya0 s49 s32)) (ya6 (d26 _hm) (ya3 _) (ya0 s53 s32)) (ya6 (d26 _hm) (ya3 _) s33) (pwget3_0_1 (pw54 _hm)) (pwget3_0_2 (pw54 _hm)) (ya6 (d34 _hm) s45 (ya3 _)) (pwget3_1_2 (pw54 _hm)) (ya6 (d34 _hm) s49 (ya3 _)) (ya6 (d34 _hm) s53 (ya3 _))⟩
theorem Whole.mk' {m:Bool} {w:World} {x:Whole} {S:Blks} {A0:Option Addr} {k0:Nat} {S0:Blks} (a0:x.proof.bucket.length≤k0) (b0:k0≤maxLen) (r0:Row m w A0 k0 x.proof.bucket S0) (s0:sub S0 S) {A1:Option Addr} {k1:Nat} {S1:Blks} (a1:x.proof.sides.length≤k1) (b1:k1≤maxLen) (r1:Row m w A1 k1 x.proof.sides S1) (s1:sub S1 S) {A2:Option Addr} {k2:Nat} {S2:Blks} (a2:x.tops.length≤k2) (b2:k2≤maxLen) (r2:Row m w A2 k2 x.tops S2) (s2:sub S2 S) (f3:I64 x.seal_.head.house) (f4:I64 x.seal_.head.epoch) (f5:x.seal_.head.root.size≤maxLen) (f6:x.seal_.head.prev.size≤maxLen) (f7:I64 x.seal_.sig.at_) {A3:Option Addr} {k3:Nat} {S3:Blks} (a3:x.seal_.sig.open_.length≤k3) (b3:k3≤maxLen) (r3:Row m w A3 k3 x.seal_.sig.open_ S3) (s3:sub S3 S) {A4:Option Addr} {k4:Nat} {S4:Blks} (a4:x.seal_.sig.shut.length≤k4) (b4:k4≤maxLen) (r4:Row m w A4 k4 x.seal_.sig.shut S4) (s4:sub S4 S) {A5:Option Addr} {k5:Nat} {S5:Blks} (a5:x.seal_.sig.sides.length≤k5) (b5:k5≤maxLen) (r5:Row m w A5 k5 x.seal_.sig.sides S5) (s5:sub S5 S) {A6:Option Addr} {k6:Nat} {S6:Blks} (a6:x.stamps.length≤k6) (b6:k6≤maxLen) (r6:Row m w A6 k6 x.stamps S6) (s6:sub S6 S) (pw:m=true→List.Pairwise disj [S0,S1,S2,S3,S4,S5,S6]):rd m w (Whole.cs x A0 k0 A1 k1 A2 k2 A3 k3 A4 k4 A5 k5 A6 k6) x S :=
 Lay.mono (show rd m w (Whole.cs x A0 k0 A1 k1 A2 k2 A3 k3 A4 k4 A5 k5 A6 k6) x.tup (un S0 (un S1 (un S2 (un S3 (un S4 (un S5 S6)))))) from ⟨Proof.cs x.proof A0 k0 A1 k1,_,(un S0 S1),(un S2 (un S3 (un S4 (un S5 S6)))),rfl,(un_sub (yad _ _) (ya0 (yad _ _) (ya2 _ _))),(un_sub (ya0 (ya0 (yad _ _) (ya2 _ _)) (ya2 _ _)) (un_sub (ya0 (ya0 (ya0 (yad _ _) (ya2 _ _)) (ya2 _ _)) (ya2 _ _)) (un_sub (ya0 (ya0 (ya0 (ya0 (yad _ _) (ya2 _ _)) (ya2 _ _)) (ya2 _ _)) (ya2 _ _)) (un_sub (ya0 (ya0 (ya0 (ya0 (ya0 (yad _ _) (ya2 _ _)) (ya2 _ _)) (ya2 _ _)) (ya2 _ _)) (ya2 _ _)) (ya0 (ya0 (ya0 (ya0 (ya0 (ya0 (ya3 _) (ya2 _ _)) (ya2 _ _)) (ya2 _ _)) (ya2 _ _)) (ya2 _ _)) (ya2 _ _)))))),(fun _hm => (un_disj (disj_un (pwget7_0_2 (pw _hm)) (disj_un (pwget7_0_3 (pw _hm)) (disj_un (pwget7_0_4 (pw _hm)) (disj_un (pwget7_0_5 (pw _hm)) (pwget7_0_6 (pw _hm)))))) (disj_un (pwget7_1_2 (pw _hm)) (disj_un (pwget7_1_3 (pw _hm)) (disj_un (pwget7_1_4 (pw _hm)) (disj_un (pwget7_1_5 (pw _hm)) (pwget7_1_6 (pw _hm)))))))),(Proof.mk' a0 b0 r0 (yad _ _) a1 b1 r1 (ya0 (ya3 _) (ya2 _ _)) (fun _hm => pwmk2 (pwget7_0_1 (pw _hm)))),⟨[_],_,S2,(un S3 (un S4 (un S5 S6))),rfl,(yad _ _),(un_sub (ya0 (yad _ _) (ya2 _ _)) (un_sub (ya0 (ya0 (yad _ _) (ya2 _ _)) (ya2 _ _)) (un_sub (ya0 (ya0 (ya0 (yad _ _) (ya2 _ _)) (ya2 _ _)) (ya2 _ _)) (ya0 (ya0 (ya0 (ya0 (ya3 _) (ya2 _ _)) (ya2 _ _)) (ya2 _ _)) (ya2 _ _))))),(fun _hm => (disj_un (pwget7_2_3 (pw _hm)) (disj_un (pwget7_2_4 (pw _hm)) (disj_un (pwget7_2_5 (pw _hm)) (pwget7_2_6 (pw _hm)))))),⟨_,_,rfl,a2,b2,r2⟩,⟨Seal.cs x.seal_ A3 k3 A4 k4 A5 k5,_,(un S3 (un S4 S5)),S6,rfl,(un_sub (yad _ _) (un_sub (ya0 (yad _ _) (ya2 _ _)) (ya0 (ya0 (yad _ _) (ya2 _ _)) (ya2 _ _)))),(ya0 (ya0 (ya0 (ya3 _) (ya2 _ _)) (ya2 _ _)) (ya2 _ _)),(fun _hm => (un_disj (pwget7_3_6 (pw _hm)) (un_disj (pwget7_4_6 (pw _hm)) (pwget7_5_6 (pw _hm))))),(Seal.mk' f3 f4 f5 f6 f7 a3 b3 r3 (yad _ _) a4 b4 r4 (ya0 (yad _ _) (ya2 _ _)) a5 b5 r5 (ya0 (ya0 (ya3 _) (ya2 _ _)) (ya2 _ _)) (fun _hm => pwmk3 (pwget7_3_4 (pw _hm)) (pwget7_3_5 (pw _hm)) (pwget7_4_5 (pw _hm)))),⟨_,_,rfl,a6,b6,r6⟩⟩⟩⟩) ((un_sub s0 (un_sub s1 (un_sub s2 (un_sub s3 (un_sub s4 (un_sub s5 s6)))))))
def Whole.sz (x:Whole):Nat:=x.proof.sz+szL x.tops+x.seal_.sz+szL x.stamps
def Whole.cn (x:Whole):Nat:=cnL x.proof.bucket+cnL x.proof.sides+cnL x.tops+1+1+1+1+1+cnL x.seal_.sig.open_+cnL x.seal_.sig.shut+cnL x.seal_.sig.sides+cnL x.stamps
def Whole.me (x:Whole) (k:Nat):Whole:=(⟨(⟨meL x.proof.bucket (k),meL x.proof.sides (k+cnL x.proof.bucket)⟩:Proof),meL x.tops (k+cnL x.proof.bucket+cnL x.proof.sides),(⟨(⟨((k+cnL x.proof.bucket+cnL x.proof.sides+cnL x.tops:Nat):Int),((k+cnL x.proof.bucket+cnL x.proof.sides+cnL x.tops+1:Nat):Int),mtext (k+cnL x.proof.bucket+cnL x.proof.sides+cnL x.tops+1+1),mtext (k+cnL x.proof.bucket+cnL x.proof.sides+cnL x.tops+1+1+1)⟩:Head),(⟨((k+cnL x.proof.bucket+cnL x.proof.sides+cnL x.tops+1+1+1+1:Nat):Int),meL x.seal_.sig.open_ (k+cnL x.proof.bucket+cnL x.proof.sides+cnL x.tops+1+1+1+1+1),meL x.seal_.sig.shut (k+cnL x.proof.bucket+cnL x.proof.sides+cnL x.tops+1+1+1+1+1+cnL x.seal_.sig.open_),meL x.seal_.sig.sides (k+cnL x.proof.bucket+cnL x.proof.sides+cnL x.tops+1+1+1+1+1+cnL x.seal_.sig.open_+cnL x.seal_.sig.shut)⟩:Sig)⟩:Seal),meL x.stamps (k+cnL x.proof.bucket+cnL x.proof.sides+cnL x.tops+1+1+1+1+1+cnL x.seal_.sig.open_+cnL x.seal_.sig.shut+cnL x.seal_.sig.sides)⟩:Whole)
def Whole.ct (x:Whole):Nat:=cnL x.proof.bucket+cnL x.proof.sides+cnL x.tops+cnL x.seal_.sig.open_+cnL x.seal_.sig.shut+cnL x.seal_.sig.sides+cnL x.stamps
def Whole.zero:Whole:=(⟨(⟨[], []⟩:Proof), [],(⟨(⟨0,0,ByteArray.empty,ByteArray.empty⟩:Head),(⟨0, [], [], []⟩:Sig)⟩:Seal), []⟩:Whole)
instance mkWhole:Mk Whole where
 sz:=Whole.sz
 cn:=Whole.cn
 me:=Whole.me
 z:=Whole.zero
 zc:=Whole.cs Whole.zero none 0 none 0 none 0 none 0 none 0 none 0 none 0
 zrd _ _:=Whole.mk' (Nat.le_refl 0) (Nat.zero_le _) (Row.nil _ _) (ya3 _) (Nat.le_refl 0) (Nat.zero_le _) (Row.nil _ _) (ya3 _) (Nat.le_refl 0) (Nat.zero_le _) (Row.nil _ _) (ya3 _) I64_zero I64_zero empty_le empty_le I64_zero (Nat.le_refl 0) (Nat.zero_le _) (Row.nil _ _) (ya3 _) (Nat.le_refl 0) (Nat.zero_le _) (Row.nil _ _) (ya3 _) (Nat.le_refl 0) (Nat.zero_le _) (Row.nil _ _) (ya3 _) (Nat.le_refl 0) (Nat.zero_le _) (Row.nil _ _) (ya3 _) (fun _ => by simp [disj])
structure Change where
 id:Int
 name:ByteArray
 value:ByteArray
abbrev Change.tup (x:Change):Int × ByteArray × ByteArray:=(x.id,x.name,x.value)
instance instChange:Lay Change:=layVia 238 Change.tup
instance slChange:SlTy Change:=⟨43⟩
def Change.cs (x:Change):List Value:=[.int .i64 x.id,.string x.name,.string x.value]
theorem Change.open {m:Bool} {w:World} {cs:List Value} {x:Change} {S:Blks} (h:rd m w cs x S):cs=Change.cs x∧I64 x.id∧x.name.size≤maxLen∧x.value.size≤maxLen:=by
 have h0:rd m w cs x.tup S:=h
 obtain ⟨c1,rfl,f3,h2⟩:=open_int2 h0
 obtain ⟨c4,rfl,f6,h5⟩:=open_str2 h2
 obtain ⟨rfl,f7⟩:=open_str h5
 exact ⟨rfl,f3,f6,f7⟩
theorem Change.mk' {m:Bool} {w:World} {x:Change} {S:Blks} (f0:I64 x.id) (f1:x.name.size≤maxLen) (f2:x.value.size≤maxLen):rd m w (Change.cs x) x S :=
 Lay.mono (show rd m w (Change.cs x) x.tup (fun _ => False) from (mk_int2 f0 (mk_str2 f1 ⟨rfl,f2⟩))) (sub_none _)
def Change.sz (x:Change):Nat:=x.name.size+x.value.size
def Change.cn (_x:Change):Nat:=1+1+1
def Change.me (_x:Change) (k:Nat):Change:=(⟨((k:Nat):Int),mtext (k+1),mtext (k+1+1)⟩:Change)
def Change.ct (_x:Change):Nat:=0
def Change.zero:Change:=(⟨0,ByteArray.empty,ByteArray.empty⟩:Change)
instance mkChange:Mk Change where
 sz:=Change.sz
 cn:=Change.cn
 me:=Change.me
 z:=Change.zero
 zc:=Change.cs Change.zero
 zrd _ _:=Change.mk' I64_zero empty_le empty_le
structure Letter where
 kind:Int
 from_:Int
 to:Int
 epoch:Int
 try_:Int
 root:ByteArray
abbrev Letter.tup (x:Letter):Int × Int × Int × Int × Int × ByteArray:=(x.kind,x.from_,x.to,x.epoch,x.try_,x.root)
instance instLetter:Lay Letter:=layVia 0 Letter.tup
instance slLetter:SlTy Letter:=⟨0⟩
def Letter.cs (x:Letter):List Value:=[.int .i64 x.kind,.int .i64 x.from_,.int .i64 x.to,.int .i64 x.epoch,.int .i64 x.try_,.string x.root]
theorem Letter.open {m:Bool} {w:World} {cs:List Value} {x:Letter} {S:Blks} (h:rd m w cs x S):cs=Letter.cs x∧I64 x.kind∧I64 x.from_∧I64 x.to∧I64 x.epoch∧I64 x.try_∧x.root.size≤maxLen:=by
 have h0:rd m w cs x.tup S:=h
 obtain ⟨c1,rfl,f3,h2⟩:=open_int2 h0
 obtain ⟨c4,rfl,f6,h5⟩:=open_int2 h2
 obtain ⟨c7,rfl,f9,h8⟩:=open_int2 h5
 obtain ⟨c10,rfl,f12,h11⟩:=open_int2 h8
 obtain ⟨c13,rfl,f15,h14⟩:=open_int2 h11
 obtain ⟨rfl,f16⟩:=open_str h14
 exact ⟨rfl,f3,f6,f9,f12,f15,f16⟩
theorem Letter.mk' {m:Bool} {w:World} {x:Letter} {S:Blks} (f0:I64 x.kind) (f1:I64 x.from_) (f2:I64 x.to) (f3:I64 x.epoch) (f4:I64 x.try_) (f5:x.root.size≤maxLen):rd m w (Letter.cs x) x S :=
 Lay.mono (show rd m w (Letter.cs x) x.tup (fun _ => False) from (mk_int2 f0 (mk_int2 f1 (mk_int2 f2 (mk_int2 f3 (mk_int2 f4 ⟨rfl,f5⟩)))))) (sub_none _)
def Letter.sz (x:Letter):Nat:=x.root.size
def Letter.cn (_x:Letter):Nat:=1+1+1+1+1+1
def Letter.me (_x:Letter) (k:Nat):Letter:=(⟨((k:Nat):Int),((k+1:Nat):Int),((k+1+1:Nat):Int),((k+1+1+1:Nat):Int),((k+1+1+1+1:Nat):Int),mtext (k+1+1+1+1+1)⟩:Letter)
def Letter.ct (_x:Letter):Nat:=0
def Letter.zero:Letter:=(⟨0,0,0,0,0,ByteArray.empty⟩:Letter)
instance mkLetter:Mk Letter where
 sz:=Letter.sz
 cn:=Letter.cn
 me:=Letter.me
 z:=Letter.zero
 zc:=Letter.cs Letter.zero
 zrd _ _:=Letter.mk' I64_zero I64_zero I64_zero I64_zero I64_zero empty_le
structure Ready where
 epoch:Int
 try_:Int
 take:Int
abbrev Ready.tup (x:Ready):Int × Int × Int:=(x.epoch,x.try_,x.take)
instance instReady:Lay Ready:=layVia 44 Ready.tup
instance slReady:SlTy Ready:=⟨0⟩
def Ready.cs (x:Ready):List Value:=[.int .i64 x.epoch,.int .i64 x.try_,.int .i64 x.take]
theorem Ready.open {m:Bool} {w:World} {cs:List Value} {x:Ready} {S:Blks} (h:rd m w cs x S):cs=Ready.cs x∧I64 x.epoch∧I64 x.try_∧I64 x.take:=by
 have h0:rd m w cs x.tup S:=h
 obtain ⟨c1,rfl,f3,h2⟩:=open_int2 h0
 obtain ⟨c4,rfl,f6,h5⟩:=open_int2 h2
 obtain ⟨rfl,f7⟩:=open_int h5
 exact ⟨rfl,f3,f6,f7⟩
theorem Ready.mk' {m:Bool} {w:World} {x:Ready} {S:Blks} (f0:I64 x.epoch) (f1:I64 x.try_) (f2:I64 x.take):rd m w (Ready.cs x) x S :=
 Lay.mono (show rd m w (Ready.cs x) x.tup (fun _ => False) from (mk_int2 f0 (mk_int2 f1 ⟨rfl,f2⟩))) (sub_none _)
def Ready.sz (_x:Ready):Nat:=0
def Ready.cn (_x:Ready):Nat:=1+1+1
def Ready.me (_x:Ready) (k:Nat):Ready:=(⟨((k:Nat):Int),((k+1:Nat):Int),((k+1+1:Nat):Int)⟩:Ready)
def Ready.ct (_x:Ready):Nat:=0
def Ready.zero:Ready:=(⟨0,0,0⟩:Ready)
instance mkReady:Mk Ready where
 sz:=Ready.sz
 cn:=Ready.cn
 me:=Ready.me
 z:=Ready.zero
 zc:=Ready.cs Ready.zero
 zrd _ _:=Ready.mk' I64_zero I64_zero I64_zero
structure Server where
 at_:Int
 k:Int
 up:Bool
 disk:Disk
 epoch:Int
 views:List (List Leaf)
 taken:List Int
 all:List Change
 ready:Ready
abbrev Server.tup (x:Server):Int × Int × Bool × Disk × Int × (List (List Leaf)) × (List Int) × (List Change) × Ready:=(x.at_,x.k,x.up,x.disk,x.epoch,x.views,x.taken,x.all,x.ready)
instance instServer:Lay Server:=layVia 46 Server.tup
instance slServer:SlTy Server:=⟨203⟩
def Server.cs (x:Server) (A0:Option Addr) (k0:Nat) (A1:Option Addr) (k1:Nat) (A2:Option Addr) (k2:Nat) (A3:Option Addr) (k3:Nat):List Value:=[.int .i64 x.at_,.int .i64 x.k,.bool x.up,.slice A0 x.disk.files.length k0,.int .i64 x.epoch,.slice A1 x.views.length k1,.slice A2 x.taken.length k2,.slice A3 x.all.length k3,.int .i64 x.ready.epoch,.int .i64 x.ready.try_,.int .i64 x.ready.take]
theorem Server.open {m:Bool} {w:World} {cs:List Value} {x:Server} {S:Blks} (h:rd m w cs x S):∃ A0 k0 S0 A1 k1 S1 A2 k2 S2 A3 k3 S3,cs=Server.cs x A0 k0 A1 k1 A2 k2 A3 k3∧I64 x.at_∧I64 x.k∧I64 x.epoch∧I64 x.ready.epoch∧I64 x.ready.try_∧I64 x.ready.take∧x.disk.files.length≤k0∧k0≤maxLen∧Row m w A0 k0 x.disk.files S0∧sub S0 S∧x.views.length≤k1∧k1≤maxLen∧Row m w A1 k1 x.views S1∧sub S1 S∧x.taken.length≤k2∧k2≤maxLen∧Row m w A2 k2 x.taken S2∧sub S2 S∧x.all.length≤k3∧k3≤maxLen∧Row m w A3 k3 x.all S3∧sub S3 S∧(m=true→List.Pairwise disj [S0,S1,S2,S3]):=by
 have h0:rd m w cs x.tup S:=h
 obtain ⟨c1,rfl,f3,h2⟩:=open_int2 h0
 obtain ⟨c4,rfl,f6,h5⟩:=open_int2 h2
 obtain ⟨c7,rfl,h8⟩:=open_bool2 h5
 obtain ⟨c9,c10,P11,R12,rfl,s13,s14,d15,h16,h17⟩:=open_two h8
 obtain ⟨A0,k0,S0,rfl,g18,g19,g20,s21⟩:=Disk.open h16
 obtain ⟨c22,rfl,f24,h23⟩:=open_int2 h17
 obtain ⟨A1,k1,c28,S1,R29,rfl,g25,g26,g27,s30,s31,d32,h33⟩:=open_list2 h23
 obtain ⟨A2,k2,c37,S2,R38,rfl,g34,g35,g36,s39,s40,d41,h42⟩:=open_list2 h33
 obtain ⟨A3,k3,c46,S3,R47,rfl,g43,g44,g45,s48,s49,d50,h51⟩:=open_list2 h42
 obtain ⟨rfl,f52,f53,f54⟩:=Ready.open h51
 exact ⟨A0,k0,S0,A1,k1,S1,A2,k2,S2,A3,k3,S3,rfl,f3,f6,f24,f52,f53,f54,g18,g19,g20,(ya0 s21 s13),g25,g26,g27,(ya0 s30 s14),g34,g35,g36,(ya0 (ya0 s39 s31) s14),g43,g44,g45,(ya0 (ya0 (ya0 s48 s40) s31) s14),fun _hm => pwmk4 (ya6 (d15 _hm) s21 s30) (ya6 (d15 _hm) s21 (ya0 s39 s31)) (ya6 (d15 _hm) s21 (ya0 (ya0 s48 s40) s31)) (ya6 (d32 _hm) (ya3 _) s39) (ya6 (d32 _hm) (ya3 _) (ya0 s48 s40)) (ya6 (d41 _hm) (ya3 _) s48)⟩
theorem Server.mk' {m:Bool} {w:World} {x:Server} {S:Blks} (f0:I64 x.at_) (f1:I64 x.k) {A0:Option Addr} {k0:Nat} {S0:Blks} (a0:x.disk.files.length≤k0) (b0:k0≤maxLen) (r0:Row m w A0 k0 x.disk.files S0) (s0:sub S0 S) (f4:I64 x.epoch) {A1:Option Addr} {k1:Nat} {S1:Blks} (a1:x.views.length≤k1) (b1:k1≤maxLen) (r1:Row m w A1 k1 x.views S1) (s1:sub S1 S) {A2:Option Addr} {k2:Nat} {S2:Blks} (a2:x.taken.length≤k2) (b2:k2≤maxLen) (r2:Row m w A2 k2 x.taken S2) (s2:sub S2 S) {A3:Option Addr} {k3:Nat} {S3:Blks} (a3:x.all.length≤k3) (b3:k3≤maxLen) (r3:Row m w A3 k3 x.all S3) (s3:sub S3 S) (f8:I64 x.ready.epoch) (f9:I64 x.ready.try_) (f10:I64 x.ready.take) (pw:m=true→List.Pairwise disj [S0,S1,S2,S3]):rd m w (Server.cs x A0 k0 A1 k1 A2 k2 A3 k3) x S :=
 Lay.mono (show rd m w (Server.cs x A0 k0 A1 k1 A2 k2 A3 k3) x.tup (un S0 (un S1 (un S2 S3))) from (mk_int2 f0 (mk_int2 f1 (mk_bool2 ⟨Disk.cs x.disk A0 k0,_,S0,(un S1 (un S2 S3)),rfl,(yad _ _),(un_sub (ya0 (yad _ _) (ya2 _ _)) (un_sub (ya0 (ya0 (yad _ _) (ya2 _ _)) (ya2 _ _)) (ya0 (ya0 (ya0 (ya3 _) (ya2 _ _)) (ya2 _ _)) (ya2 _ _)))),(fun _hm => (disj_un (pwget4_0_1 (pw _hm)) (disj_un (pwget4_0_2 (pw _hm)) (pwget4_0_3 (pw _hm))))),(Disk.mk' a0 b0 r0 (ya3 _)),(mk_int2 f4 ⟨[_],_,S1,(un S2 S3),rfl,(yad _ _),(un_sub (ya0 (yad _ _) (ya2 _ _)) (ya0 (ya0 (ya3 _) (ya2 _ _)) (ya2 _ _))),(fun _hm => (disj_un (pwget4_1_2 (pw _hm)) (pwget4_1_3 (pw _hm)))),⟨_,_,rfl,a1,b1,r1⟩,⟨[_],_,S2,S3,rfl,(yad _ _),(ya0 (ya3 _) (ya2 _ _)),(fun _hm => (pwget4_2_3 (pw _hm))),⟨_,_,rfl,a2,b2,r2⟩,⟨[_],_,S3,(fun _ => False),rfl,(ya3 _),(sub_none _),(fun _hm => disj_none _),⟨_,_,rfl,a3,b3,r3⟩,(Ready.mk' f8 f9 f10)⟩⟩⟩)⟩)))) ((un_sub s0 (un_sub s1 (un_sub s2 s3))))
def Server.sz (x:Server):Nat:=x.disk.sz+szL x.views+szL x.taken+szL x.all
def Server.cn (x:Server):Nat:=1+1+1+cnL x.disk.files+1+cnL x.views+cnL x.taken+cnL x.all+1+1+1
def Server.me (x:Server) (k:Nat):Server:=(⟨((k:Nat):Int),((k+1:Nat):Int),(((k+1+1:Nat):Int) % 3 == 0),(⟨meL x.disk.files (k+1+1+1)⟩:Disk),((k+1+1+1+cnL x.disk.files:Nat):Int),meL x.views (k+1+1+1+cnL x.disk.files+1),meL x.taken (k+1+1+1+cnL x.disk.files+1+cnL x.views),meL x.all (k+1+1+1+cnL x.disk.files+1+cnL x.views+cnL x.taken),(⟨((k+1+1+1+cnL x.disk.files+1+cnL x.views+cnL x.taken+cnL x.all:Nat):Int),((k+1+1+1+cnL x.disk.files+1+cnL x.views+cnL x.taken+cnL x.all+1:Nat):Int),((k+1+1+1+cnL x.disk.files+1+cnL x.views+cnL x.taken+cnL x.all+1+1:Nat):Int)⟩:Ready)⟩:Server)
def Server.ct (x:Server):Nat:=cnL x.disk.files+cnL x.views+cnL x.taken+cnL x.all
def Server.zero:Server:=(⟨0,0,false,(⟨[]⟩:Disk),0, [], [], [],(⟨0,0,0⟩:Ready)⟩:Server)
instance mkServer:Mk Server where
 sz:=Server.sz
 cn:=Server.cn
 me:=Server.me
 z:=Server.zero
 zc:=Server.cs Server.zero none 0 none 0 none 0 none 0
 zrd _ _:=Server.mk' I64_zero I64_zero (Nat.le_refl 0) (Nat.zero_le _) (Row.nil _ _) (ya3 _) I64_zero (Nat.le_refl 0) (Nat.zero_le _) (Row.nil _ _) (ya3 _) (Nat.le_refl 0) (Nat.zero_le _) (Row.nil _ _) (ya3 _) (Nat.le_refl 0) (Nat.zero_le _) (Row.nil _ _) (ya3 _) I64_zero I64_zero I64_zero (fun _ => by simp [disj])
structure Coord where
 house:Int
 k:Int
 up:Bool
 disk:Disk
 pool:List ByteArray
 seals:List Seal
 tries:List Int
 try_:Int
 asking:Bool
 votes:List ByteArray
 dones:List Bool
abbrev Coord.tup (x:Coord):Int × Int × Bool × Disk × (List ByteArray) × (List Seal) × (List Int) × Int × Bool × (List ByteArray) × (List Bool):=(x.house,x.k,x.up,x.disk,x.pool,x.seals,x.tries,x.try_,x.asking,x.votes,x.dones)
instance instCoord:Lay Coord:=layVia 202 Coord.tup
instance slCoord:SlTy Coord:=⟨0⟩
def Coord.cs (x:Coord) (A0:Option Addr) (k0:Nat) (A1:Option Addr) (k1:Nat) (A2:Option Addr) (k2:Nat) (A3:Option Addr) (k3:Nat) (A4:Option Addr) (k4:Nat) (A5:Option Addr) (k5:Nat):List Value:=[.int .i64 x.house,.int .i64 x.k,.bool x.up,.slice A0 x.disk.files.length k0,.slice A1 x.pool.length k1,.slice A2 x.seals.length k2,.slice A3 x.tries.length k3,.int .i64 x.try_,.bool x.asking,.slice A4 x.votes.length k4,.slice A5 x.dones.length k5]
theorem Coord.open {m:Bool} {w:World} {cs:List Value} {x:Coord} {S:Blks} (h:rd m w cs x S):∃ A0 k0 S0 A1 k1 S1 A2 k2 S2 A3 k3 S3 A4 k4 S4 A5 k5 S5,cs=Coord.cs x A0 k0 A1 k1 A2 k2 A3 k3 A4 k4 A5 k5∧I64 x.house∧I64 x.k∧I64 x.try_∧x.disk.files.length≤k0∧k0≤maxLen∧Row m w A0 k0 x.disk.files S0∧sub S0 S∧x.pool.length≤k1∧k1≤maxLen∧Row m w A1 k1 x.pool S1∧sub S1 S∧x.seals.length≤k2∧k2≤maxLen∧Row m w A2 k2 x.seals S2∧sub S2 S∧x.tries.length≤k3∧k3≤maxLen∧Row m w A3 k3 x.tries S3∧sub S3 S∧x.votes.length≤k4∧k4≤maxLen∧Row m w A4 k4 x.votes S4∧sub S4 S∧x.dones.length≤k5∧k5≤maxLen∧Row m w A5 k5 x.dones S5∧sub S5 S∧(m=true→List.Pairwise disj [S0,S1,S2,S3,S4,S5]):=by
 have h0:rd m w cs x.tup S:=h
 obtain ⟨c1,rfl,f3,h2⟩:=open_int2 h0
 obtain ⟨c4,rfl,f6,h5⟩:=open_int2 h2
 obtain ⟨c7,rfl,h8⟩:=open_bool2 h5
 obtain ⟨c9,c10,P11,R12,rfl,s13,s14,d15,h16,h17⟩:=open_two h8
 obtain ⟨A0,k0,S0,rfl,g18,g19,g20,s21⟩:=Disk.open h16
 obtain ⟨A1,k1,c25,S1,R26,rfl,g22,g23,g24,s27,s28,d29,h30⟩:=open_list2 h17
 obtain ⟨A2,k2,c34,S2,R35,rfl,g31,g32,g33,s36,s37,d38,h39⟩:=open_list2 h30
 obtain ⟨A3,k3,c43,S3,R44,rfl,g40,g41,g42,s45,s46,d47,h48⟩:=open_list2 h39
 obtain ⟨c49,rfl,f51,h50⟩:=open_int2 h48
 obtain ⟨c52,rfl,h53⟩:=open_bool2 h50
 obtain ⟨A4,k4,c57,S4,R58,rfl,g54,g55,g56,s59,s60,d61,h62⟩:=open_list2 h53
 obtain ⟨A5,k5,rfl,g63,g64,g65⟩:=open_list h62
 exact ⟨A0,k0,S0,A1,k1,S1,A2,k2,S2,A3,k3,S3,A4,k4,S4,A5,k5,_,rfl,f3,f6,f51,g18,g19,g20,(ya0 s21 s13),g22,g23,g24,(ya0 s27 s14),g31,g32,g33,(ya0 (ya0 s36 s28) s14),g40,g41,g42,(ya0 (ya0 (ya0 s45 s37) s28) s14),g54,g55,g56,(ya0 (ya0 (ya0 (ya0 s59 s46) s37) s28) s14),g63,g64,g65,(ya0 (ya0 (ya0 (ya0 s60 s46) s37) s28) s14),fun _hm => pwmk6 (ya6 (d15 _hm) s21 s27) (ya6 (d15 _hm) s21 (ya0 s36 s28)) (ya6 (d15 _hm) s21 (ya0 (ya0 s45 s37) s28)) (ya6 (d15 _hm) s21 (ya0 (ya0 (ya0 s59 s46) s37) s28)) (ya6 (d15 _hm) s21 (ya0 (ya0 (ya0 s60 s46) s37) s28)) (ya6 (d29 _hm) (ya3 _) s36) (ya6 (d29 _hm) (ya3 _) (ya0 s45 s37)) (ya6 (d29 _hm) (ya3 _) (ya0 (ya0 s59 s46) s37)) (ya6 (d29 _hm) (ya3 _) (ya0 (ya0 s60 s46) s37)) (ya6 (d38 _hm) (ya3 _) s45) (ya6 (d38 _hm) (ya3 _) (ya0 s59 s46)) (ya6 (d38 _hm) (ya3 _) (ya0 s60 s46)) (ya6 (d47 _hm) (ya3 _) s59) (ya6 (d47 _hm) (ya3 _) s60) (ya6 (d61 _hm) (ya3 _) (ya3 _))⟩
theorem Coord.mk' {m:Bool} {w:World} {x:Coord} {S:Blks} (f0:I64 x.house) (f1:I64 x.k) {A0:Option Addr} {k0:Nat} {S0:Blks} (a0:x.disk.files.length≤k0) (b0:k0≤maxLen) (r0:Row m w A0 k0 x.disk.files S0) (s0:sub S0 S) {A1:Option Addr} {k1:Nat} {S1:Blks} (a1:x.pool.length≤k1) (b1:k1≤maxLen) (r1:Row m w A1 k1 x.pool S1) (s1:sub S1 S) {A2:Option Addr} {k2:Nat} {S2:Blks} (a2:x.seals.length≤k2) (b2:k2≤maxLen) (r2:Row m w A2 k2 x.seals S2) (s2:sub S2 S) {A3:Option Addr} {k3:Nat} {S3:Blks} (a3:x.tries.length≤k3) (b3:k3≤maxLen) (r3:Row m w A3 k3 x.tries S3) (s3:sub S3 S) (f7:I64 x.try_) {A4:Option Addr} {k4:Nat} {S4:Blks} (a4:x.votes.length≤k4) (b4:k4≤maxLen) (r4:Row m w A4 k4 x.votes S4) (s4:sub S4 S) {A5:Option Addr} {k5:Nat} {S5:Blks} (a5:x.dones.length≤k5) (b5:k5≤maxLen) (r5:Row m w A5 k5 x.dones S5) (s5:sub S5 S) (pw:m=true→List.Pairwise disj [S0,S1,S2,S3,S4,S5]):rd m w (Coord.cs x A0 k0 A1 k1 A2 k2 A3 k3 A4 k4 A5 k5) x S :=
 Lay.mono (show rd m w (Coord.cs x A0 k0 A1 k1 A2 k2 A3 k3 A4 k4 A5 k5) x.tup (un S0 (un S1 (un S2 (un S3 (un S4 S5))))) from (mk_int2 f0 (mk_int2 f1 (mk_bool2 ⟨Disk.cs x.disk A0 k0,_,S0,(un S1 (un S2 (un S3 (un S4 S5)))),rfl,(yad _ _),(un_sub (ya0 (yad _ _) (ya2 _ _)) (un_sub (ya0 (ya0 (yad _ _) (ya2 _ _)) (ya2 _ _)) (un_sub (ya0 (ya0 (ya0 (yad _ _) (ya2 _ _)) (ya2 _ _)) (ya2 _ _)) (un_sub (ya0 (ya0 (ya0 (ya0 (yad _ _) (ya2 _ _)) (ya2 _ _)) (ya2 _ _)) (ya2 _ _)) (ya0 (ya0 (ya0 (ya0 (ya0 (ya3 _) (ya2 _ _)) (ya2 _ _)) (ya2 _ _)) (ya2 _ _)) (ya2 _ _)))))),(fun _hm => (disj_un (pwget6_0_1 (pw _hm)) (disj_un (pwget6_0_2 (pw _hm)) (disj_un (pwget6_0_3 (pw _hm)) (disj_un (pwget6_0_4 (pw _hm)) (pwget6_0_5 (pw _hm))))))),(Disk.mk' a0 b0 r0 (ya3 _)),⟨[_],_,S1,(un S2 (un S3 (un S4 S5))),rfl,(yad _ _),(un_sub (ya0 (yad _ _) (ya2 _ _)) (un_sub (ya0 (ya0 (yad _ _) (ya2 _ _)) (ya2 _ _)) (un_sub (ya0 (ya0 (ya0 (yad _ _) (ya2 _ _)) (ya2 _ _)) (ya2 _ _)) (ya0 (ya0 (ya0 (ya0 (ya3 _) (ya2 _ _)) (ya2 _ _)) (ya2 _ _)) (ya2 _ _))))),(fun _hm => (disj_un (pwget6_1_2 (pw _hm)) (disj_un (pwget6_1_3 (pw _hm)) (disj_un (pwget6_1_4 (pw _hm)) (pwget6_1_5 (pw _hm)))))),⟨_,_,rfl,a1,b1,r1⟩,⟨[_],_,S2,(un S3 (un S4 S5)),rfl,(yad _ _),(un_sub (ya0 (yad _ _) (ya2 _ _)) (un_sub (ya0 (ya0 (yad _ _) (ya2 _ _)) (ya2 _ _)) (ya0 (ya0 (ya0 (ya3 _) (ya2 _ _)) (ya2 _ _)) (ya2 _ _)))),(fun _hm => (disj_un (pwget6_2_3 (pw _hm)) (disj_un (pwget6_2_4 (pw _hm)) (pwget6_2_5 (pw _hm))))),⟨_,_,rfl,a2,b2,r2⟩,⟨[_],_,S3,(un S4 S5),rfl,(yad _ _),(un_sub (ya0 (yad _ _) (ya2 _ _)) (ya0 (ya0 (ya3 _) (ya2 _ _)) (ya2 _ _))),(fun _hm => (disj_un (pwget6_3_4 (pw _hm)) (pwget6_3_5 (pw _hm)))),⟨_,_,rfl,a3,b3,r3⟩,(mk_int2 f7 (mk_bool2 ⟨[_],_,S4,S5,rfl,(yad _ _),(ya0 (ya3 _) (ya2 _ _)),(fun _hm => (pwget6_4_5 (pw _hm))),⟨_,_,rfl,a4,b4,r4⟩,⟨_,_,rfl,a5,b5,r5⟩⟩))⟩⟩⟩⟩)))) ((un_sub s0 (un_sub s1 (un_sub s2 (un_sub s3 (un_sub s4 s5))))))
def Coord.sz (x:Coord):Nat:=x.disk.sz+szL x.pool+szL x.seals+szL x.tries+szL x.votes+szL x.dones
def Coord.cn (x:Coord):Nat:=1+1+1+cnL x.disk.files+cnL x.pool+cnL x.seals+cnL x.tries+1+1+cnL x.votes+cnL x.dones
def Coord.me (x:Coord) (k:Nat):Coord:=(⟨((k:Nat):Int),((k+1:Nat):Int),(((k+1+1:Nat):Int) % 3 == 0),(⟨meL x.disk.files (k+1+1+1)⟩:Disk),meL x.pool (k+1+1+1+cnL x.disk.files),meL x.seals (k+1+1+1+cnL x.disk.files+cnL x.pool),meL x.tries (k+1+1+1+cnL x.disk.files+cnL x.pool+cnL x.seals),((k+1+1+1+cnL x.disk.files+cnL x.pool+cnL x.seals+cnL x.tries:Nat):Int),(((k+1+1+1+cnL x.disk.files+cnL x.pool+cnL x.seals+cnL x.tries+1:Nat):Int) % 3 == 0),meL x.votes (k+1+1+1+cnL x.disk.files+cnL x.pool+cnL x.seals+cnL x.tries+1+1),meL x.dones (k+1+1+1+cnL x.disk.files+cnL x.pool+cnL x.seals+cnL x.tries+1+1+cnL x.votes)⟩:Coord)
def Coord.ct (x:Coord):Nat:=cnL x.disk.files+cnL x.pool+cnL x.seals+cnL x.tries+cnL x.votes+cnL x.dones
def Coord.zero:Coord:=(⟨0,0,false,(⟨[]⟩:Disk), [], [], [],0,false, [], []⟩:Coord)
instance mkCoord:Mk Coord where
 sz:=Coord.sz
 cn:=Coord.cn
 me:=Coord.me
 z:=Coord.zero
 zc:=Coord.cs Coord.zero none 0 none 0 none 0 none 0 none 0 none 0
 zrd _ _:=Coord.mk' I64_zero I64_zero (Nat.le_refl 0) (Nat.zero_le _) (Row.nil _ _) (ya3 _) (Nat.le_refl 0) (Nat.zero_le _) (Row.nil _ _) (ya3 _) (Nat.le_refl 0) (Nat.zero_le _) (Row.nil _ _) (ya3 _) (Nat.le_refl 0) (Nat.zero_le _) (Row.nil _ _) (ya3 _) I64_zero (Nat.le_refl 0) (Nat.zero_le _) (Row.nil _ _) (ya3 _) (Nat.le_refl 0) (Nat.zero_le _) (Row.nil _ _) (ya3 _) (fun _ => by simp [disj])
structure House where
 coord:Coord
 servers:List Server
 net:List ByteArray
 codes:List Int
abbrev House.tup (x:House):Coord × (List Server) × (List ByteArray) × (List Int):=(x.coord,x.servers,x.net,x.codes)
instance instHouse:Lay House:=layVia 205 House.tup
instance slHouse:SlTy House:=⟨127⟩
def House.cs (x:House) (A0:Option Addr) (k0:Nat) (A1:Option Addr) (k1:Nat) (A2:Option Addr) (k2:Nat) (A3:Option Addr) (k3:Nat) (A4:Option Addr) (k4:Nat) (A5:Option Addr) (k5:Nat) (A6:Option Addr) (k6:Nat) (A7:Option Addr) (k7:Nat) (A8:Option Addr) (k8:Nat):List Value:=[.int .i64 x.coord.house,.int .i64 x.coord.k,.bool x.coord.up,.slice A0 x.coord.disk.files.length k0,.slice A1 x.coord.pool.length k1,.slice A2 x.coord.seals.length k2,.slice A3 x.coord.tries.length k3,.int .i64 x.coord.try_,.bool x.coord.asking,.slice A4 x.coord.votes.length k4,.slice A5 x.coord.dones.length k5,.slice A6 x.servers.length k6,.slice A7 x.net.length k7,.slice A8 x.codes.length k8]
theorem House.open {m:Bool} {w:World} {cs:List Value} {x:House} {S:Blks} (h:rd m w cs x S):∃ A0 k0 S0 A1 k1 S1 A2 k2 S2 A3 k3 S3 A4 k4 S4 A5 k5 S5 A6 k6 S6 A7 k7 S7 A8 k8 S8,cs=House.cs x A0 k0 A1 k1 A2 k2 A3 k3 A4 k4 A5 k5 A6 k6 A7 k7 A8 k8∧I64 x.coord.house∧I64 x.coord.k∧I64 x.coord.try_∧x.coord.disk.files.length≤k0∧k0≤maxLen∧Row m w A0 k0 x.coord.disk.files S0∧sub S0 S∧x.coord.pool.length≤k1∧k1≤maxLen∧Row m w A1 k1 x.coord.pool S1∧sub S1 S∧x.coord.seals.length≤k2∧k2≤maxLen∧Row m w A2 k2 x.coord.seals S2∧sub S2 S∧x.coord.tries.length≤k3∧k3≤maxLen∧Row m w A3 k3 x.coord.tries S3∧sub S3 S∧x.coord.votes.length≤k4∧k4≤maxLen∧Row m w A4 k4 x.coord.votes S4∧sub S4 S∧x.coord.dones.length≤k5∧k5≤maxLen∧Row m w A5 k5 x.coord.dones S5∧sub S5 S∧x.servers.length≤k6∧k6≤maxLen∧Row m w A6 k6 x.servers S6∧sub S6 S∧x.net.length≤k7∧k7≤maxLen∧Row m w A7 k7 x.net S7∧sub S7 S∧x.codes.length≤k8∧k8≤maxLen∧Row m w A8 k8 x.codes S8∧sub S8 S∧(m=true→List.Pairwise disj [S0,S1,S2,S3,S4,S5,S6,S7,S8]):=by
 have h0:rd m w cs x.tup S:=h
 obtain ⟨c1,c2,P3,R4,rfl,s5,s6,d7,h8,h9⟩:=open_two h0
 obtain ⟨A0,k0,S0,A1,k1,S1,A2,k2,S2,A3,k3,S3,A4,k4,S4,A5,k5,S5,rfl,f10,f11,f12,g13,g14,g15,s16,g17,g18,g19,s20,g21,g22,g23,s24,g25,g26,g27,s28,g29,g30,g31,s32,g33,g34,g35,s36,pw37⟩:=Coord.open h8
 obtain ⟨A6,k6,c41,S6,R42,rfl,g38,g39,g40,s43,s44,d45,h46⟩:=open_list2 h9
 obtain ⟨A7,k7,c50,S7,R51,rfl,g47,g48,g49,s52,s53,d54,h55⟩:=open_list2 h46
 obtain ⟨A8,k8,rfl,g56,g57,g58⟩:=open_list h55
 exact ⟨A0,k0,S0,A1,k1,S1,A2,k2,S2,A3,k3,S3,A4,k4,S4,A5,k5,S5,A6,k6,S6,A7,k7,S7,A8,k8,_,rfl,f10,f11,f12,g13,g14,g15,(ya0 s16 s5),g17,g18,g19,(ya0 s20 s5),g21,g22,g23,(ya0 s24 s5),g25,g26,g27,(ya0 s28 s5),g29,g30,g31,(ya0 s32 s5),g33,g34,g35,(ya0 s36 s5),g38,g39,g40,(ya0 s43 s6),g47,g48,g49,(ya0 (ya0 s52 s44) s6),g56,g57,g58,(ya0 (ya0 s53 s44) s6),fun _hm => pwmk9 (pwget6_0_1 (pw37 _hm)) (pwget6_0_2 (pw37 _hm)) (pwget6_0_3 (pw37 _hm)) (pwget6_0_4 (pw37 _hm)) (pwget6_0_5 (pw37 _hm)) (ya6 (d7 _hm) s16 s43) (ya6 (d7 _hm) s16 (ya0 s52 s44)) (ya6 (d7 _hm) s16 (ya0 s53 s44)) (pwget6_1_2 (pw37 _hm)) (pwget6_1_3 (pw37 _hm)) (pwget6_1_4 (pw37 _hm)) (pwget6_1_5 (pw37 _hm)) (ya6 (d7 _hm) s20 s43) (ya6 (d7 _hm) s20 (ya0 s52 s44)) (ya6 (d7 _hm) s20 (ya0 s53 s44)) (pwget6_2_3 (pw37 _hm)) (pwget6_2_4 (pw37 _hm)) (pwget6_2_5 (pw37 _hm)) (ya6 (d7 _hm) s24 s43) (ya6 (d7 _hm) s24 (ya0 s52 s44)) (ya6 (d7 _hm) s24 (ya0 s53 s44)) (pwget6_3_4 (pw37 _hm)) (pwget6_3_5 (pw37 _hm)) (ya6 (d7 _hm) s28 s43) (ya6 (d7 _hm) s28 (ya0 s52 s44)) (ya6 (d7 _hm) s28 (ya0 s53 s44)) (pwget6_4_5 (pw37 _hm)) (ya6 (d7 _hm) s32 s43) (ya6 (d7 _hm) s32 (ya0 s52 s44)) (ya6 (d7 _hm) s32 (ya0 s53 s44)) (ya6 (d7 _hm) s36 s43) (ya6 (d7 _hm) s36 (ya0 s52 s44)) (ya6 (d7 _hm) s36 (ya0 s53 s44)) (ya6 (d45 _hm) (ya3 _) s52) (ya6 (d45 _hm) (ya3 _) s53) (ya6 (d54 _hm) (ya3 _) (ya3 _))⟩
theorem House.mk' {m:Bool} {w:World} {x:House} {S:Blks} (f0:I64 x.coord.house) (f1:I64 x.coord.k) {A0:Option Addr} {k0:Nat} {S0:Blks} (a0:x.coord.disk.files.length≤k0) (b0:k0≤maxLen) (r0:Row m w A0 k0 x.coord.disk.files S0) (s0:sub S0 S) {A1:Option Addr} {k1:Nat} {S1:Blks} (a1:x.coord.pool.length≤k1) (b1:k1≤maxLen) (r1:Row m w A1 k1 x.coord.pool S1) (s1:sub S1 S) {A2:Option Addr} {k2:Nat} {S2:Blks} (a2:x.coord.seals.length≤k2) (b2:k2≤maxLen) (r2:Row m w A2 k2 x.coord.seals S2) (s2:sub S2 S) {A3:Option Addr} {k3:Nat} {S3:Blks} (a3:x.coord.tries.length≤k3) (b3:k3≤maxLen) (r3:Row m w A3 k3 x.coord.tries S3) (s3:sub S3 S) (f7:I64 x.coord.try_) {A4:Option Addr} {k4:Nat} {S4:Blks} (a4:x.coord.votes.length≤k4) (b4:k4≤maxLen) (r4:Row m w A4 k4 x.coord.votes S4) (s4:sub S4 S) {A5:Option Addr} {k5:Nat} {S5:Blks} (a5:x.coord.dones.length≤k5) (b5:k5≤maxLen) (r5:Row m w A5 k5 x.coord.dones S5) (s5:sub S5 S) {A6:Option Addr} {k6:Nat} {S6:Blks} (a6:x.servers.length≤k6) (b6:k6≤maxLen) (r6:Row m w A6 k6 x.servers S6) (s6:sub S6 S) {A7:Option Addr} {k7:Nat} {S7:Blks} (a7:x.net.length≤k7) (b7:k7≤maxLen) (r7:Row m w A7 k7 x.net S7) (s7:sub S7 S) {A8:Option Addr} {k8:Nat} {S8:Blks} (a8:x.codes.length≤k8) (b8:k8≤maxLen) (r8:Row m w A8 k8 x.codes S8) (s8:sub S8 S) (pw:m=true→List.Pairwise disj [S0,S1,S2,S3,S4,S5,S6,S7,S8]):rd m w (House.cs x A0 k0 A1 k1 A2 k2 A3 k3 A4 k4 A5 k5 A6 k6 A7 k7 A8 k8) x S :=
 Lay.mono (show rd m w (House.cs x A0 k0 A1 k1 A2 k2 A3 k3 A4 k4 A5 k5 A6 k6 A7 k7 A8 k8) x.tup (un S0 (un S1 (un S2 (un S3 (un S4 (un S5 (un S6 (un S7 S8)))))))) from ⟨Coord.cs x.coord A0 k0 A1 k1 A2 k2 A3 k3 A4 k4 A5 k5,_,(un S0 (un S1 (un S2 (un S3 (un S4 S5))))),(un S6 (un S7 S8)),rfl,(un_sub (yad _ _) (un_sub (ya0 (yad _ _) (ya2 _ _)) (un_sub (ya0 (ya0 (yad _ _) (ya2 _ _)) (ya2 _ _)) (un_sub (ya0 (ya0 (ya0 (yad _ _) (ya2 _ _)) (ya2 _ _)) (ya2 _ _)) (un_sub (ya0 (ya0 (ya0 (ya0 (yad _ _) (ya2 _ _)) (ya2 _ _)) (ya2 _ _)) (ya2 _ _)) (ya0 (ya0 (ya0 (ya0 (ya0 (yad _ _) (ya2 _ _)) (ya2 _ _)) (ya2 _ _)) (ya2 _ _)) (ya2 _ _))))))),(un_sub (ya0 (ya0 (ya0 (ya0 (ya0 (ya0 (yad _ _) (ya2 _ _)) (ya2 _ _)) (ya2 _ _)) (ya2 _ _)) (ya2 _ _)) (ya2 _ _)) (un_sub (ya0 (ya0 (ya0 (ya0 (ya0 (ya0 (ya0 (yad _ _) (ya2 _ _)) (ya2 _ _)) (ya2 _ _)) (ya2 _ _)) (ya2 _ _)) (ya2 _ _)) (ya2 _ _)) (ya0 (ya0 (ya0 (ya0 (ya0 (ya0 (ya0 (ya0 (ya3 _) (ya2 _ _)) (ya2 _ _)) (ya2 _ _)) (ya2 _ _)) (ya2 _ _)) (ya2 _ _)) (ya2 _ _)) (ya2 _ _)))),(fun _hm => (un_disj (disj_un (pwget9_0_6 (pw _hm)) (disj_un (pwget9_0_7 (pw _hm)) (pwget9_0_8 (pw _hm)))) (un_disj (disj_un (pwget9_1_6 (pw _hm)) (disj_un (pwget9_1_7 (pw _hm)) (pwget9_1_8 (pw _hm)))) (un_disj (disj_un (pwget9_2_6 (pw _hm)) (disj_un (pwget9_2_7 (pw _hm)) (pwget9_2_8 (pw _hm)))) (un_disj (disj_un (pwget9_3_6 (pw _hm)) (disj_un (pwget9_3_7 (pw _hm)) (pwget9_3_8 (pw _hm)))) (un_disj (disj_un (pwget9_4_6 (pw _hm)) (disj_un (pwget9_4_7 (pw _hm)) (pwget9_4_8 (pw _hm)))) (disj_un (pwget9_5_6 (pw _hm)) (disj_un (pwget9_5_7 (pw _hm)) (pwget9_5_8 (pw _hm)))))))))),(Coord.mk' f0 f1 a0 b0 r0 (yad _ _) a1 b1 r1 (ya0 (yad _ _) (ya2 _ _)) a2 b2 r2 (ya0 (ya0 (yad _ _) (ya2 _ _)) (ya2 _ _)) a3 b3 r3 (ya0 (ya0 (ya0 (yad _ _) (ya2 _ _)) (ya2 _ _)) (ya2 _ _)) f7 a4 b4 r4 (ya0 (ya0 (ya0 (ya0 (yad _ _) (ya2 _ _)) (ya2 _ _)) (ya2 _ _)) (ya2 _ _)) a5 b5 r5 (ya0 (ya0 (ya0 (ya0 (ya0 (ya3 _) (ya2 _ _)) (ya2 _ _)) (ya2 _ _)) (ya2 _ _)) (ya2 _ _)) (fun _hm => pwmk6 (pwget9_0_1 (pw _hm)) (pwget9_0_2 (pw _hm)) (pwget9_0_3 (pw _hm)) (pwget9_0_4 (pw _hm)) (pwget9_0_5 (pw _hm)) (pwget9_1_2 (pw _hm)) (pwget9_1_3 (pw _hm)) (pwget9_1_4 (pw _hm)) (pwget9_1_5 (pw _hm)) (pwget9_2_3 (pw _hm)) (pwget9_2_4 (pw _hm)) (pwget9_2_5 (pw _hm)) (pwget9_3_4 (pw _hm)) (pwget9_3_5 (pw _hm)) (pwget9_4_5 (pw _hm)))),⟨[_],_,S6,(un S7 S8),rfl,(yad _ _),(un_sub (ya0 (yad _ _) (ya2 _ _)) (ya0 (ya0 (ya3 _) (ya2 _ _)) (ya2 _ _))),(fun _hm => (disj_un (pwget9_6_7 (pw _hm)) (pwget9_6_8 (pw _hm)))),⟨_,_,rfl,a6,b6,r6⟩,⟨[_],_,S7,S8,rfl,(yad _ _),(ya0 (ya3 _) (ya2 _ _)),(fun _hm => (pwget9_7_8 (pw _hm))),⟨_,_,rfl,a7,b7,r7⟩,⟨_,_,rfl,a8,b8,r8⟩⟩⟩⟩) ((un_sub s0 (un_sub s1 (un_sub s2 (un_sub s3 (un_sub s4 (un_sub s5 (un_sub s6 (un_sub s7 s8)))))))))
def House.sz (x:House):Nat:=x.coord.sz+szL x.servers+szL x.net+szL x.codes
def House.cn (x:House):Nat:=1+1+1+cnL x.coord.disk.files+cnL x.coord.pool+cnL x.coord.seals+cnL x.coord.tries+1+1+cnL x.coord.votes+cnL x.coord.dones+cnL x.servers+cnL x.net+cnL x.codes
def House.me (x:House) (k:Nat):House:=(⟨(⟨((k:Nat):Int),((k+1:Nat):Int),(((k+1+1:Nat):Int) % 3 == 0),(⟨meL x.coord.disk.files (k+1+1+1)⟩:Disk),meL x.coord.pool (k+1+1+1+cnL x.coord.disk.files),meL x.coord.seals (k+1+1+1+cnL x.coord.disk.files+cnL x.coord.pool),meL x.coord.tries (k+1+1+1+cnL x.coord.disk.files+cnL x.coord.pool+cnL x.coord.seals),((k+1+1+1+cnL x.coord.disk.files+cnL x.coord.pool+cnL x.coord.seals+cnL x.coord.tries:Nat):Int),(((k+1+1+1+cnL x.coord.disk.files+cnL x.coord.pool+cnL x.coord.seals+cnL x.coord.tries+1:Nat):Int) % 3 == 0),meL x.coord.votes (k+1+1+1+cnL x.coord.disk.files+cnL x.coord.pool+cnL x.coord.seals+cnL x.coord.tries+1+1),meL x.coord.dones (k+1+1+1+cnL x.coord.disk.files+cnL x.coord.pool+cnL x.coord.seals+cnL x.coord.tries+1+1+cnL x.coord.votes)⟩:Coord),meL x.servers (k+1+1+1+cnL x.coord.disk.files+cnL x.coord.pool+cnL x.coord.seals+cnL x.coord.tries+1+1+cnL x.coord.votes+cnL x.coord.dones),meL x.net (k+1+1+1+cnL x.coord.disk.files+cnL x.coord.pool+cnL x.coord.seals+cnL x.coord.tries+1+1+cnL x.coord.votes+cnL x.coord.dones+cnL x.servers),meL x.codes (k+1+1+1+cnL x.coord.disk.files+cnL x.coord.pool+cnL x.coord.seals+cnL x.coord.tries+1+1+cnL x.coord.votes+cnL x.coord.dones+cnL x.servers+cnL x.net)⟩:House)
def House.ct (x:House):Nat:=cnL x.coord.disk.files+cnL x.coord.pool+cnL x.coord.seals+cnL x.coord.tries+cnL x.coord.votes+cnL x.coord.dones+cnL x.servers+cnL x.net+cnL x.codes
def House.zero:House:=(⟨(⟨0,0,false,(⟨[]⟩:Disk), [], [], [],0,false, [], []⟩:Coord), [], [], []⟩:House)
instance mkHouse:Mk House where
 sz:=House.sz
 cn:=House.cn
 me:=House.me
 z:=House.zero
 zc:=House.cs House.zero none 0 none 0 none 0 none 0 none 0 none 0 none 0 none 0 none 0
 zrd _ _:=House.mk' I64_zero I64_zero (Nat.le_refl 0) (Nat.zero_le _) (Row.nil _ _) (ya3 _) (Nat.le_refl 0) (Nat.zero_le _) (Row.nil _ _) (ya3 _) (Nat.le_refl 0) (Nat.zero_le _) (Row.nil _ _) (ya3 _) (Nat.le_refl 0) (Nat.zero_le _) (Row.nil _ _) (ya3 _) I64_zero (Nat.le_refl 0) (Nat.zero_le _) (Row.nil _ _) (ya3 _) (Nat.le_refl 0) (Nat.zero_le _) (Row.nil _ _) (ya3 _) (Nat.le_refl 0) (Nat.zero_le _) (Row.nil _ _) (ya3 _) (Nat.le_refl 0) (Nat.zero_le _) (Row.nil _ _) (ya3 _) (Nat.le_refl 0) (Nat.zero_le _) (Row.nil _ _) (ya3 _) (fun _ => by simp [disj])
structure Pair where
 a:Seal
 b:Seal
abbrev Pair.tup (x:Pair):Seal × Seal:=(x.a,x.b)
instance instPair:Lay Pair:=layVia 349 Pair.tup
instance slPair:SlTy Pair:=⟨300⟩
def Pair.cs (x:Pair) (A0:Option Addr) (k0:Nat) (A1:Option Addr) (k1:Nat) (A2:Option Addr) (k2:Nat) (A3:Option Addr) (k3:Nat) (A4:Option Addr) (k4:Nat) (A5:Option Addr) (k5:Nat):List Value:=[.int .i64 x.a.head.house,.int .i64 x.a.head.epoch,.string x.a.head.root,.string x.a.head.prev,.int .i64 x.a.sig.at_,.slice A0 x.a.sig.open_.length k0,.slice A1 x.a.sig.shut.length k1,.slice A2 x.a.sig.sides.length k2,.int .i64 x.b.head.house,.int .i64 x.b.head.epoch,.string x.b.head.root,.string x.b.head.prev,.int .i64 x.b.sig.at_,.slice A3 x.b.sig.open_.length k3,.slice A4 x.b.sig.shut.length k4,.slice A5 x.b.sig.sides.length k5]
theorem Pair.open {m:Bool} {w:World} {cs:List Value} {x:Pair} {S:Blks} (h:rd m w cs x S):∃ A0 k0 S0 A1 k1 S1 A2 k2 S2 A3 k3 S3 A4 k4 S4 A5 k5 S5,cs=Pair.cs x A0 k0 A1 k1 A2 k2 A3 k3 A4 k4 A5 k5∧I64 x.a.head.house∧I64 x.a.head.epoch∧x.a.head.root.size≤maxLen∧x.a.head.prev.size≤maxLen∧I64 x.a.sig.at_∧I64 x.b.head.house∧I64 x.b.head.epoch∧x.b.head.root.size≤maxLen∧x.b.head.prev.size≤maxLen∧I64 x.b.sig.at_∧x.a.sig.open_.length≤k0∧k0≤maxLen∧Row m w A0 k0 x.a.sig.open_ S0∧sub S0 S∧x.a.sig.shut.length≤k1∧k1≤maxLen∧Row m w A1 k1 x.a.sig.shut S1∧sub S1 S∧x.a.sig.sides.length≤k2∧k2≤maxLen∧Row m w A2 k2 x.a.sig.sides S2∧sub S2 S∧x.b.sig.open_.length≤k3∧k3≤maxLen∧Row m w A3 k3 x.b.sig.open_ S3∧sub S3 S∧x.b.sig.shut.length≤k4∧k4≤maxLen∧Row m w A4 k4 x.b.sig.shut S4∧sub S4 S∧x.b.sig.sides.length≤k5∧k5≤maxLen∧Row m w A5 k5 x.b.sig.sides S5∧sub S5 S∧(m=true→List.Pairwise disj [S0,S1,S2,S3,S4,S5]):=by
 have h0:rd m w cs x.tup S:=h
 obtain ⟨c1,c2,P3,R4,rfl,s5,s6,d7,h8,h9⟩:=open_two h0
 obtain ⟨A0,k0,S0,A1,k1,S1,A2,k2,S2,rfl,f10,f11,f12,f13,f14,g15,g16,g17,s18,g19,g20,g21,s22,g23,g24,g25,s26,pw27⟩:=Seal.open h8
 obtain ⟨A3,k3,S3,A4,k4,S4,A5,k5,S5,rfl,f28,f29,f30,f31,f32,g33,g34,g35,s36,g37,g38,g39,s40,g41,g42,g43,s44,pw45⟩:=Seal.open h9
 exact ⟨A0,k0,S0,A1,k1,S1,A2,k2,S2,A3,k3,S3,A4,k4,S4,A5,k5,S5,rfl,f10,f11,f12,f13,f14,f28,f29,f30,f31,f32,g15,g16,g17,(ya0 s18 s5),g19,g20,g21,(ya0 s22 s5),g23,g24,g25,(ya0 s26 s5),g33,g34,g35,(ya0 s36 s6),g37,g38,g39,(ya0 s40 s6),g41,g42,g43,(ya0 s44 s6),fun _hm => pwmk6 (pwget3_0_1 (pw27 _hm)) (pwget3_0_2 (pw27 _hm)) (ya6 (d7 _hm) s18 s36) (ya6 (d7 _hm) s18 s40) (ya6 (d7 _hm) s18 s44) (pwget3_1_2 (pw27 _hm)) (ya6 (d7 _hm) s22 s36) (ya6 (d7 _hm) s22 s40) (ya6 (d7 _hm) s22 s44) (ya6 (d7 _hm) s26 s36) (ya6 (d7 _hm) s26 s40) (ya6 (d7 _hm) s26 s44) (pwget3_0_1 (pw45 _hm)) (pwget3_0_2 (pw45 _hm)) (pwget3_1_2 (pw45 _hm))⟩
theorem Pair.mk' {m:Bool} {w:World} {x:Pair} {S:Blks} (f0:I64 x.a.head.house) (f1:I64 x.a.head.epoch) (f2:x.a.head.root.size≤maxLen) (f3:x.a.head.prev.size≤maxLen) (f4:I64 x.a.sig.at_) {A0:Option Addr} {k0:Nat} {S0:Blks} (a0:x.a.sig.open_.length≤k0) (b0:k0≤maxLen) (r0:Row m w A0 k0 x.a.sig.open_ S0) (s0:sub S0 S) {A1:Option Addr} {k1:Nat} {S1:Blks} (a1:x.a.sig.shut.length≤k1) (b1:k1≤maxLen) (r1:Row m w A1 k1 x.a.sig.shut S1) (s1:sub S1 S) {A2:Option Addr} {k2:Nat} {S2:Blks} (a2:x.a.sig.sides.length≤k2) (b2:k2≤maxLen) (r2:Row m w A2 k2 x.a.sig.sides S2) (s2:sub S2 S) (f8:I64 x.b.head.house) (f9:I64 x.b.head.epoch) (f10:x.b.head.root.size≤maxLen) (f11:x.b.head.prev.size≤maxLen) (f12:I64 x.b.sig.at_) {A3:Option Addr} {k3:Nat} {S3:Blks} (a3:x.b.sig.open_.length≤k3) (b3:k3≤maxLen) (r3:Row m w A3 k3 x.b.sig.open_ S3) (s3:sub S3 S) {A4:Option Addr} {k4:Nat} {S4:Blks} (a4:x.b.sig.shut.length≤k4) (b4:k4≤maxLen) (r4:Row m w A4 k4 x.b.sig.shut S4) (s4:sub S4 S) {A5:Option Addr} {k5:Nat} {S5:Blks} (a5:x.b.sig.sides.length≤k5) (b5:k5≤maxLen) (r5:Row m w A5 k5 x.b.sig.sides S5) (s5:sub S5 S) (pw:m=true→List.Pairwise disj [S0,S1,S2,S3,S4,S5]):rd m w (Pair.cs x A0 k0 A1 k1 A2 k2 A3 k3 A4 k4 A5 k5) x S :=
 Lay.mono (show rd m w (Pair.cs x A0 k0 A1 k1 A2 k2 A3 k3 A4 k4 A5 k5) x.tup (un S0 (un S1 (un S2 (un S3 (un S4 S5))))) from ⟨Seal.cs x.a A0 k0 A1 k1 A2 k2,_,(un S0 (un S1 S2)),(un S3 (un S4 S5)),rfl,(un_sub (yad _ _) (un_sub (ya0 (yad _ _) (ya2 _ _)) (ya0 (ya0 (yad _ _) (ya2 _ _)) (ya2 _ _)))),(un_sub (ya0 (ya0 (ya0 (yad _ _) (ya2 _ _)) (ya2 _ _)) (ya2 _ _)) (un_sub (ya0 (ya0 (ya0 (ya0 (yad _ _) (ya2 _ _)) (ya2 _ _)) (ya2 _ _)) (ya2 _ _)) (ya0 (ya0 (ya0 (ya0 (ya0 (ya3 _) (ya2 _ _)) (ya2 _ _)) (ya2 _ _)) (ya2 _ _)) (ya2 _ _)))),(fun _hm => (un_disj (disj_un (pwget6_0_3 (pw _hm)) (disj_un (pwget6_0_4 (pw _hm)) (pwget6_0_5 (pw _hm)))) (un_disj (disj_un (pwget6_1_3 (pw _hm)) (disj_un (pwget6_1_4 (pw _hm)) (pwget6_1_5 (pw _hm)))) (disj_un (pwget6_2_3 (pw _hm)) (disj_un (pwget6_2_4 (pw _hm)) (pwget6_2_5 (pw _hm))))))),(Seal.mk' f0 f1 f2 f3 f4 a0 b0 r0 (yad _ _) a1 b1 r1 (ya0 (yad _ _) (ya2 _ _)) a2 b2 r2 (ya0 (ya0 (ya3 _) (ya2 _ _)) (ya2 _ _)) (fun _hm => pwmk3 (pwget6_0_1 (pw _hm)) (pwget6_0_2 (pw _hm)) (pwget6_1_2 (pw _hm)))),(Seal.mk' f8 f9 f10 f11 f12 a3 b3 r3 (yad _ _) a4 b4 r4 (ya0 (yad _ _) (ya2 _ _)) a5 b5 r5 (ya0 (ya0 (ya3 _) (ya2 _ _)) (ya2 _ _)) (fun _hm => pwmk3 (pwget6_3_4 (pw _hm)) (pwget6_3_5 (pw _hm)) (pwget6_4_5 (pw _hm))))⟩) ((un_sub s0 (un_sub s1 (un_sub s2 (un_sub s3 (un_sub s4 s5))))))
def Pair.sz (x:Pair):Nat:=x.a.sz+x.b.sz
def Pair.cn (x:Pair):Nat:=1+1+1+1+1+cnL x.a.sig.open_+cnL x.a.sig.shut+cnL x.a.sig.sides+1+1+1+1+1+cnL x.b.sig.open_+cnL x.b.sig.shut+cnL x.b.sig.sides
def Pair.me (x:Pair) (k:Nat):Pair:=(⟨(⟨(⟨((k:Nat):Int),((k+1:Nat):Int),mtext (k+1+1),mtext (k+1+1+1)⟩:Head),(⟨((k+1+1+1+1:Nat):Int),meL x.a.sig.open_ (k+1+1+1+1+1),meL x.a.sig.shut (k+1+1+1+1+1+cnL x.a.sig.open_),meL x.a.sig.sides (k+1+1+1+1+1+cnL x.a.sig.open_+cnL x.a.sig.shut)⟩:Sig)⟩:Seal),(⟨(⟨((k+1+1+1+1+1+cnL x.a.sig.open_+cnL x.a.sig.shut+cnL x.a.sig.sides:Nat):Int),((k+1+1+1+1+1+cnL x.a.sig.open_+cnL x.a.sig.shut+cnL x.a.sig.sides+1:Nat):Int),mtext (k+1+1+1+1+1+cnL x.a.sig.open_+cnL x.a.sig.shut+cnL x.a.sig.sides+1+1),mtext (k+1+1+1+1+1+cnL x.a.sig.open_+cnL x.a.sig.shut+cnL x.a.sig.sides+1+1+1)⟩:Head),(⟨((k+1+1+1+1+1+cnL x.a.sig.open_+cnL x.a.sig.shut+cnL x.a.sig.sides+1+1+1+1:Nat):Int),meL x.b.sig.open_ (k+1+1+1+1+1+cnL x.a.sig.open_+cnL x.a.sig.shut+cnL x.a.sig.sides+1+1+1+1+1),meL x.b.sig.shut (k+1+1+1+1+1+cnL x.a.sig.open_+cnL x.a.sig.shut+cnL x.a.sig.sides+1+1+1+1+1+cnL x.b.sig.open_),meL x.b.sig.sides (k+1+1+1+1+1+cnL x.a.sig.open_+cnL x.a.sig.shut+cnL x.a.sig.sides+1+1+1+1+1+cnL x.b.sig.open_+cnL x.b.sig.shut)⟩:Sig)⟩:Seal)⟩:Pair)
def Pair.ct (x:Pair):Nat:=cnL x.a.sig.open_+cnL x.a.sig.shut+cnL x.a.sig.sides+cnL x.b.sig.open_+cnL x.b.sig.shut+cnL x.b.sig.sides
def Pair.zero:Pair:=(⟨(⟨(⟨0,0,ByteArray.empty,ByteArray.empty⟩:Head),(⟨0, [], [], []⟩:Sig)⟩:Seal),(⟨(⟨0,0,ByteArray.empty,ByteArray.empty⟩:Head),(⟨0, [], [], []⟩:Sig)⟩:Seal)⟩:Pair)
instance mkPair:Mk Pair where
 sz:=Pair.sz
 cn:=Pair.cn
 me:=Pair.me
 z:=Pair.zero
 zc:=Pair.cs Pair.zero none 0 none 0 none 0 none 0 none 0 none 0
 zrd _ _:=Pair.mk' I64_zero I64_zero empty_le empty_le I64_zero (Nat.le_refl 0) (Nat.zero_le _) (Row.nil _ _) (ya3 _) (Nat.le_refl 0) (Nat.zero_le _) (Row.nil _ _) (ya3 _) (Nat.le_refl 0) (Nat.zero_le _) (Row.nil _ _) (ya3 _) I64_zero I64_zero empty_le empty_le I64_zero (Nat.le_refl 0) (Nat.zero_le _) (Row.nil _ _) (ya3 _) (Nat.le_refl 0) (Nat.zero_le _) (Row.nil _ _) (ya3 _) (Nat.le_refl 0) (Nat.zero_le _) (Row.nil _ _) (ya3 _) (fun _ => by simp [disj])
structure Auditor where
 house:Int
 up:Bool
 disk:Disk
 pool:List ByteArray
 pins:List Seal
 pairs:List Pair
abbrev Auditor.tup (x:Auditor):Int × Bool × Disk × (List ByteArray) × (List Seal) × (List Pair):=(x.house,x.up,x.disk,x.pool,x.pins,x.pairs)
instance instAuditor:Lay Auditor:=layVia 302 Auditor.tup
instance slAuditor:SlTy Auditor:=⟨128⟩
def Auditor.cs (x:Auditor) (A0:Option Addr) (k0:Nat) (A1:Option Addr) (k1:Nat) (A2:Option Addr) (k2:Nat) (A3:Option Addr) (k3:Nat):List Value:=[.int .i64 x.house,.bool x.up,.slice A0 x.disk.files.length k0,.slice A1 x.pool.length k1,.slice A2 x.pins.length k2,.slice A3 x.pairs.length k3]
theorem Auditor.open {m:Bool} {w:World} {cs:List Value} {x:Auditor} {S:Blks} (h:rd m w cs x S):∃ A0 k0 S0 A1 k1 S1 A2 k2 S2 A3 k3 S3,cs=Auditor.cs x A0 k0 A1 k1 A2 k2 A3 k3∧I64 x.house∧x.disk.files.length≤k0∧k0≤maxLen∧Row m w A0 k0 x.disk.files S0∧sub S0 S∧x.pool.length≤k1∧k1≤maxLen∧Row m w A1 k1 x.pool S1∧sub S1 S∧x.pins.length≤k2∧k2≤maxLen∧Row m w A2 k2 x.pins S2∧sub S2 S∧x.pairs.length≤k3∧k3≤maxLen∧Row m w A3 k3 x.pairs S3∧sub S3 S∧(m=true→List.Pairwise disj [S0,S1,S2,S3]):=by
 have h0:rd m w cs x.tup S:=h
 obtain ⟨c1,rfl,f3,h2⟩:=open_int2 h0
 obtain ⟨c4,rfl,h5⟩:=open_bool2 h2
 obtain ⟨c6,c7,P8,R9,rfl,s10,s11,d12,h13,h14⟩:=open_two h5
 obtain ⟨A0,k0,S0,rfl,g15,g16,g17,s18⟩:=Disk.open h13
 obtain ⟨A1,k1,c22,S1,R23,rfl,g19,g20,g21,s24,s25,d26,h27⟩:=open_list2 h14
 obtain ⟨A2,k2,c31,S2,R32,rfl,g28,g29,g30,s33,s34,d35,h36⟩:=open_list2 h27
 obtain ⟨A3,k3,rfl,g37,g38,g39⟩:=open_list h36
 exact ⟨A0,k0,S0,A1,k1,S1,A2,k2,S2,A3,k3,_,rfl,f3,g15,g16,g17,(ya0 s18 s10),g19,g20,g21,(ya0 s24 s11),g28,g29,g30,(ya0 (ya0 s33 s25) s11),g37,g38,g39,(ya0 (ya0 s34 s25) s11),fun _hm => pwmk4 (ya6 (d12 _hm) s18 s24) (ya6 (d12 _hm) s18 (ya0 s33 s25)) (ya6 (d12 _hm) s18 (ya0 s34 s25)) (ya6 (d26 _hm) (ya3 _) s33) (ya6 (d26 _hm) (ya3 _) s34) (ya6 (d35 _hm) (ya3 _) (ya3 _))⟩
theorem Auditor.mk' {m:Bool} {w:World} {x:Auditor} {S:Blks} (f0:I64 x.house) {A0:Option Addr} {k0:Nat} {S0:Blks} (a0:x.disk.files.length≤k0) (b0:k0≤maxLen) (r0:Row m w A0 k0 x.disk.files S0) (s0:sub S0 S) {A1:Option Addr} {k1:Nat} {S1:Blks} (a1:x.pool.length≤k1) (b1:k1≤maxLen) (r1:Row m w A1 k1 x.pool S1) (s1:sub S1 S) {A2:Option Addr} {k2:Nat} {S2:Blks} (a2:x.pins.length≤k2) (b2:k2≤maxLen) (r2:Row m w A2 k2 x.pins S2) (s2:sub S2 S) {A3:Option Addr} {k3:Nat} {S3:Blks} (a3:x.pairs.length≤k3) (b3:k3≤maxLen) (r3:Row m w A3 k3 x.pairs S3) (s3:sub S3 S) (pw:m=true→List.Pairwise disj [S0,S1,S2,S3]):rd m w (Auditor.cs x A0 k0 A1 k1 A2 k2 A3 k3) x S :=
 Lay.mono (show rd m w (Auditor.cs x A0 k0 A1 k1 A2 k2 A3 k3) x.tup (un S0 (un S1 (un S2 S3))) from (mk_int2 f0 (mk_bool2 ⟨Disk.cs x.disk A0 k0,_,S0,(un S1 (un S2 S3)),rfl,(yad _ _),(un_sub (ya0 (yad _ _) (ya2 _ _)) (un_sub (ya0 (ya0 (yad _ _) (ya2 _ _)) (ya2 _ _)) (ya0 (ya0 (ya0 (ya3 _) (ya2 _ _)) (ya2 _ _)) (ya2 _ _)))),(fun _hm => (disj_un (pwget4_0_1 (pw _hm)) (disj_un (pwget4_0_2 (pw _hm)) (pwget4_0_3 (pw _hm))))),(Disk.mk' a0 b0 r0 (ya3 _)),⟨[_],_,S1,(un S2 S3),rfl,(yad _ _),(un_sub (ya0 (yad _ _) (ya2 _ _)) (ya0 (ya0 (ya3 _) (ya2 _ _)) (ya2 _ _))),(fun _hm => (disj_un (pwget4_1_2 (pw _hm)) (pwget4_1_3 (pw _hm)))),⟨_,_,rfl,a1,b1,r1⟩,⟨[_],_,S2,S3,rfl,(yad _ _),(ya0 (ya3 _) (ya2 _ _)),(fun _hm => (pwget4_2_3 (pw _hm))),⟨_,_,rfl,a2,b2,r2⟩,⟨_,_,rfl,a3,b3,r3⟩⟩⟩⟩))) ((un_sub s0 (un_sub s1 (un_sub s2 s3))))
def Auditor.sz (x:Auditor):Nat:=x.disk.sz+szL x.pool+szL x.pins+szL x.pairs
def Auditor.cn (x:Auditor):Nat:=1+1+cnL x.disk.files+cnL x.pool+cnL x.pins+cnL x.pairs
def Auditor.me (x:Auditor) (k:Nat):Auditor:=(⟨((k:Nat):Int),(((k+1:Nat):Int) % 3 == 0),(⟨meL x.disk.files (k+1+1)⟩:Disk),meL x.pool (k+1+1+cnL x.disk.files),meL x.pins (k+1+1+cnL x.disk.files+cnL x.pool),meL x.pairs (k+1+1+cnL x.disk.files+cnL x.pool+cnL x.pins)⟩:Auditor)
def Auditor.ct (x:Auditor):Nat:=cnL x.disk.files+cnL x.pool+cnL x.pins+cnL x.pairs
def Auditor.zero:Auditor:=(⟨0,false,(⟨[]⟩:Disk), [], [], []⟩:Auditor)
instance mkAuditor:Mk Auditor where
 sz:=Auditor.sz
 cn:=Auditor.cn
 me:=Auditor.me
 z:=Auditor.zero
 zc:=Auditor.cs Auditor.zero none 0 none 0 none 0 none 0
 zrd _ _:=Auditor.mk' I64_zero (Nat.le_refl 0) (Nat.zero_le _) (Row.nil _ _) (ya3 _) (Nat.le_refl 0) (Nat.zero_le _) (Row.nil _ _) (ya3 _) (Nat.le_refl 0) (Nat.zero_le _) (Row.nil _ _) (ya3 _) (Nat.le_refl 0) (Nat.zero_le _) (Row.nil _ _) (ya3 _) (fun _ => by simp [disj])
structure Note where
 to:Int
 text:ByteArray
abbrev Note.tup (x:Note):Int × ByteArray:=(x.to,x.text)
instance instNote:Lay Note:=layVia 304 Note.tup
instance slNote:SlTy Note:=⟨129⟩
def Note.cs (x:Note):List Value:=[.int .i64 x.to,.string x.text]
theorem Note.open {m:Bool} {w:World} {cs:List Value} {x:Note} {S:Blks} (h:rd m w cs x S):cs=Note.cs x∧I64 x.to∧x.text.size≤maxLen:=by
 have h0:rd m w cs x.tup S:=h
 obtain ⟨c1,rfl,f3,h2⟩:=open_int2 h0
 obtain ⟨rfl,f4⟩:=open_str h2
 exact ⟨rfl,f3,f4⟩
theorem Note.mk' {m:Bool} {w:World} {x:Note} {S:Blks} (f0:I64 x.to) (f1:x.text.size≤maxLen):rd m w (Note.cs x) x S :=
 Lay.mono (show rd m w (Note.cs x) x.tup (fun _ => False) from (mk_int2 f0 ⟨rfl,f1⟩)) (sub_none _)
def Note.sz (x:Note):Nat:=x.text.size
def Note.cn (_x:Note):Nat:=1+1
def Note.me (_x:Note) (k:Nat):Note:=(⟨((k:Nat):Int),mtext (k+1)⟩:Note)
def Note.ct (_x:Note):Nat:=0
def Note.zero:Note:=(⟨0,ByteArray.empty⟩:Note)
instance mkNote:Mk Note where
 sz:=Note.sz
 cn:=Note.cn
 me:=Note.me
 z:=Note.zero
 zc:=Note.cs Note.zero
 zrd _ _:=Note.mk' I64_zero empty_le
structure Given where
 house:Int
 epoch:Int
 stamp:Stamp
abbrev Given.tup (x:Given):Int × Int × Stamp:=(x.house,x.epoch,x.stamp)
instance instGiven:Lay Given:=layVia 298 Given.tup
instance slGiven:SlTy Given:=⟨130⟩
def Given.cs (x:Given) (A0:Option Addr) (k0:Nat) (A1:Option Addr) (k1:Nat) (A2:Option Addr) (k2:Nat):List Value:=[.int .i64 x.house,.int .i64 x.epoch,.int .i64 x.stamp.by_,.int .i64 x.stamp.sig.at_,.slice A0 x.stamp.sig.open_.length k0,.slice A1 x.stamp.sig.shut.length k1,.slice A2 x.stamp.sig.sides.length k2]
theorem Given.open {m:Bool} {w:World} {cs:List Value} {x:Given} {S:Blks} (h:rd m w cs x S):∃ A0 k0 S0 A1 k1 S1 A2 k2 S2,cs=Given.cs x A0 k0 A1 k1 A2 k2∧I64 x.house∧I64 x.epoch∧I64 x.stamp.by_∧I64 x.stamp.sig.at_∧x.stamp.sig.open_.length≤k0∧k0≤maxLen∧Row m w A0 k0 x.stamp.sig.open_ S0∧sub S0 S∧x.stamp.sig.shut.length≤k1∧k1≤maxLen∧Row m w A1 k1 x.stamp.sig.shut S1∧sub S1 S∧x.stamp.sig.sides.length≤k2∧k2≤maxLen∧Row m w A2 k2 x.stamp.sig.sides S2∧sub S2 S∧(m=true→List.Pairwise disj [S0,S1,S2]):=by
 have h0:rd m w cs x.tup S:=h
 obtain ⟨c1,rfl,f3,h2⟩:=open_int2 h0
 obtain ⟨c4,rfl,f6,h5⟩:=open_int2 h2
 obtain ⟨A0,k0,S0,A1,k1,S1,A2,k2,S2,rfl,f7,f8,g9,g10,g11,s12,g13,g14,g15,s16,g17,g18,g19,s20,pw21⟩:=Stamp.open h5
 exact ⟨A0,k0,S0,A1,k1,S1,A2,k2,S2,rfl,f3,f6,f7,f8,g9,g10,g11,s12,g13,g14,g15,s16,g17,g18,g19,s20,fun _hm => pwmk3 (pwget3_0_1 (pw21 _hm)) (pwget3_0_2 (pw21 _hm)) (pwget3_1_2 (pw21 _hm))⟩
theorem Given.mk' {m:Bool} {w:World} {x:Given} {S:Blks} (f0:I64 x.house) (f1:I64 x.epoch) (f2:I64 x.stamp.by_) (f3:I64 x.stamp.sig.at_) {A0:Option Addr} {k0:Nat} {S0:Blks} (a0:x.stamp.sig.open_.length≤k0) (b0:k0≤maxLen) (r0:Row m w A0 k0 x.stamp.sig.open_ S0) (s0:sub S0 S) {A1:Option Addr} {k1:Nat} {S1:Blks} (a1:x.stamp.sig.shut.length≤k1) (b1:k1≤maxLen) (r1:Row m w A1 k1 x.stamp.sig.shut S1) (s1:sub S1 S) {A2:Option Addr} {k2:Nat} {S2:Blks} (a2:x.stamp.sig.sides.length≤k2) (b2:k2≤maxLen) (r2:Row m w A2 k2 x.stamp.sig.sides S2) (s2:sub S2 S) (pw:m=true→List.Pairwise disj [S0,S1,S2]):rd m w (Given.cs x A0 k0 A1 k1 A2 k2) x S :=
 Lay.mono (show rd m w (Given.cs x A0 k0 A1 k1 A2 k2) x.tup (un S0 (un S1 S2)) from (mk_int2 f0 (mk_int2 f1 (Stamp.mk' f2 f3 a0 b0 r0 (yad _ _) a1 b1 r1 (ya0 (yad _ _) (ya2 _ _)) a2 b2 r2 (ya0 (ya0 (ya3 _) (ya2 _ _)) (ya2 _ _)) (fun _hm => pwmk3 (pwget3_0_1 (pw _hm)) (pwget3_0_2 (pw _hm)) (pwget3_1_2 (pw _hm))))))) ((un_sub s0 (un_sub s1 s2)))
def Given.sz (x:Given):Nat:=x.stamp.sz
def Given.cn (x:Given):Nat:=1+1+1+1+cnL x.stamp.sig.open_+cnL x.stamp.sig.shut+cnL x.stamp.sig.sides
def Given.me (x:Given) (k:Nat):Given:=(⟨((k:Nat):Int),((k+1:Nat):Int),(⟨((k+1+1:Nat):Int),(⟨((k+1+1+1:Nat):Int),meL x.stamp.sig.open_ (k+1+1+1+1),meL x.stamp.sig.shut (k+1+1+1+1+cnL x.stamp.sig.open_),meL x.stamp.sig.sides (k+1+1+1+1+cnL x.stamp.sig.open_+cnL x.stamp.sig.shut)⟩:Sig)⟩:Stamp)⟩:Given)
def Given.ct (x:Given):Nat:=cnL x.stamp.sig.open_+cnL x.stamp.sig.shut+cnL x.stamp.sig.sides
def Given.zero:Given:=(⟨0,0,(⟨0,(⟨0, [], [], []⟩:Sig)⟩:Stamp)⟩:Given)
instance mkGiven:Mk Given where
 sz:=Given.sz
 cn:=Given.cn
 me:=Given.me
 z:=Given.zero
 zc:=Given.cs Given.zero none 0 none 0 none 0
 zrd _ _:=Given.mk' I64_zero I64_zero I64_zero I64_zero (Nat.le_refl 0) (Nat.zero_le _) (Row.nil _ _) (ya3 _) (Nat.le_refl 0) (Nat.zero_le _) (Row.nil _ _) (ya3 _) (Nat.le_refl 0) (Nat.zero_le _) (Row.nil _ _) (ya3 _) (fun _ => by simp [disj])
structure Wrld where
 houses:List House
 auditors:List Auditor
 notes:List Note
 given:List Given
 evil:List Bool
 codes:List Int
abbrev Wrld.tup (x:Wrld):(List House) × (List Auditor) × (List Note) × (List Given) × (List Bool) × (List Int):=(x.houses,x.auditors,x.notes,x.given,x.evil,x.codes)
instance instWrld:Lay Wrld:=layVia 132 Wrld.tup
instance slWrld:SlTy Wrld:=⟨0⟩
def Wrld.cs (x:Wrld) (A0:Option Addr) (k0:Nat) (A1:Option Addr) (k1:Nat) (A2:Option Addr) (k2:Nat) (A3:Option Addr) (k3:Nat) (A4:Option Addr) (k4:Nat) (A5:Option Addr) (k5:Nat):List Value:=[.slice A0 x.houses.length k0,.slice A1 x.auditors.length k1,.slice A2 x.notes.length k2,.slice A3 x.given.length k3,.slice A4 x.evil.length k4,.slice A5 x.codes.length k5]
theorem Wrld.open {m:Bool} {w:World} {cs:List Value} {x:Wrld} {S:Blks} (h:rd m w cs x S):∃ A0 k0 S0 A1 k1 S1 A2 k2 S2 A3 k3 S3 A4 k4 S4 A5 k5 S5,cs=Wrld.cs x A0 k0 A1 k1 A2 k2 A3 k3 A4 k4 A5 k5∧x.houses.length≤k0∧k0≤maxLen∧Row m w A0 k0 x.houses S0∧sub S0 S∧x.auditors.length≤k1∧k1≤maxLen∧Row m w A1 k1 x.auditors S1∧sub S1 S∧x.notes.length≤k2∧k2≤maxLen∧Row m w A2 k2 x.notes S2∧sub S2 S∧x.given.length≤k3∧k3≤maxLen∧Row m w A3 k3 x.given S3∧sub S3 S∧x.evil.length≤k4∧k4≤maxLen∧Row m w A4 k4 x.evil S4∧sub S4 S∧x.codes.length≤k5∧k5≤maxLen∧Row m w A5 k5 x.codes S5∧sub S5 S∧(m=true→List.Pairwise disj [S0,S1,S2,S3,S4,S5]):=by
 have h0:rd m w cs x.tup S:=h
 obtain ⟨A0,k0,c4,S0,R5,rfl,g1,g2,g3,s6,s7,d8,h9⟩:=open_list2 h0
 obtain ⟨A1,k1,c13,S1,R14,rfl,g10,g11,g12,s15,s16,d17,h18⟩:=open_list2 h9
 obtain ⟨A2,k2,c22,S2,R23,rfl,g19,g20,g21,s24,s25,d26,h27⟩:=open_list2 h18
 obtain ⟨A3,k3,c31,S3,R32,rfl,g28,g29,g30,s33,s34,d35,h36⟩:=open_list2 h27
 obtain ⟨A4,k4,c40,S4,R41,rfl,g37,g38,g39,s42,s43,d44,h45⟩:=open_list2 h36
 obtain ⟨A5,k5,rfl,g46,g47,g48⟩:=open_list h45
 exact ⟨A0,k0,S0,A1,k1,S1,A2,k2,S2,A3,k3,S3,A4,k4,S4,A5,k5,_,rfl,g1,g2,g3,s6,g10,g11,g12,(ya0 s15 s7),g19,g20,g21,(ya0 (ya0 s24 s16) s7),g28,g29,g30,(ya0 (ya0 (ya0 s33 s25) s16) s7),g37,g38,g39,(ya0 (ya0 (ya0 (ya0 s42 s34) s25) s16) s7),g46,g47,g48,(ya0 (ya0 (ya0 (ya0 s43 s34) s25) s16) s7),fun _hm => pwmk6 (ya6 (d8 _hm) (ya3 _) s15) (ya6 (d8 _hm) (ya3 _) (ya0 s24 s16)) (ya6 (d8 _hm) (ya3 _) (ya0 (ya0 s33 s25) s16)) (ya6 (d8 _hm) (ya3 _) (ya0 (ya0 (ya0 s42 s34) s25) s16)) (ya6 (d8 _hm) (ya3 _) (ya0 (ya0 (ya0 s43 s34) s25) s16)) (ya6 (d17 _hm) (ya3 _) s24) (ya6 (d17 _hm) (ya3 _) (ya0 s33 s25)) (ya6 (d17 _hm) (ya3 _) (ya0 (ya0 s42 s34) s25)) (ya6 (d17 _hm) (ya3 _) (ya0 (ya0 s43 s34) s25)) (ya6 (d26 _hm) (ya3 _) s33) (ya6 (d26 _hm) (ya3 _) (ya0 s42 s34)) (ya6 (d26 _hm) (ya3 _) (ya0 s43 s34)) (ya6 (d35 _hm) (ya3 _) s42) (ya6 (d35 _hm) (ya3 _) s43) (ya6 (d44 _hm) (ya3 _) (ya3 _))⟩
theorem Wrld.mk' {m:Bool} {w:World} {x:Wrld} {S:Blks} {A0:Option Addr} {k0:Nat} {S0:Blks} (a0:x.houses.length≤k0) (b0:k0≤maxLen) (r0:Row m w A0 k0 x.houses S0) (s0:sub S0 S) {A1:Option Addr} {k1:Nat} {S1:Blks} (a1:x.auditors.length≤k1) (b1:k1≤maxLen) (r1:Row m w A1 k1 x.auditors S1) (s1:sub S1 S) {A2:Option Addr} {k2:Nat} {S2:Blks} (a2:x.notes.length≤k2) (b2:k2≤maxLen) (r2:Row m w A2 k2 x.notes S2) (s2:sub S2 S) {A3:Option Addr} {k3:Nat} {S3:Blks} (a3:x.given.length≤k3) (b3:k3≤maxLen) (r3:Row m w A3 k3 x.given S3) (s3:sub S3 S) {A4:Option Addr} {k4:Nat} {S4:Blks} (a4:x.evil.length≤k4) (b4:k4≤maxLen) (r4:Row m w A4 k4 x.evil S4) (s4:sub S4 S) {A5:Option Addr} {k5:Nat} {S5:Blks} (a5:x.codes.length≤k5) (b5:k5≤maxLen) (r5:Row m w A5 k5 x.codes S5) (s5:sub S5 S) (pw:m=true→List.Pairwise disj [S0,S1,S2,S3,S4,S5]):rd m w (Wrld.cs x A0 k0 A1 k1 A2 k2 A3 k3 A4 k4 A5 k5) x S :=
 Lay.mono (show rd m w (Wrld.cs x A0 k0 A1 k1 A2 k2 A3 k3 A4 k4 A5 k5) x.tup (un S0 (un S1 (un S2 (un S3 (un S4 S5))))) from ⟨[_],_,S0,(un S1 (un S2 (un S3 (un S4 S5)))),rfl,(yad _ _),(un_sub (ya0 (yad _ _) (ya2 _ _)) (un_sub (ya0 (ya0 (yad _ _) (ya2 _ _)) (ya2 _ _)) (un_sub (ya0 (ya0 (ya0 (yad _ _) (ya2 _ _)) (ya2 _ _)) (ya2 _ _)) (un_sub (ya0 (ya0 (ya0 (ya0 (yad _ _) (ya2 _ _)) (ya2 _ _)) (ya2 _ _)) (ya2 _ _)) (ya0 (ya0 (ya0 (ya0 (ya0 (ya3 _) (ya2 _ _)) (ya2 _ _)) (ya2 _ _)) (ya2 _ _)) (ya2 _ _)))))),(fun _hm => (disj_un (pwget6_0_1 (pw _hm)) (disj_un (pwget6_0_2 (pw _hm)) (disj_un (pwget6_0_3 (pw _hm)) (disj_un (pwget6_0_4 (pw _hm)) (pwget6_0_5 (pw _hm))))))),⟨_,_,rfl,a0,b0,r0⟩,⟨[_],_,S1,(un S2 (un S3 (un S4 S5))),rfl,(yad _ _),(un_sub (ya0 (yad _ _) (ya2 _ _)) (un_sub (ya0 (ya0 (yad _ _) (ya2 _ _)) (ya2 _ _)) (un_sub (ya0 (ya0 (ya0 (yad _ _) (ya2 _ _)) (ya2 _ _)) (ya2 _ _)) (ya0 (ya0 (ya0 (ya0 (ya3 _) (ya2 _ _)) (ya2 _ _)) (ya2 _ _)) (ya2 _ _))))),(fun _hm => (disj_un (pwget6_1_2 (pw _hm)) (disj_un (pwget6_1_3 (pw _hm)) (disj_un (pwget6_1_4 (pw _hm)) (pwget6_1_5 (pw _hm)))))),⟨_,_,rfl,a1,b1,r1⟩,⟨[_],_,S2,(un S3 (un S4 S5)),rfl,(yad _ _),(un_sub (ya0 (yad _ _) (ya2 _ _)) (un_sub (ya0 (ya0 (yad _ _) (ya2 _ _)) (ya2 _ _)) (ya0 (ya0 (ya0 (ya3 _) (ya2 _ _)) (ya2 _ _)) (ya2 _ _)))),(fun _hm => (disj_un (pwget6_2_3 (pw _hm)) (disj_un (pwget6_2_4 (pw _hm)) (pwget6_2_5 (pw _hm))))),⟨_,_,rfl,a2,b2,r2⟩,⟨[_],_,S3,(un S4 S5),rfl,(yad _ _),(un_sub (ya0 (yad _ _) (ya2 _ _)) (ya0 (ya0 (ya3 _) (ya2 _ _)) (ya2 _ _))),(fun _hm => (disj_un (pwget6_3_4 (pw _hm)) (pwget6_3_5 (pw _hm)))),⟨_,_,rfl,a3,b3,r3⟩,⟨[_],_,S4,S5,rfl,(yad _ _),(ya0 (ya3 _) (ya2 _ _)),(fun _hm => (pwget6_4_5 (pw _hm))),⟨_,_,rfl,a4,b4,r4⟩,⟨_,_,rfl,a5,b5,r5⟩⟩⟩⟩⟩⟩) ((un_sub s0 (un_sub s1 (un_sub s2 (un_sub s3 (un_sub s4 s5))))))
def Wrld.sz (x:Wrld):Nat:=szL x.houses+szL x.auditors+szL x.notes+szL x.given+szL x.evil+szL x.codes
def Wrld.cn (x:Wrld):Nat:=cnL x.houses+cnL x.auditors+cnL x.notes+cnL x.given+cnL x.evil+cnL x.codes
def Wrld.me (x:Wrld) (k:Nat):Wrld:=(⟨meL x.houses (k),meL x.auditors (k+cnL x.houses),meL x.notes (k+cnL x.houses+cnL x.auditors),meL x.given (k+cnL x.houses+cnL x.auditors+cnL x.notes),meL x.evil (k+cnL x.houses+cnL x.auditors+cnL x.notes+cnL x.given),meL x.codes (k+cnL x.houses+cnL x.auditors+cnL x.notes+cnL x.given+cnL x.evil)⟩:Wrld)
def Wrld.ct (x:Wrld):Nat:=cnL x.houses+cnL x.auditors+cnL x.notes+cnL x.given+cnL x.evil+cnL x.codes
def Wrld.zero:Wrld:=(⟨[], [], [], [], [], []⟩:Wrld)
instance mkWrld:Mk Wrld where
 sz:=Wrld.sz
 cn:=Wrld.cn
 me:=Wrld.me
 z:=Wrld.zero
 zc:=Wrld.cs Wrld.zero none 0 none 0 none 0 none 0 none 0 none 0
 zrd _ _:=Wrld.mk' (Nat.le_refl 0) (Nat.zero_le _) (Row.nil _ _) (ya3 _) (Nat.le_refl 0) (Nat.zero_le _) (Row.nil _ _) (ya3 _) (Nat.le_refl 0) (Nat.zero_le _) (Row.nil _ _) (ya3 _) (Nat.le_refl 0) (Nat.zero_le _) (Row.nil _ _) (ya3 _) (Nat.le_refl 0) (Nat.zero_le _) (Row.nil _ _) (ya3 _) (Nat.le_refl 0) (Nat.zero_le _) (Row.nil _ _) (ya3 _) (fun _ => by simp [disj])
structure Past where
 wholes:List Whole
abbrev Past.tup (x:Past):(List Whole):=(x.wholes)
instance instPast:Lay Past:=layVia 66 Past.tup
instance slPast:SlTy Past:=⟨0⟩
def Past.cs (x:Past) (A0:Option Addr) (k0:Nat):List Value:=[.slice A0 x.wholes.length k0]
theorem Past.open {m:Bool} {w:World} {cs:List Value} {x:Past} {S:Blks} (h:rd m w cs x S):∃ A0 k0 S0,cs=Past.cs x A0 k0∧x.wholes.length≤k0∧k0≤maxLen∧Row m w A0 k0 x.wholes S0∧sub S0 S:=by
 have h0:rd m w cs x.tup S:=h
 obtain ⟨A0,k0,rfl,g1,g2,g3⟩:=open_list h0
 exact ⟨A0,k0,_,rfl,g1,g2,g3,(ya3 _)⟩
theorem Past.mk' {m:Bool} {w:World} {x:Past} {S:Blks} {A0:Option Addr} {k0:Nat} {S0:Blks} (a0:x.wholes.length≤k0) (b0:k0≤maxLen) (r0:Row m w A0 k0 x.wholes S0) (s0:sub S0 S):rd m w (Past.cs x A0 k0) x S :=
 Lay.mono (show rd m w (Past.cs x A0 k0) x.tup S0 from ⟨_,_,rfl,a0,b0,r0⟩) (s0)
def Past.sz (x:Past):Nat:=szL x.wholes
def Past.cn (x:Past):Nat:=cnL x.wholes
def Past.me (x:Past) (k:Nat):Past:=(⟨meL x.wholes (k)⟩:Past)
def Past.ct (x:Past):Nat:=cnL x.wholes
def Past.zero:Past:=(⟨[]⟩:Past)
instance mkPast:Mk Past where
 sz:=Past.sz
 cn:=Past.cn
 me:=Past.me
 z:=Past.zero
 zc:=Past.cs Past.zero none 0
 zrd _ _:=Past.mk' (Nat.le_refl 0) (Nat.zero_le _) (Row.nil _ _) (ya3 _)
structure Client where
 house:Int
 seen:List Head
abbrev Client.tup (x:Client):Int × (List Head):=(x.house,x.seen)
instance instClient:Lay Client:=layVia 96 Client.tup
instance slClient:SlTy Client:=⟨0⟩
def Client.cs (x:Client) (A0:Option Addr) (k0:Nat):List Value:=[.int .i64 x.house,.slice A0 x.seen.length k0]
theorem Client.open {m:Bool} {w:World} {cs:List Value} {x:Client} {S:Blks} (h:rd m w cs x S):∃ A0 k0 S0,cs=Client.cs x A0 k0∧I64 x.house∧x.seen.length≤k0∧k0≤maxLen∧Row m w A0 k0 x.seen S0∧sub S0 S:=by
 have h0:rd m w cs x.tup S:=h
 obtain ⟨c1,rfl,f3,h2⟩:=open_int2 h0
 obtain ⟨A0,k0,rfl,g4,g5,g6⟩:=open_list h2
 exact ⟨A0,k0,_,rfl,f3,g4,g5,g6,(ya3 _)⟩
theorem Client.mk' {m:Bool} {w:World} {x:Client} {S:Blks} (f0:I64 x.house) {A0:Option Addr} {k0:Nat} {S0:Blks} (a0:x.seen.length≤k0) (b0:k0≤maxLen) (r0:Row m w A0 k0 x.seen S0) (s0:sub S0 S):rd m w (Client.cs x A0 k0) x S :=
 Lay.mono (show rd m w (Client.cs x A0 k0) x.tup S0 from (mk_int2 f0 ⟨_,_,rfl,a0,b0,r0⟩)) (s0)
def Client.sz (x:Client):Nat:=szL x.seen
def Client.cn (x:Client):Nat:=1+cnL x.seen
def Client.me (x:Client) (k:Nat):Client:=(⟨((k:Nat):Int),meL x.seen (k+1)⟩:Client)
def Client.ct (x:Client):Nat:=cnL x.seen
def Client.zero:Client:=(⟨0, []⟩:Client)
instance mkClient:Mk Client where
 sz:=Client.sz
 cn:=Client.cn
 me:=Client.me
 z:=Client.zero
 zc:=Client.cs Client.zero none 0
 zrd _ _:=Client.mk' I64_zero (Nat.le_refl 0) (Nat.zero_le _) (Row.nil _ _) (ya3 _)
end Go.Proofs.YtcbbjfafmmcfiaaGreatDoor
