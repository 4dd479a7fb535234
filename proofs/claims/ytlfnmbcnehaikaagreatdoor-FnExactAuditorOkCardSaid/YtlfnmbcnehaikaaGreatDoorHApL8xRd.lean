/- A part of the proof. -/
import Derived.Deep.DeepFit
import Derived.Test.YtlfnmbcnehaikaaGreatDoorHApLw
set_option linter.unusedVariables false
set_option linter.unusedSimpArgs false
namespace Go.Proofs.YtlfnmbcnehaikaaGreatDoor
open Go.RowKit Lay Mk
theorem Row.str {m : Bool} {w : World} {A : Option Addr} {cap : Nat} {xs : List ByteArray} {S : Blks} (h : Row m w A cap xs S) {i : Nat} (hi : i < xs.length) :
  ∃ b off,A = some ⟨b,off,none⟩ ∧ b < w.heap.size ∧ w.cell? ⟨b,off + i,none⟩ = some (.string xs[i]) ∧ xs[i].size ≤ maxLen:=by
 obtain ⟨b,off,cs,T,e,hb,ha,hr,_,_⟩:=Row.at_ h hi
 obtain ⟨rfl,hs⟩:=open_str hr
 have:=ha 0 _ rfl
 exact ⟨b,off,e,hb,by simpa [show n ByteArray = 1 from rfl] using this,hs⟩
theorem Row.int {m : Bool} {w : World} {A : Option Addr} {cap : Nat} {xs : List Int} {S : Blks} (h : Row m w A cap xs S) {i : Nat} (hi : i < xs.length) :
  ∃ b off,A = some ⟨b,off,none⟩ ∧ b < w.heap.size ∧ w.cell? ⟨b,off + i,none⟩ = some (.int .i64 xs[i]) ∧ I64 xs[i]:=by
 obtain ⟨b,off,cs,T,e,hb,ha,hr,_,_⟩:=Row.at_ h hi
 obtain ⟨rfl,hs⟩:=open_int hr
 have:=ha 0 _ rfl
 exact ⟨b,off,e,hb,by simpa [show n Int = 1 from rfl] using this,hs⟩
theorem Row.bool {m : Bool} {w : World} {A : Option Addr} {cap : Nat} {xs : List Bool} {S : Blks} (h : Row m w A cap xs S) {i : Nat} (hi : i < xs.length) :
  ∃ b off,A = some ⟨b,off,none⟩ ∧ b < w.heap.size ∧ w.cell? ⟨b,off + i,none⟩ = some (.bool xs[i]):=by
 obtain ⟨b,off,cs,T,e,hb,ha,hr,_,_⟩:=Row.at_ h hi
 have hr : cs = [.bool xs[i]]:=hr
 subst hr
 have:=ha 0 _ rfl
 exact ⟨b,off,e,hb,by simpa [show n Bool = 1 from rfl] using this⟩
theorem toList_inj {a b : ByteArray} (h : a.toList = b.toList) : a = b:=by
 rw [ByteArray.toList_eq,ByteArray.toList_eq] at h
 exact ByteArray.ext (Array.toList_inj.1 h)
theorem str_eq {a b : ByteArray} (h : a = b) : (a.toList == b.toList) = true:=by subst h; simp
theorem str_ne {a b : ByteArray} (h : ¬ a = b) : (a.toList == b.toList) = false:=by
 rw [beq_eq_false_iff_ne]; exact fun e => h (toList_inj e)
theorem str_dec (a b : ByteArray) : (a.toList == b.toList) = decide (a = b):=by
 by_cases h : a = b
 ·rw [str_eq h,decide_eq_true h]
 ·rw [str_ne h,decide_eq_false h]
def nw (B : Nat) : Blks:=fun b => B ≤ b
theorem row_nil {α : Type} [Lay α] (w : World) (S : Blks) : Row (α:=α) true w none 0 [] S:=.inl ⟨rfl,rfl,rfl⟩
theorem row_lit0 {α : Type} [Lay α] (w : World) (t : TypeId) (S : Blks) (ht : t = ty α) (hS : S w.heap.size) : Row (α:=α) true (w.alloc (.cells #[] t)) (some ⟨w.heap.size,0,none⟩) 0 [] S:=by
 subst ht
 exact .inr ⟨w.heap.size, #[],rfl,hS,heap_alloc_new w _,zz17,fun _ => none_,fun _ _ x => x.elim,fun _ _ _ _ _ x => x.elim,fun i hi => absurd hi zz17⟩
theorem Chg.nw {S : Blks} {w w' : World} {B : Nat} (h : Chg S w w') (hB : B ≤ w.heap.size) (hs : sub S (nw B)) : Below B w w':=h.to_below hB hs
theorem nw_step {B : Nat} {S T : Blks} {lo hi : Nat} (hS : sub S (nw B)) (hT : sub T (nw B)) (h : B ≤ lo) : sub (fun b => S b ∨ T b ∨ (lo ≤ b ∧ b < hi)) (nw B) :=
 fun b x => x.elim (hS b) (fun y => y.elim (hT b) (fun z => Nat.le_trans h z.1))
theorem none_sub (S : Blks) : sub none_ S:=fun _ x => x.elim
theorem to_rng {α : Type} [Lay α] {w : World} {A : Option Addr} {cap : Nat} {xs : List α} {B : Nat} (h : Row true w A cap xs (nw B)) : Row true w A cap xs (rng B w.heap.size):=h.tight.mono (fun b x => ⟨x.1,x.2⟩)
theorem row_step {α : Type} [Lay α] {w w' : World} {A : Option Addr} {cap B : Nat} {xs : List α} (h : Row true w' A cap xs (fun b => nw B b ∨ none_ b ∨ (w.heap.size ≤ b ∧ b < w'.heap.size))) (hB : B ≤ w.heap.size) : Row true w' A cap xs (nw B) :=
 h.mono (nw_step (ya8 _) (none_sub _) hB)
theorem ya2 (w : World) (C : Array Value) (t : TypeId) (j : Nat) (v : Value) (h : C[j]? = some v) : (w.alloc (.cells C t)).cell? ⟨w.heap.size,j,none⟩ = some v:=by rw [World.cell?_alloc_mark]; exact h
end Go.Proofs.YtlfnmbcnehaikaaGreatDoor
namespace Go.Proofs.YtlfnmbcnehaikaaGreatDoor
open Go.RowKit Lay Mk
theorem ya3 {P : Program} {ops : Array Oper} {S : World → Prop} {o : Oper} {a : Act} (hw : Region.wanted o (yielded ops a.tmps) = true) (x : Operand) (ho : o.op = .move x) {v : Value} (hx : a.eval x = v) : YieldsIf P ops S o v a:=by
 subst hx
 refine .inl ⟨hw,fun w hS => ?_⟩
 unfold execOp
 simp only [ho]
 rfl
theorem yieldsIf_assign {P : Program} {ops : Array Oper} {S : World → Prop} {o : Oper} {a : Act} (hw : Region.wanted o (yielded ops a.tmps) = true) (x : Operand) (ho : o.op = .assign x) {v : Value} (hx : a.eval x = v) : YieldsIf P ops S o v a:=by
 subst hx
 refine .inl ⟨hw,fun w hS => ?_⟩
 unfold execOp
 simp only [ho]
 rfl
end Go.Proofs.YtlfnmbcnehaikaaGreatDoor
