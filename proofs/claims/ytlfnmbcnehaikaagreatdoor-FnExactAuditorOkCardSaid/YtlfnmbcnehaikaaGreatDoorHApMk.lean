/- A part of the proof. -/
import Derived.Test.YtlfnmbcnehaikaaGreatDoorHApInst
set_option linter.unusedVariables false
set_option linter.unusedSimpArgs false
namespace Go.Proofs.YtlfnmbcnehaikaaGreatDoor
open Go.RowKit Lay
def mdig : Nat → Nat → ByteArray → ByteArray
 | 0,_,out => out
 | f + 1,k,out => if k = 0 then out else mdig f (k / 10) (⟨#[UInt8.ofNat (48 + k % 10)]⟩ ++ out)
def mtext (k : Nat) : ByteArray:=if k = 0 then ⟨#[109,48]⟩ else ⟨#[109]⟩ ++ mdig k k ByteArray.empty
class Mk (α : Type) [Lay α] where
 sz : α → Nat
 cn : α → Nat
 me : α → Nat → α
 z : α
 zc : List Value
 zrd : ∀ (m : Bool) (w : World),rd m w zc z (fun _ => False)
open Mk
def szL {α : Type} [Lay α] [Mk α] (xs : List α) : Nat:=xs.length + (xs.map sz).sum
def cnL {α : Type} [Lay α] [Mk α] (xs : List α) : Nat:=(xs.map cn).sum
def meL {α : Type} [Lay α] [Mk α] : List α → Nat → List α
 | [],_ => []
 | x :: xs,k => me x k :: meL xs (k + cn x)
@[simp] theorem meL_length {α : Type} [Lay α] [Mk α] : ∀ (xs : List α) (k : Nat),(meL xs k).length = xs.length
 | [],_ => rfl
 | x :: xs,k => by simp [meL,meL_length xs]
theorem meL_get {α : Type} [Lay α] [Mk α] : ∀ (xs : List α) (k i : Nat) (h : i < xs.length),(meL xs k)[i]'(by simpa using h) = me xs[i] (k + cnL (xs.take i))
 | [],_,_,h => by simp at h
 | x :: xs,k,0,h => by simp [meL,cnL]
 | x :: xs,k,i + 1,h => by
  simp only [meL,List.getElem_cons_succ,List.take_succ_cons]
  rw [meL_get xs (k + cn x) i (by simpa using h)]
  simp [cnL,Nat.add_assoc]
theorem sum_take_le : ∀ (l : List Nat) (i : Nat),(l.take i).sum ≤ l.sum
 | [],_ => by simp
 | x :: l,0 => by simp
 | x :: l,i + 1 => by simp only [List.take_succ_cons,List.sum_cons]; have:=sum_take_le l i; omega
theorem sum_take_succ (l : List Nat) (i : Nat) (h : i < l.length) : (l.take (i + 1)).sum = (l.take i).sum + l[i]:=by
 rw [List.take_succ_eq_append_getElem h,List.sum_append]; simp only [List.sum_cons,List.sum_nil,Nat.add_zero]
theorem cnL_take_succ {α : Type} [Lay α] [Mk α] (xs : List α) (i : Nat) (h : i < xs.length) : cnL (xs.take (i + 1)) = cnL (xs.take i) + cn xs[i]:=by
 unfold cnL; rw [List.map_take,List.map_take,sum_take_succ _ _ (by simpa using h)]; simp
theorem cnL_take_le {α : Type} [Lay α] [Mk α] (xs : List α) (i : Nat) : cnL (xs.take i) ≤ cnL xs:=by
 unfold cnL; rw [List.map_take]; exact sum_take_le _ _
def szT {α : Type} [Lay α] [Mk α] (xs : List α) (i : Nat) : Nat:=((xs.map sz).take i).sum
theorem szT_succ {α : Type} [Lay α] [Mk α] (xs : List α) (i : Nat) (h : i < xs.length) : szT xs (i + 1) = szT xs i + sz xs[i]:=by
 unfold szT; rw [sum_take_succ _ _ (by simpa using h)]; simp
theorem szT_le {α : Type} [Lay α] [Mk α] (xs : List α) (i : Nat) : xs.length + szT xs i ≤ szL xs:=by
 unfold szL szT; have:=sum_take_le (xs.map sz) i; omega
theorem szT_all {α : Type} [Lay α] [Mk α] (xs : List α) : xs.length + szT xs xs.length = szL xs:=by
 unfold szL szT; rw [List.take_of_length_le zz17]
theorem szT_zero {α : Type} [Lay α] [Mk α] (xs : List α) : szT xs 0 = 0:=by simp [szT]
theorem sz_le_L {α : Type} [Lay α] [Mk α] (xs : List α) (i : Nat) (h : i < xs.length) : xs.length + sz xs[i] ≤ szL xs:=by
 have h1:=szT_succ xs i h
 have h2:=szT_le xs (i + 1)
 omega
def SzR (n left : Int) (s : Nat) : Prop:=(n = -1 ∧ left < s) ∨ (n = left - s ∧ (s : Int) ≤ left)
instance mkInt : Mk Int where
 sz _:=0
 cn _:=1
 me _ k:=k
 z:=0
 zc:=[.int .i64 0]
 zrd _ _:=⟨rfl,zz30⟩
instance mkBool : Mk Bool where
 sz _:=0
 cn _:=1
 me _ k:=((k : Int) % 3 == 0)
 z:=false
 zc:=[.bool false]
 zrd _ _:=rfl
instance mkStr : Mk ByteArray where
 sz s:=s.size
 cn _:=1
 me _ k:=mtext k
 z:=ByteArray.empty
 zc:=[.string ByteArray.empty]
 zrd _ _:=⟨rfl,zz44⟩
instance mkList {α : Type} [Lay α] [SlTy α] [Mk α] : Mk (List α) where
 sz xs:=szL xs
 cn xs:=cnL xs
 me xs k:=meL xs k
 z:=[]
 zc:=[.slice none 0 0]
 zrd m w:=⟨none,0,rfl,zz17,zz44,by cases m; exact fun h => absurd rfl h; exact .inl ⟨rfl,rfl,rfl⟩⟩
theorem Row.set {α : Type} [Lay α] {w w' : World} {g cap : Nat} {ys : List α} {S : Blks} {T : Nat → Blks} {cur cur' : Array Value} {i : Nat} {y : α} {cs : List Value} {U : Blks}
  (hg : S g) (hc : cur.size = cap * n α) (hT : ∀ i,sub (T i) (fun b => S b ∧ b ≠ g)) (hd : ∀ i j,i ≠ j → disj (T i) (T j))
  (he : ∀ j (h : j < ys.length),j ≠ i → ∃ cs,At w g (j * n α) cs ∧ rd true w cs ys[j] (T j))
  (hi : i < ys.length) (hw' : w'.heap[g]? = some (.cells cur' (ty α) (0,0))) (hc' : cur'.size = cur.size)
  (hsame : ∀ o,o < ys.length * n α → o / n α ≠ i → w'.cell? ⟨g,o,none⟩ = w.cell? ⟨g,o,none⟩)
  (hoth : ∀ j,j < ys.length → j ≠ i → Same (T j) w w')
  (hU : sub U (fun b => S b ∧ b ≠ g)) (hUd : ∀ j,j < ys.length → j ≠ i → disj U (T j))
  (hat : At w' g (i * n α) cs) (hrd : rd true w' cs y U) : Row true w' (some ⟨g,0,none⟩) cap (ys.set i y) S:=by
 refine .inr ⟨g,cur',rfl,hg,hw',by rw [hc',hc],?_⟩
 refine ⟨fun j b => if j = i then U b else (T j b ∧ j < ys.length),fun j => ?_,fun _ j k hjk => ?_,fun j hj => ?_⟩
 ·intro b hb
  by_cases e : j = i
  ·simp only [e,if_true] at hb; exact hU b hb
  ·simp only [e,if_false] at hb; exact hT j b hb.1
 ·intro b hb hb2
  by_cases e1 : j = i
  ·subst e1
   have e2 : ¬ k = j:=fun h => hjk h.symm
   simp only [if_true] at hb
   simp only [e2,if_false] at hb2
   exact hUd k hb2.2 e2 b hb hb2.1
  ·simp only [e1,if_false] at hb
   by_cases e2 : k = i
   ·subst e2
    simp only [if_true] at hb2
    exact hUd j hb.2 e1 b hb2 hb.1
   ·simp only [e2,if_false] at hb2
    exact hd j k hjk b hb.1 hb2.1
 ·have hj' : j < ys.length:=by simpa using hj
  by_cases e : j = i
  ·subst e
   refine ⟨cs,by simpa using hat,?_⟩
   simp only [if_true,List.getElem_set_self]
   exact hrd
  ·obtain ⟨c,h1,h2⟩:=he j hj' e
   refine ⟨c,?_,?_⟩
   ·intro q u hu
    have hq : q < n α:=by
     have hl:=Lay.len h2
     have:=(List.getElem?_eq_some_iff.1 hu).1
     omega
    have hm : j * n α + n α ≤ ys.length * n α:=by rw [← Nat.succ_mul]; exact Nat.mul_le_mul_right _ hj'
    have hs:=hsame (j * n α + q) zz4 (by
     rw [Nat.mul_comm,Nat.mul_add_div (Lay.pos),Nat.div_eq_of_lt hq]; simpa using e)
    have h1':=h1 q u hu
    simp only [Nat.zero_add] at h1' ⊢
    rw [hs]; exact h1'
   ·have hne : ¬ i = j:=fun h => e h.symm
    simp only [e,if_false,List.getElem_set,hne]
    exact Lay.mono (Lay.keep h2 (hoth j hj' e)) (fun b hb => ⟨hb,hj'⟩)
theorem Lay.later {α : Type} [Lay α] {m : Bool} {w w' : World} {cs : List Value} {a : α} {S : Blks} (h : rd m w cs a S) (hb : Below w.heap.size w w') : rd m w' cs a S :=
 Lay.mono (Lay.keep (Lay.tight h) (fun b x => hb.block b x.2)) (fun _ x => x.1)
theorem Row.later {α : Type} [Lay α] {m : Bool} {w w' : World} {A : Option Addr} {cap : Nat} {xs : List α} {S : Blks} (h : Row m w A cap xs S) (hb : Below w.heap.size w w') : Row m w' A cap xs S :=
 (h.tight.keep (fun b x => hb.block b x.2)).mono (fun _ x => x.1)
theorem Lay.chg {α : Type} [Lay α] {m : Bool} {w w' : World} {cs : List Value} {a : α} {S T : Blks} (h : rd m w cs a S) (hb : Chg T w w') (hd : disj S T) : rd m w' cs a S :=
 Lay.mono (Lay.keep (Lay.tight h) (fun b x => hb.block b x.2 (hd b x.1))) (fun _ x => x.1)
theorem Row.chg {α : Type} [Lay α] {m : Bool} {w w' : World} {A : Option Addr} {cap : Nat} {xs : List α} {S T : Blks} (h : Row m w A cap xs S) (hb : Chg T w w') (hd : disj S T) : Row m w' A cap xs S :=
 (h.tight.keep (fun b x => hb.block b x.2 (hd b x.1))).mono (fun _ x => x.1)
def Shp (w : World) (g : Nat) (t : TypeId) (m : Nat) : Prop:=∃ cur : Array Value,w.heap[g]? = some (.cells cur t (0,0)) ∧ cur.size = m
theorem Shp.lt {w : World} {g t m : Nat} (h : Shp w g t m) : g < w.heap.size:=heap_lt h.choose_spec.1
theorem Shp.frozen {w : World} {g t m : Nat} (h : Shp w g t m) (o : Nat) : w.frozen? ⟨g,o,none⟩ = false:=by
 obtain ⟨cur,h1,_⟩:=h
 exact frozen_of_row w g o cur t h1
theorem Shp.drew {w : World} {g t m : Nat} (h : Shp w g t m) : Shp w.drew g t m:=h
theorem Shp.alloc {w : World} {g t m : Nat} (h : Shp w g t m) (o : Obj) : Shp (w.alloc o) g t m:=by
 obtain ⟨cur,h1,h2⟩:=h
 exact ⟨cur,(Below.heap_alloc w o g (heap_lt h1)).trans h1,h2⟩
theorem Shp.set {w : World} {g t m : Nat} (h : Shp w g t m) (p : Addr) (u : Value) : Shp (w.setCell p u) g t m:=by
 obtain ⟨cur,h1,h2⟩:=h
 by_cases e : g = p.block
 ·subst e
  refine ⟨if p.spot.isSome then cur else cur.setIfInBounds p.off u,?_,?_⟩
  ·simp [World.setCell,Array.getElem?_modify,h1]
  ·split <;> simp [h2]
 ·exact ⟨cur,(Below.heap_setCell w p u g e).trans h1,h2⟩
theorem Shp.of {w w' : World} {g t m : Nat} (h : Shp w g t m) (k : w'.heap[g]? = w.heap[g]?) : Shp w' g t m:=by
 obtain ⟨cur,h1,h2⟩:=h
 exact ⟨cur,k.trans h1,h2⟩
theorem Row.setC {α : Type} [Lay α] {m : Bool} {w : World} {A : Option Addr} {cap : Nat} {xs : List α} {S : Blks} (h : Row m w A cap xs S) {p : Addr} (hp : ¬ S p.block) (u : Value) : Row m (w.setCell p u) A cap xs S :=
 h.keep (fun b hb => Below.heap_setCell w p u b (fun e => hp (e ▸ hb)))
theorem Row.drewC {α : Type} [Lay α] {m : Bool} {w : World} {A : Option Addr} {cap : Nat} {xs : List α} {S : Blks} (h : Row m w A cap xs S) : Row m w.drew A cap xs S:=h.keep (fun _ _ => rfl)
theorem Row.allocC {α : Type} [Lay α] {m : Bool} {w : World} {A : Option Addr} {cap : Nat} {xs : List α} {S : Blks} (h : Row m w A cap xs S) (o : Obj) : Row m (w.alloc o) A cap xs S :=
 (h.tight.keep (fun b x => Below.heap_alloc w o b x.2)).mono (fun _ x => x.1)
theorem cell_set_ne (w : World) (g p o : Nat) (u : Value) (h : o ≠ p) : (w.setCell ⟨g,p,none⟩ u).cell? ⟨g,o,none⟩ = w.cell? ⟨g,o,none⟩ :=
 World.cell?_setCell_other w _ _ u (by intro e; injection e with _ e2; exact h e2.symm)
theorem Row.setN {α : Type} [Lay α] {w w' : World} {g cap N i : Nat} {ys : List α} {S : Blks} {T : Nat → Blks} {y : α} {cs : List Value} (hN : n α = N)
  (hg : S g) (hT : ∀ j,sub (T j) (fun b => S b ∧ b ≠ g)) (hd : ∀ i j,i ≠ j → disj (T i) (T j))
  (he : ∀ j (h : j < ys.length), ∃ cs,At w g (0 + j * n α) cs ∧ rd true w cs ys[j] (T j))
  (hi : i < ys.length) (hsh : Shp w' g (ty α) (cap * N))
  (hsame : ∀ o,o / N ≠ i → w'.cell? ⟨g,o,none⟩ = w.cell? ⟨g,o,none⟩)
  (hchg : Chg (fun b => b = g ∨ T i b) w w')
  (hat : At w' g (i * N) cs) (hrd : rd true w' cs y (T i)) : Row true w' (some ⟨g,0,none⟩) cap (ys.set i y) S:=by
 subst hN
 obtain ⟨cur',hw',hc'⟩:=hsh
 refine .inr ⟨g,cur',rfl,hg,hw',hc',T,hT,fun _ => hd,fun j hj => ?_⟩
 have hj' : j < ys.length:=by simpa using hj
 by_cases e : j = i
 ·subst e
  refine ⟨cs,by simpa using hat,?_⟩
  simp only [List.getElem_set_self]
  exact hrd
 ·obtain ⟨c,h1,h2⟩:=he j hj'
  refine ⟨c,?_,?_⟩
  ·intro q u hu
   have hq : q < n α:=by
    have hl:=Lay.len h2
    have:=(List.getElem?_eq_some_iff.1 hu).1
    omega
   have hs:=hsame (j * n α + q) (by
    rw [Nat.mul_comm,Nat.mul_add_div (Lay.pos),Nat.div_eq_of_lt hq]; simpa using e)
   have h1':=h1 q u hu
   simp only [Nat.zero_add] at h1' ⊢
   rw [hs]; exact h1'
  ·have hne : ¬ i = j:=fun h => e h.symm
   simp only [List.getElem_set,hne,if_false]
   refine Lay.chg h2 hchg (fun b hb hb2 => ?_)
   rcases hb2 with rfl | hb2
   ·exact (hT j _ hb).2 rfl
   ·exact hd j i e b hb hb2
theorem meL_step {α : Type} [Lay α] [Mk α] (xs : List α) (k0 k : Nat) (h : k < xs.length) :
  meL (xs.take (k + 1)) k0 ++ xs.drop (k + 1) = (meL (xs.take k) k0 ++ xs.drop k).set k (me xs[k] (k0 + cnL (xs.take k))):=by
 apply List.ext_getElem
 ·simp; omega
 ·intro j h1 h2
  by_cases e : j = k
  ·subst e
   rw [List.getElem_set_self,List.getElem_append_left zz23,meL_get _ _ _ zz23]
   simp [List.take_take,Nat.min_eq_left (Nat.le_succ j)]
  ·rw [List.getElem_set_ne zz4]
   by_cases hl : j < k
   ·rw [List.getElem_append_left zz23,List.getElem_append_left zz23,meL_get _ _ _ zz23,meL_get _ _ _ zz23]
    simp [List.take_take,Nat.min_eq_left (show j ≤ k + 1 by omega),Nat.min_eq_left (show j ≤ k by omega)]
   ·rw [List.getElem_append_right zz23,List.getElem_append_right zz23]
    simp only [meL_length,List.length_take,List.getElem_drop]
    congr 1
    omega
theorem meL_at {α : Type} [Lay α] [Mk α] (xs : List α) (k0 k : Nat) (h : k < xs.length) (h2 : k < (meL (xs.take k) k0 ++ xs.drop k).length) : (meL (xs.take k) k0 ++ xs.drop k)[k] = xs[k]:=by
 rw [List.getElem_append_right zz23]
 simp [Nat.min_eq_left (Nat.le_of_lt h)]
end Go.Proofs.YtlfnmbcnehaikaaGreatDoor
