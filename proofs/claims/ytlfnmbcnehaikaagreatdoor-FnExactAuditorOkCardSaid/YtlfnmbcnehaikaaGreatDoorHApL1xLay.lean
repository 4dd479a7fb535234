/- A part of the proof. -/
import Derived.Test.YtlfnmbcnehaikaaGreatDoorHApZ
set_option linter.unusedVariables false
set_option linter.unusedSimpArgs false
namespace Go.Proofs.YtlfnmbcnehaikaaGreatDoor
open Go.RowKit
theorem still_tail {P : Program} {id : Nat} {Q : Exit → Act → World → Prop} {a : Act} {w : World} {l : List Oper} (n : Nat) (hm : P.follows .mixedOrders = true) (hB : Region.lexTailB .any l.toArray n = true)
  (h : wpStill P l.toArray w.drew (fun a' => wpList P l.toArray Q (l.drop n) a' w.drew) (l.take n) a) : (Code.region id l.toArray true).wp P Q a w :=
 wp_region_still_tail n hm hB h
abbrev Blks:=Nat → Prop
def disj (A B : Blks) : Prop:=∀ b,A b → ¬ B b
def sub (A B : Blks) : Prop:=∀ b,A b → B b
def rng (lo hi : Nat) : Blks:=fun b => lo ≤ b ∧ b < hi
theorem ya8 (A : Blks) : sub A A:=fun _ h => h
theorem ya6 {A B C : Blks} (h : sub A B) (k : sub B C) : sub A C:=fun b x => k b (h b x)
theorem disj_sub {A B A' B' : Blks} (h : disj A B) (ha : sub A' A) (hb : sub B' B) : disj A' B':=fun b x y => h b (ha b x) (hb b y)
theorem disj_symm {A B : Blks} (h : disj A B) : disj B A:=fun b x y => h b y x
def Same (S : Blks) (w w' : World) : Prop:=∀ b,S b → w'.heap[b]? = w.heap[b]?
theorem Same.sub {S T : Blks} {w w' : World} (h : Same S w w') (k : sub T S) : Same T w w':=fun b x => h b (k b x)
theorem Same.trans {S : Blks} {a b c : World} (h : Same S a b) (k : Same S b c) : Same S a c:=fun x y => (k x y).trans (h x y)
theorem Same.refl (S : Blks) (w : World) : Same S w w:=fun _ _ => rfl
theorem Same.below {S : Blks} {w w' : World} {B : Nat} (h : Below B w w') (k : ∀ b,S b → b < B) : Same S w w':=fun b x => h.block b (k b x)
structure Chg (S : Blks) (w w' : World) : Prop where
 os : w'.os = w.os
 tape : w'.tape = w.tape
 output : w'.output = w.output
 size : w.heap.size ≤ w'.heap.size
 block : ∀ k,k < w.heap.size → ¬ S k → w'.heap[k]? = w.heap[k]?
theorem Chg.refl (S : Blks) (w : World) : Chg S w w:=⟨rfl,rfl,rfl,Nat.le_refl _,fun _ _ _ => rfl⟩
theorem Chg.trans {S : Blks} {a b c : World} (h : Chg S a b) (k : Chg S b c) : Chg S a c :=
 ⟨k.os.trans h.os,k.tape.trans h.tape,k.output.trans h.output,Nat.le_trans h.size k.size,fun i hi hs => (k.block i (Nat.lt_of_lt_of_le hi h.size) hs).trans (h.block i hi hs)⟩
theorem Chg.mono {S T : Blks} {w w' : World} (h : Chg S w w') (k : ∀ b,b < w.heap.size → S b → T b) : Chg T w w' :=
 ⟨h.os,h.tape,h.output,h.size,fun i hi hs => h.block i hi (fun x => hs (k i hi x))⟩
theorem Chg.drew {S : Blks} {a w : World} (h : Chg S a w) : Chg S a w.drew:=⟨h.os,h.tape,h.output,h.size,h.block⟩
theorem Chg.drewN {S : Blks} {a w : World} (h : Chg S a w) (n : Nat) : Chg S a (w.drewN n):=⟨h.os,h.tape,h.output,h.size,h.block⟩
theorem Chg.alloc {S : Blks} {a w : World} (h : Chg S a w) (o : Obj) : Chg S a (w.alloc o) :=
 h.trans ⟨rfl,rfl,rfl,zz17,fun k hk _ => Below.heap_alloc _ _ _ hk⟩
theorem Chg.setCell {S : Blks} {a w : World} (h : Chg S a w) {p : Addr} (hp : S p.block ∨ a.heap.size ≤ p.block) (u : Value) : Chg S a (w.setCell p u) :=
 ⟨h.os,h.tape,h.output,by simpa [World.setCell] using h.size,fun i hi hs => (Below.heap_setCell w p u i (by
  rintro rfl
  rcases hp with hp | hp
  ·exact hs hp
  ·omega)).trans (h.block i hi hs)⟩
theorem Chg.below {S : Blks} {a w w' : World} {B : Nat} (h : Chg S a w) (hb : Below B w w') (hB : a.heap.size ≤ B) : Chg S a w' :=
 ⟨hb.os.trans h.os,hb.tape.trans h.tape,hb.output.trans h.output,Nat.le_trans h.size hb.size,fun i hi hs => (hb.block i zz4).trans (h.block i hi hs)⟩
theorem Chg.to_below {S : Blks} {w w' : World} {B : Nat} (h : Chg S w w') (hB : B ≤ w.heap.size) (hs : ∀ b,S b → B ≤ b) : Below B w w' :=
 ⟨h.os,h.tape,h.output,h.size,fun k hk => h.block k zz4 (fun x => by have:=hs k x; omega)⟩
theorem Chg.same {S T : Blks} {w w' : World} (h : Chg S w w') (hd : disj T S) (hl : ∀ b,T b → b < w.heap.size) : Same T w w':=fun b x => h.block b (hl b x) (hd b x)
def At (w : World) (b off : Nat) (cs : List Value) : Prop:=∀ j u,cs[j]? = some u → w.cell? ⟨b,off + j,none⟩ = some u
theorem At.keep {w w' : World} {b off : Nat} {cs : List Value} (h : At w b off cs) (k : w'.heap[b]? = w.heap[b]?) : At w' b off cs :=
 fun j u hu => (World.cell?_of_block (a:=⟨b,off + j,none⟩) k).trans (h j u hu)
theorem At.lt {w : World} {b off : Nat} {cs : List Value} (h : At w b off cs) (hc : cs ≠ []) : b < w.heap.size:=by
 cases cs with
 | nil => exact absurd rfl hc
 | cons c r => exact World.block_lt_of_cell? w ⟨b,off + 0,none⟩ (h 0 c rfl)
class Lay (α : Type) where
 ty : TypeId
 n : Nat
 rd : Bool → World → List Value → α → Blks → Prop
 pos : 0 < n
 len : ∀ {m w cs a S},rd m w cs a S → cs.length = n
 keep : ∀ {m w w' cs a S},rd m w cs a S → Same S w w' → rd m w' cs a S
 mono : ∀ {m w cs a S S'},rd m w cs a S → sub S S' → rd m w cs a S'
 weak : ∀ {w cs a S},rd true w cs a S → rd false w cs a S
 tight : ∀ {m w cs a S},rd m w cs a S → rd m w cs a (fun b => S b ∧ b < w.heap.size)
 one : ∀ {m w cs a S},rd m w cs a S → ∀ u ∈ cs,u.oneCell' = true
open Lay
def I64 (a : Int) : Prop:=-9223372036854775808 ≤ a ∧ a ≤ 9223372036854775807
def Els {α : Type} [Lay α] (m : Bool) (w : World) (b off : Nat) (xs : List α) (S : Blks) : Prop :=
 ∃ T : Nat → Blks,(∀ i,sub (T i) S) ∧ (m = true → ∀ i j,i ≠ j → disj (T i) (T j)) ∧
  ∀ i (h : i < xs.length), ∃ cs,At w b (off + i * n α) cs ∧ rd m w cs xs[i] (T i)
theorem Els.keep {α : Type} [Lay α] {m : Bool} {w w' : World} {b off : Nat} {xs : List α} {S : Blks} (h : Els m w b off xs S) (hb : xs ≠ [] → w'.heap[b]? = w.heap[b]?) (k : Same S w w') : Els m w' b off xs S:=by
 obtain ⟨T,h1,h2,h3⟩:=h
 refine ⟨T,h1,h2,fun i hi => ?_⟩
 obtain ⟨cs,h4,h5⟩:=h3 i hi
 exact ⟨cs,h4.keep (hb (by rintro rfl; simp at hi)),Lay.keep h5 (k.sub (h1 i))⟩
theorem Els.mono {α : Type} [Lay α] {m : Bool} {w : World} {b off : Nat} {xs : List α} {S S' : Blks} (h : Els m w b off xs S) (k : sub S S') : Els m w b off xs S':=by
 obtain ⟨T,h1,h2,h3⟩:=h
 exact ⟨T,fun i => ya6 (h1 i) k,h2,h3⟩
theorem Els.weak {α : Type} [Lay α] {w : World} {b off : Nat} {xs : List α} {S : Blks} (h : Els true w b off xs S) : Els false w b off xs S:=by
 obtain ⟨T,h1,_,h3⟩:=h
 exact ⟨T,h1,zz17,fun i hi => let ⟨cs,h4,h5⟩:=h3 i hi; ⟨cs,h4,Lay.weak h5⟩⟩
theorem Els.tight {α : Type} [Lay α] {m : Bool} {w : World} {b off : Nat} {xs : List α} {S : Blks} (h : Els m w b off xs S) : Els m w b off xs (fun b => S b ∧ b < w.heap.size):=by
 obtain ⟨T,h1,h2,h3⟩:=h
 refine ⟨fun i b => T i b ∧ b < w.heap.size,fun i b hb => ⟨h1 i b hb.1,hb.2⟩,fun hm i j hij b x y => h2 hm i j hij b x.1 y.1,fun i hi => ?_⟩
 obtain ⟨cs,h4,h5⟩:=h3 i hi
 exact ⟨cs,h4,Lay.tight h5⟩
def RowF {α : Type} [Lay α] (w : World) (A : Option Addr) (xs : List α) (S : Blks) : Prop :=
 xs ≠ [] → ∃ b off,A = some ⟨b,off,none⟩ ∧ S b ∧ Els false w b off xs S
def RowT {α : Type} [Lay α] (w : World) (A : Option Addr) (cap : Nat) (xs : List α) (S : Blks) : Prop :=
 (A = none ∧ xs = [] ∧ cap = 0) ∨
 ∃ g cur,A = some ⟨g,0,none⟩ ∧ S g ∧ w.heap[g]? = some (.cells cur (ty α) (0,0)) ∧ cur.size = cap * n α ∧ Els true w g 0 xs (fun b => S b ∧ b ≠ g)
def Row {α : Type} [Lay α] (m : Bool) (w : World) (A : Option Addr) (cap : Nat) (xs : List α) (S : Blks) : Prop :=
 if m then RowT w A cap xs S else RowF w A xs S
theorem Row.keep {α : Type} [Lay α] {m : Bool} {w w' : World} {A : Option Addr} {cap : Nat} {xs : List α} {S : Blks} (h : Row m w A cap xs S) (k : Same S w w') : Row m w' A cap xs S:=by
 cases m with
 | false =>
  intro hx
  obtain ⟨b,off,e,hb,h1⟩:=h hx
  exact ⟨b,off,e,hb,h1.keep (fun _ => k b hb) k⟩
 | true =>
  rcases h with h | ⟨g,cur,e,hg,h1,h2,h3⟩
  ·exact .inl h
  ·exact .inr ⟨g,cur,e,hg,(k g hg).trans h1,h2,h3.keep (fun _ => k g hg) (k.sub fun b x => x.1)⟩
theorem Row.mono {α : Type} [Lay α] {m : Bool} {w : World} {A : Option Addr} {cap : Nat} {xs : List α} {S S' : Blks} (h : Row m w A cap xs S) (k : sub S S') : Row m w A cap xs S':=by
 cases m with
 | false =>
  intro hx
  obtain ⟨b,off,e,hb,h1⟩:=h hx
  exact ⟨b,off,e,k b hb,h1.mono k⟩
 | true =>
  rcases h with h | ⟨g,cur,e,hg,h1,h2,h3⟩
  ·exact .inl h
  ·exact .inr ⟨g,cur,e,k g hg,h1,h2,h3.mono fun b x => ⟨k b x.1,x.2⟩⟩
theorem Row.weak {α : Type} [Lay α] {w : World} {A : Option Addr} {cap : Nat} {xs : List α} {S : Blks} (h : Row true w A cap xs S) : Row false w A cap xs S:=by
 intro hx
 rcases h with ⟨_,h,_⟩ | ⟨g,cur,e,hg,h1,h2,h3⟩
 ·exact absurd h hx
 ·exact ⟨g,0,e,hg,h3.weak.mono fun b x => x.1⟩
theorem heap_lt {w : World} {g : Nat} {o : Obj} (h : w.heap[g]? = some o) : g < w.heap.size:=(Array.getElem?_eq_some_iff.1 h).1
theorem Row.tight {α : Type} [Lay α] {m : Bool} {w : World} {A : Option Addr} {cap : Nat} {xs : List α} {S : Blks} (h : Row m w A cap xs S) : Row m w A cap xs (fun b => S b ∧ b < w.heap.size):=by
 cases m with
 | false =>
  intro hx
  obtain ⟨b,off,e,hb,h1⟩:=h hx
  refine ⟨b,off,e,⟨hb,?_⟩,h1.tight⟩
  obtain ⟨T,_,_,h3⟩:=h1
  obtain ⟨cs,h4,h5⟩:=h3 0 (by cases xs; simp at hx; simp)
  have:=Lay.len h5
  have hp:=Lay.pos (α:=α)
  exact h4.lt (by rintro rfl; simp at this; omega)
 | true =>
  rcases h with h | ⟨g,cur,e,hg,h1,h2,h3⟩
  ·exact .inl h
  ·exact .inr ⟨g,cur,e,⟨hg,heap_lt h1⟩,h1,h2,h3.tight.mono fun b x => ⟨⟨x.1.1,x.2⟩,x.1.2⟩⟩
def rdS {α : Type} [Lay α] (m : Bool) (w : World) (cs : List Value) (xs : List α) (S : Blks) : Prop :=
 ∃ A cap,cs = [.slice A xs.length cap] ∧ xs.length ≤ cap ∧ cap ≤ maxLen ∧ Row m w A cap xs S
def rdP {α β : Type} [Lay α] [Lay β] (m : Bool) (w : World) (cs : List Value) (p : α × β) (S : Blks) : Prop :=
 ∃ c1 c2 S1 S2,cs = c1 ++ c2 ∧ sub S1 S ∧ sub S2 S ∧ (m = true → disj S1 S2) ∧ rd m w c1 p.1 S1 ∧ rd m w c2 p.2 S2
theorem rdP.len {α β : Type} [Lay α] [Lay β] {m : Bool} {w : World} {cs : List Value} {p : α × β} {S : Blks} (h : rdP m w cs p S) : cs.length = n α + n β:=by
 obtain ⟨c1,c2,S1,S2,rfl,_,_,_,h1,h2⟩:=h
 rw [List.length_append,Lay.len h1,Lay.len h2]
theorem rdP.keep {α β : Type} [Lay α] [Lay β] {m : Bool} {w w' : World} {cs : List Value} {p : α × β} {S : Blks} (h : rdP m w cs p S) (k : Same S w w') : rdP m w' cs p S:=by
 obtain ⟨c1,c2,S1,S2,e,h3,h4,h5,h1,h2⟩:=h
 exact ⟨c1,c2,S1,S2,e,h3,h4,h5,Lay.keep h1 (k.sub h3),Lay.keep h2 (k.sub h4)⟩
theorem rdP.mono {α β : Type} [Lay α] [Lay β] {m : Bool} {w : World} {cs : List Value} {p : α × β} {S S' : Blks} (h : rdP m w cs p S) (k : sub S S') : rdP m w cs p S':=by
 obtain ⟨c1,c2,S1,S2,e,h3,h4,h5,h1,h2⟩:=h
 exact ⟨c1,c2,S1,S2,e,ya6 h3 k,ya6 h4 k,h5,h1,h2⟩
theorem rdP.weak {α β : Type} [Lay α] [Lay β] {w : World} {cs : List Value} {p : α × β} {S : Blks} (h : rdP true w cs p S) : rdP false w cs p S:=by
 obtain ⟨c1,c2,S1,S2,e,h3,h4,h5,h1,h2⟩:=h
 exact ⟨c1,c2,S1,S2,e,h3,h4,zz17,Lay.weak h1,Lay.weak h2⟩
theorem rdP.tight {α β : Type} [Lay α] [Lay β] {m : Bool} {w : World} {cs : List Value} {p : α × β} {S : Blks} (h : rdP m w cs p S) : rdP m w cs p (fun b => S b ∧ b < w.heap.size):=by
 obtain ⟨c1,c2,S1,S2,e,h3,h4,h5,h1,h2⟩:=h
 exact ⟨c1,c2,_,_,e,fun b x => ⟨h3 b x.1,x.2⟩,fun b x => ⟨h4 b x.1,x.2⟩,fun hm b x y => h5 hm b x.1 y.1,Lay.tight h1,Lay.tight h2⟩
theorem rdP.one {α β : Type} [Lay α] [Lay β] {m : Bool} {w : World} {cs : List Value} {p : α × β} {S : Blks} (h : rdP m w cs p S) : ∀ u ∈ cs,u.oneCell' = true:=by
 obtain ⟨c1,c2,S1,S2,rfl,h3,h4,h5,h1,h2⟩:=h
 intro u hu
 rcases List.mem_append.1 hu with hu | hu
 ·exact Lay.one h1 u hu
 ·exact Lay.one h2 u hu
end Go.Proofs.YtlfnmbcnehaikaaGreatDoor
namespace Go.Proofs
open Go.Shelf
def Tryz.lays171_ren : Go.Shelf.Ren:=⟨fun | 171 => 136 | 243 => 183 | 246 => 207 | 283 => 224 | 284 => 225 | 285 => 226 | 286 => 227 | 129 => 236 | 317 => 235 | 318 => 237 | 319 => 238 | 320 => 239 | 337 => 245 | 338 => 246 | n => n,fun | 3 => 3 | 9 => 9 | 2 => 2 | 4 => 4 | 171 => 214 | 0 => 0 | 53 => 215 | 37 => 140 | 5 => 5 | 173 => 218 | 212 => 227 | 51 => 189 | 20 => 20 | 213 => 228 | 46 => 193 | 232 => 253 | 233 => 254 | n => n,fun | 17 => 2 | 18 => 3 | 19 => 4 | n => n⟩
theorem Tryz.lays171 : Go.Proofs.Lays.n171 Tryz.prog Tryz.lays171_ren:={
 mixed:=by kernel_rfl
 f129:=Tryz.func236.trans (congrArg some (by kernel_rfl))
 f171:=Tryz.func136.trans (congrArg some (by kernel_rfl))
 f243:=Tryz.func183.trans (congrArg some (by kernel_rfl))
 f246:=Tryz.func207.trans (congrArg some (by kernel_rfl))
 f283:=Tryz.func224.trans (congrArg some (by kernel_rfl))
 f284:=Tryz.func225.trans (congrArg some (by kernel_rfl))
 f285:=Tryz.func226.trans (congrArg some (by kernel_rfl))
 f286:=Tryz.func227.trans (congrArg some (by kernel_rfl))
 f317:=Tryz.func235.trans (congrArg some (by kernel_rfl))
 f318:=Tryz.func237.trans (congrArg some (by kernel_rfl))
 f319:=Tryz.func238.trans (congrArg some (by kernel_rfl))
 f320:=Tryz.func239.trans (congrArg some (by kernel_rfl))
 f337:=Tryz.func245.trans (congrArg some (by kernel_rfl))
 f338:=Tryz.func246.trans (congrArg some (by kernel_rfl))
 t0:=Tryz.underlying0
 a0:=Tryz.isAgg0
 z0:=Tryz.sizeOf0
 v0:=Tryz.zeroValue0
 t2:=Tryz.underlying2
 a2:=Tryz.isAgg2
 z2:=Tryz.sizeOf2
 v2:=Tryz.zeroValue2
 t3:=Tryz.underlying3
 a3:=Tryz.isAgg3
 z3:=Tryz.sizeOf3
 v3:=Tryz.zeroValue3
 t4:=Tryz.underlying4
 a4:=Tryz.isAgg4
 z4:=Tryz.sizeOf4
 v4:=Tryz.zeroValue4
 t5:=Tryz.underlying5
 a5:=Tryz.isAgg5
 z5:=Tryz.sizeOf5
 v5:=Tryz.zeroValue5
 t9:=Tryz.underlying9
 a9:=Tryz.isAgg9
 z9:=Tryz.sizeOf9
 v9:=Tryz.zeroValue9
 t20:=Tryz.underlying20
 a20:=Tryz.isAgg20
 z20:=Tryz.sizeOf20
 v20:=Tryz.zeroValue20
 t37:=Tryz.underlying140
 a37:=Tryz.isAgg140
 z37:=Tryz.sizeOf140
 v37:=Tryz.zeroValue140
 t46:=Tryz.underlying193
 a46:=Tryz.isAgg193
 z46:=Tryz.sizeOf193
 v46:=Tryz.zeroValue193
 t51:=Tryz.underlying189
 a51:=Tryz.isAgg189
 z51:=Tryz.sizeOf189
 v51:=Tryz.zeroValue189
 t53:=Tryz.underlying215
 a53:=Tryz.isAgg215
 z53:=Tryz.sizeOf215
 v53:=Tryz.zeroValue215
 t171:=Tryz.underlying214
 a171:=Tryz.isAgg214
 z171:=Tryz.sizeOf214
 v171:=Tryz.zeroValue214
 t173:=Tryz.underlying218
 a173:=Tryz.isAgg218
 z173:=Tryz.sizeOf218
 v173:=Tryz.zeroValue218
 t212:=Tryz.underlying227
 a212:=Tryz.isAgg227
 z212:=Tryz.sizeOf227
 v212:=Tryz.zeroValue227
 t213:=Tryz.underlying228
 a213:=Tryz.isAgg228
 z213:=Tryz.sizeOf228
 t232:=Tryz.underlying253
 a232:=Tryz.isAgg253
 z232:=Tryz.sizeOf253
 v232:=Tryz.zeroValue253
 t233:=Tryz.underlying254
 a233:=Tryz.isAgg254
 z233:=Tryz.sizeOf254
 v233:=Tryz.zeroValue254
 g17:=by kernel_rfl
 g18:=by kernel_rfl
 g19:=by kernel_rfl }
open Go.RowKit Go.Sort Go.Lib in
theorem Tryz.strconv_Itoa_small (i : Nat) (hi : i < 100) (w : World) :
  Calls Tryz.prog 136 #[.int .i64 i] w fun e w' => e = .returned (.string ⟨(Lib.decDigits i).toArray⟩) ∧ w' = w:=Any.strconv_Itoa_small Tryz.lays171 i hi w
end Go.Proofs
