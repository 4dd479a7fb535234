/- A part of the proof. -/
import Derived.ProofKit
import Derived.Test.YtlfnmbcnehaikaaGreatDoorHApMk
import Derived.Maps.AppendAt
import Derived.Laws.OwnMore
import Derived.Laws.IdiomStrings
set_option linter.unusedVariables false
set_option linter.unusedSimpArgs false
namespace Go.Proofs.YtlfnmbcnehaikaaGreatDoor
open Go.RowKit Lay Mk
def All : Blks:=fun _ => True
def Rdb (α : Type) [Lay α] (P : Program) (t : TypeId) : Prop:=∀ (H : Type) (enc : TypeId × Value → H) (w : World) (base : Nat) (spare : Nat → Bool) (held : Bool) (fuel : Nat) (cs : List Value) (x : DataW H × List MemPlace),
 DataW.trod enc P w base spare held fuel t cs = some x → ∃ a : α,rd false w cs a All
theorem rdb_int {P : Program} {t : TypeId} (ht : P.underlying t = some (.int .i64)) : Rdb Int P t:=by
 intro H enc w base spare held fuel cs x h
 obtain ⟨n,rfl,_,hw⟩:=DataW.trod_int ht h
 refine ⟨n,rfl,?_⟩
 unfold I64
 simp [Lit.wf,IntKind.min,IntKind.max,IntKind.signed,IntKind.bits] at hw
 omega
theorem rdb_bool {P : Program} {t : TypeId} (ht : P.underlying t = some .bool) : Rdb Bool P t:=by
 intro H enc w base spare held fuel cs x h
 obtain ⟨n,rfl,_⟩:=DataW.trod_bool ht h
 exact ⟨n,rfl⟩
theorem rdb_str {P : Program} {t : TypeId} (ht : P.underlying t = some .string) : Rdb ByteArray P t:=by
 intro H enc w base spare held fuel cs x h
 obtain ⟨n,rfl,_,hw⟩:=DataW.trod_string ht h
 exact ⟨n,rfl,hw⟩
theorem rdb_slice {α : Type} [Lay α] [SlTy α] {P : Program} {t e : TypeId} (ht : P.underlying t = some (.slice e)) (hn : P.cellsOf e = n α) (hb : Rdb α P e) : Rdb (List α) P t:=by
 intro H enc w base spare held fuel cs x h
 rcases DataW.trod_slice ht h with ⟨rfl,_⟩ | ⟨a,len,cap,elems,rest,m,_,rfl,_,_,hlc,hcm,hlen,hel,_,_⟩
 ·exact ⟨[],none,0,rfl,Nat.le_refl _,zz44,fun h => absurd rfl h⟩
 ·have hx : ∀ i,i < len → ∃ a' : α, ∃ cs',w.cells? base (a.add (i * n α)) (n α) = some cs' ∧ rd false w cs' a' All:=by
   intro i hi
   have h1:=hel i hi
   rw [List.getElem?_eq_getElem zz4] at h1
   obtain ⟨cs',h2,h3⟩:=Option.bind_eq_some_iff.1 h1
   obtain ⟨a',h4⟩:=hb H enc w base spare held m cs' _ h3
   rw [hn] at h2
   exact ⟨a',cs',h2,h4⟩
  let f : Fin len → α:=fun i => Classical.choose (hx i i.2)
  have hf : ∀ i : Fin len, ∃ cs',w.cells? base (a.add (i * n α)) (n α) = some cs' ∧ rd false w cs' (f i) All:=fun i => Classical.choose_spec (hx i i.2)
  refine ⟨List.ofFn f,some a,cap,zz17,by simpa using hlc,hcm,fun hne => ?_⟩
  have hpos : 0 < len:=by
   rcases Nat.eq_zero_or_pos len with h0 | h0
   ·subst h0; simp at hne
   ·exact h0
  have hp:=Lay.pos (α:=α)
  have hadd : a.spot = none:=by
   obtain ⟨cs',h2,h3⟩:=hf ⟨0,hpos⟩
   obtain ⟨_,hl,hc⟩:=World.cells?_some h2
   have h4:=hc 0 zz4
   rw [List.getElem?_eq_getElem zz4] at h4
   cases hs : a.spot with
   | none => rfl
   | some s =>
    exfalso
    unfold World.cell? at h4
    simp [Addr.add,hs] at h4
    split at h4 <;> simp at h4
  obtain ⟨b,off,spot⟩:=a
  simp only at hadd
  subst hadd
  refine ⟨b,off,rfl,trivial,fun _ => All,fun _ => ya8 _,zz17,fun i hi => ?_⟩
  have hi' : i < len:=by simpa using hi
  obtain ⟨cs',h2,h3⟩:=hf ⟨i,hi'⟩
  obtain ⟨_,hl,hc⟩:=World.cells?_some h2
  refine ⟨cs',fun j u hu => ?_,by simpa using h3⟩
  have hj : j < n α:=by have:=(List.getElem?_eq_some_iff.1 hu).1; omega
  have h4:=hc j hj
  rw [Addr.add_lit,Addr.add_lit] at h4
  rw [hu] at h4
  exact h4
theorem rd_pair_drop {α β : Type} [Lay α] [Lay β] {w : World} {cs : List Value} {a : α} {b : β} {o k : Nat} (h1 : rd false w ((cs.drop o).take k) a All) (h2 : rd false w (cs.drop (o + k)) b All) : rd false w (cs.drop o) (a,b) All :=
 ⟨(cs.drop o).take k,cs.drop (o + k),All,All,by rw [← List.drop_drop,List.take_append_drop],ya8 _,ya8 _,zz17,h1,h2⟩
theorem rd_last_drop {α : Type} [Lay α] {w : World} {cs : List Value} {a : α} {o k : Nat} (h1 : rd false w ((cs.drop o).take k) a All) (hl : cs.length = o + k) : rd false w (cs.drop o) a All:=by
 rwa [List.take_of_length_le zz23] at h1
end Go.Proofs.YtlfnmbcnehaikaaGreatDoor
namespace Go.Proofs.YtlfnmbcnehaikaaGreatDoor
open Go.RowKit Lay
def Src {α : Type} [Lay α] (w : World) (A : Option Addr) (ys : List α) (T : Blks) : Prop :=
 ys ≠ [] → ∃ b off,A = some ⟨b,off,none⟩ ∧ Els true w b off ys T
theorem flat_cells {α : Type} [Lay α] {m : Bool} {w : World} {b off : Nat} : ∀ {xs : List α} {S : Blks},Els m w b off xs S →
  ∃ cells : List Value,cells.length = xs.length * n α ∧ At w b off cells ∧ (∀ u ∈ cells,u.oneCell' = true)
 | [],_,_ => ⟨[],zz17,fun j u hu => by simp at hu,zz17⟩
 | x :: xs,S,h => by
  obtain ⟨T,h1,h2,h3⟩:=h
  obtain ⟨c0,ha0,hr0⟩:=h3 0 zz17
  have ht : Els m w b (off + n α) xs S:=⟨fun i => T (i + 1),fun i => h1 _,fun hm i j hij => h2 hm _ _ zz4,fun i hi => by
   obtain ⟨cs,h4,h5⟩:=h3 (i + 1) (by simpa using hi)
   refine ⟨cs,?_,h5⟩
   have e : off + (i + 1) * n α = off + n α + i * n α:=by rw [Nat.add_mul]; omega
   rw [e] at h4; exact h4⟩
  obtain ⟨cells,hl,ha,h1⟩:=flat_cells ht
  have hl0:=Lay.len hr0
  refine ⟨c0 ++ cells,by simp [hl,hl0,Nat.add_mul,Nat.add_comm],fun j u hu => ?_,fun u hu => ?_⟩
  ·by_cases hj : j < c0.length
   ·rw [List.getElem?_append_left hj] at hu
    have:=ha0 j u hu
    simpa using this
   ·rw [List.getElem?_append_right zz4] at hu
    have:=ha (j - c0.length) u hu
    rw [show off + n α + (j - c0.length) = off + j by omega] at this
    exact this
  ·rcases List.mem_append.1 hu with h | h
   ·exact Lay.one hr0 u h
   ·exact h1 u h
theorem add_none (b off j : Nat) : (⟨b,off,none⟩ : Addr).add j = ⟨b,off + j,none⟩:=by unfold Addr.add; split <;> simp_all
theorem At.take {w : World} {b off : Nat} {cs : List Value} (h : At w b off cs) {cur : Array Value} {e : TypeId} {fr : Nat × Nat} (hb : w.heap[b]? = some (.cells cur e fr)) : (cur.toList.drop off).take cs.length = cs:=by
 apply List.ext_getElem?
 intro j
 by_cases hj : j < cs.length
 ·have:=h j _ (List.getElem?_eq_getElem hj)
  rw [cell_of_row w b (off + j) cur e fr hb] at this
  rw [List.getElem?_take,if_pos hj,List.getElem?_drop,List.getElem?_eq_getElem hj,Array.getElem?_toList,this]
 ·rw [List.getElem?_take,if_neg hj,List.getElem?_eq_none zz4]
theorem Els.keep2 {α : Type} [Lay α] {m : Bool} {w w' : World} {b off b' off' : Nat} {xs : List α} {S : Blks} (h : Els m w b off xs S)
  (k : Same S w w') (hc : ∀ j,j < xs.length * n α → ∀ u,w.cell? ⟨b,off + j,none⟩ = some u → w'.cell? ⟨b',off' + j,none⟩ = some u) : Els m w' b' off' xs S:=by
 obtain ⟨T,h1,h2,h3⟩:=h
 refine ⟨T,h1,h2,fun i hi => ?_⟩
 obtain ⟨cs,h4,h5⟩:=h3 i hi
 refine ⟨cs,fun j u hu => ?_,Lay.keep h5 (k.sub (h1 i))⟩
 have hj : j < n α:=by have:=(List.getElem?_eq_some_iff.1 hu).1; have:=Lay.len h5; omega
 have hm : i * n α + n α ≤ xs.length * n α:=by rw [← Nat.succ_mul]; exact Nat.mul_le_mul_right _ hi
 have:=hc (i * n α + j) zz4 u (by rw [← Nat.add_assoc]; exact h4 j u hu)
 rw [← Nat.add_assoc] at this
 exact this
theorem Els.app {α : Type} [Lay α] {w : World} {b off : Nat} {xs ys : List α} {S T : Blks} (h : Els true w b off xs S) (k : Els true w b (off + xs.length * n α) ys T) (hd : disj S T) :
  Els true w b off (xs ++ ys) (fun b => S b ∨ T b):=by
 obtain ⟨U,h1,h2,h3⟩:=h
 obtain ⟨V,k1,k2,k3⟩:=k
 refine ⟨fun i => if i < xs.length then U i else V (i - xs.length),fun i => ?_,fun hm i j hij => ?_,fun i hi => ?_⟩
 ·by_cases e : i < xs.length
  ·simp only [e,if_true]; exact fun b x => .inl (h1 i b x)
  ·simp only [e,if_false]; exact fun b x => .inr (k1 _ b x)
 ·by_cases e : i < xs.length <;> by_cases f : j < xs.length
  ·simp only [e,f,if_true]; exact h2 rfl i j hij
  ·simp only [e,f,if_true,if_false]; exact disj_sub hd (h1 i) (k1 _)
  ·simp only [e,f,if_true,if_false]; exact disj_symm (disj_sub hd (h1 j) (k1 _))
  ·simp only [e,f,if_false]; exact k2 rfl _ _ zz4
 ·by_cases e : i < xs.length
  ·obtain ⟨cs,h4,h5⟩:=h3 i e
   refine ⟨cs,h4,?_⟩
   simp only [e,if_true,List.getElem_append_left e]
   exact h5
  ·obtain ⟨cs,h4,h5⟩:=k3 (i - xs.length) (by simp at hi; omega)
   refine ⟨cs,?_,?_⟩
   ·have e2 : off + xs.length * n α + (i - xs.length) * n α = off + i * n α:=by
     rw [Nat.add_assoc, ← Nat.add_mul]; congr 2; omega
    rw [e2] at h4; exact h4
   ·simp only [e,if_false,List.getElem_append_right (Nat.le_of_not_lt e)]
    exact h5
theorem run_app {α : Type} [Lay α] {P : Program} {w : World} {S T : Blks} {A A2 : Option Addr} {cap c2 : Nat} {xs ys : List α} (t tt : TypeId) (i : TypeInfo) (z : Value) (bytes : Nat)
  (ht : P.underlying t = some (.slice (ty α))) (hi : P.info? (ty α) = some i) (hz : i.zero = some z) (hsize : i.size = n α) (hby : i.bytes = bytes) (hzs : z.cells.size = n α)
  (hx : Row true w A cap xs S) (hxc : xs.length ≤ cap) (hcm : cap ≤ maxLen) (hy : Src w A2 ys T) (hd : disj S T)
  (h63 : xs.length + ys.length ≤ maxLen) (hbytes : (xs.length + ys.length) * bytes ≤ 140737488355328) :
  ∃ A' cap' w',(Builtin.append_ #[t,t] tt #[.slice A xs.length cap, .slice A2 ys.length c2]).run P w = .ok (.slice A' (xs.length + ys.length) cap') w' ∧ xs.length + ys.length ≤ cap' ∧ cap' ≤ maxLen ∧
   Row true w' A' cap' (xs ++ ys) (fun b => S b ∨ T b ∨ (w.heap.size ≤ b ∧ b < w'.heap.size)) ∧ Chg S w w':=by
 have hp:=Lay.pos (α:=α)
 -- what the row holds,as cells
 have hown : ∃ cells,w.ownsRow 0 (ty α) (n α) (.slice A xs.length cap) xs.length cells:=by
  rcases hx with ⟨rfl,rfl,rfl⟩ | ⟨g,cur,rfl,hg,hb,hs,he⟩
  ·exact ⟨[],zz17, .inl ⟨rfl,rfl⟩⟩
  ·refine ⟨cur.toList.take (xs.length * n α),?_, .inr ⟨g,cap,cur,rfl,Nat.zero_le _,hb,hxc,hcm,hs,rfl⟩⟩
   have hm : xs.length * n α ≤ cap * n α:=Nat.mul_le_mul_right _ hxc
   simp only [List.length_take,Array.length_toList,hs]; exact Nat.min_eq_left hm
 obtain ⟨cells,hown⟩:=hown
 by_cases hne : ys = []
 ·subst hne
  refine ⟨A,cap,w,?_,by simpa using hxc,hcm,by simpa using hx.mono (fun b h => .inl h),Chg.refl _ _⟩
  rcases hown.2 with ⟨h0,h1⟩ | ⟨g,cap',cur,h0,_,_,hnc,_⟩
  ·injection h0 with e1 e2 e3; subst e1; subst e3
   cases A2 <;> simp [Builtin.append_,run_underlying ht,sizeOf,typeInfo,hi,Builtin.lenOf,Builtin.firstCells,loadCells,loadCellsFrom,h1]
  ·injection h0 with e1 e2 e3; subst e1; subst e3
   cases A2 <;> simp [Builtin.append_,run_underlying ht,sizeOf,typeInfo,hi,Builtin.lenOf,Builtin.firstCells,loadCells,loadCellsFrom,hnc,storeCells]
 ·obtain ⟨b2,o2,rfl,hys⟩:=hy hne
  replace hys:=hys.tight
  obtain ⟨news,hl,hn,h1⟩:=flat_cells hys
  obtain ⟨v',w',hr,ho,hg,_,hat⟩:=run_append_own_at (P:=P) w 0 t tt (ty α) i z (n α) bytes ht hi hz hsize hby hzs hp _ xs.length cells hown ⟨b2,o2,none⟩ ys.length c2 news hl
   (fun j u hu => by rw [add_none]; exact hn j u hu) h1 h63 hbytes (Nat.zero_le _)
  have hchg : Chg S w w':=by
   refine ⟨hg.os,hg.tape,hg.output,hg.size,fun k hk hs => hg.block k hk (fun e => hs ?_)⟩
   rcases hx with ⟨rfl,rfl,rfl⟩ | ⟨g,cur,rfl,hg,_⟩
   ·simp [Value.ownBlock] at e
   ·simp [Value.ownBlock] at e; subst e; exact hg
  have hpos : 0 < ys.length:=by cases ys with | nil => exact absurd rfl hne | cons _ _ => simp
  rcases ho.2 with ⟨_,h0⟩ | ⟨g',cap',cur',rfl,_,hb',hnc',hcm',hs',htake⟩
  ·omega
  -- the new row's elements
  have hg' : S g' ∨ (w.heap.size ≤ g' ∧ g' < w'.heap.size):=by
   rcases hat with h | h
   ·rcases hx with ⟨rfl,rfl,rfl⟩ | ⟨g,cur,rfl,hg,_⟩
    ·simp [Value.ownBlock] at h
    ·simp [Value.ownBlock] at h; subst h; exact .inl hg
   ·simp [Value.ownBlock] at h; subst h; exact .inr ⟨Nat.le_refl _,heap_lt hb'⟩
  have hcell : ∀ j u,(cells ++ news)[j]? = some u → w'.cell? ⟨g',j,none⟩ = some u:=by
   intro j u hu
   rw [cell_of_row w' g' j cur' (ty α) (0,0) hb']
   rw [← htake,List.getElem?_take] at hu
   split at hu
   ·simpa using hu
   ·cases hu
  have hnewE : Els true w' g' (0 + xs.length * n α) ys (fun b => T b ∧ b < w.heap.size):=by
   refine hys.keep2 (b':=g') (off':=0 + xs.length * n α) (fun b hb => hg.block b hb.2 (fun e => ?_)) (fun j hj u hu => ?_)
   ·rcases hx with ⟨rfl,rfl,rfl⟩ | ⟨g,cur,rfl,hg,_⟩
    ·simp [Value.ownBlock] at e
    ·simp [Value.ownBlock] at e; subst e; exact hd _ hg hb.1
   ·have hj' : j < news.length:=by omega
    have e1:=hn j _ (List.getElem?_eq_getElem hj')
    rw [e1] at hu
    apply hcell
    rw [List.getElem?_append_right (by rw [hown.1]; omega),hown.1,Nat.zero_add,Nat.add_sub_cancel_left,List.getElem?_eq_getElem hj',hu]
  have hoth : ∀ b,b < w.heap.size → ¬ S b → w'.heap[b]? = w.heap[b]?:=hchg.block
  have hgn : ¬ (T g' ∧ g' < w.heap.size):=by
   rintro ⟨h1,h2⟩
   rcases hg' with h | h
   ·exact hd _ h h1
   ·omega
  have holdE : ∃ S0 : Blks,sub S0 (fun b => S b ∧ b ≠ g' ∧ b < w.heap.size) ∧ Els true w' g' 0 xs S0:=by
   rcases hx with ⟨rfl,rfl,rfl⟩ | ⟨g,cur,rfl,hg2,hb,hs,he⟩
   ·exact ⟨fun _ => False,fun _ x => x.elim,fun _ _ => False,fun _ _ x => x,fun _ _ _ _ _ x => x.elim,fun i hi => absurd hi zz17⟩
   ·have he2:=he.tight
    refine ⟨_,?_,he2.keep2 (b':=g') (off':=0) (fun b hb3 => hg.block b hb3.2 (fun e => ?_)) (fun j hj u hu => ?_)⟩
    ·intro b hb3
     refine ⟨hb3.1.1,?_,hb3.2⟩
     rcases hat with h | h
     ·simp [Value.ownBlock] at h; subst h; exact hb3.1.2
     ·simp [Value.ownBlock] at h; subst h; have:=hb3.2; omega
    ·simp [Value.ownBlock] at e; exact hb3.1.2 e
    ·have h0:=hown.cells (g:=g) rfl j
     have hj' : j < cells.length:=by rw [hown.1]; exact hj
     have e1:=h0 _ (List.getElem?_eq_getElem hj')
     rw [add_none,hu] at e1
     rw [Nat.zero_add]
     apply hcell
     rw [List.getElem?_append_left hj',List.getElem?_eq_getElem hj',e1]
  obtain ⟨S0,hS0,holdE⟩:=holdE
  refine ⟨some ⟨g',0,none⟩,cap',w',hr,hnc',hcm',?_,hchg⟩
  refine .inr ⟨g',cur',rfl,by rcases hg' with h | h; exact .inl h; exact .inr (.inr h),hb',hs',?_⟩
  refine (Els.app holdE hnewE (fun b h1 h2 => hd b (hS0 b h1).1 h2.1)).mono (fun b h => ?_)
  rcases h with h | h
  ·exact ⟨.inl (hS0 b h).1,(hS0 b h).2.1⟩
  ·exact ⟨.inr (.inl h.1),by rintro rfl; exact hgn h⟩
end Go.Proofs.YtlfnmbcnehaikaaGreatDoor
