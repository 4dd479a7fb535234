/- A part of the proof. -/
import Derived.Test.YtlfnmbcnehaikaaGreatDoorRows
import Derived.Below
import Derived.ChangeSame
import Derived.Test.YtlfnmbcnehaikaaGreatDoorHApL4xBr
import Derived.Test.YtlfnmbcnehaikaaGreatDoorHApTy
set_option linter.unusedVariables false
set_option linter.unusedSimpArgs false
namespace Go.Proofs.YtlfnmbcnehaikaaGreatDoor
open Go.RowKit Go.WideShapes Go.ChangeShapes Go.ChangeAt Lay Mk
theorem own_ : ownKnob Tryz.prog.godebug = none:=by kernel_rfl
theorem laidOut_ : laidOutB Tryz.prog = true:=by kernel_rfl
theorem trodAll_stays {H : Type} {enc : TypeId × Value → H} {P : Program} (hl : laidOutB P = true) {W W' : World} {sp : Nat → Bool} (hb : Below W.heap.size W W') :
  ∀ (ts : List TypeId) (vs : List Value) (ds : List (DataW H)) (ps : List MemPlace),(∀ t ∈ ts,P.readableRec t = true ∧ t < P.types.size) →
  DataW.TrodAll enc P W 0 (fun _ => true) true ts vs ds ps → (∀ p ∈ ps,p.block < W.heap.size) → (∀ p ∈ ps,sp p.block = true) → DataW.TrodAll enc P W' 0 sp true ts vs ds ps
 | [], [], [],ps,_,h,_,_ => h
 | t :: ts,v :: vs,d :: ds,ps,hr,h,hlt,hsp => by
  obtain ⟨p,q,h1,h2,rfl⟩:=h
  refine ⟨p,q,?_,trodAll_stays hl hb ts vs ds q (fun u hu => hr u (List.mem_cons_of_mem _ hu)) h2 (fun x hx => hlt x (List.mem_append_right _ hx)) (fun x hx => hsp x (List.mem_append_right _ hx)),rfl⟩
  exact WideElems.Trod_stays hl (hr t (List.mem_cons_self ..)).1 (hr t (List.mem_cons_self ..)).2 h1 (fun x hx => hb.same (hlt x (List.mem_append_left _ hx))) (fun x hx => hsp x (List.mem_append_left _ hx))
 | [],_ :: _,_,_,_,h,_,_ => h.elim
 | [], [],_ :: _,_,_,h,_,_ => h.elim
 | _ :: _, [],_,_,_,h,_,_ => h.elim
 | _ :: _,_ :: _, [],_,_,h,_,_ => h.elim
theorem okWide_agg {P : Program} {W : World} {r : Reach} {base : Nat} {t : TypeId} {v : Value} {fs : Array Field} (ht : P.underlying t = some (.struct fs)) (h : Value.okWide P W r base t v) : ∃ cs,v = .agg cs:=by
 unfold Value.okWide at h
 rw [ht] at h
 obtain ⟨cs,e,_⟩:=h
 exact ⟨cs,e⟩
section
variable {H : Type} {enc : TypeId × Value → H} {P : Program}
theorem post_below {f : Func} {s : ChangeSpec} {apart fresh handsOn again : Bool} {W W' : World} {args : Array Value} {v : Value} {ds gs : List (DataW H)} {before pa pv : List MemPlace}
  (hW : DataW.Whole enc P f.params.toList s.vars apart W args.toList ds gs before)
  (hres : ∀ (b : Nat) (sp : Nat → Bool) (hd : Bool),DataW.TrodAll enc P W' b sp hd f.resultTypes.toList (v.resultList f.resultTypes.size) (s.fn H (ds ++ gs)).results [])
  (hargs : ∀ sp : Nat → Bool,(∀ p ∈ before,sp p.block = true) → DataW.TrodAll enc P W' 0 sp true f.params.toList args.toList (s.fn H (ds ++ gs)).args pa)
  (hvars : ∀ sp : Nat → Bool,(∀ p ∈ before,sp p.block = true) → DataW.TrodVars enc P W' sp s.vars (s.fn H (ds ++ gs)).vars pv)
  (hps : before = pa ++ pv) (hb : Below W.heap.size W W')
  (hok : ∀ (j : Nat) (t : TypeId) (r : Value),f.resultTypes[j]? = some t → (v.resultList f.resultTypes.size)[j]? = some r → Value.okWide P W' .any 0 t r) :
  s.post enc P f apart fresh handsOn again W args v W':=by
 have hlt : ∀ p ∈ before,p.block < W.heap.size:=fun p hp => hW.lt p hp
 have hold : ∀ p ∈ before,(fun b => decide (b < W.heap.size)) p.block = true:=fun p hp => by simpa using hlt p hp
 refine ⟨ds,gs,before, [],pa,pv,hW,hres _ _ _,hargs _ hold,hvars _ hold,World.keptBut_mono (fun p hp => ⟨hp,?_⟩) (hb.frame (· ∈ before)),fun _ => ?_⟩
 ·rw [hps,List.mem_append] at hp
  exact Or.inr hp
 ·obtain ⟨_,_,_,_,_,hz,hn⟩:=hW
  refine ⟨hok,_,_,([] ++ pa) ++ pv,⟨[] ++ pa,pv,trodAll_append (hargs _ (fun _ _ => rfl)) (hres _ _ _),hvars _ (fun _ _ => rfl),rfl,?_,?_⟩,?_⟩
  ·intro b off hp
   have hin : MemPlace.cell b off ∈ before:=by rw [hps]; simpa using hp
   rw [hb.frozen (hlt _ hin)]
   exact hz b off hin
  ·intro ha
   have:=hn ha
   rw [hps] at this
   simpa using this
  ·intro p hp _
   rw [hps]
   simpa using hp
end
end Go.Proofs.YtlfnmbcnehaikaaGreatDoor
namespace Go.Proofs.YtlfnmbcnehaikaaGreatDoor
open Go.RowKit Lay
instance instU8 : Lay UInt8 where
 ty:=5
 n:=1
 rd _ _ cs a _:=cs = [.int .u8 a.toNat]
 pos:=by decide
 len h:=by rw [h]; rfl
 keep h _:=h
 mono h _:=h
 weak h:=h
 tight h:=h
 one h:=by rw [h]; simp [Value.oneCell']
instance slU8 : SlTy UInt8:=⟨140⟩
class Inf (α : Type) [Lay α] [SlTy α] : Prop where
 ex : ∃ z bytes,(Tryz.prog.info? (ty α)).map (fun i => (i.zero,i.size,i.bytes)) = some (some z,n α,bytes) ∧ z.cells.size = n α ∧ bytes ≤ 2000
 st : Tryz.prog.underlying (SlTy.st α) = some (.slice (ty α))
class Flat (α : Type) [Lay α] where
 cs : α → List Value
 ok : α → Prop
 iff : ∀ {m w c a S},rd m w c a S ↔ c = cs a ∧ ok a
def none_ : Blks:=fun _ => False
theorem disj_none_ (S : Blks) : disj S none_:=fun _ _ x => x
theorem Flat.els {α : Type} [Lay α] [Flat α] {m : Bool} {w : World} {b off : Nat} {xs : List α} {S : Blks} (h : Els m w b off xs S) : Els true w b off xs none_:=by
 obtain ⟨T,_,_,h3⟩:=h
 refine ⟨fun _ => none_,fun _ _ x => x,fun _ _ _ _ _ x => x.elim,fun i hi => ?_⟩
 obtain ⟨cs,h4,h5⟩:=h3 i hi
 exact ⟨cs,h4,Flat.iff.2 (Flat.iff.1 h5)⟩
theorem Src.flat {α : Type} [Lay α] [Flat α] {m : Bool} {w : World} {A : Option Addr} {cap : Nat} {xs : List α} {S : Blks} (h : Row m w A cap xs S) : Src w A xs none_:=by
 intro hne
 cases m with
 | false =>
  obtain ⟨b,off,e,hb,h1⟩:=h hne
  exact ⟨b,off,e,Flat.els h1⟩
 | true =>
  rcases h with ⟨_,h,_⟩ | ⟨g,cur,e,hg,h1,h2,h3⟩
  ·exact absurd h hne
  ·exact ⟨g,0,e,Flat.els h3⟩
theorem Src.keep {α : Type} [Lay α] {w w' : World} {A : Option Addr} {xs : List α} {T : Blks} (h : Src w A xs T) (hb : Below w.heap.size w w') : Src w' A xs T:=by
 intro hne
 obtain ⟨b,off,e,h1⟩:=h hne
 refine ⟨b,off,e,(h1.tight.keep (fun _ => ?_) (fun b x => hb.block b x.2)).mono (fun _ x => x.1)⟩
 apply hb.block
 obtain ⟨T,_,_,h3⟩:=h1
 obtain ⟨cs,h4,h5⟩:=h3 0 (by cases xs; simp at hne; simp)
 have:=Lay.len h5
 have hp:=Lay.pos (α:=α)
 exact h4.lt (by rintro rfl; simp at this; omega)
theorem src_new {α : Type} [Lay α] [Flat α] (w : World) (y : α) (ok : Flat.ok y) (cs : Array Value) (t : TypeId) (h : cs.toList = Flat.cs y) : Src (w.alloc (.cells cs t)) (some ⟨w.heap.size,0,none⟩) [y] none_:=by
 intro _
 refine ⟨_,_,rfl,fun _ => none_,fun _ _ x => x,fun _ _ _ _ _ x => x.elim,fun i hi => ?_⟩
 have hi : i = 0:=by simpa using hi
 subst hi
 refine ⟨Flat.cs y,fun j u hu => ?_,Flat.iff.2 ⟨rfl,ok⟩⟩
 rw [World.cell?_alloc_mark]
 rw [← h] at hu
 simpa using hu
theorem ret_int {k : IntKind} {a b : Int} (h : a = b) : Ending.returned (.int k a) = .returned (.int k b):=by rw [h]
theorem ret_str {a b : ByteArray} (h : a = b) : Ending.returned (.string a) = .returned (.string b):=by rw [h]
theorem ya1 {a b : Bool} (h : a = b) : Ending.returned (.bool a) = .returned (.bool b):=by rw [h]
def bs (l : List UInt8) : ByteArray:=⟨l.toArray⟩
theorem bs_size (l : List UInt8) : (bs l).size = l.length:=by unfold bs; exact List.size_toArray
theorem bs_app (a b : List UInt8) : bs a ++ bs b = bs (a ++ b):=by apply ByteArray.ext; simp [bs]
theorem bs_data (s : ByteArray) : bs s.data.toList = s:=by apply ByteArray.ext; simp [bs]
theorem u8_eq (k : Nat) (z : Int) (h : z = k) (h2 : k < 256) : z = ((UInt8.ofNat k).toNat : Int):=by simp; omega
theorem src_u8 [Flat UInt8] (w : World) (z : Int) (b : UInt8) (t : TypeId) (h : z = (b.toNat : Int)) : Src (w.alloc (.cells #[.int .u8 z] t)) (some ⟨w.heap.size,0,none⟩) [b] none_:=by
 subst h
 intro _
 refine ⟨_,_,rfl,fun _ => none_,fun _ _ x => x,fun _ _ _ _ _ x => x.elim,fun i hi => ?_⟩
 have hi : i = 0:=by simpa using hi
 subst hi
 refine ⟨[.int .u8 b.toNat],fun j u hu => ?_,rfl⟩
 rw [World.cell?_alloc_mark]
 simpa using hu
theorem wpList_app {α : Type} [Lay α] [SlTy α] [Inf α] {ops : Array Oper} {rest : List Oper} {o : Oper} {a : Act} {Q : Exit → Act → World → Prop} {w : World} (hgd : o.guard = none) (s x : Operand)
  (ho : o.op = .call { callee:=.builtin .append,args:=#[s,x],argTypes:=#[SlTy.st α,SlTy.st α] })
  {A A2 : Option Addr} {cap c2 k m : Nat} {xs ys : List α} {S T : Blks} (hs : a.eval s = .slice A k cap) (hk : k = xs.length) (hrow : Row true w A cap xs S) (hle : k ≤ cap) (hcm : cap ≤ maxLen)
  (hx : a.eval x = .slice A2 m c2) (hm : m = ys.length) (hsrc : Src w A2 ys T) (hd : disj S T) (hb : k + m ≤ 4000000000)
  (h : ∀ A' cap' w',k + m ≤ cap' → cap' ≤ maxLen → Row true w' A' cap' (xs ++ ys) (fun b => S b ∨ T b ∨ (w.heap.size ≤ b ∧ b < w'.heap.size)) → Chg S w w' → wpList Tryz.prog ops Q rest (a.put o.dst (.slice A' (k + m) cap')) w') :
  wpList Tryz.prog ops Q (o :: rest) a w:=by
 refine wpList_plain hgd fun K hK => ?_
 subst hk; subst hm
 obtain ⟨z,bytes,e,hz,hby⟩:=Inf.ex (α:=α)
 obtain ⟨i,hi,h0,h1,h2⟩:=info_parts e
 obtain ⟨A',cap',w',hr,h3,h4,h5,h6⟩:=run_app (P:=Tryz.prog) (c2:=c2) (SlTy.st α) o.type i z bytes Inf.st hi h0 h1 h2 hz hrow hle hcm hsrc hd (by unfold maxLen; omega)
  (Nat.le_trans (Nat.mul_le_mul hb hby) zz44)
 unfold Oper.wp execOp
 simp only [ho,resolve,invoke,builtin,Sem.run_bind,Sem.run_pure,Result.andThen_ok,List.map_toArray,List.map_cons,List.map_nil,hs,hx,hr]
 exact hK _ _ (h A' cap' w' h3 h4 h5 h6)
theorem Row.at_ {α : Type} [Lay α] {m : Bool} {w : World} {A : Option Addr} {cap : Nat} {xs : List α} {S : Blks} (h : Row m w A cap xs S) {i : Nat} (hi : i < xs.length) :
  ∃ b off cs T,A = some ⟨b,off,none⟩ ∧ b < w.heap.size ∧ At w b (off + i * n α) cs ∧ rd m w cs xs[i] T ∧ sub T S ∧ S b:=by
 have hne : xs ≠ []:=by rintro rfl; simp at hi
 have key : ∀ {b off : Nat} {U : Blks},Els m w b off xs U → sub U S → ∃ cs T,b < w.heap.size ∧ At w b (off + i * n α) cs ∧ rd m w cs xs[i] T ∧ sub T S:=by
  rintro b off U ⟨T,h1,_,h3⟩ hU
  obtain ⟨cs,h4,h5⟩:=h3 i hi
  have hl:=Lay.len h5
  have hp:=Lay.pos (α:=α)
  exact ⟨cs,T i,h4.lt (by rintro rfl; simp at hl; omega),h4,h5,ya6 (h1 i) hU⟩
 cases m with
 | false =>
  obtain ⟨b,off,e,hb,h1⟩:=h hne
  obtain ⟨cs,T,h2,h3,h4,h5⟩:=key h1 (ya8 _)
  exact ⟨b,off,cs,T,e,h2,h3,h4,h5,hb⟩
 | true =>
  rcases h with ⟨_,h,_⟩ | ⟨g,cur,e,hg,h1,h2,h3⟩
  ·exact absurd h hne
  ·obtain ⟨cs,T,h4,h5,h6,h7⟩:=key h3 (fun b x => x.1)
   exact ⟨g,0,cs,T,e,h4,h5,h6,h7,hg⟩
theorem cells_u8 {w : World} {A : Option Addr} {cap : Nat} {xs : List UInt8} {S : Blks} (h : Row true w A cap xs S) (hne : xs ≠ []) : ∃ b off,A = some ⟨b,off,none⟩ ∧ ∀ j (hj : j < xs.length),w.cell? ⟨b,off + j,none⟩ = some (.int .u8 (xs[j].toNat : Int)):=by
 rcases h with ⟨_,h,_⟩ | ⟨g,cur,e,hg,h1,h2,T,_,_,h3⟩
 ·exact absurd h hne
 ·refine ⟨g,0,e,fun j hj => ?_⟩
  obtain ⟨cs,h4,h5⟩:=h3 j hj
  have h5 : cs = [.int .u8 xs[j].toNat]:=h5
  subst h5
  have:=h4 0 _ rfl
  simpa [show n UInt8 = 1 from rfl] using this
theorem wpList_bytes {ops : Array Oper} {rest : List Oper} {o : Oper} {a : Act} {Q : Exit → Act → World → Prop} {w : World} (hgd : o.guard = none) (x : Operand)
  (ho : o.op = .convert (SlTy.st UInt8) (ty ByteArray) x) [hI : Inf UInt8] (he : Tryz.prog.underlying (ty UInt8) = some (.int .u8)) (hdst : Tryz.prog.underlying (ty ByteArray) = some .string)
  {A : Option Addr} {cap k : Nat} {l : List UInt8} {S : Blks} (hx : a.eval x = .slice A k cap) (hk : k = l.length) (hrow : Row true w A cap l S)
  (h : wpList Tryz.prog ops Q rest (a.put o.dst (.string (bs l))) w) : wpList Tryz.prog ops Q (o :: rest) a w:=by
 refine wpList_plain hgd fun K hK => ?_
 subst hk
 have hr : (convert (SlTy.st UInt8) (ty ByteArray) (.slice A l.length cap)).run Tryz.prog w = .ok (.string ⟨l.toArray⟩) w:=by
  by_cases hne : l = []
  ·subst hne
   rw [run_convert_bytes_string w _ _ (ty UInt8) A _ cap Inf.st he hdst]
   rcases hrow with ⟨rfl,_,rfl⟩ | ⟨g,cur,rfl,hg,h1,h2,_⟩
   ·rfl
   ·exact run_bytesToString w ⟨g,0,none⟩ 0 cap [] rfl
  ·obtain ⟨b,off,rfl,hc⟩:=cells_u8 hrow hne
   exact run_convert_bytes_back w _ _ (ty UInt8) ⟨b,off,none⟩ cap l Inf.st he hdst (fun j hj => by rw [add_none]; exact hc j hj)
 unfold Oper.wp execOp
 simp only [ho,Sem.run_bind,Sem.run_pure,Result.andThen_ok,hx,hr]
 exact hK _ _ h
def u8c (b : UInt8) : Value:=.int .u8 b.toNat
theorem at_lit (v : World) (cs : Array Value) (t : TypeId) (fr : Nat × Nat) (l : List UInt8) (h : cs.toList = l.map u8c) : At (v.alloc (.cells cs t fr)) v.heap.size 0 (l.map u8c):=fun j u hu => by
 rw [World.cell?_alloc_mark]
 rw [← h] at hu
 simpa using hu
theorem wpList_bytesAt {ops : Array Oper} {rest : List Oper} {o : Oper} {a : Act} {Q : Exit → Act → World → Prop} {w : World} (hgd : o.guard = none) (x : Operand)
  (ho : o.op = .convert (SlTy.st UInt8) (ty ByteArray) x) [hI : Inf UInt8] (he : Tryz.prog.underlying (ty UInt8) = some (.int .u8)) (hdst : Tryz.prog.underlying (ty ByteArray) = some .string)
  {b off cap k : Nat} (l : List UInt8) (hx : a.eval x = .slice (some ⟨b,off,none⟩) k cap) (hk : k = l.length) (ha : At w b off (l.map u8c))
  (h : wpList Tryz.prog ops Q rest (a.put o.dst (.string (bs l))) w) : wpList Tryz.prog ops Q (o :: rest) a w:=by
 refine wpList_plain hgd fun K hK => ?_
 subst hk
 have hr : (convert (SlTy.st UInt8) (ty ByteArray) (.slice (some ⟨b,off,none⟩) l.length cap)).run Tryz.prog w = .ok (.string (bs l)) w :=
  run_convert_bytes_back w _ _ (ty UInt8) ⟨b,off,none⟩ cap l Inf.st he hdst (fun j hj => by rw [add_none]; exact ha j _ (by simp [u8c,hj]))
 unfold Oper.wp execOp
 simp only [ho,Sem.run_bind,Sem.run_pure,Result.andThen_ok,hx,hr]
 exact hK _ _ h
end Go.Proofs.YtlfnmbcnehaikaaGreatDoor
namespace Go.Proofs.YtlfnmbcnehaikaaGreatDoor
open Go.RowKit Lay Mk
theorem rdb_File : Rdb File Tryz.prog 98:=by
 intro H enc w base spare held fuel cs x h
 obtain ⟨xs,n,rfl,_,hl,hlen,hf⟩:=DataW.trod_struct Tryz.underlying98 h
 have hl : cs.length = 3:=hl.trans (by kernel_rfl)
 obtain ⟨y0,hy0⟩ : ∃ y,xs[0]? = some y:=⟨_,List.getElem?_eq_getElem zz54⟩
 obtain ⟨a0,r0⟩:=rdb_str Tryz.underlying9 H enc w base spare held n _ _ ((hf 0 _ rfl).trans hy0)
 have r0 : rd false w ((cs.drop 0).take (Tryz.prog.cellsOf 9)) a0 All:=r0
 rw [show Tryz.prog.cellsOf 9 = 1 from by kernel_rfl] at r0
 obtain ⟨y1,hy1⟩ : ∃ y,xs[1]? = some y:=⟨_,List.getElem?_eq_getElem zz54⟩
 obtain ⟨a1,r1⟩:=rdb_str Tryz.underlying9 H enc w base spare held n _ _ ((hf 1 _ rfl).trans hy1)
 have r1 : rd false w ((cs.drop 1).take (Tryz.prog.cellsOf 9)) a1 All:=r1
 rw [show Tryz.prog.cellsOf 9 = 1 from by kernel_rfl] at r1
 obtain ⟨y2,hy2⟩ : ∃ y,xs[2]? = some y:=⟨_,List.getElem?_eq_getElem zz54⟩
 obtain ⟨a2,r2⟩:=rdb_int Tryz.underlying3 H enc w base spare held n _ _ ((hf 2 _ rfl).trans hy2)
 have r2 : rd false w ((cs.drop 2).take (Tryz.prog.cellsOf 3)) a2 All:=r2
 rw [show Tryz.prog.cellsOf 3 = 1 from by kernel_rfl] at r2
 have hz : rd false w (cs.drop 0) (a0,a1,a2) All:=rd_pair_drop r0 (rd_pair_drop r1 (rd_last_drop r2 zz4))
 exact ⟨⟨a0,a1,a2⟩,hz⟩
theorem rdb_FileS : Rdb (List File) Tryz.prog 22:=rdb_slice Tryz.underlying22 (by kernel_rfl) (rdb_File)
theorem rdb_Disk : Rdb Disk Tryz.prog 24:=by
 intro H enc w base spare held fuel cs x h
 obtain ⟨xs,n,rfl,_,hl,hlen,hf⟩:=DataW.trod_struct Tryz.underlying24 h
 have hl : cs.length = 1:=hl.trans (by kernel_rfl)
 obtain ⟨y0,hy0⟩ : ∃ y,xs[0]? = some y:=⟨_,List.getElem?_eq_getElem zz54⟩
 obtain ⟨a0,r0⟩:=rdb_FileS H enc w base spare held n _ _ ((hf 0 _ rfl).trans hy0)
 have r0 : rd false w ((cs.drop 0).take (Tryz.prog.cellsOf 22)) a0 All:=r0
 rw [show Tryz.prog.cellsOf 22 = 1 from by kernel_rfl] at r0
 have hz : rd false w (cs.drop 0) (a0) All:=rd_last_drop r0 zz4
 exact ⟨⟨a0⟩,hz⟩
theorem rdb_StringS : Rdb (List ByteArray) Tryz.prog 29:=rdb_slice Tryz.underlying29 (by kernel_rfl) (rdb_str Tryz.underlying9)
theorem rdb_Head : Rdb Head Tryz.prog 110:=by
 intro H enc w base spare held fuel cs x h
 obtain ⟨xs,n,rfl,_,hl,hlen,hf⟩:=DataW.trod_struct Tryz.underlying110 h
 have hl : cs.length = 4:=hl.trans (by kernel_rfl)
 obtain ⟨y0,hy0⟩ : ∃ y,xs[0]? = some y:=⟨_,List.getElem?_eq_getElem zz54⟩
 obtain ⟨a0,r0⟩:=rdb_int Tryz.underlying3 H enc w base spare held n _ _ ((hf 0 _ rfl).trans hy0)
 have r0 : rd false w ((cs.drop 0).take (Tryz.prog.cellsOf 3)) a0 All:=r0
 rw [show Tryz.prog.cellsOf 3 = 1 from by kernel_rfl] at r0
 obtain ⟨y1,hy1⟩ : ∃ y,xs[1]? = some y:=⟨_,List.getElem?_eq_getElem zz54⟩
 obtain ⟨a1,r1⟩:=rdb_int Tryz.underlying3 H enc w base spare held n _ _ ((hf 1 _ rfl).trans hy1)
 have r1 : rd false w ((cs.drop 1).take (Tryz.prog.cellsOf 3)) a1 All:=r1
 rw [show Tryz.prog.cellsOf 3 = 1 from by kernel_rfl] at r1
 obtain ⟨y2,hy2⟩ : ∃ y,xs[2]? = some y:=⟨_,List.getElem?_eq_getElem zz54⟩
 obtain ⟨a2,r2⟩:=rdb_str Tryz.underlying9 H enc w base spare held n _ _ ((hf 2 _ rfl).trans hy2)
 have r2 : rd false w ((cs.drop 2).take (Tryz.prog.cellsOf 9)) a2 All:=r2
 rw [show Tryz.prog.cellsOf 9 = 1 from by kernel_rfl] at r2
 obtain ⟨y3,hy3⟩ : ∃ y,xs[3]? = some y:=⟨_,List.getElem?_eq_getElem zz54⟩
 obtain ⟨a3,r3⟩:=rdb_str Tryz.underlying9 H enc w base spare held n _ _ ((hf 3 _ rfl).trans hy3)
 have r3 : rd false w ((cs.drop 3).take (Tryz.prog.cellsOf 9)) a3 All:=r3
 rw [show Tryz.prog.cellsOf 9 = 1 from by kernel_rfl] at r3
 have hz : rd false w (cs.drop 0) (a0,a1,a2,a3) All:=rd_pair_drop r0 (rd_pair_drop r1 (rd_pair_drop r2 (rd_last_drop r3 zz4)))
 exact ⟨⟨a0,a1,a2,a3⟩,hz⟩
theorem rdb_Sig : Rdb Sig Tryz.prog 111:=by
 intro H enc w base spare held fuel cs x h
 obtain ⟨xs,n,rfl,_,hl,hlen,hf⟩:=DataW.trod_struct Tryz.underlying111 h
 have hl : cs.length = 4:=hl.trans (by kernel_rfl)
 obtain ⟨y0,hy0⟩ : ∃ y,xs[0]? = some y:=⟨_,List.getElem?_eq_getElem zz54⟩
 obtain ⟨a0,r0⟩:=rdb_int Tryz.underlying3 H enc w base spare held n _ _ ((hf 0 _ rfl).trans hy0)
 have r0 : rd false w ((cs.drop 0).take (Tryz.prog.cellsOf 3)) a0 All:=r0
 rw [show Tryz.prog.cellsOf 3 = 1 from by kernel_rfl] at r0
 obtain ⟨y1,hy1⟩ : ∃ y,xs[1]? = some y:=⟨_,List.getElem?_eq_getElem zz54⟩
 obtain ⟨a1,r1⟩:=rdb_StringS H enc w base spare held n _ _ ((hf 1 _ rfl).trans hy1)
 have r1 : rd false w ((cs.drop 1).take (Tryz.prog.cellsOf 29)) a1 All:=r1
 rw [show Tryz.prog.cellsOf 29 = 1 from by kernel_rfl] at r1
 obtain ⟨y2,hy2⟩ : ∃ y,xs[2]? = some y:=⟨_,List.getElem?_eq_getElem zz54⟩
 obtain ⟨a2,r2⟩:=rdb_StringS H enc w base spare held n _ _ ((hf 2 _ rfl).trans hy2)
 have r2 : rd false w ((cs.drop 2).take (Tryz.prog.cellsOf 29)) a2 All:=r2
 rw [show Tryz.prog.cellsOf 29 = 1 from by kernel_rfl] at r2
 obtain ⟨y3,hy3⟩ : ∃ y,xs[3]? = some y:=⟨_,List.getElem?_eq_getElem zz54⟩
 obtain ⟨a3,r3⟩:=rdb_StringS H enc w base spare held n _ _ ((hf 3 _ rfl).trans hy3)
 have r3 : rd false w ((cs.drop 3).take (Tryz.prog.cellsOf 29)) a3 All:=r3
 rw [show Tryz.prog.cellsOf 29 = 1 from by kernel_rfl] at r3
 have hz : rd false w (cs.drop 0) (a0,a1,a2,a3) All:=rd_pair_drop r0 (rd_pair_drop r1 (rd_pair_drop r2 (rd_last_drop r3 zz4)))
 exact ⟨⟨a0,a1,a2,a3⟩,hz⟩
theorem rdb_Seal : Rdb Seal Tryz.prog 113:=by
 intro H enc w base spare held fuel cs x h
 obtain ⟨xs,n,rfl,_,hl,hlen,hf⟩:=DataW.trod_struct Tryz.underlying113 h
 have hl : cs.length = 8:=hl.trans (by kernel_rfl)
 obtain ⟨y0,hy0⟩ : ∃ y,xs[0]? = some y:=⟨_,List.getElem?_eq_getElem zz54⟩
 obtain ⟨a0,r0⟩:=rdb_Head H enc w base spare held n _ _ ((hf 0 _ rfl).trans hy0)
 have r0 : rd false w ((cs.drop 0).take (Tryz.prog.cellsOf 110)) a0 All:=r0
 rw [show Tryz.prog.cellsOf 110 = 4 from by kernel_rfl] at r0
 obtain ⟨y1,hy1⟩ : ∃ y,xs[1]? = some y:=⟨_,List.getElem?_eq_getElem zz54⟩
 obtain ⟨a1,r1⟩:=rdb_Sig H enc w base spare held n _ _ ((hf 1 _ rfl).trans hy1)
 have r1 : rd false w ((cs.drop 4).take (Tryz.prog.cellsOf 111)) a1 All:=r1
 rw [show Tryz.prog.cellsOf 111 = 4 from by kernel_rfl] at r1
 have hz : rd false w (cs.drop 0) (a0,a1) All:=rd_pair_drop r0 (rd_last_drop r1 zz4)
 exact ⟨⟨a0,a1⟩,hz⟩
theorem rdb_SealS : Rdb (List Seal) Tryz.prog 41:=rdb_slice Tryz.underlying41 (by kernel_rfl) (rdb_Seal)
theorem rdb_Pair : Rdb Pair Tryz.prog 116:=by
 intro H enc w base spare held fuel cs x h
 obtain ⟨xs,n,rfl,_,hl,hlen,hf⟩:=DataW.trod_struct Tryz.underlying116 h
 have hl : cs.length = 16:=hl.trans (by kernel_rfl)
 obtain ⟨y0,hy0⟩ : ∃ y,xs[0]? = some y:=⟨_,List.getElem?_eq_getElem zz54⟩
 obtain ⟨a0,r0⟩:=rdb_Seal H enc w base spare held n _ _ ((hf 0 _ rfl).trans hy0)
 have r0 : rd false w ((cs.drop 0).take (Tryz.prog.cellsOf 113)) a0 All:=r0
 rw [show Tryz.prog.cellsOf 113 = 8 from by kernel_rfl] at r0
 obtain ⟨y1,hy1⟩ : ∃ y,xs[1]? = some y:=⟨_,List.getElem?_eq_getElem zz54⟩
 obtain ⟨a1,r1⟩:=rdb_Seal H enc w base spare held n _ _ ((hf 1 _ rfl).trans hy1)
 have r1 : rd false w ((cs.drop 8).take (Tryz.prog.cellsOf 113)) a1 All:=r1
 rw [show Tryz.prog.cellsOf 113 = 8 from by kernel_rfl] at r1
 have hz : rd false w (cs.drop 0) (a0,a1) All:=rd_pair_drop r0 (rd_last_drop r1 zz4)
 exact ⟨⟨a0,a1⟩,hz⟩
theorem rdb_PairS : Rdb (List Pair) Tryz.prog 42:=rdb_slice Tryz.underlying42 (by kernel_rfl) (rdb_Pair)
theorem rdb_Auditor : Rdb Auditor Tryz.prog 44:=by
 intro H enc w base spare held fuel cs x h
 obtain ⟨xs,n,rfl,_,hl,hlen,hf⟩:=DataW.trod_struct Tryz.underlying44 h
 have hl : cs.length = 6:=hl.trans (by kernel_rfl)
 obtain ⟨y0,hy0⟩ : ∃ y,xs[0]? = some y:=⟨_,List.getElem?_eq_getElem zz54⟩
 obtain ⟨a0,r0⟩:=rdb_int Tryz.underlying3 H enc w base spare held n _ _ ((hf 0 _ rfl).trans hy0)
 have r0 : rd false w ((cs.drop 0).take (Tryz.prog.cellsOf 3)) a0 All:=r0
 rw [show Tryz.prog.cellsOf 3 = 1 from by kernel_rfl] at r0
 obtain ⟨y1,hy1⟩ : ∃ y,xs[1]? = some y:=⟨_,List.getElem?_eq_getElem zz54⟩
 obtain ⟨a1,r1⟩:=rdb_bool Tryz.underlying4 H enc w base spare held n _ _ ((hf 1 _ rfl).trans hy1)
 have r1 : rd false w ((cs.drop 1).take (Tryz.prog.cellsOf 4)) a1 All:=r1
 rw [show Tryz.prog.cellsOf 4 = 1 from by kernel_rfl] at r1
 obtain ⟨y2,hy2⟩ : ∃ y,xs[2]? = some y:=⟨_,List.getElem?_eq_getElem zz54⟩
 obtain ⟨a2,r2⟩:=rdb_Disk H enc w base spare held n _ _ ((hf 2 _ rfl).trans hy2)
 have r2 : rd false w ((cs.drop 2).take (Tryz.prog.cellsOf 24)) a2 All:=r2
 rw [show Tryz.prog.cellsOf 24 = 1 from by kernel_rfl] at r2
 obtain ⟨y3,hy3⟩ : ∃ y,xs[3]? = some y:=⟨_,List.getElem?_eq_getElem zz54⟩
 obtain ⟨a3,r3⟩:=rdb_StringS H enc w base spare held n _ _ ((hf 3 _ rfl).trans hy3)
 have r3 : rd false w ((cs.drop 3).take (Tryz.prog.cellsOf 29)) a3 All:=r3
 rw [show Tryz.prog.cellsOf 29 = 1 from by kernel_rfl] at r3
 obtain ⟨y4,hy4⟩ : ∃ y,xs[4]? = some y:=⟨_,List.getElem?_eq_getElem zz54⟩
 obtain ⟨a4,r4⟩:=rdb_SealS H enc w base spare held n _ _ ((hf 4 _ rfl).trans hy4)
 have r4 : rd false w ((cs.drop 4).take (Tryz.prog.cellsOf 41)) a4 All:=r4
 rw [show Tryz.prog.cellsOf 41 = 1 from by kernel_rfl] at r4
 obtain ⟨y5,hy5⟩ : ∃ y,xs[5]? = some y:=⟨_,List.getElem?_eq_getElem zz54⟩
 obtain ⟨a5,r5⟩:=rdb_PairS H enc w base spare held n _ _ ((hf 5 _ rfl).trans hy5)
 have r5 : rd false w ((cs.drop 5).take (Tryz.prog.cellsOf 42)) a5 All:=r5
 rw [show Tryz.prog.cellsOf 42 = 1 from by kernel_rfl] at r5
 have hz : rd false w (cs.drop 0) (a0,a1,a2,a3,a4,a5) All:=rd_pair_drop r0 (rd_pair_drop r1 (rd_pair_drop r2 (rd_pair_drop r3 (rd_pair_drop r4 (rd_last_drop r5 zz4)))))
 exact ⟨⟨a0,a1,a2,a3,a4,a5⟩,hz⟩
end Go.Proofs.YtlfnmbcnehaikaaGreatDoor
namespace Go.Proofs.YtlfnmbcnehaikaaGreatDoor
def inB (n lo hi : Int) : Bool:=decide (lo ≤ n ∧ n ≤ hi)
end Go.Proofs.YtlfnmbcnehaikaaGreatDoor
