/- A part of the proof. -/
import Derived.Laws.Rows
import Derived.Laws.Tables
import Derived.Test.YtlfnmbcnehaikaaGreatDoorHApL5xTop
set_option linter.unusedVariables false
set_option linter.unusedSimpArgs false
namespace Go.Proofs.YtlfnmbcnehaikaaGreatDoor
open Go.RowKit Lay
section
variable {P : Program} {ops : Array Oper} {rest : List Oper} {o : Oper} {a : Act} {w : World} {Q : Exit → Act → World → Prop}
theorem wpList_box (hgd : o.guard = none) (t : TypeId) (x : Operand) (ho : o.op = .box t x) {cs : Array Value} (hx : a.eval x = .agg cs)
  (h : wpList P ops Q rest (a.put o.dst (.pointer (some ⟨w.heap.size,0,none⟩))) (w.alloc (.cells cs t))) : wpList P ops Q (o :: rest) a w:=by
 refine wpList_plain hgd fun K hK => ?_
 have hr : (Instr.box t (.agg cs)).run P w = .ok (.pointer (some ⟨w.heap.size,0,none⟩)) (w.alloc (.cells cs t)):=by
  simp [Instr.box,newVar,newRow,Value.cells]
 unfold Oper.wp execOp
 simp only [ho,hx,Sem.run_bind,Sem.run_pure,Result.andThen_ok,hr]
 exact hK _ _ h
theorem setRow_alloc (v : World) (z cs : Array Value) (t : TypeId) : (v.alloc (.cells z t)).setRow v.heap.size cs = v.alloc (.cells cs t):=by
 have hm : ∀ (a : Array Obj) (x : Obj) (f : Obj → Obj),(a.push x).modify a.size f = a.push (f x):=by
  intro a x f
  apply Array.ext_getElem?
  intro i
  rw [Array.getElem?_modify]
  by_cases h : i = a.size
  ·subst h; simp
  ·rw [if_neg (fun e => h e.symm)]
   simp [Array.getElem?_push,h]
 have e : (v.alloc (.cells z t)).setRow v.heap.size cs = { v with heap:=(v.heap.push (.cells z t)).modify v.heap.size fun | .cells _ elem frozen => .cells cs elem frozen | o => o }:=rfl
 rw [e,hm]; rfl
theorem wpList_storeNew (hgd : o.guard = none) (t : TypeId) (p x : Operand) (ho : o.op = .store t p x) {g : Nat} (hp : a.eval p = .pointer (some ⟨g,0,none⟩)) {z cs : Array Value} (hx : a.eval x = .agg cs)
  (hg : g = w.heap.size) (hi : (P.info? t).map (·.size) = some cs.size) (hz : z.size = cs.size) (h1 : ∀ u ∈ cs.toList,u.oneCell' = true)
  (h : wpList P ops Q rest (a.put o.dst (.tuple #[])) (w.alloc (.cells cs t))) : wpList P ops Q (o :: rest) a (w.alloc (.cells z t)):=by
 refine wpList_plain hgd fun K hK => ?_
 subst hg
 have hr:=run_storeVar_row (P:=P) (w.alloc (.cells z t)) w.heap.size t t z cs (heap_alloc_new w _) hi hz (by rw [Array.all_eq_true']; intro u hu; exact h1 u (by simpa using hu))
 rw [setRow_alloc] at hr
 unfold Oper.wp execOp
 simp only [ho,hp,hx,Instr.storeAt,Instr.sureAddr,Sem.run_bind,Sem.run_pure,Result.andThen_ok,hr]
 exact hK _ _ h
theorem run_loadAt {t : TypeId} {fs : Array Field} {b off : Nat} {cs : List Value} (ha : At w b off cs) (hu : P.underlying t = some (.struct fs)) (hi : (P.info? t).map (·.size) = some cs.length) :
  (loadVar t ⟨b,off,none⟩).run P w = .ok (.agg cs.toArray) w:=by
 have hl:=run_loadCells_list (P:=P) w ⟨b,off,none⟩ cs (fun j v hv => by rw [add_none]; exact ha j v hv)
 cases hq : P.info? t with
 | none => simp [hq] at hi
 | some i =>
  have hs : i.size = cs.length:=by simpa [hq] using hi
  have hagg : (isAgg t).run P w = .ok true w:=by
   unfold isAgg
   rw [Sem.run_bind,run_underlying hu w]
   rfl
  simp [loadVar,Sem.run_bind,hagg,sizeOf,typeInfo,hq,hs,hl]
theorem wpList_loadT (hgd : o.guard = none) (t : TypeId) (x : Operand) (ho : o.op = .load t x) {b off : Nat} (hx : a.eval x = .pointer (some ⟨b,off,none⟩)) {cs : List Value} (ha : At w b off cs) {fs : Array Field}
  (hu : P.underlying t = some (.struct fs)) {k : Nat} (hi : (P.info? t).map (·.size) = some k) (hk : cs.length = k)
  (h : wpList P ops Q rest (a.put o.dst (.agg cs.toArray)) w) : wpList P ops Q (o :: rest) a w:=by
 refine wpList_plain hgd fun K hK => ?_
 subst hk
 unfold Oper.wp execOp
 simp only [ho,hx,Instr.loadAt,Instr.sureAddr,Sem.run_bind,Sem.run_pure,Result.andThen_ok,run_loadAt ha hu hi]
 exact hK _ _ h
theorem results_at {fn : Func} {p : Tmp} {ty : TypeId} (h : fn.results = #[.cell p ty]) (tmps : Array Value) {b off : Nat} {cs : List Value} {fs : Array Field}
  (hp : tmps.getD p undef = .pointer (some ⟨b,off,none⟩)) (ha : At w b off cs) (hu : P.underlying ty = some (.struct fs)) (hi : (P.info? ty).map (·.size) = some cs.length) :
  (results fn tmps).run P w = .ok (.agg cs.toArray) w:=by
 have hp' : tmps[p]?.getD undef = .pointer (some ⟨b,off,none⟩):=by simpa using hp
 simp [results,h,hp',asAddr,run_loadAt ha hu hi]
theorem At.alloc {b off : Nat} {cs : List Value} (h : At w b off cs) (hb : b < w.heap.size) (o : Obj) : At (w.alloc o) b off cs:=h.keep (Below.heap_alloc w o b hb)
theorem At.new (w : World) (cs : List Value) (t : TypeId) (fr : Nat × Nat) : At (w.alloc (.cells cs.toArray t fr)) w.heap.size 0 cs:=fun j u hu => by
 rw [World.cell?_alloc_mark]; simpa using hu
theorem At.below {w' : World} {b off : Nat} {cs : List Value} {B : Nat} (h : At w b off cs) (hb : Below B w w') (hl : b < B) : At w' b off cs:=h.keep (hb.block b hl)
theorem At.chg {w' : World} {b off : Nat} {cs : List Value} {S : Blks} (h : At w b off cs) (hb : Chg S w w') (hl : b < w.heap.size) (hs : ¬ S b) : At w' b off cs:=h.keep (hb.block b hl hs)
end
end Go.Proofs.YtlfnmbcnehaikaaGreatDoor
namespace Go.Proofs.YtlfnmbcnehaikaaGreatDoor
open Go.RowKit Lay
instance inf_File : Inf File:=⟨⟨.agg #[.string ⟨#[]⟩, .string ⟨#[]⟩, .int .i64 0],40,by kernel_rfl,rfl,zz44⟩,by kernel_rfl⟩
instance flat_File : Flat File:=⟨File.cs,fun x => x.name.size ≤ maxLen ∧ x.text.size ≤ maxLen ∧ I64 x.kept,⟨fun h => File.open h,fun ⟨e,h⟩ => by subst e; obtain ⟨f0,f1,f2⟩:=h; exact File.mk' f0 f1 f2⟩⟩
instance inf_String : Inf ByteArray:=⟨⟨.string ⟨#[]⟩,16,by kernel_rfl,rfl,zz44⟩,by kernel_rfl⟩
instance flat_String : Flat ByteArray:=⟨fun a => [.string a],fun a => a.size ≤ maxLen,Iff.rfl⟩
instance inf_Seal : Inf Seal:=⟨⟨.agg #[.int .i64 0, .int .i64 0, .string ⟨#[]⟩, .string ⟨#[]⟩, .int .i64 0, .slice none 0 0, .slice none 0 0, .slice none 0 0],128,by kernel_rfl,rfl,zz44⟩,by kernel_rfl⟩
instance inf_Pair : Inf Pair:=⟨⟨.agg #[.int .i64 0, .int .i64 0, .string ⟨#[]⟩, .string ⟨#[]⟩, .int .i64 0, .slice none 0 0, .slice none 0 0, .slice none 0 0, .int .i64 0, .int .i64 0, .string ⟨#[]⟩, .string ⟨#[]⟩, .int .i64 0, .slice none 0 0, .slice none 0 0, .slice none 0 0],256,by kernel_rfl,rfl,zz44⟩,by kernel_rfl⟩
instance inf_Head : Inf Head:=⟨⟨.agg #[.int .i64 0, .int .i64 0, .string ⟨#[]⟩, .string ⟨#[]⟩],48,by kernel_rfl,rfl,zz44⟩,by kernel_rfl⟩
instance flat_Head : Flat Head:=⟨Head.cs,fun x => I64 x.house ∧ I64 x.epoch ∧ x.root.size ≤ maxLen ∧ x.prev.size ≤ maxLen,⟨fun h => Head.open h,fun ⟨e,h⟩ => by subst e; obtain ⟨f0,f1,f2,f3⟩:=h; exact Head.mk' f0 f1 f2 f3⟩⟩
instance inf_U8 : Inf UInt8:=⟨⟨.int .u8 0,1,by kernel_rfl,rfl,zz44⟩,by kernel_rfl⟩
instance flat_U8 : Flat UInt8:=⟨fun a => [.int .u8 a.toNat],fun _ => True,by intros; simp [rd]⟩
instance inf_Act : Inf DAct:=⟨⟨.agg #[.int .i64 0, .string ⟨#[]⟩, .string ⟨#[]⟩, .string ⟨#[]⟩],56,by kernel_rfl,rfl,zz44⟩,by kernel_rfl⟩
instance flat_Act : Flat DAct:=⟨DAct.cs,fun x => I64 x.kind ∧ x.name.size ≤ maxLen ∧ x.text.size ≤ maxLen ∧ x.to.size ≤ maxLen,⟨fun h => DAct.open h,fun ⟨e,h⟩ => by subst e; obtain ⟨f0,f1,f2,f3⟩:=h; exact DAct.mk' f0 f1 f2 f3⟩⟩
theorem Row.atFile {m : Bool} {w : World} {A : Option Addr} {cap : Nat} {xs : List File} {S : Blks} (h : Row m w A cap xs S) {i : Nat} (hi : i < xs.length) :
  ∃ b off,A = some ⟨b,off,none⟩ ∧ b < w.heap.size ∧ w.cell? ⟨b,off + i * 3,none⟩ = some (.string xs[i].name) ∧ w.cell? ⟨b,off + i * 3 + 1,none⟩ = some (.string xs[i].text) ∧ w.cell? ⟨b,off + i * 3 + 2,none⟩ = some (.int .i64 xs[i].kept) ∧ xs[i].name.size ≤ maxLen ∧ xs[i].text.size ≤ maxLen ∧ I64 xs[i].kept:=by
 obtain ⟨b,off,cs,T,e,hb,ha,hr,_,_⟩:=Row.at_ h hi
 obtain ⟨rfl,hs⟩:=File.open hr
 rw [show n File = 3 from rfl] at ha
 exact ⟨b,off,e,hb,ha 0 _ rfl,ha 1 _ rfl,ha 2 _ rfl,hs⟩
theorem Row.atHead {m : Bool} {w : World} {A : Option Addr} {cap : Nat} {xs : List Head} {S : Blks} (h : Row m w A cap xs S) {i : Nat} (hi : i < xs.length) :
  ∃ b off,A = some ⟨b,off,none⟩ ∧ b < w.heap.size ∧ w.cell? ⟨b,off + i * 4,none⟩ = some (.int .i64 xs[i].house) ∧ w.cell? ⟨b,off + i * 4 + 1,none⟩ = some (.int .i64 xs[i].epoch) ∧ w.cell? ⟨b,off + i * 4 + 2,none⟩ = some (.string xs[i].root) ∧ w.cell? ⟨b,off + i * 4 + 3,none⟩ = some (.string xs[i].prev) ∧ I64 xs[i].house ∧ I64 xs[i].epoch ∧ xs[i].root.size ≤ maxLen ∧ xs[i].prev.size ≤ maxLen:=by
 obtain ⟨b,off,cs,T,e,hb,ha,hr,_,_⟩:=Row.at_ h hi
 obtain ⟨rfl,hs⟩:=Head.open hr
 rw [show n Head = 4 from rfl] at ha
 exact ⟨b,off,e,hb,ha 0 _ rfl,ha 1 _ rfl,ha 2 _ rfl,ha 3 _ rfl,hs⟩
end Go.Proofs.YtlfnmbcnehaikaaGreatDoor
namespace Go.Proofs.YtlfnmbcnehaikaaGreatDoor
open Go.RowKit Lay Mk
theorem impl_in (n lo hi : Int) (w : World) : Calls Tryz.prog 62 #[.int .i64 n, .int .i64 lo, .int .i64 hi] w fun e w' => e = .returned (.bool (inB n lo hi)) ∧ w = w':=by
 go_enter Tryz.func62,Tryz.ntmps62
 go_wp2
 all_goals (go_ret; refine ⟨?_,rfl⟩; simp [inB]; try omega)
theorem spec_in (n lo hi : Int) (w : World) : Calls Tryz.prog 48 #[.int .i64 n, .int .i64 lo, .int .i64 hi] w fun e w' => e = .returned (.bool (inB n lo hi)) ∧ w = w':=by
 go_enter Tryz.func48,Tryz.ntmps48
 go_wp2
 all_goals (go_ret; refine ⟨?_,rfl⟩; simp [inB]; try omega)
end Go.Proofs.YtlfnmbcnehaikaaGreatDoor
