/- Layouts, worlds, rows: the common part, 2. -/
import Derived.Test.YtojbehmbeoemgaaDoorB1
import Derived.Laws.Rows
import Derived.Laws.Tables
import Derived.Test.YtojbehmbeoemgaaDoorRows
import Derived.Below
import Derived.ChangeSame
import Derived.Deep.RegionHeld3
import Derived.Lib.Hide
import Derived.Deep.DeepFit
import Derived.Deep.QuietTactic
import Derived.BigQuiet
import Derived.Test.YtojbehmbeoemgaaDoorProg
import Derived.Laws.BitsAllLaws
import Derived.Outline
import Derived.Deep.LoopGhost
import Derived.IntWalk
set_option linter.unusedVariables false
set_option linter.unusedSimpArgs false
namespace Go.Proofs.YtojbehmbeoemgaaDoor
open Go.RowKit Lay
instance inf_U8 : Inf UInt8 := ⟨⟨.int .u8 0, 1, by kernel_rfl, rfl, by decide⟩, by kernel_rfl⟩
instance flat_U8 : Flat UInt8 := ⟨fun a => [.int .u8 a.toNat], fun _ => True, by intros; simp [rd]⟩
instance inf_String : Inf ByteArray := ⟨⟨.string ⟨#[]⟩, 16, by kernel_rfl, rfl, by decide⟩, by kernel_rfl⟩
instance flat_String : Flat ByteArray := ⟨fun a => [.string a], fun a => a.size ≤ maxLen, Iff.rfl⟩
instance inf_Int : Inf Int := ⟨⟨.int .i64 0, 8, by kernel_rfl, rfl, by decide⟩, by kernel_rfl⟩
instance flat_Int : Flat Int := ⟨fun a => [.int .i64 a], I64, Iff.rfl⟩
instance inf_LeafS : Inf (List Leaf) := ⟨⟨.slice none 0 0, 24, by kernel_rfl, rfl, by decide⟩, by kernel_rfl⟩
instance inf_Leaf : Inf Leaf := ⟨⟨.agg #[.string ⟨#[]⟩, .string ⟨#[]⟩], 32, by kernel_rfl, rfl, by decide⟩, by kernel_rfl⟩
instance flat_Leaf : Flat Leaf := ⟨Leaf.cs, fun x => x.name.size ≤ maxLen ∧ x.value.size ≤ maxLen, ⟨fun h => Leaf.open h, fun ⟨e, h⟩ => by subst e; obtain ⟨f0, f1⟩ := h; exact Leaf.mk' f0 f1⟩⟩
theorem Row.atLeaf {m : Bool} {w : World} {A : Option Addr} {cap : Nat} {xs : List Leaf} {S : Blks} (h : Row m w A cap xs S) {i : Nat} (hi : i < xs.length) :
    ∃ b off, A = some ⟨b, off, none⟩ ∧ b < w.heap.size ∧ w.cell? ⟨b, off + i * 2, none⟩ = some (.string xs[i].name) ∧ w.cell? ⟨b, off + i * 2 + 1, none⟩ = some (.string xs[i].value) ∧ xs[i].name.size ≤ maxLen ∧ xs[i].value.size ≤ maxLen := by
  obtain ⟨b, off, cs, T, e, hb, ha, hr, _, _⟩ := Row.at_ h hi
  obtain ⟨rfl, hs⟩ := Leaf.open hr
  rw [show n Leaf = 2 from rfl] at ha
  exact ⟨b, off, e, hb, ha 0 _ rfl, ha 1 _ rfl, hs⟩
theorem Row.inLeaf {m : Bool} {w : World} {A : Option Addr} {cap : Nat} {xs : List Leaf} {S : Blks} (h : Row m w A cap xs S) {i : Nat} (hi : i < xs.length) :
    ∃ b off, A = some ⟨b, off, none⟩ ∧ b < w.heap.size ∧ S b ∧ w.cell? ⟨b, off + i * 2, none⟩ = some (.string xs[i].name) ∧ w.cell? ⟨b, off + i * 2 + 1, none⟩ = some (.string xs[i].value) ∧ xs[i].name.size ≤ maxLen ∧ xs[i].value.size ≤ maxLen := by
  obtain ⟨b, off, cs, T, e, hb, ha, hr, _, hS⟩ := Row.at_ h hi
  obtain ⟨rfl, hs⟩ := Leaf.open hr
  rw [show n Leaf = 2 from rfl] at ha
  exact ⟨b, off, e, hb, hS, ha 0 _ rfl, ha 1 _ rfl, hs⟩
end Go.Proofs.YtojbehmbeoemgaaDoor

set_option linter.unusedVariables false
set_option linter.unusedSimpArgs false
namespace Go.Proofs.YtojbehmbeoemgaaDoor
open Go.RowKit Lay

section
variable {P : Program} {ops : Array Oper} {rest : List Oper} {o : Oper} {a : Act} {w : World} {Q : Exit → Act → World → Prop}
theorem wpList_box (hgd : o.guard = none) (t : TypeId) (x : Operand) (ho : o.op = .box t x) {cs : Array Value} (hx : a.eval x = .agg cs)
    (h : wpList P ops Q rest (a.put o.dst (.pointer (some ⟨w.heap.size, 0, none⟩))) (w.alloc (.cells cs t))) : wpList P ops Q (o :: rest) a w := by
  refine wpList_plain hgd fun K hK => ?_
  have hr : (Instr.box t (.agg cs)).run P w = .ok (.pointer (some ⟨w.heap.size, 0, none⟩)) (w.alloc (.cells cs t)) := by
    simp [Instr.box, newVar, newRow, Value.cells]
  unfold Oper.wp execOp
  simp only [ho, hx, Sem.run_bind, Sem.run_pure, Result.andThen_ok, hr]
  exact hK _ _ h

theorem setRow_alloc (v : World) (z cs : Array Value) (t : TypeId) : (v.alloc (.cells z t)).setRow v.heap.size cs = v.alloc (.cells cs t) := by
  have hm : ∀ (a : Array Obj) (x : Obj) (f : Obj → Obj), (a.push x).modify a.size f = a.push (f x) := by
    intro a x f
    apply Array.ext_getElem?
    intro i
    rw [Array.getElem?_modify]
    by_cases h : i = a.size
    · subst h; simp
    · rw [if_neg (fun e => h e.symm)]
      simp [Array.getElem?_push, h]
  have e : (v.alloc (.cells z t)).setRow v.heap.size cs = { v with heap := (v.heap.push (.cells z t)).modify v.heap.size fun | .cells _ elem frozen => .cells cs elem frozen | o => o } := rfl
  rw [e, hm]; rfl

theorem wpList_storeNew (hgd : o.guard = none) (t : TypeId) (p x : Operand) (ho : o.op = .store t p x) {g : Nat} (hp : a.eval p = .pointer (some ⟨g, 0, none⟩)) {z cs : Array Value} (hx : a.eval x = .agg cs)
    (hg : g = w.heap.size) (hi : (P.info? t).map (·.size) = some cs.size) (hz : z.size = cs.size) (h1 : ∀ u ∈ cs.toList, u.oneCell' = true)
    (h : wpList P ops Q rest (a.put o.dst (.tuple #[])) (w.alloc (.cells cs t))) : wpList P ops Q (o :: rest) a (w.alloc (.cells z t)) := by
  refine wpList_plain hgd fun K hK => ?_
  subst hg
  have hr := run_storeVar_row (P := P) (w.alloc (.cells z t)) w.heap.size t t z cs (heap_alloc_new w _) hi hz (by rw [Array.all_eq_true']; intro u hu; exact h1 u (by simpa using hu))
  rw [setRow_alloc] at hr
  unfold Oper.wp execOp
  simp only [ho, hp, hx, Instr.storeAt, Instr.sureAddr, Sem.run_bind, Sem.run_pure, Result.andThen_ok, hr]
  exact hK _ _ h

theorem run_loadAt {t : TypeId} {fs : Array Field} {b off : Nat} {cs : List Value} (ha : At w b off cs) (hu : P.underlying t = some (.struct fs)) (hi : (P.info? t).map (·.size) = some cs.length) :
    (loadVar t ⟨b, off, none⟩).run P w = .ok (.agg cs.toArray) w := by
  have hl := run_loadCells_list (P := P) w ⟨b, off, none⟩ cs (fun j v hv => by rw [add_none]; exact ha j v hv)
  cases hq : P.info? t with
  | none => simp [hq] at hi
  | some i =>
    have hs : i.size = cs.length := by simpa [hq] using hi
    have hagg : (isAgg t).run P w = .ok true w := by
      unfold isAgg
      rw [Sem.run_bind, run_underlying hu w]
      rfl
    simp [loadVar, Sem.run_bind, hagg, sizeOf, typeInfo, hq, hs, hl]
theorem wpList_loadT (hgd : o.guard = none) (t : TypeId) (x : Operand) (ho : o.op = .load t x) {b off : Nat} (hx : a.eval x = .pointer (some ⟨b, off, none⟩)) {cs : List Value} (ha : At w b off cs) {fs : Array Field}
    (hu : P.underlying t = some (.struct fs)) {k : Nat} (hi : (P.info? t).map (·.size) = some k) (hk : cs.length = k)
    (h : wpList P ops Q rest (a.put o.dst (.agg cs.toArray)) w) : wpList P ops Q (o :: rest) a w := by
  refine wpList_plain hgd fun K hK => ?_
  subst hk
  unfold Oper.wp execOp
  simp only [ho, hx, Instr.loadAt, Instr.sureAddr, Sem.run_bind, Sem.run_pure, Result.andThen_ok, run_loadAt ha hu hi]
  exact hK _ _ h
theorem results_at {fn : Func} {p : Tmp} {ty : TypeId} (h : fn.results = #[.cell p ty]) (tmps : Array Value) {b off : Nat} {cs : List Value} {fs : Array Field}
    (hp : tmps.getD p undef = .pointer (some ⟨b, off, none⟩)) (ha : At w b off cs) (hu : P.underlying ty = some (.struct fs)) (hi : (P.info? ty).map (·.size) = some cs.length) :
    (results fn tmps).run P w = .ok (.agg cs.toArray) w := by
  have hp' : tmps[p]?.getD undef = .pointer (some ⟨b, off, none⟩) := by simpa using hp
  simp [results, h, hp', asAddr, run_loadAt ha hu hi]
theorem At.alloc {b off : Nat} {cs : List Value} (h : At w b off cs) (hb : b < w.heap.size) (o : Obj) : At (w.alloc o) b off cs := h.keep (Below.heap_alloc w o b hb)
theorem At.new (w : World) (cs : List Value) (t : TypeId) (fr : Nat × Nat) : At (w.alloc (.cells cs.toArray t fr)) w.heap.size 0 cs := fun j u hu => by
  rw [World.cell?_alloc_mark]; simpa using hu
theorem At.below {w' : World} {b off : Nat} {cs : List Value} {B : Nat} (h : At w b off cs) (hb : Below B w w') (hl : b < B) : At w' b off cs := h.keep (hb.block b hl)
theorem At.chg {w' : World} {b off : Nat} {cs : List Value} {S : Blks} (h : At w b off cs) (hb : Chg S w w') (hl : b < w.heap.size) (hs : ¬ S b) : At w' b off cs := h.keep (hb.block b hl hs)
end
end Go.Proofs.YtojbehmbeoemgaaDoor

set_option linter.unusedVariables false
set_option linter.unusedSimpArgs false
namespace Go.Proofs.YtojbehmbeoemgaaDoor
open Go.RowKit Go.WideShapes Go.ChangeShapes Go.ChangeAt Lay Mk
theorem own_ : ownKnob Tryd.prog.godebug = none := by kernel_rfl
theorem laidOut_ : laidOutB Tryd.prog = true := by kernel_rfl
theorem trodAll_stays {H : Type} {enc : TypeId × Value → H} {P : Program} (hl : laidOutB P = true) {W W' : World} {sp : Nat → Bool} (hb : Below W.heap.size W W') :
    ∀ (ts : List TypeId) (vs : List Value) (ds : List (DataW H)) (ps : List MemPlace), (∀ t ∈ ts, P.readableRec t = true ∧ t < P.types.size) →
    DataW.TrodAll enc P W 0 (fun _ => true) true ts vs ds ps → (∀ p ∈ ps, p.block < W.heap.size) → (∀ p ∈ ps, sp p.block = true) → DataW.TrodAll enc P W' 0 sp true ts vs ds ps
  | [], [], [], ps, _, h, _, _ => h
  | t :: ts, v :: vs, d :: ds, ps, hr, h, hlt, hsp => by
    obtain ⟨p, q, h1, h2, rfl⟩ := h
    refine ⟨p, q, ?_, trodAll_stays hl hb ts vs ds q (fun u hu => hr u (List.mem_cons_of_mem _ hu)) h2 (fun x hx => hlt x (List.mem_append_right _ hx)) (fun x hx => hsp x (List.mem_append_right _ hx)), rfl⟩
    exact WideElems.Trod_stays hl (hr t (List.mem_cons_self ..)).1 (hr t (List.mem_cons_self ..)).2 h1 (fun x hx => hb.same (hlt x (List.mem_append_left _ hx))) (fun x hx => hsp x (List.mem_append_left _ hx))
  | [], _ :: _, _, _, _, h, _, _ => h.elim
  | [], [], _ :: _, _, _, h, _, _ => h.elim
  | _ :: _, [], _, _, _, h, _, _ => h.elim
  | _ :: _, _ :: _, [], _, _, h, _, _ => h.elim
theorem okWide_agg {P : Program} {W : World} {r : Reach} {base : Nat} {t : TypeId} {v : Value} {fs : Array Field} (ht : P.underlying t = some (.struct fs)) (h : Value.okWide P W r base t v) : ∃ cs, v = .agg cs := by
  unfold Value.okWide at h
  rw [ht] at h
  obtain ⟨cs, e, _⟩ := h
  exact ⟨cs, e⟩
section
variable {H : Type} {enc : TypeId × Value → H} {P : Program}
/-- the row's last step where of the call's world 'Below' alone is known -/
theorem post_below {f : Func} {s : ChangeSpec} {apart fresh handsOn again : Bool} {W W' : World} {args : Array Value} {v : Value} {ds gs : List (DataW H)} {before pa pv : List MemPlace}
    (hW : DataW.Whole enc P f.params.toList s.vars apart W args.toList ds gs before)
    (hres : ∀ (b : Nat) (sp : Nat → Bool) (hd : Bool), DataW.TrodAll enc P W' b sp hd f.resultTypes.toList (v.resultList f.resultTypes.size) (s.fn H (ds ++ gs)).results [])
    (hargs : ∀ sp : Nat → Bool, (∀ p ∈ before, sp p.block = true) → DataW.TrodAll enc P W' 0 sp true f.params.toList args.toList (s.fn H (ds ++ gs)).args pa)
    (hvars : ∀ sp : Nat → Bool, (∀ p ∈ before, sp p.block = true) → DataW.TrodVars enc P W' sp s.vars (s.fn H (ds ++ gs)).vars pv)
    (hps : before = pa ++ pv) (hb : Below W.heap.size W W')
    (hok : ∀ (j : Nat) (t : TypeId) (r : Value), f.resultTypes[j]? = some t → (v.resultList f.resultTypes.size)[j]? = some r → Value.okWide P W' .any 0 t r) :
    s.post enc P f apart fresh handsOn again W args v W' := by
  have hlt : ∀ p ∈ before, p.block < W.heap.size := fun p hp => hW.lt p hp
  have hold : ∀ p ∈ before, (fun b => decide (b < W.heap.size)) p.block = true := fun p hp => by simpa using hlt p hp
  refine ⟨ds, gs, before, [], pa, pv, hW, hres _ _ _, hargs _ hold, hvars _ hold, World.keptBut_mono (fun p hp => ⟨hp, ?_⟩) (hb.frame (· ∈ before)), fun _ => ?_⟩
  · rw [hps, List.mem_append] at hp
    exact Or.inr hp
  · obtain ⟨_, _, _, _, _, hz, hn⟩ := hW
    refine ⟨hok, _, _, ([] ++ pa) ++ pv, ⟨[] ++ pa, pv, trodAll_append (hargs _ (fun _ _ => rfl)) (hres _ _ _), hvars _ (fun _ _ => rfl), rfl, ?_, ?_⟩, ?_⟩
    · intro b off hp
      have hin : MemPlace.cell b off ∈ before := by rw [hps]; simpa using hp
      rw [hb.frozen (hlt _ hin)]
      exact hz b off hin
    · intro ha
      have := hn ha
      rw [hps] at this
      simpa using this
    · intro p hp _
      rw [hps]
      simpa using hp
end
end Go.Proofs.YtojbehmbeoemgaaDoor

set_option linter.unusedVariables false
set_option linter.unusedSimpArgs false
namespace Go.Proofs.YtojbehmbeoemgaaDoor
open Go.RowKit Lay Mk
theorem Below.via {w w' : World} {o : Obj} (hb : Below (w.alloc o).heap.size (w.alloc o) w') : Below w.heap.size w w' := ((Below.refl _ _).alloc (Nat.le_refl _) _).trans (hb.mono (by simp))
theorem Below.viad {w w' : World} (hb : Below w.drew.heap.size w.drew w') : Below w.heap.size w w' := ((Below.refl _ _).drew).trans (hb.mono (Nat.le_refl _))
theorem Below.step {a b c : World} (h : Below a.heap.size a b) (k : Below b.heap.size b c) : Below a.heap.size a c := h.trans (k.mono h.size)
theorem Below.stepc {a b c : World} {S : Blks} (h : Below a.heap.size a b) (k : Chg S b c) (hs : ∀ x, S x → a.heap.size ≤ x) : Below a.heap.size a c := h.trans (k.to_below h.size hs)
theorem disjS {S T : Blks} {a b c d : Nat} (h1 : sub S (rng a b)) (h2 : sub T (rng c d)) (h : b ≤ c ∨ d ≤ a) : disj S T := fun x hx hy => by
  have := h1 x hx
  have := h2 x hy
  unfold rng at *
  omega
theorem rngS {a b c d : Nat} (h : c ≤ a) (k : b ≤ d) : sub (rng a b) (rng c d) := fun x hx => by unfold rng at *; omega
theorem not_rng {S : Blks} {a b x : Nat} (h : sub S (rng a b)) (k : x < a ∨ b ≤ x) : ¬ S x := fun hx => by
  have := h x hx
  unfold rng at *
  omega
theorem cell_alloc {w : World} {o : Obj} {b i : Nat} {v : Value} (h : w.cell? ⟨b, i, none⟩ = some v) : (w.alloc o).cell? ⟨b, i, none⟩ = some v :=
  (World.cell?_of_block (a := ⟨b, i, none⟩) (Below.heap_alloc w o b (block_lt_of_cell (a := ⟨b, i, none⟩) h))).trans h
theorem old_rng {α : Type} [Lay α] {m : Bool} {w : World} {cs : List Value} {x : α} {S : Blks} (h : rd m w cs x S) : rd m w cs x (rng 0 w.heap.size) := Lay.mono (Lay.tight h) (fun _ x => ⟨Nat.zero_le _, x.2⟩)
theorem old_rngR {α : Type} [Lay α] {m : Bool} {w : World} {A : Option Addr} {cap : Nat} {xs : List α} {S : Blks} (h : Row m w A cap xs S) : Row m w A cap xs (rng 0 w.heap.size) := h.tight.mono (fun _ x => ⟨Nat.zero_le _, x.2⟩)
theorem nagg_slice {P : Program} {W : World} {r : Reach} {base : Nat} {t e : TypeId} {v : Value} (ht : P.underlying t = some (.slice e)) (h : Value.okWide P W r base t v) : ∀ cs, v ≠ .agg cs := by
  rintro cs rfl
  unfold Value.okWide at h
  rw [ht] at h
  simp [Cell.okWide, Cell.ok, ht] at h
theorem nagg_int {P : Program} {W : World} {r : Reach} {base : Nat} {t : TypeId} {k : IntKind} {v : Value} (ht : P.underlying t = some (.int k)) (h : Value.okWide P W r base t v) : ∀ cs, v ≠ .agg cs := by
  rintro cs rfl
  unfold Value.okWide at h
  rw [ht] at h
  simp [Cell.okWide, Cell.ok, ht] at h
theorem nagg_string {P : Program} {W : World} {r : Reach} {base : Nat} {t : TypeId} {v : Value} (ht : P.underlying t = some .string) (h : Value.okWide P W r base t v) : ∀ cs, v ≠ .agg cs := by
  rintro cs rfl
  unfold Value.okWide at h
  rw [ht] at h
  simp [Cell.okWide, Cell.ok, ht] at h
theorem nagg_bool {P : Program} {W : World} {r : Reach} {base : Nat} {t : TypeId} {v : Value} (ht : P.underlying t = some .bool) (h : Value.okWide P W r base t v) : ∀ cs, v ≠ .agg cs := by
  rintro cs rfl
  unfold Value.okWide at h
  rw [ht] at h
  simp [Cell.okWide, Cell.ok, ht] at h
theorem cells_one {v u : Value} (h : v.cells.toList = [u]) (hn : ∀ cs, v ≠ .agg cs) : v = u := by
  cases v <;> first | (exfalso; exact hn _ rfl) | (simpa [Value.cells] using h)
theorem yieldsIf_loadT {P : Program} {ops : Array Oper} {S : World → Prop} {o : Oper} {a : Act} (hw : Region.wanted o (yielded ops a.tmps) = true) (t : TypeId) (x : Operand) (ho : o.op = .load t x) {b off : Nat} (hx : a.eval x = .pointer (some ⟨b, off, none⟩)) {cs : List Value} (ha : ∀ w, S w → At w b off cs) {fs : Array Field}
    (hu : P.underlying t = some (.struct fs)) {k : Nat} (hi : (P.info? t).map (·.size) = some k) (hk : cs.length = k) : YieldsIf P ops S o (.agg cs.toArray) a := by
  subst hk
  refine .inl ⟨hw, fun w hS => ?_⟩
  unfold execOp
  simp only [ho, hx, Instr.loadAt, Instr.sureAddr, Sem.run_bind, Sem.run_pure, Result.andThen_ok, run_loadAt (ha w hS) hu hi]
theorem szR_cases {n left : Int} {s : Nat} (h : SzR n left s) (hl : left ≤ 1048576) : n = -1 ∨ (0 ≤ n ∧ n ≤ 1048576 ∧ s ≤ 1048576) := by
  unfold SzR at h; omega
end Go.Proofs.YtojbehmbeoemgaaDoor

set_option linter.unusedVariables false
set_option linter.unusedSimpArgs false
namespace Go.Proofs.YtojbehmbeoemgaaDoor
open Go.RowKit Lay Mk
theorem Row.str {m : Bool} {w : World} {A : Option Addr} {cap : Nat} {xs : List ByteArray} {S : Blks} (h : Row m w A cap xs S) {i : Nat} (hi : i < xs.length) :
    ∃ b off, A = some ⟨b, off, none⟩ ∧ b < w.heap.size ∧ w.cell? ⟨b, off + i, none⟩ = some (.string xs[i]) ∧ xs[i].size ≤ maxLen := by
  obtain ⟨b, off, cs, T, e, hb, ha, hr, _, _⟩ := Row.at_ h hi
  obtain ⟨rfl, hs⟩ := open_str hr
  have := ha 0 _ rfl
  exact ⟨b, off, e, hb, by simpa [show n ByteArray = 1 from rfl] using this, hs⟩
theorem Row.int {m : Bool} {w : World} {A : Option Addr} {cap : Nat} {xs : List Int} {S : Blks} (h : Row m w A cap xs S) {i : Nat} (hi : i < xs.length) :
    ∃ b off, A = some ⟨b, off, none⟩ ∧ b < w.heap.size ∧ w.cell? ⟨b, off + i, none⟩ = some (.int .i64 xs[i]) ∧ I64 xs[i] := by
  obtain ⟨b, off, cs, T, e, hb, ha, hr, _, _⟩ := Row.at_ h hi
  obtain ⟨rfl, hs⟩ := open_int hr
  have := ha 0 _ rfl
  exact ⟨b, off, e, hb, by simpa [show n Int = 1 from rfl] using this, hs⟩
theorem Row.bool {m : Bool} {w : World} {A : Option Addr} {cap : Nat} {xs : List Bool} {S : Blks} (h : Row m w A cap xs S) {i : Nat} (hi : i < xs.length) :
    ∃ b off, A = some ⟨b, off, none⟩ ∧ b < w.heap.size ∧ w.cell? ⟨b, off + i, none⟩ = some (.bool xs[i]) := by
  obtain ⟨b, off, cs, T, e, hb, ha, hr, _, _⟩ := Row.at_ h hi
  have hr : cs = [.bool xs[i]] := hr
  subst hr
  have := ha 0 _ rfl
  exact ⟨b, off, e, hb, by simpa [show n Bool = 1 from rfl] using this⟩
theorem toList_inj {a b : ByteArray} (h : a.toList = b.toList) : a = b := by
  rw [ByteArray.toList_eq, ByteArray.toList_eq] at h
  exact ByteArray.ext (Array.toList_inj.1 h)
theorem str_eq {a b : ByteArray} (h : a = b) : (a.toList == b.toList) = true := by subst h; simp
theorem str_ne {a b : ByteArray} (h : ¬ a = b) : (a.toList == b.toList) = false := by
  rw [beq_eq_false_iff_ne]; exact fun e => h (toList_inj e)
theorem str_dec (a b : ByteArray) : (a.toList == b.toList) = decide (a = b) := by
  by_cases h : a = b
  · rw [str_eq h, decide_eq_true h]
  · rw [str_ne h, decide_eq_false h]
theorem i64_nat {k : Nat} (h : k ≤ 4611686018427387904) : I64 (k : Int) := by unfold I64; omega
theorem i64_of {a : Int} (h : -4611686018427387904 ≤ a) (k : a ≤ 4611686018427387904) : I64 a := by unfold I64; omega
/-- a row that the call itself has laid: all its blocks lie at or behind B -/
def nw (B : Nat) : Blks := fun b => B ≤ b
theorem row_nil {α : Type} [Lay α] (w : World) (S : Blks) : Row (α := α) true w none 0 [] S := .inl ⟨rfl, rfl, rfl⟩
theorem row_lit0 {α : Type} [Lay α] (w : World) (t : TypeId) (S : Blks) (ht : t = ty α) (hS : S w.heap.size) : Row (α := α) true (w.alloc (.cells #[] t)) (some ⟨w.heap.size, 0, none⟩) 0 [] S := by
  subst ht
  exact .inr ⟨w.heap.size, #[], rfl, hS, heap_alloc_new w _, by simp, fun _ => none_, fun _ _ x => x.elim, fun _ _ _ _ _ x => x.elim, fun i hi => absurd hi (by simp)⟩
theorem Chg.nw {S : Blks} {w w' : World} {B : Nat} (h : Chg S w w') (hB : B ≤ w.heap.size) (hs : sub S (nw B)) : Below B w w' := h.to_below hB hs
theorem nw_step {B : Nat} {S T : Blks} {lo hi : Nat} (hS : sub S (nw B)) (hT : sub T (nw B)) (h : B ≤ lo) : sub (fun b => S b ∨ T b ∨ (lo ≤ b ∧ b < hi)) (nw B) :=
  fun b x => x.elim (hS b) (fun y => y.elim (hT b) (fun z => Nat.le_trans h z.1))
theorem none_sub (S : Blks) : sub none_ S := fun _ x => x.elim
theorem to_rng {α : Type} [Lay α] {w : World} {A : Option Addr} {cap : Nat} {xs : List α} {B : Nat} (h : Row true w A cap xs (nw B)) : Row true w A cap xs (rng B w.heap.size) := h.tight.mono (fun b x => ⟨x.1, x.2⟩)
/-- behind an append of new elements to a row of the call's own -/
theorem row_step {α : Type} [Lay α] {w w' : World} {A : Option Addr} {cap B : Nat} {xs : List α} (h : Row true w' A cap xs (fun b => nw B b ∨ none_ b ∨ (w.heap.size ≤ b ∧ b < w'.heap.size))) (hB : B ≤ w.heap.size) : Row true w' A cap xs (nw B) :=
  h.mono (nw_step (sub_refl _) (none_sub _) hB)
theorem box_cell (w : World) (C : Array Value) (t : TypeId) (j : Nat) (v : Value) (h : C[j]? = some v) : (w.alloc (.cells C t)).cell? ⟨w.heap.size, j, none⟩ = some v := by rw [World.cell?_alloc_mark]; exact h
end Go.Proofs.YtojbehmbeoemgaaDoor

set_option linter.unusedVariables false
set_option linter.unusedSimpArgs false
namespace Go.Proofs.YtojbehmbeoemgaaDoor
open Go.RowKit Lay Mk
def u32v (x : Int) : Value := .int .u32 x
def arr (l : List Int) : Array Value := (l.map u32v).toArray
theorem arr_size (l : List Int) : (arr l).size = l.length := by simp [arr]
/-- a block that is an array of words -/
def Arr (w : World) (b : Nat) (t : TypeId) (l : List Int) : Prop := w.heap[b]? = some (.cells (arr l) t (0, 0))
theorem Arr.cell {w : World} {b t : Nat} {l : List Int} (h : Arr w b t l) {i : Nat} (hi : i < l.length) : w.cell? ⟨b, i, none⟩ = some (.int .u32 l[i]) := by
  rw [cell_of_row w b i _ t (0, 0) h]; simp [arr, u32v, hi]
theorem Arr.lt {w : World} {b t : Nat} {l : List Int} (h : Arr w b t l) : b < w.heap.size := heap_lt h
theorem Arr.frozen {w : World} {b t : Nat} {l : List Int} (h : Arr w b t l) (o : Nat) : w.frozen? ⟨b, o, none⟩ = false := frozen_of_row w b o _ t h
theorem Arr.set {w : World} {b t : Nat} {l : List Int} (h : Arr w b t l) (i : Nat) (x : Int) : Arr (w.setCell ⟨b, i, none⟩ (.int .u32 x)) b t (l.set i x) := by
  unfold Arr at *
  simp only [World.setCell, Array.getElem?_modify, h]
  simp only [if_true, Option.map_some, Option.some.injEq]
  simp [arr, u32v, List.map_set]
theorem Arr.setO {w : World} {b t : Nat} {l : List Int} (h : Arr w b t l) {p : Addr} (hp : b ≠ p.block) (u : Value) : Arr (w.setCell p u) b t l := (Below.heap_setCell w p u b hp).trans h
theorem Arr.alloc {w : World} {b t : Nat} {l : List Int} (h : Arr w b t l) (o : Obj) : Arr (w.alloc o) b t l := (Below.heap_alloc w o b (heap_lt h)).trans h
theorem Arr.drew {w : World} {b t : Nat} {l : List Int} (h : Arr w b t l) : Arr w.drew b t l := h
theorem Arr.drewN {w : World} {b t : Nat} {l : List Int} (h : Arr w b t l) (n : Nat) : Arr (w.drewN n) b t l := h
theorem Arr.keep {w w' : World} {b t : Nat} {l : List Int} (h : Arr w b t l) (k : w'.heap[b]? = w.heap[b]?) : Arr w' b t l := k.trans h
theorem Arr.new (w : World) (l : List Int) (t : TypeId) : Arr (w.alloc (.cells (arr l) t)) w.heap.size t l := heap_alloc_new w _
theorem arr_one (l : List Int) : ∀ u ∈ (arr l).toList, u.oneCell' = true := by
  intro u hu
  simp only [arr, List.mem_map] at hu
  obtain ⟨x, _, rfl⟩ := hu
  rfl
theorem arr_new {w : World} {C : Array Value} {l : List Int} {t b : Nat} (hb : b = w.heap.size) (h : C = arr l) : Arr (w.alloc (.cells C t)) b t l := by subst hb; subst h; exact Arr.new w l t
end Go.Proofs.YtojbehmbeoemgaaDoor

set_option linter.unusedVariables false
set_option linter.unusedSimpArgs false
namespace Go.Proofs.YtojbehmbeoemgaaDoor
open Go.RowKit Lay Mk
theorem Below.drewN {B : Nat} {w w' : World} (h : Below B w w') (n : Nat) : Below B w (w'.drewN n) := ⟨h.os, h.tape, h.output, h.size, h.block⟩
theorem quiet_w {P : Program} {f : FuncId} {args : Array Value} {w : World} {n : Nat} {v : Value} (h : Calls P f args (w.drewN n) fun e w' => e = .returned v ∧ w.drewN n = w') :
    Calls P f args (w.drewN n) fun e w'' => e = .returned v ∧ ∃ m, w'' = w.drewN m := h.mono fun _ _ ⟨he, hm⟩ => ⟨he, n, hm.symm⟩
theorem src_newb {α : Type} [Lay α] [Flat α] (w : World) (y : α) (ok : Flat.ok y) (cs : Array Value) (t : TypeId) (b : Nat) (hb : b = w.heap.size) (h : cs.toList = Flat.cs y) : Src (w.alloc (.cells cs t)) (some ⟨b, 0, none⟩) [y] none_ := by
  subst hb; exact src_new w y ok cs t h
theorem row_lit0b {α : Type} [Lay α] (w : World) (t : TypeId) (b : Nat) (S : Blks) (hb : b = w.heap.size) (ht : t = ty α) (hS : S w.heap.size) : Row (α := α) true (w.alloc (.cells #[] t)) (some ⟨b, 0, none⟩) 0 [] S := by
  subst hb; exact row_lit0 w t S ht hS
theorem ret_slice {A : Option Addr} {n m cap : Nat} (h : n = m) : Ending.returned (.slice A n cap) = .returned (.slice A m cap) := by rw [h]
theorem row_og {α : Type} [Lay α] {w' : World} {A : Option Addr} {cap lo hi : Nat} {xs : List α} {O : Blks} (h : Row true w' A cap xs (fun b => O b ∨ none_ b ∨ (lo ≤ b ∧ b < hi))) (hO : ∀ b, lo ≤ b → O b) : Row true w' A cap xs O :=
  h.mono (fun b x => x.elim id (fun y => y.elim (fun z => z.elim) (fun z => hO b z.1)))
theorem ret_sliceb {A : Option Addr} {n m cap : Nat} {b c : Bool} (h : n = m) (k : b = c) : Ending.returned (.tuple #[.slice A n cap, .bool b]) = .returned (.tuple #[.slice A m cap, .bool c]) := by rw [h, k]
/-- a row's first block, and all new ones -/
def og (g n : Nat) : Blks := fun b => b = g ∨ n ≤ b
theorem Chg.cell {S : Blks} {w w' : World} (h : Chg S w w') {b o : Nat} (hb : b < w.heap.size) (hs : ¬ S b) : w'.cell? ⟨b, o, none⟩ = w.cell? ⟨b, o, none⟩ := World.cell?_of_block (a := ⟨b, o, none⟩) (h.block b hb hs)
theorem row_up {α : Type} [Lay α] {w' : World} {A : Option Addr} {cap B lo : Nat} {xs : List α} {S T : Blks} (h : Row true w' A cap xs (fun b => S b ∨ T b ∨ (lo ≤ b ∧ b < w'.heap.size))) (hS : ∀ b, S b → B ≤ b) (hT : ∀ b, T b → B ≤ b) (hB : B ≤ lo) : Row true w' A cap xs (rng B w'.heap.size) :=
  h.tight.mono (fun b x => ⟨x.1.elim (hS b) (fun y => y.elim (hT b) (fun z => Nat.le_trans hB z.1)), x.2⟩)
theorem rng_ge {B m b : Nat} (h : rng B m b) : B ≤ b := h.1
theorem none_ge {B b : Nat} (h : none_ b) : B ≤ b := h.elim
theorem Chg.up {w w' : World} {B m : Nat} (h : Chg (rng B m) w w') (hB : B ≤ w.heap.size) : Below B w w' := h.to_below hB (fun _ x => x.1)
theorem row_rng {α : Type} [Lay α] {w : World} {A : Option Addr} {cap : Nat} {xs : List α} {B m : Nat} (h : Row true w A cap xs (rng B m)) : Row true w A cap xs (nw B) := h.mono (fun _ x => x.1)
theorem disj_none2 (S : Blks) : disj S none_ := fun _ _ x => x
/-- looking for the first one -/
theorem find_hit {α : Type} {p : α → Bool} {xs : List α} {k : Nat} (h : k < xs.length) (hn : (xs.take k).find? p = none) (hp : p xs[k] = true) : xs.find? p = some xs[k] := by
  have e : xs = xs.take (k + 1) ++ xs.drop (k + 1) := (List.take_append_drop _ _).symm
  have e2 := congrArg (List.find? p) e
  rw [e2, List.find?_append, List.take_succ_eq_append_getElem h, List.find?_append, hn]
  simp [List.find?_cons, hp]
theorem find_next {α : Type} {p : α → Bool} {xs : List α} {k : Nat} (h : k < xs.length) (hn : (xs.take k).find? p = none) (hp : p xs[k] = false) : (xs.take (k + 1)).find? p = none := by
  rw [List.take_succ_eq_append_getElem h, List.find?_append, hn]
  simp [List.find?_cons, hp]
theorem find_all {α : Type} {p : α → Bool} {xs : List α} (hn : (xs.take xs.length).find? p = none) : xs.find? p = none := by rwa [List.take_length] at hn
def foldT {α β : Type} (f : β → α → β) (s : β) (xs : List α) (k : Nat) : β := (xs.take k).foldl f s
theorem foldT_zero {α β : Type} (f : β → α → β) (s : β) (xs : List α) : foldT f s xs 0 = s := rfl
theorem foldT_succ {α β : Type} {f : β → α → β} {s : β} {xs : List α} {k : Nat} (h : k < xs.length) : foldT f s xs (k + 1) = f (foldT f s xs k) xs[k] := by
  unfold foldT; rw [List.take_succ_eq_append_getElem h, List.foldl_append]; rfl
theorem foldT_all {α β : Type} (f : β → α → β) (s : β) (xs : List α) : foldT f s xs xs.length = xs.foldl f s := by unfold foldT; rw [List.take_length]
/-- gather those that pass -/
def gath {α β : Type} (p : α → Bool) (g : α → β) (acc : List β) (x : α) : List β := if p x then acc ++ [g x] else acc
theorem gath_fold {α β : Type} (p : α → Bool) (g : α → β) : ∀ (xs : List α) (acc : List β), xs.foldl (gath p g) acc = acc ++ (xs.filter p).map g
  | [], acc => by simp
  | x :: xs, acc => by
    rw [List.foldl_cons, gath_fold p g xs]
    unfold gath
    by_cases h : p x = true
    · rw [if_pos h]; simp [List.filter_cons, h]
    · rw [if_neg h]; simp [List.filter_cons, h]
theorem gathT_len {α β : Type} (p : α → Bool) (g : α → β) (xs : List α) (k : Nat) : (foldT (gath p g) [] xs k).length ≤ k := by
  unfold foldT; rw [gath_fold]; simp only [List.nil_append, List.length_map]
  have := List.length_filter_le p (xs.take k)
  have := List.length_take_le k xs
  omega
theorem gathT_yes {α β : Type} {p : α → Bool} {g : α → β} {xs : List α} {k : Nat} (h : k < xs.length) (hp : p xs[k] = true) : foldT (gath p g) [] xs (k + 1) = foldT (gath p g) [] xs k ++ [g xs[k]] := by
  rw [foldT_succ h]; unfold gath; rw [if_pos hp]
theorem gathT_no {α β : Type} {p : α → Bool} {g : α → β} {xs : List α} {k : Nat} (h : k < xs.length) (hp : p xs[k] = false) : foldT (gath p g) [] xs (k + 1) = foldT (gath p g) [] xs k := by
  rw [foldT_succ h]; unfold gath; rw [hp]; rfl
/-- a loop that looks at all -/
def allN (n : Nat) (p : Nat → Bool) : Bool := (List.range n).all p
theorem allN_bad {n : Nat} {p : Nat → Bool} {k : Nat} (h : k < n) (hp : p k = false) : allN n p = false := by
  unfold allN
  rw [List.all_eq_false]
  exact ⟨k, by simpa using h, by simp [hp]⟩
theorem allN_end {n : Nat} {p : Nat → Bool} (h : ∀ k, k < n → p k = true) : allN n p = true := by
  unfold allN
  rw [List.all_eq_true]
  intro k hk
  exact h k (by simpa using hk)
theorem allN_get {n : Nat} {p : Nat → Bool} (h : allN n p = true) {k : Nat} (hk : k < n) : p k = true := by
  unfold allN at h
  rw [List.all_eq_true] at h
  exact h k (by simpa using hk)
theorem upto_succ {p : Nat → Bool} {k : Nat} (h : ∀ j, j < k → p j = true) (hk : p k = true) : ∀ j, j < k + 1 → p j = true := fun j hj => by
  by_cases e : j = k
  · subst e; exact hk
  · exact h j (by omega)
theorem upto_zero {p : Nat → Bool} : ∀ j, j < 0 → p j = true := fun j h => absurd h (Nat.not_lt_zero j)
end Go.Proofs.YtojbehmbeoemgaaDoor

set_option linter.unusedVariables false
set_option linter.unusedSimpArgs false
namespace Go.Proofs.YtojbehmbeoemgaaDoor
def inB (n lo hi : Int) : Bool := decide (lo ≤ n ∧ n ≤ hi)
def letterOk (x : Letter) : Bool :=
  inB x.epoch 1 4 && inB x.try_ 1 1000 &&
  (if x.kind = 1 ∨ x.kind = 3 ∨ x.kind = 4 then decide (x.from_ = 0) && inB x.to 1 4 && x.root.toList.isEmpty
   else if x.kind = 2 then decide (x.to = 0) && inB x.from_ 1 4 && ((x.root.size : Int) == 16)
   else if x.kind = 5 then decide (x.to = 0) && inB x.from_ 1 4 && x.root.toList.isEmpty
   else false)
/-- a byte of a name -/
def nmB (n : Nat) : Bool := decide ((97 ≤ n ∧ n ≤ 122) ∨ (48 ≤ n ∧ n ≤ 57) ∨ n = 64 ∨ n = 46)
def nameOk (s : ByteArray) : Bool := decide (∀ j (h : j < s.size), nmB s[j].toNat = true) && inB s.size 1 12
def vlB (n : Nat) : Bool := decide (33 ≤ n ∧ n ≤ 126)
def valueOk (s : ByteArray) : Bool := decide (∀ j (h : j < s.size), vlB s[j].toNat = true) && inB s.size 1 12
theorem all_succ {q : Nat → Bool} {s : ByteArray} {k : Nat} (h : k < s.size) (ha : ∀ j (h : j < s.size), j < k → q s[j].toNat = true) (hk : q s[k].toNat = true) : ∀ j (h : j < s.size), j < k + 1 → q s[j].toNat = true := by
  intro j hj hlt
  by_cases e : j = k
  · subst e; exact hk
  · exact ha j hj (by omega)
theorem nameOk_bad {s : ByteArray} {k : Nat} (h : k < s.size) (hk : nmB s[k].toNat = false) : nameOk s = false := by
  unfold nameOk
  rw [decide_eq_false (by intro ha; rw [ha k h] at hk; cases hk)]
  rfl
theorem nameOk_end {s : ByteArray} {k : Nat} (ha : ∀ j (h : j < s.size), j < k → nmB s[j].toNat = true) (hk : k = s.size ∨ 12 < k) (hks : k ≤ s.size) : nameOk s = inB s.size 1 12 := by
  unfold nameOk
  rcases hk with hk | hk
  · rw [decide_eq_true (fun j h => ha j h (by omega))]; simp
  · have : inB s.size 1 12 = false := by simp [inB]; omega
    rw [this]; simp
theorem valueOk_bad {s : ByteArray} {k : Nat} (h : k < s.size) (hk : vlB s[k].toNat = false) : valueOk s = false := by
  unfold valueOk
  rw [decide_eq_false (by intro ha; rw [ha k h] at hk; cases hk)]
  rfl
theorem valueOk_end {s : ByteArray} {k : Nat} (ha : ∀ j (h : j < s.size), j < k → vlB s[j].toNat = true) (hk : k = s.size ∨ 12 < k) (hks : k ≤ s.size) : valueOk s = inB s.size 1 12 := by
  unfold valueOk
  rcases hk with hk | hk
  · rw [decide_eq_true (fun j h => ha j h (by omega))]; simp
  · have : inB s.size 1 12 = false := by simp [inB]; omega
    rw [this]; simp
def changeOk (u : Change) : Bool := inB u.id 1 99 && nameOk u.name && (u.value.toList.isEmpty || valueOk u.value)
end Go.Proofs.YtojbehmbeoemgaaDoor

set_option linter.unusedVariables false
set_option linter.unusedSimpArgs false
namespace Go.Proofs.YtojbehmbeoemgaaDoor
open Go.RowKit Lay Mk
theorem impl_in (n lo hi : Int) (w : World) : Calls Tryd.prog 125 #[.int .i64 n, .int .i64 lo, .int .i64 hi] w fun e w' => e = .returned (.bool (inB n lo hi)) ∧ w = w' := by
  go_enter Tryd.func125, Tryd.ntmps125
  go_wp2
  all_goals (go_ret; refine ⟨?_, rfl⟩; simp [inB]; try omega)

theorem spec_in (n lo hi : Int) (w : World) : Calls Tryd.prog 50 #[.int .i64 n, .int .i64 lo, .int .i64 hi] w fun e w' => e = .returned (.bool (inB n lo hi)) ∧ w = w' := by
  go_enter Tryd.func50, Tryd.ntmps50
  go_wp2
  all_goals (go_ret; refine ⟨?_, rfl⟩; simp [inB]; try omega)

end Go.Proofs.YtojbehmbeoemgaaDoor

set_option linter.unusedVariables false
set_option linter.unusedSimpArgs false
namespace Go.Proofs.YtojbehmbeoemgaaDoor
open Go.RowKit Lay Mk
theorem or_comm32 (a b : Int) : bits .or .u32 a b = bits .or .u32 b a := by
  unfold bits; simp only [BitVec.or_comm]
/-- x turned to the right; p: two to the power of the places, q: two to that of the others -/
def rotr (p q : Int) (x : Int) : Int := bits .or .u32 (x / p) (x * q % 4294967296)
theorem wrap32_lt (x : Int) : 0 ≤ IntKind.u32.wrap x ∧ IntKind.u32.wrap x < 4294967296 := by rw [IntKind.wrap_u32']; omega
theorem bits32_lt (op : BinOp) (a b : Int) : 0 ≤ bits op .u32 a b ∧ bits op .u32 a b < 4294967296 := by
  unfold bits
  split <;> exact wrap32_lt _
theorem rotr_lt (p q x : Int) : 0 ≤ rotr p q x ∧ rotr p q x < 4294967296 := bits32_lt _ _ _
def turnsAll : List Int := [7, 18, 17, 19, 6, 11, 25, 2, 13, 22]
def rotI (n x : Int) : Int := rotr (2 ^ n.toNat) (2 ^ (32 - n.toNat)) x
theorem rotI_lt (n x : Int) : 0 ≤ rotI n x ∧ rotI n x < 4294967296 := rotr_lt _ _ _
theorem rotI7 (x : Int) : rotI 7 x = rotr 128 33554432 x := by unfold rotI; rfl
theorem rotI18 (x : Int) : rotI 18 x = rotr 262144 16384 x := by unfold rotI; rfl
theorem rotI17 (x : Int) : rotI 17 x = rotr 131072 32768 x := by unfold rotI; rfl
theorem rotI19 (x : Int) : rotI 19 x = rotr 524288 8192 x := by unfold rotI; rfl
theorem rotI6 (x : Int) : rotI 6 x = rotr 64 67108864 x := by unfold rotI; rfl
theorem rotI11 (x : Int) : rotI 11 x = rotr 2048 2097152 x := by unfold rotI; rfl
theorem rotI25 (x : Int) : rotI 25 x = rotr 33554432 128 x := by unfold rotI; rfl
theorem rotI2 (x : Int) : rotI 2 x = rotr 4 1073741824 x := by unfold rotI; rfl
theorem rotI13 (x : Int) : rotI 13 x = rotr 8192 524288 x := by unfold rotI; rfl
theorem rotI22 (x : Int) : rotI 22 x = rotr 4194304 1024 x := by unfold rotI; rfl
theorem spec_turn7 (x : Int) (w : World) (h0 : 0 ≤ x) (h1 : x < 4294967296) : Calls Tryd.prog 154 #[.int .u32 x, .int .u64 7] w fun e w' => e = .returned (.int .u32 (rotr 128 33554432 x)) ∧ w = w' := by
  go_enter Tryd.func154, Tryd.ntmps154
  go_wp2
  go_ret
  exact ⟨rfl, rfl⟩
theorem rot7 (x : Int) (w : World) (h0 : 0 ≤ x) (h1 : x < 4294967296) : Calls Tryd.prog 160 #[.int .u32 x, .int .i64 (-7)] w fun e w' => e = .returned (.int .u32 (rotr 128 33554432 x)) ∧ w = w' := by
  have k7 : bits .and .u64 (IntKind.u64.wrap (-7)) 31 = 25 := by decide
  go_enter Tryd.func160, Tryd.ntmps160
  go_wp2
  go_ret
  exact ⟨by unfold rotr; rw [or_comm32]; rfl, rfl⟩
theorem impl_turn7 (x : Int) (w : World) (h0 : 0 ≤ x) (h1 : x < 4294967296) : Calls Tryd.prog 159 #[.int .u32 x, .int .i64 7] w fun e w' => e = .returned (.int .u32 (rotr 128 33554432 x)) ∧ w = w' := by
  go_enter Tryd.func159, Tryd.ntmps159
  go_wp2_with (go_at_call 160; refine (rot7 _ _ h0 h1).mono ?_; rintro e w' ⟨rfl, rfl⟩)
  go_ret
  exact ⟨rfl, rfl⟩
theorem spec_turn18 (x : Int) (w : World) (h0 : 0 ≤ x) (h1 : x < 4294967296) : Calls Tryd.prog 154 #[.int .u32 x, .int .u64 18] w fun e w' => e = .returned (.int .u32 (rotr 262144 16384 x)) ∧ w = w' := by
  go_enter Tryd.func154, Tryd.ntmps154
  go_wp2
  go_ret
  exact ⟨rfl, rfl⟩
theorem rot18 (x : Int) (w : World) (h0 : 0 ≤ x) (h1 : x < 4294967296) : Calls Tryd.prog 160 #[.int .u32 x, .int .i64 (-18)] w fun e w' => e = .returned (.int .u32 (rotr 262144 16384 x)) ∧ w = w' := by
  have k7 : bits .and .u64 (IntKind.u64.wrap (-18)) 31 = 14 := by decide
  go_enter Tryd.func160, Tryd.ntmps160
  go_wp2
  go_ret
  exact ⟨by unfold rotr; rw [or_comm32]; rfl, rfl⟩
theorem impl_turn18 (x : Int) (w : World) (h0 : 0 ≤ x) (h1 : x < 4294967296) : Calls Tryd.prog 159 #[.int .u32 x, .int .i64 18] w fun e w' => e = .returned (.int .u32 (rotr 262144 16384 x)) ∧ w = w' := by
  go_enter Tryd.func159, Tryd.ntmps159
  go_wp2_with (go_at_call 160; refine (rot18 _ _ h0 h1).mono ?_; rintro e w' ⟨rfl, rfl⟩)
  go_ret
  exact ⟨rfl, rfl⟩
theorem spec_turn17 (x : Int) (w : World) (h0 : 0 ≤ x) (h1 : x < 4294967296) : Calls Tryd.prog 154 #[.int .u32 x, .int .u64 17] w fun e w' => e = .returned (.int .u32 (rotr 131072 32768 x)) ∧ w = w' := by
  go_enter Tryd.func154, Tryd.ntmps154
  go_wp2
  go_ret
  exact ⟨rfl, rfl⟩
theorem rot17 (x : Int) (w : World) (h0 : 0 ≤ x) (h1 : x < 4294967296) : Calls Tryd.prog 160 #[.int .u32 x, .int .i64 (-17)] w fun e w' => e = .returned (.int .u32 (rotr 131072 32768 x)) ∧ w = w' := by
  have k7 : bits .and .u64 (IntKind.u64.wrap (-17)) 31 = 15 := by decide
  go_enter Tryd.func160, Tryd.ntmps160
  go_wp2
  go_ret
  exact ⟨by unfold rotr; rw [or_comm32]; rfl, rfl⟩
theorem impl_turn17 (x : Int) (w : World) (h0 : 0 ≤ x) (h1 : x < 4294967296) : Calls Tryd.prog 159 #[.int .u32 x, .int .i64 17] w fun e w' => e = .returned (.int .u32 (rotr 131072 32768 x)) ∧ w = w' := by
  go_enter Tryd.func159, Tryd.ntmps159
  go_wp2_with (go_at_call 160; refine (rot17 _ _ h0 h1).mono ?_; rintro e w' ⟨rfl, rfl⟩)
  go_ret
  exact ⟨rfl, rfl⟩
theorem spec_turn19 (x : Int) (w : World) (h0 : 0 ≤ x) (h1 : x < 4294967296) : Calls Tryd.prog 154 #[.int .u32 x, .int .u64 19] w fun e w' => e = .returned (.int .u32 (rotr 524288 8192 x)) ∧ w = w' := by
  go_enter Tryd.func154, Tryd.ntmps154
  go_wp2
  go_ret
  exact ⟨rfl, rfl⟩
theorem rot19 (x : Int) (w : World) (h0 : 0 ≤ x) (h1 : x < 4294967296) : Calls Tryd.prog 160 #[.int .u32 x, .int .i64 (-19)] w fun e w' => e = .returned (.int .u32 (rotr 524288 8192 x)) ∧ w = w' := by
  have k7 : bits .and .u64 (IntKind.u64.wrap (-19)) 31 = 13 := by decide
  go_enter Tryd.func160, Tryd.ntmps160
  go_wp2
  go_ret
  exact ⟨by unfold rotr; rw [or_comm32]; rfl, rfl⟩
theorem impl_turn19 (x : Int) (w : World) (h0 : 0 ≤ x) (h1 : x < 4294967296) : Calls Tryd.prog 159 #[.int .u32 x, .int .i64 19] w fun e w' => e = .returned (.int .u32 (rotr 524288 8192 x)) ∧ w = w' := by
  go_enter Tryd.func159, Tryd.ntmps159
  go_wp2_with (go_at_call 160; refine (rot19 _ _ h0 h1).mono ?_; rintro e w' ⟨rfl, rfl⟩)
  go_ret
  exact ⟨rfl, rfl⟩
theorem spec_turn6 (x : Int) (w : World) (h0 : 0 ≤ x) (h1 : x < 4294967296) : Calls Tryd.prog 154 #[.int .u32 x, .int .u64 6] w fun e w' => e = .returned (.int .u32 (rotr 64 67108864 x)) ∧ w = w' := by
  go_enter Tryd.func154, Tryd.ntmps154
  go_wp2
  go_ret
  exact ⟨rfl, rfl⟩
theorem rot6 (x : Int) (w : World) (h0 : 0 ≤ x) (h1 : x < 4294967296) : Calls Tryd.prog 160 #[.int .u32 x, .int .i64 (-6)] w fun e w' => e = .returned (.int .u32 (rotr 64 67108864 x)) ∧ w = w' := by
  have k7 : bits .and .u64 (IntKind.u64.wrap (-6)) 31 = 26 := by decide
  go_enter Tryd.func160, Tryd.ntmps160
  go_wp2
  go_ret
  exact ⟨by unfold rotr; rw [or_comm32]; rfl, rfl⟩
theorem impl_turn6 (x : Int) (w : World) (h0 : 0 ≤ x) (h1 : x < 4294967296) : Calls Tryd.prog 159 #[.int .u32 x, .int .i64 6] w fun e w' => e = .returned (.int .u32 (rotr 64 67108864 x)) ∧ w = w' := by
  go_enter Tryd.func159, Tryd.ntmps159
  go_wp2_with (go_at_call 160; refine (rot6 _ _ h0 h1).mono ?_; rintro e w' ⟨rfl, rfl⟩)
  go_ret
  exact ⟨rfl, rfl⟩
theorem spec_turn11 (x : Int) (w : World) (h0 : 0 ≤ x) (h1 : x < 4294967296) : Calls Tryd.prog 154 #[.int .u32 x, .int .u64 11] w fun e w' => e = .returned (.int .u32 (rotr 2048 2097152 x)) ∧ w = w' := by
  go_enter Tryd.func154, Tryd.ntmps154
  go_wp2
  go_ret
  exact ⟨rfl, rfl⟩
theorem rot11 (x : Int) (w : World) (h0 : 0 ≤ x) (h1 : x < 4294967296) : Calls Tryd.prog 160 #[.int .u32 x, .int .i64 (-11)] w fun e w' => e = .returned (.int .u32 (rotr 2048 2097152 x)) ∧ w = w' := by
  have k7 : bits .and .u64 (IntKind.u64.wrap (-11)) 31 = 21 := by decide
  go_enter Tryd.func160, Tryd.ntmps160
  go_wp2
  go_ret
  exact ⟨by unfold rotr; rw [or_comm32]; rfl, rfl⟩
theorem impl_turn11 (x : Int) (w : World) (h0 : 0 ≤ x) (h1 : x < 4294967296) : Calls Tryd.prog 159 #[.int .u32 x, .int .i64 11] w fun e w' => e = .returned (.int .u32 (rotr 2048 2097152 x)) ∧ w = w' := by
  go_enter Tryd.func159, Tryd.ntmps159
  go_wp2_with (go_at_call 160; refine (rot11 _ _ h0 h1).mono ?_; rintro e w' ⟨rfl, rfl⟩)
  go_ret
  exact ⟨rfl, rfl⟩
theorem spec_turn25 (x : Int) (w : World) (h0 : 0 ≤ x) (h1 : x < 4294967296) : Calls Tryd.prog 154 #[.int .u32 x, .int .u64 25] w fun e w' => e = .returned (.int .u32 (rotr 33554432 128 x)) ∧ w = w' := by
  go_enter Tryd.func154, Tryd.ntmps154
  go_wp2
  go_ret
  exact ⟨rfl, rfl⟩
theorem rot25 (x : Int) (w : World) (h0 : 0 ≤ x) (h1 : x < 4294967296) : Calls Tryd.prog 160 #[.int .u32 x, .int .i64 (-25)] w fun e w' => e = .returned (.int .u32 (rotr 33554432 128 x)) ∧ w = w' := by
  have k7 : bits .and .u64 (IntKind.u64.wrap (-25)) 31 = 7 := by decide
  go_enter Tryd.func160, Tryd.ntmps160
  go_wp2
  go_ret
  exact ⟨by unfold rotr; rw [or_comm32]; rfl, rfl⟩
theorem impl_turn25 (x : Int) (w : World) (h0 : 0 ≤ x) (h1 : x < 4294967296) : Calls Tryd.prog 159 #[.int .u32 x, .int .i64 25] w fun e w' => e = .returned (.int .u32 (rotr 33554432 128 x)) ∧ w = w' := by
  go_enter Tryd.func159, Tryd.ntmps159
  go_wp2_with (go_at_call 160; refine (rot25 _ _ h0 h1).mono ?_; rintro e w' ⟨rfl, rfl⟩)
  go_ret
  exact ⟨rfl, rfl⟩
theorem spec_turn2 (x : Int) (w : World) (h0 : 0 ≤ x) (h1 : x < 4294967296) : Calls Tryd.prog 154 #[.int .u32 x, .int .u64 2] w fun e w' => e = .returned (.int .u32 (rotr 4 1073741824 x)) ∧ w = w' := by
  go_enter Tryd.func154, Tryd.ntmps154
  go_wp2
  go_ret
  exact ⟨rfl, rfl⟩
theorem rot2 (x : Int) (w : World) (h0 : 0 ≤ x) (h1 : x < 4294967296) : Calls Tryd.prog 160 #[.int .u32 x, .int .i64 (-2)] w fun e w' => e = .returned (.int .u32 (rotr 4 1073741824 x)) ∧ w = w' := by
  have k7 : bits .and .u64 (IntKind.u64.wrap (-2)) 31 = 30 := by decide
  go_enter Tryd.func160, Tryd.ntmps160
  go_wp2
  go_ret
  exact ⟨by unfold rotr; rw [or_comm32]; rfl, rfl⟩
theorem impl_turn2 (x : Int) (w : World) (h0 : 0 ≤ x) (h1 : x < 4294967296) : Calls Tryd.prog 159 #[.int .u32 x, .int .i64 2] w fun e w' => e = .returned (.int .u32 (rotr 4 1073741824 x)) ∧ w = w' := by
  go_enter Tryd.func159, Tryd.ntmps159
  go_wp2_with (go_at_call 160; refine (rot2 _ _ h0 h1).mono ?_; rintro e w' ⟨rfl, rfl⟩)
  go_ret
  exact ⟨rfl, rfl⟩
theorem spec_turn13 (x : Int) (w : World) (h0 : 0 ≤ x) (h1 : x < 4294967296) : Calls Tryd.prog 154 #[.int .u32 x, .int .u64 13] w fun e w' => e = .returned (.int .u32 (rotr 8192 524288 x)) ∧ w = w' := by
  go_enter Tryd.func154, Tryd.ntmps154
  go_wp2
  go_ret
  exact ⟨rfl, rfl⟩
theorem rot13 (x : Int) (w : World) (h0 : 0 ≤ x) (h1 : x < 4294967296) : Calls Tryd.prog 160 #[.int .u32 x, .int .i64 (-13)] w fun e w' => e = .returned (.int .u32 (rotr 8192 524288 x)) ∧ w = w' := by
  have k7 : bits .and .u64 (IntKind.u64.wrap (-13)) 31 = 19 := by decide
  go_enter Tryd.func160, Tryd.ntmps160
  go_wp2
  go_ret
  exact ⟨by unfold rotr; rw [or_comm32]; rfl, rfl⟩
theorem impl_turn13 (x : Int) (w : World) (h0 : 0 ≤ x) (h1 : x < 4294967296) : Calls Tryd.prog 159 #[.int .u32 x, .int .i64 13] w fun e w' => e = .returned (.int .u32 (rotr 8192 524288 x)) ∧ w = w' := by
  go_enter Tryd.func159, Tryd.ntmps159
  go_wp2_with (go_at_call 160; refine (rot13 _ _ h0 h1).mono ?_; rintro e w' ⟨rfl, rfl⟩)
  go_ret
  exact ⟨rfl, rfl⟩
theorem spec_turn22 (x : Int) (w : World) (h0 : 0 ≤ x) (h1 : x < 4294967296) : Calls Tryd.prog 154 #[.int .u32 x, .int .u64 22] w fun e w' => e = .returned (.int .u32 (rotr 4194304 1024 x)) ∧ w = w' := by
  go_enter Tryd.func154, Tryd.ntmps154
  go_wp2
  go_ret
  exact ⟨rfl, rfl⟩
theorem rot22 (x : Int) (w : World) (h0 : 0 ≤ x) (h1 : x < 4294967296) : Calls Tryd.prog 160 #[.int .u32 x, .int .i64 (-22)] w fun e w' => e = .returned (.int .u32 (rotr 4194304 1024 x)) ∧ w = w' := by
  have k7 : bits .and .u64 (IntKind.u64.wrap (-22)) 31 = 10 := by decide
  go_enter Tryd.func160, Tryd.ntmps160
  go_wp2
  go_ret
  exact ⟨by unfold rotr; rw [or_comm32]; rfl, rfl⟩
theorem impl_turn22 (x : Int) (w : World) (h0 : 0 ≤ x) (h1 : x < 4294967296) : Calls Tryd.prog 159 #[.int .u32 x, .int .i64 22] w fun e w' => e = .returned (.int .u32 (rotr 4194304 1024 x)) ∧ w = w' := by
  go_enter Tryd.func159, Tryd.ntmps159
  go_wp2_with (go_at_call 160; refine (rot22 _ _ h0 h1).mono ?_; rintro e w' ⟨rfl, rfl⟩)
  go_ret
  exact ⟨rfl, rfl⟩
theorem spec_turn (n : Int) (x : Int) (w : World) (hn : n ∈ turnsAll) (h0 : 0 ≤ x) (h1 : x < 4294967296) : Calls Tryd.prog 154 #[.int .u32 x, .int .u64 n] w fun e w' => e = .returned (.int .u32 (rotI n x)) ∧ w = w' := by
  simp only [turnsAll, List.mem_cons, List.mem_nil_iff, or_false] at hn
  rcases hn with rfl | rfl | rfl | rfl | rfl | rfl | rfl | rfl | rfl | rfl
  · rw [rotI7]; exact spec_turn7 x w h0 h1
  · rw [rotI18]; exact spec_turn18 x w h0 h1
  · rw [rotI17]; exact spec_turn17 x w h0 h1
  · rw [rotI19]; exact spec_turn19 x w h0 h1
  · rw [rotI6]; exact spec_turn6 x w h0 h1
  · rw [rotI11]; exact spec_turn11 x w h0 h1
  · rw [rotI25]; exact spec_turn25 x w h0 h1
  · rw [rotI2]; exact spec_turn2 x w h0 h1
  · rw [rotI13]; exact spec_turn13 x w h0 h1
  · rw [rotI22]; exact spec_turn22 x w h0 h1
theorem impl_turn (n : Int) (x : Int) (w : World) (hn : n ∈ turnsAll) (h0 : 0 ≤ x) (h1 : x < 4294967296) : Calls Tryd.prog 159 #[.int .u32 x, .int .i64 n] w fun e w' => e = .returned (.int .u32 (rotI n x)) ∧ w = w' := by
  simp only [turnsAll, List.mem_cons, List.mem_nil_iff, or_false] at hn
  rcases hn with rfl | rfl | rfl | rfl | rfl | rfl | rfl | rfl | rfl | rfl
  · rw [rotI7]; exact impl_turn7 x w h0 h1
  · rw [rotI18]; exact impl_turn18 x w h0 h1
  · rw [rotI17]; exact impl_turn17 x w h0 h1
  · rw [rotI19]; exact impl_turn19 x w h0 h1
  · rw [rotI6]; exact impl_turn6 x w h0 h1
  · rw [rotI11]; exact impl_turn11 x w h0 h1
  · rw [rotI25]; exact impl_turn25 x w h0 h1
  · rw [rotI2]; exact impl_turn2 x w h0 h1
  · rw [rotI13]; exact impl_turn13 x w h0 h1
  · rw [rotI22]; exact impl_turn22 x w h0 h1
end Go.Proofs.YtojbehmbeoemgaaDoor

set_option linter.unusedVariables false
set_option linter.unusedSimpArgs false
namespace Go.Proofs.YtojbehmbeoemgaaDoor
open Go.RowKit Lay Mk
structure S8 where
  (a b c d e f g h : Int)
def S8.l (s : S8) : List Int := [s.a, s.b, s.c, s.d, s.e, s.f, s.g, s.h]
def W32 (x : Int) : Prop := 0 ≤ x ∧ x < 4294967296
structure S8.Ok (s : S8) : Prop where
  a : W32 s.a
  b : W32 s.b
  c : W32 s.c
  d : W32 s.d
  e : W32 s.e
  f : W32 s.f
  g : W32 s.g
  h : W32 s.h
def xr (a b : Int) : Int := bits .xor .u32 a b
def an (a b : Int) : Int := bits .and .u32 a b
def ad (a b : Int) : Int := (a + b) % 4294967296
theorem ad_lt (a b : Int) : W32 (ad a b) := by unfold W32 ad; omega
theorem xr_lt (a b : Int) : W32 (xr a b) := bits32_lt _ _ _
theorem an_lt (a b : Int) : W32 (an a b) := bits32_lt _ _ _
theorem rotr_w (p q x : Int) : W32 (rotr p q x) := rotr_lt p q x
def sg0 (x : Int) : Int := xr (xr (rotI 7 x) (rotI 18 x)) (x / 8)
def sg1 (x : Int) : Int := xr (xr (rotI 17 x) (rotI 19 x)) (x / 1024)
def up0 (x : Int) : Int := xr (xr (rotI 2 x) (rotI 13 x)) (rotI 22 x)
def up1 (x : Int) : Int := xr (xr (rotI 6 x) (rotI 11 x)) (rotI 25 x)
def chs (e f g : Int) : Int := xr (an e f) (an (xr e 4294967295) g)
def maj (a b c : Int) : Int := xr (xr (an a b) (an a c)) (an b c)
def b32 (b : ByteArray) (i : Nat) : Int := (b.data.getD i 0).toNat
def wordOf (a b c d : Int) : Int := bits .or .u32 (bits .or .u32 (bits .or .u32 (IntKind.u32.wrap (IntKind.u32.wrap a * 16777216)) (IntKind.u32.wrap (IntKind.u32.wrap b * 65536))) (IntKind.u32.wrap (IntKind.u32.wrap c * 256))) (IntKind.u32.wrap d)
def word (b : ByteArray) (i : Nat) : Int := wordOf (b32 b (4 * i)) (b32 b (4 * i + 1)) (b32 b (4 * i + 2)) (b32 b (4 * i + 3))
def wsum (a b c d : Int) : Int := (a + b + c + d) % 4294967296
theorem wsum_lt (a b c d : Int) : W32 (wsum a b c d) := by unfold W32 wsum; omega
def wnext (l : List Int) (i : Nat) : Int := wsum (l.getD (i - 16) 0) (sg0 (l.getD (i - 15) 0)) (l.getD (i - 7) 0) (sg1 (l.getD (i - 2) 0))
def sch (b : ByteArray) : Nat → List Int
  | 0 => []
  | i + 1 => sch b i ++ [if i < 16 then word b i else wnext (sch b i) i]
def tmpT (s : S8) (k w : Int) : Int := s.h + up1 s.e + chs s.e s.f s.g + k + w
def tmpU (s : S8) : Int := up0 s.a + maj s.a s.b s.c
def rnd (s : S8) (k w : Int) : S8 := ⟨ad (tmpT s k w) (tmpU s), s.a, s.b, s.c, ad s.d (tmpT s k w), s.e, s.f, s.g⟩
def shaKeys : List Int := [1116352408, 1899447441, 3049323471, 3921009573, 961987163, 1508970993, 2453635748, 2870763221, 3624381080, 310598401, 607225278, 1426881987, 1925078388, 2162078206, 2614888103, 3248222580, 3835390401, 4022224774, 264347078, 604807628, 770255983, 1249150122, 1555081692, 1996064986, 2554220882, 2821834349, 2952996808, 3210313671, 3336571891, 3584528711, 113926993, 338241895, 666307205, 773529912, 1294757372, 1396182291, 1695183700, 1986661051, 2177026350, 2456956037, 2730485921, 2820302411, 3259730800, 3345764771, 3516065817, 3600352804, 4094571909, 275423344, 430227734, 506948616, 659060556, 883997877, 958139571, 1322822218, 1537002063, 1747873779, 1955562222, 2024104815, 2227730452, 2361852424, 2428436474, 2756734187, 3204031479, 3329325298]
def shaFirst : S8 := ⟨1779033703, 3144134277, 1013904242, 2773480762, 1359893119, 2600822924, 528734635, 1541459225⟩
def rounds (s : S8) (ws : List Int) : Nat → S8
  | 0 => s
  | i + 1 => rnd (rounds s ws i) (shaKeys.getD i 0) (ws.getD i 0)
def adds (s t : S8) : S8 := ⟨ad s.a t.a, ad s.b t.b, ad s.c t.c, ad s.d t.d, ad s.e t.e, ad s.f t.f, ad s.g t.g, ad s.h t.h⟩
def comp (s : S8) (b : ByteArray) : S8 := adds s (rounds s (sch b 64) 64)
theorem adds_ok (s t : S8) : (adds s t).Ok := ⟨ad_lt _ _, ad_lt _ _, ad_lt _ _, ad_lt _ _, ad_lt _ _, ad_lt _ _, ad_lt _ _, ad_lt _ _⟩
theorem comp_ok (s : S8) (b : ByteArray) : (comp s b).Ok := adds_ok _ _
theorem first_ok : shaFirst.Ok := by constructor <;> (unfold W32 shaFirst; dsimp only; omega)
theorem rnd_ok {s : S8} (h : s.Ok) (k w : Int) : (rnd s k w).Ok := ⟨ad_lt _ _, h.a, h.b, h.c, ad_lt _ _, h.e, h.f, h.g⟩
theorem rounds_ok {s : S8} (h : s.Ok) (ws : List Int) : ∀ i, (rounds s ws i).Ok
  | 0 => h
  | i + 1 => rnd_ok (rounds_ok h ws i) _ _
theorem sch_len (b : ByteArray) : ∀ i, (sch b i).length = i
  | 0 => rfl
  | i + 1 => by simp [sch, sch_len b i]
theorem wnext_lt (l : List Int) (i : Nat) : W32 (wnext l i) := wsum_lt _ _ _ _
theorem word_lt (b : ByteArray) (i : Nat) : W32 (word b i) := by unfold word wordOf; exact bits32_lt _ _ _
theorem sch_lt (b : ByteArray) : ∀ i, ∀ x ∈ sch b i, W32 x
  | 0 => by simp [sch]
  | i + 1 => by
    intro x hx
    rcases List.mem_append.1 hx with hx | hx
    · exact sch_lt b i x hx
    · have hx : x = if i < 16 then word b i else wnext (sch b i) i := by simpa using hx
      subst hx
      split
      · exact word_lt _ _
      · exact wnext_lt _ _
theorem keys_len : shaKeys.length = 64 := rfl
theorem keys_lt : ∀ i, i < 64 → W32 (shaKeys.getD i 0) := by
  have : ∀ x ∈ shaKeys, W32 x := by unfold shaKeys W32; simp
  intro i hi
  rw [List.getD_eq_getElem?_getD, List.getElem?_eq_getElem (by rw [keys_len]; exact hi)]
  exact this _ (List.getElem_mem _)
/-- the words so far, the others still zero -/
def padz (l : List Int) (n : Nat) : List Int := l ++ List.replicate (n - l.length) 0
theorem padz_len {l : List Int} {n : Nat} (h : l.length ≤ n) : (padz l n).length = n := by simp [padz]; omega
theorem padz_get {l : List Int} {n i : Nat} (h : i < l.length) : (padz l n).getD i 0 = l.getD i 0 := by
  simp [padz, List.getD_eq_getElem?_getD, List.getElem?_append_left h]
theorem padz_set {l : List Int} {n : Nat} (h : l.length < n) (x : Int) : (padz l n).set l.length x = padz (l ++ [x]) n := by
  unfold padz
  rw [List.set_append_right _ _ (Nat.le_refl _), Nat.sub_self]
  obtain ⟨m, hm⟩ : ∃ m, n - l.length = m + 1 := ⟨n - l.length - 1, by omega⟩
  rw [hm, List.replicate_succ, List.set_cons_zero]
  simp only [List.append_assoc, List.cons_append, List.nil_append, List.length_append, List.length_cons, List.length_nil]
  rw [show n - (l.length + (0 + 1)) = m by omega]
theorem sch_put (b : ByteArray) {k : Nat} (hk : k < 64) (x : Int) : (padz (sch b k) 64).set k x = padz (sch b k ++ [x]) 64 := by
  have := padz_set (l := sch b k) (n := 64) (by rw [sch_len]; exact hk) x
  rwa [sch_len] at this
theorem sch_low (b : ByteArray) {k : Nat} (hk : k < 16) : sch b (k + 1) = sch b k ++ [word b k] := by simp only [sch, hk, if_true]
theorem sch_high (b : ByteArray) {k : Nat} (hk : ¬ k < 16) : sch b (k + 1) = sch b k ++ [wnext (sch b k) k] := by simp only [sch, hk, if_false]
theorem b32_at {b : ByteArray} {i : Nat} (h : i < b.size) : (b[i].toNat : Int) = b32 b i := by
  have : b.data.getD i 0 = b[i] := by unfold Array.getD; rw [dif_pos (show i < b.data.size from h)]; rfl
  unfold b32; rw [this]
theorem word_at {b : ByteArray} {k : Nat} (h : 4 * k + 3 < b.size) : wordOf b[4 * k].toNat b[4 * k + 1].toNat b[4 * k + 2].toNat b[4 * k + 3].toNat = word b k := by
  rw [b32_at, b32_at, b32_at, b32_at]; rfl
theorem getD_get {l : List Int} {i : Nat} (h : i < l.length) : l[i] = l.getD i 0 := by rw [List.getD_eq_getElem?_getD, List.getElem?_eq_getElem h]; rfl
/-- the sums up to k, the others as they were -/
def addk (s r : S8) (k : Nat) : List Int := (adds s r).l.take k ++ s.l.drop k
theorem addk_len (s r : S8) (k : Nat) : (addk s r k).length = 8 := by simp [addk, S8.l]; omega
theorem addk_all (s r : S8) : addk s r 8 = (adds s r).l := rfl
theorem addk_get {s r : S8} {k : Nat} (h : k < 8) : (addk s r k).getD k 0 = s.l.getD k 0 := by
  rcases (show k = 0 ∨ k = 1 ∨ k = 2 ∨ k = 3 ∨ k = 4 ∨ k = 5 ∨ k = 6 ∨ k = 7 by omega) with rfl | rfl | rfl | rfl | rfl | rfl | rfl | rfl <;> rfl
theorem addk_set {s r : S8} {k : Nat} (h : k < 8) : (addk s r k).set k ((s.l.getD k 0 + r.l.getD k 0) % 4294967296) = addk s r (k + 1) := by
  rcases (show k = 0 ∨ k = 1 ∨ k = 2 ∨ k = 3 ∨ k = 4 ∨ k = 5 ∨ k = 6 ∨ k = 7 by omega) with rfl | rfl | rfl | rfl | rfl | rfl | rfl | rfl <;> rfl
end Go.Proofs.YtojbehmbeoemgaaDoor

set_option linter.unusedVariables false
set_option linter.unusedSimpArgs false
namespace Go.Proofs.YtojbehmbeoemgaaDoor
open Go.RowKit Lay Mk
/-- the program's tables as its text lays them -/
def Tabs (w : World) : Prop := (∀ i, i < 64 → w.cell? ⟨1, i, none⟩ = some (.int .u32 (shaKeys.getD i 0))) ∧ (∀ i, i < 8 → w.cell? ⟨0, i, none⟩ = some (.int .u32 (shaFirst.l.getD i 0)))
theorem quiet_add_left {P : Program} {f : FuncId} {args : Array Value} {w : World} {a n : Nat} {v : Value}
    (h : Calls P f args (w.drewN (a + n)) fun e w' => e = .returned v ∧ w.drewN (a + n) = w') :
    Calls P f args (w.drewN (a + n)) fun e w'' => e = .returned v ∧ ∃ m, w'' = w.drewN (a + m) :=
  h.mono fun _ _ ⟨he, hm⟩ => ⟨he, n, hm.symm⟩
theorem Arr.setO8 {w : World} {b V t : Nat} {l : List Int} (h : Arr w b t l) (hb : b ≠ V) (x0 x1 x2 x3 x4 x5 x6 x7 : Value) : Arr ((((((((w.setCell ⟨V, 0, none⟩ x0).setCell ⟨V, 1, none⟩ x1).setCell ⟨V, 2, none⟩ x2).setCell ⟨V, 3, none⟩ x3).setCell ⟨V, 4, none⟩ x4).setCell ⟨V, 5, none⟩ x5).setCell ⟨V, 6, none⟩ x6).setCell ⟨V, 7, none⟩ x7) b t l :=
  Arr.setO (Arr.setO (Arr.setO (Arr.setO (Arr.setO (Arr.setO (Arr.setO (Arr.setO h hb _) hb _) hb _) hb _) hb _) hb _) hb _) hb _
theorem Arr.set8 {w : World} {V t : Nat} {a b c d e f g h : Int} (H : Arr w V t [a, b, c, d, e, f, g, h]) (x0 x1 x2 x3 x4 x5 x6 x7 : Int) : Arr ((((((((w.setCell ⟨V, 0, none⟩ (.int .u32 x0)).setCell ⟨V, 1, none⟩ (.int .u32 x1)).setCell ⟨V, 2, none⟩ (.int .u32 x2)).setCell ⟨V, 3, none⟩ (.int .u32 x3)).setCell ⟨V, 4, none⟩ (.int .u32 x4)).setCell ⟨V, 5, none⟩ (.int .u32 x5)).setCell ⟨V, 6, none⟩ (.int .u32 x6)).setCell ⟨V, 7, none⟩ (.int .u32 x7)) V t [x0, x1, x2, x3, x4, x5, x6, x7] :=
  ((((((((H.set 0 x0).set 1 x1).set 2 x2).set 3 x3).set 4 x4).set 5 x5).set 6 x6).set 7 x7)
theorem Below.set8 {a w : World} {B V : Nat} (h : Below B a w) (hb : B ≤ V) (x0 x1 x2 x3 x4 x5 x6 x7 : Value) : Below B a ((((((((w.setCell ⟨V, 0, none⟩ x0).setCell ⟨V, 1, none⟩ x1).setCell ⟨V, 2, none⟩ x2).setCell ⟨V, 3, none⟩ x3).setCell ⟨V, 4, none⟩ x4).setCell ⟨V, 5, none⟩ x5).setCell ⟨V, 6, none⟩ x6).setCell ⟨V, 7, none⟩ x7) :=
  (((((((h.setCell hb _).setCell hb _).setCell hb _).setCell hb _).setCell hb _).setCell hb _).setCell hb _).setCell hb _
theorem max32 (x : Int) : bits .xor .u32 IntKind.u32.max x = bits .xor .u32 x 4294967295 := by
  show bits .xor .u32 4294967295 x = _
  unfold bits; simp only [BitVec.xor_comm]
theorem still_of {P : Program} {f : FuncId} {args : Array Value} {w : World} {v : Value} (h : Calls P f args w fun e w' => e = .returned v ∧ w = w') : Calls P f args w fun e w'' => e = .returned v ∧ w'' = w := h.mono fun _ _ ⟨he, hm⟩ => ⟨he, hm.symm⟩
theorem Tabs.later {w w' : World} (h : Tabs w) (hb : Below w.heap.size w w') : Tabs w' :=
  ⟨fun i hi => (hb.cell (p := ⟨_, i, none⟩) (block_lt_of_cell (a := ⟨_, i, none⟩) (h.1 i hi))).trans (h.1 i hi), fun i hi => (hb.cell (p := ⟨_, i, none⟩) (block_lt_of_cell (a := ⟨_, i, none⟩) (h.2 i hi))).trans (h.2 i hi)⟩
theorem Arr.at_ {w : World} {b t : Nat} {l : List Int} (h : Arr w b t l) {i : Nat} (hi : i < l.length) : w.cell? ⟨b, i, none⟩ = some (.int .u32 (l.getD i 0)) := by rw [← getD_get hi]; exact h.cell hi
theorem sch_w (b : ByteArray) {k i : Nat} (h : i < k) : W32 ((sch b k).getD i 0) := by
  rw [← getD_get (by rw [sch_len]; exact h)]
  exact sch_lt b k _ (List.getElem_mem _)
theorem Arr.word {w : World} {b t k i : Nat} {blk : ByteArray} (h : Arr w b t (padz (sch blk k) 64)) (hk : k ≤ 64) (hi : i < k) : ∃ x, (sch blk k).getD i 0 = x ∧ W32 x ∧ w.cell? ⟨b, i, none⟩ = some (.int .u32 x) := by
  refine ⟨_, rfl, sch_w blk hi, ?_⟩
  have := h.at_ (i := i) (by rw [padz_len (by rw [sch_len]; omega)]; omega)
  rw [padz_get (by rw [sch_len]; exact hi)] at this
  exact this
theorem S8.arr (s : S8) : arr s.l = #[.int .u32 s.a, .int .u32 s.b, .int .u32 s.c, .int .u32 s.d, .int .u32 s.e, .int .u32 s.f, .int .u32 s.g, .int .u32 s.h] := rfl
theorem Arr.set8r {w : World} {V t : Nat} {a b c d e f g h : Int} (H : Arr w V t [a, b, c, d, e, f, g, h]) (x0 x1 x2 x3 x4 x5 x6 x7 : Int) : Arr ((((((((w.setCell ⟨V, 7, none⟩ (.int .u32 x7)).setCell ⟨V, 6, none⟩ (.int .u32 x6)).setCell ⟨V, 5, none⟩ (.int .u32 x5)).setCell ⟨V, 4, none⟩ (.int .u32 x4)).setCell ⟨V, 3, none⟩ (.int .u32 x3)).setCell ⟨V, 2, none⟩ (.int .u32 x2)).setCell ⟨V, 1, none⟩ (.int .u32 x1)).setCell ⟨V, 0, none⟩ (.int .u32 x0)) V t [x0, x1, x2, x3, x4, x5, x6, x7] :=
  ((((((((H.set 7 x7).set 6 x6).set 5 x5).set 4 x4).set 3 x3).set 2 x2).set 1 x1).set 0 x0)
theorem Arr.setO8r {w : World} {b V t : Nat} {l : List Int} (h : Arr w b t l) (hb : b ≠ V) (x0 x1 x2 x3 x4 x5 x6 x7 : Value) : Arr ((((((((w.setCell ⟨V, 7, none⟩ x7).setCell ⟨V, 6, none⟩ x6).setCell ⟨V, 5, none⟩ x5).setCell ⟨V, 4, none⟩ x4).setCell ⟨V, 3, none⟩ x3).setCell ⟨V, 2, none⟩ x2).setCell ⟨V, 1, none⟩ x1).setCell ⟨V, 0, none⟩ x0) b t l :=
  Arr.setO (Arr.setO (Arr.setO (Arr.setO (Arr.setO (Arr.setO (Arr.setO (Arr.setO h hb _) hb _) hb _) hb _) hb _) hb _) hb _) hb _
theorem Below.set8r {a w : World} {B V : Nat} (h : Below B a w) (hb : B ≤ V) (x0 x1 x2 x3 x4 x5 x6 x7 : Value) : Below B a ((((((((w.setCell ⟨V, 7, none⟩ x7).setCell ⟨V, 6, none⟩ x6).setCell ⟨V, 5, none⟩ x5).setCell ⟨V, 4, none⟩ x4).setCell ⟨V, 3, none⟩ x3).setCell ⟨V, 2, none⟩ x2).setCell ⟨V, 1, none⟩ x1).setCell ⟨V, 0, none⟩ x0) :=
  (((((((h.setCell hb _).setCell hb _).setCell hb _).setCell hb _).setCell hb _).setCell hb _).setCell hb _).setCell hb _
end Go.Proofs.YtojbehmbeoemgaaDoor

set_option linter.unusedVariables false
set_option linter.unusedSimpArgs false
namespace Go.Proofs.YtojbehmbeoemgaaDoor
open Go.RowKit Lay Mk
def varB (n : Nat) : List UInt8 := if h : 127 < n then UInt8.ofNat (128 + n % 128) :: varB (n / 128) else [UInt8.ofNat n]
termination_by n
decreasing_by omega
theorem varB_more {n : Nat} (h : 127 < n) : varB n = UInt8.ofNat (128 + n % 128) :: varB (n / 128) := by rw [varB]; simp [h]
theorem varB_last {n : Nat} (h : n ≤ 127) : varB n = [UInt8.ofNat n] := by rw [varB]; simp [show ¬ 127 < n by omega]
def varT (n : Nat) : ByteArray := bs (varB n)
theorem varB_len : ∀ (k n : Nat), n < 128 ^ (k + 1) → (varB n).length ≤ k + 1
  | 0, n, h => by rw [varB_last (by omega)]; simp
  | k + 1, n, h => by
    by_cases hn : 127 < n
    · rw [varB_more hn]
      have := varB_len k (n / 128) (by rw [Nat.pow_succ] at h; omega)
      simp only [List.length_cons]; omega
    · rw [varB_last (by omega)]; simp
theorem varT_le {n : Nat} (h : n ≤ 1000000000) : (varT n).size ≤ 5 := by
  unfold varT; rw [bs_size]; exact varB_len 4 n (by omega)
set_option maxRecDepth 20000 in set_option maxHeartbeats 2000000 in
theorem impl_varText (n : Nat) (w : World) (hn : n ≤ 1000000000) : Calls Tryd.prog 101 #[.int .i64 n] w fun e w' => e = .returned (.string (varT n)) ∧ Below w.heap.size w w' := by
  go_enter Tryd.func101, Tryd.ntmps101
  go_wp2
  go_loopw [0, 3] (fun v u wr => ∃ (m : Nat) (pre : List UInt8) (A : Option Addr) (cap : Nat), v = .int .i64 m ∧ u = .slice A pre.length cap ∧ Hid (pre ++ varB m = varB n) ∧ pre.length + m ≤ n ∧ pre.length ≤ cap ∧ cap ≤ maxLen ∧ Row true wr A cap pre (nw w.heap.size) ∧ Below w.heap.size w wr) (fun v _ _ => (intOf v).toNat)
  case atStart => exact ⟨n, [], none, 0, rfl, rfl, Lib.hid rfl, by simp, by simp, by decide, row_nil _ _, Below.refl _ _⟩
  case round =>
    obtain ⟨m, pre, A, cap, rfl, rfl, hpre, hlen, hle, hcm, hrow, hb⟩ := hrel
    have hz := hb.size
    by_cases hm : 127 < m
    · have hv := varB_more hm
      have HV := Lib.hid hv; clear hv
      have hz2 : w.heap.size ≤ (wr.alloc (.cells #[.int .u8 (128 + (m : Int) % 128)] 5)).heap.size := by simp; omega
      go_wp2_with (at_builtin; refine wpList_app (α := UInt8) rfl _ _ rfl rfl rfl (hrow.allocC _) hle hcm rfl rfl (src_u8 _ _ _ _ (u8_eq (128 + m % 128) _ (by omega) (by omega))) (disj_none_ _) (by omega) ?_; intro A' cap' w' h1 h2 h3 h4)
      go_roundw
      case rel => exact ⟨m / 128, pre ++ [UInt8.ofNat (128 + m % 128)], A', cap', by go_num, by simp, Lib.hid (by rw [← hpre.out, HV.out]; simp), by simp; omega, by simpa using h1, h2, h3.mono (nw_step (sub_refl _) (none_sub _) hz2), (hb.alloc hz _).trans (h4.nw hz2 (sub_refl _))⟩
      case measure => simp [intOf]; omega
    · have hv := varB_last (n := m) (by omega)
      have HV := Lib.hid hv; clear hv
      have hz2 : w.heap.size ≤ (wr.alloc (.cells #[.int .u8 (m : Int)] 5)).heap.size := by simp; omega
      go_wp2_with (first | (at_builtin; refine wpList_app (α := UInt8) rfl _ _ rfl rfl rfl (hrow.allocC _) hle hcm rfl rfl (src_u8 _ _ _ _ (u8_eq m _ rfl (by omega))) (disj_none_ _) (by omega) ?_; intro A' cap' w' h1 h2 h3 h4) | (refine wpList_bytes rfl _ rfl Tryd.underlying5 Tryd.underlying9 rfl (l := pre ++ [UInt8.ofNat m]) (by simp) h3 ?_))
      go_ret
      exact ⟨ret_str (by rw [varT, ← hpre.out, HV.out]), (hb.alloc hz _).trans (h4.nw hz2 (sub_refl _))⟩
set_option maxRecDepth 20000 in set_option maxHeartbeats 2000000 in
theorem spec_l01Var (n : Nat) (w : World) (hn : n ≤ 1000000000) : Calls Tryd.prog 99 #[.int .i64 n] w fun e w' => e = .returned (.string (varT n)) ∧ Below w.heap.size w w' := by
  go_enter Tryd.func99, Tryd.ntmps99
  go_wp2
  go_loopw [0, 3] (fun v u wr => ∃ (m : Nat) (pre : List UInt8) (A : Option Addr) (cap : Nat), v = .int .i64 m ∧ u = .slice A pre.length cap ∧ Hid (pre ++ varB m = varB n) ∧ pre.length + m ≤ n ∧ pre.length ≤ cap ∧ cap ≤ maxLen ∧ Row true wr A cap pre (nw w.heap.size) ∧ Below w.heap.size w wr) (fun v _ _ => (intOf v).toNat)
  case atStart => exact ⟨n, [], _, _, rfl, rfl, Lib.hid rfl, by simp, by simp, by decide, row_lit0 _ _ _ rfl (Nat.le_refl _), (Below.refl _ _).alloc (Nat.le_refl _) _⟩
  case round =>
    obtain ⟨m, pre, A, cap, rfl, rfl, hpre, hlen, hle, hcm, hrow, hb⟩ := hrel
    have hz := hb.size
    by_cases hm : 127 < m
    · have hv := varB_more hm
      have HV := Lib.hid hv; clear hv
      have hz2 : w.heap.size ≤ (wr.alloc (.cells #[.int .u8 ((m : Int) % 128 + 128)] 5)).heap.size := by simp; omega
      go_wp2_with (at_builtin; refine wpList_app (α := UInt8) rfl _ _ rfl rfl rfl (hrow.allocC _) hle hcm rfl rfl (src_u8 _ _ _ _ (u8_eq (128 + m % 128) _ (by omega) (by omega))) (disj_none_ _) (by omega) ?_; intro A' cap' w' h1 h2 h3 h4)
      go_roundw
      case rel => exact ⟨m / 128, pre ++ [UInt8.ofNat (128 + m % 128)], A', cap', by go_num, by simp, Lib.hid (by rw [← hpre.out, HV.out]; simp), by simp; omega, by simpa using h1, h2, h3.mono (nw_step (sub_refl _) (none_sub _) hz2), (hb.alloc hz _).trans (h4.nw hz2 (sub_refl _))⟩
      case measure => simp [intOf]; omega
    · have hv := varB_last (n := m) (by omega)
      have HV := Lib.hid hv; clear hv
      have hz2 : w.heap.size ≤ (wr.alloc (.cells #[.int .u8 (m : Int)] 5)).heap.size := by simp; omega
      go_wp2_with (first | (at_builtin; refine wpList_app (α := UInt8) rfl _ _ rfl rfl rfl (hrow.allocC _) hle hcm rfl rfl (src_u8 _ _ _ _ (u8_eq m _ rfl (by omega))) (disj_none_ _) (by omega) ?_; intro A' cap' w' h1 h2 h3 h4) | (refine wpList_bytes rfl _ rfl Tryd.underlying5 Tryd.underlying9 rfl (l := pre ++ [UInt8.ofNat m]) (by simp) h3 ?_))
      go_ret
      exact ⟨ret_str (by rw [varT, ← hpre.out, HV.out]), (hb.alloc hz _).trans (h4.nw hz2 (sub_refl _))⟩
end Go.Proofs.YtojbehmbeoemgaaDoor

set_option linter.unusedVariables false
set_option linter.unusedSimpArgs false
namespace Go.Proofs.YtojbehmbeoemgaaDoor
open Go.RowKit Lay Mk
theorem step_app {α : Type} [Lay α] [SlTy α] [Inf α] {ops : Array Oper} {o : Oper} {a : Act} {K : Act → World → Prop} {Q : Exit → Act → World → Prop} {E : Prop} {w : World} (hgd : o.guard = none) (s x : Operand)
    (ho : o.op = .call { callee := .builtin .append, args := #[s, x], argTypes := #[SlTy.st α, SlTy.st α] })
    {A A2 : Option Addr} {cap c2 k m : Nat} {xs ys : List α} {S T : Blks} (hs : a.eval s = .slice A k cap) (hk : k = xs.length) (hrow : Row true w A cap xs S) (hle : k ≤ cap) (hcm : cap ≤ maxLen)
    (hx : a.eval x = .slice A2 m c2) (hm : m = ys.length) (hsrc : Src w A2 ys T) (hd : disj S T) (hb : k + m ≤ 4000000000)
    (h : ∀ A' cap' w', k + m ≤ cap' → cap' ≤ maxLen → Row true w' A' cap' (xs ++ ys) (fun b => S b ∨ T b ∨ (w.heap.size ≤ b ∧ b < w'.heap.size)) → Chg S w w' → K (a.put o.dst (.slice A' (k + m) cap')) w') :
    if Region.wanted o (yielded ops a.tmps) = true then Oper.wp Tryd.prog o a w K Q else E := by
  have hw : Region.wanted o (yielded ops a.tmps) = true := by simp [Region.wanted, hgd]
  rw [if_pos hw]
  subst hk; subst hm
  obtain ⟨z, bytes, e, hz, hby⟩ := Inf.ex (α := α)
  obtain ⟨i, hi, h0, h1, h2⟩ := info_parts e
  obtain ⟨A', cap', w', hr, h3, h4, h5, h6⟩ := run_app (P := Tryd.prog) (c2 := c2) (SlTy.st α) o.type i z bytes Inf.st hi h0 h1 h2 hz hrow hle hcm hsrc hd (by unfold maxLen; omega)
    (Nat.le_trans (Nat.mul_le_mul hb hby) (by decide))
  unfold Oper.wp execOp
  simp only [ho, resolve, invoke, builtin, Sem.run_bind, Sem.run_pure, Result.andThen_ok, List.map_toArray, List.map_cons, List.map_nil, hs, hx, hr]
  exact h A' cap' w' h3 h4 h5 h6

end Go.Proofs.YtojbehmbeoemgaaDoor

set_option linter.unusedVariables false
set_option linter.unusedSimpArgs false
namespace Go.Proofs.YtojbehmbeoemgaaDoor
open Go.RowKit Lay Mk
/-- a world that has only grown out of W -/
structure Grown (W : World) where
  w : World
  ok : Below W.heap.size W w
instance {W : World} : Nonempty (Grown W) := ⟨⟨W, Below.refl _ _⟩⟩
theorem Grown.size {W : World} (g : Grown W) : W.heap.size ≤ g.w.heap.size := g.ok.size
theorem Grown.cell {W : World} {p : Addr} {v : Value} (h : W.cell? p = some v) : ∀ g : Grown W, g.w.cell? p = some v := fun g => (g.ok.cell (p := p) (World.block_lt_of_cell? W p h)).trans h
theorem grown_call {P : Program} {f : FuncId} {args : Array Value} {W : World} {v : Value} {g : Grown W} (h : Calls P f args g.w fun e w' => e = .returned v ∧ Below g.w.heap.size g.w w') : Calls P f args g.w fun e w' => e = .returned v ∧ ∃ g' : Grown W, w' = g'.w :=
  h.mono fun _ _ ⟨he, hb⟩ => ⟨he, ⟨_, g.ok.trans (hb.mono g.size)⟩, rfl⟩
theorem grown_same {P : Program} {f : FuncId} {args : Array Value} {W : World} {v : Value} {g : Grown W} (h : Calls P f args g.w fun e w' => e = .returned v ∧ g.w = w') : Calls P f args g.w fun e w' => e = .returned v ∧ ∃ g' : Grown W, w' = g'.w :=
  h.mono fun _ _ ⟨he, hb⟩ => ⟨he, g, hb.symm⟩
theorem grown_below {W w : World} (h : ∃ g : Grown W, w = g.w) : Below W.heap.size W w := by
  obtain ⟨g, rfl⟩ := h
  exact g.ok
theorem wp_region_grown {P : Program} {id : Nat} {Q : Exit → Act → World → Prop} {a : Act} {W : World} {l : List Oper} (hm : P.follows .mixedOrders = true) (hB : Region.lexB .any l.toArray = true)
    (h : wpQuiet P l.toArray (fun w' => ∃ g : Grown W, w' = g.w) (fun a' => ∀ w', (∃ g : Grown W, w' = g.w) → Q .normal a' w') l a) : (Code.region id l.toArray true).wp P Q a W :=
  wp_region_quiet (C := fun w' => ∃ g : Grown W, w' = g.w) hm hB ⟨⟨_, (Below.refl _ _).drew⟩, rfl⟩ (by simpa using h)
end Go.Proofs.YtojbehmbeoemgaaDoor

set_option linter.unusedVariables false
set_option linter.unusedSimpArgs false
namespace Go.Proofs.YtojbehmbeoemgaaDoor
open Go.RowKit Lay Mk
structure Own {α : Type} [Lay α] (w0 w : World) (A : Option Addr) (c : Nat) (L : List α) : Prop where
  row : Row true w A c L (nw w0.heap.size)
  le : L.length ≤ c
  cm : c ≤ maxLen
  bl : Below w0.heap.size w0 w
theorem Own.size {α : Type} [Lay α] {w0 w : World} {A : Option Addr} {c : Nat} {L : List α} (h : Own w0 w A c L) : w0.heap.size ≤ w.heap.size := h.bl.size
theorem Own.start {α : Type} [Lay α] {w0 w : World} (h : Below w0.heap.size w0 w) : Own (α := α) w0 w none 0 [] := ⟨row_nil _ _, by simp, by decide, h⟩
theorem Own.lit {α : Type} [Lay α] {w0 w : World} (h : Below w0.heap.size w0 w) (t : TypeId) (ht : t = ty α) : Own (α := α) w0 (w.alloc (.cells #[] t)) (some ⟨w.heap.size, 0, none⟩) 0 [] :=
  ⟨row_lit0 w t _ ht h.size, by simp, by decide, h.alloc h.size _⟩
theorem Own.litAt {α : Type} [Lay α] {w0 w : World} (h : Below w0.heap.size w0 w) (t : TypeId) (ht : t = ty α) {b : Nat} (hb : b = w.heap.size) : Own (α := α) w0 (w.alloc (.cells #[] t)) (some ⟨b, 0, none⟩) 0 [] := by subst hb; exact Own.lit h t ht
theorem Own.later {α : Type} [Lay α] {w0 w w' : World} {A : Option Addr} {c : Nat} {L : List α} (h : Own w0 w A c L) (hb : Below w.heap.size w w') : Own w0 w' A c L :=
  ⟨Row.later h.row hb, h.le, h.cm, h.bl.trans (hb.mono h.bl.size)⟩
theorem Own.alloc {α : Type} [Lay α] {w0 w : World} {A : Option Addr} {c : Nat} {L : List α} (h : Own w0 w A c L) (o : Obj) : Own w0 (w.alloc o) A c L := h.later ((Below.refl _ _).alloc (Nat.le_refl _) _)
theorem Own.drew {α : Type} [Lay α] {w0 w : World} {A : Option Addr} {c : Nat} {L : List α} (h : Own w0 w A c L) : Own w0 w.drew A c L := h.later ((Below.refl _ _).drew)
theorem Own.from {α : Type} [Lay α] {w0 w1 w : World} {A : Option Addr} {c : Nat} {L : List α} (h : Own w1 w A c L) (hb : Below w0.heap.size w0 w1) : Own w0 w A c L :=
  ⟨h.row.mono (fun _ x => Nat.le_trans hb.size x), h.le, h.cm, hb.trans (h.bl.mono hb.size)⟩
theorem Own.rng {α : Type} [Lay α] {w0 w : World} {A : Option Addr} {c : Nat} {L : List α} (h : Own w0 w A c L) : Row true w A c L (rng w0.heap.size w.heap.size) := to_rng h.row
theorem Own.weak {α : Type} [Lay α] {w0 w : World} {A : Option Addr} {c : Nat} {L : List α} (h : Own w0 w A c L) : Row false w A c L (nw w0.heap.size) := h.row.weak
/-- an append to it -/
theorem wpList_push {α : Type} [Lay α] [SlTy α] [Inf α] {ops : Array Oper} {rest : List Oper} {o : Oper} {a : Act} {Q : Exit → Act → World → Prop} {w0 w : World} (hgd : o.guard = none) (s x : Operand)
    (ho : o.op = .call { callee := .builtin .append, args := #[s, x], argTypes := #[SlTy.st α, SlTy.st α] })
    {A A2 : Option Addr} {c c2 k m : Nat} {L ys : List α} (hs : a.eval s = .slice A k c) (hk : k = L.length) (own : Own w0 w A c L)
    (hx : a.eval x = .slice A2 m c2) (hm : m = ys.length) (hsrc : Src w A2 ys none_) (hb : k + m ≤ 4000000000)
    (h : ∀ A' c' w', Own w0 w' A' c' (L ++ ys) → w.heap.size ≤ w'.heap.size → wpList Tryd.prog ops Q rest (a.put o.dst (.slice A' (k + m) c')) w') :
    wpList Tryd.prog ops Q (o :: rest) a w := by
  subst hk; subst hm
  refine wpList_app (α := α) hgd s x ho hs rfl own.row own.le own.cm hx rfl hsrc (disj_none_ _) hb ?_
  intro A' c' w' h1 h2 h3 h4
  exact h A' c' w' ⟨row_og h3 (fun b hb => Nat.le_trans own.size hb), by rw [List.length_append]; exact h1, h2, own.bl.trans (h4.to_below own.size (fun b hb => hb))⟩ h4.size
theorem srcR {α : Type} [Lay α] (w : World) (y : α) (cs : Array Value) (t : TypeId) (b : Nat) (hb : b = w.heap.size) {T : Blks} (h : rd true w cs.toList y T) : Src (w.alloc (.cells cs t)) (some ⟨b, 0, none⟩) [y] (fun b => T b ∧ b < w.heap.size) := by
  subst hb
  intro _
  refine ⟨_, _, rfl, fun i => if i = 0 then (fun b => T b ∧ b < w.heap.size) else none_, fun i b x => ?_, fun _ i j hij b x y => ?_, fun i hi => ?_⟩
  · by_cases hi : i = 0
    · simp only [hi, if_true] at x; exact x
    · simp only [hi, if_false] at x; exact x.elim
  · by_cases hi : i = 0
    · simp only [show j ≠ 0 by omega, if_false] at y; exact y.elim
    · simp only [hi, if_false] at x; exact x.elim
  · have hi : i = 0 := by simpa using hi
    subst hi
    refine ⟨cs.toList, fun j u hu => ?_, ?_⟩
    · rw [World.cell?_alloc_mark]; simpa using hu
    · exact Lay.keep (Lay.tight h) (fun b x => Below.heap_alloc _ _ _ x.2)
/-- an append of one new element that has rows of its own, made behind the row's world -/
theorem wpList_pushR {α : Type} [Lay α] [SlTy α] [Inf α] {ops : Array Oper} {rest : List Oper} {o : Oper} {a : Act} {Q : Exit → Act → World → Prop} {w0 w1 w : World} (hgd : o.guard = none) (s x : Operand)
    (ho : o.op = .call { callee := .builtin .append, args := #[s, x], argTypes := #[SlTy.st α, SlTy.st α] })
    {A : Option Addr} {c c2 k b : Nat} {L : List α} {y : α} {T : Blks} {cs : Array Value} {t : TypeId} (hs : a.eval s = .slice A k c) (hk : k = L.length) (own : Own w0 w1 A c L) (hb : Below w1.heap.size w1 w)
    (hy : rd true w cs.toList y T) (hT : ∀ b, T b → w1.heap.size ≤ b) (hx : a.eval x = .slice (some ⟨b, 0, none⟩) 1 c2) (hbb : b = w.heap.size) (hlim : k ≤ 2000000000)
    (h : ∀ A' c' w', Own w0 w' A' c' (L ++ [y]) → w.heap.size < w'.heap.size → wpList Tryd.prog ops Q rest (a.put o.dst (.slice A' (k + 1) c')) w') :
    wpList Tryd.prog ops Q (o :: rest) a (w.alloc (.cells cs t)) := by
  subst hk
  have hbw : Below w1.heap.size w1 (w.alloc (.cells cs t)) := hb.alloc hb.size _
  refine wpList_app (α := α) hgd s x ho hs rfl (Row.later (to_rng own.row) hbw) own.le own.cm hx rfl (srcR w y cs t b hbb hy) (fun q h1 h2 => ?_) (by simp; omega) ?_
  · have h3 := hT q h2.1
    have h4 : q < w1.heap.size := h1.2
    omega
  intro A' c' w' h1 h2 h3 h4
  have h5 := h4.size
  rw [World.size_alloc] at h5
  refine h A' c' w' ⟨h3.mono (fun q hq => ?_), by rw [List.length_append]; exact h1, h2, ?_⟩ (by omega)
  · show w0.heap.size ≤ q
    have h6 := own.size
    have h7 := hb.size
    rcases hq with hq | hq | hq
    · exact hq.1
    · have := hT q hq.1; omega
    · have := hq.1; rw [World.size_alloc] at this; omega
  · exact (own.bl.trans (hbw.mono own.size)).trans (h4.to_below (by rw [World.size_alloc]; have := own.size; have := hb.size; omega) (fun q hq => hq.1))
theorem step_push {α : Type} [Lay α] [SlTy α] [Inf α] {ops : Array Oper} {o : Oper} {a : Act} {K : Act → World → Prop} {Q : Exit → Act → World → Prop} {E : Prop} {w0 w : World} (hgd : o.guard = none) (s x : Operand)
    (ho : o.op = .call { callee := .builtin .append, args := #[s, x], argTypes := #[SlTy.st α, SlTy.st α] })
    {A A2 : Option Addr} {c c2 k m : Nat} {L ys : List α} (hs : a.eval s = .slice A k c) (hk : k = L.length) (own : Own w0 w A c L)
    (hx : a.eval x = .slice A2 m c2) (hm : m = ys.length) (hsrc : Src w A2 ys none_) (hb : k + m ≤ 4000000000)
    (h : ∀ A' c' w', Own w0 w' A' c' (L ++ ys) → Below w0.heap.size w0 w' → K (a.put o.dst (.slice A' (k + m) c')) w') :
    if Region.wanted o (yielded ops a.tmps) = true then Oper.wp Tryd.prog o a w K Q else E := by
  subst hk; subst hm
  refine step_app (α := α) hgd s x ho hs rfl own.row own.le own.cm hx rfl hsrc (disj_none_ _) hb ?_
  intro A' c' w' h1 h2 h3 h4
  have hw : Own w0 w' A' c' (L ++ ys) := ⟨row_og h3 (fun b hb => Nat.le_trans own.size hb), by rw [List.length_append]; exact h1, h2, own.bl.trans (h4.to_below own.size (fun b hb => hb))⟩
  exact h A' c' w' hw hw.bl
theorem src1 {α : Type} [Lay α] [Flat α] {w : World} {y : α} (ok : Flat.ok y) {cs : Array Value} {t : TypeId} {b : Nat} (hb : b = w.heap.size) (h : cs.toList = Flat.cs y) : Src (w.alloc (.cells cs t)) (some ⟨b, 0, none⟩) [y] none_ := src_newb w y ok cs t b hb h
/-- what a call hands back: a row of its own -/
def OwnRes {α : Type} [Lay α] (L : List α) (w : World) (e : Ending) (w' : World) : Prop := ∃ A c, e = .returned (.slice A L.length c) ∧ Own w w' A c L
theorem OwnRes.mk {α : Type} [Lay α] {L L' : List α} {w w' : World} {A : Option Addr} {c n : Nat} (h : Own w w' A c L) (hL : L' = L) (hn : n = L.length) : OwnRes L' w (.returned (.slice A n c)) w' := by subst hL; subst hn; exact ⟨A, c, rfl, h⟩
end Go.Proofs.YtojbehmbeoemgaaDoor

set_option linter.unusedVariables false
set_option linter.unusedSimpArgs false
namespace Go.Proofs.YtojbehmbeoemgaaDoor
open Go.RowKit Lay Mk
def fourB (n : Nat) : ByteArray := bs [UInt8.ofNat (n / 16777216), UInt8.ofNat (n / 65536), UInt8.ofNat (n / 256), UInt8.ofNat n]
theorem fourB_size (n : Nat) : (fourB n).size = 4 := by unfold fourB; rw [bs_size]; rfl
set_option maxHeartbeats 2000000 in
theorem impl_fourBytes (w : World) (n : Nat) (hn : n < 4294967296) : Calls Tryd.prog 149 #[.int .u32 n] w fun e w' => e = .returned (.string (fourB n)) ∧ Below w.heap.size w w' := by
  go_enter Tryd.func149, Tryd.ntmps149
  go_wp2_with (refine wpList_bytesAt rfl _ rfl Tryd.underlying5 Tryd.underlying9 [UInt8.ofNat (n / 16777216), UInt8.ofNat (n / 65536), UInt8.ofNat (n / 256), UInt8.ofNat n] rfl rfl (at_lit _ _ _ _ _ (by simp [u8c]; omega)) ?_)
  go_ret; exact ⟨rfl, (Below.refl _ _).alloc (Nat.le_refl _) _⟩
end Go.Proofs.YtojbehmbeoemgaaDoor
