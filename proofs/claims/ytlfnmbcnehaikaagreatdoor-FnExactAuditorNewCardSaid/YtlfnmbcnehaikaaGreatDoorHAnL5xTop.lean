/- A part of the proof: what the laws need of it. -/
import Derived.Test.YtlfnmbcnehaikaaGreatDoorRows
import Derived.Below
import Derived.ChangeSame
import Derived.Test.YtlfnmbcnehaikaaGreatDoorHAnL4xBr
import Derived.Test.YtlfnmbcnehaikaaGreatDoorProg
import Derived.Test.YtlfnmbcnehaikaaGreatDoorHAnTy
import Derived.Lib.Hide
set_option linter.unusedVariables false
set_option linter.unusedSimpArgs false
set_option linter.unusedVariables false
set_option linter.unusedSimpArgs false
namespace Go.Proofs.YtlfnmbcnehaikaaGreatDoor
open Go.RowKit Go.WideShapes Go.ChangeShapes Go.ChangeAt Lay Mk
theorem own_ : ownKnob Tryz.prog.godebug = none := by kernel_rfl
theorem laidOut_ : laidOutB Tryz.prog = true := by kernel_rfl
theorem trodAll_stays {H : Type} {enc : TypeId × Value → H} {P : Program} (hl : laidOutB P = true) {W W' : World} {sp : Nat → Bool} (hb : Below W.heap.size W W') :
    ∀ (ts : List TypeId) (vs : List Value) (ds : List (DataW H)) (ps : List MemPlace), (∀ t ∈ ts, P.readableRec t = true ∧ t < P.types.size) →
    DataW.TrodAll enc P W 0 (fun _ => true) true ts vs ds ps → (∀ p ∈ ps, p.block < W.heap.size) → (∀ p ∈ ps, sp p.block = true) → DataW.TrodAll enc P W' 0 sp true ts vs ds ps
  | [], [], [], ps, _, h, _, _ => h
  | t :: ts, v :: vs, d :: ds, ps, hr, h, hlt, hsp => by
    obtain ⟨p, q, h1, h2, rfl⟩ := h
    refine ⟨p, q, ?_, trodAll_stays hl hb ts vs ds q (fun u hu => hr u (List.mem_cons_of_mem _ hu)) h2 (fun x hx => hlt x (List.mem_append_right _ hx)) (fun x hx => hsp x (List.mem_append_right _ hx)), rfl⟩
    exact WideElems.Trod_stays hl (hr t (List.mem_cons_self ..)).1 (hr t (List.mem_cons_self ..)).2 h1 (fun x hx => hb.same (hlt x (List.mem_append_left _ hx))) (fun x hx => hsp x (List.mem_append_left _ hx))
  | [], _ :: _, _, _, _, h, _, _ => h.elim
  | [], [], _ :: _, _, _, h, _, _ => h.elim
  | _ :: _, [], _, _, _, h, _, _ => h.elim
  | _ :: _, _ :: _, [], _, _, h, _, _ => h.elim
theorem okWide_agg {P : Program} {W : World} {r : Reach} {base : Nat} {t : TypeId} {v : Value} {fs : Array Field} (ht : P.underlying t = some (.struct fs)) (h : Value.okWide P W r base t v) : ∃ cs, v = .agg cs := by
  unfold Value.okWide at h
  rw [ht] at h
  obtain ⟨cs, e, _⟩ := h
  exact ⟨cs, e⟩
section
variable {H : Type} {enc : TypeId × Value → H} {P : Program}
theorem post_below {f : Func} {s : ChangeSpec} {apart fresh handsOn again : Bool} {W W' : World} {args : Array Value} {v : Value} {ds gs : List (DataW H)} {before pa pv : List MemPlace}
    (hW : DataW.Whole enc P f.params.toList s.vars apart W args.toList ds gs before)
    (hres : ∀ (b : Nat) (sp : Nat → Bool) (hd : Bool), DataW.TrodAll enc P W' b sp hd f.resultTypes.toList (v.resultList f.resultTypes.size) (s.fn H (ds ++ gs)).results [])
    (hargs : ∀ sp : Nat → Bool, (∀ p ∈ before, sp p.block = true) → DataW.TrodAll enc P W' 0 sp true f.params.toList args.toList (s.fn H (ds ++ gs)).args pa)
    (hvars : ∀ sp : Nat → Bool, (∀ p ∈ before, sp p.block = true) → DataW.TrodVars enc P W' sp s.vars (s.fn H (ds ++ gs)).vars pv)
    (hps : before = pa ++ pv) (hb : Below W.heap.size W W')
    (hok : ∀ (j : Nat) (t : TypeId) (r : Value), f.resultTypes[j]? = some t → (v.resultList f.resultTypes.size)[j]? = some r → Value.okWide P W' .any 0 t r) :
    s.post enc P f apart fresh handsOn again W args v W' := by
  have hlt : ∀ p ∈ before, p.block < W.heap.size := fun p hp => hW.lt p hp
  have hold : ∀ p ∈ before, (fun b => decide (b < W.heap.size)) p.block = true := fun p hp => by simpa using hlt p hp
  refine ⟨ds, gs, before, [], pa, pv, hW, hres _ _ _, hargs _ hold, hvars _ hold, World.keptBut_mono (fun p hp => ⟨hp, ?_⟩) (hb.frame (· ∈ before)), fun _ => ?_⟩
  · rw [hps, List.mem_append] at hp
    exact Or.inr hp
  · obtain ⟨_, _, _, _, _, hz, hn⟩ := hW
    refine ⟨hok, _, _, ([] ++ pa) ++ pv, ⟨[] ++ pa, pv, trodAll_append (hargs _ (fun _ _ => rfl)) (hres _ _ _), hvars _ (fun _ _ => rfl), rfl, ?_, ?_⟩, ?_⟩
    · intro b off hp
      have hin : MemPlace.cell b off ∈ before := by rw [hps]; simpa using hp
      rw [hb.frozen (hlt _ hin)]
      exact hz b off hin
    · intro ha
      have := hn ha
      rw [hps] at this
      simpa using this
    · intro p hp _
      rw [hps]
      simpa using hp
end
end Go.Proofs.YtlfnmbcnehaikaaGreatDoor

set_option linter.unusedVariables false
set_option linter.unusedSimpArgs false
namespace Go.Proofs.YtlfnmbcnehaikaaGreatDoor
open Go.RowKit Lay

instance instU8 : Lay UInt8 where
  ty := 5
  n := 1
  rd _ _ cs a _ := cs = [.int .u8 a.toNat]
  pos := by decide
  len h := by rw [h]; rfl
  keep h _ := h
  mono h _ := h
  weak h := h
  tight h := h
  one h := by rw [h]; simp [Value.oneCell']
instance slU8 : SlTy UInt8 := ⟨140⟩

class Inf (α : Type) [Lay α] [SlTy α] : Prop where
  ex : ∃ z bytes, (Tryz.prog.info? (ty α)).map (fun i => (i.zero, i.size, i.bytes)) = some (some z, n α, bytes) ∧ z.cells.size = n α ∧ bytes ≤ 2000
  st : Tryz.prog.underlying (SlTy.st α) = some (.slice (ty α))

class Flat (α : Type) [Lay α] where
  cs : α → List Value
  ok : α → Prop
  iff : ∀ {m w c a S}, rd m w c a S ↔ c = cs a ∧ ok a

def none_ : Blks := fun _ => False
theorem disj_none_ (S : Blks) : disj S none_ := fun _ _ x => x

theorem Flat.els {α : Type} [Lay α] [Flat α] {m : Bool} {w : World} {b off : Nat} {xs : List α} {S : Blks} (h : Els m w b off xs S) : Els true w b off xs none_ := by
  obtain ⟨T, _, _, h3⟩ := h
  refine ⟨fun _ => none_, fun _ _ x => x, fun _ _ _ _ _ x => x.elim, fun i hi => ?_⟩
  obtain ⟨cs, h4, h5⟩ := h3 i hi
  exact ⟨cs, h4, Flat.iff.2 (Flat.iff.1 h5)⟩
theorem Src.flat {α : Type} [Lay α] [Flat α] {m : Bool} {w : World} {A : Option Addr} {cap : Nat} {xs : List α} {S : Blks} (h : Row m w A cap xs S) : Src w A xs none_ := by
  intro hne
  cases m with
  | false =>
    obtain ⟨b, off, e, hb, h1⟩ := h hne
    exact ⟨b, off, e, Flat.els h1⟩
  | true =>
    rcases h with ⟨_, h, _⟩ | ⟨g, cur, e, hg, h1, h2, h3⟩
    · exact absurd h hne
    · exact ⟨g, 0, e, Flat.els h3⟩
theorem Src.keep {α : Type} [Lay α] {w w' : World} {A : Option Addr} {xs : List α} {T : Blks} (h : Src w A xs T) (hb : Below w.heap.size w w') : Src w' A xs T := by
  intro hne
  obtain ⟨b, off, e, h1⟩ := h hne
  refine ⟨b, off, e, (h1.tight.keep (fun _ => ?_) (fun b x => hb.block b x.2)).mono (fun _ x => x.1)⟩
  apply hb.block
  obtain ⟨T, _, _, h3⟩ := h1
  obtain ⟨cs, h4, h5⟩ := h3 0 (by cases xs; simp at hne; simp)
  have := Lay.len h5
  have hp := Lay.pos (α := α)
  exact h4.lt (by rintro rfl; simp at this; omega)
theorem src_new {α : Type} [Lay α] [Flat α] (w : World) (y : α) (ok : Flat.ok y) (cs : Array Value) (t : TypeId) (h : cs.toList = Flat.cs y) : Src (w.alloc (.cells cs t)) (some ⟨w.heap.size, 0, none⟩) [y] none_ := by
  intro _
  refine ⟨_, _, rfl, fun _ => none_, fun _ _ x => x, fun _ _ _ _ _ x => x.elim, fun i hi => ?_⟩
  have hi : i = 0 := by simpa using hi
  subst hi
  refine ⟨Flat.cs y, fun j u hu => ?_, Flat.iff.2 ⟨rfl, ok⟩⟩
  rw [World.cell?_alloc_mark]
  rw [← h] at hu
  simpa using hu
theorem ret_int {k : IntKind} {a b : Int} (h : a = b) : Ending.returned (.int k a) = .returned (.int k b) := by rw [h]
theorem ret_str {a b : ByteArray} (h : a = b) : Ending.returned (.string a) = .returned (.string b) := by rw [h]
theorem ret_bool {a b : Bool} (h : a = b) : Ending.returned (.bool a) = .returned (.bool b) := by rw [h]
def bs (l : List UInt8) : ByteArray := ⟨l.toArray⟩
theorem bs_size (l : List UInt8) : (bs l).size = l.length := by unfold bs; exact List.size_toArray
theorem bs_app (a b : List UInt8) : bs a ++ bs b = bs (a ++ b) := by apply ByteArray.ext; simp [bs]
theorem bs_data (s : ByteArray) : bs s.data.toList = s := by apply ByteArray.ext; simp [bs]
theorem u8_eq (k : Nat) (z : Int) (h : z = k) (h2 : k < 256) : z = ((UInt8.ofNat k).toNat : Int) := by simp; omega
theorem src_u8 [Flat UInt8] (w : World) (z : Int) (b : UInt8) (t : TypeId) (h : z = (b.toNat : Int)) : Src (w.alloc (.cells #[.int .u8 z] t)) (some ⟨w.heap.size, 0, none⟩) [b] none_ := by
  subst h
  intro _
  refine ⟨_, _, rfl, fun _ => none_, fun _ _ x => x, fun _ _ _ _ _ x => x.elim, fun i hi => ?_⟩
  have hi : i = 0 := by simpa using hi
  subst hi
  refine ⟨[.int .u8 b.toNat], fun j u hu => ?_, rfl⟩
  rw [World.cell?_alloc_mark]
  simpa using hu

theorem wpList_app {α : Type} [Lay α] [SlTy α] [Inf α] {ops : Array Oper} {rest : List Oper} {o : Oper} {a : Act} {Q : Exit → Act → World → Prop} {w : World} (hgd : o.guard = none) (s x : Operand)
    (ho : o.op = .call { callee := .builtin .append, args := #[s, x], argTypes := #[SlTy.st α, SlTy.st α] })
    {A A2 : Option Addr} {cap c2 k m : Nat} {xs ys : List α} {S T : Blks} (hs : a.eval s = .slice A k cap) (hk : k = xs.length) (hrow : Row true w A cap xs S) (hle : k ≤ cap) (hcm : cap ≤ maxLen)
    (hx : a.eval x = .slice A2 m c2) (hm : m = ys.length) (hsrc : Src w A2 ys T) (hd : disj S T) (hb : k + m ≤ 4000000000)
    (h : ∀ A' cap' w', k + m ≤ cap' → cap' ≤ maxLen → Row true w' A' cap' (xs ++ ys) (fun b => S b ∨ T b ∨ (w.heap.size ≤ b ∧ b < w'.heap.size)) → Chg S w w' → wpList Tryz.prog ops Q rest (a.put o.dst (.slice A' (k + m) cap')) w') :
    wpList Tryz.prog ops Q (o :: rest) a w := by
  refine wpList_plain hgd fun K hK => ?_
  subst hk; subst hm
  obtain ⟨z, bytes, e, hz, hby⟩ := Inf.ex (α := α)
  obtain ⟨i, hi, h0, h1, h2⟩ := info_parts e
  obtain ⟨A', cap', w', hr, h3, h4, h5, h6⟩ := run_app (P := Tryz.prog) (c2 := c2) (SlTy.st α) o.type i z bytes Inf.st hi h0 h1 h2 hz hrow hle hcm hsrc hd (by unfold maxLen; omega)
    (Nat.le_trans (Nat.mul_le_mul hb hby) (by decide))
  unfold Oper.wp execOp
  simp only [ho, resolve, invoke, builtin, Sem.run_bind, Sem.run_pure, Result.andThen_ok, List.map_toArray, List.map_cons, List.map_nil, hs, hx, hr]
  exact hK _ _ (h A' cap' w' h3 h4 h5 h6)

theorem Row.at_ {α : Type} [Lay α] {m : Bool} {w : World} {A : Option Addr} {cap : Nat} {xs : List α} {S : Blks} (h : Row m w A cap xs S) {i : Nat} (hi : i < xs.length) :
    ∃ b off cs T, A = some ⟨b, off, none⟩ ∧ b < w.heap.size ∧ At w b (off + i * n α) cs ∧ rd m w cs xs[i] T ∧ sub T S ∧ S b := by
  have hne : xs ≠ [] := by rintro rfl; simp at hi
  have key : ∀ {b off : Nat} {U : Blks}, Els m w b off xs U → sub U S → ∃ cs T, b < w.heap.size ∧ At w b (off + i * n α) cs ∧ rd m w cs xs[i] T ∧ sub T S := by
    rintro b off U ⟨T, h1, _, h3⟩ hU
    obtain ⟨cs, h4, h5⟩ := h3 i hi
    have hl := Lay.len h5
    have hp := Lay.pos (α := α)
    exact ⟨cs, T i, h4.lt (by rintro rfl; simp at hl; omega), h4, h5, sub_trans (h1 i) hU⟩
  cases m with
  | false =>
    obtain ⟨b, off, e, hb, h1⟩ := h hne
    obtain ⟨cs, T, h2, h3, h4, h5⟩ := key h1 (sub_refl _)
    exact ⟨b, off, cs, T, e, h2, h3, h4, h5, hb⟩
  | true =>
    rcases h with ⟨_, h, _⟩ | ⟨g, cur, e, hg, h1, h2, h3⟩
    · exact absurd h hne
    · obtain ⟨cs, T, h4, h5, h6, h7⟩ := key h3 (fun b x => x.1)
      exact ⟨g, 0, cs, T, e, h4, h5, h6, h7, hg⟩

theorem cells_u8 {w : World} {A : Option Addr} {cap : Nat} {xs : List UInt8} {S : Blks} (h : Row true w A cap xs S) (hne : xs ≠ []) : ∃ b off, A = some ⟨b, off, none⟩ ∧ ∀ j (hj : j < xs.length), w.cell? ⟨b, off + j, none⟩ = some (.int .u8 (xs[j].toNat : Int)) := by
  rcases h with ⟨_, h, _⟩ | ⟨g, cur, e, hg, h1, h2, T, _, _, h3⟩
  · exact absurd h hne
  · refine ⟨g, 0, e, fun j hj => ?_⟩
    obtain ⟨cs, h4, h5⟩ := h3 j hj
    have h5 : cs = [.int .u8 xs[j].toNat] := h5
    subst h5
    have := h4 0 _ rfl
    simpa [show n UInt8 = 1 from rfl] using this

theorem wpList_bytes {ops : Array Oper} {rest : List Oper} {o : Oper} {a : Act} {Q : Exit → Act → World → Prop} {w : World} (hgd : o.guard = none) (x : Operand)
    (ho : o.op = .convert (SlTy.st UInt8) (ty ByteArray) x) [hI : Inf UInt8] (he : Tryz.prog.underlying (ty UInt8) = some (.int .u8)) (hdst : Tryz.prog.underlying (ty ByteArray) = some .string)
    {A : Option Addr} {cap k : Nat} {l : List UInt8} {S : Blks} (hx : a.eval x = .slice A k cap) (hk : k = l.length) (hrow : Row true w A cap l S)
    (h : wpList Tryz.prog ops Q rest (a.put o.dst (.string (bs l))) w) : wpList Tryz.prog ops Q (o :: rest) a w := by
  refine wpList_plain hgd fun K hK => ?_
  subst hk
  have hr : (convert (SlTy.st UInt8) (ty ByteArray) (.slice A l.length cap)).run Tryz.prog w = .ok (.string ⟨l.toArray⟩) w := by
    by_cases hne : l = []
    · subst hne
      rw [run_convert_bytes_string w _ _ (ty UInt8) A _ cap Inf.st he hdst]
      rcases hrow with ⟨rfl, _, rfl⟩ | ⟨g, cur, rfl, hg, h1, h2, _⟩
      · rfl
      · exact run_bytesToString w ⟨g, 0, none⟩ 0 cap [] rfl
    · obtain ⟨b, off, rfl, hc⟩ := cells_u8 hrow hne
      exact run_convert_bytes_back w _ _ (ty UInt8) ⟨b, off, none⟩ cap l Inf.st he hdst (fun j hj => by rw [add_none]; exact hc j hj)
  unfold Oper.wp execOp
  simp only [ho, Sem.run_bind, Sem.run_pure, Result.andThen_ok, hx, hr]
  exact hK _ _ h
def u8c (b : UInt8) : Value := .int .u8 b.toNat
theorem at_lit (v : World) (cs : Array Value) (t : TypeId) (fr : Nat × Nat) (l : List UInt8) (h : cs.toList = l.map u8c) : At (v.alloc (.cells cs t fr)) v.heap.size 0 (l.map u8c) := fun j u hu => by
  rw [World.cell?_alloc_mark]
  rw [← h] at hu
  simpa using hu
theorem wpList_bytesAt {ops : Array Oper} {rest : List Oper} {o : Oper} {a : Act} {Q : Exit → Act → World → Prop} {w : World} (hgd : o.guard = none) (x : Operand)
    (ho : o.op = .convert (SlTy.st UInt8) (ty ByteArray) x) [hI : Inf UInt8] (he : Tryz.prog.underlying (ty UInt8) = some (.int .u8)) (hdst : Tryz.prog.underlying (ty ByteArray) = some .string)
    {b off cap k : Nat} (l : List UInt8) (hx : a.eval x = .slice (some ⟨b, off, none⟩) k cap) (hk : k = l.length) (ha : At w b off (l.map u8c))
    (h : wpList Tryz.prog ops Q rest (a.put o.dst (.string (bs l))) w) : wpList Tryz.prog ops Q (o :: rest) a w := by
  refine wpList_plain hgd fun K hK => ?_
  subst hk
  have hr : (convert (SlTy.st UInt8) (ty ByteArray) (.slice (some ⟨b, off, none⟩) l.length cap)).run Tryz.prog w = .ok (.string (bs l)) w :=
    run_convert_bytes_back w _ _ (ty UInt8) ⟨b, off, none⟩ cap l Inf.st he hdst (fun j hj => by rw [add_none]; exact ha j _ (by simp [u8c, hj]))
  unfold Oper.wp execOp
  simp only [ho, Sem.run_bind, Sem.run_pure, Result.andThen_ok, hx, hr]
  exact hK _ _ h
end Go.Proofs.YtlfnmbcnehaikaaGreatDoor

set_option linter.unusedVariables false
set_option linter.unusedSimpArgs false
namespace Go.Proofs.YtlfnmbcnehaikaaGreatDoor
open Go.RowKit Lay Mk
theorem rdb_File : Rdb File Tryz.prog 98 := by
  intro H enc w base spare held fuel cs x h
  obtain ⟨xs, n, rfl, _, hl, hlen, hf⟩ := DataW.trod_struct Tryz.underlying98 h
  have hl : cs.length = 3 := hl.trans (by kernel_rfl)
  obtain ⟨y0, hy0⟩ : ∃ y, xs[0]? = some y := ⟨_, List.getElem?_eq_getElem (by rw [hlen]; decide)⟩
  obtain ⟨a0, r0⟩ := rdb_str Tryz.underlying9 H enc w base spare held n _ _ ((hf 0 _ rfl).trans hy0)
  have r0 : rd false w ((cs.drop 0).take (Tryz.prog.cellsOf 9)) a0 All := r0
  rw [show Tryz.prog.cellsOf 9 = 1 from by kernel_rfl] at r0
  obtain ⟨y1, hy1⟩ : ∃ y, xs[1]? = some y := ⟨_, List.getElem?_eq_getElem (by rw [hlen]; decide)⟩
  obtain ⟨a1, r1⟩ := rdb_str Tryz.underlying9 H enc w base spare held n _ _ ((hf 1 _ rfl).trans hy1)
  have r1 : rd false w ((cs.drop 1).take (Tryz.prog.cellsOf 9)) a1 All := r1
  rw [show Tryz.prog.cellsOf 9 = 1 from by kernel_rfl] at r1
  obtain ⟨y2, hy2⟩ : ∃ y, xs[2]? = some y := ⟨_, List.getElem?_eq_getElem (by rw [hlen]; decide)⟩
  obtain ⟨a2, r2⟩ := rdb_int Tryz.underlying3 H enc w base spare held n _ _ ((hf 2 _ rfl).trans hy2)
  have r2 : rd false w ((cs.drop 2).take (Tryz.prog.cellsOf 3)) a2 All := r2
  rw [show Tryz.prog.cellsOf 3 = 1 from by kernel_rfl] at r2
  have hz : rd false w (cs.drop 0) (a0, a1, a2) All := rd_pair_drop r0 (rd_pair_drop r1 (rd_last_drop r2 (by omega)))
  exact ⟨⟨a0, a1, a2⟩, hz⟩
theorem rdb_FileS : Rdb (List File) Tryz.prog 22 := rdb_slice Tryz.underlying22 (by kernel_rfl) (rdb_File)
theorem rdb_Disk : Rdb Disk Tryz.prog 24 := by
  intro H enc w base spare held fuel cs x h
  obtain ⟨xs, n, rfl, _, hl, hlen, hf⟩ := DataW.trod_struct Tryz.underlying24 h
  have hl : cs.length = 1 := hl.trans (by kernel_rfl)
  obtain ⟨y0, hy0⟩ : ∃ y, xs[0]? = some y := ⟨_, List.getElem?_eq_getElem (by rw [hlen]; decide)⟩
  obtain ⟨a0, r0⟩ := rdb_FileS H enc w base spare held n _ _ ((hf 0 _ rfl).trans hy0)
  have r0 : rd false w ((cs.drop 0).take (Tryz.prog.cellsOf 22)) a0 All := r0
  rw [show Tryz.prog.cellsOf 22 = 1 from by kernel_rfl] at r0
  have hz : rd false w (cs.drop 0) (a0) All := rd_last_drop r0 (by omega)
  exact ⟨⟨a0⟩, hz⟩
end Go.Proofs.YtlfnmbcnehaikaaGreatDoor

set_option linter.unusedVariables false
set_option linter.unusedSimpArgs false
namespace Go.Proofs.YtlfnmbcnehaikaaGreatDoor
open Go.RowKit Lay Mk
set_option maxRecDepth 20000 in set_option maxHeartbeats 1000000 in
theorem sz_File (x : File) (w : World) (cs : List Value) (S : Blks) (left : Int) (hx : rd false w cs x S) (h0 : 0 ≤ left) (h1 : left ≤ 1048576) :
    Calls Tryz.prog 74 #[.agg cs.toArray, .int .i64 left] w fun e w' => (∃ n, e = .returned (.int .i64 n) ∧ SzR n left x.sz) ∧ Below w.heap.size w w' := by
  obtain ⟨rfl, f0, f1, f2⟩ := File.open hx
  clear hx
  unfold maxLen at f0 f1
  simp only [File.cs]
  go_enter Tryz.func74, Tryz.ntmps74
  go_wp2_with (fail)
  all_goals (go_ret; refine ⟨⟨_, rfl, ?_⟩, by (repeat (first | exact Below.refl _ _ | apply Below.drew | refine Below.alloc ?_ (by first | with_reducible exact Nat.le_refl _ | omega | (simp; done) | (simp; omega)) _))⟩; first | exact .inl ⟨rfl, by (try simp only [File.sz]) <;> omega⟩ | exact .inr ⟨by (try simp only [File.sz]) <;> omega, by (try simp only [File.sz]) <;> omega⟩)
set_option maxRecDepth 20000 in set_option maxHeartbeats 1000000 in
theorem sz_FileS (xs : List File) (w : World) (A : Option Addr) (cap : Nat) (S : Blks) (left : Int) (hx : Row false w A cap xs S) (hl : xs.length ≤ maxLen) (h0 : 0 ≤ left) (h1 : left ≤ 1048576) :
    Calls Tryz.prog 28 #[.slice A xs.length cap, .int .i64 left] w fun e w' => (∃ n, e = .returned (.int .i64 n) ∧ SzR n left (szL xs)) ∧ Below w.heap.size w w' := by
  unfold maxLen at hl
  have hall := szT_all xs
  go_enter Tryz.func28, Tryz.ntmps28
  go_wp2_with (fail)
  · go_ret; refine ⟨⟨_, rfl, ?_⟩, Below.refl _ _⟩; have := szT_le xs 0; exact .inl ⟨rfl, by omega⟩
  have HA := Lib.hid hall; clear hall
  go_loopw [1, 5] (fun l i wr => ∃ k : Nat, k ≤ xs.length ∧ i = .int .i64 k ∧ l = .int .i64 (left - xs.length - (szT xs k : Int)) ∧ 0 ≤ left - xs.length - (szT xs k : Int) ∧ Below w.heap.size w wr) (fun _ i _ => xs.length - (intOf i).toNat)
  case atStart => exact ⟨0, Nat.zero_le _, rfl, by rw [szT_zero]; simp, by rw [szT_zero]; omega, Below.refl _ _⟩
  case round =>
    obtain ⟨k, hk, rfl, rfl, hpos, hb⟩ := hrel
    have hz := hb.size
    by_cases hlt : k < xs.length
    · have hne : xs ≠ [] := by rintro rfl; simp at hlt
      obtain ⟨b1, o1, rfl, hS, T1, hT1, _, he1⟩ := hx hne
      obtain ⟨c1, ha1, hr1⟩ := he1 k hlt
      have hl1 := ha1.lt (by rintro rfl; have := Lay.len hr1; cases this)
      replace ha1 := ha1.keep (hb.block _ hl1)
      replace hr1 := Lay.later hr1 hb
      have hsu := szT_succ xs k hlt
      have hle := szT_le xs (k + 1)
      have hr2 := Lib.hid hr1
      obtain ⟨rfl, f0, f1, f2⟩ := File.open hr1
      have q0 := ha1 0 _ rfl
      have q1 := ha1 1 _ rfl
      have q2 := ha1 2 _ rfl
      simp only [show Lay.n File = 3 from rfl, Nat.add_zero] at q0 q1 q2
      have hse : Mk.sz xs[k] = xs[k].sz := rfl
      rw [hse] at hsu
      have HS := Lib.hid hsu; clear hsu hse hle ha1 he1
      go_wp2_with (fail)
      refine (sz_File xs[k] _ (File.cs xs[k]) _ _ (Lay.later hr2.out (by (repeat (first | exact Below.refl _ _ | apply Below.drew | refine Below.alloc ?_ (by first | with_reducible exact Nat.le_refl _ | omega | (simp; done) | (simp; omega)) _)))) (by omega) (by omega)).mono ?_
      rintro e1 w1 ⟨⟨n1, rfl, hn1⟩, hb1⟩
      have hB1 : Below w.heap.size w w1 := by refine Below.trans ?_ (hb1.mono ?_) <;> first | ((repeat (first | exact hb | exact Below.refl _ _ | apply Below.drew | refine Below.alloc ?_ (by first | with_reducible exact Nat.le_refl _ | omega | (simp; done) | (simp; omega)) _)); done) | (first | with_reducible exact Nat.le_refl _ | omega | (simp; done) | (simp; omega))
      rcases hn1 with ⟨rfl, hn1⟩ | ⟨rfl, hn1⟩
      · go_wp2
        go_ret; refine ⟨⟨_, rfl, ?_⟩, hB1⟩; have := HS.out; have := HA.out; have := szT_le xs (k + 1); exact .inl ⟨rfl, by omega⟩
      · go_wp2
        go_roundw
        case rel => exact ⟨k + 1, by omega, by go_num, by rw [HS.out]; congr 1; omega, by rw [HS.out]; omega, hB1⟩
        case measure => simp [intOf]; omega
    · have hke : k = xs.length := by omega
      go_wp2
      go_ret; refine ⟨⟨_, rfl, ?_⟩, hb⟩; have := HA.out; subst hke; exact .inr ⟨by omega, by omega⟩
set_option maxRecDepth 20000 in set_option maxHeartbeats 1000000 in
theorem sz_Disk (x : Disk) (w : World) (cs : List Value) (S : Blks) (left : Int) (hx : rd false w cs x S) (h0 : 0 ≤ left) (h1 : left ≤ 1048576) :
    Calls Tryz.prog 7 #[.agg cs.toArray, .int .i64 left] w fun e w' => (∃ n, e = .returned (.int .i64 n) ∧ SzR n left x.sz) ∧ Below w.heap.size w w' := by
  obtain ⟨A0, k0, S0, rfl, a0, b0, r0, s0⟩ := Disk.open hx
  clear hx
  simp only [Disk.cs]
  go_enter Tryz.func7, Tryz.ntmps7
  go_wp2_with (fail)
  try any_goals (go_ret; refine ⟨⟨_, rfl, ?_⟩, by (repeat (first | exact Below.refl _ _ | apply Below.drew | refine Below.alloc ?_ (by first | with_reducible exact Nat.le_refl _ | omega | (simp; done) | (simp; omega)) _))⟩; first | exact .inl ⟨rfl, by (try simp only [Disk.sz]) <;> omega⟩ | exact .inr ⟨by (try simp only [Disk.sz]) <;> omega, by (try simp only [Disk.sz]) <;> omega⟩)
  refine (sz_FileS x.files _ _ _ _ _ (r0.later (by (repeat (first | exact Below.refl _ _ | apply Below.drew | refine Below.alloc ?_ (by first | with_reducible exact Nat.le_refl _ | omega | (simp; done) | (simp; omega)) _)))) (Nat.le_trans a0 b0) (by omega) (by omega)).mono ?_
  rintro e1 w1 ⟨⟨n1, rfl, hn1⟩, hb1⟩
  have hB1 : Below w.heap.size w w1 := by refine Below.trans (b := _) ?_ (hb1.mono ?_) <;> first | (repeat (first | exact Below.refl _ _ | apply Below.drew | refine Below.alloc ?_ (by first | with_reducible exact Nat.le_refl _ | omega | (simp; done) | (simp; omega)) _)); done | (first | with_reducible exact Nat.le_refl _ | omega | (simp; done) | (simp; omega))
  have hz1 : w.heap.size + 1 ≤ w1.heap.size := by have := hb1.size; (try simp at this); omega
  have hc1 := fun o => hb1.cell (p := ⟨w.heap.size, o, none⟩) (by first | with_reducible exact Nat.le_refl _ | omega | (simp; done) | (simp; omega))
  rcases hn1 with ⟨rfl, hn1⟩ | ⟨rfl, hn1⟩
  · go_wp2_with (fail)
    (go_ret; refine ⟨⟨_, rfl, ?_⟩, by (repeat (first | exact hB1 | exact Below.refl _ _ | apply Below.drew | refine Below.alloc ?_ (by first | with_reducible exact Nat.le_refl _ | omega | (simp; done) | (simp; omega)) _))⟩; first | exact .inl ⟨rfl, by (try simp only [Disk.sz]) <;> omega⟩ | exact .inr ⟨by (try simp only [Disk.sz]) <;> omega, by (try simp only [Disk.sz]) <;> omega⟩)
  go_wp2_with (fail)
  all_goals (go_ret; refine ⟨⟨_, rfl, ?_⟩, by (repeat (first | exact hB1 | exact Below.refl _ _ | apply Below.drew | refine Below.alloc ?_ (by first | with_reducible exact Nat.le_refl _ | omega | (simp; done) | (simp; omega)) _))⟩; first | exact .inl ⟨rfl, by (try simp only [Disk.sz]) <;> omega⟩ | exact .inr ⟨by (try simp only [Disk.sz]) <;> omega, by (try simp only [Disk.sz]) <;> omega⟩)
end Go.Proofs.YtlfnmbcnehaikaaGreatDoor

set_option linter.unusedVariables false
set_option linter.unusedSimpArgs false
namespace Go.Proofs.YtlfnmbcnehaikaaGreatDoor
open Go.RowKit Lay Mk
theorem run_make_rowN {P : Program} (t e : TypeId) (i : TypeInfo) (z : Value) (ht : P.underlying t = some (.slice e)) (hi : P.info? e = some i) (hz : i.zero = some z)
    (kl kc : IntKind) (n c : Nat) (hnc : n ≤ c) (hbytes : i.bytes * c ≤ 281474976710656) (h63 : c ≤ 9223372036854775807) (w : World) :
    (Instr.makeSlice t (.int kl (n : Int)) (.int kc (c : Int))).run P w = .ok (.slice (some ⟨w.heap.size, 0, none⟩) n c) (w.alloc (.cells (madeCells z.cells (c * i.size)) e)) := by
  have hb : (i.bytes : Int) * (c : Int) ≤ 281474976710656 := by
    have h : ((i.bytes * c : Nat) : Int) ≤ 281474976710656 := by omega
    rwa [Int.natCast_mul] at h
  have hr := run_make (P := P) w t e i z ht hi hz kl kc n c (by omega) (by omega) hb (by omega)
  simp only [Int.toNat_natCast] at hr
  exact hr
theorem rd_drewC {α : Type} [Lay α] {m : Bool} {w : World} {cs : List Value} {a : α} {S : Blks} (h : rd m w cs a S) : rd m w.drew cs a S := Lay.keep h (fun _ _ => rfl)
theorem rd_setC {α : Type} [Lay α] {m : Bool} {w : World} {cs : List Value} {a : α} {S : Blks} (h : rd m w cs a S) {p : Addr} (hp : ¬ S p.block) (u : Value) : rd m (w.setCell p u) cs a S :=
  Lay.keep h (fun b hb => Below.heap_setCell w p u b (fun e => hp (e ▸ hb)))
theorem madeCells_get (zs : Array Value) (n i : Nat) (hz : 0 < zs.size) (hi : i < n) : (madeCells zs n)[i]? = zs[i % zs.size]? := by
  have hm := Nat.mod_lt i hz
  simp [madeCells, hi, hm]
theorem Row.made {α : Type} [Lay α] [Mk α] {N : Nat} (w : World) (m : Nat) (zs : Array Value) (hN : n α = N) (hz : zs.toList = Mk.zc (α := α)) :
    Row true (w.alloc (.cells (madeCells zs (m * N)) (ty α))) (some ⟨w.heap.size, 0, none⟩) m (([] : List α) ++ List.replicate m (Mk.z : α)) (rng w.heap.size (w.heap.size + 1)) := by
  subst hN
  have hzl : zs.size = n α := by
    have := Lay.len (Mk.zrd (α := α) true w)
    rw [← hz] at this; simpa using this
  have hp := Lay.pos (α := α)
  refine .inr ⟨w.heap.size, _, rfl, by unfold rng; omega, heap_alloc_new w _, by simp [size_madeCells], fun _ _ => False, fun _ _ x => x.elim, fun _ _ _ _ _ x => x.elim, fun i hi => ?_⟩
  have hi' : i < m := by simpa using hi
  refine ⟨Mk.zc (α := α), fun j u hu => ?_, by simpa using Mk.zrd (α := α) true _⟩
  have hj : j < n α := by
    have := (List.getElem?_eq_some_iff.1 hu).1
    have hl := Lay.len (Mk.zrd (α := α) true w)
    omega
  rw [← hz] at hu
  have hlt : i * n α + j < m * n α := by
    have : i * n α + n α ≤ m * n α := by rw [← Nat.succ_mul]; exact Nat.mul_le_mul_right _ hi'
    omega
  rw [cell_of_row _ w.heap.size _ _ _ (0, 0) (heap_alloc_new w _)]
  simp only [Nat.zero_add]
  rw [madeCells_get _ _ _ (by omega) hlt, hzl, Nat.mul_comm, Nat.mul_add_mod, Nat.mod_eq_of_lt hj]
  simpa using hu
theorem take_step {α : Type} (xs : List α) (z : α) (k : Nat) (h : k < xs.length) :
    xs.take (k + 1) ++ List.replicate (xs.length - (k + 1)) z = (xs.take k ++ List.replicate (xs.length - k) z).set k xs[k] := by
  apply List.ext_getElem
  · simp; omega
  · intro j h1 h2
    by_cases e : j = k
    · subst e
      rw [List.getElem_set_self, List.getElem_append_left (by simp; omega)]
      simp
    · rw [List.getElem_set_ne (by omega)]
      by_cases hl : j < k
      · rw [List.getElem_append_left (by simp; omega), List.getElem_append_left (by simp; omega)]
        simp
      · rw [List.getElem_append_right (by simp; omega), List.getElem_append_right (by simp; omega)]
        simp
theorem old_cells {α : Type} [Lay α] {w : World} {g N : Nat} {ys : List α} {T : Nat → Blks} (he : ∀ j (h : j < ys.length), ∃ cs, At w g (0 + j * n α) cs ∧ rd true w cs ys[j] (T j)) (k : Nat) (hk : k < ys.length) (hN : n α = N) :
    ∀ q, q < N → ∃ v, w.cell? ⟨g, k * N + q, none⟩ = some v := by
  subst hN
  intro q hq
  obtain ⟨cs, h1, h2⟩ := he k hk
  have hl := Lay.len h2
  have hc : cs[q]? = some (cs[q]'(by omega)) := List.getElem?_eq_getElem (by omega)
  have := h1 q _ hc
  simp only [Nat.zero_add] at this
  exact ⟨_, this⟩
theorem Row.setU {α : Type} [Lay α] {w w' : World} {g cap N i : Nat} {ys : List α} {S S' U : Blks} {T : Nat → Blks} {y : α} {cs : List Value} (hN : n α = N)
    (hg : S' g) (hSS : sub S S') (hT : ∀ j, sub (T j) (fun b => S b ∧ b ≠ g)) (hd : ∀ i j, i ≠ j → disj (T i) (T j))
    (he : ∀ j (h : j < ys.length), ∃ cs, At w g (0 + j * n α) cs ∧ rd true w cs ys[j] (T j))
    (hi : i < ys.length) (hsh : Shp w' g (ty α) (cap * N))
    (hsame : ∀ o, o / N ≠ i → w'.cell? ⟨g, o, none⟩ = w.cell? ⟨g, o, none⟩)
    (hchg : Chg (fun b => b = g) w w')
    (hat : At w' g (i * N) cs) (hrd : rd true w' cs y U) (hU : sub U (fun b => S' b ∧ b ≠ g)) (hUl : ∀ b, U b → w.heap.size ≤ b) : Row true w' (some ⟨g, 0, none⟩) cap (ys.set i y) S' := by
  subst hN
  obtain ⟨cur', hw', hc'⟩ := hsh
  refine .inr ⟨g, cur', rfl, hg, hw', hc', fun j b => if j = i then U b else (T j b ∧ b < w.heap.size), fun j => ?_, fun _ j k hjk => ?_, fun j hj => ?_⟩
  · intro b hb
    by_cases e : j = i
    · simp only [e, if_true] at hb; exact hU b hb
    · simp only [e, if_false] at hb; exact ⟨hSS b (hT j b hb.1).1, (hT j b hb.1).2⟩
  · intro b hb hb2
    by_cases e1 : j = i
    · have e2 : ¬ k = i := fun h => hjk (e1.trans h.symm)
      simp only [e1, if_true] at hb
      simp only [e2, if_false] at hb2
      have := hUl b hb
      omega
    · simp only [e1, if_false] at hb
      by_cases e2 : k = i
      · simp only [e2, if_true] at hb2
        have := hUl b hb2
        omega
      · simp only [e2, if_false] at hb2
        exact hd j k hjk b hb.1 hb2.1
  · have hj' : j < ys.length := by simpa using hj
    by_cases e : j = i
    · subst e
      refine ⟨cs, by simpa using hat, ?_⟩
      simp only [List.getElem_set_self, if_true]
      exact hrd
    · obtain ⟨c, h1, h2⟩ := he j hj'
      refine ⟨c, ?_, ?_⟩
      · intro q u hu
        have hq : q < n α := by
          have hl := Lay.len h2
          have := (List.getElem?_eq_some_iff.1 hu).1
          omega
        have hs := hsame (j * n α + q) (by
          rw [Nat.mul_comm, Nat.mul_add_div (Lay.pos), Nat.div_eq_of_lt hq]; simpa using e)
        have h1' := h1 q u hu
        simp only [Nat.zero_add] at h1' ⊢
        rw [hs]; exact h1'
      · have hne : ¬ i = j := fun h => e h.symm
        simp only [List.getElem_set, hne, e, if_false]
        exact Lay.keep (Lay.tight h2) (fun b x => hchg.block b x.2 (fun e2 => (hT j b x.1).2 e2))
set_option maxRecDepth 40000 in set_option maxHeartbeats 4000000 in
theorem to_File (x : File) (w : World) (cs : List Value) (S : Blks) (hx : rd false w cs x S) (hsz : x.sz ≤ 1048576) :
    Calls Tryz.prog 79 #[.agg cs.toArray] w fun e w' => ∃ cs', e = .returned (.agg cs'.toArray) ∧ rd true w' cs' x (rng w.heap.size w'.heap.size) ∧ Below w.heap.size w w' := by
  obtain ⟨rfl, f0, f1, f2⟩ := File.open hx
  clear hx
  unfold File.sz at hsz
  simp only [File.cs]
  go_enter Tryz.func79, Tryz.ntmps79
  go_wp2
  refine bodyPost_ret (v := .agg #[.string x.name, .string x.text, .int .i64 x.kept]) (by simp [results, Tryz.results79, go_sem]) rfl ⟨[.string x.name, .string x.text, .int .i64 x.kept], rfl, ?_, by ((repeat (first | with_reducible exact Below.refl _ _ | with_reducible apply Below.drew | with_reducible refine Below.alloc ?_ ?_ _ | with_reducible refine Below.setCell ?_ ?_ _)); all_goals (first | with_reducible exact Nat.le_refl _ | omega | (simp; done) | (simp; omega)))⟩
  exact File.mk' (m := true) (x := x) f0 f1 f2
theorem info_FileS : (Tryz.prog.info? 102).map (fun i => (i.zero, i.size, i.bytes)) = some (some (.agg #[.string ⟨#[]⟩, .string ⟨#[]⟩, .int .i64 0]), 3, 40) := by kernel_rfl
set_option maxRecDepth 40000 in set_option maxHeartbeats 4000000 in
theorem to_FileS (xs : List File) (w : World) (A : Option Addr) (cap : Nat) (S : Blks) (hx : Row false w A cap xs S) (hsz : szL xs ≤ 1048576) :
    Calls Tryz.prog 32 #[.slice A xs.length cap] w fun e w' => ∃ A' cap', e = .returned (.slice A' xs.length cap') ∧ xs.length ≤ cap' ∧ cap' ≤ maxLen ∧ Row true w' A' cap' xs (rng w.heap.size w'.heap.size) ∧ Below w.heap.size w w' := by
  have hl : xs.length ≤ 1048576 := by have := szT_le xs 0; omega
  obtain ⟨i0, hi0, hz0, hz1, hz2⟩ := info_parts info_FileS
  have hmk := fun W => run_make_rowN (P := Tryz.prog) 26 102 i0 _ Tryz.underlying26 hi0 hz0 .i64 .i64 xs.length xs.length (Nat.le_refl _) (by rw [hz2]; omega) (by omega) W
  rw [hz1] at hmk
  clear hi0 hz0 hz1 hz2
  have hm0 := Row.made (α := File) (N := 3) w xs.length (#[.string ByteArray.empty, .string ByteArray.empty, .int .i64 0] : Array Value) rfl rfl
  go_enter Tryz.func32, Tryz.ntmps32
  go_wp2
  go_loopw [4] (fun i wr => ∃ k : Nat, k ≤ xs.length ∧ i = .int .i64 k ∧ Below w.heap.size w wr ∧ w.heap.size + 1 ≤ wr.heap.size ∧ Row true wr (some ⟨w.heap.size, 0, none⟩) xs.length (xs.take k ++ List.replicate (xs.length - k) (Mk.z : File)) (rng w.heap.size wr.heap.size)) (fun i _ => xs.length - (intOf i).toNat)
  case atStart => exact ⟨0, Nat.zero_le _, rfl, by ((repeat (first | with_reducible exact Below.refl _ _ | with_reducible apply Below.drew | with_reducible refine Below.alloc ?_ ?_ _ | with_reducible refine Below.setCell ?_ ?_ _)); all_goals (first | with_reducible exact Nat.le_refl _ | omega | (simp; done) | (simp; omega))), by simp, by have h := hm0; (try simp only [Nat.mul_one] at h); simp only [World.size_alloc]; exact h⟩
  case round =>
    obtain ⟨k, hkk, rfl, hb, hz, hrow⟩ := hrel
    clear hm0
    by_cases hlt : k < xs.length
    · have hne : xs ≠ [] := by rintro rfl; simp at hlt
      obtain ⟨b1, o1, rfl, hS1, T1, hT1, _, he1⟩ := hx hne
      obtain ⟨c1, ha1, hr1⟩ := he1 k hlt
      have hl1 := ha1.lt (by rintro rfl; have := Lay.len hr1; cases this)
      replace ha1 := ha1.keep (hb.block _ hl1)
      replace hr1 := Lay.later hr1 hb
      have hszk := sz_le_L xs k hlt
      have hst := Lib.hid (take_step xs (Mk.z : File) k hlt)
      generalize xs[k] = x at hr1 hszk hst
      rcases hrow with ⟨h_, _⟩ | ⟨g2, cur, e_, _, hh, hcz, T, hT, hd, he⟩
      · cases h_
      cases e_
      have hsh : Shp wr w.heap.size (ty File) (xs.length * 3) := ⟨cur, hh, hcz⟩
      have HE := Lib.hid he; have HD := Lib.hid (hd rfl); have HT := Lib.hid hT
      have ho := old_cells (N := 3) he k (by simp; omega) rfl
      clear he hd hT hh hcz he1 hx
      obtain ⟨v0, ov0⟩ : ∃ v, wr.cell? ⟨w.heap.size, k * 3, none⟩ = some v := by have := ho 0 (by omega); simpa using this
      obtain ⟨v1, ov1⟩ : ∃ v, wr.cell? ⟨w.heap.size, k * 3 + 1, none⟩ = some v := by have := ho 1 (by omega); simpa using this
      obtain ⟨v2, ov2⟩ : ∃ v, wr.cell? ⟨w.heap.size, k * 3 + 2, none⟩ = some v := by have := ho 2 (by omega); simpa using this
      have hf0 := fun o => hsh.frozen o
      clear ho
      have ht := Lib.hid hr1
      obtain ⟨rfl, ef0, ef1, ef2⟩ := File.open hr1
      have q0 := ha1 0 _ rfl
      have q1 := ha1 1 _ rfl
      have q2 := ha1 2 _ rfl
      simp only [show Lay.n File = 3 from rfl, Nat.add_zero] at q0 q1 q2
      clear ha1
      have hszx : x.sz ≤ 1048576 := by have : Mk.sz x = x.sz := rfl; omega
      go_wp2_with (fail)
      refine (to_File x _ (File.cs x) _ (Lay.later ht.out (by ((repeat (first | with_reducible exact Below.refl _ _ | with_reducible apply Below.drew | with_reducible refine Below.alloc ?_ ?_ _ | with_reducible refine Below.setCell ?_ ?_ _)); all_goals (first | with_reducible exact Nat.le_refl _ | omega | (simp; done) | (simp; omega))))) hszx).mono ?_
      rintro e1 w1 ⟨cs1, rfl, hn1, hb1⟩
      have hn2 := Lib.hid hn1
      obtain ⟨rfl, nf0, nf1, nf2⟩ := File.open hn1
      simp only [File.cs]
      have hB1 : Below w.heap.size w w1 := by refine Below.trans (b := _) ?_ (hb1.mono ?_) <;> ((repeat (first | with_reducible exact hb | with_reducible exact Below.refl _ _ | with_reducible apply Below.drew | with_reducible refine Below.alloc ?_ ?_ _ | with_reducible refine Below.setCell ?_ ?_ _)); all_goals (first | with_reducible exact Nat.le_refl _ | omega | (simp; done) | (simp; omega)))
      have hz1 : wr.heap.size ≤ w1.heap.size := by have := hb1.size; (try simp at this); omega
      have hc1 := fun o => hb1.cell (p := ⟨w.heap.size, o, none⟩) (by first | with_reducible exact Nat.le_refl _ | omega | (simp; done) | (simp; omega))
      have hg1 := fun o => hb1.frozen (p := ⟨w.heap.size, o, none⟩) (by first | with_reducible exact Nat.le_refl _ | omega | (simp; done) | (simp; omega))
      have hsh1 : Shp w1 w.heap.size (ty File) (xs.length * 3) := hsh.of (hb1.block _ (by first | with_reducible exact Nat.le_refl _ | omega | (simp; done) | (simp; omega)))
      have hn3 : rd true w1 [.string x.name, .string x.text, .int .i64 x.kept] x (rng wr.heap.size w1.heap.size) := Lay.mono hn2.out (fun b h => by unfold rng at h ⊢; (try simp at h); omega)
      have hq1 : Chg (fun b => b = w.heap.size) wr w1 := (show Chg _ wr _ from by (repeat (first | with_reducible exact Chg.refl _ _ | with_reducible apply Chg.drew))).below hb1 (by first | with_reducible exact Nat.le_refl _ | omega | (simp; done) | (simp; omega))
      go_wp2
      go_roundw
      case rel =>
        refine ⟨k + 1, by omega, by go_num, by ((repeat (first | with_reducible exact hB1 | with_reducible exact Below.refl _ _ | with_reducible apply Below.drew | with_reducible refine Below.alloc ?_ ?_ _ | with_reducible refine Below.setCell ?_ ?_ _)); all_goals (first | with_reducible exact Nat.le_refl _ | omega | (simp; done) | (simp; omega))), by (try simp); omega, ?_⟩
        rw [hst.out]
        refine Row.setU (N := 3) (T := T) (w := wr) (U := (rng wr.heap.size w1.heap.size)) (cs := [.string x.name, .string x.text, .int .i64 x.kept]) rfl (by unfold rng; (try simp); omega) (fun b h => by unfold rng at h ⊢; (try simp); omega) HT.out HD.out HE.out (by simp; omega) (show Shp _ _ (ty File) (xs.length * 3) from by (repeat (first | with_reducible exact hsh1 | with_reducible apply Shp.drew | with_reducible refine Shp.alloc ?_ _ | with_reducible refine Shp.set ?_ _ _))) (fun o ho => ?_) ?_ ?_ ?_ ?_ ?_
        · have n0 : o ≠ k * 3 := by intro h; apply ho; rw [h]; omega
          have n1 : o ≠ k * 3 + 1 := by intro h; apply ho; rw [h]; omega
          have n2 : o ≠ k * 3 + 2 := by intro h; apply ho; rw [h]; omega
          simp only [hc1, cell_set_ne _ _ _ o _ n0, cell_set_ne _ _ _ o _ n1, cell_set_ne _ _ _ o _ n2]
        · exact (show Chg (fun b => b = w.heap.size) wr _ from by (repeat (first | with_reducible exact hq1 | with_reducible apply Chg.drew | with_reducible refine Chg.setCell ?_ ?_ _ | exact Or.inl rfl)))
        · intro j u hu
          have hj : j < 3 := (List.getElem?_eq_some_iff.1 hu).1
          rcases (by omega : j = 0 ∨ j = 1 ∨ j = 2) with rfl | rfl | rfl
          all_goals (have hu := Option.some.inj hu; subst hu; go_simp; try simp)
        · exact (show rd true _ [.string x.name, .string x.text, .int .i64 x.kept] x (rng wr.heap.size w1.heap.size) from by (repeat (first | with_reducible exact hn3 | with_reducible apply rd_drewC | with_reducible refine rd_setC ?_ ?_ _ | exact (fun h => by unfold rng at h; simp only at h; omega))))
        · exact fun b h => by unfold rng at h ⊢; (try simp); constructor <;> omega
        · exact fun b h => by unfold rng at h; exact h.1
      case measure => simp [intOf]; omega
    · have hke : k = xs.length := by omega
      go_wp2
      go_ret; subst hke; exact ⟨some ⟨w.heap.size, 0, none⟩, xs.length, rfl, Nat.le_refl _, by unfold maxLen; omega, by simpa using hrow, hb⟩
set_option maxRecDepth 40000 in set_option maxHeartbeats 4000000 in
theorem to_Disk (x : Disk) (w : World) (cs : List Value) (S : Blks) (hx : rd false w cs x S) (hsz : x.sz ≤ 1048576) :
    Calls Tryz.prog 9 #[.agg cs.toArray] w fun e w' => ∃ cs', e = .returned (.agg cs'.toArray) ∧ rd true w' cs' x (rng w.heap.size w'.heap.size) ∧ Below w.heap.size w w' := by
  obtain ⟨A0, k0, S0, rfl, a0, b0, r0, s0⟩ := Disk.open hx
  clear hx
  unfold Disk.sz at hsz
  simp only [Disk.cs]
  go_enter Tryz.func9, Tryz.ntmps9
  go_wp2_with (fail)
  refine (to_FileS x.files _ A0 k0 S0 (r0.later (by ((repeat (first | with_reducible exact Below.refl _ _ | with_reducible apply Below.drew | with_reducible refine Below.alloc ?_ ?_ _ | with_reducible refine Below.setCell ?_ ?_ _)); all_goals (first | with_reducible exact Nat.le_refl _ | omega | (simp; done) | (simp; omega))))) (by omega)).mono ?_
  rintro e1 w1 ⟨nA0, nk0, rfl, na0, nb0, nr0, hb1⟩
  have hB1 : Below w.heap.size w w1 := by refine Below.trans (b := _) ?_ (hb1.mono ?_) <;> ((repeat (first | with_reducible exact Below.refl _ _ | with_reducible apply Below.drew | with_reducible refine Below.alloc ?_ ?_ _ | with_reducible refine Below.setCell ?_ ?_ _)); all_goals (first | with_reducible exact Nat.le_refl _ | omega | (simp; done) | (simp; omega)))
  have hz1 : w.heap.size + 3 ≤ w1.heap.size := by have := hb1.size; (try simp at this); omega
  have hc1 := fun o => hb1.cell (p := ⟨w.heap.size, o, none⟩) (by first | with_reducible exact Nat.le_refl _ | omega | (simp; done) | (simp; omega))
  have hd1 := fun o => hb1.cell (p := ⟨w.heap.size + 1, o, none⟩) (by first | with_reducible exact Nat.le_refl _ | omega | (simp; done) | (simp; omega))
  have he1 := fun o => hb1.cell (p := ⟨w.heap.size + 2, o, none⟩) (by first | with_reducible exact Nat.le_refl _ | omega | (simp; done) | (simp; omega))
  have hfd1 := fun o => hb1.frozen (p := ⟨w.heap.size + 1, o, none⟩) (by first | with_reducible exact Nat.le_refl _ | omega | (simp; done) | (simp; omega))
  have hfe1 := fun o => hb1.frozen (p := ⟨w.heap.size + 2, o, none⟩) (by first | with_reducible exact Nat.le_refl _ | omega | (simp; done) | (simp; omega))
  have hw1 := hb1.size
  (try simp at hw1)
  have nS0_ : True := trivial
  replace nr0 := nr0.mono (S' := rng (w.heap.size + 3) w1.heap.size) (fun b h => by unfold rng at h ⊢; (try simp at h); omega)
  go_wp2
  refine bodyPost_ret (v := .agg #[.slice nA0 x.files.length nk0]) (by simp [results, Tryz.results9, go_sem, hd1, he1]) rfl ⟨[.slice nA0 x.files.length nk0], rfl, ?_, by ((repeat (first | with_reducible exact hB1 | with_reducible exact Below.refl _ _ | with_reducible apply Below.drew | with_reducible refine Below.alloc ?_ ?_ _ | with_reducible refine Below.setCell ?_ ?_ _)); all_goals (first | with_reducible exact Nat.le_refl _ | omega | (simp; done) | (simp; omega)))⟩
  exact Disk.mk' (m := true) (x := x) na0 nb0 (show Row true _ nA0 nk0 x.files (rng (w.heap.size + 3) w1.heap.size) from by (repeat (first | with_reducible exact nr0 | with_reducible apply Row.drewC | with_reducible refine Row.allocC ?_ _ | with_reducible refine Row.setC ?_ ?_ _ | exact (fun h => by unfold rng at h; simp only at h; omega)))) (fun b h => by unfold rng at h ⊢; simp; omega)
end Go.Proofs.YtlfnmbcnehaikaaGreatDoor

set_option linter.unusedVariables false
set_option linter.unusedSimpArgs false
namespace Go.Proofs.YtlfnmbcnehaikaaGreatDoor
open Lay Mk
theorem cnL_le {α : Type} [Lay α] [Mk α] (K : Nat) (h : ∀ x : α, cn x ≤ K * (sz x + 1)) : ∀ xs : List α, cnL xs ≤ K * szL xs
  | [] => by simp [cnL, szL]
  | x :: xs => by
    have h1 := h x
    have h2 := cnL_le K h xs
    simp only [cnL, szL, List.map_cons, List.sum_cons, List.length_cons] at *
    have e : K * (xs.length + 1 + (sz x + (xs.map sz).sum)) = K * (sz x + 1) + K * (xs.length + (xs.map sz).sum) := by rw [← Nat.mul_add]; congr 1; omega
    omega
theorem cnb_String (x : ByteArray) : cn x ≤ 1 * (sz x + 1) := by show 1 ≤ _; omega
theorem cnb_StringS (xs : List ByteArray) : cnL xs ≤ 1 * szL xs := cnL_le 1 cnb_String xs
theorem cnb_File (x : File) : cn x ≤ 3 * (sz x + 1) := by
  show File.cn x ≤ 3 * (File.sz x + 1)
  skip
  simp only [File.cn, File.sz] <;> omega
theorem cnb_FileS (xs : List File) : cnL xs ≤ 3 * szL xs := cnL_le 3 cnb_File xs
theorem ctb_Disk (x : Disk) : x.ct ≤ 3 * (x.sz + 1) := by
  have := cnb_FileS x.files
  simp only [File.ct, File.sz, Disk.ct, Disk.sz] <;> omega
theorem cnb_Seal (x : Seal) : cn x ≤ 8 * (sz x + 1) := by
  show Seal.cn x ≤ 8 * (Seal.sz x + 1)
  have := cnb_StringS x.sig.open_; have := cnb_StringS x.sig.shut; have := cnb_StringS x.sig.sides
  simp only [Head.cn, Head.sz, Sig.cn, Sig.sz, Seal.cn, Seal.sz] <;> omega
theorem cnb_Pair (x : Pair) : cn x ≤ 16 * (sz x + 1) := by
  show Pair.cn x ≤ 16 * (Pair.sz x + 1)
  have := cnb_StringS x.a.sig.open_; have := cnb_StringS x.a.sig.shut; have := cnb_StringS x.a.sig.sides; have := cnb_StringS x.b.sig.open_; have := cnb_StringS x.b.sig.shut; have := cnb_StringS x.b.sig.sides
  simp only [Head.cn, Head.sz, Sig.cn, Sig.sz, Seal.cn, Seal.sz, Pair.cn, Pair.sz] <;> omega
theorem cnb_SealS (xs : List Seal) : cnL xs ≤ 8 * szL xs := cnL_le 8 cnb_Seal xs
theorem cnb_PairS (xs : List Pair) : cnL xs ≤ 16 * szL xs := cnL_le 16 cnb_Pair xs
end Go.Proofs.YtlfnmbcnehaikaaGreatDoor

set_option linter.unusedVariables false
set_option linter.unusedSimpArgs false
namespace Go.Proofs.YtlfnmbcnehaikaaGreatDoor
def inB (n lo hi : Int) : Bool := decide (lo ≤ n ∧ n ≤ hi)
end Go.Proofs.YtlfnmbcnehaikaaGreatDoor
