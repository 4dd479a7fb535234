/- A part of the proof: what the laws need of it. -/
import Derived.Outline
import Derived.Deep.LoopGhost
import Derived.Deep.RegionHeld3
import Derived.IntWalk
import Derived.Test.YtgllafgpmenjjaaGreatDoorHReL11xDp
set_option linter.unusedVariables false
set_option linter.unusedSimpArgs false
set_option linter.unusedVariables false
set_option linter.unusedSimpArgs false
namespace Go.Proofs.YtgllafgpmenjjaaGreatDoor
open Go.RowKit Lay Mk
def Tabs (w : World) : Prop := (∀ i, i < 64 → w.cell? ⟨1, i, none⟩ = some (.int .u32 (shaKeys.getD i 0))) ∧ (∀ i, i < 8 → w.cell? ⟨0, i, none⟩ = some (.int .u32 (shaFirst.l.getD i 0)))
theorem quiet_add_left {P : Program} {f : FuncId} {args : Array Value} {w : World} {a n : Nat} {v : Value}
    (h : Calls P f args (w.drewN (a + n)) fun e w' => e = .returned v ∧ w.drewN (a + n) = w') :
    Calls P f args (w.drewN (a + n)) fun e w'' => e = .returned v ∧ ∃ m, w'' = w.drewN (a + m) :=
  h.mono fun _ _ ⟨he, hm⟩ => ⟨he, n, hm.symm⟩
theorem Arr.setO8 {w : World} {b V t : Nat} {l : List Int} (h : Arr w b t l) (hb : b ≠ V) (x0 x1 x2 x3 x4 x5 x6 x7 : Value) : Arr ((((((((w.setCell ⟨V, 0, none⟩ x0).setCell ⟨V, 1, none⟩ x1).setCell ⟨V, 2, none⟩ x2).setCell ⟨V, 3, none⟩ x3).setCell ⟨V, 4, none⟩ x4).setCell ⟨V, 5, none⟩ x5).setCell ⟨V, 6, none⟩ x6).setCell ⟨V, 7, none⟩ x7) b t l :=
  Arr.setO (Arr.setO (Arr.setO (Arr.setO (Arr.setO (Arr.setO (Arr.setO (Arr.setO h hb _) hb _) hb _) hb _) hb _) hb _) hb _) hb _
theorem Arr.set8 {w : World} {V t : Nat} {a b c d e f g h : Int} (H : Arr w V t [a, b, c, d, e, f, g, h]) (x0 x1 x2 x3 x4 x5 x6 x7 : Int) : Arr ((((((((w.setCell ⟨V, 0, none⟩ (.int .u32 x0)).setCell ⟨V, 1, none⟩ (.int .u32 x1)).setCell ⟨V, 2, none⟩ (.int .u32 x2)).setCell ⟨V, 3, none⟩ (.int .u32 x3)).setCell ⟨V, 4, none⟩ (.int .u32 x4)).setCell ⟨V, 5, none⟩ (.int .u32 x5)).setCell ⟨V, 6, none⟩ (.int .u32 x6)).setCell ⟨V, 7, none⟩ (.int .u32 x7)) V t [x0, x1, x2, x3, x4, x5, x6, x7] :=
  ((((((((H.set 0 x0).set 1 x1).set 2 x2).set 3 x3).set 4 x4).set 5 x5).set 6 x6).set 7 x7)
theorem Below.set8 {a w : World} {B V : Nat} (h : Below B a w) (hb : B ≤ V) (x0 x1 x2 x3 x4 x5 x6 x7 : Value) : Below B a ((((((((w.setCell ⟨V, 0, none⟩ x0).setCell ⟨V, 1, none⟩ x1).setCell ⟨V, 2, none⟩ x2).setCell ⟨V, 3, none⟩ x3).setCell ⟨V, 4, none⟩ x4).setCell ⟨V, 5, none⟩ x5).setCell ⟨V, 6, none⟩ x6).setCell ⟨V, 7, none⟩ x7) :=
  (((((((h.setCell hb _).setCell hb _).setCell hb _).setCell hb _).setCell hb _).setCell hb _).setCell hb _).setCell hb _
theorem max32 (x : Int) : bits .xor .u32 IntKind.u32.max x = bits .xor .u32 x 4294967295 := by
  show bits .xor .u32 4294967295 x = _
  unfold bits; simp only [BitVec.xor_comm]
theorem still_of {P : Program} {f : FuncId} {args : Array Value} {w : World} {v : Value} (h : Calls P f args w fun e w' => e = .returned v ∧ w = w') : Calls P f args w fun e w'' => e = .returned v ∧ w'' = w := h.mono fun _ _ ⟨he, hm⟩ => ⟨he, hm.symm⟩
theorem Tabs.later {w w' : World} (h : Tabs w) (hb : Below w.heap.size w w') : Tabs w' :=
  ⟨fun i hi => (hb.cell (p := ⟨_, i, none⟩) (block_lt_of_cell (a := ⟨_, i, none⟩) (h.1 i hi))).trans (h.1 i hi), fun i hi => (hb.cell (p := ⟨_, i, none⟩) (block_lt_of_cell (a := ⟨_, i, none⟩) (h.2 i hi))).trans (h.2 i hi)⟩
theorem Arr.at_ {w : World} {b t : Nat} {l : List Int} (h : Arr w b t l) {i : Nat} (hi : i < l.length) : w.cell? ⟨b, i, none⟩ = some (.int .u32 (l.getD i 0)) := by rw [← getD_get hi]; exact h.cell hi
theorem sch_w (b : ByteArray) {k i : Nat} (h : i < k) : W32 ((sch b k).getD i 0) := by
  rw [← getD_get (by rw [sch_len]; exact h)]
  exact sch_lt b k _ (List.getElem_mem _)
theorem Arr.word {w : World} {b t k i : Nat} {blk : ByteArray} (h : Arr w b t (padz (sch blk k) 64)) (hk : k ≤ 64) (hi : i < k) : ∃ x, (sch blk k).getD i 0 = x ∧ W32 x ∧ w.cell? ⟨b, i, none⟩ = some (.int .u32 x) := by
  refine ⟨_, rfl, sch_w blk hi, ?_⟩
  have := h.at_ (i := i) (by rw [padz_len (by rw [sch_len]; omega)]; omega)
  rw [padz_get (by rw [sch_len]; exact hi)] at this
  exact this
theorem S8.arr (s : S8) : arr s.l = #[.int .u32 s.a, .int .u32 s.b, .int .u32 s.c, .int .u32 s.d, .int .u32 s.e, .int .u32 s.f, .int .u32 s.g, .int .u32 s.h] := rfl
theorem Arr.set8r {w : World} {V t : Nat} {a b c d e f g h : Int} (H : Arr w V t [a, b, c, d, e, f, g, h]) (x0 x1 x2 x3 x4 x5 x6 x7 : Int) : Arr ((((((((w.setCell ⟨V, 7, none⟩ (.int .u32 x7)).setCell ⟨V, 6, none⟩ (.int .u32 x6)).setCell ⟨V, 5, none⟩ (.int .u32 x5)).setCell ⟨V, 4, none⟩ (.int .u32 x4)).setCell ⟨V, 3, none⟩ (.int .u32 x3)).setCell ⟨V, 2, none⟩ (.int .u32 x2)).setCell ⟨V, 1, none⟩ (.int .u32 x1)).setCell ⟨V, 0, none⟩ (.int .u32 x0)) V t [x0, x1, x2, x3, x4, x5, x6, x7] :=
  ((((((((H.set 7 x7).set 6 x6).set 5 x5).set 4 x4).set 3 x3).set 2 x2).set 1 x1).set 0 x0)
theorem Arr.setO8r {w : World} {b V t : Nat} {l : List Int} (h : Arr w b t l) (hb : b ≠ V) (x0 x1 x2 x3 x4 x5 x6 x7 : Value) : Arr ((((((((w.setCell ⟨V, 7, none⟩ x7).setCell ⟨V, 6, none⟩ x6).setCell ⟨V, 5, none⟩ x5).setCell ⟨V, 4, none⟩ x4).setCell ⟨V, 3, none⟩ x3).setCell ⟨V, 2, none⟩ x2).setCell ⟨V, 1, none⟩ x1).setCell ⟨V, 0, none⟩ x0) b t l :=
  Arr.setO (Arr.setO (Arr.setO (Arr.setO (Arr.setO (Arr.setO (Arr.setO (Arr.setO h hb _) hb _) hb _) hb _) hb _) hb _) hb _) hb _
theorem Below.set8r {a w : World} {B V : Nat} (h : Below B a w) (hb : B ≤ V) (x0 x1 x2 x3 x4 x5 x6 x7 : Value) : Below B a ((((((((w.setCell ⟨V, 7, none⟩ x7).setCell ⟨V, 6, none⟩ x6).setCell ⟨V, 5, none⟩ x5).setCell ⟨V, 4, none⟩ x4).setCell ⟨V, 3, none⟩ x3).setCell ⟨V, 2, none⟩ x2).setCell ⟨V, 1, none⟩ x1).setCell ⟨V, 0, none⟩ x0) :=
  (((((((h.setCell hb _).setCell hb _).setCell hb _).setCell hb _).setCell hb _).setCell hb _).setCell hb _).setCell hb _
end Go.Proofs.YtgllafgpmenjjaaGreatDoor

set_option linter.unusedVariables false
set_option linter.unusedSimpArgs false
namespace Go.Proofs.YtgllafgpmenjjaaGreatDoor
theorem bLess_dec (a b : ByteArray) : bLess a b = decide (a.toList < b.toList) := by unfold bLess; exact bytesLess_eq _ _
theorem bLess_trans {a b c : ByteArray} (h : bLess a b = true) (k : bLess b c = true) : bLess a c = true := by
  rw [bLess_dec, decide_eq_true_eq] at *; exact List.lt_trans h k
def ltB (n : ByteArray) (x : Leaf) : Bool := bLess x.name n
def gtB (n : ByteArray) (x : Leaf) : Bool := !(bLess x.name n || x.name.toList == n.toList)
theorem gt_yes {n : ByteArray} {x : Leaf} (h : gtB n x = true) : (Op.bytesLess x.name.toList n.toList || x.name.toList == n.toList) = false := by
  unfold gtB bLess at h; revert h; generalize (Op.bytesLess x.name.toList n.toList || x.name.toList == n.toList) = q; cases q <;> simp
theorem gt_no {n : ByteArray} {x : Leaf} (h : gtB n x = false) : (Op.bytesLess x.name.toList n.toList || x.name.toList == n.toList) = true := by
  unfold gtB bLess at h; revert h; generalize (Op.bytesLess x.name.toList n.toList || x.name.toList == n.toList) = q; cases q <;> simp
def putSpec (xs : List Leaf) (n v : ByteArray) : List Leaf := (leafWithout xs n).filter (ltB n) ++ [⟨n, v⟩] ++ (leafWithout xs n).filter (gtB n)
def leafPut (xs : List Leaf) (n v : ByteArray) : List Leaf × Bool := if leavesOk xs && leavesOk (putSpec xs n v) then (putSpec xs n v, true) else (xs, false)
def leafDrop (xs : List Leaf) (n : ByteArray) : List Leaf × Bool := if (leafGet xs n).2 && leavesOk xs then (leafWithout xs n, true) else (xs, false)
def Srt (xs : List Leaf) : Prop := List.Pairwise (fun a b => bLess a.name b.name = true) xs
theorem srt_of {xs : List Leaf} (h : leavesOk xs = true) : Srt xs := by
  unfold leavesOk at h
  rw [Bool.and_eq_true] at h
  have step : ∀ j (hj : j + 1 < xs.length), bLess xs[j].name xs[j + 1].name = true := by
    intro j hj
    have := allN_get h.1 hj
    rw [leafP_at hj, prevLess_succ hj] at this
    simp only [Bool.and_eq_true] at this
    exact this.2
  have all : ∀ j (hj : j < xs.length) i (hij : i < j), bLess (xs[i]'(by omega)).name xs[j].name = true := by
    intro j
    induction j with
    | zero => intro _ i hi; omega
    | succ j ih =>
      intro hj i hi
      by_cases e : i = j
      · subst e; exact step i hj
      · exact bLess_trans (ih (by omega) i (by omega)) (step j hj)
  rw [Srt, List.pairwise_iff_getElem]
  intro i j hi hj hij
  exact all j hj i hij
theorem putSpec_len (xs : List Leaf) (n v : ByteArray) : (putSpec xs n v).length ≤ 2 * xs.length + 1 := by
  unfold putSpec leafWithout
  have h1 := List.length_filter_le (nameNe n) xs
  have h2 := List.length_filter_le (ltB n) (xs.filter (nameNe n))
  have h3 := List.length_filter_le (gtB n) (xs.filter (nameNe n))
  simp only [List.length_append, List.length_cons, List.length_nil]; omega
def applyChange (xs : List Leaf) (u : Change) : List Leaf := if u.value = ⟨#[]⟩ then (leafDrop xs u.name).1 else (leafPut xs u.name u.value).1
theorem leavesOk_len {xs : List Leaf} (h : leavesOk xs = true) : xs.length ≤ 24 := by
  unfold leavesOk at h; rw [Bool.and_eq_true] at h; simpa using h.2
end Go.Proofs.YtgllafgpmenjjaaGreatDoor

set_option linter.unusedVariables false
set_option linter.unusedSimpArgs false
namespace Go.Proofs.YtgllafgpmenjjaaGreatDoor
open Go.RowKit Lay Mk
theorem mapT_snoc {α β : Type} (g : α → β) {l : List α} {k : Nat} (h : k < l.length) : (l.take (k + 1)).map g = (l.take k).map g ++ [g l[k]] := by
  rw [List.take_succ_eq_append_getElem h, List.map_append]; rfl
def headL (xs : List Seal) : List Head := xs.map (fun s => s.head)
set_option maxRecDepth 20000 in set_option maxHeartbeats 4000000 in
theorem impl_headsOf (w : World) (xs : List Seal) (A : Option Addr) (cap : Nat) (S : Blks) (hx : Row false w A cap xs S) (hl : xs.length ≤ 1048576) : Calls Tryz.prog 55 #[.slice A xs.length cap] w (OwnRes (headL xs) w) := by
  go_enter Tryz.func55, Tryz.ntmps55
  go_wp2
  have HO := Lib.hid (Own.start (α := Head) (Below.refl w.heap.size w))
  go_loopw [3, 8] (fun u i wr => ∃ (k : Nat) (L : List Head) (A2 : Option Addr) (c : Nat), k ≤ xs.length ∧ i = .int .i64 k ∧ u = .slice A2 L.length c ∧ Hid (L = (xs.take k).map (fun s => s.head)) ∧ L.length ≤ k ∧ Own w wr A2 c L) (fun _ i _ => xs.length - (intOf i).toNat)
  case atStart => exact ⟨0, [], none, 0, by omega, rfl, rfl, Lib.hid rfl, by simp, HO.out⟩
  case round =>
    clear HO
    obtain ⟨k, L, A2, c, hk, rfl, rfl, HL, hLk, hown⟩ := hrel
    have hb := hown.bl
    have HOW := Lib.hid hown
    by_cases hlt : k < xs.length
    · obtain ⟨b1, o1, cc, T1, rfl, hl1, ha, hr, _, _⟩ := Row.at_ hx hlt
      replace ha := ha.keep (hb.block b1 hl1)
      have HN : Hid ((xs.take (k + 1)).map (fun s => s.head) = L ++ [(xs[k]).head]) := Lib.hid (by rw [mapT_snoc _ hlt, HL.out])
      obtain ⟨s, hs⟩ : ∃ s, xs[k] = s := ⟨_, rfl⟩
      rw [hs] at hr HN
      clear hs
      obtain ⟨D0, m0, U0, D1, m1, U1, D2, m2, U2, rfl, f0, f1, f2, f3, -⟩ := Seal.open hr
      have hok : Flat.ok s.head := (⟨f0, f1, f2, f3⟩ : I64 s.head.house ∧ I64 s.head.epoch ∧ s.head.root.size ≤ maxLen ∧ s.head.prev.size ≤ maxLen)
      clear hr
      rw [show Lay.n Seal = 8 from rfl] at ha
      have e0 := ha 0 _ rfl
      have e1 := ha 1 _ rfl
      have e2 := ha 2 _ rfl
      have e3 := ha 3 _ rfl
      have e4 := ha 4 _ rfl
      have e5 := ha 5 _ rfl
      have e6 := ha 6 _ rfl
      have e7 := ha 7 _ rfl
      simp only [Nat.add_zero] at e0
      have hl3 : b1 < wr.heap.size := Nat.lt_of_lt_of_le hl1 hb.size
      clear ha hown hb f0 f1 f2 f3
      go_wp2_with (at_builtin; refine wpList_push (α := Head) rfl _ _ rfl rfl rfl ((HOW.out.alloc _).alloc _) rfl rfl (src1 hok (by first | rfl | simp) rfl) (by omega) ?_; intro A6 c6 w6 o6 z6)
      go_roundw
      case rel => exact ⟨k + 1, L ++ [s.head], A6, c6, hlt, by go_num, by simp, Lib.hid HN.out.symm, by simp; omega, o6⟩
      case measure => simp [intOf]; omega
    · have HE : Hid (headL xs = L) := Lib.hid (by unfold headL; rw [HL.out, List.take_of_length_le (by omega)])
      clear hown hb
      go_wp2
      go_ret
      exact OwnRes.mk HOW.out HE.out rfl
end Go.Proofs.YtgllafgpmenjjaaGreatDoor

set_option linter.unusedVariables false
set_option linter.unusedSimpArgs false
namespace Go.Proofs.YtgllafgpmenjjaaGreatDoor
open Go.RowKit Lay Mk
set_option maxRecDepth 20000 in set_option maxHeartbeats 4000000 in
theorem spec_l01Below (w : World) (g : Nat) (xs : List UInt8) (A : Option Addr) (cap : Nat) (S : Blks) (hc : Cur w g xs A cap) (hx : Row false w A cap xs S) (hS : ¬ S g) (hl : xs.length ≤ 1048576) (n : Int) (h1 : 0 < n) (h2 : n ≤ 256) : Calls Tryz.prog 73 #[.pointer (some ⟨g, 0, none⟩), .int .i64 n] w fun e w' => ∃ x : Int, e = .returned (.int .i64 x) ∧ 0 ≤ x ∧ x < n ∧ Cur w' g xs A cap ∧ Chg (fun b => b = g) w w' := by
  have hn : ¬ n ≤ 0 := by omega
  have hn0 : n ≠ 0 := by omega
  go_enter Tryz.func73, Tryz.ntmps73
  go_wp2_with (fail)
  refine (spec_l01Byte w g xs A cap S hc hx hS hl).mono ?_
  rintro e0 w1 ⟨x, rfl, hx0, hx1, hc1, hch⟩
  obtain ⟨m, rfl⟩ : ∃ m : Nat, n = m := ⟨n.toNat, by omega⟩
  obtain ⟨y, rfl⟩ : ∃ y : Nat, x = y := ⟨x.toNat, by omega⟩
  go_wp2
  go_ret
  exact ⟨((y : Int) % (m : Int)), rfl, Int.emod_nonneg _ (by omega), Int.emod_lt_of_pos _ (by omega), hc1, hch⟩
end Go.Proofs.YtgllafgpmenjjaaGreatDoor

set_option linter.unusedVariables false
set_option linter.unusedSimpArgs false
namespace Go.Proofs.YtgllafgpmenjjaaGreatDoor
open Go.RowKit Lay Mk
theorem row_root {w : World} {A : Option Addr} {cap : Nat} {ys : List Head} {S : Blks} (h : Row true w A cap ys S) (h0 : 0 < ys.length) : ∃ g, A = some ⟨g, 0, none⟩ ∧ S g ∧ g < w.heap.size ∧ w.cell? ⟨g, 2, none⟩ = some (.string ys[0].root) ∧ (∀ o, w.frozen? ⟨g, o, none⟩ = false) ∧ ∀ rn : ByteArray, rn.size ≤ maxLen → Row true (w.setCell ⟨g, 2, none⟩ (.string rn)) A cap (ys.set 0 ⟨ys[0].house, ys[0].epoch, rn, ys[0].prev⟩) S := by
  rcases h with ⟨_, h, _⟩ | ⟨g, cur, rfl, hg, hb, hs, T, hT, hd, he⟩
  · subst h; simp at h0
  obtain ⟨cs, h1, h2⟩ := he 0 h0
  obtain ⟨rfl, i1, i2, z1, z2⟩ := Head.open h2
  have a : At w g 0 (Head.cs ys[0]) := by simpa using h1
  have c0 : w.cell? ⟨g, 0, none⟩ = some (.int .i64 ys[0].house) := a 0 _ rfl
  have c1 : w.cell? ⟨g, 1, none⟩ = some (.int .i64 ys[0].epoch) := a 1 _ rfl
  have c2 : w.cell? ⟨g, 2, none⟩ = some (.string ys[0].root) := a 2 _ rfl
  have c3 : w.cell? ⟨g, 3, none⟩ = some (.string ys[0].prev) := a 3 _ rfl
  refine ⟨g, rfl, hg, heap_lt hb, c2, fun o => frozen_of_row _ _ o _ _ hb, fun rn hr => ?_⟩
  refine Row.setN (N := 4) (i := 0) (T := T) (cs := Head.cs ⟨ys[0].house, ys[0].epoch, rn, ys[0].prev⟩) rfl hg hT (hd rfl) he h0 (Shp.set ⟨cur, hb, hs⟩ _ _) (fun o ho => cell_set_ne w g 2 o _ (by rintro rfl; exact ho rfl)) (Chg.setCell (Chg.refl _ _) (.inl (.inl rfl)) _) ?_ (Head.mk' i1 i2 hr z2)
  intro j u hu
  simp only [Head.cs] at hu
  rcases j with _ | _ | _ | _ | j
  · have e : Value.int .i64 ys[0].house = u := by simpa using hu
    rw [← e]; exact (cell_set_ne w g 2 0 _ (by decide)).trans c0
  · have e : Value.int .i64 ys[0].epoch = u := by simpa using hu
    rw [← e]; exact (cell_set_ne w g 2 1 _ (by decide)).trans c1
  · have e : Value.string rn = u := by simpa using hu
    rw [← e]; exact World.cell?_setCell_same _ _ _ c2
  · have e : Value.string ys[0].prev = u := by simpa using hu
    rw [← e]; exact (cell_set_ne w g 2 3 _ (by decide)).trans c3
  · simp at hu
theorem szL_set0 {l : List Head} {x : Head} : szL (l.set 0 x) ≤ szL l + sz x := by
  cases l with
  | nil => simp
  | cons a l => simp only [szL, List.set_cons_zero, List.length_cons, List.map_cons, List.sum_cons]; omega
end Go.Proofs.YtgllafgpmenjjaaGreatDoor

set_option linter.unusedVariables false
set_option linter.unusedSimpArgs false
namespace Go.Proofs.YtgllafgpmenjjaaGreatDoor
open Go.RowKit Lay Mk
def Bor (α : Type) : Type := α
instance instBor {α : Type} [Lay α] : Lay (Bor α) where
  ty := ty α
  n := n α
  rd _ w cs a S := rd (α := α) false w cs a S
  pos := pos (α := α)
  len h := Lay.len (α := α) h
  keep h k := Lay.keep (α := α) h k
  mono h k := Lay.mono (α := α) h k
  weak h := h
  tight h := Lay.tight (α := α) h
  one h := Lay.one (α := α) h
instance slBor {α : Type} [Lay α] [SlTy α] : SlTy (Bor α) := ⟨SlTy.st α⟩
instance infBor {α : Type} [Lay α] [SlTy α] [Inf α] : Inf (Bor α) := ⟨Inf.ex (α := α), Inf.st (α := α)⟩
theorem Row.unbor {α : Type} [Lay α] {w : World} {A : Option Addr} {cap : Nat} {xs : List α} {S : Blks} (h : Row (α := Bor α) false w A cap xs S) : Row (α := α) false w A cap xs S := h
theorem Row.lent {α : Type} [Lay α] {w : World} {A : Option Addr} {cap : Nat} {xs : List α} {S : Blks} (h : Row (α := Bor α) true w A cap xs S) : Row (α := α) false w A cap xs S := Row.unbor (Row.weak h)
end Go.Proofs.YtgllafgpmenjjaaGreatDoor

set_option linter.unusedVariables false
set_option linter.unusedSimpArgs false
namespace Go.Proofs.YtgllafgpmenjjaaGreatDoor
open Go.RowKit Lay Mk
def Raw (α : Type) [Lay α] : Type := { l : List Value // l.length = n α ∧ ∀ u ∈ l, u.oneCell' = true }
instance instRaw {α : Type} [Lay α] : Lay (Raw α) where
  ty := ty α
  n := n α
  rd _ _ cs x _ := cs = x.1
  pos := pos (α := α)
  len {_ _ _ x _} h := by rw [h]; exact x.2.1
  keep h _ := h
  mono h _ := h
  weak h := h
  tight h := h
  one {_ _ _ x _} h := by rw [h]; exact x.2.2
instance slRaw {α : Type} [Lay α] [SlTy α] : SlTy (Raw α) := ⟨SlTy.st α⟩
instance infRaw {α : Type} [Lay α] [SlTy α] [Inf α] : Inf (Raw α) := ⟨Inf.ex (α := α), Inf.st (α := α)⟩
instance flatRaw {α : Type} [Lay α] : Flat (Raw α) := ⟨fun x => x.1, fun _ => True, ⟨fun h => ⟨h, trivial⟩, fun h => h.1⟩⟩
def Raw.of {α : Type} [Lay α] {m : Bool} {w : World} {cs : List Value} {x : α} {S : Blks} (h : rd m w cs x S) : Raw α := ⟨cs, Lay.len h, Lay.one h⟩
theorem Row.cook {α : Type} [Lay α] {w : World} {A : Option Addr} {cap : Nat} {rs : List (Raw α)} {xs : List α} {S : Blks} (h : Row (α := Raw α) false w A cap rs S) (hl : rs.length = xs.length) (hr : ∀ i (h1 : i < rs.length) (h2 : i < xs.length), rd (α := α) false w rs[i].1 xs[i] All) : Row (α := α) false w A cap xs All := by
  intro hx
  obtain ⟨b, off, e, -, T, -, -, h3⟩ := h (by rintro rfl; exact hx (List.eq_nil_of_length_eq_zero hl.symm))
  refine ⟨b, off, e, trivial, fun _ => All, fun _ _ _ => trivial, fun hm => (by cases hm), fun i hi => ?_⟩
  obtain ⟨cs, h4, h5⟩ := h3 i (by rw [hl]; exact hi)
  have h6 : cs = (rs[i]'(by rw [hl]; exact hi)).1 := h5
  subst h6
  exact ⟨_, h4, hr i (by rw [hl]; exact hi) hi⟩
end Go.Proofs.YtgllafgpmenjjaaGreatDoor
