/- A part of the proof: what the laws need of it. -/
import Derived.Test.YtgllafgpmenjjaaGreatDoorHReVf
import Derived.Test.YtgllafgpmenjjaaGreatDoorHReL27xNz
import Derived.Test.YtgllafgpmenjjaaGreatDoorHReL23xSkS
import Derived.Test.YtgllafgpmenjjaaGreatDoorHReL18xHo
import Derived.Test.YtgllafgpmenjjaaGreatDoorHReL11xDp
import Derived.Test.YtgllafgpmenjjaaGreatDoorHReL12xDh
import Derived.Deep.DeepCutAuto
import Derived.Test.YtgllafgpmenjjaaGreatDoorHReL24xPu
set_option linter.unusedVariables false
set_option linter.unusedSimpArgs false
set_option linter.unusedVariables false
set_option linter.unusedSimpArgs false
namespace Go.Proofs.YtgllafgpmenjjaaGreatDoor
open Go.RowKit Lay Mk
def codeAt (t : Trust) (house : Int) (name : ByteArray) (xs : List Whole) (i : Nat) : Int := match xs[i]? with
  | some x => (verify t house name ((i : Int) + 1) x).2.2
  | none => 0
def pastV (t : Trust) (house : Int) (name : ByteArray) (xs : List Whole) (k : Nat) : List ByteArray := (List.range k).map (fun (i : Nat) => match xs[i]? with
  | some x => (verify t house name ((i : Int) + 1) x).1
  | none => ⟨#[]⟩)
def prevBad (xs : List Whole) (i : Nat) : Bool := match xs[i]?, xs[i - 1]? with
  | some x, some y => !(x.seal_.head.prev.toList == (headHash y.seal_.head).toList)
  | _, _ => false
def checkPast (t : Trust) (house : Int) (name : ByteArray) (xs : List Whole) : List ByteArray × Int :=
  if xs.length = 0 then ([], 6) else
  match (List.range xs.length).find? (fun i => codeAt t house name xs i != 0) with
  | some i => ([], codeAt t house name xs i)
  | none => if (List.range xs.length).any (fun i => decide (1 ≤ i) && prevBad xs i) then ([], 6) else (pastV t house name xs xs.length, 0)
theorem codeAt_at {t : Trust} {house : Int} {name : ByteArray} {xs : List Whole} {i : Nat} (h : i < xs.length) : codeAt t house name xs i = (verify t house name ((i : Int) + 1) xs[i]).2.2 := by
  unfold codeAt; rw [List.getElem?_eq_getElem h]
theorem prevBad_at {xs : List Whole} {i : Nat} (h : i + 1 < xs.length) : prevBad xs (i + 1) = !((xs[i + 1]).seal_.head.prev.toList == (headHash (xs[i]'(by omega)).seal_.head).toList) := by
  unfold prevBad; rw [Nat.add_sub_cancel, List.getElem?_eq_getElem h, List.getElem?_eq_getElem (by omega)]
theorem cp_bad {t : Trust} {house : Int} {name : ByteArray} {xs : List Whole} {k : Nat} (h : k < xs.length) (h0 : ∀ i, i < k → codeAt t house name xs i = 0) (h1 : codeAt t house name xs k ≠ 0) : checkPast t house name xs = ([], codeAt t house name xs k) := by
  unfold checkPast; rw [if_neg (by omega)]
  rw [show (List.range xs.length).find? (fun i => codeAt t house name xs i != 0) = some k from List.find?_range_eq_some.2 ⟨by simpa using h1, List.mem_range.2 h, fun j hj => by simpa using h0 j hj⟩]
theorem cp_none {t : Trust} {house : Int} {name : ByteArray} {xs : List Whole} (h0 : ∀ i, i < xs.length → codeAt t house name xs i = 0) : (List.range xs.length).find? (fun i => codeAt t house name xs i != 0) = none :=
  List.find?_range_eq_none.2 (fun j hj => by simpa using h0 j hj)
theorem cp_ok {t : Trust} {house : Int} {name : ByteArray} {xs : List Whole} (hn : xs.length ≠ 0) (h0 : ∀ i, i < xs.length → codeAt t house name xs i = 0) (hp : ∀ i, 1 ≤ i → i < xs.length → prevBad xs i = false) : checkPast t house name xs = (pastV t house name xs xs.length, 0) := by
  unfold checkPast; rw [if_neg hn, cp_none h0]
  simp only []
  rw [if_neg]
  intro ha
  obtain ⟨k, hk, hb⟩ := List.any_eq_true.1 ha
  simp only [Bool.and_eq_true, decide_eq_true_eq] at hb
  rw [hp k hb.1 (List.mem_range.1 hk)] at hb
  cases hb.2
end Go.Proofs.YtgllafgpmenjjaaGreatDoor

set_option linter.unusedVariables false
set_option linter.unusedSimpArgs false
namespace Go.Proofs.YtgllafgpmenjjaaGreatDoor
open Go.RowKit Lay Mk
theorem nodeHash_no {xs : List Leaf} {lv pl n : Int} (h : leavesOk xs = false) : nodeHash xs lv pl n = ⟨#[]⟩ := by unfold nodeHash; rw [h]; rfl
theorem nodeHash_out {xs : List Leaf} {lv pl n : Int} (h : inB pl 0 (2 ^ lv.toNat - 1) = false) : nodeHash xs lv pl n = ⟨#[]⟩ := by unfold nodeHash; rw [h]; simp
set_option maxRecDepth 20000 in set_option maxHeartbeats 8000000 in
theorem spec_NodeHash0 (w : World) (xs : List Leaf) (A : Option Addr) (cap : Nat) (S : Blks) (hx : Row false w A cap xs S) (hl : xs.length ≤ 1048576) (hz : szL xs ≤ 1048576) (pl : Int) : Calls Tryz.prog 158 #[.slice A xs.length cap, .int .i64 0, .int .i64 pl, .int .i64 16] w fun e w' => e = .returned (.string (nodeHash xs 0 pl 16)) ∧ Below w.heap.size w w' := by
  have HLV := Lib.hid (spec_LeavesOk w xs A cap S hx (by omega))
  have HI0 := Lib.hid (fun W => spec_in 0 0 8 W)
  rw [show inB (0 : Int) 0 8 = true from rfl] at HI0
  have HIW := Lib.hid (fun W => spec_in 16 1 32 W)
  rw [show inB (16 : Int) 1 32 = true from rfl] at HIW
  cases h1 : leavesOk xs <;> rw [h1] at HLV
  · have HE := Lib.hid (nodeHash_no (lv := 0) (pl := pl) (n := 16) h1)
    clear h1
    go_enter Tryz.func158, Tryz.ntmps158
    go_wp2_with (fail)
    refine HLV.out.mono ?_
    rintro e1 w1 ⟨rfl, hb1⟩
    have HB1 := Lib.hid hb1
    clear hb1
    go_wp2_with (first | (go_at_call 87; with_reducible refine (HI0.out _).mono ?_; rintro e2 w2 ⟨rfl, rfl⟩) | (go_at_call 87; with_reducible refine (HIW.out _).mono ?_; rintro e4 w4 ⟨rfl, rfl⟩))
    go_ret
    exact ⟨ret_str (by rw [HE.out]), HB1.out⟩
  by_cases hneg : pl < 0
  · have HE := Lib.hid (nodeHash_out (xs := xs) (lv := 0) (n := 16) (pl := pl) (inB_no (fun h => by omega)))
    have hd1 : decide (pl < 0) = true := decide_eq_true hneg
    clear h1 hneg
    go_enter Tryz.func158, Tryz.ntmps158
    go_wp2_with (fail)
    refine HLV.out.mono ?_
    rintro e1 w1 ⟨rfl, hb1⟩
    have HB1 := Lib.hid hb1
    clear hb1
    go_wp2_with (first | (go_at_call 87; with_reducible refine (HI0.out _).mono ?_; rintro e2 w2 ⟨rfl, rfl⟩) | (go_at_call 87; with_reducible refine (HIW.out _).mono ?_; rintro e4 w4 ⟨rfl, rfl⟩))
    go_ret
    exact ⟨ret_str (by rw [HE.out]), HB1.out⟩
  have hd1 : decide (pl < 0) = false := decide_eq_false hneg
  by_cases hbig : 1 ≤ pl
  · have HE := Lib.hid (nodeHash_out (xs := xs) (lv := 0) (n := 16) (pl := pl) (inB_no (fun h => by have h2 : pl ≤ 0 := h.2; omega)))
    have hd2 : decide (pl ≥ 1) = true := decide_eq_true hbig
    have hd3 : decide (1 ≤ pl) = true := decide_eq_true hbig
    clear h1 hneg hbig
    go_enter Tryz.func158, Tryz.ntmps158
    go_wp2_with (fail)
    refine HLV.out.mono ?_
    rintro e1 w1 ⟨rfl, hb1⟩
    have HB1 := Lib.hid hb1
    clear hb1
    go_wp2_with (first | (go_at_call 87; with_reducible refine (HI0.out _).mono ?_; rintro e2 w2 ⟨rfl, rfl⟩) | (go_at_call 87; with_reducible refine (HIW.out _).mono ?_; rintro e4 w4 ⟨rfl, rfl⟩))
    go_ret
    exact ⟨ret_str (by rw [HE.out]), HB1.out⟩
  have hd2 : decide (pl ≥ 1) = false := decide_eq_false hbig
  have hd3 : decide (1 ≤ pl) = false := decide_eq_false hbig
  have h3 : inB pl 0 0 = true := inB_yes (by omega) (by omega)
  have hp2 : 0 ≤ pl ∧ pl ≤ 0 := by simpa [inB] using h3
  obtain ⟨p, hp⟩ : ∃ p : Nat, pl = (p : Int) := ⟨pl.toNat, by omega⟩
  have HE : Hid (nodeHash xs 0 pl 16 = nodeD 16 8 p xs) := Lib.hid (by
    unfold nodeHash
    rw [show inB pl 0 (2 ^ (0 : Int).toNat - 1) = true from h3, h1, hp]; rfl)
  subst hp
  have HOK := Lib.hid h1
  have hpl : p < 2 ^ (8 - 8) := by show p < 1; omega
  have HSP := Lib.hid (fun W (h : Below w.heap.size w W) => spec_l10Spots W xs A cap S (Row.later hx h) (by omega) hz)
  clear h1 h3 hp2 hneg hbig
  go_enter Tryz.func158, Tryz.ntmps158
  go_wp2_with (fail)
  refine HLV.out.mono ?_
  rintro e1 w1 ⟨rfl, hb1⟩
  have HB1 := Lib.hid hb1
  clear hb1
  go_wp2_with (first | (go_at_call 87; with_reducible refine (HI0.out _).mono ?_; rintro e2 w2 ⟨rfl, rfl⟩) | (go_at_call 87; with_reducible refine (HIW.out _).mono ?_; rintro e4 w4 ⟨rfl, rfl⟩))
  refine (HSP.out _ HB1.out).mono ?_
  rintro e2 w2 ⟨A2, c2, rfl, o2⟩
  simp only [spotsOf_len]
  have O2 := Lib.hid o2
  have HB2 := Lib.hid (HB1.out.trans (o2.bl.mono HB1.out.size))
  clear o2
  go_wp2_with (fail)
  refine (spec_l10Empties _ 16 (by unfold I64; omega)).mono ?_
  rintro e3 w3 ⟨bE, rfl, hbL, hbE, hE, hb3⟩
  have HND := Lib.hid (show Calls Tryz.prog 163 #[.slice A2 xs.length c2, .int .i64 0, .int .i64 (p : Int), .int .i64 16, .slice (some ⟨bE, 0, none⟩) 9 9] w3 fun e w' => e = .returned (.string (nodeD 16 8 p xs)) ∧ Below w3.heap.size w3 w' from spec_l10Node 16 (by unfold I64; omega) 8 (by omega) w3 p hpl xs HOK.out A2 c2 _ (Row.later O2.out.weak hb3) bE hbE hE)
  have HB3 := Lib.hid (HB2.out.trans (hb3.mono HB2.out.size))
  clear hb3 hE
  go_wp2_with (fail)
  refine HND.out.mono ?_
  rintro e7 w7 ⟨rfl, hb7⟩
  have HB7 := Lib.hid (HB3.out.trans (hb7.mono HB3.out.size))
  clear hb7
  go_wp2
  go_ret
  exact ⟨ret_str (by rw [HE.out]), HB7.out⟩
end Go.Proofs.YtgllafgpmenjjaaGreatDoor

set_option linter.unusedVariables false
set_option linter.unusedSimpArgs false
namespace Go.Proofs.YtgllafgpmenjjaaGreatDoor
open Go.RowKit Lay Mk
structure TriG {κ α β : Type} [Lay κ] [Lay α] [Lay β] (B : Nat) (N : Blks) (w : World) (Ak : Option Addr) (ck : Nat) (ks : List κ) (Au : Option Addr) (cu : Nat) (us : List α) (As : Option Addr) (cs : Nat) (ss : List β) : Prop where
  ex : ∃ K U V : Blks, Row false w Ak ck ks K ∧ Row true w Au cu us U ∧ Row true w As cs ss V ∧ disj K U ∧ disj K V ∧ disj U V ∧ (∀ b, U b → B ≤ b) ∧ (∀ b, V b → B ≤ b) ∧ disj K N ∧ disj U N ∧ disj V N
  nb : ∀ b, N b → b < w.heap.size
  lu : us.length ≤ cu
  mu : cu ≤ maxLen
  ls : ss.length ≤ cs
  ms : cs ≤ maxLen
section
variable {κ α β : Type} [Lay κ] [Lay α] [Lay β] {B : Nat} {N : Blks} {w : World} {Ak : Option Addr} {ck : Nat} {ks : List κ} {Au : Option Addr} {cu : Nat} {us : List α} {As : Option Addr} {cs : Nat} {ss : List β}
theorem TriG.later {w' : World} (h : TriG B N w Ak ck ks Au cu us As cs ss) (hb : Below w.heap.size w w') : TriG B N w' Ak ck ks Au cu us As cs ss := by
  obtain ⟨K, U, V, h1, h2, h3, h4⟩ := h.ex
  exact ⟨⟨K, U, V, Row.later h1 hb, Row.later h2 hb, Row.later h3 hb, h4⟩, fun b x => Nat.lt_of_lt_of_le (h.nb b x) hb.size, h.lu, h.mu, h.ls, h.ms⟩
theorem TriG.chgN {w' : World} (h : TriG B N w Ak ck ks Au cu us As cs ss) (hc : Chg N w w') : TriG B N w' Ak ck ks Au cu us As cs ss := by
  obtain ⟨K, U, V, h1, h2, h3, d1, d2, d3, b1, b2, d4, d5, d6⟩ := h.ex
  exact ⟨⟨K, U, V, Row.chg h1 hc d4, Row.chg h2 hc d5, Row.chg h3 hc d6, d1, d2, d3, b1, b2, d4, d5, d6⟩, fun b x => Nat.lt_of_lt_of_le (h.nb b x) hc.size, h.lu, h.mu, h.ls, h.ms⟩
theorem TriG.fst (h : TriG B N w Ak ck ks Au cu us As cs ss) : ∃ K, Row false w Ak ck ks K := by
  obtain ⟨K, U, V, h1, _⟩ := h.ex
  exact ⟨K, h1⟩
theorem TriG.snd (h : TriG B N w Ak ck ks Au cu us As cs ss) : Row true w Au cu us (nw B) := by
  obtain ⟨K, U, V, h1, h2, h3, d1, d2, d3, b1, b2, d4, d5, d6⟩ := h.ex
  exact h2.mono b1
theorem TriG.thd (h : TriG B N w Ak ck ks Au cu us As cs ss) : Row true w As cs ss (nw B) := by
  obtain ⟨K, U, V, h1, h2, h3, d1, d2, d3, b1, b2, d4, d5, d6⟩ := h.ex
  exact h3.mono b2
theorem TriG.fresh {κ' : Type} [Lay κ'] {w' : World} {A : Option Addr} {c : Nat} {qs : List κ'} (h : TriG B N w Ak ck ks Au cu us As cs ss) (hb : Below w.heap.size w w') (hr : Row false w' A c qs (nw w.heap.size)) : TriG B N w' A c qs Au cu us As cs ss := by
  obtain ⟨K, U, V, h1, h2, h3, d1, d2, d3, b1, b2, d4, d5, d6⟩ := h.ex
  exact ⟨⟨nw w.heap.size, _, _, hr, Row.later h2.tight hb, Row.later h3.tight hb, fun b x y => by have x : w.heap.size ≤ b := x; have := y.2; omega, fun b x y => by have x : w.heap.size ≤ b := x; have := y.2; omega, fun b x y => d3 b x.1 y.1, fun b x => b1 b x.1, fun b x => b2 b x.1, fun b x y => by have x : w.heap.size ≤ b := x; have := h.nb b y; omega, fun b x => d5 b x.1, fun b x => d6 b x.1⟩, fun b x => Nat.lt_of_lt_of_le (h.nb b x) hb.size, h.lu, h.mu, h.ls, h.ms⟩
theorem wpList_trigU [SlTy α] [Inf α] {ops : Array Oper} {rest : List Oper} {o : Oper} {a : Act} {Q : Exit → Act → World → Prop} {v : World} (hgd : o.guard = none) (s x : Operand)
    (ho : o.op = .call { callee := .builtin .append, args := #[s, x], argTypes := #[SlTy.st α, SlTy.st α] })
    {A2 : Option Addr} {c2 k : Nat} {y : α} (hs : a.eval s = .slice Au k cu) (hk : k = us.length) (tri : TriG B N w Ak ck ks Au cu us As cs ss) (hBw : B ≤ w.heap.size) (hb : Below w.heap.size w v)
    (hx : a.eval x = .slice A2 1 c2) (hsrc : Src v A2 [y] none_) (hlim : k ≤ 2000000000)
    (h : ∀ A' c' w', TriG B N w' Ak ck ks A' c' (us ++ [y]) As cs ss → Chg (fun b => B ≤ b ∧ b < w.heap.size ∧ ¬ N b) v w' → wpList Tryz.prog ops Q rest (a.put o.dst (.slice A' (k + 1) c')) w') :
    wpList Tryz.prog ops Q (o :: rest) a v := by
  subst hk
  obtain ⟨K, U, V, h1, h2, h3, d1, d2, d3, b1, b2, d4, d5, d6⟩ := tri.ex
  have hsz := hb.size
  refine wpList_app (α := α) hgd s x ho hs rfl (Row.later h2.tight hb) tri.lu tri.mu hx rfl hsrc (disj_none_ _) (by simp; omega) ?_
  intro A' c' w' q1 q2 q3 q4
  refine h A' c' w' ⟨⟨_, _, _, Row.chgS q4 (Row.later h1.tight hb) (fun b x _ y => d1 b x.1 y.1), q3, Row.chgS q4 (Row.later h3.tight hb) (fun b x _ y => d3 b y.1 x.1), ?_, fun b x y => d2 b x.1 y.1, ?_, ?_, fun b x => b2 b x.1, fun b x => d4 b x.1, ?_, fun b x => d6 b x.1⟩, fun b x => Nat.lt_of_lt_of_le (tri.nb b x) (by have := q4.size; omega), by rw [List.length_append]; exact q1, q2, tri.ls, tri.ms⟩ (q4.mono (fun b _ x => ⟨b1 b x.1, x.2, d5 b x.1⟩))
  · rintro b x (y | y | y)
    · exact d1 b x.1 y.1
    · exact y.elim
    · have := y.1; have := x.2; omega
  · rintro b (y | y | y) x
    · exact d3 b y.1 x.1
    · exact y.elim
    · have := y.1; have := x.2; omega
  · rintro b (y | y | y)
    · exact b1 b y.1
    · exact y.elim
    · have := y.1; omega
  · rintro b (y | y | y) x
    · exact d5 b y.1 x
    · exact y.elim
    · have := y.1; have := tri.nb b x; omega
theorem wpList_trigV [SlTy β] [Inf β] {ops : Array Oper} {rest : List Oper} {o : Oper} {a : Act} {Q : Exit → Act → World → Prop} {v : World} (hgd : o.guard = none) (s x : Operand)
    (ho : o.op = .call { callee := .builtin .append, args := #[s, x], argTypes := #[SlTy.st β, SlTy.st β] })
    {c2 k b : Nat} {y : β} {T : Blks} {ys : Array Value} {t : TypeId} (hs : a.eval s = .slice As k cs) (hk : k = ss.length) (tri : TriG B N w Ak ck ks Au cu us As cs ss) (hBw : B ≤ w.heap.size) (hb : Below w.heap.size w v)
    (hy : rd true v ys.toList y T) (hT : ∀ b, T b → w.heap.size ≤ b) (hx : a.eval x = .slice (some ⟨b, 0, none⟩) 1 c2) (hbb : b = v.heap.size) (hlim : k ≤ 2000000000)
    (h : ∀ A' c' w', TriG B N w' Ak ck ks Au cu us A' c' (ss ++ [y]) → Chg (fun b => B ≤ b ∧ b < w.heap.size ∧ ¬ N b) (v.alloc (.cells ys t)) w' → wpList Tryz.prog ops Q rest (a.put o.dst (.slice A' (k + 1) c')) w') :
    wpList Tryz.prog ops Q (o :: rest) a (v.alloc (.cells ys t)) := by
  subst hk
  obtain ⟨K, U, V, h1, h2, h3, d1, d2, d3, b1, b2, d4, d5, d6⟩ := tri.ex
  have hsz := hb.size
  have hbw : Below w.heap.size w (v.alloc (.cells ys t)) := hb.alloc hb.size _
  refine wpList_app (α := β) hgd s x ho hs rfl (Row.later h3.tight hbw) tri.ls tri.ms hx rfl (srcR v y ys t b hbb hy) (fun q x1 x2 => ?_) (by simp; omega) ?_
  · have h8 := hT q x2.1
    have h9 := x1.2
    omega
  intro A' c' w' q1 q2 q3 q4
  refine h A' c' w' ⟨⟨_, _, _, Row.chgS q4 (Row.later h1.tight hbw) (fun b x _ y => d2 b x.1 y.1), Row.chgS q4 (Row.later h2.tight hbw) (fun b x _ y => d3 b x.1 y.1), q3, fun b x y => d1 b x.1 y.1, ?_, ?_, fun b x => b1 b x.1, ?_, fun b x => d4 b x.1, fun b x => d5 b x.1, ?_⟩, fun b x => Nat.lt_of_lt_of_le (tri.nb b x) (by have := q4.size; rw [World.size_alloc] at this; omega), tri.lu, tri.mu, by rw [List.length_append]; exact q1, q2⟩ (q4.mono (fun b _ x => ⟨b2 b x.1, x.2, d6 b x.1⟩))
  · rintro b x (y | y | y)
    · exact d2 b x.1 y.1
    · have := hT b y.1; have := x.2; omega
    · have := y.1; have := x.2; rw [World.size_alloc] at *; omega
  · rintro b x (y | y | y)
    · exact d3 b x.1 y.1
    · have := hT b y.1; have := x.2; omega
    · have := y.1; have := x.2; rw [World.size_alloc] at *; omega
  · rintro b (y | y | y)
    · exact b2 b y.1
    · have := hT b y.1; omega
    · have := y.1; rw [World.size_alloc] at *; omega
  · rintro b (y | y | y) x
    · exact d6 b y.1 x
    · have := hT b y.1; have := tri.nb b x; omega
    · have := y.1; have := tri.nb b x; rw [World.size_alloc] at *; omega
end
end Go.Proofs.YtgllafgpmenjjaaGreatDoor

set_option linter.unusedVariables false
set_option linter.unusedSimpArgs false
namespace Go.Proofs.YtgllafgpmenjjaaGreatDoor
open Go.RowKit Lay Mk
structure SigCut (W wx : World) (ob : Nat) (x : Sig) (A0 : Option Addr) (k0 : Nat) (A1 : Option Addr) (k1 : Nat) (A2 : Option Addr) (k2 : Nat) : Prop where
  bl : Below W.heap.size W wx
  lt : ob < wx.heap.size
  c0 : wx.cell? ⟨ob, 0, none⟩ = some (.int .i64 x.at_)
  c1 : wx.cell? ⟨ob, 1, none⟩ = some (.slice A0 x.open_.length k0)
  c2 : wx.cell? ⟨ob, 2, none⟩ = some (.slice A1 x.shut.length k1)
  c3 : wx.cell? ⟨ob, 3, none⟩ = some (.slice A2 x.sides.length k2)
  rdx : rd true wx (Sig.cs x A0 k0 A1 k1 A2 k2) x (nw W.heap.size)
theorem set_keep {w : World} {b i j : Nat} {u v : Value} (h : i ≠ j) (k : w.cell? ⟨b, j, none⟩ = some v) : (w.setCell ⟨b, i, none⟩ u).cell? ⟨b, j, none⟩ = some v := (World.cell?_setCell_other _ _ _ _ (ne_off h)).trans k
theorem set_here {w : World} {b i : Nat} {u v : Value} (k : w.cell? ⟨b, i, none⟩ = some v) : (w.setCell ⟨b, i, none⟩ u).cell? ⟨b, i, none⟩ = some u := World.cell?_setCell_same _ _ _ k
theorem chg_atB {w : World} {r o : Nat} {u : Value} : Chg (atB r) w (w.setCell ⟨r, o, none⟩ u) := Chg.setCell (S := atB r) (p := ⟨r, o, none⟩) (Chg.refl _ _) (Or.inl (show atB r r from rfl)) _
theorem SigCut.early {W v : World} {ob lo : Nat} {x : Sig} {A0 : Option Addr} {k0 : Nat} {A1 : Option Addr} {k1 : Nat} {A2 : Option Addr} {k2 : Nat} {u0 u1 u2 u3 : Value} (hb : Below W.heap.size W v) (h0 : W.heap.size ≤ ob) (hl : ob < lo) (hv : ob < v.heap.size) (hr : rd true v (Sig.cs x A0 k0 A1 k1 A2 k2) x (rng lo v.heap.size))
    (y0 : v.cell? ⟨ob, 0, none⟩ = some u0) (y1 : v.cell? ⟨ob, 1, none⟩ = some u1) (y2 : v.cell? ⟨ob, 2, none⟩ = some u2) (y3 : v.cell? ⟨ob, 3, none⟩ = some u3) :
    SigCut W ((((v.setCell ⟨ob, 0, none⟩ (.int .i64 x.at_)).setCell ⟨ob, 1, none⟩ (.slice A0 x.open_.length k0)).setCell ⟨ob, 2, none⟩ (.slice A1 x.shut.length k1)).setCell ⟨ob, 3, none⟩ (.slice A2 x.sides.length k2)) ob x A0 k0 A1 k1 A2 k2 := by
  have hd : disj (rng lo v.heap.size) (atB ob) := fun b h1 h2 => by have h3 : b = ob := h2; have h4 := h1.1; omega
  refine ⟨Below.setCell (Below.setCell (Below.setCell (Below.setCell hb h0 _) h0 _) h0 _) h0 _, by simpa using hv, ?_, ?_, ?_, ?_, ?_⟩
  · exact set_keep (by decide) (set_keep (by decide) (set_keep (by decide) (set_here y0)))
  · exact set_keep (by decide) (set_keep (by decide) (set_here (set_keep (by decide) y1)))
  · exact set_keep (by decide) (set_here (set_keep (by decide) (set_keep (by decide) y2)))
  · exact set_here (set_keep (by decide) (set_keep (by decide) (set_keep (by decide) y3)))
  · exact Lay.mono (Lay.chg (Lay.chg (Lay.chg (Lay.chg hr chg_atB hd) chg_atB hd) chg_atB hd) chg_atB hd) (fun b h => by have := h.1; show W.heap.size ≤ b; omega)
theorem SigCut.late {W v : World} {lo : Nat} {x : Sig} {A0 : Option Addr} {k0 : Nat} {A1 : Option Addr} {k1 : Nat} {A2 : Option Addr} {k2 : Nat} (hb : Below W.heap.size W v) (hl : W.heap.size ≤ lo) (hr : rd true v (Sig.cs x A0 k0 A1 k1 A2 k2) x (rng lo v.heap.size)) (t : TypeId) :
    SigCut W (v.alloc (.cells #[.int .i64 x.at_, .slice A0 x.open_.length k0, .slice A1 x.shut.length k1, .slice A2 x.sides.length k2] t)) v.heap.size x A0 k0 A1 k1 A2 k2 :=
  ⟨hb.alloc hb.size _, by simp, box_cell _ _ _ _ _ rfl, box_cell _ _ _ _ _ rfl, box_cell _ _ _ _ _ rfl, box_cell _ _ _ _ _ rfl, Lay.mono (Lay.later hr ((Below.refl _ _).alloc (Nat.le_refl _) _)) (fun b h => Nat.le_trans hl h.1)⟩
def rngOf (T : Blks) (m : Nat) : Blks := fun b => T b ∧ b < m
def SlRes (R : Seal) (w : World) (e : Ending) (w' : World) : Prop := ∃ c, e = .returned (.tuple #[.agg c.toArray, .bool true]) ∧ rd true w' c R (rng w.heap.size w'.heap.size) ∧ Below w.heap.size w w'
theorem sig4 (w : World) (t : TypeId) : Below w.heap.size w (w.alloc (.cells #[.int .i64 0, .slice none 0 0, .slice none 0 0, .slice none 0 0] t)).drew ∧ (w.alloc (.cells #[.int .i64 0, .slice none 0 0, .slice none 0 0, .slice none 0 0] t)).drew.heap.size = w.heap.size + 1 ∧ (w.alloc (.cells #[.int .i64 0, .slice none 0 0, .slice none 0 0, .slice none 0 0] t)).drew.cell? ⟨w.heap.size, 0, none⟩ = some (.int .i64 0) ∧ (w.alloc (.cells #[.int .i64 0, .slice none 0 0, .slice none 0 0, .slice none 0 0] t)).drew.cell? ⟨w.heap.size, 1, none⟩ = some (.slice none 0 0) ∧ (w.alloc (.cells #[.int .i64 0, .slice none 0 0, .slice none 0 0, .slice none 0 0] t)).drew.cell? ⟨w.heap.size, 2, none⟩ = some (.slice none 0 0) ∧ (w.alloc (.cells #[.int .i64 0, .slice none 0 0, .slice none 0 0, .slice none 0 0] t)).drew.cell? ⟨w.heap.size, 3, none⟩ = some (.slice none 0 0) ∧ ∀ o, (w.alloc (.cells #[.int .i64 0, .slice none 0 0, .slice none 0 0, .slice none 0 0] t)).drew.frozen? ⟨w.heap.size, o, none⟩ = false := ⟨((Below.refl _ _).alloc (Nat.le_refl _) _).drew, by simp, box_cell _ _ _ _ _ rfl, box_cell _ _ _ _ _ rfl, box_cell _ _ _ _ _ rfl, box_cell _ _ _ _ _ rfl, fun o => by simp⟩
theorem sig4n (w : World) (t : TypeId) : Below w.heap.size w (w.alloc (.cells #[.int .i64 0, .slice none 0 0, .slice none 0 0, .slice none 0 0] t)) ∧ (w.alloc (.cells #[.int .i64 0, .slice none 0 0, .slice none 0 0, .slice none 0 0] t)).heap.size = w.heap.size + 1 ∧ (w.alloc (.cells #[.int .i64 0, .slice none 0 0, .slice none 0 0, .slice none 0 0] t)).cell? ⟨w.heap.size, 0, none⟩ = some (.int .i64 0) ∧ (w.alloc (.cells #[.int .i64 0, .slice none 0 0, .slice none 0 0, .slice none 0 0] t)).cell? ⟨w.heap.size, 1, none⟩ = some (.slice none 0 0) ∧ (w.alloc (.cells #[.int .i64 0, .slice none 0 0, .slice none 0 0, .slice none 0 0] t)).cell? ⟨w.heap.size, 2, none⟩ = some (.slice none 0 0) ∧ (w.alloc (.cells #[.int .i64 0, .slice none 0 0, .slice none 0 0, .slice none 0 0] t)).cell? ⟨w.heap.size, 3, none⟩ = some (.slice none 0 0) ∧ ∀ o, (w.alloc (.cells #[.int .i64 0, .slice none 0 0, .slice none 0 0, .slice none 0 0] t)).frozen? ⟨w.heap.size, o, none⟩ = false := ⟨(Below.refl _ _).alloc (Nat.le_refl _) _, by simp, box_cell _ _ _ _ _ rfl, box_cell _ _ _ _ _ rfl, box_cell _ _ _ _ _ rfl, box_cell _ _ _ _ _ rfl, fun o => by simp⟩
set_option maxRecDepth 20000 in set_option maxHeartbeats 16000000 in
theorem spec_SealHead (w : World) (seed : ByteArray) (hs : seed.size ≤ 100) (A : Option Addr) (cap : Nat) (S : Blks) (hx : Row false w A cap (poolOf seed) S) (x : Head) (hok : headOk x = true) : Calls Tryz.prog 118 #[.string seed, .slice A (poolOf seed).length cap, .agg (Head.cs x).toArray] w (SlRes (sealOf seed x) w) := by
  obtain ⟨ha1, ha2⟩ := seal_at hok
  obtain ⟨hh1, hh2, hh3, hh4⟩ := headOk_b hok
  have HHK := Lib.hid (fun W => spec_HeadOk x W)
  simp only [hok] at HHK
  have HSA := Lib.hid (fun W => spec_SealAt x.epoch W)
  rw [ha1] at HSA
  have HHH := Lib.hid (fun W => spec_HeadHash x W)
  have hhl := headHash_le x
  have HST := Lib.hid (fun W (h : Below w.heap.size w W) => spec_SignText W seed hs A cap S (Row.later hx h) (x.epoch.toNat - 1) ha2 (headHash x) (by omega))
  have HRS : Hid (sealOf seed x = ⟨x, signSig seed (x.epoch.toNat - 1) (headHash x)⟩) := Lib.hid rfl
  obtain ⟨R, hR⟩ : ∃ R, sealOf seed x = R := ⟨_, rfl⟩
  rw [hR] at HRS ⊢
  obtain ⟨sg, hsg⟩ : ∃ s, signSig seed (x.epoch.toNat - 1) (headHash x) = s := ⟨_, rfl⟩
  simp only [hsg] at HST
  rw [hsg] at HRS
  obtain ⟨tx, htx⟩ : ∃ s, headHash x = s := ⟨_, rfl⟩
  simp only [htx] at HST HHH
  obtain ⟨an, han⟩ : ∃ n, x.epoch.toNat - 1 = n := ⟨_, rfl⟩
  simp only [han] at HST HSA
  have HX := Lib.hid (And.intro hh1 (And.intro hh2 (And.intro hh3 hh4)))
  clear hR hsg htx han hok ha1 ha2 hhl hx hh1 hh2 hh3 hh4
  simp only [Head.cs] at HHK HHH ⊢
  go_enter Tryz.func118, Tryz.ntmps118
  go_wp2_with (fail)
  obtain ⟨V, hV⟩ : ∃ V, (w.alloc (.cells #[.int .i64 x.house, .int .i64 x.epoch, .string x.root, .string x.prev] 58)).alloc (.cells #[.int .i64 0, .int .i64 0, .string ⟨#[]⟩, .string ⟨#[]⟩, .int .i64 0, .slice none 0 0, .slice none 0 0, .slice none 0 0] 61) = V := ⟨_, rfl⟩
  rw [hV]
  have hVf : Below w.heap.size w V ∧ V.heap.size = w.heap.size + 2 ∧ V.cell? ⟨w.heap.size, 0, none⟩ = some (.int .i64 x.house) ∧ V.cell? ⟨w.heap.size, 1, none⟩ = some (.int .i64 x.epoch) ∧ V.cell? ⟨w.heap.size, 2, none⟩ = some (.string x.root) ∧ V.cell? ⟨w.heap.size, 3, none⟩ = some (.string x.prev) ∧ V.cell? ⟨w.heap.size + 1, 0, none⟩ = some (.int .i64 0) ∧ V.cell? ⟨w.heap.size + 1, 1, none⟩ = some (.int .i64 0) ∧ V.cell? ⟨w.heap.size + 1, 2, none⟩ = some (.string ⟨#[]⟩) ∧ V.cell? ⟨w.heap.size + 1, 3, none⟩ = some (.string ⟨#[]⟩) ∧ V.cell? ⟨w.heap.size + 1, 4, none⟩ = some (.int .i64 0) ∧ V.cell? ⟨w.heap.size + 1, 5, none⟩ = some (.slice none 0 0) ∧ V.cell? ⟨w.heap.size + 1, 6, none⟩ = some (.slice none 0 0) ∧ V.cell? ⟨w.heap.size + 1, 7, none⟩ = some (.slice none 0 0) ∧ ∀ o, V.frozen? ⟨w.heap.size + 1, o, none⟩ = false := by
    have e1 : w.heap.size + 1 = (w.alloc (.cells #[.int .i64 x.house, .int .i64 x.epoch, .string x.root, .string x.prev] 58)).heap.size := by simp
    rw [← hV]
    refine ⟨((Below.refl _ _).alloc (Nat.le_refl _) _).alloc (by simp) _, by simp, cell_alloc (box_cell _ _ _ _ _ rfl), cell_alloc (box_cell _ _ _ _ _ rfl), cell_alloc (box_cell _ _ _ _ _ rfl), cell_alloc (box_cell _ _ _ _ _ rfl), (by rw [e1]; exact box_cell _ _ _ _ _ rfl), (by rw [e1]; exact box_cell _ _ _ _ _ rfl), (by rw [e1]; exact box_cell _ _ _ _ _ rfl), (by rw [e1]; exact box_cell _ _ _ _ _ rfl), (by rw [e1]; exact box_cell _ _ _ _ _ rfl), (by rw [e1]; exact box_cell _ _ _ _ _ rfl), (by rw [e1]; exact box_cell _ _ _ _ _ rfl), (by rw [e1]; exact box_cell _ _ _ _ _ rfl), fun o => by rw [e1]; simp⟩
  obtain ⟨hbV, hsV, h0, h1, h2, h3, z0, z1, z2, z3, z4, z5, z6, z7, zf⟩ := hVf
  have HBV := Lib.hid hbV
  have hlH : w.heap.size < V.heap.size := by omega
  have hlZ : w.heap.size + 1 < V.heap.size := by omega
  have HHV := Lib.hid (fun (w' : World) (h : Below V.heap.size V w') => (⟨(h.cell (p := ⟨w.heap.size, 0, none⟩) hlH).trans h0, (h.cell (p := ⟨w.heap.size, 1, none⟩) hlH).trans h1, (h.cell (p := ⟨w.heap.size, 2, none⟩) hlH).trans h2, (h.cell (p := ⟨w.heap.size, 3, none⟩) hlH).trans h3⟩ : w'.cell? ⟨w.heap.size, 0, none⟩ = some (.int .i64 x.house) ∧ w'.cell? ⟨w.heap.size, 1, none⟩ = some (.int .i64 x.epoch) ∧ w'.cell? ⟨w.heap.size, 2, none⟩ = some (.string x.root) ∧ w'.cell? ⟨w.heap.size, 3, none⟩ = some (.string x.prev)))
  have HZV := Lib.hid (fun (w' : World) (h : Below V.heap.size V w') => (⟨(h.cell (p := ⟨w.heap.size + 1, 0, none⟩) hlZ).trans z0, (h.cell (p := ⟨w.heap.size + 1, 1, none⟩) hlZ).trans z1, (h.cell (p := ⟨w.heap.size + 1, 2, none⟩) hlZ).trans z2, (h.cell (p := ⟨w.heap.size + 1, 3, none⟩) hlZ).trans z3, (h.cell (p := ⟨w.heap.size + 1, 4, none⟩) hlZ).trans z4, (h.cell (p := ⟨w.heap.size + 1, 5, none⟩) hlZ).trans z5, (h.cell (p := ⟨w.heap.size + 1, 6, none⟩) hlZ).trans z6, (h.cell (p := ⟨w.heap.size + 1, 7, none⟩) hlZ).trans z7, fun o => (h.frozen (p := ⟨w.heap.size + 1, o, none⟩) hlZ).trans (zf o)⟩ : w'.cell? ⟨w.heap.size + 1, 0, none⟩ = some (.int .i64 0) ∧ w'.cell? ⟨w.heap.size + 1, 1, none⟩ = some (.int .i64 0) ∧ w'.cell? ⟨w.heap.size + 1, 2, none⟩ = some (.string ⟨#[]⟩) ∧ w'.cell? ⟨w.heap.size + 1, 3, none⟩ = some (.string ⟨#[]⟩) ∧ w'.cell? ⟨w.heap.size + 1, 4, none⟩ = some (.int .i64 0) ∧ w'.cell? ⟨w.heap.size + 1, 5, none⟩ = some (.slice none 0 0) ∧ w'.cell? ⟨w.heap.size + 1, 6, none⟩ = some (.slice none 0 0) ∧ w'.cell? ⟨w.heap.size + 1, 7, none⟩ = some (.slice none 0 0) ∧ ∀ o, w'.frozen? ⟨w.heap.size + 1, o, none⟩ = false))
  clear hV hbV h0 h1 h2 h3 z0 z1 z2 z3 z4 z5 z6 z7 zf
  refine (HHK.out V).mono ?_
  rintro e1 W ⟨rfl, hb1⟩
  have HB1 := Lib.hid hb1
  have HBW := Lib.hid (HBV.out.trans (hb1.mono HBV.out.size))
  obtain ⟨h0, h1, h2, h3⟩ := HHV.out W hb1
  have hVW := hb1.size
  clear hb1 HHK
  have HSTW := Lib.hid (fun W' (h : Below W.heap.size W W') => HST.out W' (HBW.out.trans (h.mono HBW.out.size)))
  clear HST
  have j0 := fun o => (cell_alloc h0 : (W.alloc o).cell? ⟨w.heap.size, 0, none⟩ = _)
  have j1 := fun o => (cell_alloc h1 : (W.alloc o).cell? ⟨w.heap.size, 1, none⟩ = _)
  have j2 := fun o => (cell_alloc h2 : (W.alloc o).cell? ⟨w.heap.size, 2, none⟩ = _)
  have j3 := fun o => (cell_alloc h3 : (W.alloc o).cell? ⟨w.heap.size, 3, none⟩ = _)
  go_upto_region 3 with fail
  go_cut [8, 9] (fun s8 s9 wx => ∃ (ob : Nat) (A0 : Option Addr) (k0 : Nat) (A1 : Option Addr) (k1 : Nat) (A2 : Option Addr) (k2 : Nat), s8 = .pointer (some ⟨ob, 0, none⟩) ∧ s9 = .bool true ∧ Hid (SigCut W wx ob sg A0 k0 A1 k1 A2 k2))
  case first =>
    go_region_law (first | (go_simp; go_at_call 133; refine (HSA.out _).mono ?_; rintro e4 w4 ⟨rfl, rfl⟩) | (go_simp; go_at_call 77; refine (HHH.out ((W.alloc (.cells #[.int .i64 0, .slice none 0 0, .slice none 0 0, .slice none 0 0] 59)).drew)).mono ?_; rintro e5 w5 ⟨rfl, hb5⟩; obtain ⟨g1, g2, g3, g4, g5, g6, g7⟩ := sig4 W 59; have hs5 := hb5.size; have hq5 : W.heap.size < w5.heap.size := (by omega); have y0 := (hb5.cell (p := ⟨W.heap.size, 0, none⟩) (by rw [g2]; exact Nat.lt_succ_self _)).trans g3; have y1 := (hb5.cell (p := ⟨W.heap.size, 1, none⟩) (by rw [g2]; exact Nat.lt_succ_self _)).trans g4; have y2 := (hb5.cell (p := ⟨W.heap.size, 2, none⟩) (by rw [g2]; exact Nat.lt_succ_self _)).trans g5; have y3 := (hb5.cell (p := ⟨W.heap.size, 3, none⟩) (by rw [g2]; exact Nat.lt_succ_self _)).trans g6; have yf := (fun o => (hb5.frozen (p := ⟨W.heap.size, o, none⟩) (by rw [g2]; exact Nat.lt_succ_self _)).trans (g7 o)); have hb := Below.step g1 hb5; clear hb5 g1 g2 g3 g4 g5 g6 g7) | (go_simp; go_at_call 77; refine (HHH.out W.drew).mono ?_; rintro e5 w5 ⟨rfl, hb5⟩; have hb := Below.viad hb5; have hs5 := hb.size; clear hb5) | (go_simp; go_at_call 164; refine (HSTW.out w5 hb).mono ?_; rintro e6 w6 ⟨c6, rfl, hr6, hb6⟩; have hq6 := hb6.size; replace y0 := (hb6.cell (p := ⟨W.heap.size, 0, none⟩) hq5).trans y0; replace y1 := (hb6.cell (p := ⟨W.heap.size, 1, none⟩) hq5).trans y1; replace y2 := (hb6.cell (p := ⟨W.heap.size, 2, none⟩) hq5).trans y2; replace y3 := (hb6.cell (p := ⟨W.heap.size, 3, none⟩) hq5).trans y3; replace yf := (fun o => (hb6.frozen (p := ⟨W.heap.size, o, none⟩) hq5).trans (yf o)); obtain ⟨A0, k0, S0, A1, k1, S1, A2, k2, S2, rfl, -⟩ := Sig.open hr6; have HR6 := Lib.hid hr6; clear hr6; simp only [Sig.cs]) | (go_simp; go_at_call 164; refine (HSTW.out (w5.alloc (.cells #[.int .i64 0, .slice none 0 0, .slice none 0 0, .slice none 0 0] 59)) (hb.alloc hs5 _)).mono ?_; rintro e6 w6 ⟨c6, rfl, hr6, hb6⟩; obtain ⟨g1, g2, g3, g4, g5, g6, g7⟩ := sig4n w5 59; have hq6 := hb6.size; have y0 := (hb6.cell (p := ⟨w5.heap.size, 0, none⟩) (by rw [g2]; exact Nat.lt_succ_self _)).trans g3; have y1 := (hb6.cell (p := ⟨w5.heap.size, 1, none⟩) (by rw [g2]; exact Nat.lt_succ_self _)).trans g4; have y2 := (hb6.cell (p := ⟨w5.heap.size, 2, none⟩) (by rw [g2]; exact Nat.lt_succ_self _)).trans g5; have y3 := (hb6.cell (p := ⟨w5.heap.size, 3, none⟩) (by rw [g2]; exact Nat.lt_succ_self _)).trans g6; have yf := (fun o => (hb6.frozen (p := ⟨w5.heap.size, o, none⟩) (by rw [g2]; exact Nat.lt_succ_self _)).trans (g7 o)); have hbm := hb.trans ((Below.step g1 hb6).mono hs5); obtain ⟨A0, k0, S0, A1, k1, S1, A2, k2, S2, rfl, -⟩ := Sig.open hr6; have HR6 := Lib.hid hr6; rw [g2] at hq6; clear hr6 g1 g3 g4 g5 g6 g7; simp only [Sig.cs]) | (go_simp; go_at_call 164; refine (HSTW.out w5 hb).mono ?_; rintro e6 w6 ⟨c6, rfl, hr6, hb6⟩; have hq6 := hb6.size; have hbl := hb.trans (hb6.mono hs5); obtain ⟨A0, k0, S0, A1, k1, S1, A2, k2, S2, rfl, -⟩ := Sig.open hr6; have HR6 := Lib.hid hr6; clear hr6; simp only [Sig.cs]))
    all_goals (go_wp2_with (fail))
    all_goals (go_meet)
    all_goals (first | exact ⟨W.heap.size, A0, k0, A1, k1, A2, k2, rfl, rfl, Lib.hid (SigCut.early (hb.trans (hb6.mono hb.size)) (Nat.le_refl _) hq5 (by omega) HR6.out y0 y1 y2 y3)⟩ | exact ⟨w5.heap.size, A0, k0, A1, k1, A2, k2, rfl, rfl, Lib.hid (SigCut.early hbm hs5 (by simp) (by omega) HR6.out y0 y1 y2 y3)⟩ | exact ⟨w6.heap.size, A0, k0, A1, k1, A2, k2, rfl, rfl, Lib.hid (SigCut.late hbl hs5 HR6.out _)⟩)
  case rest =>
    obtain ⟨ob, A0, k0, A1, k1, A2, k2, rfl, rfl, HCT⟩ := hcut
    have hbc := HCT.out.bl
    have HBc := Lib.hid (HB1.out.trans (hbc.mono hVW))
    obtain ⟨n0, n1, n2, n3⟩ := HHV.out wc HBc.out
    obtain ⟨z0, z1, z2, z3, z4, z5, z6, z7, zf⟩ := HZV.out wc HBc.out
    have c0 := HCT.out.c0; have c1 := HCT.out.c1; have c2 := HCT.out.c2; have c3 := HCT.out.c3
    have HBcw := Lib.hid (HBV.out.trans (HBc.out.mono HBV.out.size))
    have hsc := HBc.out.size
    clear h0 h1 h2 h3 hbc j0 j1 j2 j3
    go_wp2
    refine bodyPost_ret (v := .tuple #[.agg #[.int .i64 x.house, .int .i64 x.epoch, .string x.root, .string x.prev, .int .i64 sg.at_, .slice A0 sg.open_.length k0, .slice A1 sg.shut.length k1, .slice A2 sg.sides.length k2], .bool true]) (by simp [results, Tryz.results118, go_sem, *]) rfl ?_
    obtain ⟨B0, l0, T0, B1, l1, T1, B2, l2, T2, hcs, i4, p0, q0, r0, s0, p1, q1, r1, s1, p2, q2, r2, s2, pw⟩ := Sig.open HCT.out.rdx
    simp only [Sig.cs, List.cons.injEq, Value.slice.injEq, and_true, true_and] at hcs
    obtain ⟨⟨rfl, rfl⟩, ⟨rfl, rfl⟩, rfl, rfl⟩ := hcs
    have hn0 : ∀ o : Nat, ¬ rngOf T0 wc.heap.size (⟨w.heap.size + 1, o, none⟩ : Addr).block := fun o h => by have h1 : W.heap.size ≤ w.heap.size + 1 := s0 _ h.1; omega
    have hn1 : ∀ o : Nat, ¬ rngOf T1 wc.heap.size (⟨w.heap.size + 1, o, none⟩ : Addr).block := fun o h => by have h1 : W.heap.size ≤ w.heap.size + 1 := s1 _ h.1; omega
    have hn2 : ∀ o : Nat, ¬ rngOf T2 wc.heap.size (⟨w.heap.size + 1, o, none⟩ : Addr).block := fun o h => by have h1 : W.heap.size ≤ w.heap.size + 1 := s2 _ h.1; omega
    have u0 : Row true wc A0 k0 sg.open_ (rngOf T0 wc.heap.size) := r0.tight
    have u1 : Row true wc A1 k1 sg.shut (rngOf T1 wc.heap.size) := r1.tight
    have u2 : Row true wc A2 k2 sg.sides (rngOf T2 wc.heap.size) := r2.tight
    refine ⟨Seal.cs R A0 k0 A1 k1 A2 k2, by rw [HRS.out]; rfl, ?_, Below.setCell (Below.setCell (Below.setCell (Below.setCell (Below.setCell (Below.setCell (Below.setCell (Below.setCell HBcw.out (Nat.le_succ _) _) (Nat.le_succ _) _) (Nat.le_succ _) _) (Nat.le_succ _) _) (Nat.le_succ _) _) (Nat.le_succ _) _) (Nat.le_succ _) _) (Nat.le_succ _) _⟩
    rw [HRS.out]
    refine Seal.mk' (x := ⟨x, sg⟩) (S0 := rngOf T0 wc.heap.size) (S1 := rngOf T1 wc.heap.size) (S2 := rngOf T2 wc.heap.size) (show I64 x.house from by have := HX.out.1; unfold I64; omega) (show I64 x.epoch from by have := HX.out.2.1; unfold I64; omega) (show x.root.size ≤ maxLen from by have := HX.out.2.2.1; unfold maxLen; omega) (show x.prev.size ≤ maxLen from by have := HX.out.2.2.2; unfold maxLen; omega) i4 p0 q0 ((((((((u0.setC (hn0 0) _).setC (hn0 1) _).setC (hn0 2) _).setC (hn0 3) _).setC (hn0 4) _).setC (hn0 5) _).setC (hn0 6) _).setC (hn0 7) _) (fun b h => ?_) p1 q1 ((((((((u1.setC (hn1 0) _).setC (hn1 1) _).setC (hn1 2) _).setC (hn1 3) _).setC (hn1 4) _).setC (hn1 5) _).setC (hn1 6) _).setC (hn1 7) _) (fun b h => ?_) p2 q2 ((((((((u2.setC (hn2 0) _).setC (hn2 1) _).setC (hn2 2) _).setC (hn2 3) _).setC (hn2 4) _).setC (hn2 5) _).setC (hn2 6) _).setC (hn2 7) _) (fun b h => ?_) (fun hm => ?_)
    · have h1 : W.heap.size ≤ b := s0 b h.1; have h2 := h.2; unfold rng; simp; omega
    · have h1 : W.heap.size ≤ b := s1 b h.1; have h2 := h.2; unfold rng; simp; omega
    · have h1 : W.heap.size ≤ b := s2 b h.1; have h2 := h.2; unfold rng; simp; omega
    · exact pwmk3 (fun b h1 h2 => pwget3_0_1 (pw hm) b h1.1 h2.1) (fun b h1 h2 => pwget3_0_2 (pw hm) b h1.1 h2.1) (fun b h1 h2 => pwget3_1_2 (pw hm) b h1.1 h2.1)
end Go.Proofs.YtgllafgpmenjjaaGreatDoor
