/- A part of the proof: what the laws need of it. -/
import Derived.Test.YtojbehmbeoemgaaDoorHMoYq
import Derived.Test.YtojbehmbeoemgaaDoorHMoL24xYn
import Derived.Test.YtojbehmbeoemgaaDoorHMoL10xDt
import Derived.Test.YtojbehmbeoemgaaDoorHMoL20xBk
set_option linter.unusedVariables false
set_option linter.unusedSimpArgs false
set_option linter.unusedVariables false
set_option linter.unusedSimpArgs false
namespace Go.Proofs.YtojbehmbeoemgaaDoor
open Go.RowKit Lay Mk
def atB (r : Nat) : Blks := fun b => b = r
theorem ne_off {b i j : Nat} (h : i ≠ j) : (⟨b, i, none⟩ : Addr) ≠ ⟨b, j, none⟩ := fun e => h (by injection e)
theorem step_pushN {α : Type} [Lay α] [SlTy α] [Inf α] {ops : Array Oper} {o : Oper} {a : Act} {K : Act → World → Prop} {Q : Exit → Act → World → Prop} {E : Prop} {w1 w : World} {B : Nat} (hgd : o.guard = none) (s x : Operand)
    (ho : o.op = .call { callee := .builtin .append, args := #[s, x], argTypes := #[SlTy.st α, SlTy.st α] })
    {A A2 : Option Addr} {c c2 k : Nat} {L : List α} {y : α} {T : Blks} (hs : a.eval s = .slice A k c) (hk : k = L.length) (hrow : Row true w1 A c L (nw B)) (hle : L.length ≤ c) (hcm : c ≤ maxLen) (hBw : B ≤ w1.heap.size) (hb : Below w1.heap.size w1 w)
    (hx : a.eval x = .slice A2 1 c2) (hsrc : Src w A2 [y] T) (hT : ∀ b, T b → w1.heap.size ≤ b) (hlim : k ≤ 2000000000)
    (h : ∀ A' c' w', Row true w' A' c' (L ++ [y]) (nw B) → (L ++ [y]).length ≤ c' → c' ≤ maxLen → Below B w w' → K (a.put o.dst (.slice A' (k + 1) c')) w') :
    if Region.wanted o (yielded ops a.tmps) = true then Oper.wp Tryd.prog o a w K Q else E := by
  subst hk
  have h7 := hb.size
  refine step_app (α := α) hgd s x ho hs rfl (Row.later (to_rng hrow) hb) hle hcm hx rfl hsrc (fun q h1 h2 => ?_) (by omega) ?_
  · have h3 := hT q h2
    have h4 : q < w1.heap.size := h1.2
    omega
  intro A' c' w' h1 h2 h3 h4
  refine h A' c' w' (h3.mono (fun q hq => ?_)) (by rw [List.length_append]; exact h1) h2 (h4.to_below (by omega) (fun q hq => hq.1))
  show B ≤ q
  rcases hq with hq | hq | hq
  · exact hq.1
  · have := hT q hq; omega
  · have := hq.1; omega
structure Tri (B r : Nat) (w : World) (Ak : Option Addr) (ck : Nat) (ks : List Int) (Au : Option Addr) (cu : Nat) (us : List Int) (As : Option Addr) (cs : Nat) (ss : List ByteArray) : Prop where
  ex : ∃ K U V : Blks, Row false w Ak ck ks K ∧ Row true w Au cu us U ∧ Row true w As cs ss V ∧ disj K U ∧ disj K V ∧ disj U V ∧ (∀ b, U b → B ≤ b) ∧ (∀ b, V b → B ≤ b) ∧ ¬ K r
  lu : us.length ≤ cu
  mu : cu ≤ maxLen
  ls : ss.length ≤ cs
  ms : cs ≤ maxLen
section
variable {B r : Nat} {w : World} {Ak : Option Addr} {ck : Nat} {ks : List Int} {Au : Option Addr} {cu : Nat} {us : List Int} {As : Option Addr} {cs : Nat} {ss : List ByteArray}
theorem Tri.start {K : Blks} (hk : Row false w Ak ck ks K) (hr : ¬ K r) : Tri B r w Ak ck ks none 0 [] none 0 [] :=
  ⟨⟨K, none_, none_, hk, row_nil _ _, row_nil _ _, fun _ _ h => h.elim, fun _ _ h => h.elim, fun _ h => h.elim, fun _ h => h.elim, fun _ h => h.elim, hr⟩, Nat.le_refl _, by decide, Nat.le_refl _, by decide⟩
theorem Tri.later {w' : World} (h : Tri B r w Ak ck ks Au cu us As cs ss) (hb : Below w.heap.size w w') : Tri B r w' Ak ck ks Au cu us As cs ss := by
  obtain ⟨K, U, V, h1, h2, h3, h4⟩ := h.ex
  exact ⟨⟨K, U, V, Row.later h1 hb, Row.later h2 hb, Row.later h3 hb, h4⟩, h.lu, h.mu, h.ls, h.ms⟩
theorem Tri.alloc (h : Tri B r w Ak ck ks Au cu us As cs ss) (o : Obj) : Tri B r (w.alloc o) Ak ck ks Au cu us As cs ss := h.later ((Below.refl _ _).alloc (Nat.le_refl _) _)
theorem Tri.setC (h : Tri B r w Ak ck ks Au cu us As cs ss) (hr : r < B) (o : Nat) (u : Value) : Tri B r (w.setCell ⟨r, o, none⟩ u) Ak ck ks Au cu us As cs ss := by
  obtain ⟨K, U, V, h1, h2, h3, d1, d2, d3, b1, b2, hk⟩ := h.ex
  exact ⟨⟨K, U, V, h1.setC hk _, h2.setC (fun x => by have := b1 _ x; simp only at this; omega) _, h3.setC (fun x => by have := b2 _ x; simp only at this; omega) _, d1, d2, d3, b1, b2, hk⟩, h.lu, h.mu, h.ls, h.ms⟩
theorem Tri.known (h : Tri B r w Ak ck ks Au cu us As cs ss) : ∃ K, Row false w Ak ck ks K := by
  obtain ⟨K, U, V, h1, _⟩ := h.ex
  exact ⟨K, h1⟩
theorem Tri.ups (h : Tri B r w Ak ck ks Au cu us As cs ss) : Row true w Au cu us (nw B) := by
  obtain ⟨K, U, V, h1, h2, h3, d1, d2, d3, b1, b2, hk⟩ := h.ex
  exact h2.mono b1
theorem Tri.sides (h : Tri B r w Ak ck ks Au cu us As cs ss) : Row true w As cs ss (nw B) := by
  obtain ⟨K, U, V, h1, h2, h3, d1, d2, d3, b1, b2, hk⟩ := h.ex
  exact h3.mono b2
theorem Tri.next (h : Tri B r w Ak ck ks Au cu us As cs ss) (hr : r < B) : Tri B r w Au cu us none 0 [] As cs ss := by
  obtain ⟨K, U, V, h1, h2, h3, d1, d2, d3, b1, b2, hk⟩ := h.ex
  exact ⟨⟨U, none_, V, h2.weak, row_nil _ _, h3, fun _ _ h => h.elim, d3, fun _ h => h.elim, fun _ h => h.elim, b2, fun x => by have := b1 _ x; omega⟩, Nat.le_refl _, by decide, h.ls, h.ms⟩
theorem Tri.fresh {w' : World} {A : Option Addr} {c : Nat} {qs : List Int} (h : Tri B r w Ak ck ks Au cu us As cs ss) (hr : r < B) (hB : B ≤ w.heap.size) (o : Own w w' A c qs) : Tri B r w' A c qs none 0 [] As cs ss := by
  obtain ⟨K, U, V, h1, h2, h3, d1, d2, d3, b1, b2, hk⟩ := h.ex
  exact ⟨⟨nw w.heap.size, none_, _, o.weak, row_nil _ _, Row.later h3.tight o.bl, fun _ _ h => h.elim, fun b x y => by have h1 : w.heap.size ≤ b := x; have := y.2; omega, fun _ h => h.elim, fun _ h => h.elim, fun b x => b2 b x.1, fun x => by have h1 : w.heap.size ≤ r := x; omega⟩, Nat.le_refl _, by decide, h.ls, h.ms⟩
theorem step_triS {ops : Array Oper} {o : Oper} {a : Act} {K0 : Act → World → Prop} {Q : Exit → Act → World → Prop} {E : Prop} (hgd : o.guard = none) (s x : Operand)
    (ho : o.op = .call { callee := .builtin .append, args := #[s, x], argTypes := #[SlTy.st ByteArray, SlTy.st ByteArray] })
    {A2 : Option Addr} {c2 k : Nat} {y : ByteArray} (hs : a.eval s = .slice As k cs) (hk : k = ss.length) (tri : Tri B r w Ak ck ks Au cu us As cs ss) (hBw : B ≤ w.heap.size)
    (hx : a.eval x = .slice A2 1 c2) (hsrc : Src w A2 [y] none_) (hlim : k ≤ 2000000000)
    (h : ∀ A' c' w', Tri B r w' Ak ck ks Au cu us A' c' (ss ++ [y]) → Below B w w' → K0 (a.put o.dst (.slice A' (k + 1) c')) w') :
    if Region.wanted o (yielded ops a.tmps) = true then Oper.wp Tryd.prog o a w K0 Q else E := by
  subst hk
  obtain ⟨K, U, V, h1, h2, h3, d1, d2, d3, b1, b2, hkr⟩ := tri.ex
  refine step_app (α := ByteArray) hgd s x ho hs rfl h3 tri.ls tri.ms hx rfl hsrc (disj_none_ _) (by omega) ?_
  intro A' c' w' q1 q2 q3 q4
  refine h A' c' w' ⟨⟨_, _, _, Row.chgS q4 h1.tight (fun b x _ y => d2 b x.1 y), Row.chgS q4 h2.tight (fun b x _ y => d3 b x.1 y), q3, fun b x y => d1 b x.1 y.1, ?_, ?_, fun b x => b1 b x.1, ?_, fun x => hkr x.1⟩, tri.lu, tri.mu, by rw [List.length_append]; exact q1, q2⟩ (q4.to_below hBw b2)
  · rintro b x (y | y | y)
    · exact d2 b x.1 y
    · exact y.elim
    · have := y.1; have := x.2; omega
  · rintro b x (y | y | y)
    · exact d3 b x.1 y
    · exact y.elim
    · have := y.1; have := x.2; omega
  · rintro b (y | y | y)
    · exact b2 b y
    · exact y.elim
    · exact Nat.le_trans hBw y.1
theorem wpList_triU {ops : Array Oper} {rest : List Oper} {o : Oper} {a : Act} {Q : Exit → Act → World → Prop} (hgd : o.guard = none) (s x : Operand)
    (ho : o.op = .call { callee := .builtin .append, args := #[s, x], argTypes := #[SlTy.st Int, SlTy.st Int] })
    {A2 : Option Addr} {c2 k : Nat} {y : Int} (hs : a.eval s = .slice Au k cu) (hk : k = us.length) (tri : Tri B r w Ak ck ks Au cu us As cs ss) (hBw : B ≤ w.heap.size)
    (hx : a.eval x = .slice A2 1 c2) (hsrc : Src w A2 [y] none_) (hlim : k ≤ 2000000000)
    (h : ∀ A' c' w', Tri B r w' Ak ck ks A' c' (us ++ [y]) As cs ss → Below B w w' → w.heap.size ≤ w'.heap.size → wpList Tryd.prog ops Q rest (a.put o.dst (.slice A' (k + 1) c')) w') :
    wpList Tryd.prog ops Q (o :: rest) a w := by
  subst hk
  obtain ⟨K, U, V, h1, h2, h3, d1, d2, d3, b1, b2, hkr⟩ := tri.ex
  refine wpList_app (α := Int) hgd s x ho hs rfl h2 tri.lu tri.mu hx rfl hsrc (disj_none_ _) (by simp; omega) ?_
  intro A' c' w' q1 q2 q3 q4
  refine h A' c' w' ⟨⟨_, _, _, Row.chgS q4 h1.tight (fun b x _ y => d1 b x.1 y), q3, Row.chgS q4 h3.tight (fun b x _ y => d3 b y x.1), ?_, fun b x y => d2 b x.1 y.1, ?_, ?_, fun b x => b2 b x.1, fun x => hkr x.1⟩, by rw [List.length_append]; exact q1, q2, tri.ls, tri.ms⟩ (q4.to_below hBw b1) q4.size
  · rintro b x (y | y | y)
    · exact d1 b x.1 y
    · exact y.elim
    · have := y.1; have := x.2; omega
  · rintro b (y | y | y) x
    · exact d3 b y x.1
    · exact y.elim
    · have := y.1; have := x.2; omega
  · rintro b (y | y | y)
    · exact b1 b y
    · exact y.elim
    · exact Nat.le_trans hBw y.1
end
def PmRes (R : Many × Bool) (w : World) (e : Ending) (w' : World) : Prop := ∃ c, e = .returned (.tuple #[.agg c.toArray, .bool R.2]) ∧ rd true w' c R.1 (rng w.heap.size w'.heap.size) ∧ Below w.heap.size w w'
theorem PmRes.mk {R : Many × Bool} {N : List ByteArray} {Bs : List (List Leaf)} {Sd : List ByteArray} {b : Bool} {w w' : World} {A0 A1 A2 : Option Addr} {k0 k1 k2 n0 n1 n2 : Nat} {S0 S1 S2 : Blks} (hR : R = (⟨N, Bs, Sd⟩, b)) (e0 : n0 = N.length) (e1 : n1 = Bs.length) (e2 : n2 = Sd.length)
    (l0 : N.length ≤ k0) (m0 : k0 ≤ maxLen) (r0 : Row true w' A0 k0 N S0) (l1 : Bs.length ≤ k1) (m1 : k1 ≤ maxLen) (r1 : Row true w' A1 k1 Bs S1) (l2 : Sd.length ≤ k2) (m2 : k2 ≤ maxLen) (r2 : Row true w' A2 k2 Sd S2) (d1 : disj S0 S1) (d2 : disj S0 S2) (d3 : disj S1 S2)
    (s0 : sub S0 (rng w.heap.size w'.heap.size)) (s1 : sub S1 (rng w.heap.size w'.heap.size)) (s2 : sub S2 (rng w.heap.size w'.heap.size)) (hb : Below w.heap.size w w') :
    PmRes R w (.returned (.tuple #[.agg #[.slice A0 n0 k0, .slice A1 n1 k1, .slice A2 n2 k2], .bool b])) w' := by
  subst hR; subst e0; subst e1; subst e2
  exact ⟨[.slice A0 N.length k0, .slice A1 Bs.length k1, .slice A2 Sd.length k2], rfl, Many.mk' (x := ⟨N, Bs, Sd⟩) l0 m0 r0 s0 l1 m1 r1 s1 l2 m2 r2 s2 (fun _ => pwmk3 d1 d2 d3), hb⟩
theorem PmRes.nil {R : Many × Bool} {w w' : World} (hR : R = (mzero, false)) (hb : Below w.heap.size w w') : PmRes R w (.returned (.tuple #[.agg #[.slice none 0 0, .slice none 0 0, .slice none 0 0], .bool false])) w' :=
  PmRes.mk (S0 := none_) (S1 := none_) (S2 := none_) hR rfl rfl rfl (Nat.le_refl _) (by decide) (row_nil _ _) (Nat.le_refl _) (by decide) (row_nil _ _) (Nat.le_refl _) (by decide) (row_nil _ _) (disj_none_ _) (disj_none_ _) (disj_none_ _) (fun _ h => h.elim) (fun _ h => h.elim) (fun _ h => h.elim) hb
theorem pm_no {xs : List Leaf} {names : List ByteArray} {n : Int} (h : proveForm xs names n = false) : proveMany xs names n = (mzero, false) := by unfold proveMany; rw [if_neg (by simp [h])]
theorem pm_yes {xs : List Leaf} {names : List ByteArray} {n : Int} (h : proveForm xs names n = true) : proveMany xs names n = (⟨names, (idxN names).map (fun k : Nat => bucketOf xs (k : Int)), sidesMany n xs 8 0 (idxN names) []⟩, true) := by unfold proveMany; rw [if_pos h]
theorem lone_prev {ks : List Nat} {k : Nat} (h : 0 < k) (e : ks.getD (k - 1) 0 = ks.getD k 0 ^^^ 1) : lone ks k = false := by unfold lone; rw [decide_eq_true h, decide_eq_true e]; rfl
theorem lone_next {ks : List Nat} {k : Nat} (h : k + 1 < ks.length) (e : ks.getD (k + 1) 0 = ks.getD k 0 ^^^ 1) : lone ks k = false := by unfold lone; rw [decide_eq_true h, decide_eq_true e]; simp
theorem lone_yes {ks : List Nat} {k : Nat} (h1 : 0 < k → ¬ ks.getD (k - 1) 0 = ks.getD k 0 ^^^ 1) (h2 : k + 1 < ks.length → ¬ ks.getD (k + 1) 0 = ks.getD k 0 ^^^ 1) : lone ks k = true := by
  unfold lone
  have e1 : (decide (0 < k) && decide (ks.getD (k - 1) 0 = ks.getD k 0 ^^^ 1)) = false := by
    rw [Bool.and_eq_false_iff, decide_eq_false_iff_not, decide_eq_false_iff_not]
    by_cases h : 0 < k
    · exact .inr (h1 h)
    · exact .inl h
  have e2 : (decide (k + 1 < ks.length) && decide (ks.getD (k + 1) 0 = ks.getD k 0 ^^^ 1)) = false := by
    rw [Bool.and_eq_false_iff, decide_eq_false_iff_not, decide_eq_false_iff_not]
    by_cases h : k + 1 < ks.length
    · exact .inr (h2 h)
    · exact .inl h
  rw [e1, e2]; rfl
theorem xor_pow {p m : Nat} (h : p < 2 ^ (m + 1)) : p ^^^ 1 < 2 ^ (m + 1) := by
  rw [Nat.pow_succ] at h ⊢
  rcases Nat.mod_two_eq_zero_or_one p with e | e
  · rw [xor_even e]; omega
  · rw [xor_odd e]; omega
theorem above_pow {ks : List Nat} {m : Nat} (h : ∀ q ∈ ks, q < 2 ^ (m + 1)) : ∀ q ∈ aboveU ks, q < 2 ^ m := by
  intro q hq
  obtain ⟨p, hp, rfl⟩ := mem_above.1 hq
  have := h p hp
  rw [Nat.pow_succ] at this
  omega
theorem above_le (ks : List Nat) : (aboveU ks).length ≤ ks.length := by
  have := above_take_len ks ks.length (Nat.le_refl _)
  rw [List.take_length] at this
  exact this
theorem up_all {ks : List Nat} (hi : Inc ks) : upI ks ks.length = aboveU ks := by
  have := (up_eq hi ks.length (Nat.le_refl _)).1
  rw [List.take_length] at this
  exact this
theorem pow_256 {m p : Nat} (hm : m ≤ 8) (h : p < 2 ^ m) : p < 256 := Nat.lt_of_lt_of_le h (Nat.pow_le_pow_right (by omega) hm)
theorem up_yes {ks us : List Nat} {k : Nat} (hu : us = upI ks k) (h : us.length = 0 ∨ ¬ us.getD (us.length - 1) 0 = ks.getD k 0 / 2) : us ++ [ks.getD k 0 / 2] = upI ks (k + 1) := by
  subst hu; conv => rhs; unfold upI
  rw [if_pos h]
theorem up_no {ks us : List Nat} {k : Nat} (hu : us = upI ks k) (h1 : ¬ us.length = 0) (h : us.getD (us.length - 1) 0 = ks.getD k 0 / 2) : us = upI ks (k + 1) := by
  subst hu; conv => rhs; unfold upI
  rw [if_neg (by rintro (h2 | h2); exact h1 h2; exact h2 h)]
theorem map_snocY {β : Type} (f : Nat → β) {ks : List Nat} {k : Nat} (h : k < ks.length) : (ks.take (k + 1)).map f = (ks.take k).map f ++ [f (ks.getD k 0)] := by rw [takeY_snoc h, List.map_append]; rfl
end Go.Proofs.YtojbehmbeoemgaaDoor
