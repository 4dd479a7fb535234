/- A part of the proof: what the laws need of it. -/
import Derived.Test.YtojbehmbeoemgaaDoorHEvL11xXs
import Derived.Test.YtojbehmbeoemgaaDoorHEvL25xYg
set_option linter.unusedVariables false
set_option linter.unusedSimpArgs false
set_option linter.unusedVariables false
set_option linter.unusedSimpArgs false
namespace Go.Proofs.YtojbehmbeoemgaaDoor
open Go.RowKit Lay Mk
structure Duo (B r : Nat) (w : World) (Ak : Option Addr) (ck : Nat) (ks : List ByteArray) (As : Option Addr) (cs : Nat) (ss : List ByteArray) : Prop where
  ex : ∃ K V : Blks, Row false w Ak ck ks K ∧ Row true w As cs ss V ∧ disj K V ∧ (∀ b, V b → B ≤ b) ∧ ¬ K r
  ls : ss.length ≤ cs
  ms : cs ≤ maxLen
section
variable {B r : Nat} {w : World} {Ak : Option Addr} {ck : Nat} {ks : List ByteArray} {As : Option Addr} {cs : Nat} {ss : List ByteArray}
theorem Duo.start {K : Blks} (hk : Row false w Ak ck ks K) (hr : ¬ K r) : Duo B r w Ak ck ks none 0 [] := ⟨⟨K, none_, hk, row_nil _ _, fun _ _ h => h.elim, fun _ h => h.elim, hr⟩, Nat.le_refl _, by decide⟩
theorem Duo.later {w' : World} (h : Duo B r w Ak ck ks As cs ss) (hb : Below w.heap.size w w') : Duo B r w' Ak ck ks As cs ss := by
  obtain ⟨K, V, h1, h2, h3⟩ := h.ex
  exact ⟨⟨K, V, Row.later h1 hb, Row.later h2 hb, h3⟩, h.ls, h.ms⟩
theorem Duo.alloc (h : Duo B r w Ak ck ks As cs ss) (o : Obj) : Duo B r (w.alloc o) Ak ck ks As cs ss := h.later ((Below.refl _ _).alloc (Nat.le_refl _) _)
theorem Duo.drew (h : Duo B r w Ak ck ks As cs ss) : Duo B r w.drew Ak ck ks As cs ss := h.later ((Below.refl _ _).drew)
theorem Duo.setC (h : Duo B r w Ak ck ks As cs ss) (hr : r < B) (o : Nat) (u : Value) : Duo B r (w.setCell ⟨r, o, none⟩ u) Ak ck ks As cs ss := by
  obtain ⟨K, V, h1, h2, d, b, hk⟩ := h.ex
  exact ⟨⟨K, V, h1.setC hk _, h2.setC (fun x => by have := b _ x; simp only at this; omega) _, d, b, hk⟩, h.ls, h.ms⟩
theorem Duo.known (h : Duo B r w Ak ck ks As cs ss) : ∃ K, Row false w Ak ck ks K := by
  obtain ⟨K, V, h1, _⟩ := h.ex
  exact ⟨K, h1⟩
theorem Duo.sides (h : Duo B r w Ak ck ks As cs ss) : Row true w As cs ss (nw B) := by
  obtain ⟨K, V, h1, h2, d, b, hk⟩ := h.ex
  exact h2.mono b
theorem Duo.fresh {w' : World} {A : Option Addr} {c : Nat} {qs : List ByteArray} (h : Duo B r w Ak ck ks As cs ss) (hr : r < B) (hB : B ≤ w.heap.size) (o : Own w w' A c qs) : Duo B r w' A c qs As cs ss := by
  obtain ⟨K, V, h1, h2, d, b, hk⟩ := h.ex
  exact ⟨⟨nw w.heap.size, _, o.weak, Row.later h2.tight o.bl, fun b x y => by have h1 : w.heap.size ≤ b := x; have := y.2; omega, fun q x => b q x.1, fun x => by have h1 : w.heap.size ≤ r := x; omega⟩, h.ls, h.ms⟩
theorem step_duo {ops : Array Oper} {o : Oper} {a : Act} {K0 : Act → World → Prop} {Q : Exit → Act → World → Prop} {E : Prop} (hgd : o.guard = none) (s x : Operand)
    (ho : o.op = .call { callee := .builtin .append, args := #[s, x], argTypes := #[SlTy.st ByteArray, SlTy.st ByteArray] })
    {A2 : Option Addr} {c2 k : Nat} {y : ByteArray} (hs : a.eval s = .slice As k cs) (hk : k = ss.length) (duo : Duo B r w Ak ck ks As cs ss) (hBw : B ≤ w.heap.size)
    (hx : a.eval x = .slice A2 1 c2) (hsrc : Src w A2 [y] none_) (hlim : k ≤ 2000000000)
    (h : ∀ A' c' w', Duo B r w' Ak ck ks A' c' (ss ++ [y]) → Below B w w' → K0 (a.put o.dst (.slice A' (k + 1) c')) w') :
    if Region.wanted o (yielded ops a.tmps) = true then Oper.wp Tryd.prog o a w K0 Q else E := by
  subst hk
  obtain ⟨K, V, h1, h2, d, b, hkr⟩ := duo.ex
  refine step_app (α := ByteArray) hgd s x ho hs rfl h2 duo.ls duo.ms hx rfl hsrc (disj_none_ _) (by omega) ?_
  intro A' c' w' q1 q2 q3 q4
  refine h A' c' w' ⟨⟨_, _, Row.chgS q4 h1.tight (fun b x _ y => d b x.1 y), q3, ?_, ?_, fun x => hkr x.1⟩, by rw [List.length_append]; exact q1, q2⟩ (q4.to_below hBw b)
  · rintro q x (y | y | y)
    · exact d q x.1 y
    · exact y.elim
    · have := y.1; have := x.2; omega
  · rintro q (y | y | y)
    · exact b q y
    · exact y.elim
    · exact Nat.le_trans hBw y.1
end
theorem Two.setC {B r : Nat} {w : World} {A A' : Option Addr} {c c' : Nat} {L M : List ByteArray} (h : Two B w A c L A' c' M) (hr : r < B) (o : Nat) (u : Value) : Two B (w.setCell ⟨r, o, none⟩ u) A c L A' c' M := by
  obtain ⟨U, V, h1, h2, h3, h4, h5⟩ := h.ex
  exact ⟨⟨U, V, h1.setC (fun x => by have := h4 _ x; simp only at this; omega) _, h2.setC (fun x => by have := h5 _ x; simp only at this; omega) _, h3, h4, h5⟩, h.l1, h.m1, h.l2, h.m2⟩
theorem step_two {w : World} {B : Nat} {ops : Array Oper} {o : Oper} {a : Act} {K0 : Act → World → Prop} {Q : Exit → Act → World → Prop} {E : Prop} (hgd : o.guard = none) (s x : Operand)
    (ho : o.op = .call { callee := .builtin .append, args := #[s, x], argTypes := #[SlTy.st ByteArray, SlTy.st ByteArray] })
    {A A' A2 : Option Addr} {c c' c2 k : Nat} {L M : List ByteArray} {y : ByteArray} (hs : a.eval s = .slice A k c) (hk : k = L.length) (two : Two B w A c L A' c' M) (hBw : B ≤ w.heap.size)
    (hx : a.eval x = .slice A2 1 c2) (hsrc : Src w A2 [y] none_) (hlim : k ≤ 2000000000)
    (h : ∀ A3 c3 w', Two B w' A3 c3 (L ++ [y]) A' c' M → Below B w w' → K0 (a.put o.dst (.slice A3 (k + 1) c3)) w') :
    if Region.wanted o (yielded ops a.tmps) = true then Oper.wp Tryd.prog o a w K0 Q else E := by
  subst hk
  obtain ⟨U, V, h1, h2, h3, h4, h5⟩ := two.ex
  refine step_app (α := ByteArray) hgd s x ho hs rfl h1 two.l1 two.m1 hx rfl hsrc (disj_none_ _) (by omega) ?_
  intro A3 c3 w' q1 q2 q3 q4
  refine h A3 c3 w' ⟨⟨_, _, q3, Row.chgS q4 h2.tight (fun b x _ y => h3 b y x.1), ?_, ?_, fun b x => h5 b x.1⟩, by rw [List.length_append]; exact q1, q2, two.l2, two.m2⟩ (q4.to_below hBw h4)
  · rintro b (x | x | x) y
    · exact h3 b x y.1
    · exact x.elim
    · have := x.1; have := y.2; omega
  · rintro b (x | x | x)
    · exact h4 b x
    · exact x.elim
    · exact Nat.le_trans hBw x.1
def SgRes (R : Sig) (w : World) (e : Ending) (w' : World) : Prop := ∃ c, e = .returned (.tuple #[.agg c.toArray, .bool true]) ∧ rd true w' c R (rng w.heap.size w'.heap.size) ∧ Below w.heap.size w w'
theorem SgRes.mk {R : Sig} {w w' : World} {A0 A1 A2 : Option Addr} {k0 k1 k2 n0 n1 n2 : Nat} {S0 S1 S2 : Blks} {at_ : Int} (h0 : at_ = R.at_) (hi : I64 R.at_) (e0 : n0 = R.open_.length) (e1 : n1 = R.shut.length) (e2 : n2 = R.sides.length)
    (l0 : R.open_.length ≤ k0) (m0 : k0 ≤ maxLen) (r0 : Row true w' A0 k0 R.open_ S0) (l1 : R.shut.length ≤ k1) (m1 : k1 ≤ maxLen) (r1 : Row true w' A1 k1 R.shut S1) (l2 : R.sides.length ≤ k2) (m2 : k2 ≤ maxLen) (r2 : Row true w' A2 k2 R.sides S2) (d1 : disj S0 S1) (d2 : disj S0 S2) (d3 : disj S1 S2)
    (s0 : sub S0 (rng w.heap.size w'.heap.size)) (s1 : sub S1 (rng w.heap.size w'.heap.size)) (s2 : sub S2 (rng w.heap.size w'.heap.size)) (hb : Below w.heap.size w w') :
    SgRes R w (.returned (.tuple #[.agg #[.int .i64 at_, .slice A0 n0 k0, .slice A1 n1 k1, .slice A2 n2 k2], .bool true])) w' := by
  subst h0; subst e0; subst e1; subst e2
  exact ⟨[.int .i64 R.at_, .slice A0 R.open_.length k0, .slice A1 R.shut.length k1, .slice A2 R.sides.length k2], rfl, Sig.mk' hi l0 m0 r0 s0 l1 m1 r1 s1 l2 m2 r2 s2 (fun _ => pwmk3 d1 d2 d3), hb⟩
end Go.Proofs.YtojbehmbeoemgaaDoor
