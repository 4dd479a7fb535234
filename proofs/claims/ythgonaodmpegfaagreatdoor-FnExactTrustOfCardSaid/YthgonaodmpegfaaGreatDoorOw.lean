/- A row that the call itself makes and appends to: its reading, and the step of an append. -/
import Derived.Test.YthgonaodmpegfaaGreatDoorFd
import Derived.Test.YthgonaodmpegfaaGreatDoorGr
import Derived.Test.YthgonaodmpegfaaGreatDoorSa
set_option linter.unusedVariables false
set_option linter.unusedSimpArgs false
namespace Go.Proofs.YthgonaodmpegfaaGreatDoor
open Go.RowKit Lay Mk
structure Own {α : Type} [Lay α] (w0 w : World) (A : Option Addr) (c : Nat) (L : List α) : Prop where
  row : Row true w A c L (nw w0.heap.size)
  le : L.length ≤ c
  cm : c ≤ maxLen
  bl : Below w0.heap.size w0 w
theorem Own.size {α : Type} [Lay α] {w0 w : World} {A : Option Addr} {c : Nat} {L : List α} (h : Own w0 w A c L) : w0.heap.size ≤ w.heap.size := h.bl.size
theorem Own.start {α : Type} [Lay α] {w0 w : World} (h : Below w0.heap.size w0 w) : Own (α := α) w0 w none 0 [] := ⟨row_nil _ _, by simp, by decide, h⟩
theorem Own.lit {α : Type} [Lay α] {w0 w : World} (h : Below w0.heap.size w0 w) (t : TypeId) (ht : t = ty α) : Own (α := α) w0 (w.alloc (.cells #[] t)) (some ⟨w.heap.size, 0, none⟩) 0 [] :=
  ⟨row_lit0 w t _ ht h.size, by simp, by decide, h.alloc h.size _⟩
theorem Own.litAt {α : Type} [Lay α] {w0 w : World} (h : Below w0.heap.size w0 w) (t : TypeId) (ht : t = ty α) {b : Nat} (hb : b = w.heap.size) : Own (α := α) w0 (w.alloc (.cells #[] t)) (some ⟨b, 0, none⟩) 0 [] := by subst hb; exact Own.lit h t ht
theorem Own.later {α : Type} [Lay α] {w0 w w' : World} {A : Option Addr} {c : Nat} {L : List α} (h : Own w0 w A c L) (hb : Below w.heap.size w w') : Own w0 w' A c L :=
  ⟨Row.later h.row hb, h.le, h.cm, h.bl.trans (hb.mono h.bl.size)⟩
theorem Own.alloc {α : Type} [Lay α] {w0 w : World} {A : Option Addr} {c : Nat} {L : List α} (h : Own w0 w A c L) (o : Obj) : Own w0 (w.alloc o) A c L := h.later ((Below.refl _ _).alloc (Nat.le_refl _) _)
theorem Own.drew {α : Type} [Lay α] {w0 w : World} {A : Option Addr} {c : Nat} {L : List α} (h : Own w0 w A c L) : Own w0 w.drew A c L := h.later ((Below.refl _ _).drew)
theorem Own.from {α : Type} [Lay α] {w0 w1 w : World} {A : Option Addr} {c : Nat} {L : List α} (h : Own w1 w A c L) (hb : Below w0.heap.size w0 w1) : Own w0 w A c L :=
  ⟨h.row.mono (fun _ x => Nat.le_trans hb.size x), h.le, h.cm, hb.trans (h.bl.mono hb.size)⟩
theorem Own.rng {α : Type} [Lay α] {w0 w : World} {A : Option Addr} {c : Nat} {L : List α} (h : Own w0 w A c L) : Row true w A c L (rng w0.heap.size w.heap.size) := to_rng h.row
theorem Own.weak {α : Type} [Lay α] {w0 w : World} {A : Option Addr} {c : Nat} {L : List α} (h : Own w0 w A c L) : Row false w A c L (nw w0.heap.size) := h.row.weak
/-- an append to it -/
theorem wpList_push {α : Type} [Lay α] [SlTy α] [Inf α] {ops : Array Oper} {rest : List Oper} {o : Oper} {a : Act} {Q : Exit → Act → World → Prop} {w0 w : World} (hgd : o.guard = none) (s x : Operand)
    (ho : o.op = .call { callee := .builtin .append, args := #[s, x], argTypes := #[SlTy.st α, SlTy.st α] })
    {A A2 : Option Addr} {c c2 k m : Nat} {L ys : List α} (hs : a.eval s = .slice A k c) (hk : k = L.length) (own : Own w0 w A c L)
    (hx : a.eval x = .slice A2 m c2) (hm : m = ys.length) (hsrc : Src w A2 ys none_) (hb : k + m ≤ 4000000000)
    (h : ∀ A' c' w', Own w0 w' A' c' (L ++ ys) → w.heap.size ≤ w'.heap.size → wpList Tryz.prog ops Q rest (a.put o.dst (.slice A' (k + m) c')) w') :
    wpList Tryz.prog ops Q (o :: rest) a w := by
  subst hk; subst hm
  refine wpList_app (α := α) hgd s x ho hs rfl own.row own.le own.cm hx rfl hsrc (disj_none_ _) hb ?_
  intro A' c' w' h1 h2 h3 h4
  exact h A' c' w' ⟨row_og h3 (fun b hb => Nat.le_trans own.size hb), by rw [List.length_append]; exact h1, h2, own.bl.trans (h4.to_below own.size (fun b hb => hb))⟩ h4.size
theorem srcR {α : Type} [Lay α] (w : World) (y : α) (cs : Array Value) (t : TypeId) (b : Nat) (hb : b = w.heap.size) {T : Blks} (h : rd true w cs.toList y T) : Src (w.alloc (.cells cs t)) (some ⟨b, 0, none⟩) [y] (fun b => T b ∧ b < w.heap.size) := by
  subst hb
  intro _
  refine ⟨_, _, rfl, fun i => if i = 0 then (fun b => T b ∧ b < w.heap.size) else none_, fun i b x => ?_, fun _ i j hij b x y => ?_, fun i hi => ?_⟩
  · by_cases hi : i = 0
    · simp only [hi, if_true] at x; exact x
    · simp only [hi, if_false] at x; exact x.elim
  · by_cases hi : i = 0
    · simp only [show j ≠ 0 by omega, if_false] at y; exact y.elim
    · simp only [hi, if_false] at x; exact x.elim
  · have hi : i = 0 := by simpa using hi
    subst hi
    refine ⟨cs.toList, fun j u hu => ?_, ?_⟩
    · rw [World.cell?_alloc_mark]; simpa using hu
    · exact Lay.keep (Lay.tight h) (fun b x => Below.heap_alloc _ _ _ x.2)
/-- an append of one new element that has rows of its own, made behind the row's world -/
theorem wpList_pushR {α : Type} [Lay α] [SlTy α] [Inf α] {ops : Array Oper} {rest : List Oper} {o : Oper} {a : Act} {Q : Exit → Act → World → Prop} {w0 w1 w : World} (hgd : o.guard = none) (s x : Operand)
    (ho : o.op = .call { callee := .builtin .append, args := #[s, x], argTypes := #[SlTy.st α, SlTy.st α] })
    {A : Option Addr} {c c2 k b : Nat} {L : List α} {y : α} {T : Blks} {cs : Array Value} {t : TypeId} (hs : a.eval s = .slice A k c) (hk : k = L.length) (own : Own w0 w1 A c L) (hb : Below w1.heap.size w1 w)
    (hy : rd true w cs.toList y T) (hT : ∀ b, T b → w1.heap.size ≤ b) (hx : a.eval x = .slice (some ⟨b, 0, none⟩) 1 c2) (hbb : b = w.heap.size) (hlim : k ≤ 2000000000)
    (h : ∀ A' c' w', Own w0 w' A' c' (L ++ [y]) → w.heap.size < w'.heap.size → wpList Tryz.prog ops Q rest (a.put o.dst (.slice A' (k + 1) c')) w') :
    wpList Tryz.prog ops Q (o :: rest) a (w.alloc (.cells cs t)) := by
  subst hk
  have hbw : Below w1.heap.size w1 (w.alloc (.cells cs t)) := hb.alloc hb.size _
  refine wpList_app (α := α) hgd s x ho hs rfl (Row.later (to_rng own.row) hbw) own.le own.cm hx rfl (srcR w y cs t b hbb hy) (fun q h1 h2 => ?_) (by simp; omega) ?_
  · have h3 := hT q h2.1
    have h4 : q < w1.heap.size := h1.2
    omega
  intro A' c' w' h1 h2 h3 h4
  have h5 := h4.size
  rw [World.size_alloc] at h5
  refine h A' c' w' ⟨h3.mono (fun q hq => ?_), by rw [List.length_append]; exact h1, h2, ?_⟩ (by omega)
  · show w0.heap.size ≤ q
    have h6 := own.size
    have h7 := hb.size
    rcases hq with hq | hq | hq
    · exact hq.1
    · have := hT q hq.1; omega
    · have := hq.1; rw [World.size_alloc] at this; omega
  · exact (own.bl.trans (hbw.mono own.size)).trans (h4.to_below (by rw [World.size_alloc]; have := own.size; have := hb.size; omega) (fun q hq => hq.1))
theorem step_push {α : Type} [Lay α] [SlTy α] [Inf α] {ops : Array Oper} {o : Oper} {a : Act} {K : Act → World → Prop} {Q : Exit → Act → World → Prop} {E : Prop} {w0 w : World} (hgd : o.guard = none) (s x : Operand)
    (ho : o.op = .call { callee := .builtin .append, args := #[s, x], argTypes := #[SlTy.st α, SlTy.st α] })
    {A A2 : Option Addr} {c c2 k m : Nat} {L ys : List α} (hs : a.eval s = .slice A k c) (hk : k = L.length) (own : Own w0 w A c L)
    (hx : a.eval x = .slice A2 m c2) (hm : m = ys.length) (hsrc : Src w A2 ys none_) (hb : k + m ≤ 4000000000)
    (h : ∀ A' c' w', Own w0 w' A' c' (L ++ ys) → Below w0.heap.size w0 w' → K (a.put o.dst (.slice A' (k + m) c')) w') :
    if Region.wanted o (yielded ops a.tmps) = true then Oper.wp Tryz.prog o a w K Q else E := by
  subst hk; subst hm
  refine step_app (α := α) hgd s x ho hs rfl own.row own.le own.cm hx rfl hsrc (disj_none_ _) hb ?_
  intro A' c' w' h1 h2 h3 h4
  have hw : Own w0 w' A' c' (L ++ ys) := ⟨row_og h3 (fun b hb => Nat.le_trans own.size hb), by rw [List.length_append]; exact h1, h2, own.bl.trans (h4.to_below own.size (fun b hb => hb))⟩
  exact h A' c' w' hw hw.bl
theorem src1 {α : Type} [Lay α] [Flat α] {w : World} {y : α} (ok : Flat.ok y) {cs : Array Value} {t : TypeId} {b : Nat} (hb : b = w.heap.size) (h : cs.toList = Flat.cs y) : Src (w.alloc (.cells cs t)) (some ⟨b, 0, none⟩) [y] none_ := src_newb w y ok cs t b hb h
/-- what a call hands back: a row of its own -/
def OwnRes {α : Type} [Lay α] (L : List α) (w : World) (e : Ending) (w' : World) : Prop := ∃ A c, e = .returned (.slice A L.length c) ∧ Own w w' A c L
theorem OwnRes.mk {α : Type} [Lay α] {L L' : List α} {w w' : World} {A : Option Addr} {c n : Nat} (h : Own w w' A c L) (hL : L' = L) (hn : n = L.length) : OwnRes L' w (.returned (.slice A n c)) w' := by subst hL; subst hn; exact ⟨A, c, rfl, h⟩
end Go.Proofs.YthgonaodmpegfaaGreatDoor
