/- A part of the proof: what the laws need of it. -/
import Derived.Deep.RegionHeld3
import Derived.Test.YtojbehmbeoemgaaDoorHMoL25xYp
import Derived.Test.YtojbehmbeoemgaaDoorHMoL23xYm
import Derived.Test.YtojbehmbeoemgaaDoorHMoL11xDp
import Derived.Test.YtojbehmbeoemgaaDoorHMoNz
set_option linter.unusedVariables false
set_option linter.unusedSimpArgs false
set_option linter.unusedVariables false
set_option linter.unusedSimpArgs false
namespace Go.Proofs.YtojbehmbeoemgaaDoor
open Go.RowKit Lay Mk
structure Two {α β : Type} [Lay α] [Lay β] (B : Nat) (w : World) (A : Option Addr) (c : Nat) (L : List α) (A' : Option Addr) (c' : Nat) (M : List β) : Prop where
  ex : ∃ U V : Blks, Row true w A c L U ∧ Row true w A' c' M V ∧ (∀ b, U b → V b → False) ∧ (∀ b, U b → B ≤ b) ∧ (∀ b, V b → B ≤ b)
  l1 : L.length ≤ c
  m1 : c ≤ maxLen
  l2 : M.length ≤ c'
  m2 : c' ≤ maxLen
theorem Two.start {α β : Type} [Lay α] [Lay β] (B : Nat) (w : World) : Two (α := α) (β := β) B w none 0 [] none 0 [] :=
  ⟨⟨none_, none_, row_nil _ _, row_nil _ _, fun _ h => h.elim, fun _ h => h.elim, fun _ h => h.elim⟩, Nat.le_refl _, by decide, Nat.le_refl _, by decide⟩
theorem Two.later {α β : Type} [Lay α] [Lay β] {B : Nat} {w w' : World} {A A' : Option Addr} {c c' : Nat} {L : List α} {M : List β} (h : Two B w A c L A' c' M) (hb : Below w.heap.size w w') : Two B w' A c L A' c' M := by
  obtain ⟨U, V, h1, h2, h3, h4, h5⟩ := h.ex
  exact ⟨⟨U, V, Row.later h1 hb, Row.later h2 hb, h3, h4, h5⟩, h.l1, h.m1, h.l2, h.m2⟩
end Go.Proofs.YtojbehmbeoemgaaDoor
