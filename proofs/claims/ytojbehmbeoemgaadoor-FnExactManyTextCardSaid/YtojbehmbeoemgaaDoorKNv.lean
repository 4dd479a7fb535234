/- The proof of a name: the program's walk. -/
import Derived.Test.YtojbehmbeoemgaaDoorKNs
import Derived.Test.YtojbehmbeoemgaaDoorKNm
set_option linter.unusedVariables false
set_option linter.unusedSimpArgs false
namespace Go.Proofs.YtojbehmbeoemgaaDoor
open Go.RowKit Lay Mk
def PlRes (R : Proof × Bool) (w : World) (e : Ending) (w' : World) : Prop := ∃ c, e = .returned (.tuple #[.agg c.toArray, .bool R.2]) ∧ rd true w' c R.1 (rng w.heap.size w'.heap.size) ∧ Below w.heap.size w w'
theorem PlRes.mk {R : Proof × Bool} {B : List Leaf} {L : List ByteArray} {b : Bool} {w w' : World} {A A' : Option Addr} {c c' n n' : Nat} {S S' : Blks} (hR : R = (⟨B, L⟩, b)) (hn : n = B.length) (hn' : n' = L.length) (l1 : B.length ≤ c) (m1 : c ≤ maxLen) (r1 : Row true w' A c B S) (l2 : L.length ≤ c') (m2 : c' ≤ maxLen) (r2 : Row true w' A' c' L S') (hd : disj S S') (s1 : sub S (rng w.heap.size w'.heap.size)) (s2 : sub S' (rng w.heap.size w'.heap.size)) (hb : Below w.heap.size w w') :
    PlRes R w (.returned (.tuple #[.agg #[.slice A n c, .slice A' n' c'], .bool b])) w' := by
  subst hR; subst hn; subst hn'
  exact ⟨[.slice A B.length c, .slice A' L.length c'], rfl, Proof.mk' (x := ⟨B, L⟩) (S0 := S) (S1 := S') l1 m1 r1 s1 l2 m2 r2 s2 (fun _ => pwmk2 hd), hb⟩
theorem PlRes.nil {R : Proof × Bool} {w w' : World} (hR : R = (⟨[], []⟩, false)) (hb : Below w.heap.size w w') : PlRes R w (.returned (.tuple #[.agg #[.slice none 0 0, .slice none 0 0], .bool false])) w' :=
  PlRes.mk (S := none_) (S' := none_) hR rfl rfl (Nat.le_refl _) (by decide) (row_nil _ _) (Nat.le_refl _) (by decide) (row_nil _ _) (disj_none_ _) (fun _ h => h.elim) (fun _ h => h.elim) hb
end Go.Proofs.YtojbehmbeoemgaaDoor
