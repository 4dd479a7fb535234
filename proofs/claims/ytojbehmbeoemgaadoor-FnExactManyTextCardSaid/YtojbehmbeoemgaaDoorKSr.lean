/- A row of integers of the call's own, sorted by the library; a map of the call's own, kept. -/
import Derived.Test.YtojbehmbeoemgaaDoorB2
import Derived.Test.YtojbehmbeoemgaaDoorKShelf
import Derived.Sort.OwnSortedInts
import Derived.Maps.Own
import Derived.Maps.OwnOps
import Derived.Maps.Views
import Derived.Maps.OwnSet
set_option linter.unusedVariables false
set_option linter.unusedSimpArgs false
namespace Go.Proofs.YtojbehmbeoemgaaDoor
open Go.RowKit Go.Sort Go.Maps Lay Mk
theorem below_of_grown {w w' : World} {g B : Nat} (h : w.grownBy w' (some g)) (hB : B ≤ g) (hg : g < w.heap.size) : Below B w w' := by
  obtain ⟨h1, h2, h3, h4, h5⟩ := h
  exact ⟨h1, h2, h3, h4, fun k hk => h5 k (by omega) (by intro e; injection e with e; omega)⟩
theorem own_keep {H : Type} {w w' : World} {P : Program} {k : TypeId} {R : Value → Option (DataW H × List MemPlace)} {b n : Nat} {D : DataW H} (h : w.ownsMap P k R b n D) (e : w'.heap[b]? = w.heap[b]?) : w'.ownsMap P k R b n D := by
  obtain ⟨es, clock, h1, h2⟩ := h
  exact ⟨es, clock, e.trans h1, h2⟩
theorem row_sorted {w : World} {A : Option Addr} {cap : Nat} {ys zs : List Int} {S : Blks} (h : Row true w A cap ys S) (hle : ys.length ≤ cap) (hne : ys ≠ []) (hl : zs.length = ys.length) (hok : ∀ x ∈ zs, I64 x) :
    ∃ g, A = some ⟨g, 0, none⟩ ∧ g < w.heap.size ∧ S g ∧ Holds (Value.int .i64) w g 0 ys.toArray ∧ ∀ n os, Row true (grow (putRow (Value.int .i64) (Sort.ahead w n) g 0 zs.toArray) os) A cap zs S ∧ w.grownBy (grow (putRow (Value.int .i64) (Sort.ahead w n) g 0 zs.toArray) os) (some g) := by
  rcases h with ⟨_, h, _⟩ | ⟨g, cur, rfl, hg, hb, hs, hE⟩
  · exact absurd h hne
  have hlt : g < w.heap.size := (Array.getElem?_eq_some_iff.1 hb).1
  rw [show n Int = 1 from rfl, Nat.mul_one] at hs
  have ht : cur.toList.take ys.length = ys.map (Value.int .i64) := by
    obtain ⟨T, h1, h2, h3⟩ := hE
    apply List.ext_getElem?
    intro j
    by_cases hj : j < ys.length
    · obtain ⟨cs, h4, h5⟩ := h3 j hj
      obtain ⟨rfl, _⟩ := open_int h5
      have h6 := h4 0 _ rfl
      rw [show 0 + j * n Int + 0 = j by rw [show n Int = 1 from rfl]; omega] at h6
      rw [cell_of_row _ _ j _ _ _ hb] at h6
      rw [List.getElem?_take_of_lt hj, Array.getElem?_toList, h6]
      simp [hj]
    · rw [List.getElem?_take_eq_none (by omega), List.getElem?_eq_none (by simp; omega)]
  refine ⟨g, rfl, hlt, hg, holds_of_blockI hb ht, fun n' os => ⟨.inr ⟨g, _, rfl, hg, heap_sortedI zs.toArray hb, by simp [putCells, hs, show n Int = 1 from rfl], ?_⟩, grownBy_sortedI _⟩⟩
  refine ⟨fun _ => none_, fun _ _ x => x.elim, fun _ _ _ _ _ x => x.elim, fun i hi => ⟨[.int .i64 zs[i]], fun j u hu => ?_, ⟨rfl, hok _ (List.getElem_mem hi)⟩⟩⟩
  have hj := (List.getElem?_eq_some_iff.1 hu).1
  have hj : j = 0 := by simpa using hj
  subst hj
  rw [← hu, show 0 + i * n Int + 0 = i by rw [show n Int = 1 from rfl]; omega, cell_of_row _ _ i _ _ _ (heap_sortedI zs.toArray hb)]
  have h7 := take_putCellsI cur zs (by omega)
  have h8 := congrArg (fun l => l[i]?) h7
  rw [List.getElem?_take_of_lt hi, Array.getElem?_toList] at h8
  rw [h8]
  simp [hi]
end Go.Proofs.YtojbehmbeoemgaaDoor
