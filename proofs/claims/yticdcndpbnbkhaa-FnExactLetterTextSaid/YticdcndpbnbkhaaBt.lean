/- Each argument type of the laws, as the form reads it, is a layout. Written by a program (gen_br.py). -/
import Derived.Test.YticdcndpbnbkhaaBr
import Derived.Test.YticdcndpbnbkhaaTy
namespace Go.Proofs.Yticdcndpbnbkhaa
open Go.RowKit Lay Mk
theorem rdb_Change : Rdb Change Try.prog 30 := by
  intro H enc w base spare held fuel cs x h
  obtain ⟨xs, n, rfl, _, hl, hlen, hf⟩ := DataW.trod_struct Try.underlying30 h
  have hl : cs.length = 3 := hl.trans (by kernel_rfl)
  obtain ⟨y0, hy0⟩ : ∃ y, xs[0]? = some y := ⟨_, List.getElem?_eq_getElem (by rw [hlen]; decide)⟩
  obtain ⟨a0, r0⟩ := rdb_int Try.underlying3 H enc w base spare held n _ _ ((hf 0 _ rfl).trans hy0)
  have r0 : rd false w ((cs.drop 0).take (Try.prog.cellsOf 3)) a0 All := r0
  rw [show Try.prog.cellsOf 3 = 1 from by kernel_rfl] at r0
  obtain ⟨y1, hy1⟩ : ∃ y, xs[1]? = some y := ⟨_, List.getElem?_eq_getElem (by rw [hlen]; decide)⟩
  obtain ⟨a1, r1⟩ := rdb_str Try.underlying9 H enc w base spare held n _ _ ((hf 1 _ rfl).trans hy1)
  have r1 : rd false w ((cs.drop 1).take (Try.prog.cellsOf 9)) a1 All := r1
  rw [show Try.prog.cellsOf 9 = 1 from by kernel_rfl] at r1
  obtain ⟨y2, hy2⟩ : ∃ y, xs[2]? = some y := ⟨_, List.getElem?_eq_getElem (by rw [hlen]; decide)⟩
  obtain ⟨a2, r2⟩ := rdb_str Try.underlying9 H enc w base spare held n _ _ ((hf 2 _ rfl).trans hy2)
  have r2 : rd false w ((cs.drop 2).take (Try.prog.cellsOf 9)) a2 All := r2
  rw [show Try.prog.cellsOf 9 = 1 from by kernel_rfl] at r2
  have hz : rd false w (cs.drop 0) (a0, a1, a2) All := rd_pair_drop r0 (rd_pair_drop r1 (rd_last_drop r2 (by omega)))
  exact ⟨⟨a0, a1, a2⟩, hz⟩
theorem rdb_Move : Rdb Move Try.prog 46 := by
  intro H enc w base spare held fuel cs x h
  obtain ⟨xs, n, rfl, _, hl, hlen, hf⟩ := DataW.trod_struct Try.underlying46 h
  have hl : cs.length = 6 := hl.trans (by kernel_rfl)
  obtain ⟨y0, hy0⟩ : ∃ y, xs[0]? = some y := ⟨_, List.getElem?_eq_getElem (by rw [hlen]; decide)⟩
  obtain ⟨a0, r0⟩ := rdb_int Try.underlying3 H enc w base spare held n _ _ ((hf 0 _ rfl).trans hy0)
  have r0 : rd false w ((cs.drop 0).take (Try.prog.cellsOf 3)) a0 All := r0
  rw [show Try.prog.cellsOf 3 = 1 from by kernel_rfl] at r0
  obtain ⟨y1, hy1⟩ : ∃ y, xs[1]? = some y := ⟨_, List.getElem?_eq_getElem (by rw [hlen]; decide)⟩
  obtain ⟨a1, r1⟩ := rdb_int Try.underlying3 H enc w base spare held n _ _ ((hf 1 _ rfl).trans hy1)
  have r1 : rd false w ((cs.drop 1).take (Try.prog.cellsOf 3)) a1 All := r1
  rw [show Try.prog.cellsOf 3 = 1 from by kernel_rfl] at r1
  obtain ⟨y2, hy2⟩ : ∃ y, xs[2]? = some y := ⟨_, List.getElem?_eq_getElem (by rw [hlen]; decide)⟩
  obtain ⟨a2, r2⟩ := rdb_int Try.underlying3 H enc w base spare held n _ _ ((hf 2 _ rfl).trans hy2)
  have r2 : rd false w ((cs.drop 2).take (Try.prog.cellsOf 3)) a2 All := r2
  rw [show Try.prog.cellsOf 3 = 1 from by kernel_rfl] at r2
  obtain ⟨y3, hy3⟩ : ∃ y, xs[3]? = some y := ⟨_, List.getElem?_eq_getElem (by rw [hlen]; decide)⟩
  obtain ⟨a3, r3⟩ := rdb_Change H enc w base spare held n _ _ ((hf 3 _ rfl).trans hy3)
  have r3 : rd false w ((cs.drop 3).take (Try.prog.cellsOf 30)) a3 All := r3
  rw [show Try.prog.cellsOf 30 = 3 from by kernel_rfl] at r3
  have hz : rd false w (cs.drop 0) (a0, a1, a2, a3) All := rd_pair_drop r0 (rd_pair_drop r1 (rd_pair_drop r2 (rd_last_drop r3 (by omega))))
  exact ⟨⟨a0, a1, a2, a3⟩, hz⟩
theorem rdb_Event : Rdb Event Try.prog 64 := by
  intro H enc w base spare held fuel cs x h
  obtain ⟨xs, n, rfl, _, hl, hlen, hf⟩ := DataW.trod_struct Try.underlying64 h
  have hl : cs.length = 10 := hl.trans (by kernel_rfl)
  obtain ⟨y0, hy0⟩ : ∃ y, xs[0]? = some y := ⟨_, List.getElem?_eq_getElem (by rw [hlen]; decide)⟩
  obtain ⟨a0, r0⟩ := rdb_int Try.underlying3 H enc w base spare held n _ _ ((hf 0 _ rfl).trans hy0)
  have r0 : rd false w ((cs.drop 0).take (Try.prog.cellsOf 3)) a0 All := r0
  rw [show Try.prog.cellsOf 3 = 1 from by kernel_rfl] at r0
  obtain ⟨y1, hy1⟩ : ∃ y, xs[1]? = some y := ⟨_, List.getElem?_eq_getElem (by rw [hlen]; decide)⟩
  obtain ⟨a1, r1⟩ := rdb_int Try.underlying3 H enc w base spare held n _ _ ((hf 1 _ rfl).trans hy1)
  have r1 : rd false w ((cs.drop 1).take (Try.prog.cellsOf 3)) a1 All := r1
  rw [show Try.prog.cellsOf 3 = 1 from by kernel_rfl] at r1
  obtain ⟨y2, hy2⟩ : ∃ y, xs[2]? = some y := ⟨_, List.getElem?_eq_getElem (by rw [hlen]; decide)⟩
  obtain ⟨a2, r2⟩ := rdb_int Try.underlying3 H enc w base spare held n _ _ ((hf 2 _ rfl).trans hy2)
  have r2 : rd false w ((cs.drop 2).take (Try.prog.cellsOf 3)) a2 All := r2
  rw [show Try.prog.cellsOf 3 = 1 from by kernel_rfl] at r2
  obtain ⟨y3, hy3⟩ : ∃ y, xs[3]? = some y := ⟨_, List.getElem?_eq_getElem (by rw [hlen]; decide)⟩
  obtain ⟨a3, r3⟩ := rdb_Move H enc w base spare held n _ _ ((hf 3 _ rfl).trans hy3)
  have r3 : rd false w ((cs.drop 3).take (Try.prog.cellsOf 46)) a3 All := r3
  rw [show Try.prog.cellsOf 46 = 6 from by kernel_rfl] at r3
  obtain ⟨y4, hy4⟩ : ∃ y, xs[4]? = some y := ⟨_, List.getElem?_eq_getElem (by rw [hlen]; decide)⟩
  obtain ⟨a4, r4⟩ := rdb_str Try.underlying9 H enc w base spare held n _ _ ((hf 4 _ rfl).trans hy4)
  have r4 : rd false w ((cs.drop 9).take (Try.prog.cellsOf 9)) a4 All := r4
  rw [show Try.prog.cellsOf 9 = 1 from by kernel_rfl] at r4
  have hz : rd false w (cs.drop 0) (a0, a1, a2, a3, a4) All := rd_pair_drop r0 (rd_pair_drop r1 (rd_pair_drop r2 (rd_pair_drop r3 (rd_last_drop r4 (by omega)))))
  exact ⟨⟨a0, a1, a2, a3, a4⟩, hz⟩
theorem rdb_Letter : Rdb Letter Try.prog 23 := by
  intro H enc w base spare held fuel cs x h
  obtain ⟨xs, n, rfl, _, hl, hlen, hf⟩ := DataW.trod_struct Try.underlying23 h
  have hl : cs.length = 6 := hl.trans (by kernel_rfl)
  obtain ⟨y0, hy0⟩ : ∃ y, xs[0]? = some y := ⟨_, List.getElem?_eq_getElem (by rw [hlen]; decide)⟩
  obtain ⟨a0, r0⟩ := rdb_int Try.underlying3 H enc w base spare held n _ _ ((hf 0 _ rfl).trans hy0)
  have r0 : rd false w ((cs.drop 0).take (Try.prog.cellsOf 3)) a0 All := r0
  rw [show Try.prog.cellsOf 3 = 1 from by kernel_rfl] at r0
  obtain ⟨y1, hy1⟩ : ∃ y, xs[1]? = some y := ⟨_, List.getElem?_eq_getElem (by rw [hlen]; decide)⟩
  obtain ⟨a1, r1⟩ := rdb_int Try.underlying3 H enc w base spare held n _ _ ((hf 1 _ rfl).trans hy1)
  have r1 : rd false w ((cs.drop 1).take (Try.prog.cellsOf 3)) a1 All := r1
  rw [show Try.prog.cellsOf 3 = 1 from by kernel_rfl] at r1
  obtain ⟨y2, hy2⟩ : ∃ y, xs[2]? = some y := ⟨_, List.getElem?_eq_getElem (by rw [hlen]; decide)⟩
  obtain ⟨a2, r2⟩ := rdb_int Try.underlying3 H enc w base spare held n _ _ ((hf 2 _ rfl).trans hy2)
  have r2 : rd false w ((cs.drop 2).take (Try.prog.cellsOf 3)) a2 All := r2
  rw [show Try.prog.cellsOf 3 = 1 from by kernel_rfl] at r2
  obtain ⟨y3, hy3⟩ : ∃ y, xs[3]? = some y := ⟨_, List.getElem?_eq_getElem (by rw [hlen]; decide)⟩
  obtain ⟨a3, r3⟩ := rdb_int Try.underlying3 H enc w base spare held n _ _ ((hf 3 _ rfl).trans hy3)
  have r3 : rd false w ((cs.drop 3).take (Try.prog.cellsOf 3)) a3 All := r3
  rw [show Try.prog.cellsOf 3 = 1 from by kernel_rfl] at r3
  obtain ⟨y4, hy4⟩ : ∃ y, xs[4]? = some y := ⟨_, List.getElem?_eq_getElem (by rw [hlen]; decide)⟩
  obtain ⟨a4, r4⟩ := rdb_int Try.underlying3 H enc w base spare held n _ _ ((hf 4 _ rfl).trans hy4)
  have r4 : rd false w ((cs.drop 4).take (Try.prog.cellsOf 3)) a4 All := r4
  rw [show Try.prog.cellsOf 3 = 1 from by kernel_rfl] at r4
  obtain ⟨y5, hy5⟩ : ∃ y, xs[5]? = some y := ⟨_, List.getElem?_eq_getElem (by rw [hlen]; decide)⟩
  obtain ⟨a5, r5⟩ := rdb_str Try.underlying9 H enc w base spare held n _ _ ((hf 5 _ rfl).trans hy5)
  have r5 : rd false w ((cs.drop 5).take (Try.prog.cellsOf 9)) a5 All := r5
  rw [show Try.prog.cellsOf 9 = 1 from by kernel_rfl] at r5
  have hz : rd false w (cs.drop 0) (a0, a1, a2, a3, a4, a5) All := rd_pair_drop r0 (rd_pair_drop r1 (rd_pair_drop r2 (rd_pair_drop r3 (rd_pair_drop r4 (rd_last_drop r5 (by omega))))))
  exact ⟨⟨a0, a1, a2, a3, a4, a5⟩, hz⟩
theorem rdb_StringS : Rdb (List ByteArray) Try.prog 53 := rdb_slice Try.underlying53 (by kernel_rfl) (rdb_str Try.underlying9)
end Go.Proofs.Yticdcndpbnbkhaa
