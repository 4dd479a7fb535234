/- Each argument type of the laws, as the form reads it, is a layout. Written by a program (gen_br.py). -/
import Derived.Test.YtbhpcjoohllfjaaDoorBr
import Derived.Test.YtbhpcjoohllfjaaDoorTy
set_option linter.unusedVariables false
set_option linter.unusedSimpArgs false
namespace Go.Proofs.YtbhpcjoohllfjaaDoor
open Go.RowKit Lay Mk
theorem rdb_Head : Rdb Head Tryd.prog 43 := by
  intro H enc w base spare held fuel cs x h
  obtain ⟨xs, n, rfl, _, hl, hlen, hf⟩ := DataW.trod_struct Tryd.underlying43 h
  have hl : cs.length = 4 := hl.trans (by kernel_rfl)
  obtain ⟨y0, hy0⟩ : ∃ y, xs[0]? = some y := ⟨_, List.getElem?_eq_getElem (by rw [hlen]; decide)⟩
  obtain ⟨a0, r0⟩ := rdb_int Tryd.underlying3 H enc w base spare held n _ _ ((hf 0 _ rfl).trans hy0)
  have r0 : rd false w ((cs.drop 0).take (Tryd.prog.cellsOf 3)) a0 All := r0
  rw [show Tryd.prog.cellsOf 3 = 1 from by kernel_rfl] at r0
  obtain ⟨y1, hy1⟩ : ∃ y, xs[1]? = some y := ⟨_, List.getElem?_eq_getElem (by rw [hlen]; decide)⟩
  obtain ⟨a1, r1⟩ := rdb_int Tryd.underlying3 H enc w base spare held n _ _ ((hf 1 _ rfl).trans hy1)
  have r1 : rd false w ((cs.drop 1).take (Tryd.prog.cellsOf 3)) a1 All := r1
  rw [show Tryd.prog.cellsOf 3 = 1 from by kernel_rfl] at r1
  obtain ⟨y2, hy2⟩ : ∃ y, xs[2]? = some y := ⟨_, List.getElem?_eq_getElem (by rw [hlen]; decide)⟩
  obtain ⟨a2, r2⟩ := rdb_str Tryd.underlying9 H enc w base spare held n _ _ ((hf 2 _ rfl).trans hy2)
  have r2 : rd false w ((cs.drop 2).take (Tryd.prog.cellsOf 9)) a2 All := r2
  rw [show Tryd.prog.cellsOf 9 = 1 from by kernel_rfl] at r2
  obtain ⟨y3, hy3⟩ : ∃ y, xs[3]? = some y := ⟨_, List.getElem?_eq_getElem (by rw [hlen]; decide)⟩
  obtain ⟨a3, r3⟩ := rdb_str Tryd.underlying9 H enc w base spare held n _ _ ((hf 3 _ rfl).trans hy3)
  have r3 : rd false w ((cs.drop 3).take (Tryd.prog.cellsOf 9)) a3 All := r3
  rw [show Tryd.prog.cellsOf 9 = 1 from by kernel_rfl] at r3
  have hz : rd false w (cs.drop 0) (a0, a1, a2, a3) All := rd_pair_drop r0 (rd_pair_drop r1 (rd_pair_drop r2 (rd_last_drop r3 (by omega))))
  exact ⟨⟨a0, a1, a2, a3⟩, hz⟩
theorem rdb_StringS : Rdb (List ByteArray) Tryd.prog 26 := rdb_slice Tryd.underlying26 (by kernel_rfl) (rdb_str Tryd.underlying9)
theorem rdb_Sig : Rdb Sig Tryd.prog 44 := by
  intro H enc w base spare held fuel cs x h
  obtain ⟨xs, n, rfl, _, hl, hlen, hf⟩ := DataW.trod_struct Tryd.underlying44 h
  have hl : cs.length = 4 := hl.trans (by kernel_rfl)
  obtain ⟨y0, hy0⟩ : ∃ y, xs[0]? = some y := ⟨_, List.getElem?_eq_getElem (by rw [hlen]; decide)⟩
  obtain ⟨a0, r0⟩ := rdb_int Tryd.underlying3 H enc w base spare held n _ _ ((hf 0 _ rfl).trans hy0)
  have r0 : rd false w ((cs.drop 0).take (Tryd.prog.cellsOf 3)) a0 All := r0
  rw [show Tryd.prog.cellsOf 3 = 1 from by kernel_rfl] at r0
  obtain ⟨y1, hy1⟩ : ∃ y, xs[1]? = some y := ⟨_, List.getElem?_eq_getElem (by rw [hlen]; decide)⟩
  obtain ⟨a1, r1⟩ := rdb_StringS H enc w base spare held n _ _ ((hf 1 _ rfl).trans hy1)
  have r1 : rd false w ((cs.drop 1).take (Tryd.prog.cellsOf 26)) a1 All := r1
  rw [show Tryd.prog.cellsOf 26 = 1 from by kernel_rfl] at r1
  obtain ⟨y2, hy2⟩ : ∃ y, xs[2]? = some y := ⟨_, List.getElem?_eq_getElem (by rw [hlen]; decide)⟩
  obtain ⟨a2, r2⟩ := rdb_StringS H enc w base spare held n _ _ ((hf 2 _ rfl).trans hy2)
  have r2 : rd false w ((cs.drop 2).take (Tryd.prog.cellsOf 26)) a2 All := r2
  rw [show Tryd.prog.cellsOf 26 = 1 from by kernel_rfl] at r2
  obtain ⟨y3, hy3⟩ : ∃ y, xs[3]? = some y := ⟨_, List.getElem?_eq_getElem (by rw [hlen]; decide)⟩
  obtain ⟨a3, r3⟩ := rdb_StringS H enc w base spare held n _ _ ((hf 3 _ rfl).trans hy3)
  have r3 : rd false w ((cs.drop 3).take (Tryd.prog.cellsOf 26)) a3 All := r3
  rw [show Tryd.prog.cellsOf 26 = 1 from by kernel_rfl] at r3
  have hz : rd false w (cs.drop 0) (a0, a1, a2, a3) All := rd_pair_drop r0 (rd_pair_drop r1 (rd_pair_drop r2 (rd_last_drop r3 (by omega))))
  exact ⟨⟨a0, a1, a2, a3⟩, hz⟩
theorem rdb_Seal : Rdb Seal Tryd.prog 46 := by
  intro H enc w base spare held fuel cs x h
  obtain ⟨xs, n, rfl, _, hl, hlen, hf⟩ := DataW.trod_struct Tryd.underlying46 h
  have hl : cs.length = 8 := hl.trans (by kernel_rfl)
  obtain ⟨y0, hy0⟩ : ∃ y, xs[0]? = some y := ⟨_, List.getElem?_eq_getElem (by rw [hlen]; decide)⟩
  obtain ⟨a0, r0⟩ := rdb_Head H enc w base spare held n _ _ ((hf 0 _ rfl).trans hy0)
  have r0 : rd false w ((cs.drop 0).take (Tryd.prog.cellsOf 43)) a0 All := r0
  rw [show Tryd.prog.cellsOf 43 = 4 from by kernel_rfl] at r0
  obtain ⟨y1, hy1⟩ : ∃ y, xs[1]? = some y := ⟨_, List.getElem?_eq_getElem (by rw [hlen]; decide)⟩
  obtain ⟨a1, r1⟩ := rdb_Sig H enc w base spare held n _ _ ((hf 1 _ rfl).trans hy1)
  have r1 : rd false w ((cs.drop 4).take (Tryd.prog.cellsOf 44)) a1 All := r1
  rw [show Tryd.prog.cellsOf 44 = 4 from by kernel_rfl] at r1
  have hz : rd false w (cs.drop 0) (a0, a1) All := rd_pair_drop r0 (rd_last_drop r1 (by omega))
  exact ⟨⟨a0, a1⟩, hz⟩
theorem rdb_Pair : Rdb Pair Tryd.prog 48 := by
  intro H enc w base spare held fuel cs x h
  obtain ⟨xs, n, rfl, _, hl, hlen, hf⟩ := DataW.trod_struct Tryd.underlying48 h
  have hl : cs.length = 16 := hl.trans (by kernel_rfl)
  obtain ⟨y0, hy0⟩ : ∃ y, xs[0]? = some y := ⟨_, List.getElem?_eq_getElem (by rw [hlen]; decide)⟩
  obtain ⟨a0, r0⟩ := rdb_Seal H enc w base spare held n _ _ ((hf 0 _ rfl).trans hy0)
  have r0 : rd false w ((cs.drop 0).take (Tryd.prog.cellsOf 46)) a0 All := r0
  rw [show Tryd.prog.cellsOf 46 = 8 from by kernel_rfl] at r0
  obtain ⟨y1, hy1⟩ : ∃ y, xs[1]? = some y := ⟨_, List.getElem?_eq_getElem (by rw [hlen]; decide)⟩
  obtain ⟨a1, r1⟩ := rdb_Seal H enc w base spare held n _ _ ((hf 1 _ rfl).trans hy1)
  have r1 : rd false w ((cs.drop 8).take (Tryd.prog.cellsOf 46)) a1 All := r1
  rw [show Tryd.prog.cellsOf 46 = 8 from by kernel_rfl] at r1
  have hz : rd false w (cs.drop 0) (a0, a1) All := rd_pair_drop r0 (rd_last_drop r1 (by omega))
  exact ⟨⟨a0, a1⟩, hz⟩
end Go.Proofs.YtbhpcjoohllfjaaDoor
