/- Each argument type of the laws, as the form reads it, is a layout. Written by a program (gen_br.py). -/
import Derived.Test.YtbnfkpbaaoknmaaBr
import Derived.Test.YtbnfkpbaaoknmaaTy
set_option linter.unusedVariables false
set_option linter.unusedSimpArgs false
namespace Go.Proofs.Ytbnfkpbaaoknmaa
open Go.RowKit Lay Mk
theorem rdb_File : Rdb File Try.prog 183 := by
  intro H enc w base spare held fuel cs x h
  obtain ⟨xs, n, rfl, _, hl, hlen, hf⟩ := DataW.trod_struct Try.underlying183 h
  have hl : cs.length = 3 := hl.trans (by kernel_rfl)
  obtain ⟨y0, hy0⟩ : ∃ y, xs[0]? = some y := ⟨_, List.getElem?_eq_getElem (by rw [hlen]; decide)⟩
  obtain ⟨a0, r0⟩ := rdb_str Try.underlying9 H enc w base spare held n _ _ ((hf 0 _ rfl).trans hy0)
  have r0 : rd false w ((cs.drop 0).take (Try.prog.cellsOf 9)) a0 All := r0
  rw [show Try.prog.cellsOf 9 = 1 from by kernel_rfl] at r0
  obtain ⟨y1, hy1⟩ : ∃ y, xs[1]? = some y := ⟨_, List.getElem?_eq_getElem (by rw [hlen]; decide)⟩
  obtain ⟨a1, r1⟩ := rdb_str Try.underlying9 H enc w base spare held n _ _ ((hf 1 _ rfl).trans hy1)
  have r1 : rd false w ((cs.drop 1).take (Try.prog.cellsOf 9)) a1 All := r1
  rw [show Try.prog.cellsOf 9 = 1 from by kernel_rfl] at r1
  obtain ⟨y2, hy2⟩ : ∃ y, xs[2]? = some y := ⟨_, List.getElem?_eq_getElem (by rw [hlen]; decide)⟩
  obtain ⟨a2, r2⟩ := rdb_int Try.underlying3 H enc w base spare held n _ _ ((hf 2 _ rfl).trans hy2)
  have r2 : rd false w ((cs.drop 2).take (Try.prog.cellsOf 3)) a2 All := r2
  rw [show Try.prog.cellsOf 3 = 1 from by kernel_rfl] at r2
  have hz : rd false w (cs.drop 0) (a0, a1, a2) All := rd_pair_drop r0 (rd_pair_drop r1 (rd_last_drop r2 (by omega)))
  exact ⟨⟨a0, a1, a2⟩, hz⟩
theorem rdb_FileS : Rdb (List File) Try.prog 43 := rdb_slice Try.underlying43 (by kernel_rfl) (rdb_File)
theorem rdb_Disk : Rdb Disk Try.prog 45 := by
  intro H enc w base spare held fuel cs x h
  obtain ⟨xs, n, rfl, _, hl, hlen, hf⟩ := DataW.trod_struct Try.underlying45 h
  have hl : cs.length = 1 := hl.trans (by kernel_rfl)
  obtain ⟨y0, hy0⟩ : ∃ y, xs[0]? = some y := ⟨_, List.getElem?_eq_getElem (by rw [hlen]; decide)⟩
  obtain ⟨a0, r0⟩ := rdb_FileS H enc w base spare held n _ _ ((hf 0 _ rfl).trans hy0)
  have r0 : rd false w ((cs.drop 0).take (Try.prog.cellsOf 43)) a0 All := r0
  rw [show Try.prog.cellsOf 43 = 1 from by kernel_rfl] at r0
  have hz : rd false w (cs.drop 0) (a0) All := rd_last_drop r0 (by omega)
  exact ⟨⟨a0⟩, hz⟩
theorem rdb_StringS : Rdb (List ByteArray) Try.prog 46 := rdb_slice Try.underlying46 (by kernel_rfl) (rdb_str Try.underlying9)
theorem rdb_Head : Rdb Head Try.prog 158 := by
  intro H enc w base spare held fuel cs x h
  obtain ⟨xs, n, rfl, _, hl, hlen, hf⟩ := DataW.trod_struct Try.underlying158 h
  have hl : cs.length = 4 := hl.trans (by kernel_rfl)
  obtain ⟨y0, hy0⟩ : ∃ y, xs[0]? = some y := ⟨_, List.getElem?_eq_getElem (by rw [hlen]; decide)⟩
  obtain ⟨a0, r0⟩ := rdb_int Try.underlying3 H enc w base spare held n _ _ ((hf 0 _ rfl).trans hy0)
  have r0 : rd false w ((cs.drop 0).take (Try.prog.cellsOf 3)) a0 All := r0
  rw [show Try.prog.cellsOf 3 = 1 from by kernel_rfl] at r0
  obtain ⟨y1, hy1⟩ : ∃ y, xs[1]? = some y := ⟨_, List.getElem?_eq_getElem (by rw [hlen]; decide)⟩
  obtain ⟨a1, r1⟩ := rdb_int Try.underlying3 H enc w base spare held n _ _ ((hf 1 _ rfl).trans hy1)
  have r1 : rd false w ((cs.drop 1).take (Try.prog.cellsOf 3)) a1 All := r1
  rw [show Try.prog.cellsOf 3 = 1 from by kernel_rfl] at r1
  obtain ⟨y2, hy2⟩ : ∃ y, xs[2]? = some y := ⟨_, List.getElem?_eq_getElem (by rw [hlen]; decide)⟩
  obtain ⟨a2, r2⟩ := rdb_str Try.underlying9 H enc w base spare held n _ _ ((hf 2 _ rfl).trans hy2)
  have r2 : rd false w ((cs.drop 2).take (Try.prog.cellsOf 9)) a2 All := r2
  rw [show Try.prog.cellsOf 9 = 1 from by kernel_rfl] at r2
  obtain ⟨y3, hy3⟩ : ∃ y, xs[3]? = some y := ⟨_, List.getElem?_eq_getElem (by rw [hlen]; decide)⟩
  obtain ⟨a3, r3⟩ := rdb_str Try.underlying9 H enc w base spare held n _ _ ((hf 3 _ rfl).trans hy3)
  have r3 : rd false w ((cs.drop 3).take (Try.prog.cellsOf 9)) a3 All := r3
  rw [show Try.prog.cellsOf 9 = 1 from by kernel_rfl] at r3
  have hz : rd false w (cs.drop 0) (a0, a1, a2, a3) All := rd_pair_drop r0 (rd_pair_drop r1 (rd_pair_drop r2 (rd_last_drop r3 (by omega))))
  exact ⟨⟨a0, a1, a2, a3⟩, hz⟩
theorem rdb_Sig : Rdb Sig Try.prog 159 := by
  intro H enc w base spare held fuel cs x h
  obtain ⟨xs, n, rfl, _, hl, hlen, hf⟩ := DataW.trod_struct Try.underlying159 h
  have hl : cs.length = 4 := hl.trans (by kernel_rfl)
  obtain ⟨y0, hy0⟩ : ∃ y, xs[0]? = some y := ⟨_, List.getElem?_eq_getElem (by rw [hlen]; decide)⟩
  obtain ⟨a0, r0⟩ := rdb_int Try.underlying3 H enc w base spare held n _ _ ((hf 0 _ rfl).trans hy0)
  have r0 : rd false w ((cs.drop 0).take (Try.prog.cellsOf 3)) a0 All := r0
  rw [show Try.prog.cellsOf 3 = 1 from by kernel_rfl] at r0
  obtain ⟨y1, hy1⟩ : ∃ y, xs[1]? = some y := ⟨_, List.getElem?_eq_getElem (by rw [hlen]; decide)⟩
  obtain ⟨a1, r1⟩ := rdb_StringS H enc w base spare held n _ _ ((hf 1 _ rfl).trans hy1)
  have r1 : rd false w ((cs.drop 1).take (Try.prog.cellsOf 46)) a1 All := r1
  rw [show Try.prog.cellsOf 46 = 1 from by kernel_rfl] at r1
  obtain ⟨y2, hy2⟩ : ∃ y, xs[2]? = some y := ⟨_, List.getElem?_eq_getElem (by rw [hlen]; decide)⟩
  obtain ⟨a2, r2⟩ := rdb_StringS H enc w base spare held n _ _ ((hf 2 _ rfl).trans hy2)
  have r2 : rd false w ((cs.drop 2).take (Try.prog.cellsOf 46)) a2 All := r2
  rw [show Try.prog.cellsOf 46 = 1 from by kernel_rfl] at r2
  obtain ⟨y3, hy3⟩ : ∃ y, xs[3]? = some y := ⟨_, List.getElem?_eq_getElem (by rw [hlen]; decide)⟩
  obtain ⟨a3, r3⟩ := rdb_StringS H enc w base spare held n _ _ ((hf 3 _ rfl).trans hy3)
  have r3 : rd false w ((cs.drop 3).take (Try.prog.cellsOf 46)) a3 All := r3
  rw [show Try.prog.cellsOf 46 = 1 from by kernel_rfl] at r3
  have hz : rd false w (cs.drop 0) (a0, a1, a2, a3) All := rd_pair_drop r0 (rd_pair_drop r1 (rd_pair_drop r2 (rd_last_drop r3 (by omega))))
  exact ⟨⟨a0, a1, a2, a3⟩, hz⟩
theorem rdb_Seal : Rdb Seal Try.prog 161 := by
  intro H enc w base spare held fuel cs x h
  obtain ⟨xs, n, rfl, _, hl, hlen, hf⟩ := DataW.trod_struct Try.underlying161 h
  have hl : cs.length = 8 := hl.trans (by kernel_rfl)
  obtain ⟨y0, hy0⟩ : ∃ y, xs[0]? = some y := ⟨_, List.getElem?_eq_getElem (by rw [hlen]; decide)⟩
  obtain ⟨a0, r0⟩ := rdb_Head H enc w base spare held n _ _ ((hf 0 _ rfl).trans hy0)
  have r0 : rd false w ((cs.drop 0).take (Try.prog.cellsOf 158)) a0 All := r0
  rw [show Try.prog.cellsOf 158 = 4 from by kernel_rfl] at r0
  obtain ⟨y1, hy1⟩ : ∃ y, xs[1]? = some y := ⟨_, List.getElem?_eq_getElem (by rw [hlen]; decide)⟩
  obtain ⟨a1, r1⟩ := rdb_Sig H enc w base spare held n _ _ ((hf 1 _ rfl).trans hy1)
  have r1 : rd false w ((cs.drop 4).take (Try.prog.cellsOf 159)) a1 All := r1
  rw [show Try.prog.cellsOf 159 = 4 from by kernel_rfl] at r1
  have hz : rd false w (cs.drop 0) (a0, a1) All := rd_pair_drop r0 (rd_last_drop r1 (by omega))
  exact ⟨⟨a0, a1⟩, hz⟩
theorem rdb_SealS : Rdb (List Seal) Try.prog 47 := rdb_slice Try.underlying47 (by kernel_rfl) (rdb_Seal)
theorem rdb_Pair : Rdb Pair Try.prog 163 := by
  intro H enc w base spare held fuel cs x h
  obtain ⟨xs, n, rfl, _, hl, hlen, hf⟩ := DataW.trod_struct Try.underlying163 h
  have hl : cs.length = 16 := hl.trans (by kernel_rfl)
  obtain ⟨y0, hy0⟩ : ∃ y, xs[0]? = some y := ⟨_, List.getElem?_eq_getElem (by rw [hlen]; decide)⟩
  obtain ⟨a0, r0⟩ := rdb_Seal H enc w base spare held n _ _ ((hf 0 _ rfl).trans hy0)
  have r0 : rd false w ((cs.drop 0).take (Try.prog.cellsOf 161)) a0 All := r0
  rw [show Try.prog.cellsOf 161 = 8 from by kernel_rfl] at r0
  obtain ⟨y1, hy1⟩ : ∃ y, xs[1]? = some y := ⟨_, List.getElem?_eq_getElem (by rw [hlen]; decide)⟩
  obtain ⟨a1, r1⟩ := rdb_Seal H enc w base spare held n _ _ ((hf 1 _ rfl).trans hy1)
  have r1 : rd false w ((cs.drop 8).take (Try.prog.cellsOf 161)) a1 All := r1
  rw [show Try.prog.cellsOf 161 = 8 from by kernel_rfl] at r1
  have hz : rd false w (cs.drop 0) (a0, a1) All := rd_pair_drop r0 (rd_last_drop r1 (by omega))
  exact ⟨⟨a0, a1⟩, hz⟩
theorem rdb_PairS : Rdb (List Pair) Try.prog 48 := rdb_slice Try.underlying48 (by kernel_rfl) (rdb_Pair)
theorem rdb_Auditor : Rdb Auditor Try.prog 50 := by
  intro H enc w base spare held fuel cs x h
  obtain ⟨xs, n, rfl, _, hl, hlen, hf⟩ := DataW.trod_struct Try.underlying50 h
  have hl : cs.length = 6 := hl.trans (by kernel_rfl)
  obtain ⟨y0, hy0⟩ : ∃ y, xs[0]? = some y := ⟨_, List.getElem?_eq_getElem (by rw [hlen]; decide)⟩
  obtain ⟨a0, r0⟩ := rdb_int Try.underlying3 H enc w base spare held n _ _ ((hf 0 _ rfl).trans hy0)
  have r0 : rd false w ((cs.drop 0).take (Try.prog.cellsOf 3)) a0 All := r0
  rw [show Try.prog.cellsOf 3 = 1 from by kernel_rfl] at r0
  obtain ⟨y1, hy1⟩ : ∃ y, xs[1]? = some y := ⟨_, List.getElem?_eq_getElem (by rw [hlen]; decide)⟩
  obtain ⟨a1, r1⟩ := rdb_bool Try.underlying4 H enc w base spare held n _ _ ((hf 1 _ rfl).trans hy1)
  have r1 : rd false w ((cs.drop 1).take (Try.prog.cellsOf 4)) a1 All := r1
  rw [show Try.prog.cellsOf 4 = 1 from by kernel_rfl] at r1
  obtain ⟨y2, hy2⟩ : ∃ y, xs[2]? = some y := ⟨_, List.getElem?_eq_getElem (by rw [hlen]; decide)⟩
  obtain ⟨a2, r2⟩ := rdb_Disk H enc w base spare held n _ _ ((hf 2 _ rfl).trans hy2)
  have r2 : rd false w ((cs.drop 2).take (Try.prog.cellsOf 45)) a2 All := r2
  rw [show Try.prog.cellsOf 45 = 1 from by kernel_rfl] at r2
  obtain ⟨y3, hy3⟩ : ∃ y, xs[3]? = some y := ⟨_, List.getElem?_eq_getElem (by rw [hlen]; decide)⟩
  obtain ⟨a3, r3⟩ := rdb_StringS H enc w base spare held n _ _ ((hf 3 _ rfl).trans hy3)
  have r3 : rd false w ((cs.drop 3).take (Try.prog.cellsOf 46)) a3 All := r3
  rw [show Try.prog.cellsOf 46 = 1 from by kernel_rfl] at r3
  obtain ⟨y4, hy4⟩ : ∃ y, xs[4]? = some y := ⟨_, List.getElem?_eq_getElem (by rw [hlen]; decide)⟩
  obtain ⟨a4, r4⟩ := rdb_SealS H enc w base spare held n _ _ ((hf 4 _ rfl).trans hy4)
  have r4 : rd false w ((cs.drop 4).take (Try.prog.cellsOf 47)) a4 All := r4
  rw [show Try.prog.cellsOf 47 = 1 from by kernel_rfl] at r4
  obtain ⟨y5, hy5⟩ : ∃ y, xs[5]? = some y := ⟨_, List.getElem?_eq_getElem (by rw [hlen]; decide)⟩
  obtain ⟨a5, r5⟩ := rdb_PairS H enc w base spare held n _ _ ((hf 5 _ rfl).trans hy5)
  have r5 : rd false w ((cs.drop 5).take (Try.prog.cellsOf 48)) a5 All := r5
  rw [show Try.prog.cellsOf 48 = 1 from by kernel_rfl] at r5
  have hz : rd false w (cs.drop 0) (a0, a1, a2, a3, a4, a5) All := rd_pair_drop r0 (rd_pair_drop r1 (rd_pair_drop r2 (rd_pair_drop r3 (rd_pair_drop r4 (rd_last_drop r5 (by omega))))))
  exact ⟨⟨a0, a1, a2, a3, a4, a5⟩, hz⟩
theorem rdb_Change : Rdb Change Try.prog 24 := by
  intro H enc w base spare held fuel cs x h
  obtain ⟨xs, n, rfl, _, hl, hlen, hf⟩ := DataW.trod_struct Try.underlying24 h
  have hl : cs.length = 3 := hl.trans (by kernel_rfl)
  obtain ⟨y0, hy0⟩ : ∃ y, xs[0]? = some y := ⟨_, List.getElem?_eq_getElem (by rw [hlen]; decide)⟩
  obtain ⟨a0, r0⟩ := rdb_int Try.underlying3 H enc w base spare held n _ _ ((hf 0 _ rfl).trans hy0)
  have r0 : rd false w ((cs.drop 0).take (Try.prog.cellsOf 3)) a0 All := r0
  rw [show Try.prog.cellsOf 3 = 1 from by kernel_rfl] at r0
  obtain ⟨y1, hy1⟩ : ∃ y, xs[1]? = some y := ⟨_, List.getElem?_eq_getElem (by rw [hlen]; decide)⟩
  obtain ⟨a1, r1⟩ := rdb_str Try.underlying9 H enc w base spare held n _ _ ((hf 1 _ rfl).trans hy1)
  have r1 : rd false w ((cs.drop 1).take (Try.prog.cellsOf 9)) a1 All := r1
  rw [show Try.prog.cellsOf 9 = 1 from by kernel_rfl] at r1
  obtain ⟨y2, hy2⟩ : ∃ y, xs[2]? = some y := ⟨_, List.getElem?_eq_getElem (by rw [hlen]; decide)⟩
  obtain ⟨a2, r2⟩ := rdb_str Try.underlying9 H enc w base spare held n _ _ ((hf 2 _ rfl).trans hy2)
  have r2 : rd false w ((cs.drop 2).take (Try.prog.cellsOf 9)) a2 All := r2
  rw [show Try.prog.cellsOf 9 = 1 from by kernel_rfl] at r2
  have hz : rd false w (cs.drop 0) (a0, a1, a2) All := rd_pair_drop r0 (rd_pair_drop r1 (rd_last_drop r2 (by omega)))
  exact ⟨⟨a0, a1, a2⟩, hz⟩
theorem rdb_IntS : Rdb (List Int) Try.prog 63 := rdb_slice Try.underlying63 (by kernel_rfl) (rdb_int Try.underlying3)
theorem rdb_BoolS : Rdb (List Bool) Try.prog 87 := rdb_slice Try.underlying87 (by kernel_rfl) (rdb_bool Try.underlying4)
theorem rdb_Coord : Rdb Coord Try.prog 89 := by
  intro H enc w base spare held fuel cs x h
  obtain ⟨xs, n, rfl, _, hl, hlen, hf⟩ := DataW.trod_struct Try.underlying89 h
  have hl : cs.length = 11 := hl.trans (by kernel_rfl)
  obtain ⟨y0, hy0⟩ : ∃ y, xs[0]? = some y := ⟨_, List.getElem?_eq_getElem (by rw [hlen]; decide)⟩
  obtain ⟨a0, r0⟩ := rdb_int Try.underlying3 H enc w base spare held n _ _ ((hf 0 _ rfl).trans hy0)
  have r0 : rd false w ((cs.drop 0).take (Try.prog.cellsOf 3)) a0 All := r0
  rw [show Try.prog.cellsOf 3 = 1 from by kernel_rfl] at r0
  obtain ⟨y1, hy1⟩ : ∃ y, xs[1]? = some y := ⟨_, List.getElem?_eq_getElem (by rw [hlen]; decide)⟩
  obtain ⟨a1, r1⟩ := rdb_int Try.underlying3 H enc w base spare held n _ _ ((hf 1 _ rfl).trans hy1)
  have r1 : rd false w ((cs.drop 1).take (Try.prog.cellsOf 3)) a1 All := r1
  rw [show Try.prog.cellsOf 3 = 1 from by kernel_rfl] at r1
  obtain ⟨y2, hy2⟩ : ∃ y, xs[2]? = some y := ⟨_, List.getElem?_eq_getElem (by rw [hlen]; decide)⟩
  obtain ⟨a2, r2⟩ := rdb_bool Try.underlying4 H enc w base spare held n _ _ ((hf 2 _ rfl).trans hy2)
  have r2 : rd false w ((cs.drop 2).take (Try.prog.cellsOf 4)) a2 All := r2
  rw [show Try.prog.cellsOf 4 = 1 from by kernel_rfl] at r2
  obtain ⟨y3, hy3⟩ : ∃ y, xs[3]? = some y := ⟨_, List.getElem?_eq_getElem (by rw [hlen]; decide)⟩
  obtain ⟨a3, r3⟩ := rdb_Disk H enc w base spare held n _ _ ((hf 3 _ rfl).trans hy3)
  have r3 : rd false w ((cs.drop 3).take (Try.prog.cellsOf 45)) a3 All := r3
  rw [show Try.prog.cellsOf 45 = 1 from by kernel_rfl] at r3
  obtain ⟨y4, hy4⟩ : ∃ y, xs[4]? = some y := ⟨_, List.getElem?_eq_getElem (by rw [hlen]; decide)⟩
  obtain ⟨a4, r4⟩ := rdb_StringS H enc w base spare held n _ _ ((hf 4 _ rfl).trans hy4)
  have r4 : rd false w ((cs.drop 4).take (Try.prog.cellsOf 46)) a4 All := r4
  rw [show Try.prog.cellsOf 46 = 1 from by kernel_rfl] at r4
  obtain ⟨y5, hy5⟩ : ∃ y, xs[5]? = some y := ⟨_, List.getElem?_eq_getElem (by rw [hlen]; decide)⟩
  obtain ⟨a5, r5⟩ := rdb_SealS H enc w base spare held n _ _ ((hf 5 _ rfl).trans hy5)
  have r5 : rd false w ((cs.drop 5).take (Try.prog.cellsOf 47)) a5 All := r5
  rw [show Try.prog.cellsOf 47 = 1 from by kernel_rfl] at r5
  obtain ⟨y6, hy6⟩ : ∃ y, xs[6]? = some y := ⟨_, List.getElem?_eq_getElem (by rw [hlen]; decide)⟩
  obtain ⟨a6, r6⟩ := rdb_IntS H enc w base spare held n _ _ ((hf 6 _ rfl).trans hy6)
  have r6 : rd false w ((cs.drop 6).take (Try.prog.cellsOf 63)) a6 All := r6
  rw [show Try.prog.cellsOf 63 = 1 from by kernel_rfl] at r6
  obtain ⟨y7, hy7⟩ : ∃ y, xs[7]? = some y := ⟨_, List.getElem?_eq_getElem (by rw [hlen]; decide)⟩
  obtain ⟨a7, r7⟩ := rdb_int Try.underlying3 H enc w base spare held n _ _ ((hf 7 _ rfl).trans hy7)
  have r7 : rd false w ((cs.drop 7).take (Try.prog.cellsOf 3)) a7 All := r7
  rw [show Try.prog.cellsOf 3 = 1 from by kernel_rfl] at r7
  obtain ⟨y8, hy8⟩ : ∃ y, xs[8]? = some y := ⟨_, List.getElem?_eq_getElem (by rw [hlen]; decide)⟩
  obtain ⟨a8, r8⟩ := rdb_bool Try.underlying4 H enc w base spare held n _ _ ((hf 8 _ rfl).trans hy8)
  have r8 : rd false w ((cs.drop 8).take (Try.prog.cellsOf 4)) a8 All := r8
  rw [show Try.prog.cellsOf 4 = 1 from by kernel_rfl] at r8
  obtain ⟨y9, hy9⟩ : ∃ y, xs[9]? = some y := ⟨_, List.getElem?_eq_getElem (by rw [hlen]; decide)⟩
  obtain ⟨a9, r9⟩ := rdb_StringS H enc w base spare held n _ _ ((hf 9 _ rfl).trans hy9)
  have r9 : rd false w ((cs.drop 9).take (Try.prog.cellsOf 46)) a9 All := r9
  rw [show Try.prog.cellsOf 46 = 1 from by kernel_rfl] at r9
  obtain ⟨y10, hy10⟩ : ∃ y, xs[10]? = some y := ⟨_, List.getElem?_eq_getElem (by rw [hlen]; decide)⟩
  obtain ⟨a10, r10⟩ := rdb_BoolS H enc w base spare held n _ _ ((hf 10 _ rfl).trans hy10)
  have r10 : rd false w ((cs.drop 10).take (Try.prog.cellsOf 87)) a10 All := r10
  rw [show Try.prog.cellsOf 87 = 1 from by kernel_rfl] at r10
  have hz : rd false w (cs.drop 0) (a0, a1, a2, a3, a4, a5, a6, a7, a8, a9, a10) All := rd_pair_drop r0 (rd_pair_drop r1 (rd_pair_drop r2 (rd_pair_drop r3 (rd_pair_drop r4 (rd_pair_drop r5 (rd_pair_drop r6 (rd_pair_drop r7 (rd_pair_drop r8 (rd_pair_drop r9 (rd_last_drop r10 (by omega)))))))))))
  exact ⟨⟨a0, a1, a2, a3, a4, a5, a6, a7, a8, a9, a10⟩, hz⟩
theorem rdb_Leaf : Rdb Leaf Try.prog 109 := by
  intro H enc w base spare held fuel cs x h
  obtain ⟨xs, n, rfl, _, hl, hlen, hf⟩ := DataW.trod_struct Try.underlying109 h
  have hl : cs.length = 2 := hl.trans (by kernel_rfl)
  obtain ⟨y0, hy0⟩ : ∃ y, xs[0]? = some y := ⟨_, List.getElem?_eq_getElem (by rw [hlen]; decide)⟩
  obtain ⟨a0, r0⟩ := rdb_str Try.underlying9 H enc w base spare held n _ _ ((hf 0 _ rfl).trans hy0)
  have r0 : rd false w ((cs.drop 0).take (Try.prog.cellsOf 9)) a0 All := r0
  rw [show Try.prog.cellsOf 9 = 1 from by kernel_rfl] at r0
  obtain ⟨y1, hy1⟩ : ∃ y, xs[1]? = some y := ⟨_, List.getElem?_eq_getElem (by rw [hlen]; decide)⟩
  obtain ⟨a1, r1⟩ := rdb_str Try.underlying9 H enc w base spare held n _ _ ((hf 1 _ rfl).trans hy1)
  have r1 : rd false w ((cs.drop 1).take (Try.prog.cellsOf 9)) a1 All := r1
  rw [show Try.prog.cellsOf 9 = 1 from by kernel_rfl] at r1
  have hz : rd false w (cs.drop 0) (a0, a1) All := rd_pair_drop r0 (rd_last_drop r1 (by omega))
  exact ⟨⟨a0, a1⟩, hz⟩
theorem rdb_LeafS : Rdb (List Leaf) Try.prog 22 := rdb_slice Try.underlying22 (by kernel_rfl) (rdb_Leaf)
theorem rdb_LeafSS : Rdb (List (List Leaf)) Try.prog 62 := rdb_slice Try.underlying62 (by kernel_rfl) (rdb_LeafS)
theorem rdb_ChangeS : Rdb (List Change) Try.prog 35 := rdb_slice Try.underlying35 (by kernel_rfl) (rdb_Change)
theorem rdb_Ready : Rdb Ready Try.prog 65 := by
  intro H enc w base spare held fuel cs x h
  obtain ⟨xs, n, rfl, _, hl, hlen, hf⟩ := DataW.trod_struct Try.underlying65 h
  have hl : cs.length = 3 := hl.trans (by kernel_rfl)
  obtain ⟨y0, hy0⟩ : ∃ y, xs[0]? = some y := ⟨_, List.getElem?_eq_getElem (by rw [hlen]; decide)⟩
  obtain ⟨a0, r0⟩ := rdb_int Try.underlying3 H enc w base spare held n _ _ ((hf 0 _ rfl).trans hy0)
  have r0 : rd false w ((cs.drop 0).take (Try.prog.cellsOf 3)) a0 All := r0
  rw [show Try.prog.cellsOf 3 = 1 from by kernel_rfl] at r0
  obtain ⟨y1, hy1⟩ : ∃ y, xs[1]? = some y := ⟨_, List.getElem?_eq_getElem (by rw [hlen]; decide)⟩
  obtain ⟨a1, r1⟩ := rdb_int Try.underlying3 H enc w base spare held n _ _ ((hf 1 _ rfl).trans hy1)
  have r1 : rd false w ((cs.drop 1).take (Try.prog.cellsOf 3)) a1 All := r1
  rw [show Try.prog.cellsOf 3 = 1 from by kernel_rfl] at r1
  obtain ⟨y2, hy2⟩ : ∃ y, xs[2]? = some y := ⟨_, List.getElem?_eq_getElem (by rw [hlen]; decide)⟩
  obtain ⟨a2, r2⟩ := rdb_int Try.underlying3 H enc w base spare held n _ _ ((hf 2 _ rfl).trans hy2)
  have r2 : rd false w ((cs.drop 2).take (Try.prog.cellsOf 3)) a2 All := r2
  rw [show Try.prog.cellsOf 3 = 1 from by kernel_rfl] at r2
  have hz : rd false w (cs.drop 0) (a0, a1, a2) All := rd_pair_drop r0 (rd_pair_drop r1 (rd_last_drop r2 (by omega)))
  exact ⟨⟨a0, a1, a2⟩, hz⟩
theorem rdb_Server : Rdb Server Try.prog 67 := by
  intro H enc w base spare held fuel cs x h
  obtain ⟨xs, n, rfl, _, hl, hlen, hf⟩ := DataW.trod_struct Try.underlying67 h
  have hl : cs.length = 11 := hl.trans (by kernel_rfl)
  obtain ⟨y0, hy0⟩ : ∃ y, xs[0]? = some y := ⟨_, List.getElem?_eq_getElem (by rw [hlen]; decide)⟩
  obtain ⟨a0, r0⟩ := rdb_int Try.underlying3 H enc w base spare held n _ _ ((hf 0 _ rfl).trans hy0)
  have r0 : rd false w ((cs.drop 0).take (Try.prog.cellsOf 3)) a0 All := r0
  rw [show Try.prog.cellsOf 3 = 1 from by kernel_rfl] at r0
  obtain ⟨y1, hy1⟩ : ∃ y, xs[1]? = some y := ⟨_, List.getElem?_eq_getElem (by rw [hlen]; decide)⟩
  obtain ⟨a1, r1⟩ := rdb_int Try.underlying3 H enc w base spare held n _ _ ((hf 1 _ rfl).trans hy1)
  have r1 : rd false w ((cs.drop 1).take (Try.prog.cellsOf 3)) a1 All := r1
  rw [show Try.prog.cellsOf 3 = 1 from by kernel_rfl] at r1
  obtain ⟨y2, hy2⟩ : ∃ y, xs[2]? = some y := ⟨_, List.getElem?_eq_getElem (by rw [hlen]; decide)⟩
  obtain ⟨a2, r2⟩ := rdb_bool Try.underlying4 H enc w base spare held n _ _ ((hf 2 _ rfl).trans hy2)
  have r2 : rd false w ((cs.drop 2).take (Try.prog.cellsOf 4)) a2 All := r2
  rw [show Try.prog.cellsOf 4 = 1 from by kernel_rfl] at r2
  obtain ⟨y3, hy3⟩ : ∃ y, xs[3]? = some y := ⟨_, List.getElem?_eq_getElem (by rw [hlen]; decide)⟩
  obtain ⟨a3, r3⟩ := rdb_Disk H enc w base spare held n _ _ ((hf 3 _ rfl).trans hy3)
  have r3 : rd false w ((cs.drop 3).take (Try.prog.cellsOf 45)) a3 All := r3
  rw [show Try.prog.cellsOf 45 = 1 from by kernel_rfl] at r3
  obtain ⟨y4, hy4⟩ : ∃ y, xs[4]? = some y := ⟨_, List.getElem?_eq_getElem (by rw [hlen]; decide)⟩
  obtain ⟨a4, r4⟩ := rdb_int Try.underlying3 H enc w base spare held n _ _ ((hf 4 _ rfl).trans hy4)
  have r4 : rd false w ((cs.drop 4).take (Try.prog.cellsOf 3)) a4 All := r4
  rw [show Try.prog.cellsOf 3 = 1 from by kernel_rfl] at r4
  obtain ⟨y5, hy5⟩ : ∃ y, xs[5]? = some y := ⟨_, List.getElem?_eq_getElem (by rw [hlen]; decide)⟩
  obtain ⟨a5, r5⟩ := rdb_LeafSS H enc w base spare held n _ _ ((hf 5 _ rfl).trans hy5)
  have r5 : rd false w ((cs.drop 5).take (Try.prog.cellsOf 62)) a5 All := r5
  rw [show Try.prog.cellsOf 62 = 1 from by kernel_rfl] at r5
  obtain ⟨y6, hy6⟩ : ∃ y, xs[6]? = some y := ⟨_, List.getElem?_eq_getElem (by rw [hlen]; decide)⟩
  obtain ⟨a6, r6⟩ := rdb_IntS H enc w base spare held n _ _ ((hf 6 _ rfl).trans hy6)
  have r6 : rd false w ((cs.drop 6).take (Try.prog.cellsOf 63)) a6 All := r6
  rw [show Try.prog.cellsOf 63 = 1 from by kernel_rfl] at r6
  obtain ⟨y7, hy7⟩ : ∃ y, xs[7]? = some y := ⟨_, List.getElem?_eq_getElem (by rw [hlen]; decide)⟩
  obtain ⟨a7, r7⟩ := rdb_ChangeS H enc w base spare held n _ _ ((hf 7 _ rfl).trans hy7)
  have r7 : rd false w ((cs.drop 7).take (Try.prog.cellsOf 35)) a7 All := r7
  rw [show Try.prog.cellsOf 35 = 1 from by kernel_rfl] at r7
  obtain ⟨y8, hy8⟩ : ∃ y, xs[8]? = some y := ⟨_, List.getElem?_eq_getElem (by rw [hlen]; decide)⟩
  obtain ⟨a8, r8⟩ := rdb_Ready H enc w base spare held n _ _ ((hf 8 _ rfl).trans hy8)
  have r8 : rd false w ((cs.drop 8).take (Try.prog.cellsOf 65)) a8 All := r8
  rw [show Try.prog.cellsOf 65 = 3 from by kernel_rfl] at r8
  have hz : rd false w (cs.drop 0) (a0, a1, a2, a3, a4, a5, a6, a7, a8) All := rd_pair_drop r0 (rd_pair_drop r1 (rd_pair_drop r2 (rd_pair_drop r3 (rd_pair_drop r4 (rd_pair_drop r5 (rd_pair_drop r6 (rd_pair_drop r7 (rd_last_drop r8 (by omega)))))))))
  exact ⟨⟨a0, a1, a2, a3, a4, a5, a6, a7, a8⟩, hz⟩
end Go.Proofs.Ytbnfkpbaaoknmaa
