/- Walks of the law's helpers: those that this law needs. -/
import Derived.Test.YthgonaodmpegfaaGreatDoorBr
import Derived.Test.YthgonaodmpegfaaGreatDoorTy
set_option linter.unusedVariables false
set_option linter.unusedSimpArgs false
namespace Go.Proofs.YthgonaodmpegfaaGreatDoor
open Go.RowKit Lay Mk
theorem rdb_File : Rdb File Tryz.prog 276 := by
  intro H enc w base spare held fuel cs x h
  obtain ⟨xs, n, rfl, _, hl, hlen, hf⟩ := DataW.trod_struct Tryz.underlying276 h
  have hl : cs.length = 3 := hl.trans (by kernel_rfl)
  obtain ⟨y0, hy0⟩ : ∃ y, xs[0]? = some y := ⟨_, List.getElem?_eq_getElem (by rw [hlen]; decide)⟩
  obtain ⟨a0, r0⟩ := rdb_str Tryz.underlying9 H enc w base spare held n _ _ ((hf 0 _ rfl).trans hy0)
  have r0 : rd false w ((cs.drop 0).take (Tryz.prog.cellsOf 9)) a0 All := r0
  rw [show Tryz.prog.cellsOf 9 = 1 from by kernel_rfl] at r0
  obtain ⟨y1, hy1⟩ : ∃ y, xs[1]? = some y := ⟨_, List.getElem?_eq_getElem (by rw [hlen]; decide)⟩
  obtain ⟨a1, r1⟩ := rdb_str Tryz.underlying9 H enc w base spare held n _ _ ((hf 1 _ rfl).trans hy1)
  have r1 : rd false w ((cs.drop 1).take (Tryz.prog.cellsOf 9)) a1 All := r1
  rw [show Tryz.prog.cellsOf 9 = 1 from by kernel_rfl] at r1
  obtain ⟨y2, hy2⟩ : ∃ y, xs[2]? = some y := ⟨_, List.getElem?_eq_getElem (by rw [hlen]; decide)⟩
  obtain ⟨a2, r2⟩ := rdb_int Tryz.underlying3 H enc w base spare held n _ _ ((hf 2 _ rfl).trans hy2)
  have r2 : rd false w ((cs.drop 2).take (Tryz.prog.cellsOf 3)) a2 All := r2
  rw [show Tryz.prog.cellsOf 3 = 1 from by kernel_rfl] at r2
  have hz : rd false w (cs.drop 0) (a0, a1, a2) All := rd_pair_drop r0 (rd_pair_drop r1 (rd_last_drop r2 (by omega)))
  exact ⟨⟨a0, a1, a2⟩, hz⟩
theorem rdb_FileS : Rdb (List File) Tryz.prog 22 := rdb_slice Tryz.underlying22 (by kernel_rfl) (rdb_File)
theorem rdb_Disk : Rdb Disk Tryz.prog 24 := by
  intro H enc w base spare held fuel cs x h
  obtain ⟨xs, n, rfl, _, hl, hlen, hf⟩ := DataW.trod_struct Tryz.underlying24 h
  have hl : cs.length = 1 := hl.trans (by kernel_rfl)
  obtain ⟨y0, hy0⟩ : ∃ y, xs[0]? = some y := ⟨_, List.getElem?_eq_getElem (by rw [hlen]; decide)⟩
  obtain ⟨a0, r0⟩ := rdb_FileS H enc w base spare held n _ _ ((hf 0 _ rfl).trans hy0)
  have r0 : rd false w ((cs.drop 0).take (Tryz.prog.cellsOf 22)) a0 All := r0
  rw [show Tryz.prog.cellsOf 22 = 1 from by kernel_rfl] at r0
  have hz : rd false w (cs.drop 0) (a0) All := rd_last_drop r0 (by omega)
  exact ⟨⟨a0⟩, hz⟩
theorem rdb_StringS : Rdb (List ByteArray) Tryz.prog 25 := rdb_slice Tryz.underlying25 (by kernel_rfl) (rdb_str Tryz.underlying9)
theorem rdb_Head : Rdb Head Tryz.prog 173 := by
  intro H enc w base spare held fuel cs x h
  obtain ⟨xs, n, rfl, _, hl, hlen, hf⟩ := DataW.trod_struct Tryz.underlying173 h
  have hl : cs.length = 4 := hl.trans (by kernel_rfl)
  obtain ⟨y0, hy0⟩ : ∃ y, xs[0]? = some y := ⟨_, List.getElem?_eq_getElem (by rw [hlen]; decide)⟩
  obtain ⟨a0, r0⟩ := rdb_int Tryz.underlying3 H enc w base spare held n _ _ ((hf 0 _ rfl).trans hy0)
  have r0 : rd false w ((cs.drop 0).take (Tryz.prog.cellsOf 3)) a0 All := r0
  rw [show Tryz.prog.cellsOf 3 = 1 from by kernel_rfl] at r0
  obtain ⟨y1, hy1⟩ : ∃ y, xs[1]? = some y := ⟨_, List.getElem?_eq_getElem (by rw [hlen]; decide)⟩
  obtain ⟨a1, r1⟩ := rdb_int Tryz.underlying3 H enc w base spare held n _ _ ((hf 1 _ rfl).trans hy1)
  have r1 : rd false w ((cs.drop 1).take (Tryz.prog.cellsOf 3)) a1 All := r1
  rw [show Tryz.prog.cellsOf 3 = 1 from by kernel_rfl] at r1
  obtain ⟨y2, hy2⟩ : ∃ y, xs[2]? = some y := ⟨_, List.getElem?_eq_getElem (by rw [hlen]; decide)⟩
  obtain ⟨a2, r2⟩ := rdb_str Tryz.underlying9 H enc w base spare held n _ _ ((hf 2 _ rfl).trans hy2)
  have r2 : rd false w ((cs.drop 2).take (Tryz.prog.cellsOf 9)) a2 All := r2
  rw [show Tryz.prog.cellsOf 9 = 1 from by kernel_rfl] at r2
  obtain ⟨y3, hy3⟩ : ∃ y, xs[3]? = some y := ⟨_, List.getElem?_eq_getElem (by rw [hlen]; decide)⟩
  obtain ⟨a3, r3⟩ := rdb_str Tryz.underlying9 H enc w base spare held n _ _ ((hf 3 _ rfl).trans hy3)
  have r3 : rd false w ((cs.drop 3).take (Tryz.prog.cellsOf 9)) a3 All := r3
  rw [show Tryz.prog.cellsOf 9 = 1 from by kernel_rfl] at r3
  have hz : rd false w (cs.drop 0) (a0, a1, a2, a3) All := rd_pair_drop r0 (rd_pair_drop r1 (rd_pair_drop r2 (rd_last_drop r3 (by omega))))
  exact ⟨⟨a0, a1, a2, a3⟩, hz⟩
theorem rdb_Sig : Rdb Sig Tryz.prog 174 := by
  intro H enc w base spare held fuel cs x h
  obtain ⟨xs, n, rfl, _, hl, hlen, hf⟩ := DataW.trod_struct Tryz.underlying174 h
  have hl : cs.length = 4 := hl.trans (by kernel_rfl)
  obtain ⟨y0, hy0⟩ : ∃ y, xs[0]? = some y := ⟨_, List.getElem?_eq_getElem (by rw [hlen]; decide)⟩
  obtain ⟨a0, r0⟩ := rdb_int Tryz.underlying3 H enc w base spare held n _ _ ((hf 0 _ rfl).trans hy0)
  have r0 : rd false w ((cs.drop 0).take (Tryz.prog.cellsOf 3)) a0 All := r0
  rw [show Tryz.prog.cellsOf 3 = 1 from by kernel_rfl] at r0
  obtain ⟨y1, hy1⟩ : ∃ y, xs[1]? = some y := ⟨_, List.getElem?_eq_getElem (by rw [hlen]; decide)⟩
  obtain ⟨a1, r1⟩ := rdb_StringS H enc w base spare held n _ _ ((hf 1 _ rfl).trans hy1)
  have r1 : rd false w ((cs.drop 1).take (Tryz.prog.cellsOf 25)) a1 All := r1
  rw [show Tryz.prog.cellsOf 25 = 1 from by kernel_rfl] at r1
  obtain ⟨y2, hy2⟩ : ∃ y, xs[2]? = some y := ⟨_, List.getElem?_eq_getElem (by rw [hlen]; decide)⟩
  obtain ⟨a2, r2⟩ := rdb_StringS H enc w base spare held n _ _ ((hf 2 _ rfl).trans hy2)
  have r2 : rd false w ((cs.drop 2).take (Tryz.prog.cellsOf 25)) a2 All := r2
  rw [show Tryz.prog.cellsOf 25 = 1 from by kernel_rfl] at r2
  obtain ⟨y3, hy3⟩ : ∃ y, xs[3]? = some y := ⟨_, List.getElem?_eq_getElem (by rw [hlen]; decide)⟩
  obtain ⟨a3, r3⟩ := rdb_StringS H enc w base spare held n _ _ ((hf 3 _ rfl).trans hy3)
  have r3 : rd false w ((cs.drop 3).take (Tryz.prog.cellsOf 25)) a3 All := r3
  rw [show Tryz.prog.cellsOf 25 = 1 from by kernel_rfl] at r3
  have hz : rd false w (cs.drop 0) (a0, a1, a2, a3) All := rd_pair_drop r0 (rd_pair_drop r1 (rd_pair_drop r2 (rd_last_drop r3 (by omega))))
  exact ⟨⟨a0, a1, a2, a3⟩, hz⟩
theorem rdb_Seal : Rdb Seal Tryz.prog 176 := by
  intro H enc w base spare held fuel cs x h
  obtain ⟨xs, n, rfl, _, hl, hlen, hf⟩ := DataW.trod_struct Tryz.underlying176 h
  have hl : cs.length = 8 := hl.trans (by kernel_rfl)
  obtain ⟨y0, hy0⟩ : ∃ y, xs[0]? = some y := ⟨_, List.getElem?_eq_getElem (by rw [hlen]; decide)⟩
  obtain ⟨a0, r0⟩ := rdb_Head H enc w base spare held n _ _ ((hf 0 _ rfl).trans hy0)
  have r0 : rd false w ((cs.drop 0).take (Tryz.prog.cellsOf 173)) a0 All := r0
  rw [show Tryz.prog.cellsOf 173 = 4 from by kernel_rfl] at r0
  obtain ⟨y1, hy1⟩ : ∃ y, xs[1]? = some y := ⟨_, List.getElem?_eq_getElem (by rw [hlen]; decide)⟩
  obtain ⟨a1, r1⟩ := rdb_Sig H enc w base spare held n _ _ ((hf 1 _ rfl).trans hy1)
  have r1 : rd false w ((cs.drop 4).take (Tryz.prog.cellsOf 174)) a1 All := r1
  rw [show Tryz.prog.cellsOf 174 = 4 from by kernel_rfl] at r1
  have hz : rd false w (cs.drop 0) (a0, a1) All := rd_pair_drop r0 (rd_last_drop r1 (by omega))
  exact ⟨⟨a0, a1⟩, hz⟩
theorem rdb_SealS : Rdb (List Seal) Tryz.prog 26 := rdb_slice Tryz.underlying26 (by kernel_rfl) (rdb_Seal)
theorem rdb_Pair : Rdb Pair Tryz.prog 311 := by
  intro H enc w base spare held fuel cs x h
  obtain ⟨xs, n, rfl, _, hl, hlen, hf⟩ := DataW.trod_struct Tryz.underlying311 h
  have hl : cs.length = 16 := hl.trans (by kernel_rfl)
  obtain ⟨y0, hy0⟩ : ∃ y, xs[0]? = some y := ⟨_, List.getElem?_eq_getElem (by rw [hlen]; decide)⟩
  obtain ⟨a0, r0⟩ := rdb_Seal H enc w base spare held n _ _ ((hf 0 _ rfl).trans hy0)
  have r0 : rd false w ((cs.drop 0).take (Tryz.prog.cellsOf 176)) a0 All := r0
  rw [show Tryz.prog.cellsOf 176 = 8 from by kernel_rfl] at r0
  obtain ⟨y1, hy1⟩ : ∃ y, xs[1]? = some y := ⟨_, List.getElem?_eq_getElem (by rw [hlen]; decide)⟩
  obtain ⟨a1, r1⟩ := rdb_Seal H enc w base spare held n _ _ ((hf 1 _ rfl).trans hy1)
  have r1 : rd false w ((cs.drop 8).take (Tryz.prog.cellsOf 176)) a1 All := r1
  rw [show Tryz.prog.cellsOf 176 = 8 from by kernel_rfl] at r1
  have hz : rd false w (cs.drop 0) (a0, a1) All := rd_pair_drop r0 (rd_last_drop r1 (by omega))
  exact ⟨⟨a0, a1⟩, hz⟩
theorem rdb_PairS : Rdb (List Pair) Tryz.prog 199 := rdb_slice Tryz.underlying199 (by kernel_rfl) (rdb_Pair)
theorem rdb_Auditor : Rdb Auditor Tryz.prog 201 := by
  intro H enc w base spare held fuel cs x h
  obtain ⟨xs, n, rfl, _, hl, hlen, hf⟩ := DataW.trod_struct Tryz.underlying201 h
  have hl : cs.length = 6 := hl.trans (by kernel_rfl)
  obtain ⟨y0, hy0⟩ : ∃ y, xs[0]? = some y := ⟨_, List.getElem?_eq_getElem (by rw [hlen]; decide)⟩
  obtain ⟨a0, r0⟩ := rdb_int Tryz.underlying3 H enc w base spare held n _ _ ((hf 0 _ rfl).trans hy0)
  have r0 : rd false w ((cs.drop 0).take (Tryz.prog.cellsOf 3)) a0 All := r0
  rw [show Tryz.prog.cellsOf 3 = 1 from by kernel_rfl] at r0
  obtain ⟨y1, hy1⟩ : ∃ y, xs[1]? = some y := ⟨_, List.getElem?_eq_getElem (by rw [hlen]; decide)⟩
  obtain ⟨a1, r1⟩ := rdb_bool Tryz.underlying4 H enc w base spare held n _ _ ((hf 1 _ rfl).trans hy1)
  have r1 : rd false w ((cs.drop 1).take (Tryz.prog.cellsOf 4)) a1 All := r1
  rw [show Tryz.prog.cellsOf 4 = 1 from by kernel_rfl] at r1
  obtain ⟨y2, hy2⟩ : ∃ y, xs[2]? = some y := ⟨_, List.getElem?_eq_getElem (by rw [hlen]; decide)⟩
  obtain ⟨a2, r2⟩ := rdb_Disk H enc w base spare held n _ _ ((hf 2 _ rfl).trans hy2)
  have r2 : rd false w ((cs.drop 2).take (Tryz.prog.cellsOf 24)) a2 All := r2
  rw [show Tryz.prog.cellsOf 24 = 1 from by kernel_rfl] at r2
  obtain ⟨y3, hy3⟩ : ∃ y, xs[3]? = some y := ⟨_, List.getElem?_eq_getElem (by rw [hlen]; decide)⟩
  obtain ⟨a3, r3⟩ := rdb_StringS H enc w base spare held n _ _ ((hf 3 _ rfl).trans hy3)
  have r3 : rd false w ((cs.drop 3).take (Tryz.prog.cellsOf 25)) a3 All := r3
  rw [show Tryz.prog.cellsOf 25 = 1 from by kernel_rfl] at r3
  obtain ⟨y4, hy4⟩ : ∃ y, xs[4]? = some y := ⟨_, List.getElem?_eq_getElem (by rw [hlen]; decide)⟩
  obtain ⟨a4, r4⟩ := rdb_SealS H enc w base spare held n _ _ ((hf 4 _ rfl).trans hy4)
  have r4 : rd false w ((cs.drop 4).take (Tryz.prog.cellsOf 26)) a4 All := r4
  rw [show Tryz.prog.cellsOf 26 = 1 from by kernel_rfl] at r4
  obtain ⟨y5, hy5⟩ : ∃ y, xs[5]? = some y := ⟨_, List.getElem?_eq_getElem (by rw [hlen]; decide)⟩
  obtain ⟨a5, r5⟩ := rdb_PairS H enc w base spare held n _ _ ((hf 5 _ rfl).trans hy5)
  have r5 : rd false w ((cs.drop 5).take (Tryz.prog.cellsOf 199)) a5 All := r5
  rw [show Tryz.prog.cellsOf 199 = 1 from by kernel_rfl] at r5
  have hz : rd false w (cs.drop 0) (a0, a1, a2, a3, a4, a5) All := rd_pair_drop r0 (rd_pair_drop r1 (rd_pair_drop r2 (rd_pair_drop r3 (rd_pair_drop r4 (rd_last_drop r5 (by omega))))))
  exact ⟨⟨a0, a1, a2, a3, a4, a5⟩, hz⟩
theorem rdb_Change : Rdb Change Tryz.prog 282 := by
  intro H enc w base spare held fuel cs x h
  obtain ⟨xs, n, rfl, _, hl, hlen, hf⟩ := DataW.trod_struct Tryz.underlying282 h
  have hl : cs.length = 3 := hl.trans (by kernel_rfl)
  obtain ⟨y0, hy0⟩ : ∃ y, xs[0]? = some y := ⟨_, List.getElem?_eq_getElem (by rw [hlen]; decide)⟩
  obtain ⟨a0, r0⟩ := rdb_int Tryz.underlying3 H enc w base spare held n _ _ ((hf 0 _ rfl).trans hy0)
  have r0 : rd false w ((cs.drop 0).take (Tryz.prog.cellsOf 3)) a0 All := r0
  rw [show Tryz.prog.cellsOf 3 = 1 from by kernel_rfl] at r0
  obtain ⟨y1, hy1⟩ : ∃ y, xs[1]? = some y := ⟨_, List.getElem?_eq_getElem (by rw [hlen]; decide)⟩
  obtain ⟨a1, r1⟩ := rdb_str Tryz.underlying9 H enc w base spare held n _ _ ((hf 1 _ rfl).trans hy1)
  have r1 : rd false w ((cs.drop 1).take (Tryz.prog.cellsOf 9)) a1 All := r1
  rw [show Tryz.prog.cellsOf 9 = 1 from by kernel_rfl] at r1
  obtain ⟨y2, hy2⟩ : ∃ y, xs[2]? = some y := ⟨_, List.getElem?_eq_getElem (by rw [hlen]; decide)⟩
  obtain ⟨a2, r2⟩ := rdb_str Tryz.underlying9 H enc w base spare held n _ _ ((hf 2 _ rfl).trans hy2)
  have r2 : rd false w ((cs.drop 2).take (Tryz.prog.cellsOf 9)) a2 All := r2
  rw [show Tryz.prog.cellsOf 9 = 1 from by kernel_rfl] at r2
  have hz : rd false w (cs.drop 0) (a0, a1, a2) All := rd_pair_drop r0 (rd_pair_drop r1 (rd_last_drop r2 (by omega)))
  exact ⟨⟨a0, a1, a2⟩, hz⟩
theorem rdb_IntS : Rdb (List Int) Tryz.prog 27 := rdb_slice Tryz.underlying27 (by kernel_rfl) (rdb_int Tryz.underlying3)
theorem rdb_BoolS : Rdb (List Bool) Tryz.prog 28 := rdb_slice Tryz.underlying28 (by kernel_rfl) (rdb_bool Tryz.underlying4)
theorem rdb_Coord : Rdb Coord Tryz.prog 30 := by
  intro H enc w base spare held fuel cs x h
  obtain ⟨xs, n, rfl, _, hl, hlen, hf⟩ := DataW.trod_struct Tryz.underlying30 h
  have hl : cs.length = 11 := hl.trans (by kernel_rfl)
  obtain ⟨y0, hy0⟩ : ∃ y, xs[0]? = some y := ⟨_, List.getElem?_eq_getElem (by rw [hlen]; decide)⟩
  obtain ⟨a0, r0⟩ := rdb_int Tryz.underlying3 H enc w base spare held n _ _ ((hf 0 _ rfl).trans hy0)
  have r0 : rd false w ((cs.drop 0).take (Tryz.prog.cellsOf 3)) a0 All := r0
  rw [show Tryz.prog.cellsOf 3 = 1 from by kernel_rfl] at r0
  obtain ⟨y1, hy1⟩ : ∃ y, xs[1]? = some y := ⟨_, List.getElem?_eq_getElem (by rw [hlen]; decide)⟩
  obtain ⟨a1, r1⟩ := rdb_int Tryz.underlying3 H enc w base spare held n _ _ ((hf 1 _ rfl).trans hy1)
  have r1 : rd false w ((cs.drop 1).take (Tryz.prog.cellsOf 3)) a1 All := r1
  rw [show Tryz.prog.cellsOf 3 = 1 from by kernel_rfl] at r1
  obtain ⟨y2, hy2⟩ : ∃ y, xs[2]? = some y := ⟨_, List.getElem?_eq_getElem (by rw [hlen]; decide)⟩
  obtain ⟨a2, r2⟩ := rdb_bool Tryz.underlying4 H enc w base spare held n _ _ ((hf 2 _ rfl).trans hy2)
  have r2 : rd false w ((cs.drop 2).take (Tryz.prog.cellsOf 4)) a2 All := r2
  rw [show Tryz.prog.cellsOf 4 = 1 from by kernel_rfl] at r2
  obtain ⟨y3, hy3⟩ : ∃ y, xs[3]? = some y := ⟨_, List.getElem?_eq_getElem (by rw [hlen]; decide)⟩
  obtain ⟨a3, r3⟩ := rdb_Disk H enc w base spare held n _ _ ((hf 3 _ rfl).trans hy3)
  have r3 : rd false w ((cs.drop 3).take (Tryz.prog.cellsOf 24)) a3 All := r3
  rw [show Tryz.prog.cellsOf 24 = 1 from by kernel_rfl] at r3
  obtain ⟨y4, hy4⟩ : ∃ y, xs[4]? = some y := ⟨_, List.getElem?_eq_getElem (by rw [hlen]; decide)⟩
  obtain ⟨a4, r4⟩ := rdb_StringS H enc w base spare held n _ _ ((hf 4 _ rfl).trans hy4)
  have r4 : rd false w ((cs.drop 4).take (Tryz.prog.cellsOf 25)) a4 All := r4
  rw [show Tryz.prog.cellsOf 25 = 1 from by kernel_rfl] at r4
  obtain ⟨y5, hy5⟩ : ∃ y, xs[5]? = some y := ⟨_, List.getElem?_eq_getElem (by rw [hlen]; decide)⟩
  obtain ⟨a5, r5⟩ := rdb_SealS H enc w base spare held n _ _ ((hf 5 _ rfl).trans hy5)
  have r5 : rd false w ((cs.drop 5).take (Tryz.prog.cellsOf 26)) a5 All := r5
  rw [show Tryz.prog.cellsOf 26 = 1 from by kernel_rfl] at r5
  obtain ⟨y6, hy6⟩ : ∃ y, xs[6]? = some y := ⟨_, List.getElem?_eq_getElem (by rw [hlen]; decide)⟩
  obtain ⟨a6, r6⟩ := rdb_IntS H enc w base spare held n _ _ ((hf 6 _ rfl).trans hy6)
  have r6 : rd false w ((cs.drop 6).take (Tryz.prog.cellsOf 27)) a6 All := r6
  rw [show Tryz.prog.cellsOf 27 = 1 from by kernel_rfl] at r6
  obtain ⟨y7, hy7⟩ : ∃ y, xs[7]? = some y := ⟨_, List.getElem?_eq_getElem (by rw [hlen]; decide)⟩
  obtain ⟨a7, r7⟩ := rdb_int Tryz.underlying3 H enc w base spare held n _ _ ((hf 7 _ rfl).trans hy7)
  have r7 : rd false w ((cs.drop 7).take (Tryz.prog.cellsOf 3)) a7 All := r7
  rw [show Tryz.prog.cellsOf 3 = 1 from by kernel_rfl] at r7
  obtain ⟨y8, hy8⟩ : ∃ y, xs[8]? = some y := ⟨_, List.getElem?_eq_getElem (by rw [hlen]; decide)⟩
  obtain ⟨a8, r8⟩ := rdb_bool Tryz.underlying4 H enc w base spare held n _ _ ((hf 8 _ rfl).trans hy8)
  have r8 : rd false w ((cs.drop 8).take (Tryz.prog.cellsOf 4)) a8 All := r8
  rw [show Tryz.prog.cellsOf 4 = 1 from by kernel_rfl] at r8
  obtain ⟨y9, hy9⟩ : ∃ y, xs[9]? = some y := ⟨_, List.getElem?_eq_getElem (by rw [hlen]; decide)⟩
  obtain ⟨a9, r9⟩ := rdb_StringS H enc w base spare held n _ _ ((hf 9 _ rfl).trans hy9)
  have r9 : rd false w ((cs.drop 9).take (Tryz.prog.cellsOf 25)) a9 All := r9
  rw [show Tryz.prog.cellsOf 25 = 1 from by kernel_rfl] at r9
  obtain ⟨y10, hy10⟩ : ∃ y, xs[10]? = some y := ⟨_, List.getElem?_eq_getElem (by rw [hlen]; decide)⟩
  obtain ⟨a10, r10⟩ := rdb_BoolS H enc w base spare held n _ _ ((hf 10 _ rfl).trans hy10)
  have r10 : rd false w ((cs.drop 10).take (Tryz.prog.cellsOf 28)) a10 All := r10
  rw [show Tryz.prog.cellsOf 28 = 1 from by kernel_rfl] at r10
  have hz : rd false w (cs.drop 0) (a0, a1, a2, a3, a4, a5, a6, a7, a8, a9, a10) All := rd_pair_drop r0 (rd_pair_drop r1 (rd_pair_drop r2 (rd_pair_drop r3 (rd_pair_drop r4 (rd_pair_drop r5 (rd_pair_drop r6 (rd_pair_drop r7 (rd_pair_drop r8 (rd_pair_drop r9 (rd_last_drop r10 (by omega)))))))))))
  exact ⟨⟨a0, a1, a2, a3, a4, a5, a6, a7, a8, a9, a10⟩, hz⟩
theorem rdb_Stamp : Rdb Stamp Tryz.prog 207 := by
  intro H enc w base spare held fuel cs x h
  obtain ⟨xs, n, rfl, _, hl, hlen, hf⟩ := DataW.trod_struct Tryz.underlying207 h
  have hl : cs.length = 5 := hl.trans (by kernel_rfl)
  obtain ⟨y0, hy0⟩ : ∃ y, xs[0]? = some y := ⟨_, List.getElem?_eq_getElem (by rw [hlen]; decide)⟩
  obtain ⟨a0, r0⟩ := rdb_int Tryz.underlying3 H enc w base spare held n _ _ ((hf 0 _ rfl).trans hy0)
  have r0 : rd false w ((cs.drop 0).take (Tryz.prog.cellsOf 3)) a0 All := r0
  rw [show Tryz.prog.cellsOf 3 = 1 from by kernel_rfl] at r0
  obtain ⟨y1, hy1⟩ : ∃ y, xs[1]? = some y := ⟨_, List.getElem?_eq_getElem (by rw [hlen]; decide)⟩
  obtain ⟨a1, r1⟩ := rdb_Sig H enc w base spare held n _ _ ((hf 1 _ rfl).trans hy1)
  have r1 : rd false w ((cs.drop 1).take (Tryz.prog.cellsOf 174)) a1 All := r1
  rw [show Tryz.prog.cellsOf 174 = 4 from by kernel_rfl] at r1
  have hz : rd false w (cs.drop 0) (a0, a1) All := rd_pair_drop r0 (rd_last_drop r1 (by omega))
  exact ⟨⟨a0, a1⟩, hz⟩
theorem rdb_Given : Rdb Given Tryz.prog 209 := by
  intro H enc w base spare held fuel cs x h
  obtain ⟨xs, n, rfl, _, hl, hlen, hf⟩ := DataW.trod_struct Tryz.underlying209 h
  have hl : cs.length = 7 := hl.trans (by kernel_rfl)
  obtain ⟨y0, hy0⟩ : ∃ y, xs[0]? = some y := ⟨_, List.getElem?_eq_getElem (by rw [hlen]; decide)⟩
  obtain ⟨a0, r0⟩ := rdb_int Tryz.underlying3 H enc w base spare held n _ _ ((hf 0 _ rfl).trans hy0)
  have r0 : rd false w ((cs.drop 0).take (Tryz.prog.cellsOf 3)) a0 All := r0
  rw [show Tryz.prog.cellsOf 3 = 1 from by kernel_rfl] at r0
  obtain ⟨y1, hy1⟩ : ∃ y, xs[1]? = some y := ⟨_, List.getElem?_eq_getElem (by rw [hlen]; decide)⟩
  obtain ⟨a1, r1⟩ := rdb_int Tryz.underlying3 H enc w base spare held n _ _ ((hf 1 _ rfl).trans hy1)
  have r1 : rd false w ((cs.drop 1).take (Tryz.prog.cellsOf 3)) a1 All := r1
  rw [show Tryz.prog.cellsOf 3 = 1 from by kernel_rfl] at r1
  obtain ⟨y2, hy2⟩ : ∃ y, xs[2]? = some y := ⟨_, List.getElem?_eq_getElem (by rw [hlen]; decide)⟩
  obtain ⟨a2, r2⟩ := rdb_Stamp H enc w base spare held n _ _ ((hf 2 _ rfl).trans hy2)
  have r2 : rd false w ((cs.drop 2).take (Tryz.prog.cellsOf 207)) a2 All := r2
  rw [show Tryz.prog.cellsOf 207 = 5 from by kernel_rfl] at r2
  have hz : rd false w (cs.drop 0) (a0, a1, a2) All := rd_pair_drop r0 (rd_pair_drop r1 (rd_last_drop r2 (by omega)))
  exact ⟨⟨a0, a1, a2⟩, hz⟩
theorem rdb_Leaf : Rdb Leaf Tryz.prog 315 := by
  intro H enc w base spare held fuel cs x h
  obtain ⟨xs, n, rfl, _, hl, hlen, hf⟩ := DataW.trod_struct Tryz.underlying315 h
  have hl : cs.length = 2 := hl.trans (by kernel_rfl)
  obtain ⟨y0, hy0⟩ : ∃ y, xs[0]? = some y := ⟨_, List.getElem?_eq_getElem (by rw [hlen]; decide)⟩
  obtain ⟨a0, r0⟩ := rdb_str Tryz.underlying9 H enc w base spare held n _ _ ((hf 0 _ rfl).trans hy0)
  have r0 : rd false w ((cs.drop 0).take (Tryz.prog.cellsOf 9)) a0 All := r0
  rw [show Tryz.prog.cellsOf 9 = 1 from by kernel_rfl] at r0
  obtain ⟨y1, hy1⟩ : ∃ y, xs[1]? = some y := ⟨_, List.getElem?_eq_getElem (by rw [hlen]; decide)⟩
  obtain ⟨a1, r1⟩ := rdb_str Tryz.underlying9 H enc w base spare held n _ _ ((hf 1 _ rfl).trans hy1)
  have r1 : rd false w ((cs.drop 1).take (Tryz.prog.cellsOf 9)) a1 All := r1
  rw [show Tryz.prog.cellsOf 9 = 1 from by kernel_rfl] at r1
  have hz : rd false w (cs.drop 0) (a0, a1) All := rd_pair_drop r0 (rd_last_drop r1 (by omega))
  exact ⟨⟨a0, a1⟩, hz⟩
theorem rdb_LeafS : Rdb (List Leaf) Tryz.prog 170 := rdb_slice Tryz.underlying170 (by kernel_rfl) (rdb_Leaf)
theorem rdb_LeafSS : Rdb (List (List Leaf)) Tryz.prog 147 := rdb_slice Tryz.underlying147 (by kernel_rfl) (rdb_LeafS)
theorem rdb_ChangeS : Rdb (List Change) Tryz.prog 148 := rdb_slice Tryz.underlying148 (by kernel_rfl) (rdb_Change)
theorem rdb_Ready : Rdb Ready Tryz.prog 150 := by
  intro H enc w base spare held fuel cs x h
  obtain ⟨xs, n, rfl, _, hl, hlen, hf⟩ := DataW.trod_struct Tryz.underlying150 h
  have hl : cs.length = 3 := hl.trans (by kernel_rfl)
  obtain ⟨y0, hy0⟩ : ∃ y, xs[0]? = some y := ⟨_, List.getElem?_eq_getElem (by rw [hlen]; decide)⟩
  obtain ⟨a0, r0⟩ := rdb_int Tryz.underlying3 H enc w base spare held n _ _ ((hf 0 _ rfl).trans hy0)
  have r0 : rd false w ((cs.drop 0).take (Tryz.prog.cellsOf 3)) a0 All := r0
  rw [show Tryz.prog.cellsOf 3 = 1 from by kernel_rfl] at r0
  obtain ⟨y1, hy1⟩ : ∃ y, xs[1]? = some y := ⟨_, List.getElem?_eq_getElem (by rw [hlen]; decide)⟩
  obtain ⟨a1, r1⟩ := rdb_int Tryz.underlying3 H enc w base spare held n _ _ ((hf 1 _ rfl).trans hy1)
  have r1 : rd false w ((cs.drop 1).take (Tryz.prog.cellsOf 3)) a1 All := r1
  rw [show Tryz.prog.cellsOf 3 = 1 from by kernel_rfl] at r1
  obtain ⟨y2, hy2⟩ : ∃ y, xs[2]? = some y := ⟨_, List.getElem?_eq_getElem (by rw [hlen]; decide)⟩
  obtain ⟨a2, r2⟩ := rdb_int Tryz.underlying3 H enc w base spare held n _ _ ((hf 2 _ rfl).trans hy2)
  have r2 : rd false w ((cs.drop 2).take (Tryz.prog.cellsOf 3)) a2 All := r2
  rw [show Tryz.prog.cellsOf 3 = 1 from by kernel_rfl] at r2
  have hz : rd false w (cs.drop 0) (a0, a1, a2) All := rd_pair_drop r0 (rd_pair_drop r1 (rd_last_drop r2 (by omega)))
  exact ⟨⟨a0, a1, a2⟩, hz⟩
theorem rdb_Server : Rdb Server Tryz.prog 152 := by
  intro H enc w base spare held fuel cs x h
  obtain ⟨xs, n, rfl, _, hl, hlen, hf⟩ := DataW.trod_struct Tryz.underlying152 h
  have hl : cs.length = 11 := hl.trans (by kernel_rfl)
  obtain ⟨y0, hy0⟩ : ∃ y, xs[0]? = some y := ⟨_, List.getElem?_eq_getElem (by rw [hlen]; decide)⟩
  obtain ⟨a0, r0⟩ := rdb_int Tryz.underlying3 H enc w base spare held n _ _ ((hf 0 _ rfl).trans hy0)
  have r0 : rd false w ((cs.drop 0).take (Tryz.prog.cellsOf 3)) a0 All := r0
  rw [show Tryz.prog.cellsOf 3 = 1 from by kernel_rfl] at r0
  obtain ⟨y1, hy1⟩ : ∃ y, xs[1]? = some y := ⟨_, List.getElem?_eq_getElem (by rw [hlen]; decide)⟩
  obtain ⟨a1, r1⟩ := rdb_int Tryz.underlying3 H enc w base spare held n _ _ ((hf 1 _ rfl).trans hy1)
  have r1 : rd false w ((cs.drop 1).take (Tryz.prog.cellsOf 3)) a1 All := r1
  rw [show Tryz.prog.cellsOf 3 = 1 from by kernel_rfl] at r1
  obtain ⟨y2, hy2⟩ : ∃ y, xs[2]? = some y := ⟨_, List.getElem?_eq_getElem (by rw [hlen]; decide)⟩
  obtain ⟨a2, r2⟩ := rdb_bool Tryz.underlying4 H enc w base spare held n _ _ ((hf 2 _ rfl).trans hy2)
  have r2 : rd false w ((cs.drop 2).take (Tryz.prog.cellsOf 4)) a2 All := r2
  rw [show Tryz.prog.cellsOf 4 = 1 from by kernel_rfl] at r2
  obtain ⟨y3, hy3⟩ : ∃ y, xs[3]? = some y := ⟨_, List.getElem?_eq_getElem (by rw [hlen]; decide)⟩
  obtain ⟨a3, r3⟩ := rdb_Disk H enc w base spare held n _ _ ((hf 3 _ rfl).trans hy3)
  have r3 : rd false w ((cs.drop 3).take (Tryz.prog.cellsOf 24)) a3 All := r3
  rw [show Tryz.prog.cellsOf 24 = 1 from by kernel_rfl] at r3
  obtain ⟨y4, hy4⟩ : ∃ y, xs[4]? = some y := ⟨_, List.getElem?_eq_getElem (by rw [hlen]; decide)⟩
  obtain ⟨a4, r4⟩ := rdb_int Tryz.underlying3 H enc w base spare held n _ _ ((hf 4 _ rfl).trans hy4)
  have r4 : rd false w ((cs.drop 4).take (Tryz.prog.cellsOf 3)) a4 All := r4
  rw [show Tryz.prog.cellsOf 3 = 1 from by kernel_rfl] at r4
  obtain ⟨y5, hy5⟩ : ∃ y, xs[5]? = some y := ⟨_, List.getElem?_eq_getElem (by rw [hlen]; decide)⟩
  obtain ⟨a5, r5⟩ := rdb_LeafSS H enc w base spare held n _ _ ((hf 5 _ rfl).trans hy5)
  have r5 : rd false w ((cs.drop 5).take (Tryz.prog.cellsOf 147)) a5 All := r5
  rw [show Tryz.prog.cellsOf 147 = 1 from by kernel_rfl] at r5
  obtain ⟨y6, hy6⟩ : ∃ y, xs[6]? = some y := ⟨_, List.getElem?_eq_getElem (by rw [hlen]; decide)⟩
  obtain ⟨a6, r6⟩ := rdb_IntS H enc w base spare held n _ _ ((hf 6 _ rfl).trans hy6)
  have r6 : rd false w ((cs.drop 6).take (Tryz.prog.cellsOf 27)) a6 All := r6
  rw [show Tryz.prog.cellsOf 27 = 1 from by kernel_rfl] at r6
  obtain ⟨y7, hy7⟩ : ∃ y, xs[7]? = some y := ⟨_, List.getElem?_eq_getElem (by rw [hlen]; decide)⟩
  obtain ⟨a7, r7⟩ := rdb_ChangeS H enc w base spare held n _ _ ((hf 7 _ rfl).trans hy7)
  have r7 : rd false w ((cs.drop 7).take (Tryz.prog.cellsOf 148)) a7 All := r7
  rw [show Tryz.prog.cellsOf 148 = 1 from by kernel_rfl] at r7
  obtain ⟨y8, hy8⟩ : ∃ y, xs[8]? = some y := ⟨_, List.getElem?_eq_getElem (by rw [hlen]; decide)⟩
  obtain ⟨a8, r8⟩ := rdb_Ready H enc w base spare held n _ _ ((hf 8 _ rfl).trans hy8)
  have r8 : rd false w ((cs.drop 8).take (Tryz.prog.cellsOf 150)) a8 All := r8
  rw [show Tryz.prog.cellsOf 150 = 3 from by kernel_rfl] at r8
  have hz : rd false w (cs.drop 0) (a0, a1, a2, a3, a4, a5, a6, a7, a8) All := rd_pair_drop r0 (rd_pair_drop r1 (rd_pair_drop r2 (rd_pair_drop r3 (rd_pair_drop r4 (rd_pair_drop r5 (rd_pair_drop r6 (rd_pair_drop r7 (rd_last_drop r8 (by omega)))))))))
  exact ⟨⟨a0, a1, a2, a3, a4, a5, a6, a7, a8⟩, hz⟩
theorem rdb_ServerS : Rdb (List Server) Tryz.prog 31 := rdb_slice Tryz.underlying31 (by kernel_rfl) (rdb_Server)
theorem rdb_House : Rdb House Tryz.prog 33 := by
  intro H enc w base spare held fuel cs x h
  obtain ⟨xs, n, rfl, _, hl, hlen, hf⟩ := DataW.trod_struct Tryz.underlying33 h
  have hl : cs.length = 14 := hl.trans (by kernel_rfl)
  obtain ⟨y0, hy0⟩ : ∃ y, xs[0]? = some y := ⟨_, List.getElem?_eq_getElem (by rw [hlen]; decide)⟩
  obtain ⟨a0, r0⟩ := rdb_Coord H enc w base spare held n _ _ ((hf 0 _ rfl).trans hy0)
  have r0 : rd false w ((cs.drop 0).take (Tryz.prog.cellsOf 30)) a0 All := r0
  rw [show Tryz.prog.cellsOf 30 = 11 from by kernel_rfl] at r0
  obtain ⟨y1, hy1⟩ : ∃ y, xs[1]? = some y := ⟨_, List.getElem?_eq_getElem (by rw [hlen]; decide)⟩
  obtain ⟨a1, r1⟩ := rdb_ServerS H enc w base spare held n _ _ ((hf 1 _ rfl).trans hy1)
  have r1 : rd false w ((cs.drop 11).take (Tryz.prog.cellsOf 31)) a1 All := r1
  rw [show Tryz.prog.cellsOf 31 = 1 from by kernel_rfl] at r1
  obtain ⟨y2, hy2⟩ : ∃ y, xs[2]? = some y := ⟨_, List.getElem?_eq_getElem (by rw [hlen]; decide)⟩
  obtain ⟨a2, r2⟩ := rdb_StringS H enc w base spare held n _ _ ((hf 2 _ rfl).trans hy2)
  have r2 : rd false w ((cs.drop 12).take (Tryz.prog.cellsOf 25)) a2 All := r2
  rw [show Tryz.prog.cellsOf 25 = 1 from by kernel_rfl] at r2
  obtain ⟨y3, hy3⟩ : ∃ y, xs[3]? = some y := ⟨_, List.getElem?_eq_getElem (by rw [hlen]; decide)⟩
  obtain ⟨a3, r3⟩ := rdb_IntS H enc w base spare held n _ _ ((hf 3 _ rfl).trans hy3)
  have r3 : rd false w ((cs.drop 13).take (Tryz.prog.cellsOf 27)) a3 All := r3
  rw [show Tryz.prog.cellsOf 27 = 1 from by kernel_rfl] at r3
  have hz : rd false w (cs.drop 0) (a0, a1, a2, a3) All := rd_pair_drop r0 (rd_pair_drop r1 (rd_pair_drop r2 (rd_last_drop r3 (by omega))))
  exact ⟨⟨a0, a1, a2, a3⟩, hz⟩
theorem rdb_Note : Rdb Note Tryz.prog 204 := by
  intro H enc w base spare held fuel cs x h
  obtain ⟨xs, n, rfl, _, hl, hlen, hf⟩ := DataW.trod_struct Tryz.underlying204 h
  have hl : cs.length = 2 := hl.trans (by kernel_rfl)
  obtain ⟨y0, hy0⟩ : ∃ y, xs[0]? = some y := ⟨_, List.getElem?_eq_getElem (by rw [hlen]; decide)⟩
  obtain ⟨a0, r0⟩ := rdb_int Tryz.underlying3 H enc w base spare held n _ _ ((hf 0 _ rfl).trans hy0)
  have r0 : rd false w ((cs.drop 0).take (Tryz.prog.cellsOf 3)) a0 All := r0
  rw [show Tryz.prog.cellsOf 3 = 1 from by kernel_rfl] at r0
  obtain ⟨y1, hy1⟩ : ∃ y, xs[1]? = some y := ⟨_, List.getElem?_eq_getElem (by rw [hlen]; decide)⟩
  obtain ⟨a1, r1⟩ := rdb_str Tryz.underlying9 H enc w base spare held n _ _ ((hf 1 _ rfl).trans hy1)
  have r1 : rd false w ((cs.drop 1).take (Tryz.prog.cellsOf 9)) a1 All := r1
  rw [show Tryz.prog.cellsOf 9 = 1 from by kernel_rfl] at r1
  have hz : rd false w (cs.drop 0) (a0, a1) All := rd_pair_drop r0 (rd_last_drop r1 (by omega))
  exact ⟨⟨a0, a1⟩, hz⟩
theorem rdb_HouseS : Rdb (List House) Tryz.prog 70 := rdb_slice Tryz.underlying70 (by kernel_rfl) (rdb_House)
theorem rdb_AuditorS : Rdb (List Auditor) Tryz.prog 71 := rdb_slice Tryz.underlying71 (by kernel_rfl) (rdb_Auditor)
theorem rdb_NoteS : Rdb (List Note) Tryz.prog 72 := rdb_slice Tryz.underlying72 (by kernel_rfl) (rdb_Note)
theorem rdb_GivenS : Rdb (List Given) Tryz.prog 73 := rdb_slice Tryz.underlying73 (by kernel_rfl) (rdb_Given)
theorem rdb_Wrld : Rdb Wrld Tryz.prog 75 := by
  intro H enc w base spare held fuel cs x h
  obtain ⟨xs, n, rfl, _, hl, hlen, hf⟩ := DataW.trod_struct Tryz.underlying75 h
  have hl : cs.length = 6 := hl.trans (by kernel_rfl)
  obtain ⟨y0, hy0⟩ : ∃ y, xs[0]? = some y := ⟨_, List.getElem?_eq_getElem (by rw [hlen]; decide)⟩
  obtain ⟨a0, r0⟩ := rdb_HouseS H enc w base spare held n _ _ ((hf 0 _ rfl).trans hy0)
  have r0 : rd false w ((cs.drop 0).take (Tryz.prog.cellsOf 70)) a0 All := r0
  rw [show Tryz.prog.cellsOf 70 = 1 from by kernel_rfl] at r0
  obtain ⟨y1, hy1⟩ : ∃ y, xs[1]? = some y := ⟨_, List.getElem?_eq_getElem (by rw [hlen]; decide)⟩
  obtain ⟨a1, r1⟩ := rdb_AuditorS H enc w base spare held n _ _ ((hf 1 _ rfl).trans hy1)
  have r1 : rd false w ((cs.drop 1).take (Tryz.prog.cellsOf 71)) a1 All := r1
  rw [show Tryz.prog.cellsOf 71 = 1 from by kernel_rfl] at r1
  obtain ⟨y2, hy2⟩ : ∃ y, xs[2]? = some y := ⟨_, List.getElem?_eq_getElem (by rw [hlen]; decide)⟩
  obtain ⟨a2, r2⟩ := rdb_NoteS H enc w base spare held n _ _ ((hf 2 _ rfl).trans hy2)
  have r2 : rd false w ((cs.drop 2).take (Tryz.prog.cellsOf 72)) a2 All := r2
  rw [show Tryz.prog.cellsOf 72 = 1 from by kernel_rfl] at r2
  obtain ⟨y3, hy3⟩ : ∃ y, xs[3]? = some y := ⟨_, List.getElem?_eq_getElem (by rw [hlen]; decide)⟩
  obtain ⟨a3, r3⟩ := rdb_GivenS H enc w base spare held n _ _ ((hf 3 _ rfl).trans hy3)
  have r3 : rd false w ((cs.drop 3).take (Tryz.prog.cellsOf 73)) a3 All := r3
  rw [show Tryz.prog.cellsOf 73 = 1 from by kernel_rfl] at r3
  obtain ⟨y4, hy4⟩ : ∃ y, xs[4]? = some y := ⟨_, List.getElem?_eq_getElem (by rw [hlen]; decide)⟩
  obtain ⟨a4, r4⟩ := rdb_BoolS H enc w base spare held n _ _ ((hf 4 _ rfl).trans hy4)
  have r4 : rd false w ((cs.drop 4).take (Tryz.prog.cellsOf 28)) a4 All := r4
  rw [show Tryz.prog.cellsOf 28 = 1 from by kernel_rfl] at r4
  obtain ⟨y5, hy5⟩ : ∃ y, xs[5]? = some y := ⟨_, List.getElem?_eq_getElem (by rw [hlen]; decide)⟩
  obtain ⟨a5, r5⟩ := rdb_IntS H enc w base spare held n _ _ ((hf 5 _ rfl).trans hy5)
  have r5 : rd false w ((cs.drop 5).take (Tryz.prog.cellsOf 27)) a5 All := r5
  rw [show Tryz.prog.cellsOf 27 = 1 from by kernel_rfl] at r5
  have hz : rd false w (cs.drop 0) (a0, a1, a2, a3, a4, a5) All := rd_pair_drop r0 (rd_pair_drop r1 (rd_pair_drop r2 (rd_pair_drop r3 (rd_pair_drop r4 (rd_last_drop r5 (by omega))))))
  exact ⟨⟨a0, a1, a2, a3, a4, a5⟩, hz⟩
end Go.Proofs.YthgonaodmpegfaaGreatDoor
