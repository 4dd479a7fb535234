/- Walks of the law's helpers: those that this law needs. -/
import Derived.Test.YtcbbjfafmmcfiaaGreatDoorB1
set_option linter.unusedVariables false
set_option linter.unusedSimpArgs false
namespace Go.Proofs.YtcbbjfafmmcfiaaGreatDoor
open Go.RowKit Lay Mk
theorem rdb_File : Rdb File Tryz.prog 315 := by
  intro H enc w base spare held fuel cs x h
  obtain ⟨xs, n, rfl, _, hl, hlen, hf⟩ := DataW.trod_struct Tryz.underlying315 h
  have hl : cs.length = 3 := hl.trans (by kernel_rfl)
  obtain ⟨y0, hy0⟩ : ∃ y, xs[0]? = some y := ⟨_, List.getElem?_eq_getElem (by rw [hlen]; decide)⟩
  obtain ⟨a0, r0⟩ := rdb_str Tryz.underlying9 H enc w base spare held n _ _ ((hf 0 _ rfl).trans hy0)
  have r0 : rd false w ((cs.drop 0).take (Tryz.prog.cellsOf 9)) a0 All := r0
  rw [show Tryz.prog.cellsOf 9 = 1 from by kernel_rfl] at r0
  obtain ⟨y1, hy1⟩ : ∃ y, xs[1]? = some y := ⟨_, List.getElem?_eq_getElem (by rw [hlen]; decide)⟩
  obtain ⟨a1, r1⟩ := rdb_str Tryz.underlying9 H enc w base spare held n _ _ ((hf 1 _ rfl).trans hy1)
  have r1 : rd false w ((cs.drop 1).take (Tryz.prog.cellsOf 9)) a1 All := r1
  rw [show Tryz.prog.cellsOf 9 = 1 from by kernel_rfl] at r1
  obtain ⟨y2, hy2⟩ : ∃ y, xs[2]? = some y := ⟨_, List.getElem?_eq_getElem (by rw [hlen]; decide)⟩
  obtain ⟨a2, r2⟩ := rdb_int Tryz.underlying3 H enc w base spare held n _ _ ((hf 2 _ rfl).trans hy2)
  have r2 : rd false w ((cs.drop 2).take (Tryz.prog.cellsOf 3)) a2 All := r2
  rw [show Tryz.prog.cellsOf 3 = 1 from by kernel_rfl] at r2
  have hz : rd false w (cs.drop 0) (a0, a1, a2) All := rd_pair_drop r0 (rd_pair_drop r1 (rd_last_drop r2 (by omega)))
  exact ⟨⟨a0, a1, a2⟩, hz⟩
theorem rdb_FileS : Rdb (List File) Tryz.prog 22 := rdb_slice Tryz.underlying22 (by kernel_rfl) (rdb_File)
theorem rdb_Disk : Rdb Disk Tryz.prog 24 := by
  intro H enc w base spare held fuel cs x h
  obtain ⟨xs, n, rfl, _, hl, hlen, hf⟩ := DataW.trod_struct Tryz.underlying24 h
  have hl : cs.length = 1 := hl.trans (by kernel_rfl)
  obtain ⟨y0, hy0⟩ : ∃ y, xs[0]? = some y := ⟨_, List.getElem?_eq_getElem (by rw [hlen]; decide)⟩
  obtain ⟨a0, r0⟩ := rdb_FileS H enc w base spare held n _ _ ((hf 0 _ rfl).trans hy0)
  have r0 : rd false w ((cs.drop 0).take (Tryz.prog.cellsOf 22)) a0 All := r0
  rw [show Tryz.prog.cellsOf 22 = 1 from by kernel_rfl] at r0
  have hz : rd false w (cs.drop 0) (a0) All := rd_last_drop r0 (by omega)
  exact ⟨⟨a0⟩, hz⟩
theorem rdb_Change : Rdb Change Tryz.prog 230 := by
  intro H enc w base spare held fuel cs x h
  obtain ⟨xs, n, rfl, _, hl, hlen, hf⟩ := DataW.trod_struct Tryz.underlying230 h
  have hl : cs.length = 3 := hl.trans (by kernel_rfl)
  obtain ⟨y0, hy0⟩ : ∃ y, xs[0]? = some y := ⟨_, List.getElem?_eq_getElem (by rw [hlen]; decide)⟩
  obtain ⟨a0, r0⟩ := rdb_int Tryz.underlying3 H enc w base spare held n _ _ ((hf 0 _ rfl).trans hy0)
  have r0 : rd false w ((cs.drop 0).take (Tryz.prog.cellsOf 3)) a0 All := r0
  rw [show Tryz.prog.cellsOf 3 = 1 from by kernel_rfl] at r0
  obtain ⟨y1, hy1⟩ : ∃ y, xs[1]? = some y := ⟨_, List.getElem?_eq_getElem (by rw [hlen]; decide)⟩
  obtain ⟨a1, r1⟩ := rdb_str Tryz.underlying9 H enc w base spare held n _ _ ((hf 1 _ rfl).trans hy1)
  have r1 : rd false w ((cs.drop 1).take (Tryz.prog.cellsOf 9)) a1 All := r1
  rw [show Tryz.prog.cellsOf 9 = 1 from by kernel_rfl] at r1
  obtain ⟨y2, hy2⟩ : ∃ y, xs[2]? = some y := ⟨_, List.getElem?_eq_getElem (by rw [hlen]; decide)⟩
  obtain ⟨a2, r2⟩ := rdb_str Tryz.underlying9 H enc w base spare held n _ _ ((hf 2 _ rfl).trans hy2)
  have r2 : rd false w ((cs.drop 2).take (Tryz.prog.cellsOf 9)) a2 All := r2
  rw [show Tryz.prog.cellsOf 9 = 1 from by kernel_rfl] at r2
  have hz : rd false w (cs.drop 0) (a0, a1, a2) All := rd_pair_drop r0 (rd_pair_drop r1 (rd_last_drop r2 (by omega)))
  exact ⟨⟨a0, a1, a2⟩, hz⟩
theorem rdb_IntS : Rdb (List Int) Tryz.prog 26 := rdb_slice Tryz.underlying26 (by kernel_rfl) (rdb_int Tryz.underlying3)
theorem rdb_Leaf : Rdb Leaf Tryz.prog 317 := by
  intro H enc w base spare held fuel cs x h
  obtain ⟨xs, n, rfl, _, hl, hlen, hf⟩ := DataW.trod_struct Tryz.underlying317 h
  have hl : cs.length = 2 := hl.trans (by kernel_rfl)
  obtain ⟨y0, hy0⟩ : ∃ y, xs[0]? = some y := ⟨_, List.getElem?_eq_getElem (by rw [hlen]; decide)⟩
  obtain ⟨a0, r0⟩ := rdb_str Tryz.underlying9 H enc w base spare held n _ _ ((hf 0 _ rfl).trans hy0)
  have r0 : rd false w ((cs.drop 0).take (Tryz.prog.cellsOf 9)) a0 All := r0
  rw [show Tryz.prog.cellsOf 9 = 1 from by kernel_rfl] at r0
  obtain ⟨y1, hy1⟩ : ∃ y, xs[1]? = some y := ⟨_, List.getElem?_eq_getElem (by rw [hlen]; decide)⟩
  obtain ⟨a1, r1⟩ := rdb_str Tryz.underlying9 H enc w base spare held n _ _ ((hf 1 _ rfl).trans hy1)
  have r1 : rd false w ((cs.drop 1).take (Tryz.prog.cellsOf 9)) a1 All := r1
  rw [show Tryz.prog.cellsOf 9 = 1 from by kernel_rfl] at r1
  have hz : rd false w (cs.drop 0) (a0, a1) All := rd_pair_drop r0 (rd_last_drop r1 (by omega))
  exact ⟨⟨a0, a1⟩, hz⟩
theorem rdb_LeafS : Rdb (List Leaf) Tryz.prog 79 := rdb_slice Tryz.underlying79 (by kernel_rfl) (rdb_Leaf)
theorem rdb_LeafSS : Rdb (List (List Leaf)) Tryz.prog 25 := rdb_slice Tryz.underlying25 (by kernel_rfl) (rdb_LeafS)
theorem rdb_ChangeS : Rdb (List Change) Tryz.prog 27 := rdb_slice Tryz.underlying27 (by kernel_rfl) (rdb_Change)
theorem rdb_Ready : Rdb Ready Tryz.prog 29 := by
  intro H enc w base spare held fuel cs x h
  obtain ⟨xs, n, rfl, _, hl, hlen, hf⟩ := DataW.trod_struct Tryz.underlying29 h
  have hl : cs.length = 3 := hl.trans (by kernel_rfl)
  obtain ⟨y0, hy0⟩ : ∃ y, xs[0]? = some y := ⟨_, List.getElem?_eq_getElem (by rw [hlen]; decide)⟩
  obtain ⟨a0, r0⟩ := rdb_int Tryz.underlying3 H enc w base spare held n _ _ ((hf 0 _ rfl).trans hy0)
  have r0 : rd false w ((cs.drop 0).take (Tryz.prog.cellsOf 3)) a0 All := r0
  rw [show Tryz.prog.cellsOf 3 = 1 from by kernel_rfl] at r0
  obtain ⟨y1, hy1⟩ : ∃ y, xs[1]? = some y := ⟨_, List.getElem?_eq_getElem (by rw [hlen]; decide)⟩
  obtain ⟨a1, r1⟩ := rdb_int Tryz.underlying3 H enc w base spare held n _ _ ((hf 1 _ rfl).trans hy1)
  have r1 : rd false w ((cs.drop 1).take (Tryz.prog.cellsOf 3)) a1 All := r1
  rw [show Tryz.prog.cellsOf 3 = 1 from by kernel_rfl] at r1
  obtain ⟨y2, hy2⟩ : ∃ y, xs[2]? = some y := ⟨_, List.getElem?_eq_getElem (by rw [hlen]; decide)⟩
  obtain ⟨a2, r2⟩ := rdb_int Tryz.underlying3 H enc w base spare held n _ _ ((hf 2 _ rfl).trans hy2)
  have r2 : rd false w ((cs.drop 2).take (Tryz.prog.cellsOf 3)) a2 All := r2
  rw [show Tryz.prog.cellsOf 3 = 1 from by kernel_rfl] at r2
  have hz : rd false w (cs.drop 0) (a0, a1, a2) All := rd_pair_drop r0 (rd_pair_drop r1 (rd_last_drop r2 (by omega)))
  exact ⟨⟨a0, a1, a2⟩, hz⟩
theorem rdb_Server : Rdb Server Tryz.prog 31 := by
  intro H enc w base spare held fuel cs x h
  obtain ⟨xs, n, rfl, _, hl, hlen, hf⟩ := DataW.trod_struct Tryz.underlying31 h
  have hl : cs.length = 11 := hl.trans (by kernel_rfl)
  obtain ⟨y0, hy0⟩ : ∃ y, xs[0]? = some y := ⟨_, List.getElem?_eq_getElem (by rw [hlen]; decide)⟩
  obtain ⟨a0, r0⟩ := rdb_int Tryz.underlying3 H enc w base spare held n _ _ ((hf 0 _ rfl).trans hy0)
  have r0 : rd false w ((cs.drop 0).take (Tryz.prog.cellsOf 3)) a0 All := r0
  rw [show Tryz.prog.cellsOf 3 = 1 from by kernel_rfl] at r0
  obtain ⟨y1, hy1⟩ : ∃ y, xs[1]? = some y := ⟨_, List.getElem?_eq_getElem (by rw [hlen]; decide)⟩
  obtain ⟨a1, r1⟩ := rdb_int Tryz.underlying3 H enc w base spare held n _ _ ((hf 1 _ rfl).trans hy1)
  have r1 : rd false w ((cs.drop 1).take (Tryz.prog.cellsOf 3)) a1 All := r1
  rw [show Tryz.prog.cellsOf 3 = 1 from by kernel_rfl] at r1
  obtain ⟨y2, hy2⟩ : ∃ y, xs[2]? = some y := ⟨_, List.getElem?_eq_getElem (by rw [hlen]; decide)⟩
  obtain ⟨a2, r2⟩ := rdb_bool Tryz.underlying4 H enc w base spare held n _ _ ((hf 2 _ rfl).trans hy2)
  have r2 : rd false w ((cs.drop 2).take (Tryz.prog.cellsOf 4)) a2 All := r2
  rw [show Tryz.prog.cellsOf 4 = 1 from by kernel_rfl] at r2
  obtain ⟨y3, hy3⟩ : ∃ y, xs[3]? = some y := ⟨_, List.getElem?_eq_getElem (by rw [hlen]; decide)⟩
  obtain ⟨a3, r3⟩ := rdb_Disk H enc w base spare held n _ _ ((hf 3 _ rfl).trans hy3)
  have r3 : rd false w ((cs.drop 3).take (Tryz.prog.cellsOf 24)) a3 All := r3
  rw [show Tryz.prog.cellsOf 24 = 1 from by kernel_rfl] at r3
  obtain ⟨y4, hy4⟩ : ∃ y, xs[4]? = some y := ⟨_, List.getElem?_eq_getElem (by rw [hlen]; decide)⟩
  obtain ⟨a4, r4⟩ := rdb_int Tryz.underlying3 H enc w base spare held n _ _ ((hf 4 _ rfl).trans hy4)
  have r4 : rd false w ((cs.drop 4).take (Tryz.prog.cellsOf 3)) a4 All := r4
  rw [show Tryz.prog.cellsOf 3 = 1 from by kernel_rfl] at r4
  obtain ⟨y5, hy5⟩ : ∃ y, xs[5]? = some y := ⟨_, List.getElem?_eq_getElem (by rw [hlen]; decide)⟩
  obtain ⟨a5, r5⟩ := rdb_LeafSS H enc w base spare held n _ _ ((hf 5 _ rfl).trans hy5)
  have r5 : rd false w ((cs.drop 5).take (Tryz.prog.cellsOf 25)) a5 All := r5
  rw [show Tryz.prog.cellsOf 25 = 1 from by kernel_rfl] at r5
  obtain ⟨y6, hy6⟩ : ∃ y, xs[6]? = some y := ⟨_, List.getElem?_eq_getElem (by rw [hlen]; decide)⟩
  obtain ⟨a6, r6⟩ := rdb_IntS H enc w base spare held n _ _ ((hf 6 _ rfl).trans hy6)
  have r6 : rd false w ((cs.drop 6).take (Tryz.prog.cellsOf 26)) a6 All := r6
  rw [show Tryz.prog.cellsOf 26 = 1 from by kernel_rfl] at r6
  obtain ⟨y7, hy7⟩ : ∃ y, xs[7]? = some y := ⟨_, List.getElem?_eq_getElem (by rw [hlen]; decide)⟩
  obtain ⟨a7, r7⟩ := rdb_ChangeS H enc w base spare held n _ _ ((hf 7 _ rfl).trans hy7)
  have r7 : rd false w ((cs.drop 7).take (Tryz.prog.cellsOf 27)) a7 All := r7
  rw [show Tryz.prog.cellsOf 27 = 1 from by kernel_rfl] at r7
  obtain ⟨y8, hy8⟩ : ∃ y, xs[8]? = some y := ⟨_, List.getElem?_eq_getElem (by rw [hlen]; decide)⟩
  obtain ⟨a8, r8⟩ := rdb_Ready H enc w base spare held n _ _ ((hf 8 _ rfl).trans hy8)
  have r8 : rd false w ((cs.drop 8).take (Tryz.prog.cellsOf 29)) a8 All := r8
  rw [show Tryz.prog.cellsOf 29 = 3 from by kernel_rfl] at r8
  have hz : rd false w (cs.drop 0) (a0, a1, a2, a3, a4, a5, a6, a7, a8) All := rd_pair_drop r0 (rd_pair_drop r1 (rd_pair_drop r2 (rd_pair_drop r3 (rd_pair_drop r4 (rd_pair_drop r5 (rd_pair_drop r6 (rd_pair_drop r7 (rd_last_drop r8 (by omega)))))))))
  exact ⟨⟨a0, a1, a2, a3, a4, a5, a6, a7, a8⟩, hz⟩
end Go.Proofs.YtcbbjfafmmcfiaaGreatDoor
