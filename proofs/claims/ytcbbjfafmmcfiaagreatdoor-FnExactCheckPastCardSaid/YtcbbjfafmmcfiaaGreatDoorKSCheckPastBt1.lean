/- Walks of the law's helpers: those that this law needs. -/
import Derived.Test.YtcbbjfafmmcfiaaGreatDoorB1
set_option linter.unusedVariables false
set_option linter.unusedSimpArgs false
namespace Go.Proofs.YtcbbjfafmmcfiaaGreatDoor
open Go.RowKit Lay Mk
theorem rdb_StringS : Rdb (List ByteArray) Tryz.prog 34 := rdb_slice Tryz.underlying34 (by kernel_rfl) (rdb_str Tryz.underlying9)
theorem rdb_Head : Rdb Head Tryz.prog 83 := by
  intro H enc w base spare held fuel cs x h
  obtain ⟨xs, n, rfl, _, hl, hlen, hf⟩ := DataW.trod_struct Tryz.underlying83 h
  have hl : cs.length = 4 := hl.trans (by kernel_rfl)
  obtain ⟨y0, hy0⟩ : ∃ y, xs[0]? = some y := ⟨_, List.getElem?_eq_getElem (by rw [hlen]; decide)⟩
  obtain ⟨a0, r0⟩ := rdb_int Tryz.underlying3 H enc w base spare held n _ _ ((hf 0 _ rfl).trans hy0)
  have r0 : rd false w ((cs.drop 0).take (Tryz.prog.cellsOf 3)) a0 All := r0
  rw [show Tryz.prog.cellsOf 3 = 1 from by kernel_rfl] at r0
  obtain ⟨y1, hy1⟩ : ∃ y, xs[1]? = some y := ⟨_, List.getElem?_eq_getElem (by rw [hlen]; decide)⟩
  obtain ⟨a1, r1⟩ := rdb_int Tryz.underlying3 H enc w base spare held n _ _ ((hf 1 _ rfl).trans hy1)
  have r1 : rd false w ((cs.drop 1).take (Tryz.prog.cellsOf 3)) a1 All := r1
  rw [show Tryz.prog.cellsOf 3 = 1 from by kernel_rfl] at r1
  obtain ⟨y2, hy2⟩ : ∃ y, xs[2]? = some y := ⟨_, List.getElem?_eq_getElem (by rw [hlen]; decide)⟩
  obtain ⟨a2, r2⟩ := rdb_str Tryz.underlying9 H enc w base spare held n _ _ ((hf 2 _ rfl).trans hy2)
  have r2 : rd false w ((cs.drop 2).take (Tryz.prog.cellsOf 9)) a2 All := r2
  rw [show Tryz.prog.cellsOf 9 = 1 from by kernel_rfl] at r2
  obtain ⟨y3, hy3⟩ : ∃ y, xs[3]? = some y := ⟨_, List.getElem?_eq_getElem (by rw [hlen]; decide)⟩
  obtain ⟨a3, r3⟩ := rdb_str Tryz.underlying9 H enc w base spare held n _ _ ((hf 3 _ rfl).trans hy3)
  have r3 : rd false w ((cs.drop 3).take (Tryz.prog.cellsOf 9)) a3 All := r3
  rw [show Tryz.prog.cellsOf 9 = 1 from by kernel_rfl] at r3
  have hz : rd false w (cs.drop 0) (a0, a1, a2, a3) All := rd_pair_drop r0 (rd_pair_drop r1 (rd_pair_drop r2 (rd_last_drop r3 (by omega))))
  exact ⟨⟨a0, a1, a2, a3⟩, hz⟩
theorem rdb_Sig : Rdb Sig Tryz.prog 85 := by
  intro H enc w base spare held fuel cs x h
  obtain ⟨xs, n, rfl, _, hl, hlen, hf⟩ := DataW.trod_struct Tryz.underlying85 h
  have hl : cs.length = 4 := hl.trans (by kernel_rfl)
  obtain ⟨y0, hy0⟩ : ∃ y, xs[0]? = some y := ⟨_, List.getElem?_eq_getElem (by rw [hlen]; decide)⟩
  obtain ⟨a0, r0⟩ := rdb_int Tryz.underlying3 H enc w base spare held n _ _ ((hf 0 _ rfl).trans hy0)
  have r0 : rd false w ((cs.drop 0).take (Tryz.prog.cellsOf 3)) a0 All := r0
  rw [show Tryz.prog.cellsOf 3 = 1 from by kernel_rfl] at r0
  obtain ⟨y1, hy1⟩ : ∃ y, xs[1]? = some y := ⟨_, List.getElem?_eq_getElem (by rw [hlen]; decide)⟩
  obtain ⟨a1, r1⟩ := rdb_StringS H enc w base spare held n _ _ ((hf 1 _ rfl).trans hy1)
  have r1 : rd false w ((cs.drop 1).take (Tryz.prog.cellsOf 34)) a1 All := r1
  rw [show Tryz.prog.cellsOf 34 = 1 from by kernel_rfl] at r1
  obtain ⟨y2, hy2⟩ : ∃ y, xs[2]? = some y := ⟨_, List.getElem?_eq_getElem (by rw [hlen]; decide)⟩
  obtain ⟨a2, r2⟩ := rdb_StringS H enc w base spare held n _ _ ((hf 2 _ rfl).trans hy2)
  have r2 : rd false w ((cs.drop 2).take (Tryz.prog.cellsOf 34)) a2 All := r2
  rw [show Tryz.prog.cellsOf 34 = 1 from by kernel_rfl] at r2
  obtain ⟨y3, hy3⟩ : ∃ y, xs[3]? = some y := ⟨_, List.getElem?_eq_getElem (by rw [hlen]; decide)⟩
  obtain ⟨a3, r3⟩ := rdb_StringS H enc w base spare held n _ _ ((hf 3 _ rfl).trans hy3)
  have r3 : rd false w ((cs.drop 3).take (Tryz.prog.cellsOf 34)) a3 All := r3
  rw [show Tryz.prog.cellsOf 34 = 1 from by kernel_rfl] at r3
  have hz : rd false w (cs.drop 0) (a0, a1, a2, a3) All := rd_pair_drop r0 (rd_pair_drop r1 (rd_pair_drop r2 (rd_last_drop r3 (by omega))))
  exact ⟨⟨a0, a1, a2, a3⟩, hz⟩
theorem rdb_Seal : Rdb Seal Tryz.prog 87 := by
  intro H enc w base spare held fuel cs x h
  obtain ⟨xs, n, rfl, _, hl, hlen, hf⟩ := DataW.trod_struct Tryz.underlying87 h
  have hl : cs.length = 8 := hl.trans (by kernel_rfl)
  obtain ⟨y0, hy0⟩ : ∃ y, xs[0]? = some y := ⟨_, List.getElem?_eq_getElem (by rw [hlen]; decide)⟩
  obtain ⟨a0, r0⟩ := rdb_Head H enc w base spare held n _ _ ((hf 0 _ rfl).trans hy0)
  have r0 : rd false w ((cs.drop 0).take (Tryz.prog.cellsOf 83)) a0 All := r0
  rw [show Tryz.prog.cellsOf 83 = 4 from by kernel_rfl] at r0
  obtain ⟨y1, hy1⟩ : ∃ y, xs[1]? = some y := ⟨_, List.getElem?_eq_getElem (by rw [hlen]; decide)⟩
  obtain ⟨a1, r1⟩ := rdb_Sig H enc w base spare held n _ _ ((hf 1 _ rfl).trans hy1)
  have r1 : rd false w ((cs.drop 4).take (Tryz.prog.cellsOf 85)) a1 All := r1
  rw [show Tryz.prog.cellsOf 85 = 4 from by kernel_rfl] at r1
  have hz : rd false w (cs.drop 0) (a0, a1) All := rd_pair_drop r0 (rd_last_drop r1 (by omega))
  exact ⟨⟨a0, a1⟩, hz⟩
theorem rdb_Stamp : Rdb Stamp Tryz.prog 266 := by
  intro H enc w base spare held fuel cs x h
  obtain ⟨xs, n, rfl, _, hl, hlen, hf⟩ := DataW.trod_struct Tryz.underlying266 h
  have hl : cs.length = 5 := hl.trans (by kernel_rfl)
  obtain ⟨y0, hy0⟩ : ∃ y, xs[0]? = some y := ⟨_, List.getElem?_eq_getElem (by rw [hlen]; decide)⟩
  obtain ⟨a0, r0⟩ := rdb_int Tryz.underlying3 H enc w base spare held n _ _ ((hf 0 _ rfl).trans hy0)
  have r0 : rd false w ((cs.drop 0).take (Tryz.prog.cellsOf 3)) a0 All := r0
  rw [show Tryz.prog.cellsOf 3 = 1 from by kernel_rfl] at r0
  obtain ⟨y1, hy1⟩ : ∃ y, xs[1]? = some y := ⟨_, List.getElem?_eq_getElem (by rw [hlen]; decide)⟩
  obtain ⟨a1, r1⟩ := rdb_Sig H enc w base spare held n _ _ ((hf 1 _ rfl).trans hy1)
  have r1 : rd false w ((cs.drop 1).take (Tryz.prog.cellsOf 85)) a1 All := r1
  rw [show Tryz.prog.cellsOf 85 = 4 from by kernel_rfl] at r1
  have hz : rd false w (cs.drop 0) (a0, a1) All := rd_pair_drop r0 (rd_last_drop r1 (by omega))
  exact ⟨⟨a0, a1⟩, hz⟩
theorem rdb_Leaf : Rdb Leaf Tryz.prog 317 := by
  intro H enc w base spare held fuel cs x h
  obtain ⟨xs, n, rfl, _, hl, hlen, hf⟩ := DataW.trod_struct Tryz.underlying317 h
  have hl : cs.length = 2 := hl.trans (by kernel_rfl)
  obtain ⟨y0, hy0⟩ : ∃ y, xs[0]? = some y := ⟨_, List.getElem?_eq_getElem (by rw [hlen]; decide)⟩
  obtain ⟨a0, r0⟩ := rdb_str Tryz.underlying9 H enc w base spare held n _ _ ((hf 0 _ rfl).trans hy0)
  have r0 : rd false w ((cs.drop 0).take (Tryz.prog.cellsOf 9)) a0 All := r0
  rw [show Tryz.prog.cellsOf 9 = 1 from by kernel_rfl] at r0
  obtain ⟨y1, hy1⟩ : ∃ y, xs[1]? = some y := ⟨_, List.getElem?_eq_getElem (by rw [hlen]; decide)⟩
  obtain ⟨a1, r1⟩ := rdb_str Tryz.underlying9 H enc w base spare held n _ _ ((hf 1 _ rfl).trans hy1)
  have r1 : rd false w ((cs.drop 1).take (Tryz.prog.cellsOf 9)) a1 All := r1
  rw [show Tryz.prog.cellsOf 9 = 1 from by kernel_rfl] at r1
  have hz : rd false w (cs.drop 0) (a0, a1) All := rd_pair_drop r0 (rd_last_drop r1 (by omega))
  exact ⟨⟨a0, a1⟩, hz⟩
theorem rdb_LeafS : Rdb (List Leaf) Tryz.prog 79 := rdb_slice Tryz.underlying79 (by kernel_rfl) (rdb_Leaf)
theorem rdb_Proof : Rdb Proof Tryz.prog 81 := by
  intro H enc w base spare held fuel cs x h
  obtain ⟨xs, n, rfl, _, hl, hlen, hf⟩ := DataW.trod_struct Tryz.underlying81 h
  have hl : cs.length = 2 := hl.trans (by kernel_rfl)
  obtain ⟨y0, hy0⟩ : ∃ y, xs[0]? = some y := ⟨_, List.getElem?_eq_getElem (by rw [hlen]; decide)⟩
  obtain ⟨a0, r0⟩ := rdb_LeafS H enc w base spare held n _ _ ((hf 0 _ rfl).trans hy0)
  have r0 : rd false w ((cs.drop 0).take (Tryz.prog.cellsOf 79)) a0 All := r0
  rw [show Tryz.prog.cellsOf 79 = 1 from by kernel_rfl] at r0
  obtain ⟨y1, hy1⟩ : ∃ y, xs[1]? = some y := ⟨_, List.getElem?_eq_getElem (by rw [hlen]; decide)⟩
  obtain ⟨a1, r1⟩ := rdb_StringS H enc w base spare held n _ _ ((hf 1 _ rfl).trans hy1)
  have r1 : rd false w ((cs.drop 1).take (Tryz.prog.cellsOf 34)) a1 All := r1
  rw [show Tryz.prog.cellsOf 34 = 1 from by kernel_rfl] at r1
  have hz : rd false w (cs.drop 0) (a0, a1) All := rd_pair_drop r0 (rd_last_drop r1 (by omega))
  exact ⟨⟨a0, a1⟩, hz⟩
theorem rdb_StampS : Rdb (List Stamp) Tryz.prog 88 := rdb_slice Tryz.underlying88 (by kernel_rfl) (rdb_Stamp)
theorem rdb_Whole : Rdb Whole Tryz.prog 90 := by
  intro H enc w base spare held fuel cs x h
  obtain ⟨xs, n, rfl, _, hl, hlen, hf⟩ := DataW.trod_struct Tryz.underlying90 h
  have hl : cs.length = 12 := hl.trans (by kernel_rfl)
  obtain ⟨y0, hy0⟩ : ∃ y, xs[0]? = some y := ⟨_, List.getElem?_eq_getElem (by rw [hlen]; decide)⟩
  obtain ⟨a0, r0⟩ := rdb_Proof H enc w base spare held n _ _ ((hf 0 _ rfl).trans hy0)
  have r0 : rd false w ((cs.drop 0).take (Tryz.prog.cellsOf 81)) a0 All := r0
  rw [show Tryz.prog.cellsOf 81 = 2 from by kernel_rfl] at r0
  obtain ⟨y1, hy1⟩ : ∃ y, xs[1]? = some y := ⟨_, List.getElem?_eq_getElem (by rw [hlen]; decide)⟩
  obtain ⟨a1, r1⟩ := rdb_StringS H enc w base spare held n _ _ ((hf 1 _ rfl).trans hy1)
  have r1 : rd false w ((cs.drop 2).take (Tryz.prog.cellsOf 34)) a1 All := r1
  rw [show Tryz.prog.cellsOf 34 = 1 from by kernel_rfl] at r1
  obtain ⟨y2, hy2⟩ : ∃ y, xs[2]? = some y := ⟨_, List.getElem?_eq_getElem (by rw [hlen]; decide)⟩
  obtain ⟨a2, r2⟩ := rdb_Seal H enc w base spare held n _ _ ((hf 2 _ rfl).trans hy2)
  have r2 : rd false w ((cs.drop 3).take (Tryz.prog.cellsOf 87)) a2 All := r2
  rw [show Tryz.prog.cellsOf 87 = 8 from by kernel_rfl] at r2
  obtain ⟨y3, hy3⟩ : ∃ y, xs[3]? = some y := ⟨_, List.getElem?_eq_getElem (by rw [hlen]; decide)⟩
  obtain ⟨a3, r3⟩ := rdb_StampS H enc w base spare held n _ _ ((hf 3 _ rfl).trans hy3)
  have r3 : rd false w ((cs.drop 11).take (Tryz.prog.cellsOf 88)) a3 All := r3
  rw [show Tryz.prog.cellsOf 88 = 1 from by kernel_rfl] at r3
  have hz : rd false w (cs.drop 0) (a0, a1, a2, a3) All := rd_pair_drop r0 (rd_pair_drop r1 (rd_pair_drop r2 (rd_last_drop r3 (by omega))))
  exact ⟨⟨a0, a1, a2, a3⟩, hz⟩
theorem rdb_WholeS : Rdb (List Whole) Tryz.prog 55 := rdb_slice Tryz.underlying55 (by kernel_rfl) (rdb_Whole)
theorem rdb_Past : Rdb Past Tryz.prog 57 := by
  intro H enc w base spare held fuel cs x h
  obtain ⟨xs, n, rfl, _, hl, hlen, hf⟩ := DataW.trod_struct Tryz.underlying57 h
  have hl : cs.length = 1 := hl.trans (by kernel_rfl)
  obtain ⟨y0, hy0⟩ : ∃ y, xs[0]? = some y := ⟨_, List.getElem?_eq_getElem (by rw [hlen]; decide)⟩
  obtain ⟨a0, r0⟩ := rdb_WholeS H enc w base spare held n _ _ ((hf 0 _ rfl).trans hy0)
  have r0 : rd false w ((cs.drop 0).take (Tryz.prog.cellsOf 55)) a0 All := r0
  rw [show Tryz.prog.cellsOf 55 = 1 from by kernel_rfl] at r0
  have hz : rd false w (cs.drop 0) (a0) All := rd_last_drop r0 (by omega)
  exact ⟨⟨a0⟩, hz⟩
theorem rdb_Trust : Rdb Trust Tryz.prog 54 := by
  intro H enc w base spare held fuel cs x h
  obtain ⟨xs, n, rfl, _, hl, hlen, hf⟩ := DataW.trod_struct Tryz.underlying54 h
  have hl : cs.length = 3 := hl.trans (by kernel_rfl)
  obtain ⟨y0, hy0⟩ : ∃ y, xs[0]? = some y := ⟨_, List.getElem?_eq_getElem (by rw [hlen]; decide)⟩
  obtain ⟨a0, r0⟩ := rdb_StringS H enc w base spare held n _ _ ((hf 0 _ rfl).trans hy0)
  have r0 : rd false w ((cs.drop 0).take (Tryz.prog.cellsOf 34)) a0 All := r0
  rw [show Tryz.prog.cellsOf 34 = 1 from by kernel_rfl] at r0
  obtain ⟨y1, hy1⟩ : ∃ y, xs[1]? = some y := ⟨_, List.getElem?_eq_getElem (by rw [hlen]; decide)⟩
  obtain ⟨a1, r1⟩ := rdb_int Tryz.underlying3 H enc w base spare held n _ _ ((hf 1 _ rfl).trans hy1)
  have r1 : rd false w ((cs.drop 1).take (Tryz.prog.cellsOf 3)) a1 All := r1
  rw [show Tryz.prog.cellsOf 3 = 1 from by kernel_rfl] at r1
  obtain ⟨y2, hy2⟩ : ∃ y, xs[2]? = some y := ⟨_, List.getElem?_eq_getElem (by rw [hlen]; decide)⟩
  obtain ⟨a2, r2⟩ := rdb_int Tryz.underlying3 H enc w base spare held n _ _ ((hf 2 _ rfl).trans hy2)
  have r2 : rd false w ((cs.drop 2).take (Tryz.prog.cellsOf 3)) a2 All := r2
  rw [show Tryz.prog.cellsOf 3 = 1 from by kernel_rfl] at r2
  have hz : rd false w (cs.drop 0) (a0, a1, a2) All := rd_pair_drop r0 (rd_pair_drop r1 (rd_last_drop r2 (by omega)))
  exact ⟨⟨a0, a1, a2⟩, hz⟩
end Go.Proofs.YtcbbjfafmmcfiaaGreatDoor
