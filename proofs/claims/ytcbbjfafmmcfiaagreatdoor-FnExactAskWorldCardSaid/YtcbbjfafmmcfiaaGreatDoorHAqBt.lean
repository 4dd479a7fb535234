/- A part of the proof. -/
import Derived.Test.YtcbbjfafmmcfiaaGreatDoorHAqL4xBr
import Derived.Test.YtcbbjfafmmcfiaaGreatDoorHAqTy
set_option linter.unusedVariables false
set_option linter.unusedSimpArgs false
namespace Go.Proofs.YtcbbjfafmmcfiaaGreatDoor
open Go.RowKit Lay Mk
theorem rdb_File:Rdb File Tryz.prog 315:=by
 intro H enc w base spare held fuel cs x h
 obtain ⟨xs,n,rfl,_,hl,hlen,hf⟩:=DataW.trod_struct Tryz.underlying315 h
 have hl:cs.length=3:=hl.trans (by kernel_rfl)
 obtain ⟨y0,hy0⟩:∃ y,xs[0]? = some y:=⟨_,List.getElem?_eq_getElem zz43⟩
 obtain ⟨a0,r0⟩:=rdb_str Tryz.underlying9 H enc w base spare held n _ _ ((hf 0 _ rfl).trans hy0)
 have r0:rd false w ((cs.drop 0).take (Tryz.prog.cellsOf 9)) a0 All:=r0
 rw [show Tryz.prog.cellsOf 9=1 from by kernel_rfl] at r0
 obtain ⟨y1,hy1⟩:∃ y,xs[1]? = some y:=⟨_,List.getElem?_eq_getElem zz43⟩
 obtain ⟨a1,r1⟩:=rdb_str Tryz.underlying9 H enc w base spare held n _ _ ((hf 1 _ rfl).trans hy1)
 have r1:rd false w ((cs.drop 1).take (Tryz.prog.cellsOf 9)) a1 All:=r1
 rw [show Tryz.prog.cellsOf 9=1 from by kernel_rfl] at r1
 obtain ⟨y2,hy2⟩:∃ y,xs[2]? = some y:=⟨_,List.getElem?_eq_getElem zz43⟩
 obtain ⟨a2,r2⟩:=rdb_int Tryz.underlying3 H enc w base spare held n _ _ ((hf 2 _ rfl).trans hy2)
 have r2:rd false w ((cs.drop 2).take (Tryz.prog.cellsOf 3)) a2 All:=r2
 rw [show Tryz.prog.cellsOf 3=1 from by kernel_rfl] at r2
 have hz:rd false w (cs.drop 0) (a0,a1,a2) All:=ya9 r0 (ya9 r1 (rd_last_drop r2 zz13))
 exact ⟨⟨a0,a1,a2⟩,hz⟩
theorem rdb_FileS:Rdb (List File) Tryz.prog 22:=rdb_slice Tryz.underlying22 (by kernel_rfl) (rdb_File)
theorem rdb_Disk:Rdb Disk Tryz.prog 24:=by
 intro H enc w base spare held fuel cs x h
 obtain ⟨xs,n,rfl,_,hl,hlen,hf⟩:=DataW.trod_struct Tryz.underlying24 h
 have hl:cs.length=1:=hl.trans (by kernel_rfl)
 obtain ⟨y0,hy0⟩:∃ y,xs[0]? = some y:=⟨_,List.getElem?_eq_getElem zz43⟩
 obtain ⟨a0,r0⟩:=rdb_FileS H enc w base spare held n _ _ ((hf 0 _ rfl).trans hy0)
 have r0:rd false w ((cs.drop 0).take (Tryz.prog.cellsOf 22)) a0 All:=r0
 rw [show Tryz.prog.cellsOf 22=1 from by kernel_rfl] at r0
 have hz:rd false w (cs.drop 0) (a0) All:=rd_last_drop r0 zz13
 exact ⟨⟨a0⟩,hz⟩
theorem rdb_StringS:Rdb (List ByteArray) Tryz.prog 34:=rdb_slice Tryz.underlying34 (by kernel_rfl) (rdb_str Tryz.underlying9)
theorem rdb_Head:Rdb Head Tryz.prog 83:=by
 intro H enc w base spare held fuel cs x h
 obtain ⟨xs,n,rfl,_,hl,hlen,hf⟩:=DataW.trod_struct Tryz.underlying83 h
 have hl:cs.length=4:=hl.trans (by kernel_rfl)
 obtain ⟨y0,hy0⟩:∃ y,xs[0]? = some y:=⟨_,List.getElem?_eq_getElem zz43⟩
 obtain ⟨a0,r0⟩:=rdb_int Tryz.underlying3 H enc w base spare held n _ _ ((hf 0 _ rfl).trans hy0)
 have r0:rd false w ((cs.drop 0).take (Tryz.prog.cellsOf 3)) a0 All:=r0
 rw [show Tryz.prog.cellsOf 3=1 from by kernel_rfl] at r0
 obtain ⟨y1,hy1⟩:∃ y,xs[1]? = some y:=⟨_,List.getElem?_eq_getElem zz43⟩
 obtain ⟨a1,r1⟩:=rdb_int Tryz.underlying3 H enc w base spare held n _ _ ((hf 1 _ rfl).trans hy1)
 have r1:rd false w ((cs.drop 1).take (Tryz.prog.cellsOf 3)) a1 All:=r1
 rw [show Tryz.prog.cellsOf 3=1 from by kernel_rfl] at r1
 obtain ⟨y2,hy2⟩:∃ y,xs[2]? = some y:=⟨_,List.getElem?_eq_getElem zz43⟩
 obtain ⟨a2,r2⟩:=rdb_str Tryz.underlying9 H enc w base spare held n _ _ ((hf 2 _ rfl).trans hy2)
 have r2:rd false w ((cs.drop 2).take (Tryz.prog.cellsOf 9)) a2 All:=r2
 rw [show Tryz.prog.cellsOf 9=1 from by kernel_rfl] at r2
 obtain ⟨y3,hy3⟩:∃ y,xs[3]? = some y:=⟨_,List.getElem?_eq_getElem zz43⟩
 obtain ⟨a3,r3⟩:=rdb_str Tryz.underlying9 H enc w base spare held n _ _ ((hf 3 _ rfl).trans hy3)
 have r3:rd false w ((cs.drop 3).take (Tryz.prog.cellsOf 9)) a3 All:=r3
 rw [show Tryz.prog.cellsOf 9=1 from by kernel_rfl] at r3
 have hz:rd false w (cs.drop 0) (a0,a1,a2,a3) All:=ya9 r0 (ya9 r1 (ya9 r2 (rd_last_drop r3 zz13)))
 exact ⟨⟨a0,a1,a2,a3⟩,hz⟩
theorem rdb_Sig:Rdb Sig Tryz.prog 85:=by
 intro H enc w base spare held fuel cs x h
 obtain ⟨xs,n,rfl,_,hl,hlen,hf⟩:=DataW.trod_struct Tryz.underlying85 h
 have hl:cs.length=4:=hl.trans (by kernel_rfl)
 obtain ⟨y0,hy0⟩:∃ y,xs[0]? = some y:=⟨_,List.getElem?_eq_getElem zz43⟩
 obtain ⟨a0,r0⟩:=rdb_int Tryz.underlying3 H enc w base spare held n _ _ ((hf 0 _ rfl).trans hy0)
 have r0:rd false w ((cs.drop 0).take (Tryz.prog.cellsOf 3)) a0 All:=r0
 rw [show Tryz.prog.cellsOf 3=1 from by kernel_rfl] at r0
 obtain ⟨y1,hy1⟩:∃ y,xs[1]? = some y:=⟨_,List.getElem?_eq_getElem zz43⟩
 obtain ⟨a1,r1⟩:=rdb_StringS H enc w base spare held n _ _ ((hf 1 _ rfl).trans hy1)
 have r1:rd false w ((cs.drop 1).take (Tryz.prog.cellsOf 34)) a1 All:=r1
 rw [show Tryz.prog.cellsOf 34=1 from by kernel_rfl] at r1
 obtain ⟨y2,hy2⟩:∃ y,xs[2]? = some y:=⟨_,List.getElem?_eq_getElem zz43⟩
 obtain ⟨a2,r2⟩:=rdb_StringS H enc w base spare held n _ _ ((hf 2 _ rfl).trans hy2)
 have r2:rd false w ((cs.drop 2).take (Tryz.prog.cellsOf 34)) a2 All:=r2
 rw [show Tryz.prog.cellsOf 34=1 from by kernel_rfl] at r2
 obtain ⟨y3,hy3⟩:∃ y,xs[3]? = some y:=⟨_,List.getElem?_eq_getElem zz43⟩
 obtain ⟨a3,r3⟩:=rdb_StringS H enc w base spare held n _ _ ((hf 3 _ rfl).trans hy3)
 have r3:rd false w ((cs.drop 3).take (Tryz.prog.cellsOf 34)) a3 All:=r3
 rw [show Tryz.prog.cellsOf 34=1 from by kernel_rfl] at r3
 have hz:rd false w (cs.drop 0) (a0,a1,a2,a3) All:=ya9 r0 (ya9 r1 (ya9 r2 (rd_last_drop r3 zz13)))
 exact ⟨⟨a0,a1,a2,a3⟩,hz⟩
theorem rdb_Seal:Rdb Seal Tryz.prog 87:=by
 intro H enc w base spare held fuel cs x h
 obtain ⟨xs,n,rfl,_,hl,hlen,hf⟩:=DataW.trod_struct Tryz.underlying87 h
 have hl:cs.length=8:=hl.trans (by kernel_rfl)
 obtain ⟨y0,hy0⟩:∃ y,xs[0]? = some y:=⟨_,List.getElem?_eq_getElem zz43⟩
 obtain ⟨a0,r0⟩:=rdb_Head H enc w base spare held n _ _ ((hf 0 _ rfl).trans hy0)
 have r0:rd false w ((cs.drop 0).take (Tryz.prog.cellsOf 83)) a0 All:=r0
 rw [show Tryz.prog.cellsOf 83=4 from by kernel_rfl] at r0
 obtain ⟨y1,hy1⟩:∃ y,xs[1]? = some y:=⟨_,List.getElem?_eq_getElem zz43⟩
 obtain ⟨a1,r1⟩:=rdb_Sig H enc w base spare held n _ _ ((hf 1 _ rfl).trans hy1)
 have r1:rd false w ((cs.drop 4).take (Tryz.prog.cellsOf 85)) a1 All:=r1
 rw [show Tryz.prog.cellsOf 85=4 from by kernel_rfl] at r1
 have hz:rd false w (cs.drop 0) (a0,a1) All:=ya9 r0 (rd_last_drop r1 zz13)
 exact ⟨⟨a0,a1⟩,hz⟩
theorem rdb_SealS:Rdb (List Seal) Tryz.prog 78:=rdb_slice Tryz.underlying78 (by kernel_rfl) (rdb_Seal)
theorem rdb_Pair:Rdb Pair Tryz.prog 367:=by
 intro H enc w base spare held fuel cs x h
 obtain ⟨xs,n,rfl,_,hl,hlen,hf⟩:=DataW.trod_struct Tryz.underlying367 h
 have hl:cs.length=16:=hl.trans (by kernel_rfl)
 obtain ⟨y0,hy0⟩:∃ y,xs[0]? = some y:=⟨_,List.getElem?_eq_getElem zz43⟩
 obtain ⟨a0,r0⟩:=rdb_Seal H enc w base spare held n _ _ ((hf 0 _ rfl).trans hy0)
 have r0:rd false w ((cs.drop 0).take (Tryz.prog.cellsOf 87)) a0 All:=r0
 rw [show Tryz.prog.cellsOf 87=8 from by kernel_rfl] at r0
 obtain ⟨y1,hy1⟩:∃ y,xs[1]? = some y:=⟨_,List.getElem?_eq_getElem zz43⟩
 obtain ⟨a1,r1⟩:=rdb_Seal H enc w base spare held n _ _ ((hf 1 _ rfl).trans hy1)
 have r1:rd false w ((cs.drop 8).take (Tryz.prog.cellsOf 87)) a1 All:=r1
 rw [show Tryz.prog.cellsOf 87=8 from by kernel_rfl] at r1
 have hz:rd false w (cs.drop 0) (a0,a1) All:=ya9 r0 (rd_last_drop r1 zz13)
 exact ⟨⟨a0,a1⟩,hz⟩
theorem rdb_PairS:Rdb (List Pair) Tryz.prog 285:=rdb_slice Tryz.underlying285 (by kernel_rfl) (rdb_Pair)
theorem rdb_Auditor:Rdb Auditor Tryz.prog 287:=by
 intro H enc w base spare held fuel cs x h
 obtain ⟨xs,n,rfl,_,hl,hlen,hf⟩:=DataW.trod_struct Tryz.underlying287 h
 have hl:cs.length=6:=hl.trans (by kernel_rfl)
 obtain ⟨y0,hy0⟩:∃ y,xs[0]? = some y:=⟨_,List.getElem?_eq_getElem zz43⟩
 obtain ⟨a0,r0⟩:=rdb_int Tryz.underlying3 H enc w base spare held n _ _ ((hf 0 _ rfl).trans hy0)
 have r0:rd false w ((cs.drop 0).take (Tryz.prog.cellsOf 3)) a0 All:=r0
 rw [show Tryz.prog.cellsOf 3=1 from by kernel_rfl] at r0
 obtain ⟨y1,hy1⟩:∃ y,xs[1]? = some y:=⟨_,List.getElem?_eq_getElem zz43⟩
 obtain ⟨a1,r1⟩:=rdb_bool Tryz.underlying4 H enc w base spare held n _ _ ((hf 1 _ rfl).trans hy1)
 have r1:rd false w ((cs.drop 1).take (Tryz.prog.cellsOf 4)) a1 All:=r1
 rw [show Tryz.prog.cellsOf 4=1 from by kernel_rfl] at r1
 obtain ⟨y2,hy2⟩:∃ y,xs[2]? = some y:=⟨_,List.getElem?_eq_getElem zz43⟩
 obtain ⟨a2,r2⟩:=rdb_Disk H enc w base spare held n _ _ ((hf 2 _ rfl).trans hy2)
 have r2:rd false w ((cs.drop 2).take (Tryz.prog.cellsOf 24)) a2 All:=r2
 rw [show Tryz.prog.cellsOf 24=1 from by kernel_rfl] at r2
 obtain ⟨y3,hy3⟩:∃ y,xs[3]? = some y:=⟨_,List.getElem?_eq_getElem zz43⟩
 obtain ⟨a3,r3⟩:=rdb_StringS H enc w base spare held n _ _ ((hf 3 _ rfl).trans hy3)
 have r3:rd false w ((cs.drop 3).take (Tryz.prog.cellsOf 34)) a3 All:=r3
 rw [show Tryz.prog.cellsOf 34=1 from by kernel_rfl] at r3
 obtain ⟨y4,hy4⟩:∃ y,xs[4]? = some y:=⟨_,List.getElem?_eq_getElem zz43⟩
 obtain ⟨a4,r4⟩:=rdb_SealS H enc w base spare held n _ _ ((hf 4 _ rfl).trans hy4)
 have r4:rd false w ((cs.drop 4).take (Tryz.prog.cellsOf 78)) a4 All:=r4
 rw [show Tryz.prog.cellsOf 78=1 from by kernel_rfl] at r4
 obtain ⟨y5,hy5⟩:∃ y,xs[5]? = some y:=⟨_,List.getElem?_eq_getElem zz43⟩
 obtain ⟨a5,r5⟩:=rdb_PairS H enc w base spare held n _ _ ((hf 5 _ rfl).trans hy5)
 have r5:rd false w ((cs.drop 5).take (Tryz.prog.cellsOf 285)) a5 All:=r5
 rw [show Tryz.prog.cellsOf 285=1 from by kernel_rfl] at r5
 have hz:rd false w (cs.drop 0) (a0,a1,a2,a3,a4,a5) All:=ya9 r0 (ya9 r1 (ya9 r2 (ya9 r3 (ya9 r4 (rd_last_drop r5 zz13)))))
 exact ⟨⟨a0,a1,a2,a3,a4,a5⟩,hz⟩
theorem rdb_Change:Rdb Change Tryz.prog 230:=by
 intro H enc w base spare held fuel cs x h
 obtain ⟨xs,n,rfl,_,hl,hlen,hf⟩:=DataW.trod_struct Tryz.underlying230 h
 have hl:cs.length=3:=hl.trans (by kernel_rfl)
 obtain ⟨y0,hy0⟩:∃ y,xs[0]? = some y:=⟨_,List.getElem?_eq_getElem zz43⟩
 obtain ⟨a0,r0⟩:=rdb_int Tryz.underlying3 H enc w base spare held n _ _ ((hf 0 _ rfl).trans hy0)
 have r0:rd false w ((cs.drop 0).take (Tryz.prog.cellsOf 3)) a0 All:=r0
 rw [show Tryz.prog.cellsOf 3=1 from by kernel_rfl] at r0
 obtain ⟨y1,hy1⟩:∃ y,xs[1]? = some y:=⟨_,List.getElem?_eq_getElem zz43⟩
 obtain ⟨a1,r1⟩:=rdb_str Tryz.underlying9 H enc w base spare held n _ _ ((hf 1 _ rfl).trans hy1)
 have r1:rd false w ((cs.drop 1).take (Tryz.prog.cellsOf 9)) a1 All:=r1
 rw [show Tryz.prog.cellsOf 9=1 from by kernel_rfl] at r1
 obtain ⟨y2,hy2⟩:∃ y,xs[2]? = some y:=⟨_,List.getElem?_eq_getElem zz43⟩
 obtain ⟨a2,r2⟩:=rdb_str Tryz.underlying9 H enc w base spare held n _ _ ((hf 2 _ rfl).trans hy2)
 have r2:rd false w ((cs.drop 2).take (Tryz.prog.cellsOf 9)) a2 All:=r2
 rw [show Tryz.prog.cellsOf 9=1 from by kernel_rfl] at r2
 have hz:rd false w (cs.drop 0) (a0,a1,a2) All:=ya9 r0 (ya9 r1 (rd_last_drop r2 zz13))
 exact ⟨⟨a0,a1,a2⟩,hz⟩
theorem rdb_IntS:Rdb (List Int) Tryz.prog 26:=rdb_slice Tryz.underlying26 (by kernel_rfl) (rdb_int Tryz.underlying3)
theorem rdb_BoolS:Rdb (List Bool) Tryz.prog 121:=rdb_slice Tryz.underlying121 (by kernel_rfl) (rdb_bool Tryz.underlying4)
theorem rdb_Coord:Rdb Coord Tryz.prog 280:=by
 intro H enc w base spare held fuel cs x h
 obtain ⟨xs,n,rfl,_,hl,hlen,hf⟩:=DataW.trod_struct Tryz.underlying280 h
 have hl:cs.length=11:=hl.trans (by kernel_rfl)
 obtain ⟨y0,hy0⟩:∃ y,xs[0]? = some y:=⟨_,List.getElem?_eq_getElem zz43⟩
 obtain ⟨a0,r0⟩:=rdb_int Tryz.underlying3 H enc w base spare held n _ _ ((hf 0 _ rfl).trans hy0)
 have r0:rd false w ((cs.drop 0).take (Tryz.prog.cellsOf 3)) a0 All:=r0
 rw [show Tryz.prog.cellsOf 3=1 from by kernel_rfl] at r0
 obtain ⟨y1,hy1⟩:∃ y,xs[1]? = some y:=⟨_,List.getElem?_eq_getElem zz43⟩
 obtain ⟨a1,r1⟩:=rdb_int Tryz.underlying3 H enc w base spare held n _ _ ((hf 1 _ rfl).trans hy1)
 have r1:rd false w ((cs.drop 1).take (Tryz.prog.cellsOf 3)) a1 All:=r1
 rw [show Tryz.prog.cellsOf 3=1 from by kernel_rfl] at r1
 obtain ⟨y2,hy2⟩:∃ y,xs[2]? = some y:=⟨_,List.getElem?_eq_getElem zz43⟩
 obtain ⟨a2,r2⟩:=rdb_bool Tryz.underlying4 H enc w base spare held n _ _ ((hf 2 _ rfl).trans hy2)
 have r2:rd false w ((cs.drop 2).take (Tryz.prog.cellsOf 4)) a2 All:=r2
 rw [show Tryz.prog.cellsOf 4=1 from by kernel_rfl] at r2
 obtain ⟨y3,hy3⟩:∃ y,xs[3]? = some y:=⟨_,List.getElem?_eq_getElem zz43⟩
 obtain ⟨a3,r3⟩:=rdb_Disk H enc w base spare held n _ _ ((hf 3 _ rfl).trans hy3)
 have r3:rd false w ((cs.drop 3).take (Tryz.prog.cellsOf 24)) a3 All:=r3
 rw [show Tryz.prog.cellsOf 24=1 from by kernel_rfl] at r3
 obtain ⟨y4,hy4⟩:∃ y,xs[4]? = some y:=⟨_,List.getElem?_eq_getElem zz43⟩
 obtain ⟨a4,r4⟩:=rdb_StringS H enc w base spare held n _ _ ((hf 4 _ rfl).trans hy4)
 have r4:rd false w ((cs.drop 4).take (Tryz.prog.cellsOf 34)) a4 All:=r4
 rw [show Tryz.prog.cellsOf 34=1 from by kernel_rfl] at r4
 obtain ⟨y5,hy5⟩:∃ y,xs[5]? = some y:=⟨_,List.getElem?_eq_getElem zz43⟩
 obtain ⟨a5,r5⟩:=rdb_SealS H enc w base spare held n _ _ ((hf 5 _ rfl).trans hy5)
 have r5:rd false w ((cs.drop 5).take (Tryz.prog.cellsOf 78)) a5 All:=r5
 rw [show Tryz.prog.cellsOf 78=1 from by kernel_rfl] at r5
 obtain ⟨y6,hy6⟩:∃ y,xs[6]? = some y:=⟨_,List.getElem?_eq_getElem zz43⟩
 obtain ⟨a6,r6⟩:=rdb_IntS H enc w base spare held n _ _ ((hf 6 _ rfl).trans hy6)
 have r6:rd false w ((cs.drop 6).take (Tryz.prog.cellsOf 26)) a6 All:=r6
 rw [show Tryz.prog.cellsOf 26=1 from by kernel_rfl] at r6
 obtain ⟨y7,hy7⟩:∃ y,xs[7]? = some y:=⟨_,List.getElem?_eq_getElem zz43⟩
 obtain ⟨a7,r7⟩:=rdb_int Tryz.underlying3 H enc w base spare held n _ _ ((hf 7 _ rfl).trans hy7)
 have r7:rd false w ((cs.drop 7).take (Tryz.prog.cellsOf 3)) a7 All:=r7
 rw [show Tryz.prog.cellsOf 3=1 from by kernel_rfl] at r7
 obtain ⟨y8,hy8⟩:∃ y,xs[8]? = some y:=⟨_,List.getElem?_eq_getElem zz43⟩
 obtain ⟨a8,r8⟩:=rdb_bool Tryz.underlying4 H enc w base spare held n _ _ ((hf 8 _ rfl).trans hy8)
 have r8:rd false w ((cs.drop 8).take (Tryz.prog.cellsOf 4)) a8 All:=r8
 rw [show Tryz.prog.cellsOf 4=1 from by kernel_rfl] at r8
 obtain ⟨y9,hy9⟩:∃ y,xs[9]? = some y:=⟨_,List.getElem?_eq_getElem zz43⟩
 obtain ⟨a9,r9⟩:=rdb_StringS H enc w base spare held n _ _ ((hf 9 _ rfl).trans hy9)
 have r9:rd false w ((cs.drop 9).take (Tryz.prog.cellsOf 34)) a9 All:=r9
 rw [show Tryz.prog.cellsOf 34=1 from by kernel_rfl] at r9
 obtain ⟨y10,hy10⟩:∃ y,xs[10]? = some y:=⟨_,List.getElem?_eq_getElem zz43⟩
 obtain ⟨a10,r10⟩:=rdb_BoolS H enc w base spare held n _ _ ((hf 10 _ rfl).trans hy10)
 have r10:rd false w ((cs.drop 10).take (Tryz.prog.cellsOf 121)) a10 All:=r10
 rw [show Tryz.prog.cellsOf 121=1 from by kernel_rfl] at r10
 have hz:rd false w (cs.drop 0) (a0,a1,a2,a3,a4,a5,a6,a7,a8,a9,a10) All:=ya9 r0 (ya9 r1 (ya9 r2 (ya9 r3 (ya9 r4 (ya9 r5 (ya9 r6 (ya9 r7 (ya9 r8 (ya9 r9 (rd_last_drop r10 zz13))))))))))
 exact ⟨⟨a0,a1,a2,a3,a4,a5,a6,a7,a8,a9,a10⟩,hz⟩
theorem rdb_Stamp:Rdb Stamp Tryz.prog 266:=by
 intro H enc w base spare held fuel cs x h
 obtain ⟨xs,n,rfl,_,hl,hlen,hf⟩:=DataW.trod_struct Tryz.underlying266 h
 have hl:cs.length=5:=hl.trans (by kernel_rfl)
 obtain ⟨y0,hy0⟩:∃ y,xs[0]? = some y:=⟨_,List.getElem?_eq_getElem zz43⟩
 obtain ⟨a0,r0⟩:=rdb_int Tryz.underlying3 H enc w base spare held n _ _ ((hf 0 _ rfl).trans hy0)
 have r0:rd false w ((cs.drop 0).take (Tryz.prog.cellsOf 3)) a0 All:=r0
 rw [show Tryz.prog.cellsOf 3=1 from by kernel_rfl] at r0
 obtain ⟨y1,hy1⟩:∃ y,xs[1]? = some y:=⟨_,List.getElem?_eq_getElem zz43⟩
 obtain ⟨a1,r1⟩:=rdb_Sig H enc w base spare held n _ _ ((hf 1 _ rfl).trans hy1)
 have r1:rd false w ((cs.drop 1).take (Tryz.prog.cellsOf 85)) a1 All:=r1
 rw [show Tryz.prog.cellsOf 85=4 from by kernel_rfl] at r1
 have hz:rd false w (cs.drop 0) (a0,a1) All:=ya9 r0 (rd_last_drop r1 zz13)
 exact ⟨⟨a0,a1⟩,hz⟩
theorem rdb_Given:Rdb Given Tryz.prog 293:=by
 intro H enc w base spare held fuel cs x h
 obtain ⟨xs,n,rfl,_,hl,hlen,hf⟩:=DataW.trod_struct Tryz.underlying293 h
 have hl:cs.length=7:=hl.trans (by kernel_rfl)
 obtain ⟨y0,hy0⟩:∃ y,xs[0]? = some y:=⟨_,List.getElem?_eq_getElem zz43⟩
 obtain ⟨a0,r0⟩:=rdb_int Tryz.underlying3 H enc w base spare held n _ _ ((hf 0 _ rfl).trans hy0)
 have r0:rd false w ((cs.drop 0).take (Tryz.prog.cellsOf 3)) a0 All:=r0
 rw [show Tryz.prog.cellsOf 3=1 from by kernel_rfl] at r0
 obtain ⟨y1,hy1⟩:∃ y,xs[1]? = some y:=⟨_,List.getElem?_eq_getElem zz43⟩
 obtain ⟨a1,r1⟩:=rdb_int Tryz.underlying3 H enc w base spare held n _ _ ((hf 1 _ rfl).trans hy1)
 have r1:rd false w ((cs.drop 1).take (Tryz.prog.cellsOf 3)) a1 All:=r1
 rw [show Tryz.prog.cellsOf 3=1 from by kernel_rfl] at r1
 obtain ⟨y2,hy2⟩:∃ y,xs[2]? = some y:=⟨_,List.getElem?_eq_getElem zz43⟩
 obtain ⟨a2,r2⟩:=rdb_Stamp H enc w base spare held n _ _ ((hf 2 _ rfl).trans hy2)
 have r2:rd false w ((cs.drop 2).take (Tryz.prog.cellsOf 266)) a2 All:=r2
 rw [show Tryz.prog.cellsOf 266=5 from by kernel_rfl] at r2
 have hz:rd false w (cs.drop 0) (a0,a1,a2) All:=ya9 r0 (ya9 r1 (rd_last_drop r2 zz13))
 exact ⟨⟨a0,a1,a2⟩,hz⟩
theorem rdb_Leaf:Rdb Leaf Tryz.prog 317:=by
 intro H enc w base spare held fuel cs x h
 obtain ⟨xs,n,rfl,_,hl,hlen,hf⟩:=DataW.trod_struct Tryz.underlying317 h
 have hl:cs.length=2:=hl.trans (by kernel_rfl)
 obtain ⟨y0,hy0⟩:∃ y,xs[0]? = some y:=⟨_,List.getElem?_eq_getElem zz43⟩
 obtain ⟨a0,r0⟩:=rdb_str Tryz.underlying9 H enc w base spare held n _ _ ((hf 0 _ rfl).trans hy0)
 have r0:rd false w ((cs.drop 0).take (Tryz.prog.cellsOf 9)) a0 All:=r0
 rw [show Tryz.prog.cellsOf 9=1 from by kernel_rfl] at r0
 obtain ⟨y1,hy1⟩:∃ y,xs[1]? = some y:=⟨_,List.getElem?_eq_getElem zz43⟩
 obtain ⟨a1,r1⟩:=rdb_str Tryz.underlying9 H enc w base spare held n _ _ ((hf 1 _ rfl).trans hy1)
 have r1:rd false w ((cs.drop 1).take (Tryz.prog.cellsOf 9)) a1 All:=r1
 rw [show Tryz.prog.cellsOf 9=1 from by kernel_rfl] at r1
 have hz:rd false w (cs.drop 0) (a0,a1) All:=ya9 r0 (rd_last_drop r1 zz13)
 exact ⟨⟨a0,a1⟩,hz⟩
theorem rdb_LeafS:Rdb (List Leaf) Tryz.prog 79:=rdb_slice Tryz.underlying79 (by kernel_rfl) (rdb_Leaf)
theorem rdb_LeafSS:Rdb (List (List Leaf)) Tryz.prog 25:=rdb_slice Tryz.underlying25 (by kernel_rfl) (rdb_LeafS)
theorem rdb_ChangeS:Rdb (List Change) Tryz.prog 27:=rdb_slice Tryz.underlying27 (by kernel_rfl) (rdb_Change)
theorem rdb_Ready:Rdb Ready Tryz.prog 29:=by
 intro H enc w base spare held fuel cs x h
 obtain ⟨xs,n,rfl,_,hl,hlen,hf⟩:=DataW.trod_struct Tryz.underlying29 h
 have hl:cs.length=3:=hl.trans (by kernel_rfl)
 obtain ⟨y0,hy0⟩:∃ y,xs[0]? = some y:=⟨_,List.getElem?_eq_getElem zz43⟩
 obtain ⟨a0,r0⟩:=rdb_int Tryz.underlying3 H enc w base spare held n _ _ ((hf 0 _ rfl).trans hy0)
 have r0:rd false w ((cs.drop 0).take (Tryz.prog.cellsOf 3)) a0 All:=r0
 rw [show Tryz.prog.cellsOf 3=1 from by kernel_rfl] at r0
 obtain ⟨y1,hy1⟩:∃ y,xs[1]? = some y:=⟨_,List.getElem?_eq_getElem zz43⟩
 obtain ⟨a1,r1⟩:=rdb_int Tryz.underlying3 H enc w base spare held n _ _ ((hf 1 _ rfl).trans hy1)
 have r1:rd false w ((cs.drop 1).take (Tryz.prog.cellsOf 3)) a1 All:=r1
 rw [show Tryz.prog.cellsOf 3=1 from by kernel_rfl] at r1
 obtain ⟨y2,hy2⟩:∃ y,xs[2]? = some y:=⟨_,List.getElem?_eq_getElem zz43⟩
 obtain ⟨a2,r2⟩:=rdb_int Tryz.underlying3 H enc w base spare held n _ _ ((hf 2 _ rfl).trans hy2)
 have r2:rd false w ((cs.drop 2).take (Tryz.prog.cellsOf 3)) a2 All:=r2
 rw [show Tryz.prog.cellsOf 3=1 from by kernel_rfl] at r2
 have hz:rd false w (cs.drop 0) (a0,a1,a2) All:=ya9 r0 (ya9 r1 (rd_last_drop r2 zz13))
 exact ⟨⟨a0,a1,a2⟩,hz⟩
theorem rdb_Server:Rdb Server Tryz.prog 31:=by
 intro H enc w base spare held fuel cs x h
 obtain ⟨xs,n,rfl,_,hl,hlen,hf⟩:=DataW.trod_struct Tryz.underlying31 h
 have hl:cs.length=11:=hl.trans (by kernel_rfl)
 obtain ⟨y0,hy0⟩:∃ y,xs[0]? = some y:=⟨_,List.getElem?_eq_getElem zz43⟩
 obtain ⟨a0,r0⟩:=rdb_int Tryz.underlying3 H enc w base spare held n _ _ ((hf 0 _ rfl).trans hy0)
 have r0:rd false w ((cs.drop 0).take (Tryz.prog.cellsOf 3)) a0 All:=r0
 rw [show Tryz.prog.cellsOf 3=1 from by kernel_rfl] at r0
 obtain ⟨y1,hy1⟩:∃ y,xs[1]? = some y:=⟨_,List.getElem?_eq_getElem zz43⟩
 obtain ⟨a1,r1⟩:=rdb_int Tryz.underlying3 H enc w base spare held n _ _ ((hf 1 _ rfl).trans hy1)
 have r1:rd false w ((cs.drop 1).take (Tryz.prog.cellsOf 3)) a1 All:=r1
 rw [show Tryz.prog.cellsOf 3=1 from by kernel_rfl] at r1
 obtain ⟨y2,hy2⟩:∃ y,xs[2]? = some y:=⟨_,List.getElem?_eq_getElem zz43⟩
 obtain ⟨a2,r2⟩:=rdb_bool Tryz.underlying4 H enc w base spare held n _ _ ((hf 2 _ rfl).trans hy2)
 have r2:rd false w ((cs.drop 2).take (Tryz.prog.cellsOf 4)) a2 All:=r2
 rw [show Tryz.prog.cellsOf 4=1 from by kernel_rfl] at r2
 obtain ⟨y3,hy3⟩:∃ y,xs[3]? = some y:=⟨_,List.getElem?_eq_getElem zz43⟩
 obtain ⟨a3,r3⟩:=rdb_Disk H enc w base spare held n _ _ ((hf 3 _ rfl).trans hy3)
 have r3:rd false w ((cs.drop 3).take (Tryz.prog.cellsOf 24)) a3 All:=r3
 rw [show Tryz.prog.cellsOf 24=1 from by kernel_rfl] at r3
 obtain ⟨y4,hy4⟩:∃ y,xs[4]? = some y:=⟨_,List.getElem?_eq_getElem zz43⟩
 obtain ⟨a4,r4⟩:=rdb_int Tryz.underlying3 H enc w base spare held n _ _ ((hf 4 _ rfl).trans hy4)
 have r4:rd false w ((cs.drop 4).take (Tryz.prog.cellsOf 3)) a4 All:=r4
 rw [show Tryz.prog.cellsOf 3=1 from by kernel_rfl] at r4
 obtain ⟨y5,hy5⟩:∃ y,xs[5]? = some y:=⟨_,List.getElem?_eq_getElem zz43⟩
 obtain ⟨a5,r5⟩:=rdb_LeafSS H enc w base spare held n _ _ ((hf 5 _ rfl).trans hy5)
 have r5:rd false w ((cs.drop 5).take (Tryz.prog.cellsOf 25)) a5 All:=r5
 rw [show Tryz.prog.cellsOf 25=1 from by kernel_rfl] at r5
 obtain ⟨y6,hy6⟩:∃ y,xs[6]? = some y:=⟨_,List.getElem?_eq_getElem zz43⟩
 obtain ⟨a6,r6⟩:=rdb_IntS H enc w base spare held n _ _ ((hf 6 _ rfl).trans hy6)
 have r6:rd false w ((cs.drop 6).take (Tryz.prog.cellsOf 26)) a6 All:=r6
 rw [show Tryz.prog.cellsOf 26=1 from by kernel_rfl] at r6
 obtain ⟨y7,hy7⟩:∃ y,xs[7]? = some y:=⟨_,List.getElem?_eq_getElem zz43⟩
 obtain ⟨a7,r7⟩:=rdb_ChangeS H enc w base spare held n _ _ ((hf 7 _ rfl).trans hy7)
 have r7:rd false w ((cs.drop 7).take (Tryz.prog.cellsOf 27)) a7 All:=r7
 rw [show Tryz.prog.cellsOf 27=1 from by kernel_rfl] at r7
 obtain ⟨y8,hy8⟩:∃ y,xs[8]? = some y:=⟨_,List.getElem?_eq_getElem zz43⟩
 obtain ⟨a8,r8⟩:=rdb_Ready H enc w base spare held n _ _ ((hf 8 _ rfl).trans hy8)
 have r8:rd false w ((cs.drop 8).take (Tryz.prog.cellsOf 29)) a8 All:=r8
 rw [show Tryz.prog.cellsOf 29=3 from by kernel_rfl] at r8
 have hz:rd false w (cs.drop 0) (a0,a1,a2,a3,a4,a5,a6,a7,a8) All:=ya9 r0 (ya9 r1 (ya9 r2 (ya9 r3 (ya9 r4 (ya9 r5 (ya9 r6 (ya9 r7 (rd_last_drop r8 zz13))))))))
 exact ⟨⟨a0,a1,a2,a3,a4,a5,a6,a7,a8⟩,hz⟩
theorem rdb_ServerS:Rdb (List Server) Tryz.prog 281:=rdb_slice Tryz.underlying281 (by kernel_rfl) (rdb_Server)
theorem rdb_House:Rdb House Tryz.prog 283:=by
 intro H enc w base spare held fuel cs x h
 obtain ⟨xs,n,rfl,_,hl,hlen,hf⟩:=DataW.trod_struct Tryz.underlying283 h
 have hl:cs.length=14:=hl.trans (by kernel_rfl)
 obtain ⟨y0,hy0⟩:∃ y,xs[0]? = some y:=⟨_,List.getElem?_eq_getElem zz43⟩
 obtain ⟨a0,r0⟩:=rdb_Coord H enc w base spare held n _ _ ((hf 0 _ rfl).trans hy0)
 have r0:rd false w ((cs.drop 0).take (Tryz.prog.cellsOf 280)) a0 All:=r0
 rw [show Tryz.prog.cellsOf 280=11 from by kernel_rfl] at r0
 obtain ⟨y1,hy1⟩:∃ y,xs[1]? = some y:=⟨_,List.getElem?_eq_getElem zz43⟩
 obtain ⟨a1,r1⟩:=rdb_ServerS H enc w base spare held n _ _ ((hf 1 _ rfl).trans hy1)
 have r1:rd false w ((cs.drop 11).take (Tryz.prog.cellsOf 281)) a1 All:=r1
 rw [show Tryz.prog.cellsOf 281=1 from by kernel_rfl] at r1
 obtain ⟨y2,hy2⟩:∃ y,xs[2]? = some y:=⟨_,List.getElem?_eq_getElem zz43⟩
 obtain ⟨a2,r2⟩:=rdb_StringS H enc w base spare held n _ _ ((hf 2 _ rfl).trans hy2)
 have r2:rd false w ((cs.drop 12).take (Tryz.prog.cellsOf 34)) a2 All:=r2
 rw [show Tryz.prog.cellsOf 34=1 from by kernel_rfl] at r2
 obtain ⟨y3,hy3⟩:∃ y,xs[3]? = some y:=⟨_,List.getElem?_eq_getElem zz43⟩
 obtain ⟨a3,r3⟩:=rdb_IntS H enc w base spare held n _ _ ((hf 3 _ rfl).trans hy3)
 have r3:rd false w ((cs.drop 13).take (Tryz.prog.cellsOf 26)) a3 All:=r3
 rw [show Tryz.prog.cellsOf 26=1 from by kernel_rfl] at r3
 have hz:rd false w (cs.drop 0) (a0,a1,a2,a3) All:=ya9 r0 (ya9 r1 (ya9 r2 (rd_last_drop r3 zz13)))
 exact ⟨⟨a0,a1,a2,a3⟩,hz⟩
theorem rdb_Note:Rdb Note Tryz.prog 290:=by
 intro H enc w base spare held fuel cs x h
 obtain ⟨xs,n,rfl,_,hl,hlen,hf⟩:=DataW.trod_struct Tryz.underlying290 h
 have hl:cs.length=2:=hl.trans (by kernel_rfl)
 obtain ⟨y0,hy0⟩:∃ y,xs[0]? = some y:=⟨_,List.getElem?_eq_getElem zz43⟩
 obtain ⟨a0,r0⟩:=rdb_int Tryz.underlying3 H enc w base spare held n _ _ ((hf 0 _ rfl).trans hy0)
 have r0:rd false w ((cs.drop 0).take (Tryz.prog.cellsOf 3)) a0 All:=r0
 rw [show Tryz.prog.cellsOf 3=1 from by kernel_rfl] at r0
 obtain ⟨y1,hy1⟩:∃ y,xs[1]? = some y:=⟨_,List.getElem?_eq_getElem zz43⟩
 obtain ⟨a1,r1⟩:=rdb_str Tryz.underlying9 H enc w base spare held n _ _ ((hf 1 _ rfl).trans hy1)
 have r1:rd false w ((cs.drop 1).take (Tryz.prog.cellsOf 9)) a1 All:=r1
 rw [show Tryz.prog.cellsOf 9=1 from by kernel_rfl] at r1
 have hz:rd false w (cs.drop 0) (a0,a1) All:=ya9 r0 (rd_last_drop r1 zz13)
 exact ⟨⟨a0,a1⟩,hz⟩
theorem rdb_Trust:Rdb Trust Tryz.prog 54:=by
 intro H enc w base spare held fuel cs x h
 obtain ⟨xs,n,rfl,_,hl,hlen,hf⟩:=DataW.trod_struct Tryz.underlying54 h
 have hl:cs.length=3:=hl.trans (by kernel_rfl)
 obtain ⟨y0,hy0⟩:∃ y,xs[0]? = some y:=⟨_,List.getElem?_eq_getElem zz43⟩
 obtain ⟨a0,r0⟩:=rdb_StringS H enc w base spare held n _ _ ((hf 0 _ rfl).trans hy0)
 have r0:rd false w ((cs.drop 0).take (Tryz.prog.cellsOf 34)) a0 All:=r0
 rw [show Tryz.prog.cellsOf 34=1 from by kernel_rfl] at r0
 obtain ⟨y1,hy1⟩:∃ y,xs[1]? = some y:=⟨_,List.getElem?_eq_getElem zz43⟩
 obtain ⟨a1,r1⟩:=rdb_int Tryz.underlying3 H enc w base spare held n _ _ ((hf 1 _ rfl).trans hy1)
 have r1:rd false w ((cs.drop 1).take (Tryz.prog.cellsOf 3)) a1 All:=r1
 rw [show Tryz.prog.cellsOf 3=1 from by kernel_rfl] at r1
 obtain ⟨y2,hy2⟩:∃ y,xs[2]? = some y:=⟨_,List.getElem?_eq_getElem zz43⟩
 obtain ⟨a2,r2⟩:=rdb_int Tryz.underlying3 H enc w base spare held n _ _ ((hf 2 _ rfl).trans hy2)
 have r2:rd false w ((cs.drop 2).take (Tryz.prog.cellsOf 3)) a2 All:=r2
 rw [show Tryz.prog.cellsOf 3=1 from by kernel_rfl] at r2
 have hz:rd false w (cs.drop 0) (a0,a1,a2) All:=ya9 r0 (ya9 r1 (rd_last_drop r2 zz13))
 exact ⟨⟨a0,a1,a2⟩,hz⟩
theorem rdb_HouseS:Rdb (List House) Tryz.prog 117:=rdb_slice Tryz.underlying117 (by kernel_rfl) (rdb_House)
theorem rdb_AuditorS:Rdb (List Auditor) Tryz.prog 118:=rdb_slice Tryz.underlying118 (by kernel_rfl) (rdb_Auditor)
theorem rdb_NoteS:Rdb (List Note) Tryz.prog 119:=rdb_slice Tryz.underlying119 (by kernel_rfl) (rdb_Note)
theorem rdb_GivenS:Rdb (List Given) Tryz.prog 120:=rdb_slice Tryz.underlying120 (by kernel_rfl) (rdb_Given)
theorem rdb_Wrld:Rdb Wrld Tryz.prog 123:=by
 intro H enc w base spare held fuel cs x h
 obtain ⟨xs,n,rfl,_,hl,hlen,hf⟩:=DataW.trod_struct Tryz.underlying123 h
 have hl:cs.length=6:=hl.trans (by kernel_rfl)
 obtain ⟨y0,hy0⟩:∃ y,xs[0]? = some y:=⟨_,List.getElem?_eq_getElem zz43⟩
 obtain ⟨a0,r0⟩:=rdb_HouseS H enc w base spare held n _ _ ((hf 0 _ rfl).trans hy0)
 have r0:rd false w ((cs.drop 0).take (Tryz.prog.cellsOf 117)) a0 All:=r0
 rw [show Tryz.prog.cellsOf 117=1 from by kernel_rfl] at r0
 obtain ⟨y1,hy1⟩:∃ y,xs[1]? = some y:=⟨_,List.getElem?_eq_getElem zz43⟩
 obtain ⟨a1,r1⟩:=rdb_AuditorS H enc w base spare held n _ _ ((hf 1 _ rfl).trans hy1)
 have r1:rd false w ((cs.drop 1).take (Tryz.prog.cellsOf 118)) a1 All:=r1
 rw [show Tryz.prog.cellsOf 118=1 from by kernel_rfl] at r1
 obtain ⟨y2,hy2⟩:∃ y,xs[2]? = some y:=⟨_,List.getElem?_eq_getElem zz43⟩
 obtain ⟨a2,r2⟩:=rdb_NoteS H enc w base spare held n _ _ ((hf 2 _ rfl).trans hy2)
 have r2:rd false w ((cs.drop 2).take (Tryz.prog.cellsOf 119)) a2 All:=r2
 rw [show Tryz.prog.cellsOf 119=1 from by kernel_rfl] at r2
 obtain ⟨y3,hy3⟩:∃ y,xs[3]? = some y:=⟨_,List.getElem?_eq_getElem zz43⟩
 obtain ⟨a3,r3⟩:=rdb_GivenS H enc w base spare held n _ _ ((hf 3 _ rfl).trans hy3)
 have r3:rd false w ((cs.drop 3).take (Tryz.prog.cellsOf 120)) a3 All:=r3
 rw [show Tryz.prog.cellsOf 120=1 from by kernel_rfl] at r3
 obtain ⟨y4,hy4⟩:∃ y,xs[4]? = some y:=⟨_,List.getElem?_eq_getElem zz43⟩
 obtain ⟨a4,r4⟩:=rdb_BoolS H enc w base spare held n _ _ ((hf 4 _ rfl).trans hy4)
 have r4:rd false w ((cs.drop 4).take (Tryz.prog.cellsOf 121)) a4 All:=r4
 rw [show Tryz.prog.cellsOf 121=1 from by kernel_rfl] at r4
 obtain ⟨y5,hy5⟩:∃ y,xs[5]? = some y:=⟨_,List.getElem?_eq_getElem zz43⟩
 obtain ⟨a5,r5⟩:=rdb_IntS H enc w base spare held n _ _ ((hf 5 _ rfl).trans hy5)
 have r5:rd false w ((cs.drop 5).take (Tryz.prog.cellsOf 26)) a5 All:=r5
 rw [show Tryz.prog.cellsOf 26=1 from by kernel_rfl] at r5
 have hz:rd false w (cs.drop 0) (a0,a1,a2,a3,a4,a5) All:=ya9 r0 (ya9 r1 (ya9 r2 (ya9 r3 (ya9 r4 (rd_last_drop r5 zz13)))))
 exact ⟨⟨a0,a1,a2,a3,a4,a5⟩,hz⟩
end Go.Proofs.YtcbbjfafmmcfiaaGreatDoor
