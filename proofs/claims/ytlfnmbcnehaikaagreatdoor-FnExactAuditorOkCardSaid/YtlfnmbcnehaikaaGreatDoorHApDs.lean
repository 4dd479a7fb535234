/- A part of the proof. -/
import Derived.Test.YtlfnmbcnehaikaaGreatDoorHApL14xDg
set_option linter.unusedVariables false
set_option linter.unusedSimpArgs false
set_option maxRecDepth 100000
set_option maxHeartbeats 8000000
namespace Go.Proofs.YtlfnmbcnehaikaaGreatDoor
open Go.RowKit Lay Mk
def barr (l : List UInt8) : Array Value:=(l.map u8c).toArray
def BA (w : World) (b : Nat) (l : List UInt8) : Prop:=w.heap[b]? = some (.cells (barr l) 5 (0,0))
theorem BA.cell {w : World} {b : Nat} {l : List UInt8} (h : BA w b l) {i : Nat} (hi : i < l.length) : w.cell? ⟨b,i,none⟩ = some (.int .u8 l[i].toNat):=by
 rw [cell_of_row w b i _ _ (0,0) h]; simp [barr,u8c,hi]
theorem BA.lt {w : World} {b : Nat} {l : List UInt8} (h : BA w b l) : b < w.heap.size:=heap_lt h
theorem BA.frozen {w : World} {b : Nat} {l : List UInt8} (h : BA w b l) (o : Nat) : w.frozen? ⟨b,o,none⟩ = false:=frozen_of_row w b o _ _ h
theorem BA.setv {w : World} {b : Nat} {l : List UInt8} (h : BA w b l) (i : Nat) (x : UInt8) {z : Int} (hz : z = (x.toNat : Int)) : BA (w.setCell ⟨b,i,none⟩ (.int .u8 z)) b (l.set i x):=by
 subst hz
 unfold BA at *
 simp only [World.setCell,Array.getElem?_modify,h]
 simp only [if_true,Option.map_some,Option.some.injEq]
 simp [barr,u8c,List.map_set]
theorem BA.at_ {w : World} {b : Nat} {l : List UInt8} (h : BA w b l) : At w b 0 (l.map u8c):=fun j u hu => by
 rw [Nat.zero_add,cell_of_row w b j _ _ (0,0) h]; simpa [barr] using hu
theorem u8i {n : Nat} {z : Int} (h : z = (n : Int) % 256) : z = ((UInt8.ofNat n).toNat : Int):=by rw [UInt8.toNat_ofNat']; omega
section
variable {P : Program} {ops : Array Oper} {rest : List Oper} {o : Oper} {a : Act} {Q : Act → Prop} {w : World}
theorem wpStill_loadArr (hw : Region.wanted o (yielded ops a.tmps) = true) (t : TypeId) (x : Operand) (ho : o.op = .load t x) {g et e : Nat} {l : List Int} {n : Nat} (hx : a.eval x = .pointer (some ⟨g,0,none⟩)) (hA : Arr w g et l)
  (hu : P.underlying t = some (.array n e)) (hi : (P.info? t).map (·.size) = some l.length)
  (h : wpStill P ops w Q rest (a.put o.dst (.agg (arr l)))) : wpStill P ops w Q (o :: rest) a:=by
 refine wpStill_step fun K hK => ?_
 rw [if_pos hw]
 have hr:=run_loadVar_row w g et t (arr l) (0,0) _ hA hu rfl (by rw [arr_size]; exact hi)
 unfold Oper.still execOp
 simp only [ho,hx,Instr.loadAt,Instr.sureAddr,Sem.run_bind,Sem.run_pure,Result.andThen_ok,hr,Oper.stillUpon]
 exact ⟨trivial,hK _ h⟩
end
theorem spec_Digest (w : World) (t : ByteArray) (ht : t.size ≤ 100000000) : Calls Tryz.prog 205 #[.string t] w fun e w' => e = .returned (.string (digest t)) ∧ Below w.heap.size w w':=by
 have hp:=pad_size t
 have hm:=pad_mod t
 have HD : Hid (digest t = bs (dig32 (digS t))):=zd rfl
 have HS : Hid (digS t = shaRun ((pad t).size / 64) shaFirst (pad t)):=zd rfl
 obtain ⟨D,hD⟩ : ∃ D,digS t = D:=⟨_,rfl⟩
 rw [hD] at HD HS
 clear hD
 go_enter Tryz.func205,Tryz.ntmps205
 go_wp2_with (fail)
 refine (spec_l03First _).mono ?_
 rintro e1 w1 ⟨rfl,hb1⟩
 go_wp2_with (refine wpList_newArr (l':=shaFirst.l) rfl 204 _ _ rfl rfl rfl rfl rfl (by kernel_rfl) ?_)
 have hz1:=hb1.size
 have A3 : Arr (w1.alloc (.cells (arr shaFirst.l) 204)) w1.heap.size 204 shaFirst.l:=Arr.new w1 _ _
 have hB:=hb1.alloc hz1 (.cells (arr shaFirst.l) 204)
 have hl1 : w.heap.size ≤ w1.heap.size:=hz1
 have hlt1 : w1.heap.size < (w1.alloc (.cells (arr shaFirst.l) 204)).heap.size:=zz17
 clear hb1
 obtain ⟨B3,hB3⟩ : ∃ b,w1.heap.size = b:=⟨_,rfl⟩
 rw [hB3] at A3 hl1 hlt1 ⊢
 generalize w1.alloc _ = v1 at A3 hB hlt1 ⊢
 clear hB3 hz1 w1
 refine (spec_l03Keys _).mono ?_
 rintro e2 w2 ⟨rfl,hb2⟩
 replace A3:=A3.keep (hb2.block _ hlt1)
 replace hB:=hB.trans (hb2.mono hB.size)
 have hz2:=hb2.size
 have hl2 : B3 < w2.heap.size:=zz4
 clear hb2
 go_wp2_with (refine wpList_newArr (l':=shaKeys) rfl 211 _ _ rfl rfl rfl rfl rfl (by kernel_rfl) ?_)
 have AK : Arr (w2.alloc (.cells (arr shaKeys) 211)) w2.heap.size 211 shaKeys:=Arr.new w2 _ _
 replace A3:=A3.alloc (.cells (arr shaKeys) 211)
 replace hB:=hB.alloc hB.size (.cells (arr shaKeys) 211)
 have hlt2 : w2.heap.size < (w2.alloc (.cells (arr shaKeys) 211)).heap.size:=zz17
 obtain ⟨B4,hB4⟩ : ∃ b,w2.heap.size = b:=⟨_,rfl⟩
 rw [hB4] at AK hl2 hlt2 ⊢
 generalize w2.alloc _ = v2 at A3 hB hlt2 AK ⊢
 clear hB4 hz2 hlt1 v1
 refine (spec_PadText _ t ht).mono ?_
 rintro e3 w3 ⟨rfl,hb3⟩
 replace A3:=A3.keep (hb3.block _ A3.lt)
 replace AK:=AK.keep (hb3.block _ AK.lt)
 replace hB:=hB.trans (hb3.mono hB.size)
 have hl4 : w.heap.size ≤ B4:=zz4
 clear hb3 hlt2
 obtain ⟨P,hP⟩ : ∃ P,pad t = P:=⟨_,rfl⟩
 rw [hP] at hp hm HS ⊢
 clear hP
 have hPz : P.size = 64 * (0 + P.size / 64):=zz4
 have hPs : P.size ≤ 100000073:=by have:=hp; unfold padZ at this; omega
 clear hp hm
 have HPZ:=zd hPz; clear hPz
 have HS0 : Hid (D = shaRun (P.size / 64) shaFirst (P.extract (64 * 0) P.size)):=zd (by rw [HS.out]; congr 1; exact (ByteArray.extract_zero_size).symm)
 have h34 : B3 ≠ B4:=zz4
 go_wp2
 go_loopw [6] (fun i wr => ∃ (n k : Nat) (s : S8),i = .int .i64 (64 * (k : Int)) ∧ s.Ok ∧ Hid (P.size = 64 * (k + n)) ∧ Hid (D = shaRun n s (P.extract (64 * k) P.size)) ∧ Arr wr B3 204 s.l ∧ Arr wr B4 211 shaKeys ∧ Below w.heap.size w wr) (fun i _ => P.size - (intOf i).toNat)
 case atStart => exact ⟨P.size / 64,0,shaFirst,zz17,first_ok,HPZ,HS0,A3,AK,hB⟩
 case round =>
  clear A3 AK hB HPZ HS0 HS
  obtain ⟨n,k,s,rfl,hs,hr,hrun,A3,AK,hB⟩:=hrel
  have hz:=hB.size
  have hl:=A3.lt
  have hlk:=AK.lt
  cases n with
  | zero =>
   have hge : ¬ 64 * (k : Int) < (P.size : Int):=by have:=hr.out; omega
   have HE : Hid (D = s):=zd hrun.out
   clear hrun hr
   have hmk : ∀ W : World,(Instr.makeSlice 140 (.int .i64 32) (.int .i64 32)).run Tryz.prog W = .ok (.slice (some ⟨W.heap.size,0,none⟩) 32 32) (W.alloc (.cells (barr (List.replicate 32 0)) 5)):=fun _ => by kernel_rfl
   go_wp2
   obtain ⟨Bo,hBo⟩ : ∃ b,wr.heap.size = b:=⟨_,rfl⟩
   have BO : BA (wr.alloc (.cells (barr [0,0,0,0,0,0,0,0,0,0,0,0,0,0,0,0,0,0,0,0,0,0,0,0,0,0,0,0,0,0,0,0]) 5)) Bo ((dig32 s).take (4 * 0) ++ List.replicate (32 - 4 * 0) 0):=by rw [← hBo]; exact heap_alloc_new wr _
   replace A3:=A3.alloc (.cells (barr [0,0,0,0,0,0,0,0,0,0,0,0,0,0,0,0,0,0,0,0,0,0,0,0,0,0,0,0,0,0,0,0]) 5)
   replace hB:=hB.alloc hz (.cells (barr [0,0,0,0,0,0,0,0,0,0,0,0,0,0,0,0,0,0,0,0,0,0,0,0,0,0,0,0,0,0,0,0]) 5)
   have hne : ¬ B3 = Bo:=zz4
   have hne2 : ¬ Bo = B3:=zz4
   have hge2 : w.heap.size ≤ Bo:=zz4
   rw [hBo]
   generalize wr.alloc _ = v3 at A3 hB BO ⊢
   clear hBo hl hlk AK hz
   obtain ⟨sa,sb,sc,sd,se,sf,sg,sh⟩:=s
   go_loopw [8] (fun i wr => ∃ (k : Nat),k ≤ 8 ∧ i = .int .i64 k ∧ Arr wr B3 204 (S8.l ⟨sa,sb,sc,sd,se,sf,sg,sh⟩) ∧ BA wr Bo ((dig32 ⟨sa,sb,sc,sd,se,sf,sg,sh⟩).take (4 * k) ++ List.replicate (32 - 4 * k) 0) ∧ Below w.heap.size w wr) (fun i _ => 8 - (intOf i).toNat)
   case atStart => exact ⟨0,zz4,rfl,A3,BO,hB⟩
   case round =>
    clear A3 BO hB
    obtain ⟨k,hk,rfl,A3,BO,hB⟩:=hrel
    by_cases hlt : k < 8
    ·rcases (show k = 0 ∨ k = 1 ∨ k = 2 ∨ k = 3 ∨ k = 4 ∨ k = 5 ∨ k = 6 ∨ k = 7 by omega) with rfl | rfl | rfl | rfl | rfl | rfl | rfl | rfl
     ·have cx : wr.cell? ⟨B3,0,none⟩ = some (.int .u32 sa):=by have:=A3.at_ (i:=0) zz56; simpa [S8.l] using this
      have hw : W32 sa:=hs.a
      obtain ⟨hw0,hw1⟩:=hw
      obtain ⟨x,rfl⟩ : ∃ n : Nat,sa = n:=⟨Int.toNat _,(Int.toNat_of_nonneg hw0).symm⟩
      have hx4 : x < 4294967296:=zz4
      have b0:=BO.cell (i:=0) zz43
      have b1:=BO.cell (i:=0 + 1) zz43
      have b2:=BO.cell (i:=0 + 2) zz43
      have b3:=BO.cell (i:=0 + 3) zz43
      simp only [List.getElem_cons_zero,List.getElem_cons_succ,Nat.reduceAdd] at b0 b1 b2 b3
      have bf:=fun o => BO.frozen o
      clear hw0 hw1
      go_wp2
      go_roundw
      case rel =>
       refine ⟨0 + 1,zz4,zz17,(((A3.setO (show B3 ≠ Bo from hne) _).setO (show B3 ≠ Bo from hne) _).setO (show B3 ≠ Bo from hne) _).setO (show B3 ≠ Bo from hne) _,?_,(((hB.setCell hge2 _).setCell hge2 _).setCell hge2 _).setCell hge2 _⟩
       exact (((BO.setv 0 (UInt8.ofNat (x / 16777216)) (u8i zz4)).setv (0 + 1) (UInt8.ofNat (x / 65536)) (u8i zz4)).setv (0 + 2) (UInt8.ofNat (x / 256)) (u8i zz4)).setv (0 + 3) (UInt8.ofNat x) (u8i zz4)
      case measure => simp [intOf]
     ·have cx : wr.cell? ⟨B3,1,none⟩ = some (.int .u32 sb):=by have:=A3.at_ (i:=1) zz56; simpa [S8.l] using this
      have hw : W32 sb:=hs.b
      obtain ⟨hw0,hw1⟩:=hw
      obtain ⟨x,rfl⟩ : ∃ n : Nat,sb = n:=⟨Int.toNat _,(Int.toNat_of_nonneg hw0).symm⟩
      have hx4 : x < 4294967296:=zz4
      have b0:=BO.cell (i:=4) zz43
      have b1:=BO.cell (i:=4 + 1) zz43
      have b2:=BO.cell (i:=4 + 2) zz43
      have b3:=BO.cell (i:=4 + 3) zz43
      simp only [List.getElem_cons_zero,List.getElem_cons_succ,Nat.reduceAdd] at b0 b1 b2 b3
      have bf:=fun o => BO.frozen o
      clear hw0 hw1
      go_wp2
      go_roundw
      case rel =>
       refine ⟨1 + 1,zz4,zz17,(((A3.setO (show B3 ≠ Bo from hne) _).setO (show B3 ≠ Bo from hne) _).setO (show B3 ≠ Bo from hne) _).setO (show B3 ≠ Bo from hne) _,?_,(((hB.setCell hge2 _).setCell hge2 _).setCell hge2 _).setCell hge2 _⟩
       exact (((BO.setv 4 (UInt8.ofNat (x / 16777216)) (u8i zz4)).setv (4 + 1) (UInt8.ofNat (x / 65536)) (u8i zz4)).setv (4 + 2) (UInt8.ofNat (x / 256)) (u8i zz4)).setv (4 + 3) (UInt8.ofNat x) (u8i zz4)
      case measure => simp [intOf]
     ·have cx : wr.cell? ⟨B3,2,none⟩ = some (.int .u32 sc):=by have:=A3.at_ (i:=2) zz56; simpa [S8.l] using this
      have hw : W32 sc:=hs.c
      obtain ⟨hw0,hw1⟩:=hw
      obtain ⟨x,rfl⟩ : ∃ n : Nat,sc = n:=⟨Int.toNat _,(Int.toNat_of_nonneg hw0).symm⟩
      have hx4 : x < 4294967296:=zz4
      have b0:=BO.cell (i:=8) zz43
      have b1:=BO.cell (i:=8 + 1) zz43
      have b2:=BO.cell (i:=8 + 2) zz43
      have b3:=BO.cell (i:=8 + 3) zz43
      simp only [List.getElem_cons_zero,List.getElem_cons_succ,Nat.reduceAdd] at b0 b1 b2 b3
      have bf:=fun o => BO.frozen o
      clear hw0 hw1
      go_wp2
      go_roundw
      case rel =>
       refine ⟨2 + 1,zz4,zz17,(((A3.setO (show B3 ≠ Bo from hne) _).setO (show B3 ≠ Bo from hne) _).setO (show B3 ≠ Bo from hne) _).setO (show B3 ≠ Bo from hne) _,?_,(((hB.setCell hge2 _).setCell hge2 _).setCell hge2 _).setCell hge2 _⟩
       exact (((BO.setv 8 (UInt8.ofNat (x / 16777216)) (u8i zz4)).setv (8 + 1) (UInt8.ofNat (x / 65536)) (u8i zz4)).setv (8 + 2) (UInt8.ofNat (x / 256)) (u8i zz4)).setv (8 + 3) (UInt8.ofNat x) (u8i zz4)
      case measure => simp [intOf]
     ·have cx : wr.cell? ⟨B3,3,none⟩ = some (.int .u32 sd):=by have:=A3.at_ (i:=3) zz56; simpa [S8.l] using this
      have hw : W32 sd:=hs.d
      obtain ⟨hw0,hw1⟩:=hw
      obtain ⟨x,rfl⟩ : ∃ n : Nat,sd = n:=⟨Int.toNat _,(Int.toNat_of_nonneg hw0).symm⟩
      have hx4 : x < 4294967296:=zz4
      have b0:=BO.cell (i:=12) zz43
      have b1:=BO.cell (i:=12 + 1) zz43
      have b2:=BO.cell (i:=12 + 2) zz43
      have b3:=BO.cell (i:=12 + 3) zz43
      simp only [List.getElem_cons_zero,List.getElem_cons_succ,Nat.reduceAdd] at b0 b1 b2 b3
      have bf:=fun o => BO.frozen o
      clear hw0 hw1
      go_wp2
      go_roundw
      case rel =>
       refine ⟨3 + 1,zz4,zz17,(((A3.setO (show B3 ≠ Bo from hne) _).setO (show B3 ≠ Bo from hne) _).setO (show B3 ≠ Bo from hne) _).setO (show B3 ≠ Bo from hne) _,?_,(((hB.setCell hge2 _).setCell hge2 _).setCell hge2 _).setCell hge2 _⟩
       exact (((BO.setv 12 (UInt8.ofNat (x / 16777216)) (u8i zz4)).setv (12 + 1) (UInt8.ofNat (x / 65536)) (u8i zz4)).setv (12 + 2) (UInt8.ofNat (x / 256)) (u8i zz4)).setv (12 + 3) (UInt8.ofNat x) (u8i zz4)
      case measure => simp [intOf]
     ·have cx : wr.cell? ⟨B3,4,none⟩ = some (.int .u32 se):=by have:=A3.at_ (i:=4) zz56; simpa [S8.l] using this
      have hw : W32 se:=hs.e
      obtain ⟨hw0,hw1⟩:=hw
      obtain ⟨x,rfl⟩ : ∃ n : Nat,se = n:=⟨Int.toNat _,(Int.toNat_of_nonneg hw0).symm⟩
      have hx4 : x < 4294967296:=zz4
      have b0:=BO.cell (i:=16) zz43
      have b1:=BO.cell (i:=16 + 1) zz43
      have b2:=BO.cell (i:=16 + 2) zz43
      have b3:=BO.cell (i:=16 + 3) zz43
      simp only [List.getElem_cons_zero,List.getElem_cons_succ,Nat.reduceAdd] at b0 b1 b2 b3
      have bf:=fun o => BO.frozen o
      clear hw0 hw1
      go_wp2
      go_roundw
      case rel =>
       refine ⟨4 + 1,zz4,zz17,(((A3.setO (show B3 ≠ Bo from hne) _).setO (show B3 ≠ Bo from hne) _).setO (show B3 ≠ Bo from hne) _).setO (show B3 ≠ Bo from hne) _,?_,(((hB.setCell hge2 _).setCell hge2 _).setCell hge2 _).setCell hge2 _⟩
       exact (((BO.setv 16 (UInt8.ofNat (x / 16777216)) (u8i zz4)).setv (16 + 1) (UInt8.ofNat (x / 65536)) (u8i zz4)).setv (16 + 2) (UInt8.ofNat (x / 256)) (u8i zz4)).setv (16 + 3) (UInt8.ofNat x) (u8i zz4)
      case measure => simp [intOf]
     ·have cx : wr.cell? ⟨B3,5,none⟩ = some (.int .u32 sf):=by have:=A3.at_ (i:=5) zz56; simpa [S8.l] using this
      have hw : W32 sf:=hs.f
      obtain ⟨hw0,hw1⟩:=hw
      obtain ⟨x,rfl⟩ : ∃ n : Nat,sf = n:=⟨Int.toNat _,(Int.toNat_of_nonneg hw0).symm⟩
      have hx4 : x < 4294967296:=zz4
      have b0:=BO.cell (i:=20) zz43
      have b1:=BO.cell (i:=20 + 1) zz43
      have b2:=BO.cell (i:=20 + 2) zz43
      have b3:=BO.cell (i:=20 + 3) zz43
      simp only [List.getElem_cons_zero,List.getElem_cons_succ,Nat.reduceAdd] at b0 b1 b2 b3
      have bf:=fun o => BO.frozen o
      clear hw0 hw1
      go_wp2
      go_roundw
      case rel =>
       refine ⟨5 + 1,zz4,zz17,(((A3.setO (show B3 ≠ Bo from hne) _).setO (show B3 ≠ Bo from hne) _).setO (show B3 ≠ Bo from hne) _).setO (show B3 ≠ Bo from hne) _,?_,(((hB.setCell hge2 _).setCell hge2 _).setCell hge2 _).setCell hge2 _⟩
       exact (((BO.setv 20 (UInt8.ofNat (x / 16777216)) (u8i zz4)).setv (20 + 1) (UInt8.ofNat (x / 65536)) (u8i zz4)).setv (20 + 2) (UInt8.ofNat (x / 256)) (u8i zz4)).setv (20 + 3) (UInt8.ofNat x) (u8i zz4)
      case measure => simp [intOf]
     ·have cx : wr.cell? ⟨B3,6,none⟩ = some (.int .u32 sg):=by have:=A3.at_ (i:=6) zz56; simpa [S8.l] using this
      have hw : W32 sg:=hs.g
      obtain ⟨hw0,hw1⟩:=hw
      obtain ⟨x,rfl⟩ : ∃ n : Nat,sg = n:=⟨Int.toNat _,(Int.toNat_of_nonneg hw0).symm⟩
      have hx4 : x < 4294967296:=zz4
      have b0:=BO.cell (i:=24) zz43
      have b1:=BO.cell (i:=24 + 1) zz43
      have b2:=BO.cell (i:=24 + 2) zz43
      have b3:=BO.cell (i:=24 + 3) zz43
      simp only [List.getElem_cons_zero,List.getElem_cons_succ,Nat.reduceAdd] at b0 b1 b2 b3
      have bf:=fun o => BO.frozen o
      clear hw0 hw1
      go_wp2
      go_roundw
      case rel =>
       refine ⟨6 + 1,zz4,zz17,(((A3.setO (show B3 ≠ Bo from hne) _).setO (show B3 ≠ Bo from hne) _).setO (show B3 ≠ Bo from hne) _).setO (show B3 ≠ Bo from hne) _,?_,(((hB.setCell hge2 _).setCell hge2 _).setCell hge2 _).setCell hge2 _⟩
       exact (((BO.setv 24 (UInt8.ofNat (x / 16777216)) (u8i zz4)).setv (24 + 1) (UInt8.ofNat (x / 65536)) (u8i zz4)).setv (24 + 2) (UInt8.ofNat (x / 256)) (u8i zz4)).setv (24 + 3) (UInt8.ofNat x) (u8i zz4)
      case measure => simp [intOf]
     ·have cx : wr.cell? ⟨B3,7,none⟩ = some (.int .u32 sh):=by have:=A3.at_ (i:=7) zz56; simpa [S8.l] using this
      have hw : W32 sh:=hs.h
      obtain ⟨hw0,hw1⟩:=hw
      obtain ⟨x,rfl⟩ : ∃ n : Nat,sh = n:=⟨Int.toNat _,(Int.toNat_of_nonneg hw0).symm⟩
      have hx4 : x < 4294967296:=zz4
      have b0:=BO.cell (i:=28) zz43
      have b1:=BO.cell (i:=28 + 1) zz43
      have b2:=BO.cell (i:=28 + 2) zz43
      have b3:=BO.cell (i:=28 + 3) zz43
      simp only [List.getElem_cons_zero,List.getElem_cons_succ,Nat.reduceAdd] at b0 b1 b2 b3
      have bf:=fun o => BO.frozen o
      clear hw0 hw1
      go_wp2
      go_roundw
      case rel =>
       refine ⟨7 + 1,zz4,zz17,(((A3.setO (show B3 ≠ Bo from hne) _).setO (show B3 ≠ Bo from hne) _).setO (show B3 ≠ Bo from hne) _).setO (show B3 ≠ Bo from hne) _,?_,(((hB.setCell hge2 _).setCell hge2 _).setCell hge2 _).setCell hge2 _⟩
       exact (((BO.setv 28 (UInt8.ofNat (x / 16777216)) (u8i zz4)).setv (28 + 1) (UInt8.ofNat (x / 65536)) (u8i zz4)).setv (28 + 2) (UInt8.ofNat (x / 256)) (u8i zz4)).setv (28 + 3) (UInt8.ofNat x) (u8i zz4)
      case measure => simp [intOf]
    ·have hke : k = 8:=by omega
     subst hke
     clear hlt hk
     go_wp2_with (refine wpList_bytesAt rfl _ rfl Tryz.underlying5 Tryz.underlying9 (dig32 ⟨sa,sb,sc,sd,se,sf,sg,sh⟩) rfl rfl BO.at_ ?_)
     go_ret
     exact ⟨by rw [HD.out,HE.out]; rfl,hB⟩
  | succ n =>
   have hPk : 64 * k + 64 ≤ P.size:=by have:=hr.out; omega
   have hlt : 64 * (k : Int) < (P.size : Int):=zz4
   have hm : Hid (D = shaRun n (comp s (P.extract (64 * k) (64 * k + 64))) (P.extract (64 * (k + 1)) P.size)):=zd (by rw [hrun.out]; show shaRun n (comp s ((P.extract (64 * k) P.size).extract 0 64)) ((P.extract (64 * k) P.size).extract 64 (P.extract (64 * k) P.size).size) = _; rw [ext_head P k hPk,ext_tail P k hPk])
   have HX1 : Hid ((P.extract (64 * k) (64 * k + 64)).size = 64):=zd zz52
   have hr2 : Hid (P.size = 64 * (k + 1 + n)):=zd (by have:=hr.out; omega)
   have hok':=comp_ok s (P.extract (64 * k) (64 * k + 64))
   clear hrun hr
   have e1 : IntKind.i64.wrap (64 * (k : Int) + 64) = 64 * (k : Int) + 64:=IntWalk.i64_in _ zz4
   have n1 : (64 * (k : Int) + 64).toNat = 64 * k + 64:=zz4
   have n0 : (64 * (k : Int)).toNat = 64 * k:=zz4
   have m0 : 0 ≤ 64 * (k : Int):=zz4
   have m1 : 0 ≤ 64 * (k : Int) + 64:=zz4
   have l1 : 64 * (k : Int) + 64 ≤ (P.size : Int):=zz4
   have l0 : 64 * (k : Int) ≤ 64 * (k : Int) + 64:=zz4
   go_wp2
   refine still_tail 7 (by kernel_rfl) (by kernel_rfl) ?_
   simp only [List.take_succ_cons,List.take_zero,List.drop_succ_cons,List.drop_zero]
   refine wpStill_loadArr zz22 _ _ rfl rfl A3.drew Tryz.underlying204 (by kernel_rfl) ?_
   simp only [Act.put,List.setIfInBounds_toArray,List.set_cons_zero,List.set_cons_succ]
   repeat still_step
   refine wpStill_loadArr zz22 _ _ rfl rfl AK.drew Tryz.underlying211 (by kernel_rfl) ?_
   simp only [Act.put,List.setIfInBounds_toArray,List.set_cons_zero,List.set_cons_succ]
   refine wpStill_nil ?_
   clear e1 n1 n0 m0 m1 l1 l0
   go_wp2_with (fail)
   refine (spec_l03Block _ s hs (P.extract (64 * k) (64 * k + 64)) HX1.out).mono ?_
   rintro e4 w4 ⟨rfl,hb4⟩
   replace A3:=A3.keep (hb4.block _ hl)
   replace AK:=AK.keep (hb4.block _ hlk)
   have hB2 : Below w.heap.size w w4:=hB.drew.trans (hb4.mono hz)
   go_wp2_with (refine wpList_storeArr (l':=(comp s (P.extract (64 * k) (64 * k + 64))).l) rfl _ _ _ rfl rfl rfl A3 rfl (by kernel_rfl) ?_; intro w5 A4 hch)
   go_roundw
   case rel => exact ⟨n,k + 1,comp s (P.extract (64 * k) (64 * k + 64)),by rw [show (64 * ((k + 1 : Nat) : Int)) = 64 * (k : Int) + 64 from by omega],hok',hr2,hm,A4,AK.keep (hch.block B4 AK.lt (fun e => h34 e.symm)),hB2.trans (hch.to_below hB2.size (fun b hb => zz4))⟩
   case measure => simp [intOf]; omega
end Go.Proofs.YtlfnmbcnehaikaaGreatDoor
