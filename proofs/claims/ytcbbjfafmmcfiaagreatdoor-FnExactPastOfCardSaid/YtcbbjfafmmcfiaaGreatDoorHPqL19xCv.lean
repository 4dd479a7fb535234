/- A part of the proof. -/
import Derived.Test.YtcbbjfafmmcfiaaGreatDoorHPqL18xTk
set_option linter.unusedVariables false
set_option linter.unusedSimpArgs false
set_option maxRecDepth 20000
set_option maxHeartbeats 8000000
namespace Go.Proofs.YtcbbjfafmmcfiaaGreatDoor
open Go.RowKit Lay Mk
def manyK (k:Int):Nat:=if inB k 0 2=true then 2 ^ k.toNat else 0
def canMv (h:House):Bool:=inB h.coord.k 0 2 && decide (h.servers.length=manyK h.coord.k)
theorem spec_l19Many (w:World) (k:Int):Calls Tryz.prog 210 #[.int .i64 k] w fun e w' => e = .returned (.int .i64 ((manyK k:Nat):Int))∧w=w':=by
 have HSP:=zd (fun W => spec_in k 0 2 W)
 cases hk:inB k 0 2 <;> rw [hk] at HSP
 ·have HE:Hid (manyK k=0):=zd (by unfold manyK; rw [hk]; rfl)
  clear hk
  go_enter Tryz.func210,Tryz.ntmps210
  go_wp2_with (fail)
  refine (HSP.out _).mono ?_
  rintro e1 w1 ⟨rfl,rfl⟩
  go_wp2
  go_ret
  exact ⟨ret_int (by rw [HE.out]; rfl),rfl⟩
 ·have hk2:0≤k∧k≤2:=by simpa [inB] using hk
  clear hk
  rcases (show k=0∨k=1∨k=2 by omega) with rfl | rfl | rfl
  ·clear hk2
   go_enter Tryz.func210,Tryz.ntmps210
   go_wp2_with (fail)
   refine (HSP.out _).mono ?_
   rintro e1 w1 ⟨rfl,rfl⟩
   go_wp2
   go_ret
   exact ⟨rfl,rfl⟩
  ·clear hk2
   go_enter Tryz.func210,Tryz.ntmps210
   go_wp2_with (fail)
   refine (HSP.out _).mono ?_
   rintro e1 w1 ⟨rfl,rfl⟩
   go_wp2
   go_ret
   exact ⟨rfl,rfl⟩
  ·clear hk2
   go_enter Tryz.func210,Tryz.ntmps210
   go_wp2_with (fail)
   refine (HSP.out _).mono ?_
   rintro e1 w1 ⟨rfl,rfl⟩
   go_wp2
   go_ret
   exact ⟨rfl,rfl⟩
theorem impl_canMove (w:World) (h:House) (cs:List Value) (S:Blks) (hx:rd false w cs h S) (hl:h.servers.length≤1048576):Calls Tryz.prog 136 #[.agg cs.toArray] w fun e w' => e = .returned (.bool (canMv h))∧Below w.heap.size w w':=by
 obtain ⟨H0,g0,T0,H1,g1,T1,H2,g2,T2,H3,g3,T3,H4,g4,T4,H5,g5,T5,H6,g6,T6,H7,g7,T7,H8,g8,T8,rfl, -⟩:=House.open hx
 clear hx
 simp only [House.cs]
 have HF:Hid (canMv h=(inB h.coord.k 0 2 && decide (h.servers.length=manyK h.coord.k))):=zd rfl
 obtain ⟨R,hR⟩:∃ R,canMv h=R:=⟨_,rfl⟩
 rw [hR] at HF ⊢
 clear hR
 obtain ⟨kk,hkk⟩:∃ k,h.coord.k=k:=⟨_,rfl⟩
 obtain ⟨sn,hsn⟩:∃ n,h.servers.length=n:=⟨_,rfl⟩
 simp only [hkk,hsn] at HF hl ⊢
 clear hkk hsn
 have hWd:∀ W,W=w.alloc (.cells #[.int .i64 h.coord.house,.int .i64 kk,.bool h.coord.up,.slice H0 h.coord.disk.files.length g0,.slice H1 h.coord.pool.length g1,.slice H2 h.coord.seals.length g2,.slice H3 h.coord.tries.length g3,.int .i64 h.coord.try_,.bool h.coord.asking,.slice H4 h.coord.votes.length g4,.slice H5 h.coord.dones.length g5,.slice H6 sn g6,.slice H7 h.net.length g7,.slice H8 h.codes.length g8] 205)→Below w.heap.size w W∧W.cell? ⟨w.heap.size,1,none⟩=some (.int .i64 kk)∧W.cell? ⟨w.heap.size,11,none⟩=some (.slice H6 sn g6):=by
  rintro W rfl
  exact ⟨(Below.refl _ _).alloc (Nat.le_refl _) _,yaa _ _ _ _ _ rfl,yaa _ _ _ _ _ rfl⟩
 have HSP:=zd (fun W => impl_isSplit kk W)
 cases hk:inB kk 0 2 <;> rw [hk] at HSP
 ·have HE:Hid (R=false):=zd (by rw [HF.out,hk]; rfl)
  clear hk
  go_enter Tryz.func136,Tryz.ntmps136
  go_wp2_with (fail)
  obtain ⟨W,hW⟩:∃ W,w.alloc (.cells #[.int .i64 h.coord.house,.int .i64 kk,.bool h.coord.up,.slice H0 h.coord.disk.files.length g0,.slice H1 h.coord.pool.length g1,.slice H2 h.coord.seals.length g2,.slice H3 h.coord.tries.length g3,.int .i64 h.coord.try_,.bool h.coord.asking,.slice H4 h.coord.votes.length g4,.slice H5 h.coord.dones.length g5,.slice H6 sn g6,.slice H7 h.net.length g7,.slice H8 h.codes.length g8] 205)=W:=⟨_,rfl⟩
  rw [hW]
  obtain ⟨hBW,c1,c2⟩:=hWd W hW.symm
  clear hW hWd
  have HBW:=zd hBW
  have G1:=Grown.cell c1
  have G2:=Grown.cell c2
  clear c1 c2 hBW
  refine ya9 (by kernel_rfl) (by kernel_rfl) ?_
  repeat (go_big_quiet_step (first | (go_at_call 71; exact yab (HSP.out _))))
  refine wpQuiet_nil ?_
  intro w7 hw_
  have HB7:=zd (grown_below hw_)
  clear hw_ G1 G2
  go_wp2
  go_ret
  exact ⟨ret_bool zz74,HBW.out.trans (HB7.out.mono HBW.out.size)⟩
 have hk2:0≤kk∧kk≤2:=by simpa [inB] using hk
 clear hk
 rcases (show kk=0∨kk=1∨kk=2 by omega) with rfl | rfl | rfl
 ·by_cases hm:sn=1
  ·have HE:Hid (R=true):=zd (by rw [HF.out,hm]; rfl)
   have hq:((sn:Int) == 1)=true:=by rw [hm]; rfl
   clear hm
   go_enter Tryz.func136,Tryz.ntmps136
   go_wp2_with (fail)
   obtain ⟨W,hW⟩:∃ W,w.alloc (.cells #[.int .i64 h.coord.house,.int .i64 0,.bool h.coord.up,.slice H0 h.coord.disk.files.length g0,.slice H1 h.coord.pool.length g1,.slice H2 h.coord.seals.length g2,.slice H3 h.coord.tries.length g3,.int .i64 h.coord.try_,.bool h.coord.asking,.slice H4 h.coord.votes.length g4,.slice H5 h.coord.dones.length g5,.slice H6 sn g6,.slice H7 h.net.length g7,.slice H8 h.codes.length g8] 205)=W:=⟨_,rfl⟩
   rw [hW]
   obtain ⟨hBW,c1,c2⟩:=hWd W hW.symm
   clear hW hWd
   have HBW:=zd hBW
   have G1:=Grown.cell c1
   have G2:=Grown.cell c2
   clear c1 c2 hBW
   refine ya9 (by kernel_rfl) (by kernel_rfl) ?_
   repeat (go_big_quiet_step (first | (go_at_call 71; exact yab (HSP.out _))))
   refine wpQuiet_nil ?_
   intro w7 hw_
   have HB7:=zd (grown_below hw_)
   clear hw_ G1 G2
   go_wp2
   go_ret
   exact ⟨ret_bool zz74,HBW.out.trans (HB7.out.mono HBW.out.size)⟩
  ·have HE:Hid (R=false):=zd (by rw [HF.out,decide_eq_false (show ¬ sn=manyK 0 from hm)]; rfl)
   have hq:((sn:Int) == 1)=false:=zz69
   clear hm
   go_enter Tryz.func136,Tryz.ntmps136
   go_wp2_with (fail)
   obtain ⟨W,hW⟩:∃ W,w.alloc (.cells #[.int .i64 h.coord.house,.int .i64 0,.bool h.coord.up,.slice H0 h.coord.disk.files.length g0,.slice H1 h.coord.pool.length g1,.slice H2 h.coord.seals.length g2,.slice H3 h.coord.tries.length g3,.int .i64 h.coord.try_,.bool h.coord.asking,.slice H4 h.coord.votes.length g4,.slice H5 h.coord.dones.length g5,.slice H6 sn g6,.slice H7 h.net.length g7,.slice H8 h.codes.length g8] 205)=W:=⟨_,rfl⟩
   rw [hW]
   obtain ⟨hBW,c1,c2⟩:=hWd W hW.symm
   clear hW hWd
   have HBW:=zd hBW
   have G1:=Grown.cell c1
   have G2:=Grown.cell c2
   clear c1 c2 hBW
   refine ya9 (by kernel_rfl) (by kernel_rfl) ?_
   repeat (go_big_quiet_step (first | (go_at_call 71; exact yab (HSP.out _))))
   refine wpQuiet_nil ?_
   intro w7 hw_
   have HB7:=zd (grown_below hw_)
   clear hw_ G1 G2
   go_wp2
   go_ret
   exact ⟨ret_bool zz74,HBW.out.trans (HB7.out.mono HBW.out.size)⟩
 ·by_cases hm:sn=2
  ·have HE:Hid (R=true):=zd (by rw [HF.out,hm]; rfl)
   have hq:((sn:Int) == 2)=true:=by rw [hm]; rfl
   clear hm
   go_enter Tryz.func136,Tryz.ntmps136
   go_wp2_with (fail)
   obtain ⟨W,hW⟩:∃ W,w.alloc (.cells #[.int .i64 h.coord.house,.int .i64 1,.bool h.coord.up,.slice H0 h.coord.disk.files.length g0,.slice H1 h.coord.pool.length g1,.slice H2 h.coord.seals.length g2,.slice H3 h.coord.tries.length g3,.int .i64 h.coord.try_,.bool h.coord.asking,.slice H4 h.coord.votes.length g4,.slice H5 h.coord.dones.length g5,.slice H6 sn g6,.slice H7 h.net.length g7,.slice H8 h.codes.length g8] 205)=W:=⟨_,rfl⟩
   rw [hW]
   obtain ⟨hBW,c1,c2⟩:=hWd W hW.symm
   clear hW hWd
   have HBW:=zd hBW
   have G1:=Grown.cell c1
   have G2:=Grown.cell c2
   clear c1 c2 hBW
   refine ya9 (by kernel_rfl) (by kernel_rfl) ?_
   repeat (go_big_quiet_step (first | (go_at_call 71; exact yab (HSP.out _))))
   refine wpQuiet_nil ?_
   intro w7 hw_
   have HB7:=zd (grown_below hw_)
   clear hw_ G1 G2
   go_wp2
   go_ret
   exact ⟨ret_bool zz74,HBW.out.trans (HB7.out.mono HBW.out.size)⟩
  ·have HE:Hid (R=false):=zd (by rw [HF.out,decide_eq_false (show ¬ sn=manyK 1 from hm)]; rfl)
   have hq:((sn:Int) == 2)=false:=zz69
   clear hm
   go_enter Tryz.func136,Tryz.ntmps136
   go_wp2_with (fail)
   obtain ⟨W,hW⟩:∃ W,w.alloc (.cells #[.int .i64 h.coord.house,.int .i64 1,.bool h.coord.up,.slice H0 h.coord.disk.files.length g0,.slice H1 h.coord.pool.length g1,.slice H2 h.coord.seals.length g2,.slice H3 h.coord.tries.length g3,.int .i64 h.coord.try_,.bool h.coord.asking,.slice H4 h.coord.votes.length g4,.slice H5 h.coord.dones.length g5,.slice H6 sn g6,.slice H7 h.net.length g7,.slice H8 h.codes.length g8] 205)=W:=⟨_,rfl⟩
   rw [hW]
   obtain ⟨hBW,c1,c2⟩:=hWd W hW.symm
   clear hW hWd
   have HBW:=zd hBW
   have G1:=Grown.cell c1
   have G2:=Grown.cell c2
   clear c1 c2 hBW
   refine ya9 (by kernel_rfl) (by kernel_rfl) ?_
   repeat (go_big_quiet_step (first | (go_at_call 71; exact yab (HSP.out _))))
   refine wpQuiet_nil ?_
   intro w7 hw_
   have HB7:=zd (grown_below hw_)
   clear hw_ G1 G2
   go_wp2
   go_ret
   exact ⟨ret_bool zz74,HBW.out.trans (HB7.out.mono HBW.out.size)⟩
 ·by_cases hm:sn=4
  ·have HE:Hid (R=true):=zd (by rw [HF.out,hm]; rfl)
   have hq:((sn:Int) == 4)=true:=by rw [hm]; rfl
   clear hm
   go_enter Tryz.func136,Tryz.ntmps136
   go_wp2_with (fail)
   obtain ⟨W,hW⟩:∃ W,w.alloc (.cells #[.int .i64 h.coord.house,.int .i64 2,.bool h.coord.up,.slice H0 h.coord.disk.files.length g0,.slice H1 h.coord.pool.length g1,.slice H2 h.coord.seals.length g2,.slice H3 h.coord.tries.length g3,.int .i64 h.coord.try_,.bool h.coord.asking,.slice H4 h.coord.votes.length g4,.slice H5 h.coord.dones.length g5,.slice H6 sn g6,.slice H7 h.net.length g7,.slice H8 h.codes.length g8] 205)=W:=⟨_,rfl⟩
   rw [hW]
   obtain ⟨hBW,c1,c2⟩:=hWd W hW.symm
   clear hW hWd
   have HBW:=zd hBW
   have G1:=Grown.cell c1
   have G2:=Grown.cell c2
   clear c1 c2 hBW
   refine ya9 (by kernel_rfl) (by kernel_rfl) ?_
   repeat (go_big_quiet_step (first | (go_at_call 71; exact yab (HSP.out _))))
   refine wpQuiet_nil ?_
   intro w7 hw_
   have HB7:=zd (grown_below hw_)
   clear hw_ G1 G2
   go_wp2
   go_ret
   exact ⟨ret_bool zz74,HBW.out.trans (HB7.out.mono HBW.out.size)⟩
  ·have HE:Hid (R=false):=zd (by rw [HF.out,decide_eq_false (show ¬ sn=manyK 2 from hm)]; rfl)
   have hq:((sn:Int) == 4)=false:=zz69
   clear hm
   go_enter Tryz.func136,Tryz.ntmps136
   go_wp2_with (fail)
   obtain ⟨W,hW⟩:∃ W,w.alloc (.cells #[.int .i64 h.coord.house,.int .i64 2,.bool h.coord.up,.slice H0 h.coord.disk.files.length g0,.slice H1 h.coord.pool.length g1,.slice H2 h.coord.seals.length g2,.slice H3 h.coord.tries.length g3,.int .i64 h.coord.try_,.bool h.coord.asking,.slice H4 h.coord.votes.length g4,.slice H5 h.coord.dones.length g5,.slice H6 sn g6,.slice H7 h.net.length g7,.slice H8 h.codes.length g8] 205)=W:=⟨_,rfl⟩
   rw [hW]
   obtain ⟨hBW,c1,c2⟩:=hWd W hW.symm
   clear hW hWd
   have HBW:=zd hBW
   have G1:=Grown.cell c1
   have G2:=Grown.cell c2
   clear c1 c2 hBW
   refine ya9 (by kernel_rfl) (by kernel_rfl) ?_
   repeat (go_big_quiet_step (first | (go_at_call 71; exact yab (HSP.out _))))
   refine wpQuiet_nil ?_
   intro w7 hw_
   have HB7:=zd (grown_below hw_)
   clear hw_ G1 G2
   go_wp2
   go_ret
   exact ⟨ret_bool zz74,HBW.out.trans (HB7.out.mono HBW.out.size)⟩
theorem spec_l20Form (w:World) (h:House) (cs:List Value) (S:Blks) (hx:rd false w cs h S) (hl:h.servers.length≤1048576):Calls Tryz.prog 125 #[.agg cs.toArray] w fun e w' => e = .returned (.bool (canMv h))∧Below w.heap.size w w':=by
 obtain ⟨H0,g0,T0,H1,g1,T1,H2,g2,T2,H3,g3,T3,H4,g4,T4,H5,g5,T5,H6,g6,T6,H7,g7,T7,H8,g8,T8,rfl, -⟩:=House.open hx
 clear hx
 simp only [House.cs]
 have HF:Hid (canMv h=(inB h.coord.k 0 2 && decide (h.servers.length=manyK h.coord.k))):=zd rfl
 obtain ⟨R,hR⟩:∃ R,canMv h=R:=⟨_,rfl⟩
 rw [hR] at HF ⊢
 clear hR
 obtain ⟨kk,hkk⟩:∃ k,h.coord.k=k:=⟨_,rfl⟩
 obtain ⟨sn,hsn⟩:∃ n,h.servers.length=n:=⟨_,rfl⟩
 simp only [hkk,hsn] at HF hl ⊢
 clear hkk hsn
 have hWd:∀ W,W=w.alloc (.cells #[.int .i64 h.coord.house,.int .i64 kk,.bool h.coord.up,.slice H0 h.coord.disk.files.length g0,.slice H1 h.coord.pool.length g1,.slice H2 h.coord.seals.length g2,.slice H3 h.coord.tries.length g3,.int .i64 h.coord.try_,.bool h.coord.asking,.slice H4 h.coord.votes.length g4,.slice H5 h.coord.dones.length g5,.slice H6 sn g6,.slice H7 h.net.length g7,.slice H8 h.codes.length g8] 205)→Below w.heap.size w W∧W.cell? ⟨w.heap.size,1,none⟩=some (.int .i64 kk)∧W.cell? ⟨w.heap.size,11,none⟩=some (.slice H6 sn g6):=by
  rintro W rfl
  exact ⟨(Below.refl _ _).alloc (Nat.le_refl _) _,yaa _ _ _ _ _ rfl,yaa _ _ _ _ _ rfl⟩
 have HMN:=zd (fun W => spec_l19Many W kk)
 have HMV:Hid (0<manyK kk→inB kk 0 2=true):=zd (fun h => by
  unfold manyK at h
  split at h
  ·assumption
  ·omega)
 have HM0:Hid (inB kk 0 2=true→0<manyK kk):=zd (fun h => by unfold manyK; rw [if_pos h]; exact Nat.two_pow_pos _)
 obtain ⟨M,hM⟩:∃ m,manyK kk=m:=⟨_,rfl⟩
 rw [hM] at HMN HF HMV HM0
 clear hM
 by_cases h0:sn=0
 ·have HE:Hid (R=false):=zd (by
   rw [HF.out]
   cases hk:inB kk 0 2
   ·rfl
   ·have:=HM0.out hk; rw [decide_eq_false zz18]; rfl)
  have q1:decide ((sn:Int) > 0)=false:=decide_eq_false zz18
  have q2:decide (0<sn)=false:=decide_eq_false zz18
  have q3:decide ((0:Int)<(sn:Int))=false:=decide_eq_false zz18
  clear h0
  go_enter Tryz.func125,Tryz.ntmps125
  go_wp2_with (fail)
  obtain ⟨W,hW⟩:∃ W,w.alloc (.cells #[.int .i64 h.coord.house,.int .i64 kk,.bool h.coord.up,.slice H0 h.coord.disk.files.length g0,.slice H1 h.coord.pool.length g1,.slice H2 h.coord.seals.length g2,.slice H3 h.coord.tries.length g3,.int .i64 h.coord.try_,.bool h.coord.asking,.slice H4 h.coord.votes.length g4,.slice H5 h.coord.dones.length g5,.slice H6 sn g6,.slice H7 h.net.length g7,.slice H8 h.codes.length g8] 205)=W:=⟨_,rfl⟩
  rw [hW]
  obtain ⟨hBW,c1,c2⟩:=hWd W hW.symm
  clear hW hWd
  have HBW:=zd hBW
  have G1:=Grown.cell c1
  have G2:=Grown.cell c2
  clear c1 c2 hBW
  refine ya9 (by kernel_rfl) (by kernel_rfl) ?_
  repeat (go_big_quiet_step (first | (go_at_call 210; exact yab (HMN.out _))))
  refine wpQuiet_nil ?_
  intro w7 hw_
  have HB7:=zd (grown_below hw_)
  clear hw_ G1 G2
  go_wp2
  go_ret
  exact ⟨ret_bool zz74,HBW.out.trans (HB7.out.mono HBW.out.size)⟩
 have q1:decide ((sn:Int) > 0)=true:=decide_eq_true zz18
 have q2:decide (0<sn)=true:=decide_eq_true zz18
 have q3:decide ((0:Int)<(sn:Int))=true:=decide_eq_true zz18
 by_cases hm:sn=M
 ·have HE:Hid (R=true):=zd (by rw [HF.out,HMV.out zz18,decide_eq_true hm]; rfl)
  have hq:((sn:Int) == (M:Int))=true:=by rw [hm]; exact beq_self_eq_true _
  have hq2:(sn == M)=true:=by rw [hm]; exact beq_self_eq_true _
  clear hm h0
  go_enter Tryz.func125,Tryz.ntmps125
  go_wp2_with (fail)
  obtain ⟨W,hW⟩:∃ W,w.alloc (.cells #[.int .i64 h.coord.house,.int .i64 kk,.bool h.coord.up,.slice H0 h.coord.disk.files.length g0,.slice H1 h.coord.pool.length g1,.slice H2 h.coord.seals.length g2,.slice H3 h.coord.tries.length g3,.int .i64 h.coord.try_,.bool h.coord.asking,.slice H4 h.coord.votes.length g4,.slice H5 h.coord.dones.length g5,.slice H6 sn g6,.slice H7 h.net.length g7,.slice H8 h.codes.length g8] 205)=W:=⟨_,rfl⟩
  rw [hW]
  obtain ⟨hBW,c1,c2⟩:=hWd W hW.symm
  clear hW hWd
  have HBW:=zd hBW
  have G1:=Grown.cell c1
  have G2:=Grown.cell c2
  clear c1 c2 hBW
  refine ya9 (by kernel_rfl) (by kernel_rfl) ?_
  repeat (go_big_quiet_step (first | (go_at_call 210; exact yab (HMN.out _))))
  refine wpQuiet_nil ?_
  intro w7 hw_
  have HB7:=zd (grown_below hw_)
  clear hw_ G1 G2
  go_wp2
  go_ret
  exact ⟨ret_bool zz74,HBW.out.trans (HB7.out.mono HBW.out.size)⟩
 ·have HE:Hid (R=false):=zd (by rw [HF.out,decide_eq_false hm]; simp)
  have hq:((sn:Int) == (M:Int))=false:=zz69
  have hq2:(sn == M)=false:=zz69
  clear hm h0
  go_enter Tryz.func125,Tryz.ntmps125
  go_wp2_with (fail)
  obtain ⟨W,hW⟩:∃ W,w.alloc (.cells #[.int .i64 h.coord.house,.int .i64 kk,.bool h.coord.up,.slice H0 h.coord.disk.files.length g0,.slice H1 h.coord.pool.length g1,.slice H2 h.coord.seals.length g2,.slice H3 h.coord.tries.length g3,.int .i64 h.coord.try_,.bool h.coord.asking,.slice H4 h.coord.votes.length g4,.slice H5 h.coord.dones.length g5,.slice H6 sn g6,.slice H7 h.net.length g7,.slice H8 h.codes.length g8] 205)=W:=⟨_,rfl⟩
  rw [hW]
  obtain ⟨hBW,c1,c2⟩:=hWd W hW.symm
  clear hW hWd
  have HBW:=zd hBW
  have G1:=Grown.cell c1
  have G2:=Grown.cell c2
  clear c1 c2 hBW
  refine ya9 (by kernel_rfl) (by kernel_rfl) ?_
  repeat (go_big_quiet_step (first | (go_at_call 210; exact yab (HMN.out _))))
  refine wpQuiet_nil ?_
  intro w7 hw_
  have HB7:=zd (grown_below hw_)
  clear hw_ G1 G2
  go_wp2
  go_ret
  exact ⟨ret_bool zz74,HBW.out.trans (HB7.out.mono HBW.out.size)⟩
end Go.Proofs.YtcbbjfafmmcfiaaGreatDoor
namespace Go.Proofs.YtcbbjfafmmcfiaaGreatDoor
open Go.RowKit Lay Mk
def One (w:World) (g:Nat) (t:TypeId) (v:Value):Prop:=w.heap[g]? = some (.cells #[v] t (0,0))
theorem One.lt {w:World} {g:Nat} {t:TypeId} {v:Value} (h:One w g t v):g<w.heap.size:=heap_lt h
theorem One.cell {w:World} {g:Nat} {t:TypeId} {v:Value} (h:One w g t v):w.cell? ⟨g,0,none⟩=some v:=by rw [cell_of_row w g 0 _ _ (0,0) h]; rfl
theorem One.frozen {w:World} {g:Nat} {t:TypeId} {v:Value} (h:One w g t v):w.frozen? ⟨g,0,none⟩=false:=frozen_of_row w g 0 _ _ h
theorem One.set {w:World} {g:Nat} {t:TypeId} {v:Value} (h:One w g t v) (u:Value):One (w.setCell ⟨g,0,none⟩ u) g t u:=by
 unfold One at *
 simp only [World.setCell,Array.getElem?_modify,h]
 simp
theorem One.keep {w w':World} {g:Nat} {t:TypeId} {v:Value} (h:One w g t v) (k:w'.heap[g]? = w.heap[g]?):One w' g t v:=k.trans h
theorem One.below {w w':World} {B g:Nat} {t:TypeId} {v:Value} (h:One w g t v) (hb:Below B w w') (hB:g<B):One w' g t v:=h.keep (hb.block g hB)
theorem One.later {w w':World} {g:Nat} {t:TypeId} {v:Value} (h:One w g t v) (hb:Below w.heap.size w w'):One w' g t v:=h.below hb h.lt
theorem One.chg {w w':World} {S:Blks} {g:Nat} {t:TypeId} {v:Value} (h:One w g t v) (hb:Chg S w w') (hn : ¬ S g):One w' g t v:=h.keep (hb.block g h.lt hn)
theorem One.alloc {w:World} {g:Nat} {t:TypeId} {v:Value} (h:One w g t v) (o:Obj):One (w.alloc o) g t v:=h.keep (Below.heap_alloc w o g (heap_lt h))
theorem One.new (w:World) (t:TypeId) (v:Value):One (w.alloc (.cells #[v] t)) w.heap.size t v:=heap_alloc_new w _
theorem row_pair (w:World) (s t:ByteArray) (hs:s.size≤maxLen) (h:t.size≤maxLen) (ty:TypeId):Row false (w.alloc (.cells #[.string s,.string t] ty)) (some ⟨w.heap.size,0,none⟩) 2 [s,t] (fun q => q=w.heap.size):=by
 refine row_box 2 [s,t] ?_
 intro j hj
 have hj:j=0∨j=1:=by simp at hj; omega
 rcases hj with rfl | rfl
 ·exact ⟨yaa _ _ _ _ _ rfl,by simpa using hs⟩
 ·exact ⟨yaa _ _ _ _ _ rfl,by simpa using h⟩
theorem ml {n k:Nat} (h:n≤k) (hk:k≤1000000):n≤maxLen:=by unfold maxLen; omega
end Go.Proofs.YtcbbjfafmmcfiaaGreatDoor
