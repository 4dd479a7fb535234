/- A part of the proof. -/
import Derived.Test.YtcbbjfafmmcfiaaGreatDoorHAqL18xTk
set_option linter.unusedVariables false
set_option linter.unusedSimpArgs false
set_option maxRecDepth 20000
set_option maxHeartbeats 8000000
namespace Go.Proofs.YtcbbjfafmmcfiaaGreatDoor
open Go.RowKit Lay Mk
def manyK (k:Int):Nat:=if inB k 0 2=true then 2 ^ k.toNat else 0
def canMv (h:House):Bool:=inB h.coord.k 0 2 && decide (h.servers.length=manyK h.coord.k)
theorem spec_l19Many (w:World) (k:Int):Calls Tryz.prog 210 #[.int .i64 k] w fun e w' => e = .returned (.int .i64 ((manyK k:Nat):Int))∧w=w':=by
 have HSP:=zd (fun W => spec_in k 0 2 W)
 cases hk:inB k 0 2 <;> rw [hk] at HSP
 ·have HE:Hid (manyK k=0):=zd (by unfold manyK; rw [hk]; rfl)
  clear hk
  go_enter Tryz.func210,Tryz.ntmps210
  go_wp2_with (fail)
  refine (HSP.out _).mono ?_
  rintro e1 w1 ⟨rfl,rfl⟩
  go_wp2
  go_ret
  exact ⟨ret_int zz79,rfl⟩
 ·have hk2:0≤k∧k≤2:=by simpa [inB] using hk
  clear hk
  rcases (show k=0∨k=1∨k=2 by omega) with rfl | rfl | rfl
  ·clear hk2
   go_enter Tryz.func210,Tryz.ntmps210
   go_wp2_with (fail)
   refine (HSP.out _).mono ?_
   rintro e1 w1 ⟨rfl,rfl⟩
   go_wp2
   go_ret
   exact ⟨rfl,rfl⟩
  ·clear hk2
   go_enter Tryz.func210,Tryz.ntmps210
   go_wp2_with (fail)
   refine (HSP.out _).mono ?_
   rintro e1 w1 ⟨rfl,rfl⟩
   go_wp2
   go_ret
   exact ⟨rfl,rfl⟩
  ·clear hk2
   go_enter Tryz.func210,Tryz.ntmps210
   go_wp2_with (fail)
   refine (HSP.out _).mono ?_
   rintro e1 w1 ⟨rfl,rfl⟩
   go_wp2
   go_ret
   exact ⟨rfl,rfl⟩
theorem impl_canMove (w:World) (h:House) (cs:List Value) (S:Blks) (hx:rd false w cs h S) (hl:h.servers.length≤1048576):Calls Tryz.prog 136 #[.agg cs.toArray] w fun e w' => e = .returned (.bool (canMv h))∧Below w.heap.size w w':=by
 obtain ⟨H0,g0,T0,H1,g1,T1,H2,g2,T2,H3,g3,T3,H4,g4,T4,H5,g5,T5,H6,g6,T6,H7,g7,T7,H8,g8,T8,rfl, -⟩:=House.open hx
 clear hx
 simp only [House.cs]
 have HF:Hid (canMv h=(inB h.coord.k 0 2 && decide (h.servers.length=manyK h.coord.k))):=zd rfl
 obtain ⟨R,hR⟩:∃ R,canMv h=R:=⟨_,rfl⟩
 rw [hR] at HF ⊢
 clear hR
 obtain ⟨kk,hkk⟩:∃ k,h.coord.k=k:=⟨_,rfl⟩
 obtain ⟨sn,hsn⟩:∃ n,h.servers.length=n:=⟨_,rfl⟩
 simp only [hkk,hsn] at HF hl ⊢
 clear hkk hsn
 have hWd:∀ W,W=w.alloc (.cells #[.int .i64 h.coord.house,.int .i64 kk,.bool h.coord.up,.slice H0 h.coord.disk.files.length g0,.slice H1 h.coord.pool.length g1,.slice H2 h.coord.seals.length g2,.slice H3 h.coord.tries.length g3,.int .i64 h.coord.try_,.bool h.coord.asking,.slice H4 h.coord.votes.length g4,.slice H5 h.coord.dones.length g5,.slice H6 sn g6,.slice H7 h.net.length g7,.slice H8 h.codes.length g8] 205)→Below w.heap.size w W∧W.cell? ⟨w.heap.size,1,none⟩=some (.int .i64 kk)∧W.cell? ⟨w.heap.size,11,none⟩=some (.slice H6 sn g6):=by
  rintro W rfl
  exact ⟨(Below.refl _ _).alloc (Nat.le_refl _) _,ya1 _ _ _ _ _ rfl,ya1 _ _ _ _ _ rfl⟩
 have HSP:=zd (fun W => impl_isSplit kk W)
 cases hk:inB kk 0 2 <;> rw [hk] at HSP
 ·have HE:Hid (R=false):=zd (by rw [HF.out,hk]; rfl)
  clear hk
  go_enter Tryz.func136,Tryz.ntmps136
  go_wp2_with (fail)
  obtain ⟨W,hW⟩:∃ W,w.alloc (.cells #[.int .i64 h.coord.house,.int .i64 kk,.bool h.coord.up,.slice H0 h.coord.disk.files.length g0,.slice H1 h.coord.pool.length g1,.slice H2 h.coord.seals.length g2,.slice H3 h.coord.tries.length g3,.int .i64 h.coord.try_,.bool h.coord.asking,.slice H4 h.coord.votes.length g4,.slice H5 h.coord.dones.length g5,.slice H6 sn g6,.slice H7 h.net.length g7,.slice H8 h.codes.length g8] 205)=W:=⟨_,rfl⟩
  rw [hW]
  obtain ⟨hBW,c1,c2⟩:=hWd W hW.symm
  clear hW hWd
  have HBW:=zd hBW
  have G1:=Grown.cell c1
  have G2:=Grown.cell c2
  clear c1 c2 hBW
  refine ya4 (by kernel_rfl) (by kernel_rfl) ?_
  repeat (go_big_quiet_step (first | (go_at_call 71; exact yac (HSP.out _))))
  refine wpQuiet_nil ?_
  intro w7 hw_
  have HB7:=zd (yaa hw_)
  clear hw_ G1 G2
  go_wp2
  go_ret
  exact ⟨yab zz58,HBW.out.trans (HB7.out.mono HBW.out.size)⟩
 have hk2:0≤kk∧kk≤2:=by simpa [inB] using hk
 clear hk
 rcases (show kk=0∨kk=1∨kk=2 by omega) with rfl | rfl | rfl
 ·by_cases hm:sn=1
  ·have HE:Hid (R=true):=zd (by rw [HF.out,hm]; rfl)
   have hq:((sn:Int) == 1)=true:=by rw [hm]; rfl
   clear hm
   go_enter Tryz.func136,Tryz.ntmps136
   go_wp2_with (fail)
   obtain ⟨W,hW⟩:∃ W,w.alloc (.cells #[.int .i64 h.coord.house,.int .i64 0,.bool h.coord.up,.slice H0 h.coord.disk.files.length g0,.slice H1 h.coord.pool.length g1,.slice H2 h.coord.seals.length g2,.slice H3 h.coord.tries.length g3,.int .i64 h.coord.try_,.bool h.coord.asking,.slice H4 h.coord.votes.length g4,.slice H5 h.coord.dones.length g5,.slice H6 sn g6,.slice H7 h.net.length g7,.slice H8 h.codes.length g8] 205)=W:=⟨_,rfl⟩
   rw [hW]
   obtain ⟨hBW,c1,c2⟩:=hWd W hW.symm
   clear hW hWd
   have HBW:=zd hBW
   have G1:=Grown.cell c1
   have G2:=Grown.cell c2
   clear c1 c2 hBW
   refine ya4 (by kernel_rfl) (by kernel_rfl) ?_
   repeat (go_big_quiet_step (first | (go_at_call 71; exact yac (HSP.out _))))
   refine wpQuiet_nil ?_
   intro w7 hw_
   have HB7:=zd (yaa hw_)
   clear hw_ G1 G2
   go_wp2
   go_ret
   exact ⟨yab zz58,HBW.out.trans (HB7.out.mono HBW.out.size)⟩
  ·have HE:Hid (R=false):=zd (by rw [HF.out,decide_eq_false (show ¬ sn=manyK 0 from hm)]; rfl)
   have hq:((sn:Int) == 1)=false:=zz49
   clear hm
   go_enter Tryz.func136,Tryz.ntmps136
   go_wp2_with (fail)
   obtain ⟨W,hW⟩:∃ W,w.alloc (.cells #[.int .i64 h.coord.house,.int .i64 0,.bool h.coord.up,.slice H0 h.coord.disk.files.length g0,.slice H1 h.coord.pool.length g1,.slice H2 h.coord.seals.length g2,.slice H3 h.coord.tries.length g3,.int .i64 h.coord.try_,.bool h.coord.asking,.slice H4 h.coord.votes.length g4,.slice H5 h.coord.dones.length g5,.slice H6 sn g6,.slice H7 h.net.length g7,.slice H8 h.codes.length g8] 205)=W:=⟨_,rfl⟩
   rw [hW]
   obtain ⟨hBW,c1,c2⟩:=hWd W hW.symm
   clear hW hWd
   have HBW:=zd hBW
   have G1:=Grown.cell c1
   have G2:=Grown.cell c2
   clear c1 c2 hBW
   refine ya4 (by kernel_rfl) (by kernel_rfl) ?_
   repeat (go_big_quiet_step (first | (go_at_call 71; exact yac (HSP.out _))))
   refine wpQuiet_nil ?_
   intro w7 hw_
   have HB7:=zd (yaa hw_)
   clear hw_ G1 G2
   go_wp2
   go_ret
   exact ⟨yab zz58,HBW.out.trans (HB7.out.mono HBW.out.size)⟩
 ·by_cases hm:sn=2
  ·have HE:Hid (R=true):=zd (by rw [HF.out,hm]; rfl)
   have hq:((sn:Int) == 2)=true:=by rw [hm]; rfl
   clear hm
   go_enter Tryz.func136,Tryz.ntmps136
   go_wp2_with (fail)
   obtain ⟨W,hW⟩:∃ W,w.alloc (.cells #[.int .i64 h.coord.house,.int .i64 1,.bool h.coord.up,.slice H0 h.coord.disk.files.length g0,.slice H1 h.coord.pool.length g1,.slice H2 h.coord.seals.length g2,.slice H3 h.coord.tries.length g3,.int .i64 h.coord.try_,.bool h.coord.asking,.slice H4 h.coord.votes.length g4,.slice H5 h.coord.dones.length g5,.slice H6 sn g6,.slice H7 h.net.length g7,.slice H8 h.codes.length g8] 205)=W:=⟨_,rfl⟩
   rw [hW]
   obtain ⟨hBW,c1,c2⟩:=hWd W hW.symm
   clear hW hWd
   have HBW:=zd hBW
   have G1:=Grown.cell c1
   have G2:=Grown.cell c2
   clear c1 c2 hBW
   refine ya4 (by kernel_rfl) (by kernel_rfl) ?_
   repeat (go_big_quiet_step (first | (go_at_call 71; exact yac (HSP.out _))))
   refine wpQuiet_nil ?_
   intro w7 hw_
   have HB7:=zd (yaa hw_)
   clear hw_ G1 G2
   go_wp2
   go_ret
   exact ⟨yab zz58,HBW.out.trans (HB7.out.mono HBW.out.size)⟩
  ·have HE:Hid (R=false):=zd (by rw [HF.out,decide_eq_false (show ¬ sn=manyK 1 from hm)]; rfl)
   have hq:((sn:Int) == 2)=false:=zz49
   clear hm
   go_enter Tryz.func136,Tryz.ntmps136
   go_wp2_with (fail)
   obtain ⟨W,hW⟩:∃ W,w.alloc (.cells #[.int .i64 h.coord.house,.int .i64 1,.bool h.coord.up,.slice H0 h.coord.disk.files.length g0,.slice H1 h.coord.pool.length g1,.slice H2 h.coord.seals.length g2,.slice H3 h.coord.tries.length g3,.int .i64 h.coord.try_,.bool h.coord.asking,.slice H4 h.coord.votes.length g4,.slice H5 h.coord.dones.length g5,.slice H6 sn g6,.slice H7 h.net.length g7,.slice H8 h.codes.length g8] 205)=W:=⟨_,rfl⟩
   rw [hW]
   obtain ⟨hBW,c1,c2⟩:=hWd W hW.symm
   clear hW hWd
   have HBW:=zd hBW
   have G1:=Grown.cell c1
   have G2:=Grown.cell c2
   clear c1 c2 hBW
   refine ya4 (by kernel_rfl) (by kernel_rfl) ?_
   repeat (go_big_quiet_step (first | (go_at_call 71; exact yac (HSP.out _))))
   refine wpQuiet_nil ?_
   intro w7 hw_
   have HB7:=zd (yaa hw_)
   clear hw_ G1 G2
   go_wp2
   go_ret
   exact ⟨yab zz58,HBW.out.trans (HB7.out.mono HBW.out.size)⟩
 ·by_cases hm:sn=4
  ·have HE:Hid (R=true):=zd (by rw [HF.out,hm]; rfl)
   have hq:((sn:Int) == 4)=true:=by rw [hm]; rfl
   clear hm
   go_enter Tryz.func136,Tryz.ntmps136
   go_wp2_with (fail)
   obtain ⟨W,hW⟩:∃ W,w.alloc (.cells #[.int .i64 h.coord.house,.int .i64 2,.bool h.coord.up,.slice H0 h.coord.disk.files.length g0,.slice H1 h.coord.pool.length g1,.slice H2 h.coord.seals.length g2,.slice H3 h.coord.tries.length g3,.int .i64 h.coord.try_,.bool h.coord.asking,.slice H4 h.coord.votes.length g4,.slice H5 h.coord.dones.length g5,.slice H6 sn g6,.slice H7 h.net.length g7,.slice H8 h.codes.length g8] 205)=W:=⟨_,rfl⟩
   rw [hW]
   obtain ⟨hBW,c1,c2⟩:=hWd W hW.symm
   clear hW hWd
   have HBW:=zd hBW
   have G1:=Grown.cell c1
   have G2:=Grown.cell c2
   clear c1 c2 hBW
   refine ya4 (by kernel_rfl) (by kernel_rfl) ?_
   repeat (go_big_quiet_step (first | (go_at_call 71; exact yac (HSP.out _))))
   refine wpQuiet_nil ?_
   intro w7 hw_
   have HB7:=zd (yaa hw_)
   clear hw_ G1 G2
   go_wp2
   go_ret
   exact ⟨yab zz58,HBW.out.trans (HB7.out.mono HBW.out.size)⟩
  ·have HE:Hid (R=false):=zd (by rw [HF.out,decide_eq_false (show ¬ sn=manyK 2 from hm)]; rfl)
   have hq:((sn:Int) == 4)=false:=zz49
   clear hm
   go_enter Tryz.func136,Tryz.ntmps136
   go_wp2_with (fail)
   obtain ⟨W,hW⟩:∃ W,w.alloc (.cells #[.int .i64 h.coord.house,.int .i64 2,.bool h.coord.up,.slice H0 h.coord.disk.files.length g0,.slice H1 h.coord.pool.length g1,.slice H2 h.coord.seals.length g2,.slice H3 h.coord.tries.length g3,.int .i64 h.coord.try_,.bool h.coord.asking,.slice H4 h.coord.votes.length g4,.slice H5 h.coord.dones.length g5,.slice H6 sn g6,.slice H7 h.net.length g7,.slice H8 h.codes.length g8] 205)=W:=⟨_,rfl⟩
   rw [hW]
   obtain ⟨hBW,c1,c2⟩:=hWd W hW.symm
   clear hW hWd
   have HBW:=zd hBW
   have G1:=Grown.cell c1
   have G2:=Grown.cell c2
   clear c1 c2 hBW
   refine ya4 (by kernel_rfl) (by kernel_rfl) ?_
   repeat (go_big_quiet_step (first | (go_at_call 71; exact yac (HSP.out _))))
   refine wpQuiet_nil ?_
   intro w7 hw_
   have HB7:=zd (yaa hw_)
   clear hw_ G1 G2
   go_wp2
   go_ret
   exact ⟨yab zz58,HBW.out.trans (HB7.out.mono HBW.out.size)⟩
theorem spec_l20Form (w:World) (h:House) (cs:List Value) (S:Blks) (hx:rd false w cs h S) (hl:h.servers.length≤1048576):Calls Tryz.prog 125 #[.agg cs.toArray] w fun e w' => e = .returned (.bool (canMv h))∧Below w.heap.size w w':=by
 obtain ⟨H0,g0,T0,H1,g1,T1,H2,g2,T2,H3,g3,T3,H4,g4,T4,H5,g5,T5,H6,g6,T6,H7,g7,T7,H8,g8,T8,rfl, -⟩:=House.open hx
 clear hx
 simp only [House.cs]
 have HF:Hid (canMv h=(inB h.coord.k 0 2 && decide (h.servers.length=manyK h.coord.k))):=zd rfl
 obtain ⟨R,hR⟩:∃ R,canMv h=R:=⟨_,rfl⟩
 rw [hR] at HF ⊢
 clear hR
 obtain ⟨kk,hkk⟩:∃ k,h.coord.k=k:=⟨_,rfl⟩
 obtain ⟨sn,hsn⟩:∃ n,h.servers.length=n:=⟨_,rfl⟩
 simp only [hkk,hsn] at HF hl ⊢
 clear hkk hsn
 have hWd:∀ W,W=w.alloc (.cells #[.int .i64 h.coord.house,.int .i64 kk,.bool h.coord.up,.slice H0 h.coord.disk.files.length g0,.slice H1 h.coord.pool.length g1,.slice H2 h.coord.seals.length g2,.slice H3 h.coord.tries.length g3,.int .i64 h.coord.try_,.bool h.coord.asking,.slice H4 h.coord.votes.length g4,.slice H5 h.coord.dones.length g5,.slice H6 sn g6,.slice H7 h.net.length g7,.slice H8 h.codes.length g8] 205)→Below w.heap.size w W∧W.cell? ⟨w.heap.size,1,none⟩=some (.int .i64 kk)∧W.cell? ⟨w.heap.size,11,none⟩=some (.slice H6 sn g6):=by
  rintro W rfl
  exact ⟨(Below.refl _ _).alloc (Nat.le_refl _) _,ya1 _ _ _ _ _ rfl,ya1 _ _ _ _ _ rfl⟩
 have HMN:=zd (fun W => spec_l19Many W kk)
 have HMV:Hid (0<manyK kk→inB kk 0 2=true):=zd (fun h => by
  unfold manyK at h
  split at h
  ·assumption
  ·omega)
 have HM0:Hid (inB kk 0 2=true→0<manyK kk):=zd (fun h => by unfold manyK; rw [if_pos h]; exact Nat.two_pow_pos _)
 obtain ⟨M,hM⟩:∃ m,manyK kk=m:=⟨_,rfl⟩
 rw [hM] at HMN HF HMV HM0
 clear hM
 by_cases h0:sn=0
 ·have HE:Hid (R=false):=zd (by
   rw [HF.out]
   cases hk:inB kk 0 2
   ·rfl
   ·have:=HM0.out hk; rw [decide_eq_false zz13]; rfl)
  have q1:decide ((sn:Int) > 0)=false:=decide_eq_false zz13
  have q2:decide (0<sn)=false:=decide_eq_false zz13
  have q3:decide ((0:Int)<(sn:Int))=false:=decide_eq_false zz13
  clear h0
  go_enter Tryz.func125,Tryz.ntmps125
  go_wp2_with (fail)
  obtain ⟨W,hW⟩:∃ W,w.alloc (.cells #[.int .i64 h.coord.house,.int .i64 kk,.bool h.coord.up,.slice H0 h.coord.disk.files.length g0,.slice H1 h.coord.pool.length g1,.slice H2 h.coord.seals.length g2,.slice H3 h.coord.tries.length g3,.int .i64 h.coord.try_,.bool h.coord.asking,.slice H4 h.coord.votes.length g4,.slice H5 h.coord.dones.length g5,.slice H6 sn g6,.slice H7 h.net.length g7,.slice H8 h.codes.length g8] 205)=W:=⟨_,rfl⟩
  rw [hW]
  obtain ⟨hBW,c1,c2⟩:=hWd W hW.symm
  clear hW hWd
  have HBW:=zd hBW
  have G1:=Grown.cell c1
  have G2:=Grown.cell c2
  clear c1 c2 hBW
  refine ya4 (by kernel_rfl) (by kernel_rfl) ?_
  repeat (go_big_quiet_step (first | (go_at_call 210; exact yac (HMN.out _))))
  refine wpQuiet_nil ?_
  intro w7 hw_
  have HB7:=zd (yaa hw_)
  clear hw_ G1 G2
  go_wp2
  go_ret
  exact ⟨yab zz58,HBW.out.trans (HB7.out.mono HBW.out.size)⟩
 have q1:decide ((sn:Int) > 0)=true:=decide_eq_true zz13
 have q2:decide (0<sn)=true:=decide_eq_true zz13
 have q3:decide ((0:Int)<(sn:Int))=true:=decide_eq_true zz13
 by_cases hm:sn=M
 ·have HE:Hid (R=true):=zd (by rw [HF.out,HMV.out zz13,decide_eq_true hm]; rfl)
  have hq:((sn:Int) == (M:Int))=true:=by rw [hm]; exact beq_self_eq_true _
  have hq2:(sn == M)=true:=by rw [hm]; exact beq_self_eq_true _
  clear hm h0
  go_enter Tryz.func125,Tryz.ntmps125
  go_wp2_with (fail)
  obtain ⟨W,hW⟩:∃ W,w.alloc (.cells #[.int .i64 h.coord.house,.int .i64 kk,.bool h.coord.up,.slice H0 h.coord.disk.files.length g0,.slice H1 h.coord.pool.length g1,.slice H2 h.coord.seals.length g2,.slice H3 h.coord.tries.length g3,.int .i64 h.coord.try_,.bool h.coord.asking,.slice H4 h.coord.votes.length g4,.slice H5 h.coord.dones.length g5,.slice H6 sn g6,.slice H7 h.net.length g7,.slice H8 h.codes.length g8] 205)=W:=⟨_,rfl⟩
  rw [hW]
  obtain ⟨hBW,c1,c2⟩:=hWd W hW.symm
  clear hW hWd
  have HBW:=zd hBW
  have G1:=Grown.cell c1
  have G2:=Grown.cell c2
  clear c1 c2 hBW
  refine ya4 (by kernel_rfl) (by kernel_rfl) ?_
  repeat (go_big_quiet_step (first | (go_at_call 210; exact yac (HMN.out _))))
  refine wpQuiet_nil ?_
  intro w7 hw_
  have HB7:=zd (yaa hw_)
  clear hw_ G1 G2
  go_wp2
  go_ret
  exact ⟨yab zz58,HBW.out.trans (HB7.out.mono HBW.out.size)⟩
 ·have HE:Hid (R=false):=zd (by rw [HF.out,decide_eq_false hm]; simp)
  have hq:((sn:Int) == (M:Int))=false:=zz49
  have hq2:(sn == M)=false:=zz49
  clear hm h0
  go_enter Tryz.func125,Tryz.ntmps125
  go_wp2_with (fail)
  obtain ⟨W,hW⟩:∃ W,w.alloc (.cells #[.int .i64 h.coord.house,.int .i64 kk,.bool h.coord.up,.slice H0 h.coord.disk.files.length g0,.slice H1 h.coord.pool.length g1,.slice H2 h.coord.seals.length g2,.slice H3 h.coord.tries.length g3,.int .i64 h.coord.try_,.bool h.coord.asking,.slice H4 h.coord.votes.length g4,.slice H5 h.coord.dones.length g5,.slice H6 sn g6,.slice H7 h.net.length g7,.slice H8 h.codes.length g8] 205)=W:=⟨_,rfl⟩
  rw [hW]
  obtain ⟨hBW,c1,c2⟩:=hWd W hW.symm
  clear hW hWd
  have HBW:=zd hBW
  have G1:=Grown.cell c1
  have G2:=Grown.cell c2
  clear c1 c2 hBW
  refine ya4 (by kernel_rfl) (by kernel_rfl) ?_
  repeat (go_big_quiet_step (first | (go_at_call 210; exact yac (HMN.out _))))
  refine wpQuiet_nil ?_
  intro w7 hw_
  have HB7:=zd (yaa hw_)
  clear hw_ G1 G2
  go_wp2
  go_ret
  exact ⟨yab zz58,HBW.out.trans (HB7.out.mono HBW.out.size)⟩
end Go.Proofs.YtcbbjfafmmcfiaaGreatDoor
namespace Go.Proofs.YtcbbjfafmmcfiaaGreatDoor
open Go.RowKit Lay Mk
def wideOk (l:List ByteArray) (n:Nat):Bool:=l.all (fun s => decide (s.size=16)) && decide (l.length=n)
def sigForm (x:Sig):Bool:=inB x.at_ 0 15 && wideOk x.open_ 8 && wideOk x.shut 8 && wideOk x.sides 4
def signBits (t:ByteArray):Nat:=if h:0<(yae 7 [t] 16).size then ((yae 7 [t] 16)[0]'h).toNat else 0
def bitOf (n k:Nat):Nat:=n / 2 ^ (7 - k) % 2
def lockOf (s:ByteArray):ByteArray:=yae 6 [s] 16
def lockPair (bits:Nat) (x:Sig) (k:Nat):List ByteArray:=if bitOf bits k=0 then [lockOf (x.open_.getD k ⟨#[]⟩),x.shut.getD k ⟨#[]⟩] else [x.shut.getD k ⟨#[]⟩,lockOf (x.open_.getD k ⟨#[]⟩)]
def locksTo (bits:Nat) (x:Sig):Nat→List ByteArray
 | 0 => []
 | k+1 => locksTo bits x k ++ lockPair bits x k
def climb:ByteArray→Nat→List ByteArray→ByteArray
 | h,_, [] => h
 | h,a,s :: r => climb (yae 3 (if a % 2=0 then [h,s] else [s,h]) 16) (a / 2) r
def sigRoot (t:ByteArray) (x:Sig):ByteArray:=climb (yae 6 (locksTo (signBits t) x 8) 16) x.at_.toNat x.sides
def sigOk (root t:ByteArray) (x:Sig):Bool:=sigForm x && decide (t.size≤200) && decide (sigRoot t x=root)
theorem i64_and1 (n:Int):bits .and .i64 n 1=n % 2:=by
 have h1:(BitVec.ofInt 64 1).toNat=2 ^ 1 - 1:=zz76
 have key:(BitVec.ofInt 64 n &&& BitVec.ofInt 64 1).toNat=(n % ((2 ^ 64:Nat):Int)).toNat % 2 ^ 1:=by
  rw [BitVec.toNat_and,BitVec.toNat_ofInt,h1,Nat.and_two_pow_sub_one_eq_mod]
 show IntKind.i64.wrap ((BitVec.ofInt 64 n &&& BitVec.ofInt 64 1).toNat:Nat)=n % 2
 rw [key,IntKind.wrap_i64]
 omega
theorem signBits_lt (t:ByteArray):signBits t<256:=by
 unfold signBits; split
 ·exact UInt8.toNat_lt _
 ·omega
theorem tagOk_of {kind:Int} {xs:List ByteArray} (hk:inB kind 1 8=true) (hl:xs.length≤60) (hp:∀ x ∈ xs,x.size≤200):tagOk kind xs=true:=by
 unfold tagOk; rw [hk,decide_eq_true hl]
 rw [parts_good (fun j h => hp _ (List.getElem_mem h))]; rfl
theorem tagHash_size {kind:Int} {xs:List ByteArray} (h:tagOk kind xs=true):(yae kind xs 16).size=16:=by
 unfold yae; rw [if_pos h,cutDigest_size zz13]; rfl
theorem tagHash_cut {kind:Int} {xs:List ByteArray} (h:tagOk kind xs=true):cutDigest (tagText kind xs) 16=yae kind xs 16:=by
 unfold yae; rw [if_pos h]
theorem signBits_at {t:ByteArray} (h:0<(yae 7 [t] 16).size):signBits t=((yae 7 [t] 16)[0]'h).toNat:=by unfold signBits; rw [dif_pos h]
theorem tag_one {kind:Int} {s:ByteArray} (hk:inB kind 1 8=true) (h:s.size≤200):tagOk kind [s]=true:=tagOk_of hk zz30 (fun x hx => by simp at hx; subst hx; exact h)
theorem tag_two {kind:Int} {s t:ByteArray} (hk:inB kind 1 8=true) (h:s.size≤200) (h2:t.size≤200):tagOk kind [s,t]=true:=tagOk_of hk zz30 (fun x hx => by simp at hx; rcases hx with rfl | rfl <;> assumption)
theorem wide_bad {l:List ByteArray} {n k:Nat} (hk:k<l.length) (h:l[k].size≠16):wideOk l n=false:=by
 unfold wideOk; rw [Bool.and_eq_false_iff]; left; rw [List.all_eq_false]; exact ⟨_,List.getElem_mem hk,by simp [h]⟩
theorem wide_end {l:List ByteArray} {n:Nat} (h:∀ k (hk:k<l.length),l[k].size=16):wideOk l n=decide (l.length=n):=by
 unfold wideOk
 have:l.all (fun s => decide (s.size=16))=true:=by
  rw [List.all_eq_true]; intro s hs
  obtain ⟨k,hk,rfl⟩:=List.getElem_of_mem hs
  simp [h k hk]
 rw [this]; simp
theorem wide_at {l:List ByteArray} {n:Nat} (h:wideOk l n=true):l.length=n∧∀ s ∈ l,s.size=16:=by
 unfold wideOk at h
 rw [Bool.and_eq_true,List.all_eq_true] at h
 exact ⟨by simpa using h.2,fun s hs => by simpa using h.1 s hs⟩
theorem form_parts {x:Sig} (h:sigForm x=true):(0≤x.at_∧x.at_≤15)∧wideOk x.open_ 8=true∧wideOk x.shut 8=true∧wideOk x.sides 4=true:=by
 unfold sigForm at h
 simp only [Bool.and_eq_true] at h
 obtain ⟨⟨⟨h1,h2⟩,h3⟩,h4⟩:=h
 exact ⟨by simpa [inB] using h1,h2,h3,h4⟩
theorem lockOf_size {s:ByteArray} (h:s.size≤200):(lockOf s).size=16:=tagHash_size (tag_one zz76 h)
theorem getD_wide {l:List ByteArray} {n:Nat} (h:wideOk l n=true) {k:Nat} (hk:k<n):(l.getD k ⟨#[]⟩).size=16:=by
 obtain ⟨h1,h2⟩:=wide_at h
 rw [List.getD_eq_getElem?_getD,List.getElem?_eq_getElem zz13,Option.getD_some]
 exact h2 _ (List.getElem_mem _)
theorem lockPair_size {bits:Nat} {x:Sig} (h1:wideOk x.open_ 8=true) (h2:wideOk x.shut 8=true) {k:Nat} (hk:k<8):∀ s ∈ lockPair bits x k,s.size=16:=by
 have a:=lockOf_size (s:=x.open_.getD k ⟨#[]⟩) (by rw [getD_wide h1 hk]; omega)
 have b:=getD_wide h2 hk
 intro s hs
 unfold lockPair at hs
 split at hs <;> (simp at hs; rcases hs with rfl | rfl <;> first | (simpa using a) | (simpa using b))
theorem lockPair_len (bits:Nat) (x:Sig) (k:Nat):(lockPair bits x k).length=2:=by unfold lockPair; split <;> rfl
theorem locksTo_len (bits:Nat) (x:Sig):∀ k,(locksTo bits x k).length=2*k
 | 0 => rfl
 | k+1 => by unfold locksTo; rw [List.length_append,locksTo_len bits x k,lockPair_len]; omega
theorem locksTo_size {bits:Nat} {x:Sig} (h1:wideOk x.open_ 8=true) (h2:wideOk x.shut 8=true):∀ k,k≤8→∀ s ∈ locksTo bits x k,s.size=16
 | 0,_ => fun s hs => by cases hs
 | k+1,hk => fun s hs => by
  unfold locksTo at hs
  rcases List.mem_append.1 hs with h | h
  ·exact locksTo_size h1 h2 k zz13 s h
  ·exact lockPair_size h1 h2 zz13 s h
theorem locks_ok {bits:Nat} {x:Sig} (h:sigForm x=true):tagOk 6 (locksTo bits x 8)=true:=by
 obtain ⟨_,h1,h2,_⟩:=form_parts h
 exact tagOk_of zz76 (by rw [locksTo_len]; omega) (fun s hs => by rw [locksTo_size h1 h2 8 zz13 s hs]; omega)
theorem impl_wide (w:World) (l:List ByteArray) (A:Option Addr) (cap:Nat) (S:Blks) (hx:Row false w A cap l S) (hl0:l.length≤maxLen) (n:Nat) (hn:n≤100):Calls Tryz.prog 258 #[.slice A l.length cap,.int .i64 n,.int .i64 16] w fun e w' => e = .returned (.bool (wideOk l n))∧w=w':=by
 have hl:l.length≤9223372036854775807:=hl0
 clear hl0
 have HB:=zd (fun (k:Nat) hk h => wide_bad (l:=l) (n:=n) (k:=k) hk h)
 have HE:=zd (fun h => wide_end (l:=l) (n:=n) h)
 go_enter Tryz.func258,Tryz.ntmps258
 go_wp2
 go_loopw [11] (fun i wr => ∃ k:Nat,k≤l.length∧i = .int .i64 k∧Hid (∀ j (h:j<l.length),j<k→l[j].size=16)∧w=wr) (fun i _ => l.length - (intOf i).toNat)
 case atStart => exact ⟨0,Nat.zero_le _,rfl,zd (fun j _ h => absurd h zz13),rfl⟩
 case round =>
  obtain ⟨k,hk,rfl,HS,rfl⟩:=hrel
  by_cases hlt:k<l.length
  ·obtain ⟨b1,o1,rfl,hl1,f0,s0⟩:=Row.str hx hlt
   have HBk:=zd (HB.out k hlt)
   have HN:Hid (l[k].size=16→∀ j (h:j<l.length),j<k+1→l[j].size=16):=zd (fun h0 j h hj => zz54)
   obtain ⟨x,hxx⟩:∃ x,l[k]=x:=⟨_,rfl⟩
   rw [hxx] at f0 HBk HN s0
   clear hxx
   by_cases h16:x.size=16
   ·have HNx:=zd (HN.out h16)
    have hq:((x.size:Int) != 16)=false:=by rw [bne_eq_false_iff_eq]; omega
    clear HB HE HBk HN h16
    go_wp2
    go_roundw
    case rel => exact ⟨k+1,zz13,by go_num,HNx,trivial⟩
    case measure => simp [intOf]; omega
   ·have HF:=zd (HBk.out h16)
    have hq:((x.size:Int) != 16)=true:=by rw [bne_iff_ne]; omega
    clear HB HE HBk HN h16
    go_wp2
    go_ret
    exact ⟨zz75,rfl⟩
  ·have hke:k=l.length:=by omega
   subst hke
   have HF:=zd (HE.out (fun k hk => HS.out k hk hk))
   have hc:((l.length:Int) == (n:Int))=decide (l.length=n):=by rw [Bool.eq_iff_iff,beq_iff_eq,decide_eq_true_iff]; omega
   have HC:=zd hc
   clear hc HB HE HS
   go_wp2
   go_ret
   exact ⟨yab (by rw [HF.out, ← HC.out]),rfl⟩
theorem spec_wide (w:World) (l:List ByteArray) (A:Option Addr) (cap:Nat) (S:Blks) (hx:Row false w A cap l S) (hl0:l.length≤maxLen) (n:Nat) (hn:n≤100):Calls Tryz.prog 304 #[.slice A l.length cap,.int .i64 n] w fun e w' => e = .returned (.bool (wideOk l n))∧w=w':=by
 have hl:l.length≤9223372036854775807:=hl0
 clear hl0
 have HB:=zd (fun (k:Nat) hk h => wide_bad (l:=l) (n:=n) (k:=k) hk h)
 have HE:=zd (fun h => wide_end (l:=l) (n:=n) h)
 go_enter Tryz.func304,Tryz.ntmps304
 go_wp2
 go_loopw [5] (fun i wr => ∃ k:Nat,k≤l.length∧i = .int .i64 k∧Hid (∀ j (h:j<l.length),j<k→l[j].size=16)∧w=wr) (fun i _ => l.length - (intOf i).toNat)
 case atStart => exact ⟨0,Nat.zero_le _,rfl,zd (fun j _ h => absurd h zz13),rfl⟩
 case round =>
  obtain ⟨k,hk,rfl,HS,rfl⟩:=hrel
  by_cases hlt:k<l.length
  ·obtain ⟨b1,o1,rfl,hl1,f0,s0⟩:=Row.str hx hlt
   have HBk:=zd (HB.out k hlt)
   have HN:Hid (l[k].size=16→∀ j (h:j<l.length),j<k+1→l[j].size=16):=zd (fun h0 j h hj => zz54)
   obtain ⟨x,hxx⟩:∃ x,l[k]=x:=⟨_,rfl⟩
   rw [hxx] at f0 HBk HN s0
   clear hxx
   by_cases h16:x.size=16
   ·have HNx:=zd (HN.out h16)
    have hq:((x.size:Int) != 16)=false:=by rw [bne_eq_false_iff_eq]; omega
    clear HB HE HBk HN h16
    go_wp2
    go_roundw
    case rel => exact ⟨k+1,zz13,by go_num,HNx,trivial⟩
    case measure => simp [intOf]; omega
   ·have HF:=zd (HBk.out h16)
    have hq:((x.size:Int) != 16)=true:=by rw [bne_iff_ne]; omega
    clear HB HE HBk HN h16
    go_wp2
    go_ret
    exact ⟨zz75,rfl⟩
  ·have hke:k=l.length:=by omega
   subst hke
   have HF:=zd (HE.out (fun k hk => HS.out k hk hk))
   have hc:((l.length:Int) == (n:Int))=decide (l.length=n):=by rw [Bool.eq_iff_iff,beq_iff_eq,decide_eq_true_iff]; omega
   have HC:=zd hc
   clear hc HB HE HS
   go_wp2
   go_ret
   exact ⟨yab (by rw [HF.out, ← HC.out]),rfl⟩
theorem impl_form (w:World) (x:Sig) (cs:List Value) (S:Blks) (hx:rd false w cs x S):Calls Tryz.prog 295 #[.agg cs.toArray] w fun e w' => e = .returned (.bool (sigForm x))∧Below w.heap.size w w':=by
 obtain ⟨A0,k0,S0,A1,k1,S1,A2,k2,S2,rfl,ha,l0,m0,r0,_,l1,m1,r1,_,l2,m2,r2,_⟩:=Sig.open hx
 clear hx
 obtain ⟨at_,op,sh,si⟩:=x
 simp only [Sig.cs]
 simp only at ha l0 m0 r0 l1 m1 r1 l2 m2 r2
 have R0:=fun W hb => impl_wide W op A0 k0 S0 (r0.later hb) (by exact Nat.le_trans l0 m0) 8 zz13
 have R1:=fun W hb => impl_wide W sh A1 k1 S1 (r1.later hb) (by exact Nat.le_trans l1 m1) 8 zz13
 have R2:=fun W hb => impl_wide W si A2 k2 S2 (r2.later hb) (by exact Nat.le_trans l2 m2) 4 zz13
 have HR0:=zd R0
 have HR1:=zd R1
 have HR2:=zd R2
 clear R0 R1 R2 r0 r1 r2
 have HF:Hid (sigForm ⟨at_,op,sh,si⟩=(inB at_ 0 15 && wideOk op 8 && wideOk sh 8 && wideOk si 4)):=zd rfl
 have HA:=fun W => (Below.refl W.heap.size W).alloc (Nat.le_refl _)
 cases hin:inB at_ 0 15
 ·rw [hin] at HF
  go_enter Tryz.func295,Tryz.ntmps295
  go_wp2_with (go_at_call 70; refine (impl_in _ _ _ _).mono ?_; rintro e w2 ⟨rfl,rfl⟩)
  go_ret; exact ⟨yab zz75,HA _ _⟩
 cases h0:wideOk op 8
 ·rw [hin,h0] at HF
  go_enter Tryz.func295,Tryz.ntmps295
  go_wp2_with (go_at_call 70; refine (impl_in _ _ _ _).mono ?_; rintro e w2 ⟨rfl,rfl⟩)
  refine (HR0.out _ (HA _ _)).mono ?_
  rintro e w2 ⟨rfl,rfl⟩
  rw [h0]
  go_wp2_with (fail)
  go_ret; exact ⟨yab zz75,HA _ _⟩
 cases h1:wideOk sh 8
 ·rw [hin,h0,h1] at HF
  go_enter Tryz.func295,Tryz.ntmps295
  go_wp2_with (go_at_call 70; refine (impl_in _ _ _ _).mono ?_; rintro e w2 ⟨rfl,rfl⟩)
  refine (HR0.out _ (HA _ _)).mono ?_
  rintro e w2 ⟨rfl,rfl⟩
  rw [h0]
  go_wp2_with (fail)
  refine (HR1.out _ (HA _ _)).mono ?_
  rintro e w2 ⟨rfl,rfl⟩
  rw [h1]
  go_wp2_with (fail)
  go_ret; exact ⟨yab zz75,HA _ _⟩
 ·rw [hin,h0,h1] at HF
  go_enter Tryz.func295,Tryz.ntmps295
  go_wp2_with (go_at_call 70; refine (impl_in _ _ _ _).mono ?_; rintro e w2 ⟨rfl,rfl⟩)
  refine (HR0.out _ (HA _ _)).mono ?_
  rintro e w2 ⟨rfl,rfl⟩
  rw [h0]
  go_wp2_with (fail)
  refine (HR1.out _ (HA _ _)).mono ?_
  rintro e w2 ⟨rfl,rfl⟩
  rw [h1]
  go_wp2_with (fail)
  refine (HR2.out _ (HA _ _)).mono ?_
  rintro e w2 ⟨rfl,rfl⟩
  obtain ⟨b,hb⟩:∃ b,wideOk si 4=b:=⟨_,rfl⟩
  rw [hb] at HF ⊢
  go_wp2_with (fail)
  go_ret; exact ⟨yab zz75,HA _ _⟩
theorem spec_form (w:World) (x:Sig) (cs:List Value) (S:Blks) (hx:rd false w cs x S):Calls Tryz.prog 288 #[.agg cs.toArray] w fun e w' => e = .returned (.bool (sigForm x))∧Below w.heap.size w w':=by
 obtain ⟨A0,k0,S0,A1,k1,S1,A2,k2,S2,rfl,ha,l0,m0,r0,_,l1,m1,r1,_,l2,m2,r2,_⟩:=Sig.open hx
 clear hx
 obtain ⟨at_,op,sh,si⟩:=x
 simp only [Sig.cs]
 simp only at ha l0 m0 r0 l1 m1 r1 l2 m2 r2
 have R0:=fun W hb => spec_wide W op A0 k0 S0 (r0.later hb) (by exact Nat.le_trans l0 m0) 8 zz13
 have R1:=fun W hb => spec_wide W sh A1 k1 S1 (r1.later hb) (by exact Nat.le_trans l1 m1) 8 zz13
 have R2:=fun W hb => spec_wide W si A2 k2 S2 (r2.later hb) (by exact Nat.le_trans l2 m2) 4 zz13
 have HR0:=zd R0
 have HR1:=zd R1
 have HR2:=zd R2
 clear R0 R1 R2 r0 r1 r2
 have HF:Hid (sigForm ⟨at_,op,sh,si⟩=(inB at_ 0 15 && wideOk op 8 && wideOk sh 8 && wideOk si 4)):=zd rfl
 have HA:=fun W => (Below.refl W.heap.size W).alloc (Nat.le_refl _)
 cases hin:inB at_ 0 15
 ·rw [hin] at HF
  go_enter Tryz.func288,Tryz.ntmps288
  go_wp2_with (go_at_call 62; refine (spec_in _ _ _ _).mono ?_; rintro e w2 ⟨rfl,rfl⟩)
  go_ret; exact ⟨yab zz75,HA _ _⟩
 cases h0:wideOk op 8
 ·rw [hin,h0] at HF
  go_enter Tryz.func288,Tryz.ntmps288
  go_wp2_with (go_at_call 62; refine (spec_in _ _ _ _).mono ?_; rintro e w2 ⟨rfl,rfl⟩)
  refine (HR0.out _ (HA _ _)).mono ?_
  rintro e w2 ⟨rfl,rfl⟩
  rw [h0]
  go_wp2_with (fail)
  go_ret; exact ⟨yab zz75,HA _ _⟩
 cases h1:wideOk sh 8
 ·rw [hin,h0,h1] at HF
  go_enter Tryz.func288,Tryz.ntmps288
  go_wp2_with (go_at_call 62; refine (spec_in _ _ _ _).mono ?_; rintro e w2 ⟨rfl,rfl⟩)
  refine (HR0.out _ (HA _ _)).mono ?_
  rintro e w2 ⟨rfl,rfl⟩
  rw [h0]
  go_wp2_with (fail)
  refine (HR1.out _ (HA _ _)).mono ?_
  rintro e w2 ⟨rfl,rfl⟩
  rw [h1]
  go_wp2_with (fail)
  go_ret; exact ⟨yab zz75,HA _ _⟩
 ·rw [hin,h0,h1] at HF
  go_enter Tryz.func288,Tryz.ntmps288
  go_wp2_with (go_at_call 62; refine (spec_in _ _ _ _).mono ?_; rintro e w2 ⟨rfl,rfl⟩)
  refine (HR0.out _ (HA _ _)).mono ?_
  rintro e w2 ⟨rfl,rfl⟩
  rw [h0]
  go_wp2_with (fail)
  refine (HR1.out _ (HA _ _)).mono ?_
  rintro e w2 ⟨rfl,rfl⟩
  rw [h1]
  go_wp2_with (fail)
  refine (HR2.out _ (HA _ _)).mono ?_
  rintro e w2 ⟨rfl,rfl⟩
  obtain ⟨b,hb⟩:∃ b,wideOk si 4=b:=⟨_,rfl⟩
  rw [hb] at HF ⊢
  go_wp2_with (fail)
  go_ret; exact ⟨yab zz75,HA _ _⟩
theorem impl_BitOf (w:World) (n:Nat) (hn:n<256) (k:Nat) (hk:k<8):Calls Tryz.prog 293 #[.int .i64 n,.int .i64 k] w fun e w' => e = .returned (.int .i64 (bitOf n k))∧w=w':=by
 rcases (show k=0∨k=1∨k=2∨k=3∨k=4∨k=5∨k=6∨k=7 by omega) with rfl | rfl | rfl | rfl | rfl | rfl | rfl | rfl
 ·have hi:inB 0 0 7=true:=by decide
  have hb:bitOf n 0=n / 128 % 2:=rfl
  have HB:=zd hb
  clear hb
  go_enter Tryz.func293,Tryz.ntmps293
  go_wp2_with (go_at_call 70; refine (impl_in _ _ _ _).mono ?_; rintro e w2 ⟨rfl,rfl⟩)
  go_ret
  exact ⟨zz53,rfl⟩
 ·have hi:inB 1 0 7=true:=by decide
  have hb:bitOf n 1=n / 64 % 2:=rfl
  have HB:=zd hb
  clear hb
  go_enter Tryz.func293,Tryz.ntmps293
  go_wp2_with (go_at_call 70; refine (impl_in _ _ _ _).mono ?_; rintro e w2 ⟨rfl,rfl⟩)
  go_ret
  exact ⟨zz53,rfl⟩
 ·have hi:inB 2 0 7=true:=by decide
  have hb:bitOf n 2=n / 32 % 2:=rfl
  have HB:=zd hb
  clear hb
  go_enter Tryz.func293,Tryz.ntmps293
  go_wp2_with (go_at_call 70; refine (impl_in _ _ _ _).mono ?_; rintro e w2 ⟨rfl,rfl⟩)
  go_ret
  exact ⟨zz53,rfl⟩
 ·have hi:inB 3 0 7=true:=by decide
  have hb:bitOf n 3=n / 16 % 2:=rfl
  have HB:=zd hb
  clear hb
  go_enter Tryz.func293,Tryz.ntmps293
  go_wp2_with (go_at_call 70; refine (impl_in _ _ _ _).mono ?_; rintro e w2 ⟨rfl,rfl⟩)
  go_ret
  exact ⟨zz53,rfl⟩
 ·have hi:inB 4 0 7=true:=by decide
  have hb:bitOf n 4=n / 8 % 2:=rfl
  have HB:=zd hb
  clear hb
  go_enter Tryz.func293,Tryz.ntmps293
  go_wp2_with (go_at_call 70; refine (impl_in _ _ _ _).mono ?_; rintro e w2 ⟨rfl,rfl⟩)
  go_ret
  exact ⟨zz53,rfl⟩
 ·have hi:inB 5 0 7=true:=by decide
  have hb:bitOf n 5=n / 4 % 2:=rfl
  have HB:=zd hb
  clear hb
  go_enter Tryz.func293,Tryz.ntmps293
  go_wp2_with (go_at_call 70; refine (impl_in _ _ _ _).mono ?_; rintro e w2 ⟨rfl,rfl⟩)
  go_ret
  exact ⟨zz53,rfl⟩
 ·have hi:inB 6 0 7=true:=by decide
  have hb:bitOf n 6=n / 2 % 2:=rfl
  have HB:=zd hb
  clear hb
  go_enter Tryz.func293,Tryz.ntmps293
  go_wp2_with (go_at_call 70; refine (impl_in _ _ _ _).mono ?_; rintro e w2 ⟨rfl,rfl⟩)
  go_ret
  exact ⟨zz53,rfl⟩
 ·have hi:inB 7 0 7=true:=by decide
  have hb:bitOf n 7=n / 1 % 2:=rfl
  have HB:=zd hb
  clear hb
  go_enter Tryz.func293,Tryz.ntmps293
  go_wp2_with (go_at_call 70; refine (impl_in _ _ _ _).mono ?_; rintro e w2 ⟨rfl,rfl⟩)
  go_ret
  exact ⟨zz53,rfl⟩
theorem spec_BitOf (w:World) (n:Nat) (hn:n<256) (k:Nat) (hk:k<8):Calls Tryz.prog 249 #[.int .i64 n,.int .i64 k] w fun e w' => e = .returned (.int .i64 (bitOf n k))∧w=w':=by
 rcases (show k=0∨k=1∨k=2∨k=3∨k=4∨k=5∨k=6∨k=7 by omega) with rfl | rfl | rfl | rfl | rfl | rfl | rfl | rfl
 ·have hi:inB 0 0 7=true:=by decide
  have hb:bitOf n 0=n / 128 % 2:=rfl
  have HB:=zd hb
  clear hb
  go_enter Tryz.func249,Tryz.ntmps249
  go_wp2_with (go_at_call 62; refine (spec_in _ _ _ _).mono ?_; rintro e w2 ⟨rfl,rfl⟩)
  go_ret
  exact ⟨zz53,rfl⟩
 ·have hi:inB 1 0 7=true:=by decide
  have hb:bitOf n 1=n / 64 % 2:=rfl
  have HB:=zd hb
  clear hb
  go_enter Tryz.func249,Tryz.ntmps249
  go_wp2_with (go_at_call 62; refine (spec_in _ _ _ _).mono ?_; rintro e w2 ⟨rfl,rfl⟩)
  go_ret
  exact ⟨zz53,rfl⟩
 ·have hi:inB 2 0 7=true:=by decide
  have hb:bitOf n 2=n / 32 % 2:=rfl
  have HB:=zd hb
  clear hb
  go_enter Tryz.func249,Tryz.ntmps249
  go_wp2_with (go_at_call 62; refine (spec_in _ _ _ _).mono ?_; rintro e w2 ⟨rfl,rfl⟩)
  go_ret
  exact ⟨zz53,rfl⟩
 ·have hi:inB 3 0 7=true:=by decide
  have hb:bitOf n 3=n / 16 % 2:=rfl
  have HB:=zd hb
  clear hb
  go_enter Tryz.func249,Tryz.ntmps249
  go_wp2_with (go_at_call 62; refine (spec_in _ _ _ _).mono ?_; rintro e w2 ⟨rfl,rfl⟩)
  go_ret
  exact ⟨zz53,rfl⟩
 ·have hi:inB 4 0 7=true:=by decide
  have hb:bitOf n 4=n / 8 % 2:=rfl
  have HB:=zd hb
  clear hb
  go_enter Tryz.func249,Tryz.ntmps249
  go_wp2_with (go_at_call 62; refine (spec_in _ _ _ _).mono ?_; rintro e w2 ⟨rfl,rfl⟩)
  go_ret
  exact ⟨zz53,rfl⟩
 ·have hi:inB 5 0 7=true:=by decide
  have hb:bitOf n 5=n / 4 % 2:=rfl
  have HB:=zd hb
  clear hb
  go_enter Tryz.func249,Tryz.ntmps249
  go_wp2_with (go_at_call 62; refine (spec_in _ _ _ _).mono ?_; rintro e w2 ⟨rfl,rfl⟩)
  go_ret
  exact ⟨zz53,rfl⟩
 ·have hi:inB 6 0 7=true:=by decide
  have hb:bitOf n 6=n / 2 % 2:=rfl
  have HB:=zd hb
  clear hb
  go_enter Tryz.func249,Tryz.ntmps249
  go_wp2_with (go_at_call 62; refine (spec_in _ _ _ _).mono ?_; rintro e w2 ⟨rfl,rfl⟩)
  go_ret
  exact ⟨zz53,rfl⟩
 ·have hi:inB 7 0 7=true:=by decide
  have hb:bitOf n 7=n / 1 % 2:=rfl
  have HB:=zd hb
  clear hb
  go_enter Tryz.func249,Tryz.ntmps249
  go_wp2_with (go_at_call 62; refine (spec_in _ _ _ _).mono ?_; rintro e w2 ⟨rfl,rfl⟩)
  go_ret
  exact ⟨zz53,rfl⟩
end Go.Proofs.YtcbbjfafmmcfiaaGreatDoor
