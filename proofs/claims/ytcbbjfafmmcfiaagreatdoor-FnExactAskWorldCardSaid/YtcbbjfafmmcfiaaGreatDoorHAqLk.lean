/- A part of the proof. -/
import Derived.Test.YtcbbjfafmmcfiaaGreatDoorHAqNz
set_option linter.unusedVariables false
set_option linter.unusedSimpArgs false
set_option maxRecDepth 20000
set_option maxHeartbeats 16000000
namespace Go.Proofs.YtcbbjfafmmcfiaaGreatDoor
open Go.RowKit Lay Mk
theorem look_no {s:Server} {e:Int} {name:ByteArray} (h:lookOk s e name=false):lookServer s e name=(⟨[], []⟩,false):=by unfold lookServer; rw [h]; rfl
theorem look_yes {s:Server} {e:Int} {name:ByteArray} (h:lookOk s e name=true):lookServer s e name=proveLeaf (s.views.getD e.toNat []) name s.k 16:=by unfold lookServer; rw [h]; rfl
theorem prove_noname {xs:List Leaf} {name:ByteArray} {lv n:Int} (h:nameOk name=false):proveLeaf xs name lv n=(⟨[], []⟩,false):=by unfold proveLeaf; rw [h]; simp
theorem look_spec {s:Server} {e:Int} {name:ByteArray} (h1:s.up=true) (h2:inB e 1 s.epoch=true) (h3:e<(s.views.length:Int)) (h4:inB s.k 0 2=true) (h5:shardOf name s.k=s.at_):lookServer s e name=proveLeaf (s.views.getD e.toNat []) name s.k 16:=by
 cases hn:nameOk name
 ·rw [prove_noname hn,look_no (by unfold lookOk; rw [hn]; simp)]
 ·rw [look_yes (by unfold lookOk; rw [h1,h2,h4,hn,decide_eq_true h3,decide_eq_true h5]; rfl)]
theorem server_views {s:Server} (h:s.sz≤1048576):szL s.views≤1048576:=by simp only [Server.sz] at h; omega
theorem views_at {vs:List (List Leaf)} {k:Nat} (hk:k<vs.length) (hz:szL vs≤1048576):szL vs[k]≤1048576∧vs[k].length≤1048576:=by
 have h1:=sz_le_L vs k hk
 have h2:Mk.sz vs[k]=szL vs[k]:=rfl
 have h3:=szT_le vs[k] 0
 omega
theorem getD_views {vs:List (List Leaf)} {k:Nat} (h:k<vs.length):vs.getD k []=vs[k]:=by
 rw [List.getD_eq_getElem?_getD,List.getElem?_eq_getElem h,Option.getD_some]
theorem in_lo {e lo hi:Int} (h:inB e lo hi=true):lo≤e∧e≤hi:=by simpa [inB] using h
theorem impl_LookServer (w:World) (s:Server) (cs:List Value) (S:Blks) (hx:rd false w cs s S) (hz:s.sz≤1048576) (e:Int) (he:I64 e) (name:ByteArray) (hn:name.size≤1048576) (hT:Tabs w):Calls Tryz.prog 12 #[.agg cs.toArray,.int .i64 e,.string name] w (PlRes (lookServer s e name) w):=by
 have HT:=zd hT
 clear hT
 have hnm:name.size≤maxLen:=zz56
 have hzv:=server_views hz
 obtain ⟨A0,k0,S0,A1,k1,SV,A2,k2,S2,A3,k3,S3,rfl,fat,fk,fe, -, -, -, -, -, -, -, -, -,rv, -⟩:=Server.open hx
 clear hx hz
 simp only [Server.cs]
 have HNO:=zd (fun h => look_no (s:=s) (e:=e) (name:=name) h)
 have HYE:=zd (fun h => look_yes (s:=s) (e:=e) (name:=name) h)
 have HYS:=zd (fun h1 h2 h3 h4 h5 => look_spec (s:=s) (e:=e) (name:=name) h1 h2 h3 h4 h5)
 have HLO:Hid (lookOk s e name=(s.up && (inB e 1 s.epoch && (decide (e<(s.views.length:Int)) && (inB s.k 0 2 && (nameOk name && decide (shardOf name s.k=s.at_))))))):=zd rfl
 obtain ⟨R,hR⟩:∃ R,lookServer s e name=R:=⟨_,rfl⟩
 rw [hR] at HNO HYE HYS ⊢
 obtain ⟨LO,hLO⟩:∃ b,lookOk s e name=b:=⟨_,rfl⟩
 rw [hLO] at HNO HYE HLO
 obtain ⟨u,hu⟩:∃ u,s.up=u:=⟨_,rfl⟩
 rw [hu] at HLO HYS ⊢
 clear hu
 obtain ⟨vs,hvs⟩:∃ vs,s.views=vs:=⟨_,rfl⟩
 rw [hvs] at HYE HYS HLO hzv rv ⊢
 clear hR hLO hvs
 have hWd:∀ W,W=(w.alloc (.cells #[.int .i64 s.at_,.int .i64 s.k,.bool u,.slice A0 s.disk.files.length k0,.int .i64 s.epoch,.slice A1 vs.length k1,.slice A2 s.taken.length k2,.slice A3 s.all.length k3,.int .i64 s.ready.epoch,.int .i64 s.ready.try_,.int .i64 s.ready.take] 46)).alloc (.cells #[.slice none 0 0,.slice none 0 0] 36)→Below w.heap.size w W∧W.heap.size=w.heap.size+2∧(∀ o,W.frozen? ⟨w.heap.size+1,o,none⟩=false)∧W.cell? ⟨w.heap.size,0,none⟩=some (.int .i64 s.at_)∧W.cell? ⟨w.heap.size,1,none⟩=some (.int .i64 s.k)∧W.cell? ⟨w.heap.size,2,none⟩=some (.bool u)∧W.cell? ⟨w.heap.size,4,none⟩=some (.int .i64 s.epoch)∧W.cell? ⟨w.heap.size,5,none⟩=some (.slice A1 vs.length k1)∧W.cell? ⟨w.heap.size+1,0,none⟩=some (.slice none 0 0)∧W.cell? ⟨w.heap.size+1,1,none⟩=some (.slice none 0 0):=by
  rintro W rfl
  refine ⟨((Below.refl _ _).alloc (Nat.le_refl _) _).alloc zz30 _,zz30,fun o => zz30,?_⟩
  refine ⟨zz30,zz30,zz30,zz30,zz30,zz30,zz30⟩
 have HIN:=zd (fun W => impl_in e 1 s.epoch W)
 have HSP:=zd (fun W => impl_isSplit s.k W)
 have HNM:=zd (fun W => impl_NameOk name W hnm)
 have HSH:=zd (fun W (h:Below w.heap.size w W) => impl_ShardOf W name hn s.k (HT.out.later h))
 cases u
 ·have HE:=zd (HNO.out (by rw [HLO.out]; simp))
  clear HLO HNO HYE HYS 
  go_enter Tryz.func12,Tryz.ntmps12
  go_wp2_with (fail)
  obtain ⟨W,hW⟩:∃ W,(w.alloc (.cells #[.int .i64 s.at_,.int .i64 s.k,.bool false,.slice A0 s.disk.files.length k0,.int .i64 s.epoch,.slice A1 vs.length k1,.slice A2 s.taken.length k2,.slice A3 s.all.length k3,.int .i64 s.ready.epoch,.int .i64 s.ready.try_,.int .i64 s.ready.take] 46)).alloc (.cells #[.slice none 0 0,.slice none 0 0] 36)=W:=⟨_,rfl⟩
  rw [hW]
  obtain ⟨hBW,hWs,zf,c0,c1,c2,c4,c5,z0,z1⟩:=hWd W hW.symm
  clear hW hWd
  have hlW:w.heap.size+2≤W.heap.size:=zz13
  have HBW:=zd hBW
  have Z0:=zd z0
  have Z1:=zd z1
  have ZF:=zd zf
  have HC1:=zd c1
  have HC5:=zd c5
  clear hWs z0 z1 zf hBW
  have Gc0:=Grown.cell c0
  have Gc1:=Grown.cell c1
  have Gc2:=Grown.cell c2
  have Gc4:=Grown.cell c4
  have Gc5:=Grown.cell c5
  clear c0 c1 c2 c4 c5
  refine ya4 (by kernel_rfl) (by kernel_rfl) ?_
  repeat (go_big_quiet_step (first | (go_at_call 70; with_reducible exact yac (HIN.out _)) | (go_at_call 71; with_reducible exact yac (HSP.out _)) | (go_at_call 72; with_reducible exact yac (HNM.out _)) | (go_at_call 73; exact ya8 (HSH.out _ (HBW.out.trans ((Grown.ok _).mono HBW.out.size))))))
  refine wpQuiet_nil ?_
  intro w7 hw_
  have hB7:=yaa hw_
  clear hw_ Gc0 Gc1 Gc2 Gc4 Gc5
  have HB7:=zd (HBW.out.trans (hB7.mono HBW.out.size))
  have z0:=(hB7.cell (p:=⟨w.heap.size+1,0,none⟩) zz12).trans Z0.out
  have z1:=(hB7.cell (p:=⟨w.heap.size+1,1,none⟩) zz12).trans Z1.out
  have zf:=fun o => (hB7.frozen (p:=⟨w.heap.size+1,o,none⟩) zz12).trans (ZF.out o)
  clear hB7
  go_wp2
  refine bodyPost_ret (v:=.tuple #[.agg #[.slice none 0 0,.slice none 0 0],.bool false]) (by simp [results,Tryz.results12,go_sem, *]) rfl ?_
  exact PlRes.nil HE.out (Below.setCell (Below.setCell HB7.out (Nat.le_add_right _ 1) _) (Nat.le_add_right _ 1) _)
 cases h2:inB e 1 s.epoch <;> rw [h2] at HIN HLO
 ·have HE:=zd (HNO.out (by rw [HLO.out]; simp))
  clear HLO HNO HYE HYS  h2
  go_enter Tryz.func12,Tryz.ntmps12
  go_wp2_with (fail)
  obtain ⟨W,hW⟩:∃ W,(w.alloc (.cells #[.int .i64 s.at_,.int .i64 s.k,.bool true,.slice A0 s.disk.files.length k0,.int .i64 s.epoch,.slice A1 vs.length k1,.slice A2 s.taken.length k2,.slice A3 s.all.length k3,.int .i64 s.ready.epoch,.int .i64 s.ready.try_,.int .i64 s.ready.take] 46)).alloc (.cells #[.slice none 0 0,.slice none 0 0] 36)=W:=⟨_,rfl⟩
  rw [hW]
  obtain ⟨hBW,hWs,zf,c0,c1,c2,c4,c5,z0,z1⟩:=hWd W hW.symm
  clear hW hWd
  have hlW:w.heap.size+2≤W.heap.size:=zz13
  have HBW:=zd hBW
  have Z0:=zd z0
  have Z1:=zd z1
  have ZF:=zd zf
  have HC1:=zd c1
  have HC5:=zd c5
  clear hWs z0 z1 zf hBW
  have Gc0:=Grown.cell c0
  have Gc1:=Grown.cell c1
  have Gc2:=Grown.cell c2
  have Gc4:=Grown.cell c4
  have Gc5:=Grown.cell c5
  clear c0 c1 c2 c4 c5
  refine ya4 (by kernel_rfl) (by kernel_rfl) ?_
  repeat (go_big_quiet_step (first | (go_at_call 70; with_reducible exact yac (HIN.out _)) | (go_at_call 71; with_reducible exact yac (HSP.out _)) | (go_at_call 72; with_reducible exact yac (HNM.out _)) | (go_at_call 73; exact ya8 (HSH.out _ (HBW.out.trans ((Grown.ok _).mono HBW.out.size))))))
  refine wpQuiet_nil ?_
  intro w7 hw_
  have hB7:=yaa hw_
  clear hw_ Gc0 Gc1 Gc2 Gc4 Gc5
  have HB7:=zd (HBW.out.trans (hB7.mono HBW.out.size))
  have z0:=(hB7.cell (p:=⟨w.heap.size+1,0,none⟩) zz12).trans Z0.out
  have z1:=(hB7.cell (p:=⟨w.heap.size+1,1,none⟩) zz12).trans Z1.out
  have zf:=fun o => (hB7.frozen (p:=⟨w.heap.size+1,o,none⟩) zz12).trans (ZF.out o)
  clear hB7
  go_wp2
  refine bodyPost_ret (v:=.tuple #[.agg #[.slice none 0 0,.slice none 0 0],.bool false]) (by simp [results,Tryz.results12,go_sem, *]) rfl ?_
  exact PlRes.nil HE.out (Below.setCell (Below.setCell HB7.out (Nat.le_add_right _ 1) _) (Nat.le_add_right _ 1) _)
 by_cases h3:(vs.length:Int)≤e
 ·have h3d:decide (e<(vs.length:Int))=false:=decide_eq_false zz13
  rw [h3d] at HLO
  have h3e:decide (e ≥ (vs.length:Int))=true:=decide_eq_true h3
  have HE:=zd (HNO.out (by rw [HLO.out]; simp))
  clear HLO HNO HYE HYS  h2 h3d h3
  go_enter Tryz.func12,Tryz.ntmps12
  go_wp2_with (fail)
  obtain ⟨W,hW⟩:∃ W,(w.alloc (.cells #[.int .i64 s.at_,.int .i64 s.k,.bool true,.slice A0 s.disk.files.length k0,.int .i64 s.epoch,.slice A1 vs.length k1,.slice A2 s.taken.length k2,.slice A3 s.all.length k3,.int .i64 s.ready.epoch,.int .i64 s.ready.try_,.int .i64 s.ready.take] 46)).alloc (.cells #[.slice none 0 0,.slice none 0 0] 36)=W:=⟨_,rfl⟩
  rw [hW]
  obtain ⟨hBW,hWs,zf,c0,c1,c2,c4,c5,z0,z1⟩:=hWd W hW.symm
  clear hW hWd
  have hlW:w.heap.size+2≤W.heap.size:=zz13
  have HBW:=zd hBW
  have Z0:=zd z0
  have Z1:=zd z1
  have ZF:=zd zf
  have HC1:=zd c1
  have HC5:=zd c5
  clear hWs z0 z1 zf hBW
  have Gc0:=Grown.cell c0
  have Gc1:=Grown.cell c1
  have Gc2:=Grown.cell c2
  have Gc4:=Grown.cell c4
  have Gc5:=Grown.cell c5
  clear c0 c1 c2 c4 c5
  refine ya4 (by kernel_rfl) (by kernel_rfl) ?_
  repeat (go_big_quiet_step (first | (go_at_call 70; with_reducible exact yac (HIN.out _)) | (go_at_call 71; with_reducible exact yac (HSP.out _)) | (go_at_call 72; with_reducible exact yac (HNM.out _)) | (go_at_call 73; exact ya8 (HSH.out _ (HBW.out.trans ((Grown.ok _).mono HBW.out.size))))))
  refine wpQuiet_nil ?_
  intro w7 hw_
  have hB7:=yaa hw_
  clear hw_ Gc0 Gc1 Gc2 Gc4 Gc5
  have HB7:=zd (HBW.out.trans (hB7.mono HBW.out.size))
  have z0:=(hB7.cell (p:=⟨w.heap.size+1,0,none⟩) zz12).trans Z0.out
  have z1:=(hB7.cell (p:=⟨w.heap.size+1,1,none⟩) zz12).trans Z1.out
  have zf:=fun o => (hB7.frozen (p:=⟨w.heap.size+1,o,none⟩) zz12).trans (ZF.out o)
  clear hB7
  go_wp2
  refine bodyPost_ret (v:=.tuple #[.agg #[.slice none 0 0,.slice none 0 0],.bool false]) (by simp [results,Tryz.results12,go_sem, *]) rfl ?_
  exact PlRes.nil HE.out (Below.setCell (Below.setCell HB7.out (Nat.le_add_right _ 1) _) (Nat.le_add_right _ 1) _)
 have h3d:decide (e<(vs.length:Int))=true:=decide_eq_true zz13
 rw [h3d] at HLO
 have h3e:decide (e ≥ (vs.length:Int))=false:=decide_eq_false zz13
 have H3:Hid (e<(vs.length:Int)):=zd zz13
 clear h3d h3
 cases h4:inB s.k 0 2 <;> rw [h4] at HSP HLO
 ·have HE:=zd (HNO.out (by rw [HLO.out]; simp))
  clear HLO HNO HYE HYS  h2 h4
  go_enter Tryz.func12,Tryz.ntmps12
  go_wp2_with (fail)
  obtain ⟨W,hW⟩:∃ W,(w.alloc (.cells #[.int .i64 s.at_,.int .i64 s.k,.bool true,.slice A0 s.disk.files.length k0,.int .i64 s.epoch,.slice A1 vs.length k1,.slice A2 s.taken.length k2,.slice A3 s.all.length k3,.int .i64 s.ready.epoch,.int .i64 s.ready.try_,.int .i64 s.ready.take] 46)).alloc (.cells #[.slice none 0 0,.slice none 0 0] 36)=W:=⟨_,rfl⟩
  rw [hW]
  obtain ⟨hBW,hWs,zf,c0,c1,c2,c4,c5,z0,z1⟩:=hWd W hW.symm
  clear hW hWd
  have hlW:w.heap.size+2≤W.heap.size:=zz13
  have HBW:=zd hBW
  have Z0:=zd z0
  have Z1:=zd z1
  have ZF:=zd zf
  have HC1:=zd c1
  have HC5:=zd c5
  clear hWs z0 z1 zf hBW
  have Gc0:=Grown.cell c0
  have Gc1:=Grown.cell c1
  have Gc2:=Grown.cell c2
  have Gc4:=Grown.cell c4
  have Gc5:=Grown.cell c5
  clear c0 c1 c2 c4 c5
  refine ya4 (by kernel_rfl) (by kernel_rfl) ?_
  repeat (go_big_quiet_step (first | (go_at_call 70; with_reducible exact yac (HIN.out _)) | (go_at_call 71; with_reducible exact yac (HSP.out _)) | (go_at_call 72; with_reducible exact yac (HNM.out _)) | (go_at_call 73; exact ya8 (HSH.out _ (HBW.out.trans ((Grown.ok _).mono HBW.out.size))))))
  refine wpQuiet_nil ?_
  intro w7 hw_
  have hB7:=yaa hw_
  clear hw_ Gc0 Gc1 Gc2 Gc4 Gc5
  have HB7:=zd (HBW.out.trans (hB7.mono HBW.out.size))
  have z0:=(hB7.cell (p:=⟨w.heap.size+1,0,none⟩) zz12).trans Z0.out
  have z1:=(hB7.cell (p:=⟨w.heap.size+1,1,none⟩) zz12).trans Z1.out
  have zf:=fun o => (hB7.frozen (p:=⟨w.heap.size+1,o,none⟩) zz12).trans (ZF.out o)
  clear hB7
  go_wp2
  refine bodyPost_ret (v:=.tuple #[.agg #[.slice none 0 0,.slice none 0 0],.bool false]) (by simp [results,Tryz.results12,go_sem, *]) rfl ?_
  exact PlRes.nil HE.out (Below.setCell (Below.setCell HB7.out (Nat.le_add_right _ 1) _) (Nat.le_add_right _ 1) _)
 cases h5:nameOk name <;> rw [h5] at HNM HLO
 ·have HE:=zd (HNO.out (by rw [HLO.out]; simp))
  clear HLO HNO HYE HYS  h2 h4 h5
  go_enter Tryz.func12,Tryz.ntmps12
  go_wp2_with (fail)
  obtain ⟨W,hW⟩:∃ W,(w.alloc (.cells #[.int .i64 s.at_,.int .i64 s.k,.bool true,.slice A0 s.disk.files.length k0,.int .i64 s.epoch,.slice A1 vs.length k1,.slice A2 s.taken.length k2,.slice A3 s.all.length k3,.int .i64 s.ready.epoch,.int .i64 s.ready.try_,.int .i64 s.ready.take] 46)).alloc (.cells #[.slice none 0 0,.slice none 0 0] 36)=W:=⟨_,rfl⟩
  rw [hW]
  obtain ⟨hBW,hWs,zf,c0,c1,c2,c4,c5,z0,z1⟩:=hWd W hW.symm
  clear hW hWd
  have hlW:w.heap.size+2≤W.heap.size:=zz13
  have HBW:=zd hBW
  have Z0:=zd z0
  have Z1:=zd z1
  have ZF:=zd zf
  have HC1:=zd c1
  have HC5:=zd c5
  clear hWs z0 z1 zf hBW
  have Gc0:=Grown.cell c0
  have Gc1:=Grown.cell c1
  have Gc2:=Grown.cell c2
  have Gc4:=Grown.cell c4
  have Gc5:=Grown.cell c5
  clear c0 c1 c2 c4 c5
  refine ya4 (by kernel_rfl) (by kernel_rfl) ?_
  repeat (go_big_quiet_step (first | (go_at_call 70; with_reducible exact yac (HIN.out _)) | (go_at_call 71; with_reducible exact yac (HSP.out _)) | (go_at_call 72; with_reducible exact yac (HNM.out _)) | (go_at_call 73; exact ya8 (HSH.out _ (HBW.out.trans ((Grown.ok _).mono HBW.out.size))))))
  refine wpQuiet_nil ?_
  intro w7 hw_
  have hB7:=yaa hw_
  clear hw_ Gc0 Gc1 Gc2 Gc4 Gc5
  have HB7:=zd (HBW.out.trans (hB7.mono HBW.out.size))
  have z0:=(hB7.cell (p:=⟨w.heap.size+1,0,none⟩) zz12).trans Z0.out
  have z1:=(hB7.cell (p:=⟨w.heap.size+1,1,none⟩) zz12).trans Z1.out
  have zf:=fun o => (hB7.frozen (p:=⟨w.heap.size+1,o,none⟩) zz12).trans (ZF.out o)
  clear hB7
  go_wp2
  refine bodyPost_ret (v:=.tuple #[.agg #[.slice none 0 0,.slice none 0 0],.bool false]) (by simp [results,Tryz.results12,go_sem, *]) rfl ?_
  exact PlRes.nil HE.out (Below.setCell (Below.setCell HB7.out (Nat.le_add_right _ 1) _) (Nat.le_add_right _ 1) _)
 obtain ⟨sh,hsh⟩:∃ v,shardOf name s.k=v:=⟨_,rfl⟩
 rw [hsh] at HSH HLO HYS
 clear hsh
 by_cases h6:sh=s.at_
 rotate_left
 ·have h6d:decide (sh=s.at_)=false:=decide_eq_false h6
  rw [h6d] at HLO
  have h6e:(sh == s.at_)=false:=beq_eq_false_iff_ne.2 h6
  have h6n:(sh != s.at_)=true:=by rw [bne,h6e]; rfl
  have HE:=zd (HNO.out (by rw [HLO.out]; simp))
  clear HLO HNO HYE HYS  h2 h4 h5 h6d h6
  go_enter Tryz.func12,Tryz.ntmps12
  go_wp2_with (fail)
  obtain ⟨W,hW⟩:∃ W,(w.alloc (.cells #[.int .i64 s.at_,.int .i64 s.k,.bool true,.slice A0 s.disk.files.length k0,.int .i64 s.epoch,.slice A1 vs.length k1,.slice A2 s.taken.length k2,.slice A3 s.all.length k3,.int .i64 s.ready.epoch,.int .i64 s.ready.try_,.int .i64 s.ready.take] 46)).alloc (.cells #[.slice none 0 0,.slice none 0 0] 36)=W:=⟨_,rfl⟩
  rw [hW]
  obtain ⟨hBW,hWs,zf,c0,c1,c2,c4,c5,z0,z1⟩:=hWd W hW.symm
  clear hW hWd
  have hlW:w.heap.size+2≤W.heap.size:=zz13
  have HBW:=zd hBW
  have Z0:=zd z0
  have Z1:=zd z1
  have ZF:=zd zf
  have HC1:=zd c1
  have HC5:=zd c5
  clear hWs z0 z1 zf hBW
  have Gc0:=Grown.cell c0
  have Gc1:=Grown.cell c1
  have Gc2:=Grown.cell c2
  have Gc4:=Grown.cell c4
  have Gc5:=Grown.cell c5
  clear c0 c1 c2 c4 c5
  refine ya4 (by kernel_rfl) (by kernel_rfl) ?_
  repeat (go_big_quiet_step (first | (go_at_call 70; with_reducible exact yac (HIN.out _)) | (go_at_call 71; with_reducible exact yac (HSP.out _)) | (go_at_call 72; with_reducible exact yac (HNM.out _)) | (go_at_call 73; exact ya8 (HSH.out _ (HBW.out.trans ((Grown.ok _).mono HBW.out.size))))))
  refine wpQuiet_nil ?_
  intro w7 hw_
  have hB7:=yaa hw_
  clear hw_ Gc0 Gc1 Gc2 Gc4 Gc5
  have HB7:=zd (HBW.out.trans (hB7.mono HBW.out.size))
  have z0:=(hB7.cell (p:=⟨w.heap.size+1,0,none⟩) zz12).trans Z0.out
  have z1:=(hB7.cell (p:=⟨w.heap.size+1,1,none⟩) zz12).trans Z1.out
  have zf:=fun o => (hB7.frozen (p:=⟨w.heap.size+1,o,none⟩) zz12).trans (ZF.out o)
  clear hB7
  go_wp2
  refine bodyPost_ret (v:=.tuple #[.agg #[.slice none 0 0,.slice none 0 0],.bool false]) (by simp [results,Tryz.results12,go_sem, *]) rfl ?_
  exact PlRes.nil HE.out (Below.setCell (Below.setCell HB7.out (Nat.le_add_right _ 1) _) (Nat.le_add_right _ 1) _)
 have h6d:decide (sh=s.at_)=true:=decide_eq_true h6
 rw [h6d] at HLO
 have h6e:(sh == s.at_)=true:=beq_iff_eq.2 h6
 have h6n:(sh != s.at_)=false:=by rw [bne,h6e]; rfl
 have H6:=zd h6
 clear h6d h6
 have hE1:=in_lo h2
 obtain ⟨i,hi⟩:∃ i:Nat,e=(i:Int):=⟨e.toNat,zz13⟩
 subst hi
 have hiv:i<vs.length:=by have:=H3.out; omega
 have HE:Hid (R=proveLeaf vs[i] name s.k 16):=zd (by rw [HYE.out HLO.out,Int.toNat_natCast,getD_views hiv])
 obtain ⟨hzl,hll⟩:=views_at hiv hzv
 obtain ⟨b1,o1,cc,T,rfl,hl1,ha,hr, -, -⟩:=Row.at_ rv hiv
 obtain ⟨AL,kL,rfl,lL,mL,rL⟩:=open_list hr
 have e0:=ha 0 _ rfl
 simp only [show Lay.n (List Leaf)=1 from rfl,Nat.mul_one,Nat.add_zero] at e0
 obtain ⟨xs,hxs⟩:∃ xs,vs[i]=xs:=⟨_,rfl⟩
 rw [hxs] at HE rL lL
 simp only [hxs] at e0 hzl hll
 have HPV:=zd (fun W (h:Below w.heap.size w W) => impl_ProveLeaf W xs AL kL T (Row.later rL h) hll hzl name hn s.k fk 16 zz41 (HT.out.later h))
 obtain ⟨R2,hR2⟩:∃ R2,proveLeaf xs name s.k 16=R2:=⟨_,rfl⟩
 rw [hR2] at HE HPV
 obtain ⟨⟨RB,RL⟩,rb⟩:=R2
 have hil:(i:Int)<(vs.length:Int):=zz13
 have hi0:(0:Int)≤(i:Int):=zz13
 have HH3:=zd hiv
 have h3n:decide (vs.length≤i)=false:=decide_eq_false zz13
 clear hR2 hxs HLO HNO HYE HYS h2 h4 h5 hE1 ha hr rv hzv hiv
 go_enter Tryz.func12,Tryz.ntmps12
 go_wp2_with (fail)
 obtain ⟨W,hW⟩:∃ W,(w.alloc (.cells #[.int .i64 s.at_,.int .i64 s.k,.bool true,.slice A0 s.disk.files.length k0,.int .i64 s.epoch,.slice (some ⟨b1,o1,none⟩) vs.length k1,.slice A2 s.taken.length k2,.slice A3 s.all.length k3,.int .i64 s.ready.epoch,.int .i64 s.ready.try_,.int .i64 s.ready.take] 46)).alloc (.cells #[.slice none 0 0,.slice none 0 0] 36)=W:=⟨_,rfl⟩
 rw [hW]
 obtain ⟨hBW,hWs,zf,c0,c1,c2,c4,c5,z0,z1⟩:=hWd W hW.symm
 clear hW hWd
 have hlW:w.heap.size+2≤W.heap.size:=zz13
 have HBW:=zd hBW
 have Z0:=zd z0
 have Z1:=zd z1
 have ZF:=zd zf
 have HC1:=zd c1
 have HC5:=zd c5
 clear hWs z0 z1 zf hBW
 have Gc0:=Grown.cell c0
 have Gc1:=Grown.cell c1
 have Gc2:=Grown.cell c2
 have Gc4:=Grown.cell c4
 have Gc5:=Grown.cell c5
 clear c0 c1 c2 c4 c5
 refine ya4 (by kernel_rfl) (by kernel_rfl) ?_
 repeat (go_big_quiet_step (first | (go_at_call 70; with_reducible exact yac (HIN.out _)) | (go_at_call 71; with_reducible exact yac (HSP.out _)) | (go_at_call 72; with_reducible exact yac (HNM.out _)) | (go_at_call 73; exact ya8 (HSH.out _ (HBW.out.trans ((Grown.ok _).mono HBW.out.size))))))
 refine wpQuiet_nil ?_
 intro w7 hw_
 have hB7:=yaa hw_
 clear hw_ Gc0 Gc1 Gc2 Gc4 Gc5
 have HB7:=zd (HBW.out.trans (hB7.mono HBW.out.size))
 have z0:=(hB7.cell (p:=⟨w.heap.size+1,0,none⟩) zz12).trans Z0.out
 have z1:=(hB7.cell (p:=⟨w.heap.size+1,1,none⟩) zz12).trans Z1.out
 have zf:=fun o => (hB7.frozen (p:=⟨w.heap.size+1,o,none⟩) zz12).trans (ZF.out o)
 have hBz:Below (w.heap.size+1) W w7:=hB7.mono zz13
 have HE0:=zd e0
 have HM:=zd (fun (w':World) (h:Below (w.heap.size+1) W w') => (⟨(h.cell (p:=⟨w.heap.size,5,none⟩) zz22).trans HC5.out,(h.cell (p:=⟨b1,o1+i,none⟩) (by show b1<_; omega)).trans ((HBW.out.cell (p:=⟨b1,o1+i,none⟩) hl1).trans HE0.out),(h.cell (p:=⟨w.heap.size,1,none⟩) zz22).trans HC1.out,h⟩:w'.cell? ⟨w.heap.size,5,none⟩=some (.slice (some ⟨b1,o1,none⟩) vs.length k1)∧w'.cell? ⟨b1,o1+i,none⟩=some (.slice AL xs.length kL)∧w'.cell? ⟨w.heap.size,1,none⟩=some (.int .i64 s.k)∧Below (w.heap.size+1) W w'))
 have hs7:=hB7.size
 have hBW7:=HB7.out
 have hB:=hBz
 clear hB7 e0
 have hsw7:w.heap.size+2≤w7.heap.size:=zz13
 have HPW:=zd (fun (w':World) (h:Below w7.heap.size w7 w') => (⟨(h.cell (p:=⟨w.heap.size+1,0,none⟩) zz12).trans z0,(h.cell (p:=⟨w.heap.size+1,1,none⟩) zz12).trans z1,fun o => (h.frozen (p:=⟨w.heap.size+1,o,none⟩) zz12).trans (zf o)⟩:w'.cell? ⟨w.heap.size+1,0,none⟩=some (.slice none 0 0)∧w'.cell? ⟨w.heap.size+1,1,none⟩=some (.slice none 0 0)∧∀ o,w'.frozen? ⟨w.heap.size+1,o,none⟩=false))
 go_wp2_with (fail)
 go_region_held3 (fun w' => w'.cell? ⟨w.heap.size,5,none⟩=some (.slice (some ⟨b1,o1,none⟩) vs.length k1)∧w'.cell? ⟨b1,o1+i,none⟩=some (.slice AL xs.length kL)∧w'.cell? ⟨w.heap.size,1,none⟩=some (.int .i64 s.k)∧Below (w.heap.size+1) W w')
  (first | exact HM.out _ (by have zh:=hB; exact zz10))
  (first | (go_at_call 74; refine (HPV.out _ (by first | exact hBW7 | exact hBW7.drew)).mono ?_; rintro e8 w8 ⟨cr,rfl,hr8,hb8⟩; have hb9:Below w7.heap.size w7 w8:=(by first | exact hb8 | exact Below.viad hb8); have hs8:=hb9.size; have hB:=hBz.trans (hb9.mono zz13); have y0:=(HPW.out _ hb9).1; have y1:=(HPW.out _ hb9).2.1; have yf:=(HPW.out _ hb9).2.2; obtain ⟨P0,n0,T0,P1,n1,T1,rfl,pl0,pm0,pr0,ps0,pl1,pm1,pr1,ps1,pw⟩:=Proof.open (Lay.mono hr8 (S':=rng w7.heap.size w8.heap.size) (fun b h => h)); have HPP:=zd (And.intro pl0 (And.intro pm0 (And.intro pr0 (And.intro ps0 (And.intro pl1 (And.intro pm1 (And.intro pr1 (And.intro ps1 pw)))))))); have HB8:=zd (hBW7.trans (hb9.mono hBW7.size)); clear hr8 hb8 hb9 pl0 pm0 pr0 ps0 pl1 pm1 pr1 ps1 pw; simp only [Proof.cs]) | fail)
 go_wp2
 refine bodyPost_ret (v:=.tuple #[.agg #[.slice P0 RB.length n0,.slice P1 RL.length n1],.bool rb]) (by simp [results,Tryz.results12,go_sem, *]) rfl ?_
 obtain ⟨pl0,pm0,pr0,ps0,pl1,pm1,pr1,ps1,pw⟩:=HPP.out
 have hq0:∀ o:Nat, ¬ T0 (⟨w.heap.size+1,o,none⟩:Addr).block:=fun o h => by have h1:=(ps0 _ h).1; simp only at h1; omega
 have hq1:∀ o:Nat, ¬ T1 (⟨w.heap.size+1,o,none⟩:Addr).block:=fun o h => by have h1:=(ps1 _ h).1; simp only at h1; omega
 rw [HE.out]
 exact ⟨_,rfl,Proof.mk' (x:=⟨RB,RL⟩) pl0 pm0 ((pr0.setC (hq0 0) _).setC (hq0 1) _) (fun b h => by have h2:=ps0 b h; unfold rng at h2 ⊢; simp; omega) pl1 pm1 ((pr1.setC (hq1 0) _).setC (hq1 1) _) (fun b h => by have h2:=ps1 b h; unfold rng at h2 ⊢; simp; omega) (fun _ => pw (by trivial)),Below.setCell (Below.setCell HB8.out (Nat.le_add_right _ 1) _) (Nat.le_add_right _ 1) _⟩
theorem spec_LookServer (w:World) (s:Server) (cs:List Value) (S:Blks) (hx:rd false w cs s S) (hz:s.sz≤1048576) (e:Int) (he:I64 e) (name:ByteArray) (hn:name.size≤1048576):Calls Tryz.prog 10 #[.agg cs.toArray,.int .i64 e,.string name] w (PlRes (lookServer s e name) w):=by
 have hnm:name.size≤maxLen:=zz56
 have hzv:=server_views hz
 obtain ⟨A0,k0,S0,A1,k1,SV,A2,k2,S2,A3,k3,S3,rfl,fat,fk,fe, -, -, -, -, -, -, -, -, -,rv, -⟩:=Server.open hx
 clear hx hz
 simp only [Server.cs]
 have HNO:=zd (fun h => look_no (s:=s) (e:=e) (name:=name) h)
 have HYE:=zd (fun h => look_yes (s:=s) (e:=e) (name:=name) h)
 have HYS:=zd (fun h1 h2 h3 h4 h5 => look_spec (s:=s) (e:=e) (name:=name) h1 h2 h3 h4 h5)
 have HLO:Hid (lookOk s e name=(s.up && (inB e 1 s.epoch && (decide (e<(s.views.length:Int)) && (inB s.k 0 2 && (nameOk name && decide (shardOf name s.k=s.at_))))))):=zd rfl
 obtain ⟨R,hR⟩:∃ R,lookServer s e name=R:=⟨_,rfl⟩
 rw [hR] at HNO HYE HYS ⊢
 obtain ⟨LO,hLO⟩:∃ b,lookOk s e name=b:=⟨_,rfl⟩
 rw [hLO] at HNO HYE HLO
 obtain ⟨u,hu⟩:∃ u,s.up=u:=⟨_,rfl⟩
 rw [hu] at HLO HYS ⊢
 clear hu
 obtain ⟨vs,hvs⟩:∃ vs,s.views=vs:=⟨_,rfl⟩
 rw [hvs] at HYE HYS HLO hzv rv ⊢
 clear hR hLO hvs
 have hWd:∀ W,W=(w.alloc (.cells #[.int .i64 s.at_,.int .i64 s.k,.bool u,.slice A0 s.disk.files.length k0,.int .i64 s.epoch,.slice A1 vs.length k1,.slice A2 s.taken.length k2,.slice A3 s.all.length k3,.int .i64 s.ready.epoch,.int .i64 s.ready.try_,.int .i64 s.ready.take] 46)).alloc (.cells #[.slice none 0 0,.slice none 0 0] 36)→Below w.heap.size w W∧W.heap.size=w.heap.size+2∧(∀ o,W.frozen? ⟨w.heap.size+1,o,none⟩=false)∧W.cell? ⟨w.heap.size,0,none⟩=some (.int .i64 s.at_)∧W.cell? ⟨w.heap.size,1,none⟩=some (.int .i64 s.k)∧W.cell? ⟨w.heap.size,2,none⟩=some (.bool u)∧W.cell? ⟨w.heap.size,4,none⟩=some (.int .i64 s.epoch)∧W.cell? ⟨w.heap.size,5,none⟩=some (.slice A1 vs.length k1)∧W.cell? ⟨w.heap.size+1,0,none⟩=some (.slice none 0 0)∧W.cell? ⟨w.heap.size+1,1,none⟩=some (.slice none 0 0):=by
  rintro W rfl
  refine ⟨((Below.refl _ _).alloc (Nat.le_refl _) _).alloc zz30 _,zz30,fun o => zz30,?_⟩
  refine ⟨zz30,zz30,zz30,zz30,zz30,zz30,zz30⟩
 have HIN:=zd (fun W => spec_in e 1 s.epoch W)
 have HSP:=zd (fun W => spec_in s.k 0 2 W)
 have HSH:=zd (fun W => spec_ShardOf W name hn s.k)
 cases u
 ·have HE:=zd (HNO.out (by rw [HLO.out]; simp))
  clear HLO HNO HYE HYS 
  go_enter Tryz.func10,Tryz.ntmps10
  go_wp2_with (fail)
  obtain ⟨W,hW⟩:∃ W,(w.alloc (.cells #[.int .i64 s.at_,.int .i64 s.k,.bool false,.slice A0 s.disk.files.length k0,.int .i64 s.epoch,.slice A1 vs.length k1,.slice A2 s.taken.length k2,.slice A3 s.all.length k3,.int .i64 s.ready.epoch,.int .i64 s.ready.try_,.int .i64 s.ready.take] 46)).alloc (.cells #[.slice none 0 0,.slice none 0 0] 36)=W:=⟨_,rfl⟩
  rw [hW]
  obtain ⟨hBW,hWs,zf,c0,c1,c2,c4,c5,z0,z1⟩:=hWd W hW.symm
  clear hW hWd
  have hlW:w.heap.size+2≤W.heap.size:=zz13
  have HBW:=zd hBW
  have Z0:=zd z0
  have Z1:=zd z1
  have ZF:=zd zf
  have HC1:=zd c1
  have HC5:=zd c5
  clear hWs z0 z1 zf hBW
  have Gc0:=Grown.cell c0
  have Gc1:=Grown.cell c1
  have Gc2:=Grown.cell c2
  have Gc4:=Grown.cell c4
  have Gc5:=Grown.cell c5
  clear c0 c1 c2 c4 c5
  refine ya4 (by kernel_rfl) (by kernel_rfl) ?_
  repeat (go_big_quiet_step (first | (go_at_call 62; with_reducible exact yac (HIN.out _)) | (go_at_call 62; with_reducible exact yac (HSP.out _)) | (go_at_call 63; exact ya8 (HSH.out _))))
  refine wpQuiet_nil ?_
  intro w7 hw_
  have hB7:=yaa hw_
  clear hw_ Gc0 Gc1 Gc2 Gc4 Gc5
  have HB7:=zd (HBW.out.trans (hB7.mono HBW.out.size))
  have z0:=(hB7.cell (p:=⟨w.heap.size+1,0,none⟩) zz12).trans Z0.out
  have z1:=(hB7.cell (p:=⟨w.heap.size+1,1,none⟩) zz12).trans Z1.out
  have zf:=fun o => (hB7.frozen (p:=⟨w.heap.size+1,o,none⟩) zz12).trans (ZF.out o)
  clear hB7
  go_wp2
  refine bodyPost_ret (v:=.tuple #[.agg #[.slice none 0 0,.slice none 0 0],.bool false]) (by simp [results,Tryz.results10,go_sem, *]) rfl ?_
  exact PlRes.nil HE.out (Below.setCell (Below.setCell HB7.out (Nat.le_add_right _ 1) _) (Nat.le_add_right _ 1) _)
 cases h2:inB e 1 s.epoch <;> rw [h2] at HIN HLO
 ·have HE:=zd (HNO.out (by rw [HLO.out]; simp))
  clear HLO HNO HYE HYS  h2
  go_enter Tryz.func10,Tryz.ntmps10
  go_wp2_with (fail)
  obtain ⟨W,hW⟩:∃ W,(w.alloc (.cells #[.int .i64 s.at_,.int .i64 s.k,.bool true,.slice A0 s.disk.files.length k0,.int .i64 s.epoch,.slice A1 vs.length k1,.slice A2 s.taken.length k2,.slice A3 s.all.length k3,.int .i64 s.ready.epoch,.int .i64 s.ready.try_,.int .i64 s.ready.take] 46)).alloc (.cells #[.slice none 0 0,.slice none 0 0] 36)=W:=⟨_,rfl⟩
  rw [hW]
  obtain ⟨hBW,hWs,zf,c0,c1,c2,c4,c5,z0,z1⟩:=hWd W hW.symm
  clear hW hWd
  have hlW:w.heap.size+2≤W.heap.size:=zz13
  have HBW:=zd hBW
  have Z0:=zd z0
  have Z1:=zd z1
  have ZF:=zd zf
  have HC1:=zd c1
  have HC5:=zd c5
  clear hWs z0 z1 zf hBW
  have Gc0:=Grown.cell c0
  have Gc1:=Grown.cell c1
  have Gc2:=Grown.cell c2
  have Gc4:=Grown.cell c4
  have Gc5:=Grown.cell c5
  clear c0 c1 c2 c4 c5
  refine ya4 (by kernel_rfl) (by kernel_rfl) ?_
  repeat (go_big_quiet_step (first | (go_at_call 62; with_reducible exact yac (HIN.out _)) | (go_at_call 62; with_reducible exact yac (HSP.out _)) | (go_at_call 63; exact ya8 (HSH.out _))))
  refine wpQuiet_nil ?_
  intro w7 hw_
  have hB7:=yaa hw_
  clear hw_ Gc0 Gc1 Gc2 Gc4 Gc5
  have HB7:=zd (HBW.out.trans (hB7.mono HBW.out.size))
  have z0:=(hB7.cell (p:=⟨w.heap.size+1,0,none⟩) zz12).trans Z0.out
  have z1:=(hB7.cell (p:=⟨w.heap.size+1,1,none⟩) zz12).trans Z1.out
  have zf:=fun o => (hB7.frozen (p:=⟨w.heap.size+1,o,none⟩) zz12).trans (ZF.out o)
  clear hB7
  go_wp2
  refine bodyPost_ret (v:=.tuple #[.agg #[.slice none 0 0,.slice none 0 0],.bool false]) (by simp [results,Tryz.results10,go_sem, *]) rfl ?_
  exact PlRes.nil HE.out (Below.setCell (Below.setCell HB7.out (Nat.le_add_right _ 1) _) (Nat.le_add_right _ 1) _)
 by_cases h3:(vs.length:Int)≤e
 ·have h3d:decide (e<(vs.length:Int))=false:=decide_eq_false zz13
  rw [h3d] at HLO
  have h3e:decide (e ≥ (vs.length:Int))=true:=decide_eq_true h3
  have HE:=zd (HNO.out (by rw [HLO.out]; simp))
  clear HLO HNO HYE HYS  h2 h3d h3
  go_enter Tryz.func10,Tryz.ntmps10
  go_wp2_with (fail)
  obtain ⟨W,hW⟩:∃ W,(w.alloc (.cells #[.int .i64 s.at_,.int .i64 s.k,.bool true,.slice A0 s.disk.files.length k0,.int .i64 s.epoch,.slice A1 vs.length k1,.slice A2 s.taken.length k2,.slice A3 s.all.length k3,.int .i64 s.ready.epoch,.int .i64 s.ready.try_,.int .i64 s.ready.take] 46)).alloc (.cells #[.slice none 0 0,.slice none 0 0] 36)=W:=⟨_,rfl⟩
  rw [hW]
  obtain ⟨hBW,hWs,zf,c0,c1,c2,c4,c5,z0,z1⟩:=hWd W hW.symm
  clear hW hWd
  have hlW:w.heap.size+2≤W.heap.size:=zz13
  have HBW:=zd hBW
  have Z0:=zd z0
  have Z1:=zd z1
  have ZF:=zd zf
  have HC1:=zd c1
  have HC5:=zd c5
  clear hWs z0 z1 zf hBW
  have Gc0:=Grown.cell c0
  have Gc1:=Grown.cell c1
  have Gc2:=Grown.cell c2
  have Gc4:=Grown.cell c4
  have Gc5:=Grown.cell c5
  clear c0 c1 c2 c4 c5
  refine ya4 (by kernel_rfl) (by kernel_rfl) ?_
  repeat (go_big_quiet_step (first | (go_at_call 62; with_reducible exact yac (HIN.out _)) | (go_at_call 62; with_reducible exact yac (HSP.out _)) | (go_at_call 63; exact ya8 (HSH.out _))))
  refine wpQuiet_nil ?_
  intro w7 hw_
  have hB7:=yaa hw_
  clear hw_ Gc0 Gc1 Gc2 Gc4 Gc5
  have HB7:=zd (HBW.out.trans (hB7.mono HBW.out.size))
  have z0:=(hB7.cell (p:=⟨w.heap.size+1,0,none⟩) zz12).trans Z0.out
  have z1:=(hB7.cell (p:=⟨w.heap.size+1,1,none⟩) zz12).trans Z1.out
  have zf:=fun o => (hB7.frozen (p:=⟨w.heap.size+1,o,none⟩) zz12).trans (ZF.out o)
  clear hB7
  go_wp2
  refine bodyPost_ret (v:=.tuple #[.agg #[.slice none 0 0,.slice none 0 0],.bool false]) (by simp [results,Tryz.results10,go_sem, *]) rfl ?_
  exact PlRes.nil HE.out (Below.setCell (Below.setCell HB7.out (Nat.le_add_right _ 1) _) (Nat.le_add_right _ 1) _)
 have h3d:decide (e<(vs.length:Int))=true:=decide_eq_true zz13
 rw [h3d] at HLO
 have h3e:decide (e ≥ (vs.length:Int))=false:=decide_eq_false zz13
 have H3:Hid (e<(vs.length:Int)):=zd zz13
 clear h3d h3
 obtain ⟨sh,hsh⟩:∃ v,shardOf name s.k=v:=⟨_,rfl⟩
 rw [hsh] at HSH HLO HYS
 clear hsh
 by_cases h6:sh=s.at_
 rotate_left
 ·have h6d:decide (sh=s.at_)=false:=decide_eq_false h6
  rw [h6d] at HLO
  have h6e:(sh == s.at_)=false:=beq_eq_false_iff_ne.2 h6
  have h6n:(sh != s.at_)=true:=by rw [bne,h6e]; rfl
  have HE:=zd (HNO.out (by rw [HLO.out]; simp))
  clear HLO HNO HYE HYS  h2 h6d h6
  go_enter Tryz.func10,Tryz.ntmps10
  go_wp2_with (fail)
  obtain ⟨W,hW⟩:∃ W,(w.alloc (.cells #[.int .i64 s.at_,.int .i64 s.k,.bool true,.slice A0 s.disk.files.length k0,.int .i64 s.epoch,.slice A1 vs.length k1,.slice A2 s.taken.length k2,.slice A3 s.all.length k3,.int .i64 s.ready.epoch,.int .i64 s.ready.try_,.int .i64 s.ready.take] 46)).alloc (.cells #[.slice none 0 0,.slice none 0 0] 36)=W:=⟨_,rfl⟩
  rw [hW]
  obtain ⟨hBW,hWs,zf,c0,c1,c2,c4,c5,z0,z1⟩:=hWd W hW.symm
  clear hW hWd
  have hlW:w.heap.size+2≤W.heap.size:=zz13
  have HBW:=zd hBW
  have Z0:=zd z0
  have Z1:=zd z1
  have ZF:=zd zf
  have HC1:=zd c1
  have HC5:=zd c5
  clear hWs z0 z1 zf hBW
  have Gc0:=Grown.cell c0
  have Gc1:=Grown.cell c1
  have Gc2:=Grown.cell c2
  have Gc4:=Grown.cell c4
  have Gc5:=Grown.cell c5
  clear c0 c1 c2 c4 c5
  refine ya4 (by kernel_rfl) (by kernel_rfl) ?_
  repeat (go_big_quiet_step (first | (go_at_call 62; with_reducible exact yac (HIN.out _)) | (go_at_call 62; with_reducible exact yac (HSP.out _)) | (go_at_call 63; exact ya8 (HSH.out _))))
  refine wpQuiet_nil ?_
  intro w7 hw_
  have hB7:=yaa hw_
  clear hw_ Gc0 Gc1 Gc2 Gc4 Gc5
  have HB7:=zd (HBW.out.trans (hB7.mono HBW.out.size))
  have z0:=(hB7.cell (p:=⟨w.heap.size+1,0,none⟩) zz12).trans Z0.out
  have z1:=(hB7.cell (p:=⟨w.heap.size+1,1,none⟩) zz12).trans Z1.out
  have zf:=fun o => (hB7.frozen (p:=⟨w.heap.size+1,o,none⟩) zz12).trans (ZF.out o)
  clear hB7
  go_wp2
  refine bodyPost_ret (v:=.tuple #[.agg #[.slice none 0 0,.slice none 0 0],.bool false]) (by simp [results,Tryz.results10,go_sem, *]) rfl ?_
  exact PlRes.nil HE.out (Below.setCell (Below.setCell HB7.out (Nat.le_add_right _ 1) _) (Nat.le_add_right _ 1) _)
 have h6d:decide (sh=s.at_)=true:=decide_eq_true h6
 rw [h6d] at HLO
 have h6e:(sh == s.at_)=true:=beq_iff_eq.2 h6
 have h6n:(sh != s.at_)=false:=by rw [bne,h6e]; rfl
 have H6:=zd h6
 clear h6d h6
 cases h4:inB s.k 0 2 <;> rw [h4] at HSP HLO
 ·have HE:=zd (HNO.out (by rw [HLO.out]; simp))
  clear HLO HNO HYE HYS  h2 h4
  go_enter Tryz.func10,Tryz.ntmps10
  go_wp2_with (fail)
  obtain ⟨W,hW⟩:∃ W,(w.alloc (.cells #[.int .i64 s.at_,.int .i64 s.k,.bool true,.slice A0 s.disk.files.length k0,.int .i64 s.epoch,.slice A1 vs.length k1,.slice A2 s.taken.length k2,.slice A3 s.all.length k3,.int .i64 s.ready.epoch,.int .i64 s.ready.try_,.int .i64 s.ready.take] 46)).alloc (.cells #[.slice none 0 0,.slice none 0 0] 36)=W:=⟨_,rfl⟩
  rw [hW]
  obtain ⟨hBW,hWs,zf,c0,c1,c2,c4,c5,z0,z1⟩:=hWd W hW.symm
  clear hW hWd
  have hlW:w.heap.size+2≤W.heap.size:=zz13
  have HBW:=zd hBW
  have Z0:=zd z0
  have Z1:=zd z1
  have ZF:=zd zf
  have HC1:=zd c1
  have HC5:=zd c5
  clear hWs z0 z1 zf hBW
  have Gc0:=Grown.cell c0
  have Gc1:=Grown.cell c1
  have Gc2:=Grown.cell c2
  have Gc4:=Grown.cell c4
  have Gc5:=Grown.cell c5
  clear c0 c1 c2 c4 c5
  refine ya4 (by kernel_rfl) (by kernel_rfl) ?_
  repeat (go_big_quiet_step (first | (go_at_call 62; with_reducible exact yac (HIN.out _)) | (go_at_call 62; with_reducible exact yac (HSP.out _)) | (go_at_call 63; exact ya8 (HSH.out _))))
  refine wpQuiet_nil ?_
  intro w7 hw_
  have hB7:=yaa hw_
  clear hw_ Gc0 Gc1 Gc2 Gc4 Gc5
  have HB7:=zd (HBW.out.trans (hB7.mono HBW.out.size))
  have z0:=(hB7.cell (p:=⟨w.heap.size+1,0,none⟩) zz12).trans Z0.out
  have z1:=(hB7.cell (p:=⟨w.heap.size+1,1,none⟩) zz12).trans Z1.out
  have zf:=fun o => (hB7.frozen (p:=⟨w.heap.size+1,o,none⟩) zz12).trans (ZF.out o)
  clear hB7
  go_wp2
  refine bodyPost_ret (v:=.tuple #[.agg #[.slice none 0 0,.slice none 0 0],.bool false]) (by simp [results,Tryz.results10,go_sem, *]) rfl ?_
  exact PlRes.nil HE.out (Below.setCell (Below.setCell HB7.out (Nat.le_add_right _ 1) _) (Nat.le_add_right _ 1) _)
 have hE1:=in_lo h2
 obtain ⟨i,hi⟩:∃ i:Nat,e=(i:Int):=⟨e.toNat,zz13⟩
 subst hi
 have hiv:i<vs.length:=by have:=H3.out; omega
 have HE:Hid (R=proveLeaf vs[i] name s.k 16):=zd (by rw [HYS.out rfl h2 H3.out h4 H6.out,Int.toNat_natCast,getD_views hiv])
 obtain ⟨hzl,hll⟩:=views_at hiv hzv
 obtain ⟨b1,o1,cc,T,rfl,hl1,ha,hr, -, -⟩:=Row.at_ rv hiv
 obtain ⟨AL,kL,rfl,lL,mL,rL⟩:=open_list hr
 have e0:=ha 0 _ rfl
 simp only [show Lay.n (List Leaf)=1 from rfl,Nat.mul_one,Nat.add_zero] at e0
 obtain ⟨xs,hxs⟩:∃ xs,vs[i]=xs:=⟨_,rfl⟩
 rw [hxs] at HE rL lL
 simp only [hxs] at e0 hzl hll
 have HPV:=zd (fun W (h:Below w.heap.size w W) => spec_ProveLeaf W xs AL kL T (Row.later rL h) hll hzl name hn s.k fk 16 zz41)
 obtain ⟨R2,hR2⟩:∃ R2,proveLeaf xs name s.k 16=R2:=⟨_,rfl⟩
 rw [hR2] at HE HPV
 obtain ⟨⟨RB,RL⟩,rb⟩:=R2
 have hil:(i:Int)<(vs.length:Int):=zz13
 have hi0:(0:Int)≤(i:Int):=zz13
 have HH3:=zd hiv
 have h3n:decide (vs.length≤i)=false:=decide_eq_false zz13
 clear hR2 hxs HLO HNO HYE HYS h2 h4 hE1 ha hr rv hzv hiv
 go_enter Tryz.func10,Tryz.ntmps10
 go_wp2_with (fail)
 obtain ⟨W,hW⟩:∃ W,(w.alloc (.cells #[.int .i64 s.at_,.int .i64 s.k,.bool true,.slice A0 s.disk.files.length k0,.int .i64 s.epoch,.slice (some ⟨b1,o1,none⟩) vs.length k1,.slice A2 s.taken.length k2,.slice A3 s.all.length k3,.int .i64 s.ready.epoch,.int .i64 s.ready.try_,.int .i64 s.ready.take] 46)).alloc (.cells #[.slice none 0 0,.slice none 0 0] 36)=W:=⟨_,rfl⟩
 rw [hW]
 obtain ⟨hBW,hWs,zf,c0,c1,c2,c4,c5,z0,z1⟩:=hWd W hW.symm
 clear hW hWd
 have hlW:w.heap.size+2≤W.heap.size:=zz13
 have HBW:=zd hBW
 have Z0:=zd z0
 have Z1:=zd z1
 have ZF:=zd zf
 have HC1:=zd c1
 have HC5:=zd c5
 clear hWs z0 z1 zf hBW
 have Gc0:=Grown.cell c0
 have Gc1:=Grown.cell c1
 have Gc2:=Grown.cell c2
 have Gc4:=Grown.cell c4
 have Gc5:=Grown.cell c5
 clear c0 c1 c2 c4 c5
 refine ya4 (by kernel_rfl) (by kernel_rfl) ?_
 repeat (go_big_quiet_step (first | (go_at_call 62; with_reducible exact yac (HIN.out _)) | (go_at_call 62; with_reducible exact yac (HSP.out _)) | (go_at_call 63; exact ya8 (HSH.out _))))
 refine wpQuiet_nil ?_
 intro w7 hw_
 have hB7:=yaa hw_
 clear hw_ Gc0 Gc1 Gc2 Gc4 Gc5
 have HB7:=zd (HBW.out.trans (hB7.mono HBW.out.size))
 have z0:=(hB7.cell (p:=⟨w.heap.size+1,0,none⟩) zz12).trans Z0.out
 have z1:=(hB7.cell (p:=⟨w.heap.size+1,1,none⟩) zz12).trans Z1.out
 have zf:=fun o => (hB7.frozen (p:=⟨w.heap.size+1,o,none⟩) zz12).trans (ZF.out o)
 have hBz:Below (w.heap.size+1) W w7:=hB7.mono zz13
 have HE0:=zd e0
 have HM:=zd (fun (w':World) (h:Below (w.heap.size+1) W w') => (⟨(h.cell (p:=⟨w.heap.size,5,none⟩) zz22).trans HC5.out,(h.cell (p:=⟨b1,o1+i,none⟩) (by show b1<_; omega)).trans ((HBW.out.cell (p:=⟨b1,o1+i,none⟩) hl1).trans HE0.out),(h.cell (p:=⟨w.heap.size,1,none⟩) zz22).trans HC1.out,h⟩:w'.cell? ⟨w.heap.size,5,none⟩=some (.slice (some ⟨b1,o1,none⟩) vs.length k1)∧w'.cell? ⟨b1,o1+i,none⟩=some (.slice AL xs.length kL)∧w'.cell? ⟨w.heap.size,1,none⟩=some (.int .i64 s.k)∧Below (w.heap.size+1) W w'))
 have hs7:=hB7.size
 have hBW7:=HB7.out
 have hB:=hBz
 clear hB7 e0
 have hsw7:w.heap.size+2≤w7.heap.size:=zz13
 have HPW:=zd (fun (w':World) (h:Below w7.heap.size w7 w') => (⟨(h.cell (p:=⟨w.heap.size+1,0,none⟩) zz12).trans z0,(h.cell (p:=⟨w.heap.size+1,1,none⟩) zz12).trans z1,fun o => (h.frozen (p:=⟨w.heap.size+1,o,none⟩) zz12).trans (zf o)⟩:w'.cell? ⟨w.heap.size+1,0,none⟩=some (.slice none 0 0)∧w'.cell? ⟨w.heap.size+1,1,none⟩=some (.slice none 0 0)∧∀ o,w'.frozen? ⟨w.heap.size+1,o,none⟩=false))
 go_wp2_with (fail)
 go_region_held3 (fun w' => w'.cell? ⟨w.heap.size,5,none⟩=some (.slice (some ⟨b1,o1,none⟩) vs.length k1)∧w'.cell? ⟨b1,o1+i,none⟩=some (.slice AL xs.length kL)∧w'.cell? ⟨w.heap.size,1,none⟩=some (.int .i64 s.k)∧Below (w.heap.size+1) W w')
  (first | exact HM.out _ (by have zh:=hB; exact zz10))
  (first | (go_at_call 64; refine (HPV.out _ (by first | exact hBW7 | exact hBW7.drew)).mono ?_; rintro e8 w8 ⟨cr,rfl,hr8,hb8⟩; have hb9:Below w7.heap.size w7 w8:=(by first | exact hb8 | exact Below.viad hb8); have hs8:=hb9.size; have hB:=hBz.trans (hb9.mono zz13); have y0:=(HPW.out _ hb9).1; have y1:=(HPW.out _ hb9).2.1; have yf:=(HPW.out _ hb9).2.2; obtain ⟨P0,n0,T0,P1,n1,T1,rfl,pl0,pm0,pr0,ps0,pl1,pm1,pr1,ps1,pw⟩:=Proof.open (Lay.mono hr8 (S':=rng w7.heap.size w8.heap.size) (fun b h => h)); have HPP:=zd (And.intro pl0 (And.intro pm0 (And.intro pr0 (And.intro ps0 (And.intro pl1 (And.intro pm1 (And.intro pr1 (And.intro ps1 pw)))))))); have HB8:=zd (hBW7.trans (hb9.mono hBW7.size)); clear hr8 hb8 hb9 pl0 pm0 pr0 ps0 pl1 pm1 pr1 ps1 pw; simp only [Proof.cs]) | fail)
 go_wp2
 refine bodyPost_ret (v:=.tuple #[.agg #[.slice P0 RB.length n0,.slice P1 RL.length n1],.bool rb]) (by simp [results,Tryz.results10,go_sem, *]) rfl ?_
 obtain ⟨pl0,pm0,pr0,ps0,pl1,pm1,pr1,ps1,pw⟩:=HPP.out
 have hq0:∀ o:Nat, ¬ T0 (⟨w.heap.size+1,o,none⟩:Addr).block:=fun o h => by have h1:=(ps0 _ h).1; simp only at h1; omega
 have hq1:∀ o:Nat, ¬ T1 (⟨w.heap.size+1,o,none⟩:Addr).block:=fun o h => by have h1:=(ps1 _ h).1; simp only at h1; omega
 rw [HE.out]
 exact ⟨_,rfl,Proof.mk' (x:=⟨RB,RL⟩) pl0 pm0 ((pr0.setC (hq0 0) _).setC (hq0 1) _) (fun b h => by have h2:=ps0 b h; unfold rng at h2 ⊢; simp; omega) pl1 pm1 ((pr1.setC (hq1 0) _).setC (hq1 1) _) (fun b h => by have h2:=ps1 b h; unfold rng at h2 ⊢; simp; omega) (fun _ => pw (by trivial)),Below.setCell (Below.setCell HB8.out (Nat.le_add_right _ 1) _) (Nat.le_add_right _ 1) _⟩
end Go.Proofs.YtcbbjfafmmcfiaaGreatDoor
