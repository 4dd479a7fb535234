/- A part of the proof. -/
import Derived.LaidMore
import Derived.LaidLaws
import Derived.LaidHandle
import Derived.Handed
import Derived.Lib.LaidTab
import Derived.OpenShut
import Derived.SevenTiedAt
import Derived.Test.YtcbbjfafmmcfiaaGreatDoorHAqL12xDh
set_option linter.unusedVariables false
set_option linter.unusedSimpArgs false
set_option maxRecDepth 100000
set_option maxHeartbeats 8000000
namespace Go.Proofs.YtcbbjfafmmcfiaaGreatDoor
open Go.RowKit Go.WideShapes Go.ChangeShapes Go.ChangeAt Lay Mk
def laidSha : List (String × DataW Unit) := [("loop.example/g00284/impl.roundWords", Rows.laid_loop_example_g00284_impl_roundWords), ("loop.example/g00284/impl.startWords", Rows.laid_loop_example_g00284_impl_startWords)]
theorem gRound : Tryz.prog.globalNamed "loop.example/g00284/impl.roundWords" = some 1 := by kernel_rfl
theorem gStart : Tryz.prog.globalNamed "loop.example/g00284/impl.startWords" = some 0 := by kernel_rfl
theorem tRound:(Tryz.prog.globals[1]?).map (·.type)=some 353:=by kernel_rfl
theorem tStart:(Tryz.prog.globals[0]?).map (·.type)=some 351:=by kernel_rfl
theorem laidRound_tab:(Rows.laid_loop_example_g00284_impl_roundWords:DataW Unit)=Go.Lib.tabData .u32 shaKeys:=by kernel_rfl
theorem laidStart_tab:(Rows.laid_loop_example_g00284_impl_startWords:DataW Unit)=Go.Lib.tabData .u32 shaFirst.l:=by kernel_rfl
theorem tabs_of_laid {W:World} (h:laidMetH Tryz.prog laidSha W):Tabs W:=by
 rw [MakeChecks.laidMetH_plain _ _ _ (by kernel_rfl)] at h
 obtain ⟨ps,⟨g0,t0,cs0,f0,p0,q0,hg0,ht0,hv0,hd0,⟨g1,t1,cs1,f1,p1,q1,hg1,ht1,hv1,hd1,_,_⟩,_⟩,_,_⟩:=h
 obtain rfl:=Option.some.inj (gRound.symm.trans hg0)
 obtain rfl:=Option.some.inj (gStart.symm.trans hg1)
 obtain rfl:=Option.some.inj (tRound.symm.trans ht0)
 obtain rfl:=Option.some.inj (tStart.symm.trans ht1)
 rw [laidRound_tab] at hd0
 rw [laidStart_tab] at hd1
 have e0:=Go.Lib.cells_of_tab Tryz.underlying353 Tryz.underlying350 (by kernel_rfl) (by kernel_rfl) hd0
 have e1:=Go.Lib.cells_of_tab Tryz.underlying351 Tryz.underlying350 (by kernel_rfl) (by kernel_rfl) hd1
 have k0:shaKeys.length=64:=rfl
 have k1:shaFirst.l.length=8:=rfl
 refine ⟨fun i hi => ?_,fun i hi => ?_⟩
 ·have h:=World.var?_cell hg0 hv0 i
  rw [h]
  have:cs0.toList[i]? = some (.int .u32 (shaKeys.getD i 0)):=by
   rw [e0,List.getElem?_map,List.getElem?_eq_getElem zz13,Option.map_some,List.getD_eq_getElem?_getD,List.getElem?_eq_getElem zz13]; rfl
  simpa using this
 ·have h:=World.var?_cell hg1 hv1 i
  rw [h]
  have:cs1.toList[i]? = some (.int .u32 (shaFirst.l.getD i 0)):=by
   rw [e1,List.getElem?_map,List.getElem?_eq_getElem zz13,Option.map_some,List.getD_eq_getElem?_getD,List.getElem?_eq_getElem zz13]; rfl
  simpa using this
theorem door_met (os:Os) (args:Array Value):laidMetH Tryz.prog laidSha ((World.doorLaid Tryz.prog 34 os).forCall (fun _ _ => 0) ⟨#[],args, []⟩).memory :=
 laidMetH_of_parts3 (fuel:=8) (laidMet_of_run' 8 (by kernel_rfl) (by kernel_rfl)) (by kernel_rfl) (by kernel_rfl)
def rowedVars (P:Program) (ns:List String):Bool:=ns.all fun n => ((P.globalNamed n).bind (P.globals[·]?)).all fun gl => P.readableRec gl.type && decide (gl.type<P.types.size)
theorem trodVars_stays {H:Type} {enc:TypeId × Value→H} {P:Program} (hl:laidOutB P=true) {W W':World} {sp:Nat→Bool} (hb:Below W.heap.size W W') :
  ∀ {ns:List String} {gs:List (DataW H)} {ps:List MemPlace},rowedVars P ns=true→DataW.TrodVars enc P W (fun _ => true) ns gs ps→(∀ x ∈ ps,sp x.block=true)→DataW.TrodVars enc P W' sp ns gs ps
 | [], [],_,_,h,_ => h
 | [],_ :: _,_,_,h,_ => h.elim
 | _ :: _, [],_,_,h,_ => h.elim
 | n :: ns,d :: ds,ps,hv,h,hsp => by
  have hlt:=h.lt
  obtain ⟨g,t,cs,fuel,p,q,h1,h2,h3,h4,hs,e⟩:=h
  simp only [rowedVars,List.all_cons,Bool.and_eq_true] at hv
  have ht:P.readableRec t=true∧t<P.types.size:=by
   have:=hv.1
   rw [h1] at this
   cases hg:P.globals[g]? with
   | none => rw [hg] at h2; cases h2
   | some gl =>
    rw [hg] at h2
    obtain rfl:gl.type=t:=Option.some.inj h2
    simpa [hg] using this
  have hp:∀ x ∈ p,x.block<W.heap.size:=fun x hx => hlt x (by rw [e]; simp [hx])
  have h3':W'.var? P n=some cs:=by
   unfold World.var? at h3 ⊢
   rw [h1] at h3 ⊢
   simp only [Option.bind_some] at h3 ⊢
   have hg:g<W.heap.size:=by
    cases hh:W.heap[g]? with
    | none => rw [hh] at h3; cases h3
    | some o => exact (Array.getElem?_eq_some_iff.1 hh).1
   rw [hb.block g hg]; exact h3
  exact ⟨g,t,cs,fuel,p,q,h1,h2,h3',DataW.trod_stays (kids_book hl ht.1) (book_sized ht.1) (fun h => by cases h) ⟨ht.2,book_self t⟩ h4 (fun x hx => hb.same (hp x hx)) (fun x hx => hsp x (by rw [e]; simp [hx])),
   trodVars_stays hl hb (by simpa [rowedVars] using hv.2) hs (fun x hx => hsp x (by rw [e]; simp [hx])),e⟩
end Go.Proofs.YtcbbjfafmmcfiaaGreatDoor
namespace Go.Proofs.YtcbbjfafmmcfiaaGreatDoor
open Go.RowKit Lay Mk
theorem copySig_end (w W1 W w3:World) (x:Sig) (f0:I64 x.at_) {B0:Option Addr} {j0:Nat} {T0:Blks} (g0:x.open_.length≤j0) (h0:j0≤maxLen) (n0:Row true w3 B0 j0 x.open_ T0) (s0:sub T0 (rng W.heap.size w3.heap.size))
  {B1:Option Addr} {j1:Nat} {T1:Blks} (g1:x.shut.length≤j1) (h1:j1≤maxLen) (n1:Row true w3 B1 j1 x.shut T1) (s1:sub T1 (rng W.heap.size w3.heap.size))
  {B2:Option Addr} {j2:Nat} {T2:Blks} (g2:x.sides.length≤j2) (h2:j2≤maxLen) (n2:Row true w3 B2 j2 x.sides T2) (s2:sub T2 (rng W.heap.size w3.heap.size))
  (d01:disj T0 T1) (d02:disj T0 T2) (d12:disj T1 T2) (hwW1:Below w.heap.size w W1) (hWW:Below W1.heap.size W1 W) (hWs1:W1.heap.size=w.heap.size+1) (hWs:W.heap.size=W1.heap.size+1) (hB:Below W.heap.size W w3) {c0 c1 c2 c3:Value} :
  rd true ((((w3.setCell ⟨w.heap.size+1,0,none⟩ c0).setCell ⟨w.heap.size+1,1,none⟩ c1).setCell ⟨w.heap.size+1,2,none⟩ c2).setCell ⟨w.heap.size+1,3,none⟩ c3) (Sig.cs x B0 j0 B1 j1 B2 j2) x (rng w.heap.size ((((w3.setCell ⟨w.heap.size+1,0,none⟩ c0).setCell ⟨w.heap.size+1,1,none⟩ c1).setCell ⟨w.heap.size+1,2,none⟩ c2).setCell ⟨w.heap.size+1,3,none⟩ c3).heap.size)∧Below w.heap.size w ((((w3.setCell ⟨w.heap.size+1,0,none⟩ c0).setCell ⟨w.heap.size+1,1,none⟩ c1).setCell ⟨w.heap.size+1,2,none⟩ c2).setCell ⟨w.heap.size+1,3,none⟩ c3):=by
 have hWl:W1.heap.size≤W.heap.size:=zz13
 have no:∀ T:Blks,sub T (rng W.heap.size w3.heap.size)→¬ T (w.heap.size+1):=fun T h x => by have:=(h _ x).1; omega
 have up:∀ T:Blks,sub T (rng W.heap.size w3.heap.size)→sub T (rng w.heap.size ((((w3.setCell ⟨w.heap.size+1,0,none⟩ c0).setCell ⟨w.heap.size+1,1,none⟩ c1).setCell ⟨w.heap.size+1,2,none⟩ c2).setCell ⟨w.heap.size+1,3,none⟩ c3).heap.size):=fun T h b x => by have:=h b x; unfold rng at this ⊢; simp; omega
 exact ⟨Sig.mk' f0 g0 h0 (((n0.setC (no T0 s0) _).setC (no T0 s0) _ |>.setC (no T0 s0) _).setC (no T0 s0) _) (up T0 s0) g1 h1 (((n1.setC (no T1 s1) _).setC (no T1 s1) _ |>.setC (no T1 s1) _).setC (no T1 s1) _) (up T1 s1) g2 h2 (((n2.setC (no T2 s2) _).setC (no T2 s2) _ |>.setC (no T2 s2) _).setC (no T2 s2) _) (up T2 s2) (fun _ => pwmk3 d01 d02 d12),Below.trans hwW1 (Below.mono (show Below W1.heap.size W1 _ from (by have zh:=hWW.trans (hB.mono hWl); exact zz10)) zz13)⟩
theorem spec_l05Copy (w:World) (x:Sig) (cs:List Value) (S:Blks) (hx:rd false w cs x S) (l0:x.open_.length≤1048576) (l1:x.shut.length≤1048576) (l2:x.sides.length≤1048576):Calls Tryz.prog 214 #[.agg cs.toArray] w fun e w' => ∃ A0 k0 A1 k1 A2 k2,e = .returned (.agg #[.int .i64 x.at_,.slice A0 x.open_.length k0,.slice A1 x.shut.length k1,.slice A2 x.sides.length k2])∧rd true w' (Sig.cs x A0 k0 A1 k1 A2 k2) x (rng w.heap.size w'.heap.size)∧Below w.heap.size w w':=by
 obtain ⟨A0,k0,S0,A1,k1,S1,A2,k2,S2,rfl,f0,a0,b0,r0,s0,a1,b1,r1,s1,a2,b2,r2,s2,pw⟩:=Sig.open hx
 clear hx s0 s1 s2 pw
 simp only [Sig.cs]
 go_enter Tryz.func214,Tryz.ntmps214
 go_wp2_with (fail)
 generalize hW1:w.alloc (.cells #[_,_,_,_] _)=W1
 have hwW1:Below w.heap.size w W1:=by rw [← hW1]; exact (Below.refl _ _).alloc (Nat.le_refl _) _
 have hWs1:W1.heap.size=w.heap.size+1:=by rw [← hW1]; simp
 have q0:W1.cell? ⟨w.heap.size,0,none⟩=some (.int .i64 x.at_):=zz47
 have q1:W1.cell? ⟨w.heap.size,1,none⟩=some (.slice A0 x.open_.length k0):=zz47
 have q2:W1.cell? ⟨w.heap.size,2,none⟩=some (.slice A1 x.shut.length k1):=zz47
 have q3:W1.cell? ⟨w.heap.size,3,none⟩=some (.slice A2 x.sides.length k2):=zz47
 clear hW1
 generalize hW:W1.alloc (.cells #[_,_,_,_] _)=W
 have hWW:Below W1.heap.size W1 W:=by rw [← hW]; exact (Below.refl _ _).alloc (Nat.le_refl _) _
 have hWs:W.heap.size=W1.heap.size+1:=by rw [← hW]; simp
 have z0:W.cell? ⟨w.heap.size+1,0,none⟩=some (.int .i64 0):=zz38
 have z1:W.cell? ⟨w.heap.size+1,1,none⟩=some (.slice none 0 0):=zz38
 have z2:W.cell? ⟨w.heap.size+1,2,none⟩=some (.slice none 0 0):=zz38
 have z3:W.cell? ⟨w.heap.size+1,3,none⟩=some (.slice none 0 0):=zz38
 have zf:∀ o,W.frozen? ⟨w.heap.size+1,o,none⟩=false:=by intro o; rw [← hWs1, ← hW]; simp
 clear hW
 have hWl:W1.heap.size≤W.heap.size:=zz13
 have hB:=Below.refl W.heap.size W
 have HM:=zd (fun (w':World) (h:Below W1.heap.size W1 w') => (⟨(h.cell (p:=⟨w.heap.size,0,none⟩) (show w.heap.size<W1.heap.size by omega)).trans q0,(h.cell (p:=⟨w.heap.size,1,none⟩) (show w.heap.size<W1.heap.size by omega)).trans q1,(h.cell (p:=⟨w.heap.size,2,none⟩) (show w.heap.size<W1.heap.size by omega)).trans q2,(h.cell (p:=⟨w.heap.size,3,none⟩) (show w.heap.size<W1.heap.size by omega)).trans q3,h⟩:w'.cell? ⟨w.heap.size,0,none⟩=some (.int .i64 x.at_)∧w'.cell? ⟨w.heap.size,1,none⟩=some (.slice A0 x.open_.length k0)∧w'.cell? ⟨w.heap.size,2,none⟩=some (.slice A1 x.shut.length k1)∧w'.cell? ⟨w.heap.size,3,none⟩=some (.slice A2 x.sides.length k2)∧Below W1.heap.size W1 w'))
 have hwW:=hwW1.trans (hWW.mono zz13)
 go_region_held3 (fun w' => w'.cell? ⟨w.heap.size,0,none⟩=some (.int .i64 x.at_)∧w'.cell? ⟨w.heap.size,1,none⟩=some (.slice A0 x.open_.length k0)∧w'.cell? ⟨w.heap.size,2,none⟩=some (.slice A1 x.shut.length k1)∧w'.cell? ⟨w.heap.size,3,none⟩=some (.slice A2 x.sides.length k2)∧Below W1.heap.size W1 w')
   (first | exact HM.out _ (by have zh:=hWW.trans (hB.mono hWl); exact zz10))
   (first | (refine step_lit (α:=ByteArray) (ys:=x.open_) rfl _ _ rfl rfl rfl rfl ?_ (Row.later r0 (hwW.trans (Below.mono ?_ (show w.heap.size≤W.heap.size by omega)))) zz13 ?_; (focus (repeat (first | (refine heap_newb _ _ _ ?_; (first | omega | (simp; done) | (simp; omega))) | (refine Eq.trans (Below.heap_alloc _ _ _ ?_) ?_; (focus (first | omega | (simp; done) | (simp; omega)))) | (refine Eq.trans (kp0 _ ?_ ?_) ?_; (focus (first | omega | (simp; done) | (simp; omega))); (focus show ¬ _=_; (first | omega | (simp; done) | (simp; omega)))) | (refine Eq.trans (kp1 _ ?_ ?_) ?_; (focus (first | omega | (simp; done) | (simp; omega))); (focus show ¬ _=_; (first | omega | (simp; done) | (simp; omega))))))); (focus exact (by have zh:=hB; exact zz11)); intro B0 j0 w1 g0 h0 n0 c0; have hs1:=c0.size; (try simp at hs1); have kp0:=c0.block;  have hB:=Below.trans (a:=W) (by have zh:=hB; exact zz11) (c0.to_below (B:=W.heap.size) (by first | omega | (simp; done) | (simp; omega)) (fun y hy => by rw [show y=_ from hy]; (first | omega | (simp; done) | (simp; omega))))) | (refine step_lit (α:=ByteArray) (ys:=x.shut) rfl _ _ rfl rfl rfl rfl ?_ (Row.later r1 (hwW.trans (Below.mono ?_ (show w.heap.size≤W.heap.size by omega)))) zz13 ?_; (focus (repeat (first | (refine heap_newb _ _ _ ?_; (first | omega | (simp; done) | (simp; omega))) | (refine Eq.trans (Below.heap_alloc _ _ _ ?_) ?_; (focus (first | omega | (simp; done) | (simp; omega)))) | (refine Eq.trans (kp0 _ ?_ ?_) ?_; (focus (first | omega | (simp; done) | (simp; omega))); (focus show ¬ _=_; (first | omega | (simp; done) | (simp; omega)))) | (refine Eq.trans (kp1 _ ?_ ?_) ?_; (focus (first | omega | (simp; done) | (simp; omega))); (focus show ¬ _=_; (first | omega | (simp; done) | (simp; omega))))))); (focus exact (by have zh:=hB; exact zz11)); intro B1 j1 w2 g1 h1 n1 c1; have hs2:=c1.size; (try simp at hs2); have kp1:=c1.block; have n0:=Row.viaChg n0 zz61 c1 (own_chg (by (first | omega | (simp; done) | (simp; omega))) (by (first | omega | (simp; done) | (simp; omega))));  have hB:=Below.trans (a:=W) (by have zh:=hB; exact zz11) (c1.to_below (B:=W.heap.size) (by first | omega | (simp; done) | (simp; omega)) (fun y hy => by rw [show y=_ from hy]; (first | omega | (simp; done) | (simp; omega))))) | (refine step_lit (α:=ByteArray) (ys:=x.sides) rfl _ _ rfl rfl rfl rfl ?_ (Row.later r2 (hwW.trans (Below.mono ?_ (show w.heap.size≤W.heap.size by omega)))) zz13 ?_; (focus (repeat (first | (refine heap_newb _ _ _ ?_; (first | omega | (simp; done) | (simp; omega))) | (refine Eq.trans (Below.heap_alloc _ _ _ ?_) ?_; (focus (first | omega | (simp; done) | (simp; omega)))) | (refine Eq.trans (kp0 _ ?_ ?_) ?_; (focus (first | omega | (simp; done) | (simp; omega))); (focus show ¬ _=_; (first | omega | (simp; done) | (simp; omega)))) | (refine Eq.trans (kp1 _ ?_ ?_) ?_; (focus (first | omega | (simp; done) | (simp; omega))); (focus show ¬ _=_; (first | omega | (simp; done) | (simp; omega))))))); (focus exact (by have zh:=hB; exact zz11)); intro B2 j2 w3 g2 h2 n2 c2; have hs3:=c2.size; (try simp at hs3); have kp2:=c2.block; have n0:=Row.viaChg n0 zz61 c2 (own_chg (by (first | omega | (simp; done) | (simp; omega))) (by (first | omega | (simp; done) | (simp; omega)))); have n1:=Row.viaChg n1 zz61 c2 (own_chg (by (first | omega | (simp; done) | (simp; omega))) (by (first | omega | (simp; done) | (simp; omega))));  have hB:=Below.trans (a:=W) (by have zh:=hB; exact zz11) (c2.to_below (B:=W.heap.size) (by first | omega | (simp; done) | (simp; omega)) (fun y hy => by rw [show y=_ from hy]; (first | omega | (simp; done) | (simp; omega)))); have y20:=(hB.cell (p:=⟨w.heap.size+1,0,none⟩) (show w.heap.size+1<W.heap.size by omega)).trans z0; have y21:=(hB.cell (p:=⟨w.heap.size+1,1,none⟩) (show w.heap.size+1<W.heap.size by omega)).trans z1; have y22:=(hB.cell (p:=⟨w.heap.size+1,2,none⟩) (show w.heap.size+1<W.heap.size by omega)).trans z2; have y23:=(hB.cell (p:=⟨w.heap.size+1,3,none⟩) (show w.heap.size+1<W.heap.size by omega)).trans z3; have yf2:=fun o => (hB.frozen (p:=⟨w.heap.size+1,o,none⟩) (show w.heap.size+1<W.heap.size by omega)).trans (zf o)))
 all_goals
  clear q0 q1 q2 q3 z0 z1 z2 z3 zf HM r0 r1 r2 a0 a1 a2 b0 b1 b2 kp0 kp1 kp2
  go_wp2
  refine bodyPost_ret (v:=.agg #[.int .i64 x.at_,.slice B0 x.open_.length j0,.slice B1 x.shut.length j1,.slice B2 x.sides.length j2]) (by simp [results,Tryz.results214,go_sem,y20,y21,y22,y23,yf2]) rfl ?_
  exact ⟨B0,j0,B1,j1,B2,j2,rfl,copySig_end w W1 W _ x f0 g0 h0 n0 (by refine own_sub ?_ ?_ ?_ ?_ <;> (first | omega | (simp; done) | (simp; omega))) g1 h1 n1 (by refine own_sub ?_ ?_ ?_ ?_ <;> (first | omega | (simp; done) | (simp; omega))) g2 h2 n2 (by refine own_sub ?_ ?_ ?_ ?_ <;> (first | omega | (simp; done) | (simp; omega))) (by refine own_disj ?_ ?_ ?_ ?_ <;> (first | omega | (simp; done) | (simp; omega))) (by refine own_disj ?_ ?_ ?_ ?_ <;> (first | omega | (simp; done) | (simp; omega))) (by refine own_disj ?_ ?_ ?_ ?_ <;> (first | omega | (simp; done) | (simp; omega))) hwW1 hWW hWs1 hWs hB⟩
theorem spec_l14Copy (w:World) (x:Seal) (cs:List Value) (S:Blks) (hx:rd false w cs x S) (l0:x.sig.open_.length≤1048576) (l1:x.sig.shut.length≤1048576) (l2:x.sig.sides.length≤1048576):Calls Tryz.prog 128 #[.agg cs.toArray] w fun e w' => ∃ A0 k0 A1 k1 A2 k2,e = .returned (.agg #[.int .i64 x.head.house,.int .i64 x.head.epoch,.string x.head.root,.string x.head.prev,.int .i64 x.sig.at_,.slice A0 x.sig.open_.length k0,.slice A1 x.sig.shut.length k1,.slice A2 x.sig.sides.length k2])∧rd true w' (Seal.cs x A0 k0 A1 k1 A2 k2) x (rng w.heap.size w'.heap.size)∧Below w.heap.size w w':=by
 obtain ⟨A0,k0,S0,A1,k1,S1,A2,k2,S2,rfl,f0,f1,f2,f3,f4,a0,b0,r0,s0,a1,b1,r1,s1,a2,b2,r2,s2,pw⟩:=Seal.open hx
 clear hx s0 s1 s2 pw
 simp only [Seal.cs]
 go_enter Tryz.func128,Tryz.ntmps128
 go_wp2_with (fail)
 generalize hW1:w.alloc (.cells #[_,_,_,_,_,_,_,_] _)=W1
 have hwW1:Below w.heap.size w W1:=by rw [← hW1]; exact (Below.refl _ _).alloc (Nat.le_refl _) _
 have hWs1:W1.heap.size=w.heap.size+1:=by rw [← hW1]; simp
 have q0:W1.cell? ⟨w.heap.size,0,none⟩=some (.int .i64 x.head.house):=zz47
 have q1:W1.cell? ⟨w.heap.size,1,none⟩=some (.int .i64 x.head.epoch):=zz47
 have q2:W1.cell? ⟨w.heap.size,2,none⟩=some (.string x.head.root):=zz47
 have q3:W1.cell? ⟨w.heap.size,3,none⟩=some (.string x.head.prev):=zz47
 have q4:W1.cell? ⟨w.heap.size,4,none⟩=some (.int .i64 x.sig.at_):=zz47
 have q5:W1.cell? ⟨w.heap.size,5,none⟩=some (.slice A0 x.sig.open_.length k0):=zz47
 have q6:W1.cell? ⟨w.heap.size,6,none⟩=some (.slice A1 x.sig.shut.length k1):=zz47
 have q7:W1.cell? ⟨w.heap.size,7,none⟩=some (.slice A2 x.sig.sides.length k2):=zz47
 clear hW1
 generalize hW:W1.alloc (.cells #[_,_,_,_,_,_,_,_] _)=W
 have hWW:Below W1.heap.size W1 W:=by rw [← hW]; exact (Below.refl _ _).alloc (Nat.le_refl _) _
 have hWs:W.heap.size=W1.heap.size+1:=by rw [← hW]; simp
 have z0:W.cell? ⟨w.heap.size+1,0,none⟩=some (.int .i64 0):=zz38
 have z1:W.cell? ⟨w.heap.size+1,1,none⟩=some (.int .i64 0):=zz38
 have z2:W.cell? ⟨w.heap.size+1,2,none⟩=some (.string ⟨#[]⟩):=zz38
 have z3:W.cell? ⟨w.heap.size+1,3,none⟩=some (.string ⟨#[]⟩):=zz38
 have z4:W.cell? ⟨w.heap.size+1,4,none⟩=some (.int .i64 0):=zz38
 have z5:W.cell? ⟨w.heap.size+1,5,none⟩=some (.slice none 0 0):=zz38
 have z6:W.cell? ⟨w.heap.size+1,6,none⟩=some (.slice none 0 0):=zz38
 have z7:W.cell? ⟨w.heap.size+1,7,none⟩=some (.slice none 0 0):=zz38
 have zf:∀ o,W.frozen? ⟨w.heap.size+1,o,none⟩=false:=by intro o; rw [← hWs1, ← hW]; simp
 clear hW
 have hWl:W1.heap.size≤W.heap.size:=zz13
 have hB:=Below.refl W.heap.size W
 have HM:=zd (fun (w':World) (h:Below W1.heap.size W1 w') => (⟨(h.cell (p:=⟨w.heap.size,0,none⟩) (show w.heap.size<W1.heap.size by omega)).trans q0,(h.cell (p:=⟨w.heap.size,1,none⟩) (show w.heap.size<W1.heap.size by omega)).trans q1,(h.cell (p:=⟨w.heap.size,2,none⟩) (show w.heap.size<W1.heap.size by omega)).trans q2,(h.cell (p:=⟨w.heap.size,3,none⟩) (show w.heap.size<W1.heap.size by omega)).trans q3,(h.cell (p:=⟨w.heap.size,4,none⟩) (show w.heap.size<W1.heap.size by omega)).trans q4,(h.cell (p:=⟨w.heap.size,5,none⟩) (show w.heap.size<W1.heap.size by omega)).trans q5,(h.cell (p:=⟨w.heap.size,6,none⟩) (show w.heap.size<W1.heap.size by omega)).trans q6,(h.cell (p:=⟨w.heap.size,7,none⟩) (show w.heap.size<W1.heap.size by omega)).trans q7,h⟩:w'.cell? ⟨w.heap.size,0,none⟩=some (.int .i64 x.head.house)∧w'.cell? ⟨w.heap.size,1,none⟩=some (.int .i64 x.head.epoch)∧w'.cell? ⟨w.heap.size,2,none⟩=some (.string x.head.root)∧w'.cell? ⟨w.heap.size,3,none⟩=some (.string x.head.prev)∧w'.cell? ⟨w.heap.size,4,none⟩=some (.int .i64 x.sig.at_)∧w'.cell? ⟨w.heap.size,5,none⟩=some (.slice A0 x.sig.open_.length k0)∧w'.cell? ⟨w.heap.size,6,none⟩=some (.slice A1 x.sig.shut.length k1)∧w'.cell? ⟨w.heap.size,7,none⟩=some (.slice A2 x.sig.sides.length k2)∧Below W1.heap.size W1 w'))
 have hwW:=hwW1.trans (hWW.mono zz13)
 go_region_held3 (fun w' => w'.cell? ⟨w.heap.size,0,none⟩=some (.int .i64 x.head.house)∧w'.cell? ⟨w.heap.size,1,none⟩=some (.int .i64 x.head.epoch)∧w'.cell? ⟨w.heap.size,2,none⟩=some (.string x.head.root)∧w'.cell? ⟨w.heap.size,3,none⟩=some (.string x.head.prev)∧w'.cell? ⟨w.heap.size,4,none⟩=some (.int .i64 x.sig.at_)∧w'.cell? ⟨w.heap.size,5,none⟩=some (.slice A0 x.sig.open_.length k0)∧w'.cell? ⟨w.heap.size,6,none⟩=some (.slice A1 x.sig.shut.length k1)∧w'.cell? ⟨w.heap.size,7,none⟩=some (.slice A2 x.sig.sides.length k2)∧Below W1.heap.size W1 w')
   (first | exact HM.out _ (by have zh:=hWW.trans (hB.mono hWl); exact zz10))
   (first | (go_at_call 214; refine (spec_l05Copy _ x.sig _ (un S0 (un S1 S2)) (Sig.mk' (m:=false) f4 a0 b0 (Row.later r0 (hwW.trans (Below.mono (by first | exact hB | exact hB.drew) zz13))) (yad _ _) a1 b1 (Row.later r1 (hwW.trans (Below.mono (by first | exact hB | exact hB.drew) zz13))) (ya0 (yad _ _) (ya2 _ _)) a2 b2 (Row.later r2 (hwW.trans (Below.mono (by first | exact hB | exact hB.drew) zz13))) (ya0 (ya2 _ _) (ya2 _ _)) zz30) l0 l1 l2).mono ?_; rintro e1 w1 ⟨B0,j0,B1,j1,B2,j2,rfl,hr,hb1⟩; have hs1:=hb1.size; (try simp at hs1); have hB:=Below.step (a:=W) (by first | exact hB | exact hB.drew) hb1; have y00:=(hB.cell (p:=⟨w.heap.size+1,0,none⟩) (show w.heap.size+1<W.heap.size by omega)).trans z0; have y01:=(hB.cell (p:=⟨w.heap.size+1,1,none⟩) (show w.heap.size+1<W.heap.size by omega)).trans z1; have y02:=(hB.cell (p:=⟨w.heap.size+1,2,none⟩) (show w.heap.size+1<W.heap.size by omega)).trans z2; have y03:=(hB.cell (p:=⟨w.heap.size+1,3,none⟩) (show w.heap.size+1<W.heap.size by omega)).trans z3; have y04:=(hB.cell (p:=⟨w.heap.size+1,4,none⟩) (show w.heap.size+1<W.heap.size by omega)).trans z4; have y05:=(hB.cell (p:=⟨w.heap.size+1,5,none⟩) (show w.heap.size+1<W.heap.size by omega)).trans z5; have y06:=(hB.cell (p:=⟨w.heap.size+1,6,none⟩) (show w.heap.size+1<W.heap.size by omega)).trans z6; have y07:=(hB.cell (p:=⟨w.heap.size+1,7,none⟩) (show w.heap.size+1<W.heap.size by omega)).trans z7; have yf0:=fun o => (hB.frozen (p:=⟨w.heap.size+1,o,none⟩) (show w.heap.size+1<W.heap.size by omega)).trans (zf o)))
 go_wp2
 refine bodyPost_ret (v:=.agg #[.int .i64 x.head.house,.int .i64 x.head.epoch,.string x.head.root,.string x.head.prev,.int .i64 x.sig.at_,.slice B0 x.sig.open_.length j0,.slice B1 x.sig.shut.length j1,.slice B2 x.sig.sides.length j2]) (by simp [results,Tryz.results128,go_sem, *]) rfl ?_
 obtain ⟨C0,i0,T0,C1,i1,T1,C2,i2,T2,hcs,_,u0,v0,n0,m0,u1,v1,n1,m1,u2,v2,n2,m2,pw⟩:=Sig.open hr
 simp only [Sig.cs,List.cons.injEq,Value.slice.injEq,and_true,true_and] at hcs
 obtain ⟨⟨rfl,rfl⟩,⟨rfl,rfl⟩,⟨rfl,rfl⟩⟩:=hcs
 replace n0:=n0.mono (S':=fun b => T0 b∧rng W.heap.size w1.heap.size b) (fun b x => ⟨x,by have:=m0 b x; unfold rng at this ⊢; (try simp at this); omega⟩)
 replace n1:=n1.mono (S':=fun b => T1 b∧rng W.heap.size w1.heap.size b) (fun b x => ⟨x,by have:=m1 b x; unfold rng at this ⊢; (try simp at this); omega⟩)
 replace n2:=n2.mono (S':=fun b => T2 b∧rng W.heap.size w1.heap.size b) (fun b x => ⟨x,by have:=m2 b x; unfold rng at this ⊢; (try simp at this); omega⟩)
 have pw2:=pw rfl
 exact ⟨B0,j0,B1,j1,B2,j2,rfl,Seal.mk' (S0:=fun b => T0 b∧rng W.heap.size w1.heap.size b) (S1:=fun b => T1 b∧rng W.heap.size w1.heap.size b) (S2:=fun b => T2 b∧rng W.heap.size w1.heap.size b) f0 f1 f2 f3 f4 u0 v0 (by have zh:=n0; exact zz33) (fun b h => by have h2:rng W.heap.size w1.heap.size b:=h.2; unfold rng at h2 ⊢; simp; omega) u1 v1 (by have zh:=n1; exact zz33) (fun b h => by have h2:rng W.heap.size w1.heap.size b:=h.2; unfold rng at h2 ⊢; simp; omega) u2 v2 (by have zh:=n2; exact zz33) (fun b h => by have h2:rng W.heap.size w1.heap.size b:=h.2; unfold rng at h2 ⊢; simp; omega) (fun _ => pwmk3 (ya6 (pwget3_0_1 pw2) (fun b x => x.1) (fun b x => x.1)) (ya6 (pwget3_0_2 pw2) (fun b x => x.1) (fun b x => x.1)) (ya6 (pwget3_1_2 pw2) (fun b x => x.1) (fun b x => x.1))),Below.trans hwW1 (Below.mono (show Below W1.heap.size W1 _ from (by have zh:=hWW.trans (hB.mono hWl); exact zz10)) zz13)⟩
end Go.Proofs.YtcbbjfafmmcfiaaGreatDoor
namespace Go.Proofs.YtcbbjfafmmcfiaaGreatDoor
open Go.RowKit Lay Mk
theorem impl_compress (w:World) (s:S8) (hs:s.Ok) (blk:ByteArray) (hb:blk.size=64) (hT:Tabs w):Calls Tryz.prog 284 #[.agg (arr s.l),.string blk] w fun e w' => e = .returned (.agg (arr (comp s blk).l))∧Below w.heap.size w w':=by
 have hbl:64≤blk.size:=zz13
 have HB:=zd hb; clear hb
 obtain ⟨hs0,hs1,hs2,hs3,hs4,hs5,hs6,hs7⟩:=hs
 rw [S8.arr]
 go_enter Tryz.func284,Tryz.ntmps284
 go_wp2
 generalize hW:((w.alloc (.cells #[_,_,_,_,_,_,_,_] _)).alloc (.cells #[_,_,_,_,_,_,_,_] _)).alloc _=W
 have hWs:W.heap.size=w.heap.size+1+1+1:=by rw [← hW]; simp
 have A2:Arr W w.heap.size 351 s.l:=by
  rw [← hW]
  exact Arr.alloc (Arr.alloc (arr_new (l:=s.l) rfl rfl) _) _
 have A4:Arr W (w.heap.size+1) 351 (List.replicate 8 0):=by
  rw [← hW]
  exact Arr.alloc (arr_new (l:=List.replicate 8 0) (World.size_alloc _ _).symm rfl) _
 have A5:Arr W (w.heap.size+1+1) 353 (padz (sch blk 0) 64):=by
  rw [← hW]
  exact arr_new (l:=padz (sch blk 0) 64) (by rw [World.size_alloc,World.size_alloc]) rfl
 have hWB:Below w.heap.size w W:=by
  rw [← hW]
  exact (((Below.refl _ _).alloc (Nat.le_refl _) _).alloc zz30 _).alloc zz46 _
 have hWs2:w.heap.size+1+1+1≤W.heap.size:=zz13
 clear hW hWs
 go_loopw [18] (fun i wr => ∃ k:Nat,k≤16∧i = .int .i64 k∧Arr wr w.heap.size 351 s.l∧Arr wr (w.heap.size+1) 351 (List.replicate 8 0)∧Arr wr (w.heap.size+1+1) 353 (padz (sch blk k) 64)∧Below w.heap.size w wr) (fun i _ => 16 - (intOf i).toNat)
 case atStart => exact ⟨0,zz13,rfl,A2,A4,A5,hWB⟩
 case round =>
  clear A2 A4 A5 hWB
  obtain ⟨k,hk,rfl,A2,A4,A5,hB⟩:=hrel
  by_cases hlt:k<16
  ·have e0:IntKind.i64.wrap (4*(k:Int))=4*(k:Int):=IntWalk.i64_in _ zz13
   have e1:IntKind.i64.wrap (4*(k:Int)+1)=4*(k:Int)+1:=IntWalk.i64_in _ zz13
   have e2:IntKind.i64.wrap (4*(k:Int)+2)=4*(k:Int)+2:=IntWalk.i64_in _ zz13
   have e3:IntKind.i64.wrap (4*(k:Int)+3)=4*(k:Int)+3:=IntWalk.i64_in _ zz13
   have n0:(4*(k:Int)).toNat=4*k:=zz13
   have n1:(4*(k:Int)+1).toNat=4*k+1:=zz13
   have n2:(4*(k:Int)+2).toNat=4*k+2:=zz13
   have n3:(4*(k:Int)+3).toNat=4*k+3:=zz13
   have l0:4*(k:Int)<blk.size:=zz13
   have l1:4*(k:Int)+1<blk.size:=zz13
   have l2:4*(k:Int)+2<blk.size:=zz13
   have l3:4*(k:Int)+3<blk.size:=zz13
   have m0:0≤4*(k:Int):=zz13
   have m1:0≤4*(k:Int)+1:=zz13
   have m2:0≤4*(k:Int)+2:=zz13
   have m3:0≤4*(k:Int)+3:=zz13
   go_wp2
   refine still_tail 30 (by kernel_rfl) (by kernel_rfl) ?_
   simp only [List.take_succ_cons,List.take_zero,List.drop_succ_cons,List.drop_zero]
   repeat still_step
   refine wpStill_nil ?_
   clear e0 e1 e2 e3
   have hc:=A5.cell (i:=k) (by rw [padz_len (by rw [sch_len]; omega)]; omega)
   have hf:=A5.frozen k
   have hl:k<64:=zz13
   go_wp2
   go_roundw
   case rel =>
    refine ⟨k+1,zz13,by go_num,((A2.setO (show w.heap.size≠w.heap.size+1+1 by omega) _).drew),((A4.setO (show w.heap.size+1≠w.heap.size+1+1 by omega) _).drew),?_,?_⟩
    ·rw [sch_low blk hlt, ← sch_put blk hl, ← word_at zz13]
     exact (A5.set k _).drew
    ·exact (hB.setCell (show w.heap.size≤w.heap.size+1+1 by omega) _).drew
   case measure => simp [intOf]; omega
  ·have hke:k=16:=by omega
   subst hke
   clear hlt hk
   go_wp2
   go_loopw [8] (fun i wr => ∃ k:Nat,16≤k∧k≤64∧i = .int .i64 k∧Arr wr w.heap.size 351 s.l∧Arr wr (w.heap.size+1) 351 (List.replicate 8 0)∧Arr wr (w.heap.size+1+1) 353 (padz (sch blk k) 64)∧Below w.heap.size w wr) (fun i _ => 64 - (intOf i).toNat)
   case atStart => exact ⟨16,zz13,zz13,rfl,A2,A4,A5,hB⟩
   case round =>
    clear A2 A4 A5 hB
    obtain ⟨k,hk0,hk,rfl,A2,A4,A5,hB⟩:=hrel
    by_cases hlt:k<64
    ·obtain ⟨x16,X16,hx16,c16⟩:=A5.word (i:=k - 16) zz13 zz13
     obtain ⟨x15,X15,hx15,c15⟩:=A5.word (i:=k - 15) zz13 zz13
     obtain ⟨x7,X7,hx7,c7⟩:=A5.word (i:=k - 7) zz13 zz13
     obtain ⟨x2,X2,hx2,c2⟩:=A5.word (i:=k - 2) zz13 zz13
     have HS:Hid (sch blk (k+1)=sch blk k ++ [wsum x16 (sg0 x15) x7 (sg1 x2)]):=zd (by rw [sch_high blk zz13]; simp only [wnext,X16,X15,X7,X2])
     clear X16 X15 X7 X2
     have e16:IntKind.i64.wrap ((k:Int) - 16)=(k:Int) - 16:=IntWalk.i64_in _ zz13
     have e15:IntKind.i64.wrap ((k:Int) - 15)=(k:Int) - 15:=IntWalk.i64_in _ zz13
     have e7:IntKind.i64.wrap ((k:Int) - 7)=(k:Int) - 7:=IntWalk.i64_in _ zz13
     have e2:IntKind.i64.wrap ((k:Int) - 2)=(k:Int) - 2:=IntWalk.i64_in _ zz13
     have n16:((k:Int) - 16).toNat=k - 16:=zz13
     have n15:((k:Int) - 15).toNat=k - 15:=zz13
     have n7:((k:Int) - 7).toNat=k - 7:=zz13
     have n2:((k:Int) - 2).toNat=k - 2:=zz13
     have m16:0≤(k:Int) - 16:=zz13
     have m15:0≤(k:Int) - 15:=zz13
     have m7:0≤(k:Int) - 7:=zz13
     have m2:0≤(k:Int) - 2:=zz13
     have p16:(16:Int)≤k:=zz13
     have p15:(15:Int)≤k:=zz13
     have p7:(7:Int)≤k:=zz13
     have p2:(2:Int)≤k:=zz13
     have l16:(k:Int) - 16<64:=zz13
     have l15:(k:Int) - 15<64:=zz13
     have l7:(k:Int) - 7<64:=zz13
     have l2:(k:Int) - 2<64:=zz13
     obtain ⟨hx15a,hx15b⟩:=hx15
     obtain ⟨hx2a,hx2b⟩:=hx2
     go_wp2
     go_quiet (fail)
     go_wp2
     refine still_tail 32 (by kernel_rfl) (by kernel_rfl) ?_
     simp only [List.take_succ_cons,List.take_zero,List.drop_succ_cons,List.drop_zero]
     repeat still_step
     still_call (still_of (impl_turn 7 _ _ zz76 hx15a hx15b))
     repeat still_step
     still_call (still_of (impl_turn 18 _ _ zz76 hx15a hx15b))
     repeat still_step
     still_call (still_of (impl_turn 17 _ _ zz76 hx2a hx2b))
     repeat still_step
     still_call (still_of (impl_turn 19 _ _ zz76 hx2a hx2b))
     repeat still_step
     refine wpStill_nil ?_
     have hc:=A5.cell (i:=k) (by rw [padz_len (by rw [sch_len]; omega)]; omega)
     have hf:=A5.frozen k
     clear e16 e15 e7 e2 c16 c15 c7 c2 n16 n15 n7 n2 m16 m15 m7 m2 l16 l15 l7 l2 p16 p15 p7 p2
     go_wp2
     go_roundw
     case rel =>
      (repeat apply Exists.intro)
      refine ⟨⟨k+1,zz13,zz13,by go_num,A2.setO (show w.heap.size≠w.heap.size+1+1 by omega) _,A4.setO (show w.heap.size+1≠w.heap.size+1+1 by omega) _,?_,?_⟩,rfl⟩
      ·rw [HS.out, ← sch_put blk hlt]
       simp only [wsum,sg0,sg1,xr]
       exact A5.set k _
      ·exact ((Below.drewN hB _).setCell (show w.heap.size≤w.heap.size+1+1 by omega) _)
     case measure => simp [intOf]; omega
    ·have hke:k=64:=by omega
     subst hke
     clear hlt hk hk0
     rw [show padz (sch blk 64) 64=sch blk 64 from by unfold padz; rw [sch_len]; simp] at A5
     have hsz2:=hB.size
     have A5lt:=A5.lt
     go_wp2_with (refine wpList_load_row rfl 351 _ rfl w.heap.size rfl 351 #[.int .u32 s.a,.int .u32 s.b,.int .u32 s.c,.int .u32 s.d,.int .u32 s.e,.int .u32 s.f,.int .u32 s.g,.int .u32 s.h] (0,0) _ A2 Tryz.underlying351 rfl (by kernel_rfl) ?_)
     obtain ⟨V,hV⟩:∃ V,wr.heap.size=V:=⟨_,rfl⟩
     have AV:Arr (wr.alloc (.cells #[.int .u32 s.a,.int .u32 s.b,.int .u32 s.c,.int .u32 s.d,.int .u32 s.e,.int .u32 s.f,.int .u32 s.g,.int .u32 s.h] 351)) V 351 (rounds s (sch blk 64) 0).l:=arr_new hV.symm rfl
     replace A2:=A2.alloc (.cells #[.int .u32 s.a,.int .u32 s.b,.int .u32 s.c,.int .u32 s.d,.int .u32 s.e,.int .u32 s.f,.int .u32 s.g,.int .u32 s.h] 351)
     replace A4:=A4.alloc (.cells #[.int .u32 s.a,.int .u32 s.b,.int .u32 s.c,.int .u32 s.d,.int .u32 s.e,.int .u32 s.f,.int .u32 s.g,.int .u32 s.h] 351)
     replace A5:=A5.alloc (.cells #[.int .u32 s.a,.int .u32 s.b,.int .u32 s.c,.int .u32 s.d,.int .u32 s.e,.int .u32 s.f,.int .u32 s.g,.int .u32 s.h] 351)
     replace hB:=hB.alloc hsz2 (.cells #[.int .u32 s.a,.int .u32 s.b,.int .u32 s.c,.int .u32 s.d,.int .u32 s.e,.int .u32 s.f,.int .u32 s.g,.int .u32 s.h] 351)
     have hV3:w.heap.size+1+1<V:=by rw [← hV]; exact A5lt
     rw [hV]
     replace hV:=zd hV
     generalize wr.alloc _=W2 at A2 A4 A5 hB AV ⊢
     have HT2:=zd (hT.later hB)
     go_loopw [99] (fun i wr => ∃ k:Nat,k≤64∧i = .int .i64 k∧Arr wr w.heap.size 351 s.l∧Arr wr (w.heap.size+1) 351 (List.replicate 8 0)∧Arr wr (w.heap.size+1+1) 353 (sch blk 64)∧Arr wr V 351 (rounds s (sch blk 64) k).l∧Below w.heap.size w wr) (fun i _ => 64 - (intOf i).toNat)
     case atStart => exact ⟨0,zz13,rfl,A2,A4,A5,AV,hB⟩
     case round =>
      clear A2 A4 A5 hB AV HT2
      obtain ⟨k,hk,rfl,A2,A4,A5,AV,hB⟩:=hrel
      by_cases hlt:k<64
      ·obtain ⟨hw,hwx,hww,cw⟩:∃ x,(sch blk 64).getD k 0=x∧W32 x∧wr.cell? ⟨w.heap.size+1+1,k,none⟩=some (.int .u32 x):=⟨_,rfl,sch_w blk hlt,A5.at_ (by rw [sch_len]; exact hlt)⟩
       obtain ⟨kk,hkk,hkw,ck⟩:∃ x,shaKeys.getD k 0=x∧W32 x∧wr.cell? ⟨1,k,none⟩=some (.int .u32 x):=⟨_,rfl,keys_lt k hlt,(hT.later hB).1 k hlt⟩
       have HR:Hid (rounds s (sch blk 64) (k+1)=rnd (rounds s (sch blk 64) k) kk hw):=zd (by simp only [rounds,hwx,hkk])
       clear hwx hkk
       have hro:=rounds_ok ⟨hs0,hs1,hs2,hs3,hs4,hs5,hs6,hs7⟩ (sch blk 64) k
       obtain ⟨r,hr⟩:∃ r,rounds s (sch blk 64) k=r:=⟨_,rfl⟩
       rw [hr] at AV HR hro
       clear hr
       obtain ⟨ra,rb,rc,rd_,re,rf,rg,rh⟩:=r
       obtain ⟨ha,hb_,hc_,hd,he,hf_,hg,hh⟩:=hro
       have v0:=AV.cell (i:=0) zz85
       have v1:=AV.cell (i:=1) zz85
       have v2:=AV.cell (i:=2) zz85
       have v3:=AV.cell (i:=3) zz85
       have v4:=AV.cell (i:=4) zz85
       have v5:=AV.cell (i:=5) zz85
       have v6:=AV.cell (i:=6) zz85
       have v7:=AV.cell (i:=7) zz85
       simp only [S8.l,List.getElem_cons_zero,List.getElem_cons_succ] at v0 v1 v2 v3 v4 v5 v6 v7
       change W32 ra at ha
       change W32 re at he
       obtain ⟨haa,hab⟩:=ha
       obtain ⟨hea,heb⟩:=he
       have hk64:(k:Int)<64:=zz13
       go_wp2
       go_quiet (fail)
       go_wp2
       go_quiet ((go_at_call 302; exact quiet_add_left (impl_turn _ _ _ zz76 hea heb)))
       go_wp2
       go_quiet ((go_at_call 302; exact quiet_add_left (impl_turn _ _ _ zz76 haa hab)))
       have hfz:=fun o => AV.frozen o
       go_wp2
       go_roundw
       case rel =>
        first | refine ⟨k+1,zz13,by go_num,Arr.setO8 (A2.drewN _) zz13 _ _ _ _ _ _ _ _,Arr.setO8 (A4.drewN _) zz13 _ _ _ _ _ _ _ _,Arr.setO8 (A5.drewN _) zz13 _ _ _ _ _ _ _ _,?_,Below.set8 (Below.drewN hB _) zz13 _ _ _ _ _ _ _ _⟩ | ((repeat apply Exists.intro); refine ⟨⟨k+1,zz13,by go_num,Arr.setO8 (A2.drewN _) zz13 _ _ _ _ _ _ _ _,Arr.setO8 (A4.drewN _) zz13 _ _ _ _ _ _ _ _,Arr.setO8 (A5.drewN _) zz13 _ _ _ _ _ _ _ _,?_,Below.set8 (Below.drewN hB _) zz13 _ _ _ _ _ _ _ _⟩,rfl⟩)
        rw [HR.out]
        simp only [rnd,tmpT,tmpU,up0,up1,chs,maj,xr,an, ← max32]
        exact Arr.set8 (AV.drewN _) _ _ _ _ _ _ _ _
       case measure => simp [intOf]; omega
      ·have hke:k=64:=by omega
       subst hke
       clear hlt hk
       obtain ⟨r,hr⟩:∃ r,rounds s (sch blk 64) 64=r:=⟨_,rfl⟩
       have HC:Hid (comp s blk=adds s r):=zd (by unfold comp; rw [hr])
       rw [hr] at AV
       clear hr
       have hsz3:=hB.size
       go_wp2
       have B2:Arr wr w.heap.size 351 (addk s r 0):=A2
       clear A2
       go_loopw [185] (fun i wr => ∃ k:Nat,k≤8∧i = .int .i64 k∧Arr wr w.heap.size 351 (addk s r k)∧Arr wr (w.heap.size+1) 351 (List.replicate 8 0)∧Arr wr V 351 r.l∧Below w.heap.size w wr) (fun i _ => 8 - (intOf i).toNat)
       case atStart => exact ⟨0,zz13,rfl,B2,A4,AV,hB⟩
       case round =>
        clear B2 A4 A5 AV hB hsz3
        obtain ⟨k,hk,rfl,A2,A4,AV,hB⟩:=hrel
        by_cases hlt:k<8
        ·have c0:wr.cell? ⟨w.heap.size,k,none⟩=some (.int .u32 (s.l.getD k 0)):=by rw [← addk_get hlt]; exact A2.at_ (by rw [addk_len]; exact hlt)
         have c1:wr.cell? ⟨V,k,none⟩=some (.int .u32 (r.l.getD k 0)):=AV.at_ hlt
         have f0:=A2.frozen k
         have hs8:=zd (addk_set (s:=s) (r:=r) hlt)
         obtain ⟨x,hx⟩:∃ x,s.l.getD k 0=x:=⟨_,rfl⟩
         obtain ⟨y,hy⟩:∃ y,r.l.getD k 0=y:=⟨_,rfl⟩
         rw [hx] at c0 hs8
         rw [hy] at c1 hs8
         clear hx hy
         have hk8:(k:Int)<8:=zz13
         go_wp2
         refine still_tail 7 (by kernel_rfl) (by kernel_rfl) ?_
         simp only [List.take_succ_cons,List.take_zero,List.drop_succ_cons,List.drop_zero]
         repeat still_step
         refine wpStill_nil ?_
         go_wp2
         go_roundw
         case rel =>
          first | refine ⟨k+1,zz13,by go_num,?_,A4.setO (show w.heap.size+1≠w.heap.size by omega) _,AV.setO (show V≠w.heap.size by omega) _,(hB.drew.setCell (Nat.le_refl _) _)⟩ | ((repeat apply Exists.intro); refine ⟨⟨k+1,zz13,by go_num,?_,A4.setO (show w.heap.size+1≠w.heap.size by omega) _,AV.setO (show V≠w.heap.size by omega) _,(hB.drew.setCell (Nat.le_refl _) _)⟩,rfl⟩)
          rw [← hs8.out]
          exact A2.set k _
         case measure => simp [intOf]; omega
        ·have hke:k=8:=by omega
         subst hke
         clear hlt hk
         rw [addk_all] at A2
         rw [← HC.out] at A2
         obtain ⟨⟨qa,qb,qc,qd,qe,qf,qg,qh⟩,hq⟩:∃ q,comp s blk=q:=⟨_,rfl⟩
         rw [hq] at A2
         have HQ:=zd hq
         clear hq
         have z0:=A4.cell (i:=0) zz30
         have z1:=A4.cell (i:=1) zz30
         have z2:=A4.cell (i:=2) zz30
         have z3:=A4.cell (i:=3) zz30
         have z4:=A4.cell (i:=4) zz30
         have z5:=A4.cell (i:=5) zz30
         have z6:=A4.cell (i:=6) zz30
         have z7:=A4.cell (i:=7) zz30
         simp only [List.getElem_replicate] at z0 z1 z2 z3 z4 z5 z6 z7
         have hfz:=fun o => A4.frozen o
         go_wp2_with (refine wpList_load_row rfl 351 _ rfl w.heap.size rfl 351 #[.int .u32 qa,.int .u32 qb,.int .u32 qc,.int .u32 qd,.int .u32 qe,.int .u32 qf,.int .u32 qg,.int .u32 qh] (0,0) _ A2 Tryz.underlying351 rfl (by kernel_rfl) ?_)
         refine bodyPost_ret (v:=.agg #[.int .u32 qa,.int .u32 qb,.int .u32 qc,.int .u32 qd,.int .u32 qe,.int .u32 qf,.int .u32 qg,.int .u32 qh]) ?_ rfl ⟨by rw [HQ.out]; rfl,Below.set8 hB zz13 _ _ _ _ _ _ _ _⟩
         exact results_cell_row rfl _ _ (w.heap.size+1) 351 _ (0,0) _ rfl (Arr.set8 A4 qa qb qc qd qe qf qg qh) Tryz.underlying351 rfl (by kernel_rfl)
end Go.Proofs.YtcbbjfafmmcfiaaGreatDoor
namespace Go.Proofs.YtcbbjfafmmcfiaaGreatDoor
open Go.RowKit Lay Mk
theorem spec_l03Block (w:World) (s:S8) (hs:s.Ok) (blk:ByteArray) (hb:blk.size=64) :Calls Tryz.prog 281 #[.agg (arr s.l),.string blk,.agg (arr shaKeys)] w fun e w' => e = .returned (.agg (arr (comp s blk).l))∧Below w.heap.size w w':=by
 have hbl:64≤blk.size:=zz13
 have HB:=zd hb; clear hb
 obtain ⟨hs0,hs1,hs2,hs3,hs4,hs5,hs6,hs7⟩:=hs
 rw [S8.arr]
 obtain ⟨KS,hKS⟩:∃ K,arr shaKeys=K:=⟨_,rfl⟩
 rw [hKS]
 replace hKS:=zd hKS
 go_enter Tryz.func281,Tryz.ntmps281
 go_wp2_with (first | (refine wpList_box rfl _ _ rfl rfl ?_) | (refine wpList_storeNew (cs:=arr (List.replicate 64 0)) rfl 353 _ _ rfl rfl rfl zz30 (by kernel_rfl) rfl (arr_one _) ?_))
 generalize hW:(((w.alloc (.cells #[_,_,_,_,_,_,_,_] _)).alloc (.cells KS _)).alloc (.cells #[_,_,_,_,_,_,_,_] _)).alloc _=W
 have hWs:W.heap.size=w.heap.size+1+1+1+1:=by rw [← hW]; simp
 have A2:Arr W w.heap.size 351 s.l:=by
  rw [← hW]
  exact Arr.alloc (Arr.alloc (Arr.alloc (arr_new (l:=s.l) rfl rfl) _) _) _
 have AK:Arr W (w.heap.size+1) 353 shaKeys:=by
  rw [← hW]
  exact Arr.alloc (Arr.alloc (arr_new (l:=shaKeys) (World.size_alloc _ _).symm hKS.out.symm) _) _
 have A4:Arr W (w.heap.size+1+1) 351 (List.replicate 8 0):=by
  rw [← hW]
  exact Arr.alloc (arr_new (l:=List.replicate 8 0) (by rw [World.size_alloc,World.size_alloc]) rfl) _
 have A5:Arr W (w.heap.size+1+1+1) 353 (padz (sch blk 0) 64):=by
  rw [← hW]
  exact arr_new (l:=padz (sch blk 0) 64) (by rw [World.size_alloc,World.size_alloc,World.size_alloc]) rfl
 have hWB:Below w.heap.size w W:=by
  rw [← hW]
  exact ((((Below.refl _ _).alloc (Nat.le_refl _) _).alloc zz30 _).alloc zz46 _).alloc zz46 _
 have hWs2:w.heap.size+1+1+1+1≤W.heap.size:=zz13
 clear hW hWs
 go_loopw [8] (fun i wr => ∃ k:Nat,k≤16∧i = .int .i64 k∧Arr wr w.heap.size 351 s.l∧Arr wr (w.heap.size+1) 353 shaKeys∧Arr wr (w.heap.size+1+1) 351 (List.replicate 8 0)∧Arr wr (w.heap.size+1+1+1) 353 (padz (sch blk k) 64)∧Below w.heap.size w wr) (fun i _ => 16 - (intOf i).toNat)
 case atStart => exact ⟨0,zz13,rfl,A2,AK,A4,A5,hWB⟩
 case round =>
  clear A2 AK A4 A5 hWB
  obtain ⟨k,hk,rfl,A2,AK,A4,A5,hB⟩:=hrel
  by_cases hlt:k<16
  ·have e0:IntKind.i64.wrap (4*(k:Int))=4*(k:Int):=IntWalk.i64_in _ zz13
   have e1:IntKind.i64.wrap (4*(k:Int)+1)=4*(k:Int)+1:=IntWalk.i64_in _ zz13
   have e2:IntKind.i64.wrap (4*(k:Int)+2)=4*(k:Int)+2:=IntWalk.i64_in _ zz13
   have e3:IntKind.i64.wrap (4*(k:Int)+3)=4*(k:Int)+3:=IntWalk.i64_in _ zz13
   have n0:(4*(k:Int)).toNat=4*k:=zz13
   have n1:(4*(k:Int)+1).toNat=4*k+1:=zz13
   have n2:(4*(k:Int)+2).toNat=4*k+2:=zz13
   have n3:(4*(k:Int)+3).toNat=4*k+3:=zz13
   have l0:4*(k:Int)<blk.size:=zz13
   have l1:4*(k:Int)+1<blk.size:=zz13
   have l2:4*(k:Int)+2<blk.size:=zz13
   have l3:4*(k:Int)+3<blk.size:=zz13
   have m0:0≤4*(k:Int):=zz13
   have m1:0≤4*(k:Int)+1:=zz13
   have m2:0≤4*(k:Int)+2:=zz13
   have m3:0≤4*(k:Int)+3:=zz13
   go_wp2
   refine still_tail 30 (by kernel_rfl) (by kernel_rfl) ?_
   simp only [List.take_succ_cons,List.take_zero,List.drop_succ_cons,List.drop_zero]
   repeat still_step
   refine wpStill_nil ?_
   clear e0 e1 e2 e3
   have hc:=A5.cell (i:=k) (by rw [padz_len (by rw [sch_len]; omega)]; omega)
   have hf:=A5.frozen k
   have hl:k<64:=zz13
   go_wp2
   go_roundw
   case rel =>
    refine ⟨k+1,zz13,by go_num,((A2.setO (show w.heap.size≠w.heap.size+1+1+1 by omega) _).drew),((AK.setO (show w.heap.size+1≠w.heap.size+1+1+1 by omega) _).drew),((A4.setO (show w.heap.size+1+1≠w.heap.size+1+1+1 by omega) _).drew),?_,?_⟩
    ·rw [sch_low blk hlt, ← sch_put blk hl, ← word_at zz13]
     exact (A5.set k _).drew
    ·exact (hB.setCell (show w.heap.size≤w.heap.size+1+1+1 by omega) _).drew
   case measure => simp [intOf]; omega
  ·have hke:k=16:=by omega
   subst hke
   clear hlt hk
   go_wp2
   go_loopw [9] (fun i wr => ∃ k:Nat,16≤k∧k≤64∧i = .int .i64 k∧Arr wr w.heap.size 351 s.l∧Arr wr (w.heap.size+1) 353 shaKeys∧Arr wr (w.heap.size+1+1) 351 (List.replicate 8 0)∧Arr wr (w.heap.size+1+1+1) 353 (padz (sch blk k) 64)∧Below w.heap.size w wr) (fun i _ => 64 - (intOf i).toNat)
   case atStart => exact ⟨16,zz13,zz13,rfl,A2,AK,A4,A5,hB⟩
   case round =>
    clear A2 AK A4 A5 hB
    obtain ⟨k,hk0,hk,rfl,A2,AK,A4,A5,hB⟩:=hrel
    by_cases hlt:k<64
    ·obtain ⟨x16,X16,hx16,c16⟩:=A5.word (i:=k - 16) zz13 zz13
     obtain ⟨x15,X15,hx15,c15⟩:=A5.word (i:=k - 15) zz13 zz13
     obtain ⟨x7,X7,hx7,c7⟩:=A5.word (i:=k - 7) zz13 zz13
     obtain ⟨x2,X2,hx2,c2⟩:=A5.word (i:=k - 2) zz13 zz13
     have HS:Hid (sch blk (k+1)=sch blk k ++ [wsum x16 (sg0 x15) x7 (sg1 x2)]):=zd (by rw [sch_high blk zz13]; simp only [wnext,X16,X15,X7,X2])
     clear X16 X15 X7 X2
     have e16:IntKind.i64.wrap ((k:Int) - 16)=(k:Int) - 16:=IntWalk.i64_in _ zz13
     have e15:IntKind.i64.wrap ((k:Int) - 15)=(k:Int) - 15:=IntWalk.i64_in _ zz13
     have e7:IntKind.i64.wrap ((k:Int) - 7)=(k:Int) - 7:=IntWalk.i64_in _ zz13
     have e2:IntKind.i64.wrap ((k:Int) - 2)=(k:Int) - 2:=IntWalk.i64_in _ zz13
     have n16:((k:Int) - 16).toNat=k - 16:=zz13
     have n15:((k:Int) - 15).toNat=k - 15:=zz13
     have n7:((k:Int) - 7).toNat=k - 7:=zz13
     have n2:((k:Int) - 2).toNat=k - 2:=zz13
     have m16:0≤(k:Int) - 16:=zz13
     have m15:0≤(k:Int) - 15:=zz13
     have m7:0≤(k:Int) - 7:=zz13
     have m2:0≤(k:Int) - 2:=zz13
     have p16:(16:Int)≤k:=zz13
     have p15:(15:Int)≤k:=zz13
     have p7:(7:Int)≤k:=zz13
     have p2:(2:Int)≤k:=zz13
     have l16:(k:Int) - 16<64:=zz13
     have l15:(k:Int) - 15<64:=zz13
     have l7:(k:Int) - 7<64:=zz13
     have l2:(k:Int) - 2<64:=zz13
     obtain ⟨hx15a,hx15b⟩:=hx15
     obtain ⟨hx2a,hx2b⟩:=hx2
     go_wp2
     go_quiet ((go_at_call 301; exact quiet_w (spec_turn _ _ _ zz76 hx15a hx15b)))
     go_wp2
     go_quiet ((go_at_call 301; exact quiet_add_left (spec_turn _ _ _ zz76 hx2a hx2b)))
     go_wp2
     refine still_tail 14 (by kernel_rfl) (by kernel_rfl) ?_
     simp only [List.take_succ_cons,List.take_zero,List.drop_succ_cons,List.drop_zero]
     repeat still_step
     refine wpStill_nil ?_
     have hc:=A5.cell (i:=k) (by rw [padz_len (by rw [sch_len]; omega)]; omega)
     have hf:=A5.frozen k
     clear e16 e15 e7 e2 c16 c15 c7 c2 n16 n15 n7 n2 m16 m15 m7 m2 l16 l15 l7 l2 p16 p15 p7 p2
     go_wp2
     go_roundw
     case rel =>
      (repeat apply Exists.intro)
      refine ⟨⟨k+1,zz13,zz13,by go_num,A2.setO (show w.heap.size≠w.heap.size+1+1+1 by omega) _,AK.setO (show w.heap.size+1≠w.heap.size+1+1+1 by omega) _,A4.setO (show w.heap.size+1+1≠w.heap.size+1+1+1 by omega) _,?_,?_⟩,rfl⟩
      ·rw [HS.out, ← sch_put blk hlt]
       simp only [wsum,sg0,sg1,xr]
       exact A5.set k _
      ·exact ((Below.drewN hB _).setCell (show w.heap.size≤w.heap.size+1+1+1 by omega) _)
     case measure => simp [intOf]; omega
    ·have hke:k=64:=by omega
     subst hke
     clear hlt hk hk0
     rw [show padz (sch blk 64) 64=sch blk 64 from by unfold padz; rw [sch_len]; simp] at A5
     have hsz2:=hB.size
     have A5lt:=A5.lt
     go_wp2_with (refine wpList_load_row rfl 351 _ rfl w.heap.size rfl 351 #[.int .u32 s.a,.int .u32 s.b,.int .u32 s.c,.int .u32 s.d,.int .u32 s.e,.int .u32 s.f,.int .u32 s.g,.int .u32 s.h] (0,0) _ A2 Tryz.underlying351 rfl (by kernel_rfl) ?_)
     obtain ⟨V,hV⟩:∃ V,wr.heap.size=V:=⟨_,rfl⟩
     have AV:Arr (wr.alloc (.cells #[.int .u32 s.a,.int .u32 s.b,.int .u32 s.c,.int .u32 s.d,.int .u32 s.e,.int .u32 s.f,.int .u32 s.g,.int .u32 s.h] 351)) V 351 (rounds s (sch blk 64) 0).l:=arr_new hV.symm rfl
     replace A2:=A2.alloc (.cells #[.int .u32 s.a,.int .u32 s.b,.int .u32 s.c,.int .u32 s.d,.int .u32 s.e,.int .u32 s.f,.int .u32 s.g,.int .u32 s.h] 351)
     replace AK:=AK.alloc (.cells #[.int .u32 s.a,.int .u32 s.b,.int .u32 s.c,.int .u32 s.d,.int .u32 s.e,.int .u32 s.f,.int .u32 s.g,.int .u32 s.h] 351)
     replace A4:=A4.alloc (.cells #[.int .u32 s.a,.int .u32 s.b,.int .u32 s.c,.int .u32 s.d,.int .u32 s.e,.int .u32 s.f,.int .u32 s.g,.int .u32 s.h] 351)
     replace A5:=A5.alloc (.cells #[.int .u32 s.a,.int .u32 s.b,.int .u32 s.c,.int .u32 s.d,.int .u32 s.e,.int .u32 s.f,.int .u32 s.g,.int .u32 s.h] 351)
     replace hB:=hB.alloc hsz2 (.cells #[.int .u32 s.a,.int .u32 s.b,.int .u32 s.c,.int .u32 s.d,.int .u32 s.e,.int .u32 s.f,.int .u32 s.g,.int .u32 s.h] 351)
     have hV3:w.heap.size+1+1+1<V:=by rw [← hV]; exact A5lt
     rw [hV]
     replace hV:=zd hV
     generalize wr.alloc _=W2 at A2 AK A4 A5 hB AV ⊢
     go_loopw [13] (fun i wr => ∃ k:Nat,k≤64∧i = .int .i64 k∧Arr wr w.heap.size 351 s.l∧Arr wr (w.heap.size+1) 353 shaKeys∧Arr wr (w.heap.size+1+1) 351 (List.replicate 8 0)∧Arr wr (w.heap.size+1+1+1) 353 (sch blk 64)∧Arr wr V 351 (rounds s (sch blk 64) k).l∧Below w.heap.size w wr) (fun i _ => 64 - (intOf i).toNat)
     case atStart => exact ⟨0,zz13,rfl,A2,AK,A4,A5,AV,hB⟩
     case round =>
      clear A2 AK A4 A5 hB AV
      obtain ⟨k,hk,rfl,A2,AK,A4,A5,AV,hB⟩:=hrel
      by_cases hlt:k<64
      ·obtain ⟨hw,hwx,hww,cw⟩:∃ x,(sch blk 64).getD k 0=x∧W32 x∧wr.cell? ⟨w.heap.size+1+1+1,k,none⟩=some (.int .u32 x):=⟨_,rfl,sch_w blk hlt,A5.at_ (by rw [sch_len]; exact hlt)⟩
       obtain ⟨kk,hkk,hkw,ck⟩:∃ x,shaKeys.getD k 0=x∧W32 x∧wr.cell? ⟨w.heap.size+1,k,none⟩=some (.int .u32 x):=⟨_,rfl,keys_lt k hlt,AK.at_ hlt⟩
       have HR:Hid (rounds s (sch blk 64) (k+1)=rnd (rounds s (sch blk 64) k) kk hw):=zd (by simp only [rounds,hwx,hkk])
       clear hwx hkk
       have hro:=rounds_ok ⟨hs0,hs1,hs2,hs3,hs4,hs5,hs6,hs7⟩ (sch blk 64) k
       obtain ⟨r,hr⟩:∃ r,rounds s (sch blk 64) k=r:=⟨_,rfl⟩
       rw [hr] at AV HR hro
       clear hr
       obtain ⟨ra,rb,rc,rd_,re,rf,rg,rh⟩:=r
       obtain ⟨ha,hb_,hc_,hd,he,hf_,hg,hh⟩:=hro
       have v0:=AV.cell (i:=0) zz85
       have v1:=AV.cell (i:=1) zz85
       have v2:=AV.cell (i:=2) zz85
       have v3:=AV.cell (i:=3) zz85
       have v4:=AV.cell (i:=4) zz85
       have v5:=AV.cell (i:=5) zz85
       have v6:=AV.cell (i:=6) zz85
       have v7:=AV.cell (i:=7) zz85
       simp only [S8.l,List.getElem_cons_zero,List.getElem_cons_succ] at v0 v1 v2 v3 v4 v5 v6 v7
       change W32 ra at ha
       change W32 re at he
       obtain ⟨haa,hab⟩:=ha
       obtain ⟨hea,heb⟩:=he
       have hk64:(k:Int)<64:=zz13
       have hfz:=fun o => AV.frozen o
       go_wp2
       go_quiet ((go_at_call 301; exact quiet_w (spec_turn _ _ _ zz76 hea heb)))
       go_wp2
       go_quiet (fail)
       go_wp2
       go_quiet ((go_at_call 301; exact quiet_add_left (spec_turn _ _ _ zz76 haa hab)))
       go_wp2
       go_roundw
       case rel =>
        first | refine ⟨k+1,zz13,by go_num,Arr.setO8r (A2.drewN _) zz13 _ _ _ _ _ _ _ _,Arr.setO8r (AK.drewN _) zz13 _ _ _ _ _ _ _ _,Arr.setO8r (A4.drewN _) zz13 _ _ _ _ _ _ _ _,Arr.setO8r (A5.drewN _) zz13 _ _ _ _ _ _ _ _,?_,Below.set8r (Below.drewN hB _) zz13 _ _ _ _ _ _ _ _⟩ | ((repeat apply Exists.intro); refine ⟨⟨k+1,zz13,by go_num,Arr.setO8r (A2.drewN _) zz13 _ _ _ _ _ _ _ _,Arr.setO8r (AK.drewN _) zz13 _ _ _ _ _ _ _ _,Arr.setO8r (A4.drewN _) zz13 _ _ _ _ _ _ _ _,Arr.setO8r (A5.drewN _) zz13 _ _ _ _ _ _ _ _,?_,Below.set8r (Below.drewN hB _) zz13 _ _ _ _ _ _ _ _⟩,rfl⟩)
        rw [HR.out]
        simp only [rnd,tmpT,tmpU,up0,up1,chs,maj,xr,an]
        exact Arr.set8r (AV.drewN _) _ _ _ _ _ _ _ _
       case measure => simp [intOf]; omega
      ·have hke:k=64:=by omega
       subst hke
       clear hlt hk
       obtain ⟨r,hr⟩:∃ r,rounds s (sch blk 64) 64=r:=⟨_,rfl⟩
       have HC:Hid (comp s blk=adds s r):=zd (by unfold comp; rw [hr])
       rw [hr] at AV
       clear hr
       have hsz3:=hB.size
       go_wp2
       have B2:Arr wr w.heap.size 351 (addk s r 0):=A2
       clear A2
       go_loopw [20] (fun i wr => ∃ k:Nat,k≤8∧i = .int .i64 k∧Arr wr w.heap.size 351 (addk s r k)∧Arr wr (w.heap.size+1+1) 351 (List.replicate 8 0)∧Arr wr V 351 r.l∧Below w.heap.size w wr) (fun i _ => 8 - (intOf i).toNat)
       case atStart => exact ⟨0,zz13,rfl,B2,A4,AV,hB⟩
       case round =>
        clear B2 A4 A5 AV hB hsz3
        obtain ⟨k,hk,rfl,A2,A4,AV,hB⟩:=hrel
        by_cases hlt:k<8
        ·have c0:wr.cell? ⟨w.heap.size,k,none⟩=some (.int .u32 (s.l.getD k 0)):=by rw [← addk_get hlt]; exact A2.at_ (by rw [addk_len]; exact hlt)
         have c1:wr.cell? ⟨V,k,none⟩=some (.int .u32 (r.l.getD k 0)):=AV.at_ hlt
         have f0:=A2.frozen k
         have hs8:=zd (addk_set (s:=s) (r:=r) hlt)
         obtain ⟨x,hx⟩:∃ x,s.l.getD k 0=x:=⟨_,rfl⟩
         obtain ⟨y,hy⟩:∃ y,r.l.getD k 0=y:=⟨_,rfl⟩
         rw [hx] at c0 hs8
         rw [hy] at c1 hs8
         clear hx hy
         have hk8:(k:Int)<8:=zz13
         go_wp2
         refine still_tail 8 (by kernel_rfl) (by kernel_rfl) ?_
         simp only [List.take_succ_cons,List.take_zero,List.drop_succ_cons,List.drop_zero]
         repeat still_step
         refine wpStill_nil ?_
         go_wp2
         go_roundw
         case rel =>
          first | refine ⟨k+1,zz13,by go_num,?_,A4.setO (show w.heap.size+1+1≠w.heap.size by omega) _,AV.setO (show V≠w.heap.size by omega) _,(hB.drew.setCell (Nat.le_refl _) _)⟩ | ((repeat apply Exists.intro); refine ⟨⟨k+1,zz13,by go_num,?_,A4.setO (show w.heap.size+1+1≠w.heap.size by omega) _,AV.setO (show V≠w.heap.size by omega) _,(hB.drew.setCell (Nat.le_refl _) _)⟩,rfl⟩)
          rw [← hs8.out]
          exact A2.set k _
         case measure => simp [intOf]; omega
        ·have hke:k=8:=by omega
         subst hke
         clear hlt hk
         rw [addk_all] at A2
         rw [← HC.out] at A2
         obtain ⟨⟨qa,qb,qc,qd,qe,qf,qg,qh⟩,hq⟩:∃ q,comp s blk=q:=⟨_,rfl⟩
         rw [hq] at A2
         have HQ:=zd hq
         clear hq
         have z0:=A4.cell (i:=0) zz30
         have z1:=A4.cell (i:=1) zz30
         have z2:=A4.cell (i:=2) zz30
         have z3:=A4.cell (i:=3) zz30
         have z4:=A4.cell (i:=4) zz30
         have z5:=A4.cell (i:=5) zz30
         have z6:=A4.cell (i:=6) zz30
         have z7:=A4.cell (i:=7) zz30
         simp only [List.getElem_replicate] at z0 z1 z2 z3 z4 z5 z6 z7
         have hfz:=fun o => A4.frozen o
         go_wp2_with (refine wpList_load_row rfl 351 _ rfl w.heap.size rfl 351 #[.int .u32 qa,.int .u32 qb,.int .u32 qc,.int .u32 qd,.int .u32 qe,.int .u32 qf,.int .u32 qg,.int .u32 qh] (0,0) _ A2 Tryz.underlying351 rfl (by kernel_rfl) ?_)
         refine bodyPost_ret (v:=.agg #[.int .u32 qa,.int .u32 qb,.int .u32 qc,.int .u32 qd,.int .u32 qe,.int .u32 qf,.int .u32 qg,.int .u32 qh]) ?_ rfl ⟨by rw [HQ.out]; rfl,Below.set8 hB zz13 _ _ _ _ _ _ _ _⟩
         exact results_cell_row rfl _ _ (w.heap.size+1+1) 351 _ (0,0) _ rfl (Arr.set8 A4 qa qb qc qd qe qf qg qh) Tryz.underlying351 rfl (by kernel_rfl)
end Go.Proofs.YtcbbjfafmmcfiaaGreatDoor
