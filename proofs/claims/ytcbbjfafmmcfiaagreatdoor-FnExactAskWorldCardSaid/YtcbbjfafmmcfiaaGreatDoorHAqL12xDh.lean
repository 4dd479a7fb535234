/- A part of the proof. -/
import Derived.Deep.LoopGhost
import Derived.Test.YtcbbjfafmmcfiaaGreatDoorHAqL11xDp
set_option linter.unusedVariables false
set_option linter.unusedSimpArgs false
set_option maxRecDepth 20000
set_option maxHeartbeats 4000000
namespace Go.Proofs.YtcbbjfafmmcfiaaGreatDoor
open Go.RowKit Lay Mk
def Tabs (w:World):Prop:=(∀ i,i<64→w.cell? ⟨1,i,none⟩=some (.int .u32 (shaKeys.getD i 0)))∧(∀ i,i<8→w.cell? ⟨0,i,none⟩=some (.int .u32 (shaFirst.l.getD i 0)))
theorem quiet_add_left {P:Program} {f:FuncId} {args:Array Value} {w:World} {a n:Nat} {v:Value}
  (h:Calls P f args (w.drewN (a+n)) fun e w' => e = .returned v∧w.drewN (a+n)=w') :
  Calls P f args (w.drewN (a+n)) fun e w'' => e = .returned v∧∃ m,w'' = w.drewN (a+m) :=
 h.mono fun _ _ ⟨he,hm⟩ => ⟨he,n,hm.symm⟩
theorem Arr.setO8 {w:World} {b V t:Nat} {l:List Int} (h:Arr w b t l) (hb:b≠V) (x0 x1 x2 x3 x4 x5 x6 x7:Value):Arr ((((((((w.setCell ⟨V,0,none⟩ x0).setCell ⟨V,1,none⟩ x1).setCell ⟨V,2,none⟩ x2).setCell ⟨V,3,none⟩ x3).setCell ⟨V,4,none⟩ x4).setCell ⟨V,5,none⟩ x5).setCell ⟨V,6,none⟩ x6).setCell ⟨V,7,none⟩ x7) b t l :=
 Arr.setO (Arr.setO (Arr.setO (Arr.setO (Arr.setO (Arr.setO (Arr.setO (Arr.setO h hb _) hb _) hb _) hb _) hb _) hb _) hb _) hb _
theorem Arr.set8 {w:World} {V t:Nat} {a b c d e f g h:Int} (H:Arr w V t [a,b,c,d,e,f,g,h]) (x0 x1 x2 x3 x4 x5 x6 x7:Int):Arr ((((((((w.setCell ⟨V,0,none⟩ (.int .u32 x0)).setCell ⟨V,1,none⟩ (.int .u32 x1)).setCell ⟨V,2,none⟩ (.int .u32 x2)).setCell ⟨V,3,none⟩ (.int .u32 x3)).setCell ⟨V,4,none⟩ (.int .u32 x4)).setCell ⟨V,5,none⟩ (.int .u32 x5)).setCell ⟨V,6,none⟩ (.int .u32 x6)).setCell ⟨V,7,none⟩ (.int .u32 x7)) V t [x0,x1,x2,x3,x4,x5,x6,x7] :=
 ((((((((H.set 0 x0).set 1 x1).set 2 x2).set 3 x3).set 4 x4).set 5 x5).set 6 x6).set 7 x7)
theorem Below.set8 {a w:World} {B V:Nat} (h:Below B a w) (hb:B≤V) (x0 x1 x2 x3 x4 x5 x6 x7:Value):Below B a ((((((((w.setCell ⟨V,0,none⟩ x0).setCell ⟨V,1,none⟩ x1).setCell ⟨V,2,none⟩ x2).setCell ⟨V,3,none⟩ x3).setCell ⟨V,4,none⟩ x4).setCell ⟨V,5,none⟩ x5).setCell ⟨V,6,none⟩ x6).setCell ⟨V,7,none⟩ x7) :=
 (((((((h.setCell hb _).setCell hb _).setCell hb _).setCell hb _).setCell hb _).setCell hb _).setCell hb _).setCell hb _
theorem max32 (x:Int):bits .xor .u32 IntKind.u32.max x=bits .xor .u32 x 4294967295:=by
 show bits .xor .u32 4294967295 x=_
 unfold bits; simp only [BitVec.xor_comm]
theorem still_of {P:Program} {f:FuncId} {args:Array Value} {w:World} {v:Value} (h:Calls P f args w fun e w' => e = .returned v∧w=w'):Calls P f args w fun e w'' => e = .returned v∧w'' = w:=h.mono fun _ _ ⟨he,hm⟩ => ⟨he,hm.symm⟩
theorem Tabs.later {w w':World} (h:Tabs w) (hb:Below w.heap.size w w'):Tabs w' :=
 ⟨fun i hi => (hb.cell (p:=⟨_,i,none⟩) (block_lt_of_cell (a:=⟨_,i,none⟩) (h.1 i hi))).trans (h.1 i hi),fun i hi => (hb.cell (p:=⟨_,i,none⟩) (block_lt_of_cell (a:=⟨_,i,none⟩) (h.2 i hi))).trans (h.2 i hi)⟩
theorem Arr.at_ {w:World} {b t:Nat} {l:List Int} (h:Arr w b t l) {i:Nat} (hi:i<l.length):w.cell? ⟨b,i,none⟩=some (.int .u32 (l.getD i 0)):=by rw [← getD_get hi]; exact h.cell hi
theorem sch_w (b:ByteArray) {k i:Nat} (h:i<k):W32 ((sch b k).getD i 0):=by
 rw [← getD_get (by rw [sch_len]; exact h)]
 exact sch_lt b k _ (List.getElem_mem _)
theorem Arr.word {w:World} {b t k i:Nat} {blk:ByteArray} (h:Arr w b t (padz (sch blk k) 64)) (hk:k≤64) (hi:i<k):∃ x,(sch blk k).getD i 0=x∧W32 x∧w.cell? ⟨b,i,none⟩=some (.int .u32 x):=by
 refine ⟨_,rfl,sch_w blk hi,?_⟩
 have:=h.at_ (i:=i) (by rw [padz_len (by rw [sch_len]; omega)]; omega)
 rw [padz_get (by rw [sch_len]; exact hi)] at this
 exact this
theorem S8.arr (s:S8):arr s.l = #[.int .u32 s.a,.int .u32 s.b,.int .u32 s.c,.int .u32 s.d,.int .u32 s.e,.int .u32 s.f,.int .u32 s.g,.int .u32 s.h]:=rfl
theorem Arr.set8r {w:World} {V t:Nat} {a b c d e f g h:Int} (H:Arr w V t [a,b,c,d,e,f,g,h]) (x0 x1 x2 x3 x4 x5 x6 x7:Int):Arr ((((((((w.setCell ⟨V,7,none⟩ (.int .u32 x7)).setCell ⟨V,6,none⟩ (.int .u32 x6)).setCell ⟨V,5,none⟩ (.int .u32 x5)).setCell ⟨V,4,none⟩ (.int .u32 x4)).setCell ⟨V,3,none⟩ (.int .u32 x3)).setCell ⟨V,2,none⟩ (.int .u32 x2)).setCell ⟨V,1,none⟩ (.int .u32 x1)).setCell ⟨V,0,none⟩ (.int .u32 x0)) V t [x0,x1,x2,x3,x4,x5,x6,x7] :=
 ((((((((H.set 7 x7).set 6 x6).set 5 x5).set 4 x4).set 3 x3).set 2 x2).set 1 x1).set 0 x0)
theorem Arr.setO8r {w:World} {b V t:Nat} {l:List Int} (h:Arr w b t l) (hb:b≠V) (x0 x1 x2 x3 x4 x5 x6 x7:Value):Arr ((((((((w.setCell ⟨V,7,none⟩ x7).setCell ⟨V,6,none⟩ x6).setCell ⟨V,5,none⟩ x5).setCell ⟨V,4,none⟩ x4).setCell ⟨V,3,none⟩ x3).setCell ⟨V,2,none⟩ x2).setCell ⟨V,1,none⟩ x1).setCell ⟨V,0,none⟩ x0) b t l :=
 Arr.setO (Arr.setO (Arr.setO (Arr.setO (Arr.setO (Arr.setO (Arr.setO (Arr.setO h hb _) hb _) hb _) hb _) hb _) hb _) hb _) hb _
theorem Below.set8r {a w:World} {B V:Nat} (h:Below B a w) (hb:B≤V) (x0 x1 x2 x3 x4 x5 x6 x7:Value):Below B a ((((((((w.setCell ⟨V,7,none⟩ x7).setCell ⟨V,6,none⟩ x6).setCell ⟨V,5,none⟩ x5).setCell ⟨V,4,none⟩ x4).setCell ⟨V,3,none⟩ x3).setCell ⟨V,2,none⟩ x2).setCell ⟨V,1,none⟩ x1).setCell ⟨V,0,none⟩ x0) :=
 (((((((h.setCell hb _).setCell hb _).setCell hb _).setCell hb _).setCell hb _).setCell hb _).setCell hb _).setCell hb _
end Go.Proofs.YtcbbjfafmmcfiaaGreatDoor
namespace Go.Proofs.YtcbbjfafmmcfiaaGreatDoor
open Go.RowKit Lay Mk
theorem rngD {a b c d:Nat} (h:b≤c):disj (rng a b) (rng c d):=fun x h1 h2 => by unfold rng at h1 h2; omega
theorem heap_newb (w:World) (o:Obj) (b:Nat) (h:b=w.heap.size):(w.alloc o).heap[b]? = some o:=by subst h; exact heap_alloc_new w o
theorem row_litat {α:Type} [Lay α] (w:World) (t:TypeId) (b:Nat) (ht:t=ty α) (h:w.heap[b]? = some (.cells #[] t)):Row (α:=α) true w (some ⟨b,0,none⟩) 0 [] (fun y => y=b):=by
 subst ht
 exact .inr ⟨b, #[],rfl,rfl,h,zz30,fun _ => none_,fun _ _ x => x.elim,fun _ _ _ _ _ x => x.elim,fun i hi => absurd hi zz30⟩
def own (b lo hi:Nat):Blks:=fun y => y=b∨(lo≤y∧y<hi)
theorem own_chg {b lo hi c s:Nat} (h1:b≠c) (h2:c<lo∨hi≤c):∀ y,own b lo hi y→y<s→¬ y=c:=fun y h _ => by unfold own at h; omega
theorem own_sub {b lo hi B s:Nat} (h1:B≤b) (h2:b<s) (h3:B≤lo) (h4:hi≤s):sub (own b lo hi) (rng B s):=fun y h => by unfold own at h; unfold rng; omega
theorem own_disj {b lo hi c lo' hi':Nat} (h1:b≠c) (h2:b<lo'∨hi'≤b) (h3:c<lo∨hi≤c) (h4:hi≤lo'∨hi'≤lo):disj (own b lo hi) (own c lo' hi'):=fun y h h' => by unfold own at h h'; omega
theorem step_lit {α:Type} [Lay α] [SlTy α] [Inf α] {ops:Array Oper} {o:Oper} {a:Act} {K:Act→World→Prop} {Q:Exit→Act→World→Prop} {E:Prop} {w:World} (hgd:o.guard=none) (s x:Operand)
  (ho:o.op = .call { callee:=.builtin .append,args:=#[s,x],argTypes:=#[SlTy.st α,SlTy.st α] })
  {A2:Option Addr} {b c2 m:Nat} {ys:List α} {S2:Blks} {md:Bool} [Flat α] (hs:a.eval s = .slice (some ⟨b,0,none⟩) 0 0)
  (hx:a.eval x = .slice A2 m c2) (hm:m=ys.length) (hl:w.heap[b]? = some (.cells #[] (ty α))) (hsrc:Row md w A2 c2 ys S2) (hb:m≤4000000000)
  (h:∀ A' cap' w',m≤cap'→cap'≤maxLen→Row true w' A' cap' ys (own b w.heap.size w'.heap.size)→Chg (fun y => y=b) w w'→K (a.put o.dst (.slice A' m cap')) w') :
  if Region.wanted o (yielded ops a.tmps)=true then Oper.wp Tryz.prog o a w K Q else E:=by
 refine step_app (α:=α) (xs:=[]) (ys:=ys) hgd s x ho hs rfl (row_litat w (ty α) b rfl hl) zz30 zz76 hx hm (Src.flat hsrc) (disj_none_ _) zz13 ?_
 intro A' cap' w' h1 h2 h3 h4
 have:=h A' cap' w' zz13 h2 (by simpa using h3.mono (fun y h => h.elim .inl (fun h => h.elim (fun h => h.elim) .inr))) h4
 simpa using this
theorem Row.viaChg {α:Type} [Lay α] {m:Bool} {w1 wp w2:World} {A:Option Addr} {cap:Nat} {xs:List α} {S T:Blks} (hr:Row m w1 A cap xs T) (hb:Below w1.heap.size w1 wp) (hc:Chg S wp w2) (hd:∀ b,T b→b<w1.heap.size→¬ S b):Row m w2 A cap xs T :=
 (hr.tight.keep (fun b x => (hc.block b (Nat.lt_of_lt_of_le x.2 hb.size) (hd b x.1 x.2)).trans (hb.block b x.2))).mono (fun b x => x.1)
theorem impl_copyTexts (w:World) (xs:List ByteArray) (A0:Option Addr) (cap0:Nat) (S:Blks) (hx:Row false w A0 cap0 xs S) (hl:xs.length≤2000000000):Calls Tryz.prog 274 #[.slice A0 xs.length cap0] w fun e w' => ∃ A' cap',e = .returned (.slice A' xs.length cap')∧xs.length≤cap'∧cap'≤maxLen∧Row true w' A' cap' xs (rng w.heap.size w'.heap.size)∧Below w.heap.size w w':=by
 go_enter Tryz.func274,Tryz.ntmps274
 go_wp2_with (at_builtin; refine wpList_app (α:=ByteArray) rfl _ _ rfl rfl rfl (row_nil _ none_) zz30 zz76 rfl rfl (Src.flat2 hx) (disj_none_ _) zz46 ?_; intro A' cap' w' h1 h2 h3 h4)
 go_ret
 exact ⟨A',cap',ret_slice zz30,by simpa using h1,h2,by simpa using row_up h3 (B:=w.heap.size) (fun b h => h.elim) (fun b h => h.elim) (Nat.le_refl _),h4.to_below (Nat.le_refl _) (fun b h => h.elim)⟩
theorem impl_copySig (w:World) (x:Sig) (cs:List Value) (S:Blks) (hx:rd false w cs x S) (l0:x.open_.length≤1048576) (l1:x.shut.length≤1048576) (l2:x.sides.length≤1048576):Calls Tryz.prog 222 #[.agg cs.toArray] w fun e w' => ∃ A0 k0 A1 k1 A2 k2,e = .returned (.agg #[.int .i64 x.at_,.slice A0 x.open_.length k0,.slice A1 x.shut.length k1,.slice A2 x.sides.length k2])∧rd true w' (Sig.cs x A0 k0 A1 k1 A2 k2) x (rng w.heap.size w'.heap.size)∧Below w.heap.size w w':=by
 obtain ⟨A0,k0,S0,A1,k1,S1,A2,k2,S2,rfl,f0,a0,b0,r0,s0,a1,b1,r1,s1,a2,b2,r2,s2,pw⟩:=Sig.open hx
 clear hx s0 s1 s2 pw
 simp only [Sig.cs]
 go_enter Tryz.func222,Tryz.ntmps222
 go_wp2_with (fail)
 generalize hW1:w.alloc (.cells #[_,_,_,_] _)=W1
 have hwW1:Below w.heap.size w W1:=by rw [← hW1]; exact (Below.refl _ _).alloc (Nat.le_refl _) _
 have hWs1:W1.heap.size=w.heap.size+1:=by rw [← hW1]; simp
 have q0:W1.cell? ⟨w.heap.size,0,none⟩=some (.int .i64 x.at_):=zz47
 have q1:W1.cell? ⟨w.heap.size,1,none⟩=some (.slice A0 x.open_.length k0):=zz47
 have q2:W1.cell? ⟨w.heap.size,2,none⟩=some (.slice A1 x.shut.length k1):=zz47
 have q3:W1.cell? ⟨w.heap.size,3,none⟩=some (.slice A2 x.sides.length k2):=zz47
 clear hW1
 generalize hW:W1.alloc (.cells #[_,_,_,_] _)=W
 have hWW:Below W1.heap.size W1 W:=by rw [← hW]; exact (Below.refl _ _).alloc (Nat.le_refl _) _
 have hWs:W.heap.size=W1.heap.size+1:=by rw [← hW]; simp
 have z0:W.cell? ⟨w.heap.size+1,0,none⟩=some (.int .i64 0):=zz38
 have z1:W.cell? ⟨w.heap.size+1,1,none⟩=some (.slice none 0 0):=zz38
 have z2:W.cell? ⟨w.heap.size+1,2,none⟩=some (.slice none 0 0):=zz38
 have z3:W.cell? ⟨w.heap.size+1,3,none⟩=some (.slice none 0 0):=zz38
 have zf:∀ o,W.frozen? ⟨w.heap.size+1,o,none⟩=false:=by intro o; rw [← hWs1, ← hW]; simp
 clear hW
 have hWl:W1.heap.size≤W.heap.size:=zz13
 have hB:=Below.refl W.heap.size W
 have HM:=zd (fun (w':World) (h:Below W1.heap.size W1 w') => (⟨(h.cell (p:=⟨w.heap.size,0,none⟩) (show w.heap.size<W1.heap.size by omega)).trans q0,(h.cell (p:=⟨w.heap.size,1,none⟩) (show w.heap.size<W1.heap.size by omega)).trans q1,(h.cell (p:=⟨w.heap.size,2,none⟩) (show w.heap.size<W1.heap.size by omega)).trans q2,(h.cell (p:=⟨w.heap.size,3,none⟩) (show w.heap.size<W1.heap.size by omega)).trans q3,h⟩:w'.cell? ⟨w.heap.size,0,none⟩=some (.int .i64 x.at_)∧w'.cell? ⟨w.heap.size,1,none⟩=some (.slice A0 x.open_.length k0)∧w'.cell? ⟨w.heap.size,2,none⟩=some (.slice A1 x.shut.length k1)∧w'.cell? ⟨w.heap.size,3,none⟩=some (.slice A2 x.sides.length k2)∧Below W1.heap.size W1 w'))
 have hwW:=hwW1.trans (hWW.mono zz13)
 go_region_held3 (fun w' => w'.cell? ⟨w.heap.size,0,none⟩=some (.int .i64 x.at_)∧w'.cell? ⟨w.heap.size,1,none⟩=some (.slice A0 x.open_.length k0)∧w'.cell? ⟨w.heap.size,2,none⟩=some (.slice A1 x.shut.length k1)∧w'.cell? ⟨w.heap.size,3,none⟩=some (.slice A2 x.sides.length k2)∧Below W1.heap.size W1 w')
   (first | exact HM.out _ (by have zh:=hWW.trans (hB.mono hWl); exact zz10))
   (first | (go_at_call 274; refine (impl_copyTexts _ x.open_ A0 k0 S0 (Row.later r0 (hwW.trans (Below.mono (by first | exact hB | exact hB.drew) zz13))) zz13).mono ?_; rintro e1 w1 ⟨B0,j0,rfl,g0,h0,n0,hb1⟩; have hs1:=hb1.size; (try simp at hs1); have hB:=Below.step (a:=W) (by first | exact hB | exact hB.drew) hb1) | (go_at_call 274; refine (impl_copyTexts _ x.shut A1 k1 S1 (Row.later r1 (hwW.trans (Below.mono (by first | exact hB | exact hB.drew) zz13))) zz13).mono ?_; rintro e2 w2 ⟨B1,j1,rfl,g1,h1,n1,hb2⟩; have hs2:=hb2.size; (try simp at hs2); have hB:=Below.step (a:=W) (by first | exact hB | exact hB.drew) hb2) | (go_at_call 274; refine (impl_copyTexts _ x.sides A2 k2 S2 (Row.later r2 (hwW.trans (Below.mono (by first | exact hB | exact hB.drew) zz13))) zz13).mono ?_; rintro e3 w3 ⟨B2,j2,rfl,g2,h2,n2,hb3⟩; have hs3:=hb3.size; (try simp at hs3); have hB:=Below.step (a:=W) (by first | exact hB | exact hB.drew) hb3; have y20:=(hB.cell (p:=⟨w.heap.size+1,0,none⟩) (show w.heap.size+1<W.heap.size by omega)).trans z0; have y21:=(hB.cell (p:=⟨w.heap.size+1,1,none⟩) (show w.heap.size+1<W.heap.size by omega)).trans z1; have y22:=(hB.cell (p:=⟨w.heap.size+1,2,none⟩) (show w.heap.size+1<W.heap.size by omega)).trans z2; have y23:=(hB.cell (p:=⟨w.heap.size+1,3,none⟩) (show w.heap.size+1<W.heap.size by omega)).trans z3; have yf2:=fun o => (hB.frozen (p:=⟨w.heap.size+1,o,none⟩) (show w.heap.size+1<W.heap.size by omega)).trans (zf o)))
 go_wp2
 refine bodyPost_ret (v:=.agg #[.int .i64 x.at_,.slice B0 x.open_.length j0,.slice B1 x.shut.length j1,.slice B2 x.sides.length j2]) (by simp [results,Tryz.results222,go_sem, *]) rfl ?_
 replace n0:=(Row.later (Row.later n0 hb2) hb3).mono (S':=rng W.heap.size w1.heap.size) (fun b h => zz26)
 replace n1:=(Row.later n1 hb3).mono (S':=rng w1.heap.size w2.heap.size) (fun b h => zz26)
 replace n2:=n2.mono (S':=rng w2.heap.size w3.heap.size) (fun b h => zz26)
 exact ⟨B0,j0,B1,j1,B2,j2,rfl,Sig.mk' f0 g0 h0 (by have zh:=n0; exact zz62) (fun b h => zz52) g1 h1 (by have zh:=n1; exact zz62) (fun b h => zz52) g2 h2 (by have zh:=n2; exact zz62) (fun b h => zz52) (fun _ => pwmk3 (rngD zz13) (rngD zz13) (rngD zz13)),Below.trans hwW1 (Below.mono (show Below W1.heap.size W1 _ from (by have zh:=hWW.trans (hB.mono hWl); exact zz10)) zz13)⟩
theorem impl_copySeal (w:World) (x:Seal) (cs:List Value) (S:Blks) (hx:rd false w cs x S) (l0:x.sig.open_.length≤1048576) (l1:x.sig.shut.length≤1048576) (l2:x.sig.sides.length≤1048576):Calls Tryz.prog 139 #[.agg cs.toArray] w fun e w' => ∃ A0 k0 A1 k1 A2 k2,e = .returned (.agg #[.int .i64 x.head.house,.int .i64 x.head.epoch,.string x.head.root,.string x.head.prev,.int .i64 x.sig.at_,.slice A0 x.sig.open_.length k0,.slice A1 x.sig.shut.length k1,.slice A2 x.sig.sides.length k2])∧rd true w' (Seal.cs x A0 k0 A1 k1 A2 k2) x (rng w.heap.size w'.heap.size)∧Below w.heap.size w w':=by
 obtain ⟨A0,k0,S0,A1,k1,S1,A2,k2,S2,rfl,f0,f1,f2,f3,f4,a0,b0,r0,s0,a1,b1,r1,s1,a2,b2,r2,s2,pw⟩:=Seal.open hx
 clear hx s0 s1 s2 pw
 simp only [Seal.cs]
 go_enter Tryz.func139,Tryz.ntmps139
 go_wp2_with (fail)
 generalize hW1:w.alloc (.cells #[_,_,_,_,_,_,_,_] _)=W1
 have hwW1:Below w.heap.size w W1:=by rw [← hW1]; exact (Below.refl _ _).alloc (Nat.le_refl _) _
 have hWs1:W1.heap.size=w.heap.size+1:=by rw [← hW1]; simp
 have q0:W1.cell? ⟨w.heap.size,0,none⟩=some (.int .i64 x.head.house):=zz47
 have q1:W1.cell? ⟨w.heap.size,1,none⟩=some (.int .i64 x.head.epoch):=zz47
 have q2:W1.cell? ⟨w.heap.size,2,none⟩=some (.string x.head.root):=zz47
 have q3:W1.cell? ⟨w.heap.size,3,none⟩=some (.string x.head.prev):=zz47
 have q4:W1.cell? ⟨w.heap.size,4,none⟩=some (.int .i64 x.sig.at_):=zz47
 have q5:W1.cell? ⟨w.heap.size,5,none⟩=some (.slice A0 x.sig.open_.length k0):=zz47
 have q6:W1.cell? ⟨w.heap.size,6,none⟩=some (.slice A1 x.sig.shut.length k1):=zz47
 have q7:W1.cell? ⟨w.heap.size,7,none⟩=some (.slice A2 x.sig.sides.length k2):=zz47
 clear hW1
 generalize hW:W1.alloc (.cells #[_,_,_,_,_,_,_,_] _)=W
 have hWW:Below W1.heap.size W1 W:=by rw [← hW]; exact (Below.refl _ _).alloc (Nat.le_refl _) _
 have hWs:W.heap.size=W1.heap.size+1:=by rw [← hW]; simp
 have z0:W.cell? ⟨w.heap.size+1,0,none⟩=some (.int .i64 0):=zz38
 have z1:W.cell? ⟨w.heap.size+1,1,none⟩=some (.int .i64 0):=zz38
 have z2:W.cell? ⟨w.heap.size+1,2,none⟩=some (.string ⟨#[]⟩):=zz38
 have z3:W.cell? ⟨w.heap.size+1,3,none⟩=some (.string ⟨#[]⟩):=zz38
 have z4:W.cell? ⟨w.heap.size+1,4,none⟩=some (.int .i64 0):=zz38
 have z5:W.cell? ⟨w.heap.size+1,5,none⟩=some (.slice none 0 0):=zz38
 have z6:W.cell? ⟨w.heap.size+1,6,none⟩=some (.slice none 0 0):=zz38
 have z7:W.cell? ⟨w.heap.size+1,7,none⟩=some (.slice none 0 0):=zz38
 have zf:∀ o,W.frozen? ⟨w.heap.size+1,o,none⟩=false:=by intro o; rw [← hWs1, ← hW]; simp
 clear hW
 have hWl:W1.heap.size≤W.heap.size:=zz13
 have hB:=Below.refl W.heap.size W
 have HM:=zd (fun (w':World) (h:Below W1.heap.size W1 w') => (⟨(h.cell (p:=⟨w.heap.size,0,none⟩) (show w.heap.size<W1.heap.size by omega)).trans q0,(h.cell (p:=⟨w.heap.size,1,none⟩) (show w.heap.size<W1.heap.size by omega)).trans q1,(h.cell (p:=⟨w.heap.size,2,none⟩) (show w.heap.size<W1.heap.size by omega)).trans q2,(h.cell (p:=⟨w.heap.size,3,none⟩) (show w.heap.size<W1.heap.size by omega)).trans q3,(h.cell (p:=⟨w.heap.size,4,none⟩) (show w.heap.size<W1.heap.size by omega)).trans q4,(h.cell (p:=⟨w.heap.size,5,none⟩) (show w.heap.size<W1.heap.size by omega)).trans q5,(h.cell (p:=⟨w.heap.size,6,none⟩) (show w.heap.size<W1.heap.size by omega)).trans q6,(h.cell (p:=⟨w.heap.size,7,none⟩) (show w.heap.size<W1.heap.size by omega)).trans q7,h⟩:w'.cell? ⟨w.heap.size,0,none⟩=some (.int .i64 x.head.house)∧w'.cell? ⟨w.heap.size,1,none⟩=some (.int .i64 x.head.epoch)∧w'.cell? ⟨w.heap.size,2,none⟩=some (.string x.head.root)∧w'.cell? ⟨w.heap.size,3,none⟩=some (.string x.head.prev)∧w'.cell? ⟨w.heap.size,4,none⟩=some (.int .i64 x.sig.at_)∧w'.cell? ⟨w.heap.size,5,none⟩=some (.slice A0 x.sig.open_.length k0)∧w'.cell? ⟨w.heap.size,6,none⟩=some (.slice A1 x.sig.shut.length k1)∧w'.cell? ⟨w.heap.size,7,none⟩=some (.slice A2 x.sig.sides.length k2)∧Below W1.heap.size W1 w'))
 have hwW:=hwW1.trans (hWW.mono zz13)
 go_region_held3 (fun w' => w'.cell? ⟨w.heap.size,0,none⟩=some (.int .i64 x.head.house)∧w'.cell? ⟨w.heap.size,1,none⟩=some (.int .i64 x.head.epoch)∧w'.cell? ⟨w.heap.size,2,none⟩=some (.string x.head.root)∧w'.cell? ⟨w.heap.size,3,none⟩=some (.string x.head.prev)∧w'.cell? ⟨w.heap.size,4,none⟩=some (.int .i64 x.sig.at_)∧w'.cell? ⟨w.heap.size,5,none⟩=some (.slice A0 x.sig.open_.length k0)∧w'.cell? ⟨w.heap.size,6,none⟩=some (.slice A1 x.sig.shut.length k1)∧w'.cell? ⟨w.heap.size,7,none⟩=some (.slice A2 x.sig.sides.length k2)∧Below W1.heap.size W1 w')
   (first | exact HM.out _ (by have zh:=hWW.trans (hB.mono hWl); exact zz10))
   (first | (go_at_call 222; refine (impl_copySig _ x.sig _ (un S0 (un S1 S2)) (Sig.mk' (m:=false) f4 a0 b0 (Row.later r0 (hwW.trans (Below.mono (by first | exact hB | exact hB.drew) zz13))) (yad _ _) a1 b1 (Row.later r1 (hwW.trans (Below.mono (by first | exact hB | exact hB.drew) zz13))) (ya0 (yad _ _) (ya2 _ _)) a2 b2 (Row.later r2 (hwW.trans (Below.mono (by first | exact hB | exact hB.drew) zz13))) (ya0 (ya2 _ _) (ya2 _ _)) zz30) l0 l1 l2).mono ?_; rintro e1 w1 ⟨B0,j0,B1,j1,B2,j2,rfl,hr,hb1⟩; have hs1:=hb1.size; (try simp at hs1); have hB:=Below.step (a:=W) (by first | exact hB | exact hB.drew) hb1; have y00:=(hB.cell (p:=⟨w.heap.size+1,0,none⟩) (show w.heap.size+1<W.heap.size by omega)).trans z0; have y01:=(hB.cell (p:=⟨w.heap.size+1,1,none⟩) (show w.heap.size+1<W.heap.size by omega)).trans z1; have y02:=(hB.cell (p:=⟨w.heap.size+1,2,none⟩) (show w.heap.size+1<W.heap.size by omega)).trans z2; have y03:=(hB.cell (p:=⟨w.heap.size+1,3,none⟩) (show w.heap.size+1<W.heap.size by omega)).trans z3; have y04:=(hB.cell (p:=⟨w.heap.size+1,4,none⟩) (show w.heap.size+1<W.heap.size by omega)).trans z4; have y05:=(hB.cell (p:=⟨w.heap.size+1,5,none⟩) (show w.heap.size+1<W.heap.size by omega)).trans z5; have y06:=(hB.cell (p:=⟨w.heap.size+1,6,none⟩) (show w.heap.size+1<W.heap.size by omega)).trans z6; have y07:=(hB.cell (p:=⟨w.heap.size+1,7,none⟩) (show w.heap.size+1<W.heap.size by omega)).trans z7; have yf0:=fun o => (hB.frozen (p:=⟨w.heap.size+1,o,none⟩) (show w.heap.size+1<W.heap.size by omega)).trans (zf o)))
 go_wp2
 refine bodyPost_ret (v:=.agg #[.int .i64 x.head.house,.int .i64 x.head.epoch,.string x.head.root,.string x.head.prev,.int .i64 x.sig.at_,.slice B0 x.sig.open_.length j0,.slice B1 x.sig.shut.length j1,.slice B2 x.sig.sides.length j2]) (by simp [results,Tryz.results139,go_sem, *]) rfl ?_
 obtain ⟨C0,i0,T0,C1,i1,T1,C2,i2,T2,hcs,_,u0,v0,n0,m0,u1,v1,n1,m1,u2,v2,n2,m2,pw⟩:=Sig.open hr
 simp only [Sig.cs,List.cons.injEq,Value.slice.injEq,and_true,true_and] at hcs
 obtain ⟨⟨rfl,rfl⟩,⟨rfl,rfl⟩,⟨rfl,rfl⟩⟩:=hcs
 replace n0:=n0.mono (S':=fun b => T0 b∧rng W.heap.size w1.heap.size b) (fun b x => ⟨x,by have:=m0 b x; unfold rng at this ⊢; (try simp at this); omega⟩)
 replace n1:=n1.mono (S':=fun b => T1 b∧rng W.heap.size w1.heap.size b) (fun b x => ⟨x,by have:=m1 b x; unfold rng at this ⊢; (try simp at this); omega⟩)
 replace n2:=n2.mono (S':=fun b => T2 b∧rng W.heap.size w1.heap.size b) (fun b x => ⟨x,by have:=m2 b x; unfold rng at this ⊢; (try simp at this); omega⟩)
 have pw2:=pw rfl
 exact ⟨B0,j0,B1,j1,B2,j2,rfl,Seal.mk' (S0:=fun b => T0 b∧rng W.heap.size w1.heap.size b) (S1:=fun b => T1 b∧rng W.heap.size w1.heap.size b) (S2:=fun b => T2 b∧rng W.heap.size w1.heap.size b) f0 f1 f2 f3 f4 u0 v0 (by have zh:=n0; exact zz33) (fun b h => by have h2:rng W.heap.size w1.heap.size b:=h.2; unfold rng at h2 ⊢; simp; omega) u1 v1 (by have zh:=n1; exact zz33) (fun b h => by have h2:rng W.heap.size w1.heap.size b:=h.2; unfold rng at h2 ⊢; simp; omega) u2 v2 (by have zh:=n2; exact zz33) (fun b h => by have h2:rng W.heap.size w1.heap.size b:=h.2; unfold rng at h2 ⊢; simp; omega) (fun _ => pwmk3 (ya6 (pwget3_0_1 pw2) (fun b x => x.1) (fun b x => x.1)) (ya6 (pwget3_0_2 pw2) (fun b x => x.1) (fun b x => x.1)) (ya6 (pwget3_1_2 pw2) (fun b x => x.1) (fun b x => x.1))),Below.trans hwW1 (Below.mono (show Below W1.heap.size W1 _ from (by have zh:=hWW.trans (hB.mono hWl); exact zz10)) zz13)⟩
end Go.Proofs.YtcbbjfafmmcfiaaGreatDoor
namespace Go.Proofs.YtcbbjfafmmcfiaaGreatDoor
theorem bLess_dec (a b:ByteArray):bLess a b=decide (a.toList<b.toList):=by unfold bLess; exact bytesLess_eq _ _
theorem bLess_trans {a b c:ByteArray} (h:bLess a b=true) (k:bLess b c=true):bLess a c=true:=by
 rw [bLess_dec,decide_eq_true_eq] at *; exact List.lt_trans h k
def Srt (xs:List Leaf):Prop:=List.Pairwise (fun a b => bLess a.name b.name=true) xs
theorem srt_of {xs:List Leaf} (h:leavesOk xs=true):Srt xs:=by
 unfold leavesOk at h
 rw [Bool.and_eq_true] at h
 have step:∀ j (hj:j+1<xs.length),bLess xs[j].name xs[j+1].name=true:=by
  intro j hj
  have:=allN_get h.1 hj
  rw [leafP_at hj,prevLess_succ hj] at this
  simp only [Bool.and_eq_true] at this
  exact this.2
 have all:∀ j (hj:j<xs.length) i (hij:i<j),bLess (xs[i]'zz13).name xs[j].name=true:=by
  intro j
  induction j with
  | zero => intro _ i hi; omega
  | succ j ih =>
   intro hj i hi
   by_cases e:i=j
   ·subst e; exact step i hj
   ·exact bLess_trans (ih zz13 i zz13) (step j hj)
 rw [Srt,List.pairwise_iff_getElem]
 intro i j hi hj hij
 exact all j hj i hij
theorem leavesOk_len {xs:List Leaf} (h:leavesOk xs=true):xs.length≤24:=by
 unfold leavesOk at h; rw [Bool.and_eq_true] at h; simpa using h.2
end Go.Proofs.YtcbbjfafmmcfiaaGreatDoor
