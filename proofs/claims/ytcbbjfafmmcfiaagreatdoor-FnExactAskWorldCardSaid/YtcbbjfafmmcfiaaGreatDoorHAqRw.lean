/- A part of the proof. -/
import Derived.Test.YtcbbjfafmmcfiaaGreatDoorHAqRv
import Derived.Test.YtcbbjfafmmcfiaaGreatDoorHAqTop2
set_option linter.unusedVariables false
set_option linter.unusedSimpArgs false
set_option maxRecDepth 20000
set_option maxHeartbeats 16000000
namespace Go.Proofs.YtcbbjfafmmcfiaaGreatDoor
open Go.RowKit Lay Mk
theorem frozen_newR (w:World) (cs:Array Value) (t:TypeId) (o:Nat):(w.alloc (.cells cs t)).frozen? ⟨w.heap.size,o,none⟩=false:=by simp
def RsRes (R:Whole × Int) (w:World) (e:Ending) (w':World):Prop:=∃ c,e = .returned (.tuple #[.agg c.toArray,.int .i64 R.2])∧rd true w' c R.1 (rng w.heap.size w'.heap.size)∧Below w.heap.size w w'
theorem wzero_rd (w:World) (S:Blks):rd true w [.slice none 0 0,.slice none 0 0,.slice none 0 0,.int .i64 0,.int .i64 0,.string ⟨#[]⟩,.string ⟨#[]⟩,.int .i64 0,.slice none 0 0,.slice none 0 0,.slice none 0 0,.slice none 0 0] wzero S :=
 Whole.mk' (x:=wzero) (S0:=none_) (S1:=none_) (S2:=none_) (S3:=none_) (S4:=none_) (S5:=none_) (S6:=none_) (Nat.zero_le _) (Nat.zero_le _) (row_nil _ _) (show sub none_ S from fun _ h => h.elim) (Nat.zero_le _) (Nat.zero_le _) (row_nil _ _) (show sub none_ S from fun _ h => h.elim) (Nat.zero_le _) (Nat.zero_le _) (row_nil _ _) (show sub none_ S from fun _ h => h.elim) I64_zero I64_zero empty_le empty_le I64_zero (Nat.zero_le _) (Nat.zero_le _) (row_nil _ _) (show sub none_ S from fun _ h => h.elim) (Nat.zero_le _) (Nat.zero_le _) (row_nil _ _) (show sub none_ S from fun _ h => h.elim) (Nat.zero_le _) (Nat.zero_le _) (row_nil _ _) (show sub none_ S from fun _ h => h.elim) (Nat.zero_le _) (Nat.zero_le _) (row_nil _ _) (show sub none_ S from fun _ h => h.elim) (fun _ => by simp [disj,none_])
def setW (w:World) (r:Nat):List Value→Nat→World
 | [],_ => w
 | v :: vs,j => setW (w.setCell ⟨r,j,none⟩ v) r vs (j+1)
theorem setW_below {w w':World} {B r:Nat} (hr:B≤r):∀ (vs:List Value) (j:Nat),Below B w w'→Below B w (setW w' r vs j)
 | [],_,h => h
 | v :: vs,j,h => setW_below hr vs (j+1) (Below.setCell h hr _)
theorem RsRes.zero {w w':World} {R:Whole × Int} {k:Int} (hR:R=(wzero,k)) (hb:Below w.heap.size w w'):RsRes R w (.returned (.tuple #[.agg #[.slice none 0 0,.slice none 0 0,.slice none 0 0,.int .i64 0,.int .i64 0,.string ⟨#[]⟩,.string ⟨#[]⟩,.int .i64 0,.slice none 0 0,.slice none 0 0,.slice none 0 0,.slice none 0 0],.int .i64 k])) w':=by
 subst hR; exact ⟨[.slice none 0 0,.slice none 0 0,.slice none 0 0,.int .i64 0,.int .i64 0,.string ⟨#[]⟩,.string ⟨#[]⟩,.int .i64 0,.slice none 0 0,.slice none 0 0,.slice none 0 0,.slice none 0 0],rfl,wzero_rd _ _,hb⟩
theorem seal_lens {s:Seal} (h:Mk.sz s≤1048576):s.sig.open_.length≤1048576∧s.sig.shut.length≤1048576∧s.sig.sides.length≤1048576:=by
 have h1:Mk.sz s=s.sz:=rfl
 rw [h1] at h
 simp only [Seal.sz,Sig.sz] at h
 have:=szT_le s.sig.open_ 0
 have:=szT_le s.sig.shut 0
 have:=szT_le s.sig.sides 0
 omega
theorem rd_setW {α:Type} [Lay α] {m:Bool} {cs:List Value} {a:α} {S:Blks} {r:Nat} (hp : ¬ S r):∀ (vs:List Value) {w:World} (j:Nat),rd m w cs a S→rd m (setW w r vs j) cs a S
 | [],_,_,h => h
 | v :: vs,_,j,h => rd_setW hp vs (j+1) (rd_setC h (p:=⟨r,j,none⟩) hp v)
theorem Chg.step {S:Blks} {a w w':World} (h:Chg S a w) (hb:Below w.heap.size w w'):Chg S a w':=h.below hb h.size
theorem step_pushC {α:Type} [Lay α] [SlTy α] [Inf α] {ops:Array Oper} {o:Oper} {a:Act} {K:Act→World→Prop} {Q:Exit→Act→World→Prop} {E:Prop} {w0 w1 w:World} (hgd:o.guard=none) (s x:Operand)
  (ho:o.op = .call { callee:=.builtin .append,args:=#[s,x],argTypes:=#[SlTy.st α,SlTy.st α] })
  {A A2:Option Addr} {c c2 k m:Nat} {L ys:List α} (hs:a.eval s = .slice A k c) (hk:k=L.length) (own:Own w0 w1 A c L) (hbw:Below w1.heap.size w1 w)
  (hx:a.eval x = .slice A2 m c2) (hm:m=ys.length) (hsrc:Src w A2 ys none_) (hb:k+m≤4000000000)
  (h:∀ A' c' w',Own w0 w' A' c' (L ++ ys)→Chg (rng w0.heap.size w1.heap.size) w w'→K (a.put o.dst (.slice A' (k+m) c')) w') :
  if Region.wanted o (yielded ops a.tmps)=true then Oper.wp Tryz.prog o a w K Q else E:=by
 subst hk; subst hm
 have h0:=own.size
 have h1:=hbw.size
 refine step_app (α:=α) hgd s x ho hs rfl (Row.later (to_rng own.row) hbw) own.le own.cm hx rfl hsrc (disj_none_ _) hb ?_
 intro A' c' w' g1 g2 g3 g4
 refine h A' c' w' ⟨g3.mono (fun b hb => ?_),by rw [List.length_append]; exact g1,g2,own.bl.trans ((hbw.mono h0).trans (g4.to_below zz13 (fun b hb => hb.1)))⟩ g4
 rcases hb with hb | hb | hb
 ·exact hb.1
 ·exact hb.elim
 ·exact Nat.le_trans (Nat.le_trans h0 h1) hb.1
theorem servers_sz {h:House} (hz:h.sz≤1048576):szL h.servers≤1048576:=by
 simp only [House.sz] at hz; omega
theorem resS_no {x:Wrld} {house:Int} {name:ByteArray} {ep:Int} {h:House} {s:Server} {sl:Seal} {p:Proof} {b c:Bool} {l:List ByteArray} {q:Int} (h1:lookServer s ep name=(p,b)) (hq:shardOf name h.coord.k=q) (h2:combineSides (h.servers.map (shRoot ep)) q 16=(l,c)) (hb:(b && c)=false):resolveS x house name ep h s sl=(wzero,4):=by
 unfold resolveS; rw [h1,hq,h2]; simp only; rw [if_neg (by simp [hb])]
theorem resS_yes {x:Wrld} {house:Int} {name:ByteArray} {ep:Int} {h:House} {s:Server} {sl:Seal} {p:Proof} {b c:Bool} {l:List ByteArray} {q:Int} (h1:lookServer s ep name=(p,b)) (hq:shardOf name h.coord.k=q) (h2:combineSides (h.servers.map (shRoot ep)) q 16=(l,c)) (hb:(b && c)=true):resolveS x house name ep h s sl=(⟨p,l,sl,stampsOf x house ep⟩,0):=by
 unfold resolveS; rw [h1,hq,h2]; simp only; rw [if_pos hb]
theorem whole_join {w':World} {B N a0 a1 b0 b1 c0 c1 d0 d1:Nat} {p:Proof} {tp:List ByteArray} {s:Seal} {st:List Stamp} {P0 P1 A2 C0 C1 C2 A6:Option Addr} {n0 n1 k2 i0 i1 i2 k6:Nat} (hp:rd true w' (Proof.cs p P0 n0 P1 n1) p (rng a0 a1)) (l2:tp.length≤k2) (m2:k2≤maxLen) (ht:Row true w' A2 k2 tp (rng b0 b1)) (hs:rd true w' (Seal.cs s C0 i0 C1 i1 C2 i2) s (rng c0 c1)) (l6:st.length≤k6) (m6:k6≤maxLen) (h6:Row true w' A6 k6 st (rng d0 d1)) (hh:B≤a0∧a0≤a1∧a1≤b0∧b0≤b1∧b1≤c0∧b1≤d0∧c0≤c1∧d0≤d1∧(c1≤d0∨d1≤c0)∧c1≤N∧d1≤N):rd true w' (Whole.cs ⟨p,tp,s,st⟩ P0 n0 P1 n1 A2 k2 C0 i0 C1 i1 C2 i2 A6 k6) (⟨p,tp,s,st⟩:Whole) (rng B N):=by
 obtain ⟨Q0,q0,T0,Q1,q1,T1,hcs,pl0,pm0,pr0,ps0,pl1,pm1,pr1,ps1,pw⟩:=Proof.open hp
 simp only [Proof.cs,List.cons.injEq,Value.slice.injEq,and_true,true_and] at hcs
 obtain ⟨⟨rfl,rfl⟩,rfl,rfl⟩:=hcs
 obtain ⟨E0,e0,U0,E1,e1,U1,E2,e2,U2,hcs,f0,f1,f2,f3,f4,u0,v0,x0,y0,u1,v1,x1,y1,u2,v2,x2,y2,pw2⟩:=Seal.open hs
 simp only [Seal.cs,List.cons.injEq,Value.slice.injEq,and_true,true_and] at hcs
 obtain ⟨⟨rfl,rfl⟩,⟨rfl,rfl⟩,rfl,rfl⟩:=hcs
 have pw:=pw rfl
 have pw2:=pw2 rfl
 have dj:∀ {x0 x1 y0 y1:Nat},(x1≤y0∨y1≤x0)→disj (rng x0 x1) (rng y0 y1):=fun h b h1 h2 => by unfold rng at h1 h2; omega
 have sb:∀ {x0 x1:Nat},B≤x0→x1≤N→sub (rng x0 x1) (rng B N):=fun h1 h2 b h => by unfold rng at h ⊢; omega
 have dT0:∀ {T U:Blks} {x0 x1 y0 y1:Nat},sub T (rng x0 x1)→sub U (rng y0 y1)→(x1≤y0∨y1≤x0)→disj T U:=fun h1 h2 h => ya6 (dj h) h1 h2
 have sr:∀ {x0 x1:Nat},sub (rng x0 x1) (rng x0 x1):=fun b h => h
 exact Whole.mk' (x:=⟨p,tp,s,st⟩) pl0 pm0 pr0 (ya0 ps0 (sb zz13 zz13)) pl1 pm1 pr1 (ya0 ps1 (sb zz13 zz13)) l2 m2 ht (sb zz13 zz13) f0 f1 f2 f3 f4 u0 v0 x0 (ya0 y0 (sb zz13 zz13)) u1 v1 x1 (ya0 y1 (sb zz13 zz13)) u2 v2 x2 (ya0 y2 (sb zz13 zz13)) l6 m6 h6 (sb zz13 zz13)
  (fun _ => pwmk7 (pwget2_0_1 pw) (dT0 ps0 sr zz13) (dT0 ps0 y0 zz13) (dT0 ps0 y1 zz13) (dT0 ps0 y2 zz13) (dT0 ps0 sr zz13) (dT0 ps1 sr zz13) (dT0 ps1 y0 zz13) (dT0 ps1 y1 zz13) (dT0 ps1 y2 zz13) (dT0 ps1 sr zz13) (dT0 sr y0 zz13) (dT0 sr y1 zz13) (dT0 sr y2 zz13) (dT0 sr sr zz13) (pwget3_0_1 pw2) (pwget3_0_2 pw2) (dT0 y0 sr zz13) (pwget3_1_2 pw2) (dT0 y1 sr zz13) (dT0 y2 sr zz13))
theorem setW_size:∀ (vs:List Value) (w:World) (r j:Nat),(setW w r vs j).heap.size=w.heap.size
 | [],_,_,_ => rfl
 | v :: vs,w,r,j => by show (setW _ r vs (j+1)).heap.size=_; rw [setW_size vs]; simp
def isR (r:Nat):Blks:=fun b => b=r
theorem chg_setR {r j:Nat} {a w:World} (h:Chg (isR r) a w) (u:Value):Chg (isR r) a (w.setCell ⟨r,j,none⟩ u):=Chg.setCell h (p:=⟨r,j,none⟩) (Or.inl (show isR r r from rfl)) u
theorem Below.chg {S:Blks} {w w':World} (h:Below w.heap.size w w'):Chg S w w':=(Chg.refl S w).below h (Nat.le_refl _)
theorem rs_done {w wf:World} {R:Whole × Int} {r a0 a1 b0 b1 c0 c1 d0 d1:Nat} {p:Proof} {tp:List ByteArray} {s:Seal} {st:List Stamp} {P0 P1 A2 C0 C1 C2 A6:Option Addr} {n0 n1 k2 i0 i1 i2 k6:Nat} (hR:R=(⟨p,tp,s,st⟩,0)) (hp:rd true wf (Proof.cs p P0 n0 P1 n1) p (rng a0 a1)) (l2:tp.length≤k2) (m2:k2≤maxLen) (ht:Row true wf A2 k2 tp (rng b0 b1)) (hs:rd true wf (Seal.cs s C0 i0 C1 i1 C2 i2) s (rng c0 c1)) (l6:st.length≤k6) (m6:k6≤maxLen) (h6:Row true wf A6 k6 st (rng d0 d1)) (hr:w.heap.size≤r) (hb:Below w.heap.size w wf)
  (hh:r+1≤a0∧a0≤a1∧a1≤b0∧b0≤b1∧b1≤c0∧b1≤d0∧c0≤c1∧d0≤d1∧(c1≤d0∨d1≤c0)∧c1≤wf.heap.size∧d1≤wf.heap.size) :
  RsRes R w (.returned (.tuple #[.agg (Whole.cs ⟨p,tp,s,st⟩ P0 n0 P1 n1 A2 k2 C0 i0 C1 i1 C2 i2 A6 k6).toArray,.int .i64 0])) (setW wf r (Whole.cs ⟨p,tp,s,st⟩ P0 n0 P1 n1 A2 k2 C0 i0 C1 i1 C2 i2 A6 k6) 0):=by
 subst hR
 have hj:=whole_join (B:=r+1) (N:=wf.heap.size) hp l2 m2 ht hs l6 m6 h6 hh
 refine ⟨_,rfl,Lay.mono (rd_setW (r:=r) (fun h => by unfold rng at h; omega) _ 0 hj) (fun b h => ?_),setW_below hr _ 0 hb⟩
 rw [setW_size]; unfold rng at h ⊢; omega
theorem impl_Resolve (w:World) (x:Wrld) (cs:List Value) (S:Blks) (hx:rd false w cs x S) (hz:x.sz≤1048576) (house:Int) (hh:I64 house) (name:ByteArray) (hn:name.size≤1048576) (ep:Int) (he:I64 ep) (hT:Tabs w):Calls Tryz.prog 49 #[.agg cs.toArray,.int .i64 house,.string name,.int .i64 ep] w (RsRes (resolve x house name ep) w):=by
 have HT:=zd hT
 clear hT
 have hml:szL x.houses≤1048576:=by simp only [Wrld.sz] at hz; omega
 have hgl:x.houses.length≤1048576:=by have:=szT_le x.houses 0; omega
 have HX1:=zd hx
 obtain ⟨A0,k0,S0,A1,k1,S1,A2,k2,S2,A3,k3,S3,A4,k4,S4,A5,k5,S5,rfl, -, -,r0, -⟩:=Wrld.open hx
 clear hx
 simp only [Wrld.cs] at HX1 ⊢
 have HAS:=zd (fun W (h:Below w.heap.size w W) => impl_asked W x _ S (Lay.later HX1.out h) hz house name hn ep)
 have HST:=zd (fun W (h:Below w.heap.size w W) => impl_StampsOf W x _ S (Lay.later HX1.out h) hz house hh ep he)
 have HA0:=zd (fun h => asked_0 (x:=x) (house:=house) (name:=name) (ep:=ep) h)
 have HR1:=zd (fun h => res_bad (x:=x) (house:=house) (name:=name) (ep:=ep) h)
 have HR2:Hid (∀ k:Nat,house=k→askedC x house name ep=0→∀ hk:k<x.houses.length,resolve x house name ep=resolveH x house name ep x.houses[k]):=zd (fun k e h hk => by subst e; exact res_at h hk)
 obtain ⟨R,hR⟩:∃ R,resolve x house name ep=R:=⟨_,rfl⟩
 rw [hR] at HR1 HR2 ⊢
 obtain ⟨code,hcode⟩:∃ c,askedC x house name ep=c:=⟨_,rfl⟩
 rw [hcode] at HAS HA0 HR1 HR2
 clear hR hcode hz
 have hWd:∀ W,W=(w.alloc (.cells #[.slice A0 x.houses.length k0,.slice A1 x.auditors.length k1,.slice A2 x.notes.length k2,.slice A3 x.given.length k3,.slice A4 x.evil.length k4,.slice A5 x.codes.length k5] 132)).alloc (.cells #[.slice none 0 0,.slice none 0 0,.slice none 0 0,.int .i64 0,.int .i64 0,.string ⟨#[]⟩,.string ⟨#[]⟩,.int .i64 0,.slice none 0 0,.slice none 0 0,.slice none 0 0,.slice none 0 0] 108)→Below w.heap.size w W∧W.heap.size=w.heap.size+1+1∧(∀ o,W.frozen? ⟨w.heap.size+1,o,none⟩=false)∧W.cell? ⟨w.heap.size,0,none⟩=some (.slice A0 x.houses.length k0)∧W.cell? ⟨w.heap.size,1,none⟩=some (.slice A1 x.auditors.length k1)∧W.cell? ⟨w.heap.size,2,none⟩=some (.slice A2 x.notes.length k2)∧W.cell? ⟨w.heap.size,3,none⟩=some (.slice A3 x.given.length k3)∧W.cell? ⟨w.heap.size,4,none⟩=some (.slice A4 x.evil.length k4)∧W.cell? ⟨w.heap.size,5,none⟩=some (.slice A5 x.codes.length k5)∧W.cell? ⟨w.heap.size+1,0,none⟩=some (.slice none 0 0)∧W.cell? ⟨w.heap.size+1,1,none⟩=some (.slice none 0 0)∧W.cell? ⟨w.heap.size+1,2,none⟩=some (.slice none 0 0)∧W.cell? ⟨w.heap.size+1,3,none⟩=some (.int .i64 0)∧W.cell? ⟨w.heap.size+1,4,none⟩=some (.int .i64 0)∧W.cell? ⟨w.heap.size+1,5,none⟩=some (.string ⟨#[]⟩)∧W.cell? ⟨w.heap.size+1,6,none⟩=some (.string ⟨#[]⟩)∧W.cell? ⟨w.heap.size+1,7,none⟩=some (.int .i64 0)∧W.cell? ⟨w.heap.size+1,8,none⟩=some (.slice none 0 0)∧W.cell? ⟨w.heap.size+1,9,none⟩=some (.slice none 0 0)∧W.cell? ⟨w.heap.size+1,10,none⟩=some (.slice none 0 0)∧W.cell? ⟨w.heap.size+1,11,none⟩=some (.slice none 0 0):=by
  rintro W rfl
  have e1:w.heap.size+1=(w.alloc (.cells #[.slice A0 x.houses.length k0,.slice A1 x.auditors.length k1,.slice A2 x.notes.length k2,.slice A3 x.given.length k3,.slice A4 x.evil.length k4,.slice A5 x.codes.length k5] 132)).heap.size:=zz30
  refine ⟨((Below.refl _ _).alloc (Nat.le_refl _) _).alloc zz30 _,zz30,fun o => by rw [e1]; exact frozen_newR _ _ _ _,?_⟩
  refine ⟨ya7 (ya1 _ _ _ _ _ rfl),ya7 (ya1 _ _ _ _ _ rfl),ya7 (ya1 _ _ _ _ _ rfl),ya7 (ya1 _ _ _ _ _ rfl),ya7 (ya1 _ _ _ _ _ rfl),ya7 (ya1 _ _ _ _ _ rfl),zz44,zz44,zz44,zz44,zz44,zz44,zz44,zz44,zz44,zz44,zz44,zz44⟩
 go_enter Tryz.func49,Tryz.ntmps49
 go_wp2_with (fail)
 obtain ⟨W,hW⟩:∃ W,(w.alloc (.cells #[.slice A0 x.houses.length k0,.slice A1 x.auditors.length k1,.slice A2 x.notes.length k2,.slice A3 x.given.length k3,.slice A4 x.evil.length k4,.slice A5 x.codes.length k5] 132)).alloc (.cells #[.slice none 0 0,.slice none 0 0,.slice none 0 0,.int .i64 0,.int .i64 0,.string ⟨#[]⟩,.string ⟨#[]⟩,.int .i64 0,.slice none 0 0,.slice none 0 0,.slice none 0 0,.slice none 0 0] 108)=W:=⟨_,rfl⟩
 rw [hW]
 obtain ⟨hBW,hWs,zf,x0,x1,x2,x3,x4,x5,z0,z1,z2,z3,z4,z5,z6,z7,z8,z9,z10,z11⟩:=hWd W hW.symm
 clear hW hWd
 have HBW:=zd hBW
 have hlW:w.heap.size+1<W.heap.size:=zz13
 have HALL:=zd (fun (w':World) (h:Below W.heap.size W w') => (⟨(h.cell (p:=⟨w.heap.size,0,none⟩) zz22).trans x0,(h.cell (p:=⟨w.heap.size,1,none⟩) zz22).trans x1,(h.cell (p:=⟨w.heap.size,2,none⟩) zz22).trans x2,(h.cell (p:=⟨w.heap.size,3,none⟩) zz22).trans x3,(h.cell (p:=⟨w.heap.size,4,none⟩) zz22).trans x4,(h.cell (p:=⟨w.heap.size,5,none⟩) zz22).trans x5,(h.cell (p:=⟨w.heap.size+1,0,none⟩) zz12).trans z0,(h.cell (p:=⟨w.heap.size+1,1,none⟩) zz12).trans z1,(h.cell (p:=⟨w.heap.size+1,2,none⟩) zz12).trans z2,(h.cell (p:=⟨w.heap.size+1,3,none⟩) zz12).trans z3,(h.cell (p:=⟨w.heap.size+1,4,none⟩) zz12).trans z4,(h.cell (p:=⟨w.heap.size+1,5,none⟩) zz12).trans z5,(h.cell (p:=⟨w.heap.size+1,6,none⟩) zz12).trans z6,(h.cell (p:=⟨w.heap.size+1,7,none⟩) zz12).trans z7,(h.cell (p:=⟨w.heap.size+1,8,none⟩) zz12).trans z8,(h.cell (p:=⟨w.heap.size+1,9,none⟩) zz12).trans z9,(h.cell (p:=⟨w.heap.size+1,10,none⟩) zz12).trans z10,(h.cell (p:=⟨w.heap.size+1,11,none⟩) zz12).trans z11,fun o => (h.frozen (p:=⟨w.heap.size+1,o,none⟩) hlW).trans (zf o)⟩:w'.cell? ⟨w.heap.size,0,none⟩=some (.slice A0 x.houses.length k0)∧w'.cell? ⟨w.heap.size,1,none⟩=some (.slice A1 x.auditors.length k1)∧w'.cell? ⟨w.heap.size,2,none⟩=some (.slice A2 x.notes.length k2)∧w'.cell? ⟨w.heap.size,3,none⟩=some (.slice A3 x.given.length k3)∧w'.cell? ⟨w.heap.size,4,none⟩=some (.slice A4 x.evil.length k4)∧w'.cell? ⟨w.heap.size,5,none⟩=some (.slice A5 x.codes.length k5)∧w'.cell? ⟨w.heap.size+1,0,none⟩=some (.slice none 0 0)∧w'.cell? ⟨w.heap.size+1,1,none⟩=some (.slice none 0 0)∧w'.cell? ⟨w.heap.size+1,2,none⟩=some (.slice none 0 0)∧w'.cell? ⟨w.heap.size+1,3,none⟩=some (.int .i64 0)∧w'.cell? ⟨w.heap.size+1,4,none⟩=some (.int .i64 0)∧w'.cell? ⟨w.heap.size+1,5,none⟩=some (.string ⟨#[]⟩)∧w'.cell? ⟨w.heap.size+1,6,none⟩=some (.string ⟨#[]⟩)∧w'.cell? ⟨w.heap.size+1,7,none⟩=some (.int .i64 0)∧w'.cell? ⟨w.heap.size+1,8,none⟩=some (.slice none 0 0)∧w'.cell? ⟨w.heap.size+1,9,none⟩=some (.slice none 0 0)∧w'.cell? ⟨w.heap.size+1,10,none⟩=some (.slice none 0 0)∧w'.cell? ⟨w.heap.size+1,11,none⟩=some (.slice none 0 0)∧∀ o,w'.frozen? ⟨w.heap.size+1,o,none⟩=false))
 clear hWs hBW x0 x1 x2 x3 x4 x5 z0 z1 z2 z3 z4 z5 z6 z7 z8 z9 z10 z11 zf
 refine (HAS.out _ HBW.out).mono ?_
 rintro e1 w1 ⟨rfl,hb1⟩
 have HB1:=zd hb1
 obtain ⟨x0,x1,x2,x3,x4,x5,z0,z1,z2,z3,z4,z5,z6,z7,z8,z9,z10,z11,zf⟩:=HALL.out w1 HB1.out
 have hl1:W.heap.size≤w1.heap.size:=hb1.size
 clear hb1
 by_cases c0:code=0
 rotate_left
 ·have HE:=zd (HR1.out c0)
  have hq:(code != 0)=true:=by simp [bne,c0]
  go_wp2
  refine bodyPost_ret (v:=.tuple #[.agg #[.slice none 0 0,.slice none 0 0,.slice none 0 0,.int .i64 0,.int .i64 0,.string ⟨#[]⟩,.string ⟨#[]⟩,.int .i64 0,.slice none 0 0,.slice none 0 0,.slice none 0 0,.slice none 0 0],.int .i64 code]) (by simp [results,Tryz.results49,go_sem, *]) rfl ?_
  exact RsRes.zero HE.out (setW_below (w':=w1) (r:=w.heap.size+1) (Nat.le_add_right _ 1) [.slice none 0 0,.slice none 0 0,.slice none 0 0,.int .i64 0,.int .i64 0,.string ⟨#[]⟩,.string ⟨#[]⟩,.int .i64 0,.slice none 0 0,.slice none 0 0,.slice none 0 0,.slice none 0 0] 0 (HBW.out.trans (HB1.out.mono HBW.out.size)))
 subst c0
 obtain ⟨k,hkl,hhk,hnk,hep1,hep2⟩:=HA0.out rfl
 have HRH:=zd (HR2.out k hhk rfl hkl)
 obtain ⟨ev,hev0⟩:∃ ev:Nat,ep=(ev:Int):=⟨ep.toNat,zz13⟩
 subst hev0
 obtain ⟨m,hm⟩:∃ m,ev=m+1:=⟨ev - 1,zz13⟩
 have HMM:=zd hm
 clear hm
 subst hhk
 have hzh:=sz_get hkl hml
 obtain ⟨bh,oh,cc,TH,rfl,hlh,ha,hrd, -, -⟩:=Row.at_ r0 hkl
 replace ha:=ha.keep ((HBW.out.trans (HB1.out.mono HBW.out.size)).block bh hlh)
 obtain ⟨h,hh_⟩:∃ h,x.houses[k]=h:=⟨_,rfl⟩
 rw [hh_] at hrd HRH
 simp only [hh_] at hep2 hzh
 clear hh_
 have HCM:=zd (fun W (h':Below w.heap.size w W) => impl_canMove W h cc TH (Lay.later hrd h') (by have h9:=hzh; have h8:Mk.sz h=h.sz:=rfl; rw [h8] at h9; simp only [House.sz] at h9; have:=szT_le h.servers 0; omega))
 have HSZ:Hid (h.sz≤1048576):=zd hzh
 obtain ⟨H0,g0,T0,H1,g1,T1,H2,g2,T2,H3,g3,T3,H4,g4,T4,H5,g5,T5,H6,g6,T6,H7,g7,T7,H8,g8,T8,rfl, -, -, -, -, -, -, -, -, -, -, -, -, -,rs, -, -, -, -, -, -, -, -, -, -, -, -, -, -, -,rv, -⟩:=House.open hrd
 clear hrd hzh HR1 HR2 HA0 HAS
 rw [show Lay.n House=14 from rfl] at ha
 have e0:=ha 0 _ rfl
 have e1:=ha 1 _ rfl
 have e2:=ha 2 _ rfl
 have e3:=ha 3 _ rfl
 have e4:=ha 4 _ rfl
 have e5:=ha 5 _ rfl
 have e6:=ha 6 _ rfl
 have e7:=ha 7 _ rfl
 have e8:=ha 8 _ rfl
 have e9:=ha 9 _ rfl
 have e10:=ha 10 _ rfl
 have e11:=ha 11 _ rfl
 have e12:=ha 12 _ rfl
 have e13:=ha 13 _ rfl
 simp only [Nat.add_zero] at e0
 clear ha
 simp only [House.cs] at HCM
 have hlh1:bh<w1.heap.size:=Nat.lt_of_lt_of_le hlh (HBW.out.trans (HB1.out.mono HBW.out.size)).size
 have hlx1:w.heap.size<w1.heap.size:=zz13
 have hki:(k:Int)<(x.houses.length:Int):=zz13
 have hk0:(0:Int)≤(k:Int):=zz13
 have hVd:∀ V,V=w1.alloc (.cells #[.int .i64 h.coord.house,.int .i64 h.coord.k,.bool h.coord.up,.slice H0 h.coord.disk.files.length g0,.slice H1 h.coord.pool.length g1,.slice H2 h.coord.seals.length g2,.slice H3 h.coord.tries.length g3,.int .i64 h.coord.try_,.bool h.coord.asking,.slice H4 h.coord.votes.length g4,.slice H5 h.coord.dones.length g5,.slice H6 h.servers.length g6,.slice H7 h.net.length g7,.slice H8 h.codes.length g8] 205)→Below w1.heap.size w1 V∧w1.heap.size<V.heap.size∧V.cell? ⟨w1.heap.size,1,none⟩=some (.int .i64 h.coord.k)∧V.cell? ⟨w1.heap.size,5,none⟩=some (.slice H2 h.coord.seals.length g2)∧V.cell? ⟨w1.heap.size,11,none⟩=some (.slice H6 h.servers.length g6):=by
  rintro V rfl
  exact ⟨(Below.refl _ _).alloc (Nat.le_refl _) _,zz30,ya1 _ _ _ _ _ rfl,ya1 _ _ _ _ _ rfl,ya1 _ _ _ _ _ rfl⟩
 have HRO:=zd rs
 have HRV:=zd rv
 clear rs rv
 go_wp2_with (fail)
 obtain ⟨V,hV⟩:∃ V,w1.alloc (.cells #[.int .i64 h.coord.house,.int .i64 h.coord.k,.bool h.coord.up,.slice H0 h.coord.disk.files.length g0,.slice H1 h.coord.pool.length g1,.slice H2 h.coord.seals.length g2,.slice H3 h.coord.tries.length g3,.int .i64 h.coord.try_,.bool h.coord.asking,.slice H4 h.coord.votes.length g4,.slice H5 h.coord.dones.length g5,.slice H6 h.servers.length g6,.slice H7 h.net.length g7,.slice H8 h.codes.length g8] 205)=V:=⟨_,rfl⟩
 rw [hV]
 obtain ⟨hBV,hVs,v1,v5,v11⟩:=hVd V hV.symm
 clear hV hVd e0 e1 e2 e3 e4 e5 e6 e7 e8 e9 e10 e11 e12 e13 x0 x1 x2 x3 x4 x5 z0 z1 z2 z3 z4 z5 z6 z7 z8 z9 z10 z11 zf
 have HWV:=zd (HB1.out.trans (hBV.mono hl1))
 refine (HCM.out _ (HBW.out.trans (HWV.out.mono HBW.out.size))).mono ?_
 rintro e2 w2 ⟨rfl,hb2⟩
 have HB2:=zd (HWV.out.trans (hb2.mono HWV.out.size))
 have HB02:=zd (HBW.out.trans (HB2.out.mono HBW.out.size))
 have HVC0:=zd (⟨(hb2.cell (p:=⟨w1.heap.size,1,none⟩) hVs).trans v1,(hb2.cell (p:=⟨w1.heap.size,5,none⟩) hVs).trans v5,(hb2.cell (p:=⟨w1.heap.size,11,none⟩) hVs).trans v11⟩:w2.cell? ⟨w1.heap.size,1,none⟩=some (.int .i64 h.coord.k)∧w2.cell? ⟨w1.heap.size,5,none⟩=some (.slice H2 h.coord.seals.length g2)∧w2.cell? ⟨w1.heap.size,11,none⟩=some (.slice H6 h.servers.length g6))
 have hw2:w1.heap.size<w2.heap.size:=Nat.lt_of_lt_of_le hVs hb2.size
 have HVC:=zd (fun (w':World) (h':Below w2.heap.size w2 w') => (⟨(h'.cell (p:=⟨w1.heap.size,1,none⟩) hw2).trans HVC0.out.1,(h'.cell (p:=⟨w1.heap.size,5,none⟩) hw2).trans HVC0.out.2.1,(h'.cell (p:=⟨w1.heap.size,11,none⟩) hw2).trans HVC0.out.2.2⟩:w'.cell? ⟨w1.heap.size,1,none⟩=some (.int .i64 h.coord.k)∧w'.cell? ⟨w1.heap.size,5,none⟩=some (.slice H2 h.coord.seals.length g2)∧w'.cell? ⟨w1.heap.size,11,none⟩=some (.slice H6 h.servers.length g6)))
 have hlx2:w.heap.size+1<w2.heap.size:=zz13
 clear hBV hVs v1 v5 v11 hb2 HVC0
 cases hcm:canMv h
 ·have HE:Hid (R=(wzero,4)):=zd (by rw [HRH.out]; exact resH_no hcm)
  clear hcm
  obtain ⟨x0,x1,x2,x3,x4,x5,z0,z1,z2,z3,z4,z5,z6,z7,z8,z9,z10,z11,zf⟩:=HALL.out w2 HB2.out
  clear x0 x1 x2 x3 x4 x5
  go_wp2
  refine bodyPost_ret (v:=.tuple #[.agg #[.slice none 0 0,.slice none 0 0,.slice none 0 0,.int .i64 0,.int .i64 0,.string ⟨#[]⟩,.string ⟨#[]⟩,.int .i64 0,.slice none 0 0,.slice none 0 0,.slice none 0 0,.slice none 0 0],.int .i64 4]) (by simp [results,Tryz.results49,go_sem, *]) rfl ?_
  exact RsRes.zero HE.out (setW_below (w':=w2) (r:=w.heap.size+1) (Nat.le_add_right _ 1) [.slice none 0 0,.slice none 0 0,.slice none 0 0,.int .i64 0,.int .i64 0,.string ⟨#[]⟩,.string ⟨#[]⟩,.int .i64 0,.slice none 0 0,.slice none 0 0,.slice none 0 0,.slice none 0 0] 0 HB02.out)
 have HCV:=zd hcm
 obtain ⟨q,hq,hql⟩:=canMv_shard hcm name
 have HQ:=zd hq
 have HRB:=zd (fun (i:Nat) (hi:i<h.servers.length) hb => (HRH.out.trans (resH_bad (x:=x) (house:=(k:Int)) (name:=name) (ep:=(ev:Int)) (h:=h) HCV.out hi hb):R=(wzero,4)))
 have HRA:=zd (fun ha (hml:m<h.coord.seals.length) => (HRH.out.trans (resH_at (x:=x) (house:=(k:Int)) (name:=name) (ep:=(ev:Int)) (h:=h) HCV.out ha HQ.out hql (by have:=HMM.out; omega) hml):R=resolveS x k name ev h h.servers[q] h.coord.seals[m]))
 clear hcm hq HRH HCM
 obtain ⟨v1,v5,v11⟩:=HVC.out w2 (Below.refl _ _)
 go_wp2_with (fail)
 go_loopw [12,41] (fun rt it wr => ∃ (i:Nat) (A:Option Addr) (c:Nat),i≤h.servers.length∧it = .int .i64 i∧rt = .slice A i c∧Hid (∀ j (hj:j<h.servers.length),j<i→viewBad ev h.servers[j]=false)∧Own w2 wr A c ((h.servers.take i).map (shRoot ev))) (fun _ it _ => h.servers.length - (intOf it).toNat)
 case atStart => exact ⟨0,none,0,Nat.zero_le _,rfl,rfl,zd (fun j _ hj => absurd hj (Nat.not_lt_zero _)),Own.start (Below.refl _ _)⟩
 case round =>
  clear v1 v5 v11
  obtain ⟨i,A,c,hi,rfl,rfl,HNB,hown⟩:=hrel
  have hb:=hown.bl
  have HOW:=zd hown
  have HBr:=zd (HB2.out.trans (hb.mono HB2.out.size))
  have HBw:=zd (HBW.out.trans (HBr.out.mono HBW.out.size))
  obtain ⟨v1,v5,v11⟩:=HVC.out wr hb
  have hwl:=hb.size
  clear hown
  by_cases hlt:i<h.servers.length
  ·obtain ⟨b1,o1,cc1,TS,rfl,hlb,ha,hr, -, -⟩:=Row.at_ HRV.out hlt
   replace ha:=ha.keep (HBw.out.block b1 hlb)
   have HSN:=zd (roots_snoc (ep:=(ev:Int)) hlt)
   have HBD:=zd (fun hb => HRB.out i hlt hb)
   have HNB2:=zd (fun (h0:viewBad ev h.servers[i]=false) j (hj:j<h.servers.length) (hj2:j<i+1) => (show viewBad ev h.servers[j]=false by
    rcases Nat.lt_succ_iff_lt_or_eq.1 hj2 with h1 | h1
    ·exact HNB.out j hj h1
    ·subst h1; exact h0))
   have hzs:=sz_get hlt (show szL h.servers≤1048576 from servers_sz HSZ.out)
   obtain ⟨s,hs_⟩:∃ s,h.servers[i]=s:=⟨_,rfl⟩
   rw [hs_] at hr HSN HBD HNB2
   simp only [hs_] at hzs
   clear hs_
   obtain ⟨D0,d0,U0,D1,d1,U1,D2,d2,U2,D3,d3,U3,rfl,fat,fk,fe, -, -, -, -, -, -, -, -, -,rw_, -⟩:=Server.open hr
   clear hr
   rw [show Lay.n Server=11 from rfl] at ha
   have e0:=ha 0 _ rfl
   have e1:=ha 1 _ rfl
   have e2:=ha 2 _ rfl
   have e3:=ha 3 _ rfl
   have e4:=ha 4 _ rfl
   have e5:=ha 5 _ rfl
   have e6:=ha 6 _ rfl
   have e7:=ha 7 _ rfl
   have e8:=ha 8 _ rfl
   have e9:=ha 9 _ rfl
   have e10:=ha 10 _ rfl
   simp only [Nat.add_zero] at e0
   clear ha
   have hlb1:b1<wr.heap.size:=Nat.lt_of_lt_of_le hlb HBw.out.size
   have hlx:w.heap.size+1<wr.heap.size:=by have:=hwl; omega
   have hlh2:w1.heap.size<wr.heap.size:=by have:=hwl; omega
   have hii:(i:Int)<(h.servers.length:Int):=zz13
   have hi0:(0:Int)≤(i:Int):=zz13
   have HVB:Hid (viewBad ev s=(!s.up || decide ((s.views.length:Int)≤(ev:Int)))):=zd rfl
   obtain ⟨u,hu⟩:∃ u,s.up=u:=⟨_,rfl⟩
   rw [hu] at HVB e2
   have HFA:=zd fat
   have HFK:=zd fk
   have HRW:=zd rw_
   have HZS:=zd (server_views hzs)
   clear hu hb fat fk fe rw_ hzs
   cases u
   ·have HE:=zd (HBD.out (by rw [HVB.out]; rfl))
    obtain ⟨x0,x1,x2,x3,x4,x5,z0,z1,z2,z3,z4,z5,z6,z7,z8,z9,z10,z11,zf⟩:=HALL.out wr HBr.out
    clear x0 x1 x2 x3 x4 x5
    go_wp2
    refine bodyPost_ret (v:=.tuple #[.agg #[.slice none 0 0,.slice none 0 0,.slice none 0 0,.int .i64 0,.int .i64 0,.string ⟨#[]⟩,.string ⟨#[]⟩,.int .i64 0,.slice none 0 0,.slice none 0 0,.slice none 0 0,.slice none 0 0],.int .i64 4]) (by simp [results,Tryz.results49,go_sem, *]) rfl ?_
    have hb9:=setW_below (w':=wr) (r:=w.heap.size+1) (Nat.le_add_right _ 1) [.slice none 0 0,.slice none 0 0,.slice none 0 0,.int .i64 0,.int .i64 0,.string ⟨#[]⟩,.string ⟨#[]⟩,.int .i64 0,.slice none 0 0,.slice none 0 0,.slice none 0 0,.slice none 0 0] 0 HBw.out
    exact RsRes.zero HE.out (hb9.alloc hb9.size _)
   by_cases hvl:(s.views.length:Int)≤(ev:Int)
   ·have HE:=zd (HBD.out (by rw [HVB.out,decide_eq_true hvl]; rfl))
    have hvd:decide ((ev:Int) ≥ (s.views.length:Int))=true:=decide_eq_true hvl
    have hvn:s.views.length≤ev:=zz13
    clear hvl
    obtain ⟨x0,x1,x2,x3,x4,x5,z0,z1,z2,z3,z4,z5,z6,z7,z8,z9,z10,z11,zf⟩:=HALL.out wr HBr.out
    clear x0 x1 x2 x3 x4 x5
    go_wp2
    refine bodyPost_ret (v:=.tuple #[.agg #[.slice none 0 0,.slice none 0 0,.slice none 0 0,.int .i64 0,.int .i64 0,.string ⟨#[]⟩,.string ⟨#[]⟩,.int .i64 0,.slice none 0 0,.slice none 0 0,.slice none 0 0,.slice none 0 0],.int .i64 4]) (by simp [results,Tryz.results49,go_sem, *]) rfl ?_
    have hb9:=setW_below (w':=wr) (r:=w.heap.size+1) (Nat.le_add_right _ 1) [.slice none 0 0,.slice none 0 0,.slice none 0 0,.int .i64 0,.int .i64 0,.string ⟨#[]⟩,.string ⟨#[]⟩,.int .i64 0,.slice none 0 0,.slice none 0 0,.slice none 0 0,.slice none 0 0] 0 HBw.out
    exact RsRes.zero HE.out (hb9.alloc hb9.size _)
   have HNB3:=zd (HNB2.out (by rw [HVB.out,decide_eq_false hvl]; rfl))
   have hvd:decide ((ev:Int) ≥ (s.views.length:Int))=false:=decide_eq_false hvl
   have hvn : ¬ s.views.length≤ev:=zz13
   have hevl:ev<s.views.length:=zz13
   have hevi:(ev:Int)<(s.views.length:Int):=zz13
   have hev0:(0:Int)≤(ev:Int):=zz13
   clear hvl HNB HNB2 HBD HVB
   go_wp2_with (fail)
   obtain ⟨V2,hV2⟩:∃ V2,wr.alloc (.cells #[.int .i64 s.at_,.int .i64 s.k,.bool true,.slice D0 s.disk.files.length d0,.int .i64 s.epoch,.slice D1 s.views.length d1,.slice D2 s.taken.length d2,.slice D3 s.all.length d3,.int .i64 s.ready.epoch,.int .i64 s.ready.try_,.int .i64 s.ready.take] 46)=V2:=⟨_,rfl⟩
   rw [hV2]
   have hbV:Below wr.heap.size wr V2:=by rw [← hV2]; exact (Below.refl _ _).alloc (Nat.le_refl _) _
   have hsV:V2.heap.size=wr.heap.size+1:=by rw [← hV2]; simp
   have s0:V2.cell? ⟨wr.heap.size,0,none⟩=some (.int .i64 s.at_):=by rw [← hV2]; exact ya1 _ _ _ _ _ rfl
   have s1:V2.cell? ⟨wr.heap.size,1,none⟩=some (.int .i64 s.k):=by rw [← hV2]; exact ya1 _ _ _ _ _ rfl
   have s5:V2.cell? ⟨wr.heap.size,5,none⟩=some (.slice D1 s.views.length d1):=by rw [← hV2]; exact ya1 _ _ _ _ _ rfl
   clear hV2 e0 e1 e2 e3 e4 e5 e6 e7 e8 e9 e10
   obtain ⟨b2,o2,cc2,TV,rfl,hl2,ha2,hr2, -, -⟩:=Row.at_ HRW.out hevl
   obtain ⟨AL,kL,rfl,lL,mL,rL⟩:=open_list hr2
   have q0:=ha2 0 _ rfl
   simp only [show Lay.n (List Leaf)=1 from rfl,Nat.mul_one,Nat.add_zero] at q0
   clear ha2 hr2
   obtain ⟨hzl,hll⟩:=views_at hevl HZS.out
   have HRV2:=zd (shRoot_at (s:=s) hevl)
   have hrm:(shRoot (ev:Int) s).size≤maxLen:=by have:=shRoot_le (ev:Int) s; unfold maxLen; omega
   obtain ⟨xs,hxs⟩:∃ xs,s.views[ev]=xs:=⟨_,rfl⟩
   rw [hxs] at HRV2 rL
   simp only [hxs] at q0 hzl hll
   clear hxs lL mL
   have HSR:=zd (fun W' (h':Below wr.heap.size wr W') => impl_ShardRoot W' xs AL kL TV (Row.later rL (HBw.out.trans (h'.mono HBw.out.size))) hll hzl s.k s.at_ (HT.out.later (HBw.out.trans (h'.mono HBw.out.size))))
   rw [HRV2.out] at HSN hrm
   obtain ⟨rt,hrt⟩:∃ r,shardRoot xs s.k s.at_ 16=r:=⟨_,rfl⟩
   rw [hrt] at HSR HSN hrm
   clear hrt HRV2 HRW HZS HFA HFK rL hzl hll
   have HNL:Hid (i=((h.servers.take i).map (shRoot (ev:Int))).length):=zd zz46
   have q1:=(HBw.out.trans (hbV.mono HBw.out.size)).cell (p:=⟨b2,o2+ev,none⟩) hl2 |>.trans q0
   have hlw2:w.heap.size<w2.heap.size:=zz13
   have hsl:h.servers.length≤1048576:=by have h8:=servers_sz HSZ.out; have h9:=szT_le h.servers 0; omega
   have HM:=zd (fun (w':World) (hc:Chg (rng w2.heap.size wr.heap.size) V2 w') => (⟨(hc.cell (b:=wr.heap.size) (o:=0) zz13 (fun h => by unfold rng at h; omega)).trans s0,(hc.cell (b:=wr.heap.size) (o:=1) zz13 (fun h => by unfold rng at h; omega)).trans s1,(hc.cell (b:=wr.heap.size) (o:=5) zz13 (fun h => by unfold rng at h; omega)).trans s5,(hc.cell (b:=b2) (o:=o2+ev) zz13 (fun h => by unfold rng at h; omega)).trans q1,hc⟩:w'.cell? ⟨wr.heap.size,0,none⟩=some (.int .i64 s.at_)∧w'.cell? ⟨wr.heap.size,1,none⟩=some (.int .i64 s.k)∧w'.cell? ⟨wr.heap.size,5,none⟩=some (.slice (some ⟨b2,o2,none⟩) s.views.length d1)∧w'.cell? ⟨b2,o2+ev,none⟩=some (.slice AL xs.length kL)∧Chg (rng w2.heap.size wr.heap.size) V2 w'))
   have hB:=hbV
   have hC:=Chg.refl (rng w2.heap.size wr.heap.size) V2
   clear q0 q1 s0 s1 s5 hbV v1 v5 v11
   go_region_held3 (fun w' => w'.cell? ⟨wr.heap.size,0,none⟩=some (.int .i64 s.at_)∧w'.cell? ⟨wr.heap.size,1,none⟩=some (.int .i64 s.k)∧w'.cell? ⟨wr.heap.size,5,none⟩=some (.slice (some ⟨b2,o2,none⟩) s.views.length d1)∧w'.cell? ⟨b2,o2+ev,none⟩=some (.slice AL xs.length kL)∧Chg (rng w2.heap.size wr.heap.size) V2 w')
    (first | exact HM.out _ (by (repeat (first | with_reducible exact hC | with_reducible apply Chg.drew | with_reducible refine Chg.alloc ?_ _))))
    (first | (go_at_call 137; with_reducible refine (HSR.out _ ?_).mono ?_; (exact (by have zh:=hB; exact zz10)); rintro e5 w5 ⟨rfl,hb5⟩; have hC:=Chg.step (by (repeat (first | with_reducible exact hC | with_reducible apply Chg.drew | with_reducible refine Chg.alloc ?_ _))) hb5; have hB:=Below.step (a:=wr) (by have zh:=hB; exact zz10) hb5; have hs5:=hB.size) | (refine step_pushC (α:=ByteArray) (w0:=w2) (w1:=wr) (ys:=[rt]) rfl _ _ rfl rfl HNL.out HOW.out ?hb rfl rfl ?src ?om ?_; (case src => exact src1 hrm rfl rfl); (case hb => exact (by have zh:=hB; exact zz10)); (case om => show i+1≤4000000000; omega); intro A6 c6 w6 o6 hE; have hC:Chg (rng w2.heap.size wr.heap.size) V2 w6:=Chg.trans (Chg.alloc hC _) hE))
   go_wp2
   go_roundw
   case rel => exact ⟨i+1,A6,c6,hlt,by go_num,rfl,HNB3,by rw [HSN.out]; exact o6⟩
   case measure => simp [intOf]; omega
  ·have hie:i=h.servers.length:=by omega
   subst hie
   have HEV:Hid (ev=m+1):=HMM
   have HOW2:Hid (Own w2 wr A c (h.servers.map (shRoot (ev:Int)))):=zd (by have h9:=HOW.out; rw [List.take_length] at h9; exact h9)
   have hml:m<h.coord.seals.length:=by have:=HMM.out; omega
   have hslr:h.servers.length≤1048576:=by have h8:=servers_sz HSZ.out; have h9:=szT_le h.servers 0; omega
   have HRS:=zd (HRA.out (fun j hj => HNB.out j hj hj) hml)
   have HSH:=zd (fun W (h':Below w.heap.size w W) => impl_ShardOf W name hn h.coord.k (HT.out.later h'))
   rw [HQ.out] at HSH
   have HNO:=zd (fun p b l c h1 h2 hb => HRS.out.trans (resS_no (x:=x) (house:=(k:Int)) (name:=name) (ep:=(ev:Int)) (h:=h) (s:=h.servers[q]'hql) (sl:=h.coord.seals[m]'hml) (p:=p) (b:=b) (c:=c) (l:=l) h1 HQ.out h2 hb))
   have HYE:=zd (fun p b l c h1 h2 hb => HRS.out.trans (resS_yes (x:=x) (house:=(k:Int)) (name:=name) (ep:=(ev:Int)) (h:=h) (s:=h.servers[q]'hql) (sl:=h.coord.seals[m]'hml) (p:=p) (b:=b) (c:=c) (l:=l) h1 HQ.out h2 hb))
   have HCS:=zd (fun W' (h':Below wr.heap.size wr W') => impl_CombineSides W' (h.servers.map (shRoot (ev:Int))) A c _ (Row.later HOW2.out.weak h') (by rw [List.length_map]; exact hslr) (q:Int) (HT.out.later (HBw.out.trans (h'.mono HBw.out.size))))
   simp only [List.length_map] at HCS
   obtain ⟨CT,hCT⟩:∃ C,combineSides (h.servers.map (shRoot (ev:Int))) (q:Int) 16=C:=⟨_,rfl⟩
   rw [hCT] at HCS
   simp only [hCT] at HNO HYE
   obtain ⟨tp,cb⟩:=CT
   (try simp only at HCS)
   obtain ⟨bq,oq,cq,TQ,rfl,hlq,haq,hrq, -, -⟩:=Row.at_ HRV.out hql
   have hzq:=sz_get hql (servers_sz HSZ.out)
   obtain ⟨bs,os,csl,TL,rfl,hls,has_,hrs, -, -⟩:=Row.at_ HRO.out hml
   have hzl:=sz_get hml (show szL h.coord.seals≤1048576 by have h9:=HSZ.out; simp only [House.sz,Coord.sz] at h9; omega)
   obtain ⟨sq,hsq⟩:∃ s,h.servers[q]=s:=⟨_,rfl⟩
   rw [hsq] at hrq hzq
   simp only [hsq] at HNO HYE
   obtain ⟨sl,hsl⟩:∃ s,h.coord.seals[m]=s:=⟨_,rfl⟩
   rw [hsl] at hrs
   simp only [hsl] at HYE hzl
   clear hsq hsl hCT
   have HLS:=zd (fun W (h':Below w.heap.size w W) => impl_LookServer W sq cq TQ (Lay.later hrq h') hzq (ev:Int) he name hn (HT.out.later h'))
   obtain ⟨LP,hLP⟩:∃ C,lookServer sq (ev:Int) name=C:=⟨_,rfl⟩
   rw [hLP] at HLS
   simp only [hLP] at HNO HYE
   obtain ⟨pf,pb⟩:=LP
   (try simp only at HLS)
   clear hLP
   have HNO2:Hid ((pb && cb)=false→R=(wzero,4)):=zd (fun hb => HNO.out pf pb tp cb rfl rfl hb)
   have HYE2:Hid ((pb && cb)=true→R=(⟨pf,tp,sl,stampsOf x k ev⟩,0)):=zd (fun hb => HYE.out pf pb tp cb rfl rfl hb)
   obtain ⟨l0,l1,l2⟩:=seal_lens hzl
   have HCP:=zd (fun W (h':Below w.heap.size w W) => impl_copySeal W sl csl TL (Lay.later hrs h') l0 l1 l2)
   obtain ⟨D0,d0,U0,D1,d1,U1,D2,d2,U2,D3,d3,U3,rfl, -⟩:=Server.open hrq
   obtain ⟨G0,j0,W0,G1,j1,W1,G2,j2,W2,rfl, -⟩:=Seal.open hrs
   simp only [Server.cs] at HLS haq
   simp only [Seal.cs] at HCP has_
   rw [show Lay.n Server=11 from rfl] at haq
   rw [show Lay.n Seal=8 from rfl] at has_
   have hwn:IntKind.i64.wrap ((ev:Int) - 1)=(m:Int):=by have h8:=HMM.out; have h9:=he; unfold I64 at h9; rw [IntWalk.i64_in] <;> omega
   have hqi:(q:Int)<(h.servers.length:Int):=zz13
   have hq0:(0:Int)≤(q:Int):=zz13
   have hmi:(m:Int)<(h.coord.seals.length:Int):=zz13
   have hm0:(0:Int)≤(m:Int):=zz13
   clear hrq hrs HNO HYE HRA HRB HNB hzq l0 l1 l2 HRS hb
   go_wp2_with (fail)
   refine (HSH.out wr HBw.out).mono ?_
   rintro e5 w5 ⟨rfl,hb5⟩
   have HB5:=zd hb5
   have HB5w:=zd (HBw.out.trans (hb5.mono HBw.out.size))
   replace haq:=haq.keep (HB5w.out.block bq hlq)
   have e0:=haq 0 _ rfl
   have e1:=haq 1 _ rfl
   have e2:=haq 2 _ rfl
   have e3:=haq 3 _ rfl
   have e4:=haq 4 _ rfl
   have e5:=haq 5 _ rfl
   have e6:=haq 6 _ rfl
   have e7:=haq 7 _ rfl
   have e8:=haq 8 _ rfl
   have e9:=haq 9 _ rfl
   have e10:=haq 10 _ rfl
   simp only [Nat.add_zero] at e0
   clear haq v1 v5 v11 hb5
   obtain ⟨v1,v5,v11⟩:=HVC.out w5 (HOW2.out.bl.trans (HB5.out.mono HOW2.out.bl.size))
   have hlq5:bq<w5.heap.size:=Nat.lt_of_lt_of_le hlq HB5w.out.size
   have hls5:w1.heap.size<w5.heap.size:=by have:=HB5.out.size; have:=HOW2.out.bl.size; omega
   go_wp2_with (fail)
   refine (HLS.out w5 HB5w.out).mono ?_
   rintro e6 w6 ⟨cp,rfl,hp6,hb6⟩
   obtain ⟨P0,n0,T0,P1,n1,T1,rfl, -⟩:=Proof.open hp6
   simp only [Proof.cs]
   have HP6:=zd hp6
   have HB6:=zd (HB5.out.trans (hb6.mono HB5.out.size))
   have hs6:=hb6.size
   clear hp6 hb6 e0 e1 e2 e3 e4 e5 e6 e7 e8 e9 e10 v1 v5 v11
   go_wp2_with (fail)
   obtain ⟨V6,hV6⟩:∃ V,w6.alloc (.cells #[.slice P0 pf.bucket.length n0,.slice P1 pf.sides.length n1] 36)=V:=⟨_,rfl⟩
   rw [hV6]
   have hV6f:Below w6.heap.size w6 V6∧V6.heap.size=w6.heap.size+1∧V6.cell? ⟨w6.heap.size,0,none⟩=some (.slice P0 pf.bucket.length n0)∧V6.cell? ⟨w6.heap.size,1,none⟩=some (.slice P1 pf.sides.length n1):=by
    rw [← hV6]; exact ⟨(Below.refl _ _).alloc (Nat.le_refl _) _,zz30,ya1 _ _ _ _ _ rfl,ya1 _ _ _ _ _ rfl⟩
   clear hV6
   obtain ⟨hbV6,hsV6,q0,q1⟩:=hV6f
   have HBV6:=zd hbV6
   have HQ01:=zd (And.intro q0 q1)
   clear hbV6 q0 q1
   refine (HCS.out V6 (HB6.out.trans (HBV6.out.mono HB6.out.size))).mono ?_
   rintro e7 w7 ⟨AT,kT,rfl,oT⟩
   have HOT:=zd oT
   have hs7:=oT.bl.size
   have HB7r:=zd ((HB6.out.trans (HBV6.out.mono HB6.out.size)).trans (oT.bl.mono (by have:=HB6.out.size; omega)))
   have HB7:=zd (HBr.out.trans (HB7r.out.mono HBr.out.size))
   have HB7w:=zd (HBw.out.trans (HB7r.out.mono HBw.out.size))
   clear oT
   obtain ⟨x0,x1,x2,x3,x4,x5,z0,z1,z2,z3,z4,z5,z6,z7,z8,z9,z10,z11,zf⟩:=HALL.out w7 HB7.out
   clear x0 x1 x2 x3 x4 x5
   cases hpc:(pb && cb)
   ·have HE:=zd (HNO2.out hpc)
    cases pb <;> cases cb <;> first | (exfalso; revert hpc; decide) | skip
    all_goals (
     clear hpc
     go_wp2
     refine bodyPost_ret (v:=.tuple #[.agg #[.slice none 0 0,.slice none 0 0,.slice none 0 0,.int .i64 0,.int .i64 0,.string ⟨#[]⟩,.string ⟨#[]⟩,.int .i64 0,.slice none 0 0,.slice none 0 0,.slice none 0 0,.slice none 0 0],.int .i64 4]) (by simp [results,Tryz.results49,go_sem, *]) rfl ?_
     exact RsRes.zero HE.out (setW_below (w':=w7) (r:=w.heap.size+1) (Nat.le_add_right _ 1) [.slice none 0 0,.slice none 0 0,.slice none 0 0,.int .i64 0,.int .i64 0,.string ⟨#[]⟩,.string ⟨#[]⟩,.int .i64 0,.slice none 0 0,.slice none 0 0,.slice none 0 0,.slice none 0 0] 0 HB7w.out)
    )
   have HE:=zd (HYE2.out hpc)
   have hpt:pb=true∧cb=true:=by simpa using hpc
   obtain ⟨rfl,rfl⟩:=hpt
   clear hpc HNO2 HYE2
   have HXW:=zd (HALL.out w7 HB7.out)
   obtain ⟨x0,x1,x2,x3,x4,x5,z0,z1,z2,z3,z4,z5,z6,z7,z8,z9,z10,z11, -⟩:=HXW.out
   obtain ⟨-,v5, -⟩:=HVC.out w7 (HOW2.out.bl.trans (HB7r.out.mono HOW2.out.bl.size))
   have p0:=(HOT.out.bl.cell (p:=⟨w6.heap.size,0,none⟩) (by show w6.heap.size<_; omega)).trans HQ01.out.1
   have p1:=(HOT.out.bl.cell (p:=⟨w6.heap.size,1,none⟩) (by show w6.heap.size<_; omega)).trans HQ01.out.2
   replace has_:=has_.keep (HB7w.out.block bs hls)
   have s0:=has_ 0 _ rfl
   have s1:=has_ 1 _ rfl
   have s2:=has_ 2 _ rfl
   have s3:=has_ 3 _ rfl
   have s4:=has_ 4 _ rfl
   have s5:=has_ 5 _ rfl
   have s6:=has_ 6 _ rfl
   have s7:=has_ 7 _ rfl
   simp only [Nat.add_zero] at s0
   clear has_
   have hlx7:w.heap.size+1<w7.heap.size:=by have:=HB7w.out.size; have:=HBW.out.size; omega
   have hlx70:w.heap.size<w7.heap.size:=zz13
   have hlh7:w1.heap.size<w7.heap.size:=zz13
   have hlp7:w6.heap.size<w7.heap.size:=zz13
   have hlb7:bs<w7.heap.size:=Nat.lt_of_lt_of_le hls HB7w.out.size
   have hq1:=HB6.out.size
   have hq2:=HBr.out.size
   have nRp7 : ¬ isR (w.heap.size+1) w6.heap.size:=by unfold isR; omega
   have nRx70 : ¬ isR (w.heap.size+1) w.heap.size:=by unfold isR; omega
   have nRh7 : ¬ isR (w.heap.size+1) w1.heap.size:=by unfold isR; omega
   have nRb7 : ¬ isR (w.heap.size+1) bs:=by unfold isR; omega
   have HM:=zd (fun (w':World) (h':Chg (isR (w.heap.size+1)) w7 w') => (⟨(h'.cell (b:=w6.heap.size) (o:=0) hlp7 nRp7).trans p0,(h'.cell (b:=w6.heap.size) (o:=1) hlp7 nRp7).trans p1,(h'.cell (b:=w.heap.size) (o:=0) hlx70 nRx70).trans x0,(h'.cell (b:=w.heap.size) (o:=1) hlx70 nRx70).trans x1,(h'.cell (b:=w.heap.size) (o:=2) hlx70 nRx70).trans x2,(h'.cell (b:=w.heap.size) (o:=3) hlx70 nRx70).trans x3,(h'.cell (b:=w.heap.size) (o:=4) hlx70 nRx70).trans x4,(h'.cell (b:=w.heap.size) (o:=5) hlx70 nRx70).trans x5,(h'.cell (b:=w1.heap.size) (o:=5) hlh7 nRh7).trans v5,(h'.cell (b:=bs) (o:=os+m*8) hlb7 nRb7).trans s0,(h'.cell (b:=bs) (o:=os+m*8+1) hlb7 nRb7).trans s1,(h'.cell (b:=bs) (o:=os+m*8+2) hlb7 nRb7).trans s2,(h'.cell (b:=bs) (o:=os+m*8+3) hlb7 nRb7).trans s3,(h'.cell (b:=bs) (o:=os+m*8+4) hlb7 nRb7).trans s4,(h'.cell (b:=bs) (o:=os+m*8+5) hlb7 nRb7).trans s5,(h'.cell (b:=bs) (o:=os+m*8+6) hlb7 nRb7).trans s6,(h'.cell (b:=bs) (o:=os+m*8+7) hlb7 nRb7).trans s7,h'⟩:w'.cell? ⟨w6.heap.size,0,none⟩=some (.slice P0 pf.bucket.length n0)∧w'.cell? ⟨w6.heap.size,1,none⟩=some (.slice P1 pf.sides.length n1)∧w'.cell? ⟨w.heap.size,0,none⟩=some (.slice (some ⟨bh,oh,none⟩) x.houses.length k0)∧w'.cell? ⟨w.heap.size,1,none⟩=some (.slice A1 x.auditors.length k1)∧w'.cell? ⟨w.heap.size,2,none⟩=some (.slice A2 x.notes.length k2)∧w'.cell? ⟨w.heap.size,3,none⟩=some (.slice A3 x.given.length k3)∧w'.cell? ⟨w.heap.size,4,none⟩=some (.slice A4 x.evil.length k4)∧w'.cell? ⟨w.heap.size,5,none⟩=some (.slice A5 x.codes.length k5)∧w'.cell? ⟨w1.heap.size,5,none⟩=some (.slice (some ⟨bs,os,none⟩) h.coord.seals.length g2)∧w'.cell? ⟨bs,os+m*8,none⟩=some (.int .i64 sl.head.house)∧w'.cell? ⟨bs,os+m*8+1,none⟩=some (.int .i64 sl.head.epoch)∧w'.cell? ⟨bs,os+m*8+2,none⟩=some (.string sl.head.root)∧w'.cell? ⟨bs,os+m*8+3,none⟩=some (.string sl.head.prev)∧w'.cell? ⟨bs,os+m*8+4,none⟩=some (.int .i64 sl.sig.at_)∧w'.cell? ⟨bs,os+m*8+5,none⟩=some (.slice G0 sl.sig.open_.length j0)∧w'.cell? ⟨bs,os+m*8+6,none⟩=some (.slice G1 sl.sig.shut.length j1)∧w'.cell? ⟨bs,os+m*8+7,none⟩=some (.slice G2 sl.sig.sides.length j2)∧Chg (isR (w.heap.size+1)) w7 w'))
   clear nRp7 nRx70 nRh7 nRb7 hq1 hq2
   have HZW:=zd (fun (w':World) (h':Below w7.heap.size w7 w') => (⟨(h'.cell (p:=⟨w.heap.size+1,0,none⟩) zz12).trans z0,(h'.cell (p:=⟨w.heap.size+1,1,none⟩) zz12).trans z1,(h'.cell (p:=⟨w.heap.size+1,2,none⟩) zz12).trans z2,(h'.cell (p:=⟨w.heap.size+1,3,none⟩) zz12).trans z3,(h'.cell (p:=⟨w.heap.size+1,4,none⟩) zz12).trans z4,(h'.cell (p:=⟨w.heap.size+1,5,none⟩) zz12).trans z5,(h'.cell (p:=⟨w.heap.size+1,6,none⟩) zz12).trans z6,(h'.cell (p:=⟨w.heap.size+1,7,none⟩) zz12).trans z7,(h'.cell (p:=⟨w.heap.size+1,8,none⟩) zz12).trans z8,(h'.cell (p:=⟨w.heap.size+1,9,none⟩) zz12).trans z9,(h'.cell (p:=⟨w.heap.size+1,10,none⟩) zz12).trans z10,(h'.cell (p:=⟨w.heap.size+1,11,none⟩) zz12).trans z11,fun o => (h'.frozen (p:=⟨w.heap.size+1,o,none⟩) zz12).trans (HXW.out.2.2.2.2.2.2.2.2.2.2.2.2.2.2.2.2.2.2 o)⟩:w'.cell? ⟨w.heap.size+1,0,none⟩=some (.slice none 0 0)∧w'.cell? ⟨w.heap.size+1,1,none⟩=some (.slice none 0 0)∧w'.cell? ⟨w.heap.size+1,2,none⟩=some (.slice none 0 0)∧w'.cell? ⟨w.heap.size+1,3,none⟩=some (.int .i64 0)∧w'.cell? ⟨w.heap.size+1,4,none⟩=some (.int .i64 0)∧w'.cell? ⟨w.heap.size+1,5,none⟩=some (.string ⟨#[]⟩)∧w'.cell? ⟨w.heap.size+1,6,none⟩=some (.string ⟨#[]⟩)∧w'.cell? ⟨w.heap.size+1,7,none⟩=some (.int .i64 0)∧w'.cell? ⟨w.heap.size+1,8,none⟩=some (.slice none 0 0)∧w'.cell? ⟨w.heap.size+1,9,none⟩=some (.slice none 0 0)∧w'.cell? ⟨w.heap.size+1,10,none⟩=some (.slice none 0 0)∧w'.cell? ⟨w.heap.size+1,11,none⟩=some (.slice none 0 0)∧∀ o,w'.frozen? ⟨w.heap.size+1,o,none⟩=false))
   have HB7z:=HB7w.out.size
   clear p0 p1 x0 x1 x2 x3 x4 x5 v5 s0 s1 s2 s3 s4 s5 s6 s7 z0 z1 z2 z3 z4 z5 z6 z7 z8 z9 z10 z11
   have hB:=Below.refl w7.heap.size w7
   go_wp2_with (fail)
   go_region_held3 (fun w' => w'.cell? ⟨w6.heap.size,0,none⟩=some (.slice P0 pf.bucket.length n0)∧w'.cell? ⟨w6.heap.size,1,none⟩=some (.slice P1 pf.sides.length n1)∧w'.cell? ⟨w.heap.size,0,none⟩=some (.slice (some ⟨bh,oh,none⟩) x.houses.length k0)∧w'.cell? ⟨w.heap.size,1,none⟩=some (.slice A1 x.auditors.length k1)∧w'.cell? ⟨w.heap.size,2,none⟩=some (.slice A2 x.notes.length k2)∧w'.cell? ⟨w.heap.size,3,none⟩=some (.slice A3 x.given.length k3)∧w'.cell? ⟨w.heap.size,4,none⟩=some (.slice A4 x.evil.length k4)∧w'.cell? ⟨w.heap.size,5,none⟩=some (.slice A5 x.codes.length k5)∧w'.cell? ⟨w1.heap.size,5,none⟩=some (.slice (some ⟨bs,os,none⟩) h.coord.seals.length g2)∧w'.cell? ⟨bs,os+m*8,none⟩=some (.int .i64 sl.head.house)∧w'.cell? ⟨bs,os+m*8+1,none⟩=some (.int .i64 sl.head.epoch)∧w'.cell? ⟨bs,os+m*8+2,none⟩=some (.string sl.head.root)∧w'.cell? ⟨bs,os+m*8+3,none⟩=some (.string sl.head.prev)∧w'.cell? ⟨bs,os+m*8+4,none⟩=some (.int .i64 sl.sig.at_)∧w'.cell? ⟨bs,os+m*8+5,none⟩=some (.slice G0 sl.sig.open_.length j0)∧w'.cell? ⟨bs,os+m*8+6,none⟩=some (.slice G1 sl.sig.shut.length j1)∧w'.cell? ⟨bs,os+m*8+7,none⟩=some (.slice G2 sl.sig.sides.length j2)∧Chg (isR (w.heap.size+1)) w7 w')
    (first | exact HM.out _ (by (repeat (first | with_reducible exact Below.chg hB | with_reducible apply Chg.drew | with_reducible refine Chg.alloc ?_ _ | with_reducible refine chg_setR ?_ _))))
    (first | (go_at_call 139; with_reducible refine (HCP.out _ ?_).mono ?_; (exact HB7w.out.trans (Below.mono (w:=w7) (by have zh:=hB; exact zz10) HB7z)); rintro e8 w8 ⟨C0,i0,C1,i1,C2,i2,rfl,hs8,hb8⟩; have HS8:=zd hs8; have hB8:=Below.refl w8.heap.size w8; have hL8:=Below.size (by have zh:=hB; exact zz10); (try have hB9:=Below.step (a:=w9) (by have zh:=hB9; exact zz10) hb8); have hB:=Below.step (a:=w7) (by have zh:=hB; exact zz10) hb8; have hz8:=hB.size; have hz8b:=hb8.size; obtain ⟨z0,z1,z2,z3,z4,z5,z6,z7,z8,z9,z10,z11,zf⟩:=HZW.out _ hB) | (go_at_call 140; with_reducible refine (HST.out _ ?_).mono ?_; (exact HB7w.out.trans (Below.mono (w:=w7) (by have zh:=hB; exact zz10) HB7z)); rintro e9 w9 ⟨A6,k6,rfl,l6,m6,r6,hb9⟩; have HS9:=zd (And.intro l6 (And.intro m6 r6)); have hB9:=Below.refl w9.heap.size w9; (try have hB8:=Below.step (a:=w8) (by have zh:=hB8; exact zz10) hb9); have hB:=Below.step (a:=w7) (by have zh:=hB; exact zz10) hb9; have hz9:=hB.size; have hz9b:=hb9.size; obtain ⟨z0,z1,z2,z3,z4,z5,z6,z7,z8,z9,z10,z11,zf⟩:=HZW.out _ hB))
   go_wp2
   refine bodyPost_ret (v:=.tuple #[.agg #[.slice P0 pf.bucket.length n0,.slice P1 pf.sides.length n1,.slice AT tp.length kT,.int .i64 sl.head.house,.int .i64 sl.head.epoch,.string sl.head.root,.string sl.head.prev,.int .i64 sl.sig.at_,.slice C0 sl.sig.open_.length i0,.slice C1 sl.sig.shut.length i1,.slice C2 sl.sig.sides.length i2,.slice A6 (stampsOf x k ev).length k6],.int .i64 0]) (by simp [results,Tryz.results49,go_sem, *]) rfl ?_
   obtain ⟨g6,e6,f6⟩:=HS9.out
   have hb69:Below w6.heap.size w6 w9:=HBV6.out.trans ((HOT.out.bl.trans (hB.mono HOT.out.bl.size)).mono HBV6.out.size)
   have hdr:w7.drew.heap.size=w7.heap.size:=rfl
   have hsz8:=hb8.size
   have hsz9:=hb9.size
   exact rs_done (r:=w.heap.size+1) HE.out (Lay.later HP6.out hb69) HOT.out.le HOT.out.cm (Row.later HOT.out.rng hB) (Lay.later HS8.out hB8) g6 e6 f6 (Nat.le_add_right _ 1) (HB7w.out.trans (hB.mono HB7z)) ⟨zz13,zz13,zz13,zz13,zz13,zz13,zz13,zz13,zz13,zz13,zz13⟩
theorem spec_Resolve (w:World) (x:Wrld) (cs:List Value) (S:Blks) (hx:rd false w cs x S) (hz:x.sz≤1048576) (house:Int) (hh:I64 house) (name:ByteArray) (hn:name.size≤1048576) (ep:Int) (he:I64 ep):Calls Tryz.prog 47 #[.agg cs.toArray,.int .i64 house,.string name,.int .i64 ep] w (RsRes (resolve x house name ep) w):=by
 have hml:szL x.houses≤1048576:=by simp only [Wrld.sz] at hz; omega
 have hgl:x.houses.length≤1048576:=by have:=szT_le x.houses 0; omega
 have HX1:=zd hx
 obtain ⟨A0,k0,S0,A1,k1,S1,A2,k2,S2,A3,k3,S3,A4,k4,S4,A5,k5,S5,rfl, -, -,r0, -⟩:=Wrld.open hx
 clear hx
 simp only [Wrld.cs] at HX1 ⊢
 have HAS:=zd (fun W (h:Below w.heap.size w W) => spec_l24Form W x _ S (Lay.later HX1.out h) hz house name hn ep)
 have HST:=zd (fun W (h:Below w.heap.size w W) => spec_StampsOf W x _ S (Lay.later HX1.out h) hz house hh ep he)
 have HA0:=zd (fun h => asked_0 (x:=x) (house:=house) (name:=name) (ep:=ep) h)
 have HR1:=zd (fun h => res_bad (x:=x) (house:=house) (name:=name) (ep:=ep) h)
 have HR2:Hid (∀ k:Nat,house=k→askedC x house name ep=0→∀ hk:k<x.houses.length,resolve x house name ep=resolveH x house name ep x.houses[k]):=zd (fun k e h hk => by subst e; exact res_at h hk)
 obtain ⟨R,hR⟩:∃ R,resolve x house name ep=R:=⟨_,rfl⟩
 rw [hR] at HR1 HR2 ⊢
 obtain ⟨code,hcode⟩:∃ c,askedC x house name ep=c:=⟨_,rfl⟩
 rw [hcode] at HAS HA0 HR1 HR2
 clear hR hcode hz
 have hWd:∀ W,W=(w.alloc (.cells #[.slice A0 x.houses.length k0,.slice A1 x.auditors.length k1,.slice A2 x.notes.length k2,.slice A3 x.given.length k3,.slice A4 x.evil.length k4,.slice A5 x.codes.length k5] 132)).alloc (.cells #[.slice none 0 0,.slice none 0 0,.slice none 0 0,.int .i64 0,.int .i64 0,.string ⟨#[]⟩,.string ⟨#[]⟩,.int .i64 0,.slice none 0 0,.slice none 0 0,.slice none 0 0,.slice none 0 0] 108)→Below w.heap.size w W∧W.heap.size=w.heap.size+1+1∧(∀ o,W.frozen? ⟨w.heap.size+1,o,none⟩=false)∧W.cell? ⟨w.heap.size,0,none⟩=some (.slice A0 x.houses.length k0)∧W.cell? ⟨w.heap.size,1,none⟩=some (.slice A1 x.auditors.length k1)∧W.cell? ⟨w.heap.size,2,none⟩=some (.slice A2 x.notes.length k2)∧W.cell? ⟨w.heap.size,3,none⟩=some (.slice A3 x.given.length k3)∧W.cell? ⟨w.heap.size,4,none⟩=some (.slice A4 x.evil.length k4)∧W.cell? ⟨w.heap.size,5,none⟩=some (.slice A5 x.codes.length k5)∧W.cell? ⟨w.heap.size+1,0,none⟩=some (.slice none 0 0)∧W.cell? ⟨w.heap.size+1,1,none⟩=some (.slice none 0 0)∧W.cell? ⟨w.heap.size+1,2,none⟩=some (.slice none 0 0)∧W.cell? ⟨w.heap.size+1,3,none⟩=some (.int .i64 0)∧W.cell? ⟨w.heap.size+1,4,none⟩=some (.int .i64 0)∧W.cell? ⟨w.heap.size+1,5,none⟩=some (.string ⟨#[]⟩)∧W.cell? ⟨w.heap.size+1,6,none⟩=some (.string ⟨#[]⟩)∧W.cell? ⟨w.heap.size+1,7,none⟩=some (.int .i64 0)∧W.cell? ⟨w.heap.size+1,8,none⟩=some (.slice none 0 0)∧W.cell? ⟨w.heap.size+1,9,none⟩=some (.slice none 0 0)∧W.cell? ⟨w.heap.size+1,10,none⟩=some (.slice none 0 0)∧W.cell? ⟨w.heap.size+1,11,none⟩=some (.slice none 0 0):=by
  rintro W rfl
  have e1:w.heap.size+1=(w.alloc (.cells #[.slice A0 x.houses.length k0,.slice A1 x.auditors.length k1,.slice A2 x.notes.length k2,.slice A3 x.given.length k3,.slice A4 x.evil.length k4,.slice A5 x.codes.length k5] 132)).heap.size:=zz30
  refine ⟨((Below.refl _ _).alloc (Nat.le_refl _) _).alloc zz30 _,zz30,fun o => by rw [e1]; exact frozen_newR _ _ _ _,?_⟩
  refine ⟨ya7 (ya1 _ _ _ _ _ rfl),ya7 (ya1 _ _ _ _ _ rfl),ya7 (ya1 _ _ _ _ _ rfl),ya7 (ya1 _ _ _ _ _ rfl),ya7 (ya1 _ _ _ _ _ rfl),ya7 (ya1 _ _ _ _ _ rfl),zz44,zz44,zz44,zz44,zz44,zz44,zz44,zz44,zz44,zz44,zz44,zz44⟩
 go_enter Tryz.func47,Tryz.ntmps47
 go_wp2_with (fail)
 obtain ⟨W,hW⟩:∃ W,(w.alloc (.cells #[.slice A0 x.houses.length k0,.slice A1 x.auditors.length k1,.slice A2 x.notes.length k2,.slice A3 x.given.length k3,.slice A4 x.evil.length k4,.slice A5 x.codes.length k5] 132)).alloc (.cells #[.slice none 0 0,.slice none 0 0,.slice none 0 0,.int .i64 0,.int .i64 0,.string ⟨#[]⟩,.string ⟨#[]⟩,.int .i64 0,.slice none 0 0,.slice none 0 0,.slice none 0 0,.slice none 0 0] 108)=W:=⟨_,rfl⟩
 rw [hW]
 obtain ⟨hBW,hWs,zf,x0,x1,x2,x3,x4,x5,z0,z1,z2,z3,z4,z5,z6,z7,z8,z9,z10,z11⟩:=hWd W hW.symm
 clear hW hWd
 have HBW:=zd hBW
 have hlW:w.heap.size+1<W.heap.size:=zz13
 have HALL:=zd (fun (w':World) (h:Below W.heap.size W w') => (⟨(h.cell (p:=⟨w.heap.size,0,none⟩) zz22).trans x0,(h.cell (p:=⟨w.heap.size,1,none⟩) zz22).trans x1,(h.cell (p:=⟨w.heap.size,2,none⟩) zz22).trans x2,(h.cell (p:=⟨w.heap.size,3,none⟩) zz22).trans x3,(h.cell (p:=⟨w.heap.size,4,none⟩) zz22).trans x4,(h.cell (p:=⟨w.heap.size,5,none⟩) zz22).trans x5,(h.cell (p:=⟨w.heap.size+1,0,none⟩) zz12).trans z0,(h.cell (p:=⟨w.heap.size+1,1,none⟩) zz12).trans z1,(h.cell (p:=⟨w.heap.size+1,2,none⟩) zz12).trans z2,(h.cell (p:=⟨w.heap.size+1,3,none⟩) zz12).trans z3,(h.cell (p:=⟨w.heap.size+1,4,none⟩) zz12).trans z4,(h.cell (p:=⟨w.heap.size+1,5,none⟩) zz12).trans z5,(h.cell (p:=⟨w.heap.size+1,6,none⟩) zz12).trans z6,(h.cell (p:=⟨w.heap.size+1,7,none⟩) zz12).trans z7,(h.cell (p:=⟨w.heap.size+1,8,none⟩) zz12).trans z8,(h.cell (p:=⟨w.heap.size+1,9,none⟩) zz12).trans z9,(h.cell (p:=⟨w.heap.size+1,10,none⟩) zz12).trans z10,(h.cell (p:=⟨w.heap.size+1,11,none⟩) zz12).trans z11,fun o => (h.frozen (p:=⟨w.heap.size+1,o,none⟩) hlW).trans (zf o)⟩:w'.cell? ⟨w.heap.size,0,none⟩=some (.slice A0 x.houses.length k0)∧w'.cell? ⟨w.heap.size,1,none⟩=some (.slice A1 x.auditors.length k1)∧w'.cell? ⟨w.heap.size,2,none⟩=some (.slice A2 x.notes.length k2)∧w'.cell? ⟨w.heap.size,3,none⟩=some (.slice A3 x.given.length k3)∧w'.cell? ⟨w.heap.size,4,none⟩=some (.slice A4 x.evil.length k4)∧w'.cell? ⟨w.heap.size,5,none⟩=some (.slice A5 x.codes.length k5)∧w'.cell? ⟨w.heap.size+1,0,none⟩=some (.slice none 0 0)∧w'.cell? ⟨w.heap.size+1,1,none⟩=some (.slice none 0 0)∧w'.cell? ⟨w.heap.size+1,2,none⟩=some (.slice none 0 0)∧w'.cell? ⟨w.heap.size+1,3,none⟩=some (.int .i64 0)∧w'.cell? ⟨w.heap.size+1,4,none⟩=some (.int .i64 0)∧w'.cell? ⟨w.heap.size+1,5,none⟩=some (.string ⟨#[]⟩)∧w'.cell? ⟨w.heap.size+1,6,none⟩=some (.string ⟨#[]⟩)∧w'.cell? ⟨w.heap.size+1,7,none⟩=some (.int .i64 0)∧w'.cell? ⟨w.heap.size+1,8,none⟩=some (.slice none 0 0)∧w'.cell? ⟨w.heap.size+1,9,none⟩=some (.slice none 0 0)∧w'.cell? ⟨w.heap.size+1,10,none⟩=some (.slice none 0 0)∧w'.cell? ⟨w.heap.size+1,11,none⟩=some (.slice none 0 0)∧∀ o,w'.frozen? ⟨w.heap.size+1,o,none⟩=false))
 clear hWs hBW x0 x1 x2 x3 x4 x5 z0 z1 z2 z3 z4 z5 z6 z7 z8 z9 z10 z11 zf
 refine (HAS.out _ HBW.out).mono ?_
 rintro e1 w1 ⟨rfl,hb1⟩
 have HB1:=zd hb1
 obtain ⟨x0,x1,x2,x3,x4,x5,z0,z1,z2,z3,z4,z5,z6,z7,z8,z9,z10,z11,zf⟩:=HALL.out w1 HB1.out
 have hl1:W.heap.size≤w1.heap.size:=hb1.size
 clear hb1
 by_cases c0:code=0
 rotate_left
 ·have HE:=zd (HR1.out c0)
  have hq:(code != 0)=true:=by simp [bne,c0]
  go_wp2
  refine bodyPost_ret (v:=.tuple #[.agg #[.slice none 0 0,.slice none 0 0,.slice none 0 0,.int .i64 0,.int .i64 0,.string ⟨#[]⟩,.string ⟨#[]⟩,.int .i64 0,.slice none 0 0,.slice none 0 0,.slice none 0 0,.slice none 0 0],.int .i64 code]) (by simp [results,Tryz.results47,go_sem, *]) rfl ?_
  exact RsRes.zero HE.out (setW_below (w':=w1) (r:=w.heap.size+1) (Nat.le_add_right _ 1) [.slice none 0 0,.slice none 0 0,.slice none 0 0,.int .i64 0,.int .i64 0,.string ⟨#[]⟩,.string ⟨#[]⟩,.int .i64 0,.slice none 0 0,.slice none 0 0,.slice none 0 0,.slice none 0 0] 0 (HBW.out.trans (HB1.out.mono HBW.out.size)))
 subst c0
 obtain ⟨k,hkl,hhk,hnk,hep1,hep2⟩:=HA0.out rfl
 have HRH:=zd (HR2.out k hhk rfl hkl)
 obtain ⟨ev,hev0⟩:∃ ev:Nat,ep=(ev:Int):=⟨ep.toNat,zz13⟩
 subst hev0
 obtain ⟨m,hm⟩:∃ m,ev=m+1:=⟨ev - 1,zz13⟩
 have HMM:=zd hm
 clear hm
 subst hhk
 have hzh:=sz_get hkl hml
 obtain ⟨bh,oh,cc,TH,rfl,hlh,ha,hrd, -, -⟩:=Row.at_ r0 hkl
 replace ha:=ha.keep ((HBW.out.trans (HB1.out.mono HBW.out.size)).block bh hlh)
 obtain ⟨h,hh_⟩:∃ h,x.houses[k]=h:=⟨_,rfl⟩
 rw [hh_] at hrd HRH
 simp only [hh_] at hep2 hzh
 clear hh_
 have HCM:=zd (fun W (h':Below w.heap.size w W) => spec_l20Form W h cc TH (Lay.later hrd h') (by have h9:=hzh; have h8:Mk.sz h=h.sz:=rfl; rw [h8] at h9; simp only [House.sz] at h9; have:=szT_le h.servers 0; omega))
 have HSZ:Hid (h.sz≤1048576):=zd hzh
 obtain ⟨H0,g0,T0,H1,g1,T1,H2,g2,T2,H3,g3,T3,H4,g4,T4,H5,g5,T5,H6,g6,T6,H7,g7,T7,H8,g8,T8,rfl, -, -, -, -, -, -, -, -, -, -, -, -, -,rs, -, -, -, -, -, -, -, -, -, -, -, -, -, -, -,rv, -⟩:=House.open hrd
 clear hrd hzh HR1 HR2 HA0 HAS
 rw [show Lay.n House=14 from rfl] at ha
 have e0:=ha 0 _ rfl
 have e1:=ha 1 _ rfl
 have e2:=ha 2 _ rfl
 have e3:=ha 3 _ rfl
 have e4:=ha 4 _ rfl
 have e5:=ha 5 _ rfl
 have e6:=ha 6 _ rfl
 have e7:=ha 7 _ rfl
 have e8:=ha 8 _ rfl
 have e9:=ha 9 _ rfl
 have e10:=ha 10 _ rfl
 have e11:=ha 11 _ rfl
 have e12:=ha 12 _ rfl
 have e13:=ha 13 _ rfl
 simp only [Nat.add_zero] at e0
 clear ha
 simp only [House.cs] at HCM
 have hlh1:bh<w1.heap.size:=Nat.lt_of_lt_of_le hlh (HBW.out.trans (HB1.out.mono HBW.out.size)).size
 have hlx1:w.heap.size<w1.heap.size:=zz13
 have hki:(k:Int)<(x.houses.length:Int):=zz13
 have hk0:(0:Int)≤(k:Int):=zz13
 have hVd:∀ V,V=w1.alloc (.cells #[.int .i64 h.coord.house,.int .i64 h.coord.k,.bool h.coord.up,.slice H0 h.coord.disk.files.length g0,.slice H1 h.coord.pool.length g1,.slice H2 h.coord.seals.length g2,.slice H3 h.coord.tries.length g3,.int .i64 h.coord.try_,.bool h.coord.asking,.slice H4 h.coord.votes.length g4,.slice H5 h.coord.dones.length g5,.slice H6 h.servers.length g6,.slice H7 h.net.length g7,.slice H8 h.codes.length g8] 205)→Below w1.heap.size w1 V∧w1.heap.size<V.heap.size∧V.cell? ⟨w1.heap.size,1,none⟩=some (.int .i64 h.coord.k)∧V.cell? ⟨w1.heap.size,5,none⟩=some (.slice H2 h.coord.seals.length g2)∧V.cell? ⟨w1.heap.size,11,none⟩=some (.slice H6 h.servers.length g6):=by
  rintro V rfl
  exact ⟨(Below.refl _ _).alloc (Nat.le_refl _) _,zz30,ya1 _ _ _ _ _ rfl,ya1 _ _ _ _ _ rfl,ya1 _ _ _ _ _ rfl⟩
 have HRO:=zd rs
 have HRV:=zd rv
 clear rs rv
 go_wp2_with (fail)
 obtain ⟨V,hV⟩:∃ V,w1.alloc (.cells #[.int .i64 h.coord.house,.int .i64 h.coord.k,.bool h.coord.up,.slice H0 h.coord.disk.files.length g0,.slice H1 h.coord.pool.length g1,.slice H2 h.coord.seals.length g2,.slice H3 h.coord.tries.length g3,.int .i64 h.coord.try_,.bool h.coord.asking,.slice H4 h.coord.votes.length g4,.slice H5 h.coord.dones.length g5,.slice H6 h.servers.length g6,.slice H7 h.net.length g7,.slice H8 h.codes.length g8] 205)=V:=⟨_,rfl⟩
 rw [hV]
 obtain ⟨hBV,hVs,v1,v5,v11⟩:=hVd V hV.symm
 clear hV hVd e0 e1 e2 e3 e4 e5 e6 e7 e8 e9 e10 e11 e12 e13 x0 x1 x2 x3 x4 x5 z0 z1 z2 z3 z4 z5 z6 z7 z8 z9 z10 z11 zf
 have HWV:=zd (HB1.out.trans (hBV.mono hl1))
 refine (HCM.out _ (HBW.out.trans (HWV.out.mono HBW.out.size))).mono ?_
 rintro e2 w2 ⟨rfl,hb2⟩
 have HB2:=zd (HWV.out.trans (hb2.mono HWV.out.size))
 have HB02:=zd (HBW.out.trans (HB2.out.mono HBW.out.size))
 have HVC0:=zd (⟨(hb2.cell (p:=⟨w1.heap.size,1,none⟩) hVs).trans v1,(hb2.cell (p:=⟨w1.heap.size,5,none⟩) hVs).trans v5,(hb2.cell (p:=⟨w1.heap.size,11,none⟩) hVs).trans v11⟩:w2.cell? ⟨w1.heap.size,1,none⟩=some (.int .i64 h.coord.k)∧w2.cell? ⟨w1.heap.size,5,none⟩=some (.slice H2 h.coord.seals.length g2)∧w2.cell? ⟨w1.heap.size,11,none⟩=some (.slice H6 h.servers.length g6))
 have hw2:w1.heap.size<w2.heap.size:=Nat.lt_of_lt_of_le hVs hb2.size
 have HVC:=zd (fun (w':World) (h':Below w2.heap.size w2 w') => (⟨(h'.cell (p:=⟨w1.heap.size,1,none⟩) hw2).trans HVC0.out.1,(h'.cell (p:=⟨w1.heap.size,5,none⟩) hw2).trans HVC0.out.2.1,(h'.cell (p:=⟨w1.heap.size,11,none⟩) hw2).trans HVC0.out.2.2⟩:w'.cell? ⟨w1.heap.size,1,none⟩=some (.int .i64 h.coord.k)∧w'.cell? ⟨w1.heap.size,5,none⟩=some (.slice H2 h.coord.seals.length g2)∧w'.cell? ⟨w1.heap.size,11,none⟩=some (.slice H6 h.servers.length g6)))
 have hlx2:w.heap.size+1<w2.heap.size:=zz13
 clear hBV hVs v1 v5 v11 hb2 HVC0
 cases hcm:canMv h
 ·have HE:Hid (R=(wzero,4)):=zd (by rw [HRH.out]; exact resH_no hcm)
  clear hcm
  obtain ⟨x0,x1,x2,x3,x4,x5,z0,z1,z2,z3,z4,z5,z6,z7,z8,z9,z10,z11,zf⟩:=HALL.out w2 HB2.out
  clear x0 x1 x2 x3 x4 x5
  go_wp2
  refine bodyPost_ret (v:=.tuple #[.agg #[.slice none 0 0,.slice none 0 0,.slice none 0 0,.int .i64 0,.int .i64 0,.string ⟨#[]⟩,.string ⟨#[]⟩,.int .i64 0,.slice none 0 0,.slice none 0 0,.slice none 0 0,.slice none 0 0],.int .i64 4]) (by simp [results,Tryz.results47,go_sem, *]) rfl ?_
  exact RsRes.zero HE.out (setW_below (w':=w2) (r:=w.heap.size+1) (Nat.le_add_right _ 1) [.slice none 0 0,.slice none 0 0,.slice none 0 0,.int .i64 0,.int .i64 0,.string ⟨#[]⟩,.string ⟨#[]⟩,.int .i64 0,.slice none 0 0,.slice none 0 0,.slice none 0 0,.slice none 0 0] 0 HB02.out)
 have HCV:=zd hcm
 obtain ⟨q,hq,hql⟩:=canMv_shard hcm name
 have HQ:=zd hq
 have HRB:=zd (fun (i:Nat) (hi:i<h.servers.length) hb => (HRH.out.trans (resH_bad (x:=x) (house:=(k:Int)) (name:=name) (ep:=(ev:Int)) (h:=h) HCV.out hi hb):R=(wzero,4)))
 have HRA:=zd (fun ha (hml:m<h.coord.seals.length) => (HRH.out.trans (resH_at (x:=x) (house:=(k:Int)) (name:=name) (ep:=(ev:Int)) (h:=h) HCV.out ha HQ.out hql (by have:=HMM.out; omega) hml):R=resolveS x k name ev h h.servers[q] h.coord.seals[m]))
 clear hcm hq HRH HCM
 obtain ⟨v1,v5,v11⟩:=HVC.out w2 (Below.refl _ _)
 go_wp2_with (fail)
 go_loopw [12,13] (fun rt it wr => ∃ (i:Nat) (A:Option Addr) (c:Nat),i≤h.servers.length∧it = .int .i64 i∧rt = .slice A i c∧Hid (∀ j (hj:j<h.servers.length),j<i→viewBad ev h.servers[j]=false)∧Own w2 wr A c ((h.servers.take i).map (shRoot ev))) (fun _ it _ => h.servers.length - (intOf it).toNat)
 case atStart => exact ⟨0,some ⟨w2.heap.size,0,none⟩,0,Nat.zero_le _,rfl,rfl,zd (fun j _ hj => absurd hj (Nat.not_lt_zero _)),Own.lit (Below.refl _ _) 9 rfl⟩
 case round =>
  clear v1 v5 v11
  obtain ⟨i,A,c,hi,rfl,rfl,HNB,hown⟩:=hrel
  have hb:=hown.bl
  have HOW:=zd hown
  have HBr:=zd (HB2.out.trans (hb.mono HB2.out.size))
  have HBw:=zd (HBW.out.trans (HBr.out.mono HBW.out.size))
  obtain ⟨v1,v5,v11⟩:=HVC.out wr hb
  have hwl:=hb.size
  clear hown
  by_cases hlt:i<h.servers.length
  ·obtain ⟨b1,o1,cc1,TS,rfl,hlb,ha,hr, -, -⟩:=Row.at_ HRV.out hlt
   replace ha:=ha.keep (HBw.out.block b1 hlb)
   have HSN:=zd (roots_snoc (ep:=(ev:Int)) hlt)
   have HBD:=zd (fun hb => HRB.out i hlt hb)
   have HNB2:=zd (fun (h0:viewBad ev h.servers[i]=false) j (hj:j<h.servers.length) (hj2:j<i+1) => (show viewBad ev h.servers[j]=false by
    rcases Nat.lt_succ_iff_lt_or_eq.1 hj2 with h1 | h1
    ·exact HNB.out j hj h1
    ·subst h1; exact h0))
   have hzs:=sz_get hlt (show szL h.servers≤1048576 from servers_sz HSZ.out)
   obtain ⟨s,hs_⟩:∃ s,h.servers[i]=s:=⟨_,rfl⟩
   rw [hs_] at hr HSN HBD HNB2
   simp only [hs_] at hzs
   clear hs_
   obtain ⟨D0,d0,U0,D1,d1,U1,D2,d2,U2,D3,d3,U3,rfl,fat,fk,fe, -, -, -, -, -, -, -, -, -,rw_, -⟩:=Server.open hr
   clear hr
   rw [show Lay.n Server=11 from rfl] at ha
   have e0:=ha 0 _ rfl
   have e1:=ha 1 _ rfl
   have e2:=ha 2 _ rfl
   have e3:=ha 3 _ rfl
   have e4:=ha 4 _ rfl
   have e5:=ha 5 _ rfl
   have e6:=ha 6 _ rfl
   have e7:=ha 7 _ rfl
   have e8:=ha 8 _ rfl
   have e9:=ha 9 _ rfl
   have e10:=ha 10 _ rfl
   simp only [Nat.add_zero] at e0
   clear ha
   have hlb1:b1<wr.heap.size:=Nat.lt_of_lt_of_le hlb HBw.out.size
   have hlx:w.heap.size+1<wr.heap.size:=by have:=hwl; omega
   have hlh2:w1.heap.size<wr.heap.size:=by have:=hwl; omega
   have hii:(i:Int)<(h.servers.length:Int):=zz13
   have hi0:(0:Int)≤(i:Int):=zz13
   have HVB:Hid (viewBad ev s=(!s.up || decide ((s.views.length:Int)≤(ev:Int)))):=zd rfl
   obtain ⟨u,hu⟩:∃ u,s.up=u:=⟨_,rfl⟩
   rw [hu] at HVB e2
   have HFA:=zd fat
   have HFK:=zd fk
   have HRW:=zd rw_
   have HZS:=zd (server_views hzs)
   clear hu hb fat fk fe rw_ hzs
   cases u
   ·have HE:=zd (HBD.out (by rw [HVB.out]; rfl))
    obtain ⟨x0,x1,x2,x3,x4,x5,z0,z1,z2,z3,z4,z5,z6,z7,z8,z9,z10,z11,zf⟩:=HALL.out wr HBr.out
    clear x0 x1 x2 x3 x4 x5
    go_wp2
    refine bodyPost_ret (v:=.tuple #[.agg #[.slice none 0 0,.slice none 0 0,.slice none 0 0,.int .i64 0,.int .i64 0,.string ⟨#[]⟩,.string ⟨#[]⟩,.int .i64 0,.slice none 0 0,.slice none 0 0,.slice none 0 0,.slice none 0 0],.int .i64 4]) (by simp [results,Tryz.results47,go_sem, *]) rfl ?_
    have hb9:=setW_below (w':=wr) (r:=w.heap.size+1) (Nat.le_add_right _ 1) [.slice none 0 0,.slice none 0 0,.slice none 0 0,.int .i64 0,.int .i64 0,.string ⟨#[]⟩,.string ⟨#[]⟩,.int .i64 0,.slice none 0 0,.slice none 0 0,.slice none 0 0,.slice none 0 0] 0 HBw.out
    exact RsRes.zero HE.out (hb9.alloc hb9.size _)
   by_cases hvl:(s.views.length:Int)≤(ev:Int)
   ·have HE:=zd (HBD.out (by rw [HVB.out,decide_eq_true hvl]; rfl))
    have hwl:IntKind.i64.wrap ((s.views.length:Int) - 1)=(s.views.length:Int) - 1:=by have h8:=szT_le s.views 0; have h9:=HZS.out; exact IntWalk.i64_in _ zz13
    have HIN:=zd (fun W => spec_in (ev:Int) 0 ((s.views.length:Int) - 1) W)
    rw [show inB (ev:Int) 0 ((s.views.length:Int) - 1)=false by simp [inB]; omega] at HIN
    clear hvl
    obtain ⟨x0,x1,x2,x3,x4,x5,z0,z1,z2,z3,z4,z5,z6,z7,z8,z9,z10,z11,zf⟩:=HALL.out wr HBr.out
    clear x0 x1 x2 x3 x4 x5
    go_wp2_with (first | (go_at_call 62; refine (HIN.out _).mono ?_; rintro e9 w9 ⟨rfl,rfl⟩))
    refine bodyPost_ret (v:=.tuple #[.agg #[.slice none 0 0,.slice none 0 0,.slice none 0 0,.int .i64 0,.int .i64 0,.string ⟨#[]⟩,.string ⟨#[]⟩,.int .i64 0,.slice none 0 0,.slice none 0 0,.slice none 0 0,.slice none 0 0],.int .i64 4]) (by simp [results,Tryz.results47,go_sem, *]) rfl ?_
    have hb9:=setW_below (w':=wr) (r:=w.heap.size+1) (Nat.le_add_right _ 1) [.slice none 0 0,.slice none 0 0,.slice none 0 0,.int .i64 0,.int .i64 0,.string ⟨#[]⟩,.string ⟨#[]⟩,.int .i64 0,.slice none 0 0,.slice none 0 0,.slice none 0 0,.slice none 0 0] 0 HBw.out
    exact RsRes.zero HE.out (hb9.alloc hb9.size _)
   have HNB3:=zd (HNB2.out (by rw [HVB.out,decide_eq_false hvl]; rfl))
   have hwl:IntKind.i64.wrap ((s.views.length:Int) - 1)=(s.views.length:Int) - 1:=by have h8:=szT_le s.views 0; have h9:=HZS.out; exact IntWalk.i64_in _ zz13
   have HIN:=zd (fun W => spec_in (ev:Int) 0 ((s.views.length:Int) - 1) W)
   rw [show inB (ev:Int) 0 ((s.views.length:Int) - 1)=true by simp [inB]; omega] at HIN
   have hevl:ev<s.views.length:=zz13
   have hevi:(ev:Int)<(s.views.length:Int):=zz13
   have hev0:(0:Int)≤(ev:Int):=zz13
   clear hvl HNB HNB2 HBD HVB
   go_wp2_with (first | (go_at_call 62; refine (HIN.out _).mono ?_; rintro e9 w9 ⟨rfl,rfl⟩))
   obtain ⟨V2,hV2⟩:∃ V2,wr.alloc (.cells #[.int .i64 s.at_,.int .i64 s.k,.bool true,.slice D0 s.disk.files.length d0,.int .i64 s.epoch,.slice D1 s.views.length d1,.slice D2 s.taken.length d2,.slice D3 s.all.length d3,.int .i64 s.ready.epoch,.int .i64 s.ready.try_,.int .i64 s.ready.take] 46)=V2:=⟨_,rfl⟩
   rw [hV2]
   have hbV:Below wr.heap.size wr V2:=by rw [← hV2]; exact (Below.refl _ _).alloc (Nat.le_refl _) _
   have hsV:V2.heap.size=wr.heap.size+1:=by rw [← hV2]; simp
   have s0:V2.cell? ⟨wr.heap.size,0,none⟩=some (.int .i64 s.at_):=by rw [← hV2]; exact ya1 _ _ _ _ _ rfl
   have s1:V2.cell? ⟨wr.heap.size,1,none⟩=some (.int .i64 s.k):=by rw [← hV2]; exact ya1 _ _ _ _ _ rfl
   have s5:V2.cell? ⟨wr.heap.size,5,none⟩=some (.slice D1 s.views.length d1):=by rw [← hV2]; exact ya1 _ _ _ _ _ rfl
   clear hV2 e0 e1 e2 e3 e4 e5 e6 e7 e8 e9 e10
   obtain ⟨b2,o2,cc2,TV,rfl,hl2,ha2,hr2, -, -⟩:=Row.at_ HRW.out hevl
   obtain ⟨AL,kL,rfl,lL,mL,rL⟩:=open_list hr2
   have q0:=ha2 0 _ rfl
   simp only [show Lay.n (List Leaf)=1 from rfl,Nat.mul_one,Nat.add_zero] at q0
   clear ha2 hr2
   obtain ⟨hzl,hll⟩:=views_at hevl HZS.out
   have HRV2:=zd (shRoot_at (s:=s) hevl)
   have hrm:(shRoot (ev:Int) s).size≤maxLen:=by have:=shRoot_le (ev:Int) s; unfold maxLen; omega
   obtain ⟨xs,hxs⟩:∃ xs,s.views[ev]=xs:=⟨_,rfl⟩
   rw [hxs] at HRV2 rL
   simp only [hxs] at q0 hzl hll
   clear hxs lL mL
   have HSR:=zd (fun W' (h':Below wr.heap.size wr W') => spec_ShardRoot W' xs AL kL TV (Row.later rL (HBw.out.trans (h'.mono HBw.out.size))) hll hzl s.k s.at_)
   rw [HRV2.out] at HSN hrm
   obtain ⟨rt,hrt⟩:∃ r,shardRoot xs s.k s.at_ 16=r:=⟨_,rfl⟩
   rw [hrt] at HSR HSN hrm
   clear hrt HRV2 HRW HZS HFA HFK rL hzl hll
   have HNL:Hid (i=((h.servers.take i).map (shRoot (ev:Int))).length):=zd zz46
   have q1:=(HBw.out.trans (hbV.mono HBw.out.size)).cell (p:=⟨b2,o2+ev,none⟩) hl2 |>.trans q0
   have hlw2:w.heap.size<w2.heap.size:=zz13
   have hsl:h.servers.length≤1048576:=by have h8:=servers_sz HSZ.out; have h9:=szT_le h.servers 0; omega
   have HM:=zd (fun (w':World) (hc:Chg (rng w2.heap.size wr.heap.size) V2 w') => (⟨(hc.cell (b:=wr.heap.size) (o:=0) zz13 (fun h => by unfold rng at h; omega)).trans s0,(hc.cell (b:=wr.heap.size) (o:=1) zz13 (fun h => by unfold rng at h; omega)).trans s1,(hc.cell (b:=wr.heap.size) (o:=5) zz13 (fun h => by unfold rng at h; omega)).trans s5,(hc.cell (b:=b2) (o:=o2+ev) zz13 (fun h => by unfold rng at h; omega)).trans q1,hc⟩:w'.cell? ⟨wr.heap.size,0,none⟩=some (.int .i64 s.at_)∧w'.cell? ⟨wr.heap.size,1,none⟩=some (.int .i64 s.k)∧w'.cell? ⟨wr.heap.size,5,none⟩=some (.slice (some ⟨b2,o2,none⟩) s.views.length d1)∧w'.cell? ⟨b2,o2+ev,none⟩=some (.slice AL xs.length kL)∧Chg (rng w2.heap.size wr.heap.size) V2 w'))
   have hB:=hbV
   have hC:=Chg.refl (rng w2.heap.size wr.heap.size) V2
   clear q0 q1 s0 s1 s5 hbV v1 v5 v11
   go_region_held3 (fun w' => w'.cell? ⟨wr.heap.size,0,none⟩=some (.int .i64 s.at_)∧w'.cell? ⟨wr.heap.size,1,none⟩=some (.int .i64 s.k)∧w'.cell? ⟨wr.heap.size,5,none⟩=some (.slice (some ⟨b2,o2,none⟩) s.views.length d1)∧w'.cell? ⟨b2,o2+ev,none⟩=some (.slice AL xs.length kL)∧Chg (rng w2.heap.size wr.heap.size) V2 w')
    (first | exact HM.out _ (by (repeat (first | with_reducible exact hC | with_reducible apply Chg.drew | with_reducible refine Chg.alloc ?_ _))))
    (first | (go_at_call 126; with_reducible refine (HSR.out _ ?_).mono ?_; (exact (by have zh:=hB; exact zz10)); rintro e5 w5 ⟨rfl,hb5⟩; have hC:=Chg.step (by (repeat (first | with_reducible exact hC | with_reducible apply Chg.drew | with_reducible refine Chg.alloc ?_ _))) hb5; have hB:=Below.step (a:=wr) (by have zh:=hB; exact zz10) hb5; have hs5:=hB.size) | (refine step_pushC (α:=ByteArray) (w0:=w2) (w1:=wr) (ys:=[rt]) rfl _ _ rfl rfl HNL.out HOW.out ?hb rfl rfl ?src ?om ?_; (case src => exact src1 hrm rfl rfl); (case hb => exact (by have zh:=hB; exact zz10)); (case om => show i+1≤4000000000; omega); intro A6 c6 w6 o6 hE; have hC:Chg (rng w2.heap.size wr.heap.size) V2 w6:=Chg.trans (Chg.alloc hC _) hE))
   go_wp2
   go_roundw
   case rel => exact ⟨i+1,A6,c6,hlt,by go_num,rfl,HNB3,by rw [HSN.out]; exact o6⟩
   case measure => simp [intOf]; omega
  ·have hie:i=h.servers.length:=by omega
   subst hie
   have HEV:Hid (ev=m+1):=HMM
   have HOW2:Hid (Own w2 wr A c (h.servers.map (shRoot (ev:Int)))):=zd (by have h9:=HOW.out; rw [List.take_length] at h9; exact h9)
   have hml:m<h.coord.seals.length:=by have:=HMM.out; omega
   have hslr:h.servers.length≤1048576:=by have h8:=servers_sz HSZ.out; have h9:=szT_le h.servers 0; omega
   have HRS:=zd (HRA.out (fun j hj => HNB.out j hj hj) hml)
   have HSH:=zd (fun W (h':Below w.heap.size w W) => spec_ShardOf W name hn h.coord.k)
   rw [HQ.out] at HSH
   have HNO:=zd (fun p b l c h1 h2 hb => HRS.out.trans (resS_no (x:=x) (house:=(k:Int)) (name:=name) (ep:=(ev:Int)) (h:=h) (s:=h.servers[q]'hql) (sl:=h.coord.seals[m]'hml) (p:=p) (b:=b) (c:=c) (l:=l) h1 HQ.out h2 hb))
   have HYE:=zd (fun p b l c h1 h2 hb => HRS.out.trans (resS_yes (x:=x) (house:=(k:Int)) (name:=name) (ep:=(ev:Int)) (h:=h) (s:=h.servers[q]'hql) (sl:=h.coord.seals[m]'hml) (p:=p) (b:=b) (c:=c) (l:=l) h1 HQ.out h2 hb))
   have HCS:=zd (fun W' (h':Below wr.heap.size wr W') => spec_CombineSides W' (h.servers.map (shRoot (ev:Int))) A c _ (Row.later HOW2.out.weak h') (by rw [List.length_map]; exact hslr) (q:Int))
   simp only [List.length_map] at HCS
   obtain ⟨CT,hCT⟩:∃ C,combineSides (h.servers.map (shRoot (ev:Int))) (q:Int) 16=C:=⟨_,rfl⟩
   rw [hCT] at HCS
   simp only [hCT] at HNO HYE
   obtain ⟨tp,cb⟩:=CT
   (try simp only at HCS)
   obtain ⟨bq,oq,cq,TQ,rfl,hlq,haq,hrq, -, -⟩:=Row.at_ HRV.out hql
   have hzq:=sz_get hql (servers_sz HSZ.out)
   obtain ⟨bs,os,csl,TL,rfl,hls,has_,hrs, -, -⟩:=Row.at_ HRO.out hml
   have hzl:=sz_get hml (show szL h.coord.seals≤1048576 by have h9:=HSZ.out; simp only [House.sz,Coord.sz] at h9; omega)
   obtain ⟨sq,hsq⟩:∃ s,h.servers[q]=s:=⟨_,rfl⟩
   rw [hsq] at hrq hzq
   simp only [hsq] at HNO HYE
   obtain ⟨sl,hsl⟩:∃ s,h.coord.seals[m]=s:=⟨_,rfl⟩
   rw [hsl] at hrs
   simp only [hsl] at HYE hzl
   clear hsq hsl hCT
   have HLS:=zd (fun W (h':Below w.heap.size w W) => spec_LookServer W sq cq TQ (Lay.later hrq h') hzq (ev:Int) he name hn)
   obtain ⟨LP,hLP⟩:∃ C,lookServer sq (ev:Int) name=C:=⟨_,rfl⟩
   rw [hLP] at HLS
   simp only [hLP] at HNO HYE
   obtain ⟨pf,pb⟩:=LP
   (try simp only at HLS)
   clear hLP
   have HNO2:Hid ((pb && cb)=false→R=(wzero,4)):=zd (fun hb => HNO.out pf pb tp cb rfl rfl hb)
   have HYE2:Hid ((pb && cb)=true→R=(⟨pf,tp,sl,stampsOf x k ev⟩,0)):=zd (fun hb => HYE.out pf pb tp cb rfl rfl hb)
   obtain ⟨l0,l1,l2⟩:=seal_lens hzl
   have HCP:=zd (fun W (h':Below w.heap.size w W) => spec_l14Copy W sl csl TL (Lay.later hrs h') l0 l1 l2)
   obtain ⟨D0,d0,U0,D1,d1,U1,D2,d2,U2,D3,d3,U3,rfl, -⟩:=Server.open hrq
   obtain ⟨G0,j0,W0,G1,j1,W1,G2,j2,W2,rfl, -⟩:=Seal.open hrs
   simp only [Server.cs] at HLS haq
   simp only [Seal.cs] at HCP has_
   rw [show Lay.n Server=11 from rfl] at haq
   rw [show Lay.n Seal=8 from rfl] at has_
   have hwn:IntKind.i64.wrap ((ev:Int) - 1)=(m:Int):=by have h8:=HMM.out; have h9:=he; unfold I64 at h9; rw [IntWalk.i64_in] <;> omega
   have hqi:(q:Int)<(h.servers.length:Int):=zz13
   have hq0:(0:Int)≤(q:Int):=zz13
   have hmi:(m:Int)<(h.coord.seals.length:Int):=zz13
   have hm0:(0:Int)≤(m:Int):=zz13
   clear hrq hrs HNO HYE HRA HRB HNB hzq l0 l1 l2 HRS hb
   go_wp2_with (fail)
   refine (HSH.out wr HBw.out).mono ?_
   rintro e5 w5 ⟨rfl,hb5⟩
   have HB5:=zd hb5
   have HB5w:=zd (HBw.out.trans (hb5.mono HBw.out.size))
   replace haq:=haq.keep (HB5w.out.block bq hlq)
   have e0:=haq 0 _ rfl
   have e1:=haq 1 _ rfl
   have e2:=haq 2 _ rfl
   have e3:=haq 3 _ rfl
   have e4:=haq 4 _ rfl
   have e5:=haq 5 _ rfl
   have e6:=haq 6 _ rfl
   have e7:=haq 7 _ rfl
   have e8:=haq 8 _ rfl
   have e9:=haq 9 _ rfl
   have e10:=haq 10 _ rfl
   simp only [Nat.add_zero] at e0
   clear haq v1 v5 v11 hb5
   obtain ⟨v1,v5,v11⟩:=HVC.out w5 (HOW2.out.bl.trans (HB5.out.mono HOW2.out.bl.size))
   have hlq5:bq<w5.heap.size:=Nat.lt_of_lt_of_le hlq HB5w.out.size
   have hls5:w1.heap.size<w5.heap.size:=by have:=HB5.out.size; have:=HOW2.out.bl.size; omega
   go_wp2_with (fail)
   refine (HLS.out w5 HB5w.out).mono ?_
   rintro e6 w6 ⟨cp,rfl,hp6,hb6⟩
   obtain ⟨P0,n0,T0,P1,n1,T1,rfl, -⟩:=Proof.open hp6
   simp only [Proof.cs]
   have HP6:=zd hp6
   have HB6:=zd (HB5.out.trans (hb6.mono HB5.out.size))
   have hs6:=hb6.size
   clear hp6 hb6 e0 e1 e2 e3 e4 e5 e6 e7 e8 e9 e10 v1 v5 v11
   go_wp2_with (fail)
   obtain ⟨V6,hV6⟩:∃ V,w6.alloc (.cells #[.slice P0 pf.bucket.length n0,.slice P1 pf.sides.length n1] 36)=V:=⟨_,rfl⟩
   rw [hV6]
   have hV6f:Below w6.heap.size w6 V6∧V6.heap.size=w6.heap.size+1∧V6.cell? ⟨w6.heap.size,0,none⟩=some (.slice P0 pf.bucket.length n0)∧V6.cell? ⟨w6.heap.size,1,none⟩=some (.slice P1 pf.sides.length n1):=by
    rw [← hV6]; exact ⟨(Below.refl _ _).alloc (Nat.le_refl _) _,zz30,ya1 _ _ _ _ _ rfl,ya1 _ _ _ _ _ rfl⟩
   clear hV6
   obtain ⟨hbV6,hsV6,q0,q1⟩:=hV6f
   have HBV6:=zd hbV6
   have HQ01:=zd (And.intro q0 q1)
   clear hbV6 q0 q1
   refine (HCS.out V6 (HB6.out.trans (HBV6.out.mono HB6.out.size))).mono ?_
   rintro e7 w7 ⟨AT,kT,rfl,oT⟩
   have HOT:=zd oT
   have hs7:=oT.bl.size
   have HB7r:=zd ((HB6.out.trans (HBV6.out.mono HB6.out.size)).trans (oT.bl.mono (by have:=HB6.out.size; omega)))
   have HB7:=zd (HBr.out.trans (HB7r.out.mono HBr.out.size))
   have HB7w:=zd (HBw.out.trans (HB7r.out.mono HBw.out.size))
   clear oT
   obtain ⟨x0,x1,x2,x3,x4,x5,z0,z1,z2,z3,z4,z5,z6,z7,z8,z9,z10,z11,zf⟩:=HALL.out w7 HB7.out
   clear x0 x1 x2 x3 x4 x5
   cases hpc:(pb && cb)
   ·have HE:=zd (HNO2.out hpc)
    cases pb <;> cases cb <;> first | (exfalso; revert hpc; decide) | skip
    all_goals (
     clear hpc
     go_wp2
     refine bodyPost_ret (v:=.tuple #[.agg #[.slice none 0 0,.slice none 0 0,.slice none 0 0,.int .i64 0,.int .i64 0,.string ⟨#[]⟩,.string ⟨#[]⟩,.int .i64 0,.slice none 0 0,.slice none 0 0,.slice none 0 0,.slice none 0 0],.int .i64 4]) (by simp [results,Tryz.results47,go_sem, *]) rfl ?_
     exact RsRes.zero HE.out (setW_below (w':=w7) (r:=w.heap.size+1) (Nat.le_add_right _ 1) [.slice none 0 0,.slice none 0 0,.slice none 0 0,.int .i64 0,.int .i64 0,.string ⟨#[]⟩,.string ⟨#[]⟩,.int .i64 0,.slice none 0 0,.slice none 0 0,.slice none 0 0,.slice none 0 0] 0 HB7w.out)
    )
   have HE:=zd (HYE2.out hpc)
   have hpt:pb=true∧cb=true:=by simpa using hpc
   obtain ⟨rfl,rfl⟩:=hpt
   clear hpc HNO2 HYE2
   have HXW:=zd (HALL.out w7 HB7.out)
   obtain ⟨x0,x1,x2,x3,x4,x5,z0,z1,z2,z3,z4,z5,z6,z7,z8,z9,z10,z11, -⟩:=HXW.out
   obtain ⟨-,v5, -⟩:=HVC.out w7 (HOW2.out.bl.trans (HB7r.out.mono HOW2.out.bl.size))
   have p0:=(HOT.out.bl.cell (p:=⟨w6.heap.size,0,none⟩) (by show w6.heap.size<_; omega)).trans HQ01.out.1
   have p1:=(HOT.out.bl.cell (p:=⟨w6.heap.size,1,none⟩) (by show w6.heap.size<_; omega)).trans HQ01.out.2
   replace has_:=has_.keep (HB7w.out.block bs hls)
   have s0:=has_ 0 _ rfl
   have s1:=has_ 1 _ rfl
   have s2:=has_ 2 _ rfl
   have s3:=has_ 3 _ rfl
   have s4:=has_ 4 _ rfl
   have s5:=has_ 5 _ rfl
   have s6:=has_ 6 _ rfl
   have s7:=has_ 7 _ rfl
   simp only [Nat.add_zero] at s0
   clear has_
   have hlx7:w.heap.size+1<w7.heap.size:=by have:=HB7w.out.size; have:=HBW.out.size; omega
   have hlx70:w.heap.size<w7.heap.size:=zz13
   have hlh7:w1.heap.size<w7.heap.size:=zz13
   have hlp7:w6.heap.size<w7.heap.size:=zz13
   have hlb7:bs<w7.heap.size:=Nat.lt_of_lt_of_le hls HB7w.out.size
   have hq1:=HB6.out.size
   have hq2:=HBr.out.size
   have nRp7 : ¬ isR (w.heap.size+1) w6.heap.size:=by unfold isR; omega
   have nRx70 : ¬ isR (w.heap.size+1) w.heap.size:=by unfold isR; omega
   have nRh7 : ¬ isR (w.heap.size+1) w1.heap.size:=by unfold isR; omega
   have nRb7 : ¬ isR (w.heap.size+1) bs:=by unfold isR; omega
   have HM:=zd (fun (w':World) (h':Chg (isR (w.heap.size+1)) w7 w') => (⟨(h'.cell (b:=w6.heap.size) (o:=0) hlp7 nRp7).trans p0,(h'.cell (b:=w6.heap.size) (o:=1) hlp7 nRp7).trans p1,(h'.cell (b:=w.heap.size) (o:=0) hlx70 nRx70).trans x0,(h'.cell (b:=w.heap.size) (o:=1) hlx70 nRx70).trans x1,(h'.cell (b:=w.heap.size) (o:=2) hlx70 nRx70).trans x2,(h'.cell (b:=w.heap.size) (o:=3) hlx70 nRx70).trans x3,(h'.cell (b:=w.heap.size) (o:=4) hlx70 nRx70).trans x4,(h'.cell (b:=w.heap.size) (o:=5) hlx70 nRx70).trans x5,(h'.cell (b:=w1.heap.size) (o:=5) hlh7 nRh7).trans v5,(h'.cell (b:=bs) (o:=os+m*8) hlb7 nRb7).trans s0,(h'.cell (b:=bs) (o:=os+m*8+1) hlb7 nRb7).trans s1,(h'.cell (b:=bs) (o:=os+m*8+2) hlb7 nRb7).trans s2,(h'.cell (b:=bs) (o:=os+m*8+3) hlb7 nRb7).trans s3,(h'.cell (b:=bs) (o:=os+m*8+4) hlb7 nRb7).trans s4,(h'.cell (b:=bs) (o:=os+m*8+5) hlb7 nRb7).trans s5,(h'.cell (b:=bs) (o:=os+m*8+6) hlb7 nRb7).trans s6,(h'.cell (b:=bs) (o:=os+m*8+7) hlb7 nRb7).trans s7,h'⟩:w'.cell? ⟨w6.heap.size,0,none⟩=some (.slice P0 pf.bucket.length n0)∧w'.cell? ⟨w6.heap.size,1,none⟩=some (.slice P1 pf.sides.length n1)∧w'.cell? ⟨w.heap.size,0,none⟩=some (.slice (some ⟨bh,oh,none⟩) x.houses.length k0)∧w'.cell? ⟨w.heap.size,1,none⟩=some (.slice A1 x.auditors.length k1)∧w'.cell? ⟨w.heap.size,2,none⟩=some (.slice A2 x.notes.length k2)∧w'.cell? ⟨w.heap.size,3,none⟩=some (.slice A3 x.given.length k3)∧w'.cell? ⟨w.heap.size,4,none⟩=some (.slice A4 x.evil.length k4)∧w'.cell? ⟨w.heap.size,5,none⟩=some (.slice A5 x.codes.length k5)∧w'.cell? ⟨w1.heap.size,5,none⟩=some (.slice (some ⟨bs,os,none⟩) h.coord.seals.length g2)∧w'.cell? ⟨bs,os+m*8,none⟩=some (.int .i64 sl.head.house)∧w'.cell? ⟨bs,os+m*8+1,none⟩=some (.int .i64 sl.head.epoch)∧w'.cell? ⟨bs,os+m*8+2,none⟩=some (.string sl.head.root)∧w'.cell? ⟨bs,os+m*8+3,none⟩=some (.string sl.head.prev)∧w'.cell? ⟨bs,os+m*8+4,none⟩=some (.int .i64 sl.sig.at_)∧w'.cell? ⟨bs,os+m*8+5,none⟩=some (.slice G0 sl.sig.open_.length j0)∧w'.cell? ⟨bs,os+m*8+6,none⟩=some (.slice G1 sl.sig.shut.length j1)∧w'.cell? ⟨bs,os+m*8+7,none⟩=some (.slice G2 sl.sig.sides.length j2)∧Chg (isR (w.heap.size+1)) w7 w'))
   clear nRp7 nRx70 nRh7 nRb7 hq1 hq2
   have HZW:=zd (fun (w':World) (h':Below w7.heap.size w7 w') => (⟨(h'.cell (p:=⟨w.heap.size+1,0,none⟩) zz12).trans z0,(h'.cell (p:=⟨w.heap.size+1,1,none⟩) zz12).trans z1,(h'.cell (p:=⟨w.heap.size+1,2,none⟩) zz12).trans z2,(h'.cell (p:=⟨w.heap.size+1,3,none⟩) zz12).trans z3,(h'.cell (p:=⟨w.heap.size+1,4,none⟩) zz12).trans z4,(h'.cell (p:=⟨w.heap.size+1,5,none⟩) zz12).trans z5,(h'.cell (p:=⟨w.heap.size+1,6,none⟩) zz12).trans z6,(h'.cell (p:=⟨w.heap.size+1,7,none⟩) zz12).trans z7,(h'.cell (p:=⟨w.heap.size+1,8,none⟩) zz12).trans z8,(h'.cell (p:=⟨w.heap.size+1,9,none⟩) zz12).trans z9,(h'.cell (p:=⟨w.heap.size+1,10,none⟩) zz12).trans z10,(h'.cell (p:=⟨w.heap.size+1,11,none⟩) zz12).trans z11,fun o => (h'.frozen (p:=⟨w.heap.size+1,o,none⟩) zz12).trans (HXW.out.2.2.2.2.2.2.2.2.2.2.2.2.2.2.2.2.2.2 o)⟩:w'.cell? ⟨w.heap.size+1,0,none⟩=some (.slice none 0 0)∧w'.cell? ⟨w.heap.size+1,1,none⟩=some (.slice none 0 0)∧w'.cell? ⟨w.heap.size+1,2,none⟩=some (.slice none 0 0)∧w'.cell? ⟨w.heap.size+1,3,none⟩=some (.int .i64 0)∧w'.cell? ⟨w.heap.size+1,4,none⟩=some (.int .i64 0)∧w'.cell? ⟨w.heap.size+1,5,none⟩=some (.string ⟨#[]⟩)∧w'.cell? ⟨w.heap.size+1,6,none⟩=some (.string ⟨#[]⟩)∧w'.cell? ⟨w.heap.size+1,7,none⟩=some (.int .i64 0)∧w'.cell? ⟨w.heap.size+1,8,none⟩=some (.slice none 0 0)∧w'.cell? ⟨w.heap.size+1,9,none⟩=some (.slice none 0 0)∧w'.cell? ⟨w.heap.size+1,10,none⟩=some (.slice none 0 0)∧w'.cell? ⟨w.heap.size+1,11,none⟩=some (.slice none 0 0)∧∀ o,w'.frozen? ⟨w.heap.size+1,o,none⟩=false))
   have HB7z:=HB7w.out.size
   clear p0 p1 x0 x1 x2 x3 x4 x5 v5 s0 s1 s2 s3 s4 s5 s6 s7 z0 z1 z2 z3 z4 z5 z6 z7 z8 z9 z10 z11
   have hB:=Below.refl w7.heap.size w7
   go_wp2_with (fail)
   go_region_held3 (fun w' => w'.cell? ⟨w6.heap.size,0,none⟩=some (.slice P0 pf.bucket.length n0)∧w'.cell? ⟨w6.heap.size,1,none⟩=some (.slice P1 pf.sides.length n1)∧w'.cell? ⟨w.heap.size,0,none⟩=some (.slice (some ⟨bh,oh,none⟩) x.houses.length k0)∧w'.cell? ⟨w.heap.size,1,none⟩=some (.slice A1 x.auditors.length k1)∧w'.cell? ⟨w.heap.size,2,none⟩=some (.slice A2 x.notes.length k2)∧w'.cell? ⟨w.heap.size,3,none⟩=some (.slice A3 x.given.length k3)∧w'.cell? ⟨w.heap.size,4,none⟩=some (.slice A4 x.evil.length k4)∧w'.cell? ⟨w.heap.size,5,none⟩=some (.slice A5 x.codes.length k5)∧w'.cell? ⟨w1.heap.size,5,none⟩=some (.slice (some ⟨bs,os,none⟩) h.coord.seals.length g2)∧w'.cell? ⟨bs,os+m*8,none⟩=some (.int .i64 sl.head.house)∧w'.cell? ⟨bs,os+m*8+1,none⟩=some (.int .i64 sl.head.epoch)∧w'.cell? ⟨bs,os+m*8+2,none⟩=some (.string sl.head.root)∧w'.cell? ⟨bs,os+m*8+3,none⟩=some (.string sl.head.prev)∧w'.cell? ⟨bs,os+m*8+4,none⟩=some (.int .i64 sl.sig.at_)∧w'.cell? ⟨bs,os+m*8+5,none⟩=some (.slice G0 sl.sig.open_.length j0)∧w'.cell? ⟨bs,os+m*8+6,none⟩=some (.slice G1 sl.sig.shut.length j1)∧w'.cell? ⟨bs,os+m*8+7,none⟩=some (.slice G2 sl.sig.sides.length j2)∧Chg (isR (w.heap.size+1)) w7 w')
    (first | exact HM.out _ (by (repeat (first | with_reducible exact Below.chg hB | with_reducible apply Chg.drew | with_reducible refine Chg.alloc ?_ _ | with_reducible refine chg_setR ?_ _))))
    (first | (go_at_call 128; with_reducible refine (HCP.out _ ?_).mono ?_; (exact HB7w.out.trans (Below.mono (w:=w7) (by have zh:=hB; exact zz10) HB7z)); rintro e8 w8 ⟨C0,i0,C1,i1,C2,i2,rfl,hs8,hb8⟩; have HS8:=zd hs8; have hB8:=Below.refl w8.heap.size w8; have hL8:=Below.size (by have zh:=hB; exact zz10); (try have hB9:=Below.step (a:=w9) (by have zh:=hB9; exact zz10) hb8); have hB:=Below.step (a:=w7) (by have zh:=hB; exact zz10) hb8; have hz8:=hB.size; have hz8b:=hb8.size; obtain ⟨z0,z1,z2,z3,z4,z5,z6,z7,z8,z9,z10,z11,zf⟩:=HZW.out _ hB) | (go_at_call 129; with_reducible refine (HST.out _ ?_).mono ?_; (exact HB7w.out.trans (Below.mono (w:=w7) (by have zh:=hB; exact zz10) HB7z)); rintro e9 w9 ⟨A6,k6,rfl,l6,m6,r6,hb9⟩; have HS9:=zd (And.intro l6 (And.intro m6 r6)); have hB9:=Below.refl w9.heap.size w9; (try have hB8:=Below.step (a:=w8) (by have zh:=hB8; exact zz10) hb9); have hB:=Below.step (a:=w7) (by have zh:=hB; exact zz10) hb9; have hz9:=hB.size; have hz9b:=hb9.size; obtain ⟨z0,z1,z2,z3,z4,z5,z6,z7,z8,z9,z10,z11,zf⟩:=HZW.out _ hB))
   go_wp2
   refine bodyPost_ret (v:=.tuple #[.agg #[.slice P0 pf.bucket.length n0,.slice P1 pf.sides.length n1,.slice AT tp.length kT,.int .i64 sl.head.house,.int .i64 sl.head.epoch,.string sl.head.root,.string sl.head.prev,.int .i64 sl.sig.at_,.slice C0 sl.sig.open_.length i0,.slice C1 sl.sig.shut.length i1,.slice C2 sl.sig.sides.length i2,.slice A6 (stampsOf x k ev).length k6],.int .i64 0]) (by simp [results,Tryz.results47,go_sem, *]) rfl ?_
   obtain ⟨g6,e6,f6⟩:=HS9.out
   have hb69:Below w6.heap.size w6 w9:=HBV6.out.trans ((HOT.out.bl.trans (hB.mono HOT.out.bl.size)).mono HBV6.out.size)
   have hdr:w7.drew.heap.size=w7.heap.size:=rfl
   have hsz8:=hb8.size
   have hsz9:=hb9.size
   exact rs_done (r:=w.heap.size+1) HE.out (Lay.later HP6.out hb69) HOT.out.le HOT.out.cm (Row.later HOT.out.rng hB) (Lay.later HS8.out hB8) g6 e6 f6 (Nat.le_add_right _ 1) (HB7w.out.trans (hB.mono HB7z)) ⟨zz13,zz13,zz13,zz13,zz13,zz13,zz13,zz13,zz13,zz13,zz13⟩
end Go.Proofs.YtcbbjfafmmcfiaaGreatDoor
