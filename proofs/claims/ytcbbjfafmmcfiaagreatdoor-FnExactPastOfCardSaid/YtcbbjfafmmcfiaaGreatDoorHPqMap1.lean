/- A part of the proof. -/
import Derived.Test.YtcbbjfafmmcfiaaGreatDoorHPqL4xBr
import Derived.Test.YtcbbjfafmmcfiaaGreatDoorHPqTy
set_option linter.unusedVariables false
set_option linter.unusedSimpArgs false
set_option maxRecDepth 40000
set_option maxHeartbeats 4000000
namespace Go.Proofs.YtcbbjfafmmcfiaaGreatDoor
open Go.RowKit Lay Mk
theorem I64_nat {k:Nat} (h:k≤4611686018427387904):I64 (k:Int):=by unfold I64; omega
theorem _root_.Go.RowKit.Below.chg_ {w w1:World} (h:Below w.heap.size w w1) (U:Blks):Chg U w w1:=⟨h.os,h.tape,h.output,h.size,fun k hk _ => h.block k hk⟩
theorem Shp.ofb {w w1:World} {g t m:Nat} (h:Shp w g t m) (hb:Below w.heap.size w w1):Shp w1 g t m:=h.of (hb.block g h.lt)
theorem Shp.ofc {w w1:World} {g t m:Nat} {S:Blks} (h:Shp w g t m) (hb:Chg S w w1) (hn : ¬ S g):Shp w1 g t m:=h.of (hb.block g h.lt hn)
theorem Chg.cellC {w w1:World} {S:Blks} (hb:Chg S w w1) {p:Addr} (h:p.block<w.heap.size) (hn : ¬ S p.block):w1.cell? p=w.cell? p:=World.cell?_of_block (hb.block p.block h hn)
theorem mark_FileS (xs:List File) (w:World) (A:Option Addr) (cap:Nat) (S:Blks) (a:Int) (k0:Nat) (ha:a=(k0:Int)) (hk:k0+cnL xs≤4611686018427387904) (hx:Row true w A cap xs S) (hl:xs.length≤maxLen) :
  Calls Tryz.prog 175 #[.slice A xs.length cap,.int .i64 a] w fun e w' => e = .returned (.int .i64 ((k0+cnL xs:Nat):Int))∧Row true w' A cap (meL xs k0) S∧Chg S w w':=by
 subst ha
 unfold maxLen at hl
 have hxx:=hx
 rcases hx with ⟨rfl,rfl,rfl⟩ | ⟨g,cur_,rfl,hg,hh_,hcs_,_⟩
 ·go_enter Tryz.func175,Tryz.ntmps175
  go_wp2
  go_loopw [1,5] (fun l i wr => i = .int .i64 0∧l = .int .i64 (k0:Int)∧wr=w) (fun _ _ _ => 0)
  case atStart => exact ⟨rfl,rfl,rfl⟩
  case round =>
   obtain ⟨rfl,rfl,rfl⟩:=hrel
   go_wp2
   go_ret; exact ⟨rfl,.inl ⟨rfl,rfl,rfl⟩,Chg.refl _ _⟩
 have hsh0:Shp w g (ty File) (cap*3):=⟨cur_,hh_,hcs_⟩
 clear hh_ hcs_
 go_enter Tryz.func175,Tryz.ntmps175
 go_wp2
 go_loopw [1,5] (fun l i wr => ∃ k:Nat,k≤xs.length∧i = .int .i64 k∧l = .int .i64 ((k0+cnL (xs.take k):Nat):Int)∧Chg S w wr∧Row true wr (some ⟨g,0,none⟩) cap (meL (xs.take k) k0 ++ xs.drop k) S) (fun _ i _ => xs.length - (intOf i).toNat)
 case atStart => exact ⟨0,Nat.zero_le _,rfl,by simp [cnL],Chg.refl _ _,by simpa [meL] using hxx⟩
 case round =>
  obtain ⟨k,hkk,rfl,rfl,hch,hrow⟩:=hrel
  clear hxx
  by_cases hlt:k<xs.length
  ·have hylen:(meL (xs.take k) k0 ++ xs.drop k).length=xs.length:=by simp; omega
   have hstep:=meL_step xs k0 k hlt
   have hat:=meL_at xs k0 k hlt (by rw [hylen]; exact hlt)
   generalize hys:meL (xs.take k) k0 ++ xs.drop k=ys at hrow hylen hat hstep
   have hlty:k<ys.length:=zz18
   have hcs:=cnL_take_succ xs k hlt
   have hcl:=cnL_take_le xs (k+1)
   generalize hK:k0+cnL (xs.take k)=K at hstep
   generalize xs[k]=x at hat hcs hstep
   rw [show Mk.cn x=File.cn x from rfl] at hcs
   have hs2:Hid (k0+cnL (xs.take (k+1))=K+File.cn x):=zd zz18
   have hKb:K+File.cn x≤4611686018427387904:=zz18
   unfold File.cn at hKb
   have hst:Hid (meL (xs.take (k+1)) k0 ++ xs.drop (k+1)=ys.set k (File.me x K)):=zd hstep
   rcases hrow with ⟨h_,_⟩ | ⟨g2,cur,e_,_,hh,hcz,T,hT,hd,he⟩
   ·cases h_
   cases e_
   have hsh:Shp wr g (ty File) (cap*3):=⟨cur,hh,hcz⟩
   have hd:=hd rfl
   have hgl:=hsh.lt
   have hgT : ¬ T k g:=fun h => (hT k g h).2 rfl
   obtain ⟨c1,ha1,hr1⟩:=he k hlty
   rw [hat] at hr1
   have HE:=zd he; have HD:=zd hd; have HT:=zd hT
   clear hcs hcl hstep hat hys he hd hT hh hcz
   obtain ⟨rfl,ef0,ef1,ef2⟩:=File.open hr1
   have q0:wr.cell? ⟨g,k*3,none⟩=some (.string x.name):=by have:=ha1 0 _ rfl; simpa [show Lay.n File=3 from rfl] using this
   have q1:wr.cell? ⟨g,k*3+1,none⟩=some (.string x.text):=by have:=ha1 1 _ rfl; simpa [show Lay.n File=3 from rfl] using this
   have q2:wr.cell? ⟨g,k*3+2,none⟩=some (.int .i64 x.kept):=by have:=ha1 2 _ rfl; simpa [show Lay.n File=3 from rfl] using this
   clear ha1
   have hf0:=fun o => hsh.frozen o
   have hme:Hid (File.me x K=(⟨mtext (K),mtext (K+1),(((K+1+1):Nat):Int)⟩:File)):=zd (by simp only [File.me])
   have hKb0:K+3≤4611686018427387904:=zz18
   have hC0:Chg (fun b => b=g∨T k b) wr wr:=Chg.refl _ _
   have hS0:=hsh
   go_wp2_with (fail)
   refine (mark_Text _ (K) zz34 zz18 _).mono ?_
   rintro e1 w1 ⟨rfl,hb1⟩
   have hC1:Chg (fun b => b=g∨T k b) wr w1:=Chg.trans (b:=_) (by have zh:=hC0; exact zz8) (hb1.chg_ (fun b => b=g∨T k b))
   have hS1:Shp w1 g (ty File) (cap*3):=Shp.ofb (by have zh:=hS0; exact zz5) hb1
   have hc1:=fun o => hb1.cell (p:=⟨g,o,none⟩) (Shp.lt (show Shp _ g (ty File) (cap*3) from by have zh:=hS0; exact zz5))
   have hf1:=fun o => hS1.frozen o
   go_wp2_with (fail)
   refine (mark_Text _ (K+1) zz34 zz18 _).mono ?_
   rintro e2 w2 ⟨rfl,hb2⟩
   have hC2:Chg (fun b => b=g∨T k b) wr w2:=Chg.trans (b:=_) (by have zh:=hC1; exact zz8) (hb2.chg_ (fun b => b=g∨T k b))
   have hS2:Shp w2 g (ty File) (cap*3):=Shp.ofb (by have zh:=hS1; exact zz5) hb2
   have hc2:=fun o => hb2.cell (p:=⟨g,o,none⟩) (Shp.lt (show Shp _ g (ty File) (cap*3) from by have zh:=hS1; exact zz5))
   have hf2:=fun o => hS2.frozen o
   go_wp2
   go_roundw
   case rel =>
    refine ⟨k+1,zz18,by go_num,by rw [hs2.out]; first | go_num | (congr 1; unfold File.cn; omega),?_,?_⟩
    ·refine Chg.trans hch (Chg.mono (show Chg (fun b => b=g∨T k b) wr _ from by have zh:=hC2; exact zz8) (fun b _ h => h.elim (fun e => e ▸ hg) (fun h => (HT.out k b h).1)))
    ·rw [hst.out,hme.out]
     refine Row.setN (N:=3) (T:=T) (w:=wr) (cs:=[.string (mtext (K)),.string (mtext (K+1)),.int .i64 (((K+1+1):Nat):Int)]) rfl hg HT.out HD.out HE.out hlty (show Shp _ g (ty File) (cap*3) from by have zh:=hS2; exact zz5) (fun o ho => ?_) (show Chg (fun b => b=g∨T k b) wr _ from by have zh:=hC2; exact zz8) ?_ ?_
     ·have n0:o≠k*3:=by intro h; apply ho; rw [h]; omega
      have n1:o≠k*3+1:=zz23
      have n2:o≠k*3+2:=zz23
      simp only [hc2,hc1,ya1 _ _ _ o _ n0,ya1 _ _ _ o _ n1,ya1 _ _ _ o _ n2]
     ·intro j u hu
      have hj:j<3:=(List.getElem?_eq_some_iff.1 hu).1
      rcases (by omega:j=0∨j=1∨j=2) with rfl | rfl | rfl
      all_goals (have hu:=Option.some.inj hu; subst hu; go_simp; try simp)
     ·exact File.mk' (m:=true) (x:=(⟨mtext (K),mtext (K+1),(((K+1+1):Nat):Int)⟩:File)) (S:=T k) (mtext_size (K) zz18) (mtext_size (K+1) zz18) (I64_nat zz18)
   case measure => simp [intOf]; omega
  ·have hke:k=xs.length:=by omega
   go_wp2
   go_ret; subst hke; refine ⟨zz71,zz84,hch⟩
theorem mark_LeafS (xs:List Leaf) (w:World) (A:Option Addr) (cap:Nat) (S:Blks) (a:Int) (k0:Nat) (ha:a=(k0:Int)) (hk:k0+cnL xs≤4611686018427387904) (hx:Row true w A cap xs S) (hl:xs.length≤maxLen) :
  Calls Tryz.prog 85 #[.slice A xs.length cap,.int .i64 a] w fun e w' => e = .returned (.int .i64 ((k0+cnL xs:Nat):Int))∧Row true w' A cap (meL xs k0) S∧Chg S w w':=by
 subst ha
 unfold maxLen at hl
 have hxx:=hx
 rcases hx with ⟨rfl,rfl,rfl⟩ | ⟨g,cur_,rfl,hg,hh_,hcs_,_⟩
 ·go_enter Tryz.func85,Tryz.ntmps85
  go_wp2
  go_loopw [1,5] (fun l i wr => i = .int .i64 0∧l = .int .i64 (k0:Int)∧wr=w) (fun _ _ _ => 0)
  case atStart => exact ⟨rfl,rfl,rfl⟩
  case round =>
   obtain ⟨rfl,rfl,rfl⟩:=hrel
   go_wp2
   go_ret; exact ⟨rfl,.inl ⟨rfl,rfl,rfl⟩,Chg.refl _ _⟩
 have hsh0:Shp w g (ty Leaf) (cap*2):=⟨cur_,hh_,hcs_⟩
 clear hh_ hcs_
 go_enter Tryz.func85,Tryz.ntmps85
 go_wp2
 go_loopw [1,5] (fun l i wr => ∃ k:Nat,k≤xs.length∧i = .int .i64 k∧l = .int .i64 ((k0+cnL (xs.take k):Nat):Int)∧Chg S w wr∧Row true wr (some ⟨g,0,none⟩) cap (meL (xs.take k) k0 ++ xs.drop k) S) (fun _ i _ => xs.length - (intOf i).toNat)
 case atStart => exact ⟨0,Nat.zero_le _,rfl,by simp [cnL],Chg.refl _ _,by simpa [meL] using hxx⟩
 case round =>
  obtain ⟨k,hkk,rfl,rfl,hch,hrow⟩:=hrel
  clear hxx
  by_cases hlt:k<xs.length
  ·have hylen:(meL (xs.take k) k0 ++ xs.drop k).length=xs.length:=by simp; omega
   have hstep:=meL_step xs k0 k hlt
   have hat:=meL_at xs k0 k hlt (by rw [hylen]; exact hlt)
   generalize hys:meL (xs.take k) k0 ++ xs.drop k=ys at hrow hylen hat hstep
   have hlty:k<ys.length:=zz18
   have hcs:=cnL_take_succ xs k hlt
   have hcl:=cnL_take_le xs (k+1)
   generalize hK:k0+cnL (xs.take k)=K at hstep
   generalize xs[k]=x at hat hcs hstep
   rw [show Mk.cn x=Leaf.cn x from rfl] at hcs
   have hs2:Hid (k0+cnL (xs.take (k+1))=K+Leaf.cn x):=zd zz18
   have hKb:K+Leaf.cn x≤4611686018427387904:=zz18
   unfold Leaf.cn at hKb
   have hst:Hid (meL (xs.take (k+1)) k0 ++ xs.drop (k+1)=ys.set k (Leaf.me x K)):=zd hstep
   rcases hrow with ⟨h_,_⟩ | ⟨g2,cur,e_,_,hh,hcz,T,hT,hd,he⟩
   ·cases h_
   cases e_
   have hsh:Shp wr g (ty Leaf) (cap*2):=⟨cur,hh,hcz⟩
   have hd:=hd rfl
   have hgl:=hsh.lt
   have hgT : ¬ T k g:=fun h => (hT k g h).2 rfl
   obtain ⟨c1,ha1,hr1⟩:=he k hlty
   rw [hat] at hr1
   have HE:=zd he; have HD:=zd hd; have HT:=zd hT
   clear hcs hcl hstep hat hys he hd hT hh hcz
   obtain ⟨rfl,ef0,ef1⟩:=Leaf.open hr1
   have q0:wr.cell? ⟨g,k*2,none⟩=some (.string x.name):=by have:=ha1 0 _ rfl; simpa [show Lay.n Leaf=2 from rfl] using this
   have q1:wr.cell? ⟨g,k*2+1,none⟩=some (.string x.value):=by have:=ha1 1 _ rfl; simpa [show Lay.n Leaf=2 from rfl] using this
   clear ha1
   have hf0:=fun o => hsh.frozen o
   have hme:Hid (Leaf.me x K=(⟨mtext (K),mtext (K+1)⟩:Leaf)):=zd (by simp only [Leaf.me])
   have hKb0:K+2≤4611686018427387904:=zz18
   have hC0:Chg (fun b => b=g∨T k b) wr wr:=Chg.refl _ _
   have hS0:=hsh
   go_wp2_with (fail)
   refine (mark_Text _ (K) zz34 zz18 _).mono ?_
   rintro e1 w1 ⟨rfl,hb1⟩
   have hC1:Chg (fun b => b=g∨T k b) wr w1:=Chg.trans (b:=_) (by have zh:=hC0; exact zz8) (hb1.chg_ (fun b => b=g∨T k b))
   have hS1:Shp w1 g (ty Leaf) (cap*2):=Shp.ofb (by have zh:=hS0; exact zz5) hb1
   have hc1:=fun o => hb1.cell (p:=⟨g,o,none⟩) (Shp.lt (show Shp _ g (ty Leaf) (cap*2) from by have zh:=hS0; exact zz5))
   have hf1:=fun o => hS1.frozen o
   go_wp2_with (fail)
   refine (mark_Text _ (K+1) zz34 zz18 _).mono ?_
   rintro e2 w2 ⟨rfl,hb2⟩
   have hC2:Chg (fun b => b=g∨T k b) wr w2:=Chg.trans (b:=_) (by have zh:=hC1; exact zz8) (hb2.chg_ (fun b => b=g∨T k b))
   have hS2:Shp w2 g (ty Leaf) (cap*2):=Shp.ofb (by have zh:=hS1; exact zz5) hb2
   have hc2:=fun o => hb2.cell (p:=⟨g,o,none⟩) (Shp.lt (show Shp _ g (ty Leaf) (cap*2) from by have zh:=hS1; exact zz5))
   have hf2:=fun o => hS2.frozen o
   go_wp2
   go_roundw
   case rel =>
    refine ⟨k+1,zz18,by go_num,by rw [hs2.out]; first | go_num | (congr 1; unfold Leaf.cn; omega),?_,?_⟩
    ·refine Chg.trans hch (Chg.mono (show Chg (fun b => b=g∨T k b) wr _ from by have zh:=hC2; exact zz8) (fun b _ h => h.elim (fun e => e ▸ hg) (fun h => (HT.out k b h).1)))
    ·rw [hst.out,hme.out]
     refine Row.setN (N:=2) (T:=T) (w:=wr) (cs:=[.string (mtext (K)),.string (mtext (K+1))]) rfl hg HT.out HD.out HE.out hlty (show Shp _ g (ty Leaf) (cap*2) from by have zh:=hS2; exact zz5) (fun o ho => ?_) (show Chg (fun b => b=g∨T k b) wr _ from by have zh:=hC2; exact zz8) ?_ ?_
     ·have n0:o≠k*2:=by intro h; apply ho; rw [h]; omega
      have n1:o≠k*2+1:=zz23
      simp only [hc2,hc1,ya1 _ _ _ o _ n0,ya1 _ _ _ o _ n1]
     ·intro j u hu
      have hj:j<2:=(List.getElem?_eq_some_iff.1 hu).1
      rcases (by omega:j=0∨j=1) with rfl | rfl
      all_goals (have hu:=Option.some.inj hu; subst hu; go_simp; try simp)
     ·exact Leaf.mk' (m:=true) (x:=(⟨mtext (K),mtext (K+1)⟩:Leaf)) (S:=T k) (mtext_size (K) zz18) (mtext_size (K+1) zz18)
   case measure => simp [intOf]; omega
  ·have hke:k=xs.length:=by omega
   go_wp2
   go_ret; subst hke; refine ⟨zz71,zz84,hch⟩
theorem mark_LeafSS (xs:List (List Leaf)) (w:World) (A:Option Addr) (cap:Nat) (S:Blks) (a:Int) (k0:Nat) (ha:a=(k0:Int)) (hk:k0+cnL xs≤4611686018427387904) (hx:Row true w A cap xs S) (hl:xs.length≤maxLen) :
  Calls Tryz.prog 82 #[.slice A xs.length cap,.int .i64 a] w fun e w' => e = .returned (.int .i64 ((k0+cnL xs:Nat):Int))∧Row true w' A cap (meL xs k0) S∧Chg S w w':=by
 subst ha
 unfold maxLen at hl
 have hxx:=hx
 rcases hx with ⟨rfl,rfl,rfl⟩ | ⟨g,cur_,rfl,hg,hh_,hcs_,_⟩
 ·go_enter Tryz.func82,Tryz.ntmps82
  go_wp2
  go_loopw [1,5] (fun l i wr => i = .int .i64 0∧l = .int .i64 (k0:Int)∧wr=w) (fun _ _ _ => 0)
  case atStart => exact ⟨rfl,rfl,rfl⟩
  case round =>
   obtain ⟨rfl,rfl,rfl⟩:=hrel
   go_wp2
   go_ret; exact ⟨rfl,.inl ⟨rfl,rfl,rfl⟩,Chg.refl _ _⟩
 have hsh0:Shp w g (ty (List Leaf)) (cap*1):=⟨cur_,hh_,hcs_⟩
 clear hh_ hcs_
 go_enter Tryz.func82,Tryz.ntmps82
 go_wp2
 go_loopw [1,5] (fun l i wr => ∃ k:Nat,k≤xs.length∧i = .int .i64 k∧l = .int .i64 ((k0+cnL (xs.take k):Nat):Int)∧Chg S w wr∧Row true wr (some ⟨g,0,none⟩) cap (meL (xs.take k) k0 ++ xs.drop k) S) (fun _ i _ => xs.length - (intOf i).toNat)
 case atStart => exact ⟨0,Nat.zero_le _,rfl,by simp [cnL],Chg.refl _ _,by simpa [meL] using hxx⟩
 case round =>
  obtain ⟨k,hkk,rfl,rfl,hch,hrow⟩:=hrel
  clear hxx
  by_cases hlt:k<xs.length
  ·have hylen:(meL (xs.take k) k0 ++ xs.drop k).length=xs.length:=by simp; omega
   have hstep:=meL_step xs k0 k hlt
   have hat:=meL_at xs k0 k hlt (by rw [hylen]; exact hlt)
   generalize hys:meL (xs.take k) k0 ++ xs.drop k=ys at hrow hylen hat hstep
   have hlty:k<ys.length:=zz18
   have hcs:=cnL_take_succ xs k hlt
   have hcl:=cnL_take_le xs (k+1)
   generalize hK:k0+cnL (xs.take k)=K at hstep
   generalize xs[k]=x at hat hcs hstep
   rw [show Mk.cn x=cnL x from rfl] at hcs
   have hs2:Hid (k0+cnL (xs.take (k+1))=K+cnL x):=zd zz18
   have hKb:K+cnL x≤4611686018427387904:=zz18
   have hst:Hid (meL (xs.take (k+1)) k0 ++ xs.drop (k+1)=ys.set k (meL x K)):=zd hstep
   rcases hrow with ⟨h_,_⟩ | ⟨g2,cur,e_,_,hh,hcz,T,hT,hd,he⟩
   ·cases h_
   cases e_
   have hsh:Shp wr g (ty (List Leaf)) (cap*1):=⟨cur,hh,hcz⟩
   have hd:=hd rfl
   have hgl:=hsh.lt
   have hgT : ¬ T k g:=fun h => (hT k g h).2 rfl
   obtain ⟨c1,ha1,hr1⟩:=he k hlty
   rw [hat] at hr1
   have HE:=zd he; have HD:=zd hd; have HT:=zd hT
   clear hcs hcl hstep hat hys he hd hT hh hcz
   obtain ⟨eA0,ek0,rfl,ea0,eb0,er0⟩:=open_list hr1
   have es0:sub (T k) (T k):=ya3 _
   clear hr1
   have q0:wr.cell? ⟨g,k,none⟩=some (.slice eA0 x.length ek0):=by have:=ha1 0 _ rfl; simpa [show Lay.n (List Leaf)=1 from rfl] using this
   clear ha1
   have hf0:=fun o => hsh.frozen o
   obtain ⟨K1,hK1⟩:∃ q,K+cnL x=q:=⟨_,rfl⟩
   have HK1:=zd hK1; clear hK1
   have hKb0:K+0≤4611686018427387904:=by have:=HK1.out; omega
   have hKb1:K1+0≤4611686018427387904:=by have:=HK1.out; omega
   have hC0:Chg (fun b => b=g∨T k b) wr wr:=Chg.refl _ _
   have hS0:=hsh
   go_wp2_with (fail)
   refine (mark_LeafS x _ _ _ _ _ (K) zz34 (by have:=HK1.out; omega) (show Row true _ eA0 ek0 x (T k) from by have zh:=er0; exact zz9) (Nat.le_trans ea0 eb0)).mono ?_
   rw [HK1.out]
   rintro e1 w1 ⟨rfl,hr0_1,hb1⟩
   have hC1:Chg (fun b => b=g∨T k b) wr w1:=Chg.trans (b:=_) (by have zh:=hC0; exact zz8) (hb1.mono (fun b _ h => .inr (es0 b h)))
   have hS1:Shp w1 g (ty (List Leaf)) (cap*1):=Shp.ofc (by have zh:=hS0; exact zz5) hb1 (fun h => hgT (es0 _ h))
   have hc1:=fun o => hb1.cellC (p:=⟨g,o,none⟩) (Shp.lt (show Shp _ g (ty (List Leaf)) (cap*1) from by have zh:=hS0; exact zz5)) (fun h => hgT (es0 _ h))
   have hf1:=fun o => hS1.frozen o
   go_wp2
   go_roundw
   case rel =>
    refine ⟨k+1,zz18,by go_num,by rw [hs2.out]; first | go_num | (congr 1; have:=HK1.out; omega),?_,?_⟩
    ·refine Chg.trans hch (Chg.mono (show Chg (fun b => b=g∨T k b) wr _ from by have zh:=hC1; exact zz8) (fun b _ h => h.elim (fun e => e ▸ hg) (fun h => (HT.out k b h).1)))
    ·rw [hst.out]
     refine Row.setN (N:=1) (T:=T) (w:=wr) (cs:=[.slice eA0 (meL x (K)).length ek0]) rfl hg HT.out HD.out HE.out hlty (show Shp _ g (ty (List Leaf)) (cap*1) from by have zh:=hS1; exact zz5) (fun o ho => ?_) (show Chg (fun b => b=g∨T k b) wr _ from by have zh:=hC1; exact zz8) ?_ ?_
     ·have n0:o≠k:=by intro h; apply ho; rw [h]; omega
      simp only [hc1,ya1 _ _ _ o _ n0]
     ·intro j u hu
      have hj:j<1:=(List.getElem?_eq_some_iff.1 hu).1
      obtain rfl:j=0:=by omega
      all_goals (have hu:=Option.some.inj hu; subst hu; go_simp; try simp)
     ·have hf_:=(show Row true _ eA0 ek0 (meL x K) _ from by have zh:=hr0_1; exact zz26)
      exact ⟨eA0,ek0,rfl,by rw [meL_length]; exact ea0,eb0,hf_⟩
   case measure => simp [intOf]; omega
  ·have hke:k=xs.length:=by omega
   go_wp2
   go_ret; subst hke; refine ⟨zz71,zz84,hch⟩
theorem mark_IntS (xs:List Int) (w:World) (A:Option Addr) (cap:Nat) (S:Blks) (a:Int) (k0:Nat) (ha:a=(k0:Int)) (hk:k0+cnL xs≤4611686018427387904) (hx:Row true w A cap xs S) (hl:xs.length≤maxLen) :
  Calls Tryz.prog 83 #[.slice A xs.length cap,.int .i64 a] w fun e w' => e = .returned (.int .i64 ((k0+cnL xs:Nat):Int))∧Row true w' A cap (meL xs k0) S∧Chg S w w':=by
 subst ha
 unfold maxLen at hl
 have hxx:=hx
 rcases hx with ⟨rfl,rfl,rfl⟩ | ⟨g,cur_,rfl,hg,hh_,hcs_,_⟩
 ·go_enter Tryz.func83,Tryz.ntmps83
  go_wp2
  go_loopw [1,5] (fun l i wr => i = .int .i64 0∧l = .int .i64 (k0:Int)∧wr=w) (fun _ _ _ => 0)
  case atStart => exact ⟨rfl,rfl,rfl⟩
  case round =>
   obtain ⟨rfl,rfl,rfl⟩:=hrel
   go_wp2
   go_ret; exact ⟨rfl,.inl ⟨rfl,rfl,rfl⟩,Chg.refl _ _⟩
 have hsh0:Shp w g (ty Int) (cap*1):=⟨cur_,hh_,hcs_⟩
 clear hh_ hcs_
 go_enter Tryz.func83,Tryz.ntmps83
 go_wp2
 go_loopw [1,5] (fun l i wr => ∃ k:Nat,k≤xs.length∧i = .int .i64 k∧l = .int .i64 ((k0+cnL (xs.take k):Nat):Int)∧Chg S w wr∧Row true wr (some ⟨g,0,none⟩) cap (meL (xs.take k) k0 ++ xs.drop k) S) (fun _ i _ => xs.length - (intOf i).toNat)
 case atStart => exact ⟨0,Nat.zero_le _,rfl,by simp [cnL],Chg.refl _ _,by simpa [meL] using hxx⟩
 case round =>
  obtain ⟨k,hkk,rfl,rfl,hch,hrow⟩:=hrel
  clear hxx
  by_cases hlt:k<xs.length
  ·have hylen:(meL (xs.take k) k0 ++ xs.drop k).length=xs.length:=by simp; omega
   have hstep:=meL_step xs k0 k hlt
   have hat:=meL_at xs k0 k hlt (by rw [hylen]; exact hlt)
   generalize hys:meL (xs.take k) k0 ++ xs.drop k=ys at hrow hylen hat hstep
   have hlty:k<ys.length:=zz18
   have hcs:=cnL_take_succ xs k hlt
   have hcl:=cnL_take_le xs (k+1)
   generalize hK:k0+cnL (xs.take k)=K at hstep
   generalize xs[k]=x at hat hcs hstep
   rw [show Mk.cn x=1 from rfl] at hcs
   have hs2:Hid (k0+cnL (xs.take (k+1))=K+1):=zd zz18
   have hKb:K+1≤4611686018427387904:=zz18
   have hst:Hid (meL (xs.take (k+1)) k0 ++ xs.drop (k+1)=ys.set k (((K:Nat):Int))):=zd hstep
   rcases hrow with ⟨h_,_⟩ | ⟨g2,cur,e_,_,hh,hcz,T,hT,hd,he⟩
   ·cases h_
   cases e_
   have hsh:Shp wr g (ty Int) (cap*1):=⟨cur,hh,hcz⟩
   have hd:=hd rfl
   have hgl:=hsh.lt
   have hgT : ¬ T k g:=fun h => (hT k g h).2 rfl
   obtain ⟨c1,ha1,hr1⟩:=he k hlty
   rw [hat] at hr1
   have HE:=zd he; have HD:=zd hd; have HT:=zd hT
   clear hcs hcl hstep hat hys he hd hT hh hcz
   have hr1:rd true wr c1 (x:Int) (T k):=hr1
   obtain ⟨rfl,_⟩:=open_int hr1
   clear hr1
   have q0:wr.cell? ⟨g,k,none⟩=some (.int .i64 x):=by have:=ha1 0 _ rfl; simpa [show Lay.n Int=1 from rfl] using this
   clear ha1
   have hf0:=fun o => hsh.frozen o
   have hKb0:K+1≤4611686018427387904:=zz18
   have hC0:Chg (fun b => b=g∨T k b) wr wr:=Chg.refl _ _
   have hS0:=hsh
   go_wp2
   go_roundw
   case rel =>
    refine ⟨k+1,zz18,by go_num,by rw [hs2.out]; first | go_num | (congr 1; omega),?_,?_⟩
    ·refine Chg.trans hch (Chg.mono (show Chg (fun b => b=g∨T k b) wr _ from by have zh:=hC0; exact zz8) (fun b _ h => h.elim (fun e => e ▸ hg) (fun h => (HT.out k b h).1)))
    ·rw [hst.out]
     refine Row.setN (N:=1) (T:=T) (w:=wr) (cs:=[.int .i64 (((K):Nat):Int)]) rfl hg HT.out HD.out HE.out hlty (show Shp _ g (ty Int) (cap*1) from by have zh:=hS0; exact zz5) (fun o ho => ?_) (show Chg (fun b => b=g∨T k b) wr _ from by have zh:=hC0; exact zz8) ?_ ?_
     ·have n0:o≠k:=by intro h; apply ho; rw [h]; omega
      simp only [ya1 _ _ _ o _ n0]
     ·intro j u hu
      have hj:j<1:=(List.getElem?_eq_some_iff.1 hu).1
      obtain rfl:j=0:=by omega
      all_goals (have hu:=Option.some.inj hu; subst hu; go_simp; try simp)
     ·exact ⟨rfl,I64_nat zz18⟩
   case measure => simp [intOf]; omega
  ·have hke:k=xs.length:=by omega
   go_wp2
   go_ret; subst hke; refine ⟨zz71,zz84,hch⟩
theorem mark_ChangeS (xs:List Change) (w:World) (A:Option Addr) (cap:Nat) (S:Blks) (a:Int) (k0:Nat) (ha:a=(k0:Int)) (hk:k0+cnL xs≤4611686018427387904) (hx:Row true w A cap xs S) (hl:xs.length≤maxLen) :
  Calls Tryz.prog 84 #[.slice A xs.length cap,.int .i64 a] w fun e w' => e = .returned (.int .i64 ((k0+cnL xs:Nat):Int))∧Row true w' A cap (meL xs k0) S∧Chg S w w':=by
 subst ha
 unfold maxLen at hl
 have hxx:=hx
 rcases hx with ⟨rfl,rfl,rfl⟩ | ⟨g,cur_,rfl,hg,hh_,hcs_,_⟩
 ·go_enter Tryz.func84,Tryz.ntmps84
  go_wp2
  go_loopw [1,5] (fun l i wr => i = .int .i64 0∧l = .int .i64 (k0:Int)∧wr=w) (fun _ _ _ => 0)
  case atStart => exact ⟨rfl,rfl,rfl⟩
  case round =>
   obtain ⟨rfl,rfl,rfl⟩:=hrel
   go_wp2
   go_ret; exact ⟨rfl,.inl ⟨rfl,rfl,rfl⟩,Chg.refl _ _⟩
 have hsh0:Shp w g (ty Change) (cap*3):=⟨cur_,hh_,hcs_⟩
 clear hh_ hcs_
 go_enter Tryz.func84,Tryz.ntmps84
 go_wp2
 go_loopw [1,5] (fun l i wr => ∃ k:Nat,k≤xs.length∧i = .int .i64 k∧l = .int .i64 ((k0+cnL (xs.take k):Nat):Int)∧Chg S w wr∧Row true wr (some ⟨g,0,none⟩) cap (meL (xs.take k) k0 ++ xs.drop k) S) (fun _ i _ => xs.length - (intOf i).toNat)
 case atStart => exact ⟨0,Nat.zero_le _,rfl,by simp [cnL],Chg.refl _ _,by simpa [meL] using hxx⟩
 case round =>
  obtain ⟨k,hkk,rfl,rfl,hch,hrow⟩:=hrel
  clear hxx
  by_cases hlt:k<xs.length
  ·have hylen:(meL (xs.take k) k0 ++ xs.drop k).length=xs.length:=by simp; omega
   have hstep:=meL_step xs k0 k hlt
   have hat:=meL_at xs k0 k hlt (by rw [hylen]; exact hlt)
   generalize hys:meL (xs.take k) k0 ++ xs.drop k=ys at hrow hylen hat hstep
   have hlty:k<ys.length:=zz18
   have hcs:=cnL_take_succ xs k hlt
   have hcl:=cnL_take_le xs (k+1)
   generalize hK:k0+cnL (xs.take k)=K at hstep
   generalize xs[k]=x at hat hcs hstep
   rw [show Mk.cn x=Change.cn x from rfl] at hcs
   have hs2:Hid (k0+cnL (xs.take (k+1))=K+Change.cn x):=zd zz18
   have hKb:K+Change.cn x≤4611686018427387904:=zz18
   unfold Change.cn at hKb
   have hst:Hid (meL (xs.take (k+1)) k0 ++ xs.drop (k+1)=ys.set k (Change.me x K)):=zd hstep
   rcases hrow with ⟨h_,_⟩ | ⟨g2,cur,e_,_,hh,hcz,T,hT,hd,he⟩
   ·cases h_
   cases e_
   have hsh:Shp wr g (ty Change) (cap*3):=⟨cur,hh,hcz⟩
   have hd:=hd rfl
   have hgl:=hsh.lt
   have hgT : ¬ T k g:=fun h => (hT k g h).2 rfl
   obtain ⟨c1,ha1,hr1⟩:=he k hlty
   rw [hat] at hr1
   have HE:=zd he; have HD:=zd hd; have HT:=zd hT
   clear hcs hcl hstep hat hys he hd hT hh hcz
   obtain ⟨rfl,ef0,ef1,ef2⟩:=Change.open hr1
   have q0:wr.cell? ⟨g,k*3,none⟩=some (.int .i64 x.id):=by have:=ha1 0 _ rfl; simpa [show Lay.n Change=3 from rfl] using this
   have q1:wr.cell? ⟨g,k*3+1,none⟩=some (.string x.name):=by have:=ha1 1 _ rfl; simpa [show Lay.n Change=3 from rfl] using this
   have q2:wr.cell? ⟨g,k*3+2,none⟩=some (.string x.value):=by have:=ha1 2 _ rfl; simpa [show Lay.n Change=3 from rfl] using this
   clear ha1
   have hf0:=fun o => hsh.frozen o
   have hme:Hid (Change.me x K=(⟨(((K):Nat):Int),mtext (K+1),mtext (K+1+1)⟩:Change)):=zd (by simp only [Change.me])
   have hKb0:K+3≤4611686018427387904:=zz18
   have hC0:Chg (fun b => b=g∨T k b) wr wr:=Chg.refl _ _
   have hS0:=hsh
   go_wp2_with (fail)
   refine (mark_Text _ (K+1) zz34 zz18 _).mono ?_
   rintro e1 w1 ⟨rfl,hb1⟩
   have hC1:Chg (fun b => b=g∨T k b) wr w1:=Chg.trans (b:=_) (by have zh:=hC0; exact zz8) (hb1.chg_ (fun b => b=g∨T k b))
   have hS1:Shp w1 g (ty Change) (cap*3):=Shp.ofb (by have zh:=hS0; exact zz5) hb1
   have hc1:=fun o => hb1.cell (p:=⟨g,o,none⟩) (Shp.lt (show Shp _ g (ty Change) (cap*3) from by have zh:=hS0; exact zz5))
   have hf1:=fun o => hS1.frozen o
   go_wp2_with (fail)
   refine (mark_Text _ (K+1+1) zz34 zz18 _).mono ?_
   rintro e2 w2 ⟨rfl,hb2⟩
   have hC2:Chg (fun b => b=g∨T k b) wr w2:=Chg.trans (b:=_) (by have zh:=hC1; exact zz8) (hb2.chg_ (fun b => b=g∨T k b))
   have hS2:Shp w2 g (ty Change) (cap*3):=Shp.ofb (by have zh:=hS1; exact zz5) hb2
   have hc2:=fun o => hb2.cell (p:=⟨g,o,none⟩) (Shp.lt (show Shp _ g (ty Change) (cap*3) from by have zh:=hS1; exact zz5))
   have hf2:=fun o => hS2.frozen o
   go_wp2
   go_roundw
   case rel =>
    refine ⟨k+1,zz18,by go_num,by rw [hs2.out]; first | go_num | (congr 1; unfold Change.cn; omega),?_,?_⟩
    ·refine Chg.trans hch (Chg.mono (show Chg (fun b => b=g∨T k b) wr _ from by have zh:=hC2; exact zz8) (fun b _ h => h.elim (fun e => e ▸ hg) (fun h => (HT.out k b h).1)))
    ·rw [hst.out,hme.out]
     refine Row.setN (N:=3) (T:=T) (w:=wr) (cs:=[.int .i64 (((K):Nat):Int),.string (mtext (K+1)),.string (mtext (K+1+1))]) rfl hg HT.out HD.out HE.out hlty (show Shp _ g (ty Change) (cap*3) from by have zh:=hS2; exact zz5) (fun o ho => ?_) (show Chg (fun b => b=g∨T k b) wr _ from by have zh:=hC2; exact zz8) ?_ ?_
     ·have n0:o≠k*3:=by intro h; apply ho; rw [h]; omega
      have n1:o≠k*3+1:=zz23
      have n2:o≠k*3+2:=zz23
      simp only [hc2,hc1,ya1 _ _ _ o _ n0,ya1 _ _ _ o _ n1,ya1 _ _ _ o _ n2]
     ·intro j u hu
      have hj:j<3:=(List.getElem?_eq_some_iff.1 hu).1
      rcases (by omega:j=0∨j=1∨j=2) with rfl | rfl | rfl
      all_goals (have hu:=Option.some.inj hu; subst hu; go_simp; try simp)
     ·exact Change.mk' (m:=true) (x:=(⟨(((K):Nat):Int),mtext (K+1),mtext (K+1+1)⟩:Change)) (S:=T k) (I64_nat zz18) (mtext_size (K+1) zz18) (mtext_size (K+1+1) zz18)
   case measure => simp [intOf]; omega
  ·have hke:k=xs.length:=by omega
   go_wp2
   go_ret; subst hke; refine ⟨zz71,zz84,hch⟩
theorem mark_StringS (xs:List ByteArray) (w:World) (A:Option Addr) (cap:Nat) (S:Blks) (a:Int) (k0:Nat) (ha:a=(k0:Int)) (hk:k0+cnL xs≤4611686018427387904) (hx:Row true w A cap xs S) (hl:xs.length≤maxLen) :
  Calls Tryz.prog 29 #[.slice A xs.length cap,.int .i64 a] w fun e w' => e = .returned (.int .i64 ((k0+cnL xs:Nat):Int))∧Row true w' A cap (meL xs k0) S∧Chg S w w':=by
 subst ha
 unfold maxLen at hl
 have hxx:=hx
 rcases hx with ⟨rfl,rfl,rfl⟩ | ⟨g,cur_,rfl,hg,hh_,hcs_,_⟩
 ·go_enter Tryz.func29,Tryz.ntmps29
  go_wp2
  go_loopw [1,5] (fun l i wr => i = .int .i64 0∧l = .int .i64 (k0:Int)∧wr=w) (fun _ _ _ => 0)
  case atStart => exact ⟨rfl,rfl,rfl⟩
  case round =>
   obtain ⟨rfl,rfl,rfl⟩:=hrel
   go_wp2
   go_ret; exact ⟨rfl,.inl ⟨rfl,rfl,rfl⟩,Chg.refl _ _⟩
 have hsh0:Shp w g (ty ByteArray) (cap*1):=⟨cur_,hh_,hcs_⟩
 clear hh_ hcs_
 go_enter Tryz.func29,Tryz.ntmps29
 go_wp2
 go_loopw [1,5] (fun l i wr => ∃ k:Nat,k≤xs.length∧i = .int .i64 k∧l = .int .i64 ((k0+cnL (xs.take k):Nat):Int)∧Chg S w wr∧Row true wr (some ⟨g,0,none⟩) cap (meL (xs.take k) k0 ++ xs.drop k) S) (fun _ i _ => xs.length - (intOf i).toNat)
 case atStart => exact ⟨0,Nat.zero_le _,rfl,by simp [cnL],Chg.refl _ _,by simpa [meL] using hxx⟩
 case round =>
  obtain ⟨k,hkk,rfl,rfl,hch,hrow⟩:=hrel
  clear hxx
  by_cases hlt:k<xs.length
  ·have hylen:(meL (xs.take k) k0 ++ xs.drop k).length=xs.length:=by simp; omega
   have hstep:=meL_step xs k0 k hlt
   have hat:=meL_at xs k0 k hlt (by rw [hylen]; exact hlt)
   generalize hys:meL (xs.take k) k0 ++ xs.drop k=ys at hrow hylen hat hstep
   have hlty:k<ys.length:=zz18
   have hcs:=cnL_take_succ xs k hlt
   have hcl:=cnL_take_le xs (k+1)
   generalize hK:k0+cnL (xs.take k)=K at hstep
   generalize xs[k]=x at hat hcs hstep
   rw [show Mk.cn x=1 from rfl] at hcs
   have hs2:Hid (k0+cnL (xs.take (k+1))=K+1):=zd zz18
   have hKb:K+1≤4611686018427387904:=zz18
   have hst:Hid (meL (xs.take (k+1)) k0 ++ xs.drop (k+1)=ys.set k (mtext K)):=zd hstep
   rcases hrow with ⟨h_,_⟩ | ⟨g2,cur,e_,_,hh,hcz,T,hT,hd,he⟩
   ·cases h_
   cases e_
   have hsh:Shp wr g (ty ByteArray) (cap*1):=⟨cur,hh,hcz⟩
   have hd:=hd rfl
   have hgl:=hsh.lt
   have hgT : ¬ T k g:=fun h => (hT k g h).2 rfl
   obtain ⟨c1,ha1,hr1⟩:=he k hlty
   rw [hat] at hr1
   have HE:=zd he; have HD:=zd hd; have HT:=zd hT
   clear hcs hcl hstep hat hys he hd hT hh hcz
   have hr1:rd true wr c1 (x:ByteArray) (T k):=hr1
   obtain ⟨rfl,_⟩:=open_str hr1
   clear hr1
   have q0:wr.cell? ⟨g,k,none⟩=some (.string x):=by have:=ha1 0 _ rfl; simpa [show Lay.n ByteArray=1 from rfl] using this
   clear ha1
   have hf0:=fun o => hsh.frozen o
   have hKb0:K+1≤4611686018427387904:=zz18
   have hC0:Chg (fun b => b=g∨T k b) wr wr:=Chg.refl _ _
   have hS0:=hsh
   go_wp2_with (fail)
   refine (mark_Text _ (K) zz34 zz18 _).mono ?_
   rintro e1 w1 ⟨rfl,hb1⟩
   have hC1:Chg (fun b => b=g∨T k b) wr w1:=Chg.trans (b:=_) (by have zh:=hC0; exact zz8) (hb1.chg_ (fun b => b=g∨T k b))
   have hS1:Shp w1 g (ty ByteArray) (cap*1):=Shp.ofb (by have zh:=hS0; exact zz5) hb1
   have hc1:=fun o => hb1.cell (p:=⟨g,o,none⟩) (Shp.lt (show Shp _ g (ty ByteArray) (cap*1) from by have zh:=hS0; exact zz5))
   have hf1:=fun o => hS1.frozen o
   go_wp2
   go_roundw
   case rel =>
    refine ⟨k+1,zz18,by go_num,by rw [hs2.out]; first | go_num | (congr 1; omega),?_,?_⟩
    ·refine Chg.trans hch (Chg.mono (show Chg (fun b => b=g∨T k b) wr _ from by have zh:=hC1; exact zz8) (fun b _ h => h.elim (fun e => e ▸ hg) (fun h => (HT.out k b h).1)))
    ·rw [hst.out]
     refine Row.setN (N:=1) (T:=T) (w:=wr) (cs:=[.string (mtext (K))]) rfl hg HT.out HD.out HE.out hlty (show Shp _ g (ty ByteArray) (cap*1) from by have zh:=hS1; exact zz5) (fun o ho => ?_) (show Chg (fun b => b=g∨T k b) wr _ from by have zh:=hC1; exact zz8) ?_ ?_
     ·have n0:o≠k:=by intro h; apply ho; rw [h]; omega
      simp only [hc1,ya1 _ _ _ o _ n0]
     ·intro j u hu
      have hj:j<1:=(List.getElem?_eq_some_iff.1 hu).1
      obtain rfl:j=0:=by omega
      all_goals (have hu:=Option.some.inj hu; subst hu; go_simp; try simp)
     ·exact ⟨rfl,mtext_size _ zz18⟩
   case measure => simp [intOf]; omega
  ·have hke:k=xs.length:=by omega
   go_wp2
   go_ret; subst hke; refine ⟨zz71,zz84,hch⟩
theorem mark_StampS (xs:List Stamp) (w:World) (A:Option Addr) (cap:Nat) (S:Blks) (a:Int) (k0:Nat) (ha:a=(k0:Int)) (hk:k0+cnL xs≤4611686018427387904) (hx:Row true w A cap xs S) (hl:xs.length≤maxLen) :
  Calls Tryz.prog 117 #[.slice A xs.length cap,.int .i64 a] w fun e w' => e = .returned (.int .i64 ((k0+cnL xs:Nat):Int))∧Row true w' A cap (meL xs k0) S∧Chg S w w':=by
 subst ha
 unfold maxLen at hl
 have hxx:=hx
 rcases hx with ⟨rfl,rfl,rfl⟩ | ⟨g,cur_,rfl,hg,hh_,hcs_,_⟩
 ·go_enter Tryz.func117,Tryz.ntmps117
  go_wp2
  go_loopw [1,5] (fun l i wr => i = .int .i64 0∧l = .int .i64 (k0:Int)∧wr=w) (fun _ _ _ => 0)
  case atStart => exact ⟨rfl,rfl,rfl⟩
  case round =>
   obtain ⟨rfl,rfl,rfl⟩:=hrel
   go_wp2
   go_ret; exact ⟨rfl,.inl ⟨rfl,rfl,rfl⟩,Chg.refl _ _⟩
 have hsh0:Shp w g (ty Stamp) (cap*5):=⟨cur_,hh_,hcs_⟩
 clear hh_ hcs_
 go_enter Tryz.func117,Tryz.ntmps117
 go_wp2
 go_loopw [1,5] (fun l i wr => ∃ k:Nat,k≤xs.length∧i = .int .i64 k∧l = .int .i64 ((k0+cnL (xs.take k):Nat):Int)∧Chg S w wr∧Row true wr (some ⟨g,0,none⟩) cap (meL (xs.take k) k0 ++ xs.drop k) S) (fun _ i _ => xs.length - (intOf i).toNat)
 case atStart => exact ⟨0,Nat.zero_le _,rfl,by simp [cnL],Chg.refl _ _,by simpa [meL] using hxx⟩
 case round =>
  obtain ⟨k,hkk,rfl,rfl,hch,hrow⟩:=hrel
  clear hxx
  by_cases hlt:k<xs.length
  ·have hylen:(meL (xs.take k) k0 ++ xs.drop k).length=xs.length:=by simp; omega
   have hstep:=meL_step xs k0 k hlt
   have hat:=meL_at xs k0 k hlt (by rw [hylen]; exact hlt)
   generalize hys:meL (xs.take k) k0 ++ xs.drop k=ys at hrow hylen hat hstep
   have hlty:k<ys.length:=zz18
   have hcs:=cnL_take_succ xs k hlt
   have hcl:=cnL_take_le xs (k+1)
   generalize hK:k0+cnL (xs.take k)=K at hstep
   generalize xs[k]=x at hat hcs hstep
   rw [show Mk.cn x=Stamp.cn x from rfl] at hcs
   have hs2:Hid (k0+cnL (xs.take (k+1))=K+Stamp.cn x):=zd zz18
   have hKb:K+Stamp.cn x≤4611686018427387904:=zz18
   unfold Stamp.cn at hKb
   have hst:Hid (meL (xs.take (k+1)) k0 ++ xs.drop (k+1)=ys.set k (Stamp.me x K)):=zd hstep
   rcases hrow with ⟨h_,_⟩ | ⟨g2,cur,e_,_,hh,hcz,T,hT,hd,he⟩
   ·cases h_
   cases e_
   have hsh:Shp wr g (ty Stamp) (cap*5):=⟨cur,hh,hcz⟩
   have hd:=hd rfl
   have hgl:=hsh.lt
   have hgT : ¬ T k g:=fun h => (hT k g h).2 rfl
   obtain ⟨c1,ha1,hr1⟩:=he k hlty
   rw [hat] at hr1
   have HE:=zd he; have HD:=zd hd; have HT:=zd hT
   clear hcs hcl hstep hat hys he hd hT hh hcz
   obtain ⟨eA0,ek0,eS0,eA1,ek1,eS1,eA2,ek2,eS2,rfl,ef0,ef1,ea0,eb0,er0,es0,ea1,eb1,er1,es1,ea2,eb2,er2,es2,epw⟩:=Stamp.open hr1
   have epw_:=zd (epw rfl); clear epw
   have q0:wr.cell? ⟨g,k*5,none⟩=some (.int .i64 x.by_):=by have:=ha1 0 _ rfl; simpa [show Lay.n Stamp=5 from rfl] using this
   have q1:wr.cell? ⟨g,k*5+1,none⟩=some (.int .i64 x.sig.at_):=by have:=ha1 1 _ rfl; simpa [show Lay.n Stamp=5 from rfl] using this
   have q2:wr.cell? ⟨g,k*5+2,none⟩=some (.slice eA0 x.sig.open_.length ek0):=by have:=ha1 2 _ rfl; simpa [show Lay.n Stamp=5 from rfl] using this
   have q3:wr.cell? ⟨g,k*5+3,none⟩=some (.slice eA1 x.sig.shut.length ek1):=by have:=ha1 3 _ rfl; simpa [show Lay.n Stamp=5 from rfl] using this
   have q4:wr.cell? ⟨g,k*5+4,none⟩=some (.slice eA2 x.sig.sides.length ek2):=by have:=ha1 4 _ rfl; simpa [show Lay.n Stamp=5 from rfl] using this
   clear ha1
   have hf0:=fun o => hsh.frozen o
   obtain ⟨K1,hK1⟩:∃ q,K+1+1+cnL x.sig.open_=q:=⟨_,rfl⟩
   have HK1:=zd hK1; clear hK1
   obtain ⟨K2,hK2⟩:∃ q,K1+cnL x.sig.shut=q:=⟨_,rfl⟩
   have HK2:=zd hK2; clear hK2
   obtain ⟨K3,hK3⟩:∃ q,K2+cnL x.sig.sides=q:=⟨_,rfl⟩
   have HK3:=zd hK3; clear hK3
   have hme:Hid (Stamp.me x K=(⟨(((K):Nat):Int),(⟨(((K+1):Nat):Int),meL x.sig.open_ (K+1+1),meL x.sig.shut (K1),meL x.sig.sides (K2)⟩:Sig)⟩:Stamp)):=zd (by simp only [Stamp.me,HK1.out,HK2.out,HK3.out])
   have hKb0:K+2≤4611686018427387904:=zz47
   have hKb1:K1+0≤4611686018427387904:=zz47
   have hKb2:K2+0≤4611686018427387904:=zz47
   have hKb3:K3+0≤4611686018427387904:=zz47
   have hC0:Chg (fun b => b=g∨T k b) wr wr:=Chg.refl _ _
   have hS0:=hsh
   go_wp2_with (fail)
   refine (mark_StringS x.sig.open_ _ _ _ _ _ (K+1+1) zz34 (by have:=HK1.out; omega) (show Row true _ eA0 ek0 x.sig.open_ eS0 from by have zh:=er0; exact zz9) (Nat.le_trans ea0 eb0)).mono ?_
   rw [HK1.out]
   rintro e1 w1 ⟨rfl,hr0_1,hb1⟩
   have hC1:Chg (fun b => b=g∨T k b) wr w1:=Chg.trans (b:=_) (by have zh:=hC0; exact zz8) (hb1.mono (fun b _ h => .inr (es0 b h)))
   have hS1:Shp w1 g (ty Stamp) (cap*5):=Shp.ofc (by have zh:=hS0; exact zz5) hb1 (fun h => hgT (es0 _ h))
   have hr1_1:=Row.chg (show Row true _ eA1 ek1 x.sig.shut eS1 from by have zh:=er1; exact zz10) hb1 (ya5 (pwget3_0_1 epw_.out))
   have hr2_1:=Row.chg (show Row true _ eA2 ek2 x.sig.sides eS2 from by have zh:=er2; exact zz11) hb1 (ya5 (pwget3_0_2 epw_.out))
   have hc1:=fun o => hb1.cellC (p:=⟨g,o,none⟩) (Shp.lt (show Shp _ g (ty Stamp) (cap*5) from by have zh:=hS0; exact zz5)) (fun h => hgT (es0 _ h))
   have hf1:=fun o => hS1.frozen o
   go_wp2_with (fail)
   refine (mark_StringS x.sig.shut _ _ _ _ _ (K1) zz34 (by have:=HK2.out; omega) (show Row true _ eA1 ek1 x.sig.shut eS1 from by have zh:=hr1_1; exact zz10) (Nat.le_trans ea1 eb1)).mono ?_
   rw [HK2.out]
   rintro e2 w2 ⟨rfl,hr1_2,hb2⟩
   have hC2:Chg (fun b => b=g∨T k b) wr w2:=Chg.trans (b:=_) (by have zh:=hC1; exact zz8) (hb2.mono (fun b _ h => .inr (es1 b h)))
   have hS2:Shp w2 g (ty Stamp) (cap*5):=Shp.ofc (by have zh:=hS1; exact zz5) hb2 (fun h => hgT (es1 _ h))
   have hr0_2:=Row.chg (show Row true _ eA0 ek0 (meL x.sig.open_ (K+1+1)) eS0 from by have zh:=hr0_1; exact zz9) hb2 (pwget3_0_1 epw_.out)
   have hr2_2:=Row.chg (show Row true _ eA2 ek2 x.sig.sides eS2 from by have zh:=hr2_1; exact zz11) hb2 (ya5 (pwget3_1_2 epw_.out))
   have hc2:=fun o => hb2.cellC (p:=⟨g,o,none⟩) (Shp.lt (show Shp _ g (ty Stamp) (cap*5) from by have zh:=hS1; exact zz5)) (fun h => hgT (es1 _ h))
   have hf2:=fun o => hS2.frozen o
   go_wp2_with (fail)
   refine (mark_StringS x.sig.sides _ _ _ _ _ (K2) zz34 (by have:=HK3.out; omega) (show Row true _ eA2 ek2 x.sig.sides eS2 from by have zh:=hr2_2; exact zz11) (Nat.le_trans ea2 eb2)).mono ?_
   rw [HK3.out]
   rintro e3 w3 ⟨rfl,hr2_3,hb3⟩
   have hC3:Chg (fun b => b=g∨T k b) wr w3:=Chg.trans (b:=_) (by have zh:=hC2; exact zz8) (hb3.mono (fun b _ h => .inr (es2 b h)))
   have hS3:Shp w3 g (ty Stamp) (cap*5):=Shp.ofc (by have zh:=hS2; exact zz5) hb3 (fun h => hgT (es2 _ h))
   have hr0_3:=Row.chg (show Row true _ eA0 ek0 (meL x.sig.open_ (K+1+1)) eS0 from by have zh:=hr0_2; exact zz9) hb3 (pwget3_0_2 epw_.out)
   have hr1_3:=Row.chg (show Row true _ eA1 ek1 (meL x.sig.shut (K1)) eS1 from by have zh:=hr1_2; exact zz10) hb3 (pwget3_1_2 epw_.out)
   have hc3:=fun o => hb3.cellC (p:=⟨g,o,none⟩) (Shp.lt (show Shp _ g (ty Stamp) (cap*5) from by have zh:=hS2; exact zz5)) (fun h => hgT (es2 _ h))
   have hf3:=fun o => hS3.frozen o
   go_wp2
   go_roundw
   case rel =>
    refine ⟨k+1,zz18,by go_num,by rw [hs2.out]; first | go_num | (congr 1; unfold Stamp.cn; have:=HK1.out; have:=HK2.out; have:=HK3.out; omega),?_,?_⟩
    ·refine Chg.trans hch (Chg.mono (show Chg (fun b => b=g∨T k b) wr _ from by have zh:=hC3; exact zz8) (fun b _ h => h.elim (fun e => e ▸ hg) (fun h => (HT.out k b h).1)))
    ·rw [hst.out,hme.out]
     refine Row.setN (N:=5) (T:=T) (w:=wr) (cs:=[.int .i64 (((K):Nat):Int),.int .i64 (((K+1):Nat):Int),.slice eA0 (meL x.sig.open_ (K+1+1)).length ek0,.slice eA1 (meL x.sig.shut (K1)).length ek1,.slice eA2 (meL x.sig.sides (K2)).length ek2]) rfl hg HT.out HD.out HE.out hlty (show Shp _ g (ty Stamp) (cap*5) from by have zh:=hS3; exact zz5) (fun o ho => ?_) (show Chg (fun b => b=g∨T k b) wr _ from by have zh:=hC3; exact zz8) ?_ ?_
     ·have n0:o≠k*5:=by intro h; apply ho; rw [h]; omega
      have n1:o≠k*5+1:=zz23
      have n2:o≠k*5+2:=zz23
      have n3:o≠k*5+3:=zz23
      have n4:o≠k*5+4:=zz23
      simp only [hc3,hc2,hc1,ya1 _ _ _ o _ n0,ya1 _ _ _ o _ n1,ya1 _ _ _ o _ n2,ya1 _ _ _ o _ n3,ya1 _ _ _ o _ n4]
     ·intro j u hu
      have hj:j<5:=(List.getElem?_eq_some_iff.1 hu).1
      rcases (by omega:j=0∨j=1∨j=2∨j=3∨j=4) with rfl | rfl | rfl | rfl | rfl
      all_goals (have hu:=Option.some.inj hu; subst hu; go_simp; try simp)
     ·exact Stamp.mk' (m:=true) (x:=(⟨(((K):Nat):Int),(⟨(((K+1):Nat):Int),meL x.sig.open_ (K+1+1),meL x.sig.shut (K1),meL x.sig.sides (K2)⟩:Sig)⟩:Stamp)) (S:=T k) (I64_nat zz47) (I64_nat zz47) (by rw [meL_length]; exact ea0) eb0 (show Row true _ eA0 ek0 (meL x.sig.open_ (K+1+1)) eS0 from by have zh:=hr0_3; exact zz9) es0 (by rw [meL_length]; exact ea1) eb1 (show Row true _ eA1 ek1 (meL x.sig.shut (K1)) eS1 from by have zh:=hr1_3; exact zz10) es1 (by rw [meL_length]; exact ea2) eb2 (show Row true _ eA2 ek2 (meL x.sig.sides (K2)) eS2 from by have zh:=hr2_3; exact zz11) es2 (fun _ => epw_.out)
   case measure => simp [intOf]; omega
  ·have hke:k=xs.length:=by omega
   go_wp2
   go_ret; subst hke; refine ⟨zz71,zz84,hch⟩
theorem mark_WholeS (xs:List Whole) (w:World) (A:Option Addr) (cap:Nat) (S:Blks) (a:Int) (k0:Nat) (ha:a=(k0:Int)) (hk:k0+cnL xs≤4611686018427387904) (hx:Row true w A cap xs S) (hl:xs.length≤maxLen) :
  Calls Tryz.prog 96 #[.slice A xs.length cap,.int .i64 a] w fun e w' => e = .returned (.int .i64 ((k0+cnL xs:Nat):Int))∧Row true w' A cap (meL xs k0) S∧Chg S w w':=by
 subst ha
 unfold maxLen at hl
 have hxx:=hx
 rcases hx with ⟨rfl,rfl,rfl⟩ | ⟨g,cur_,rfl,hg,hh_,hcs_,_⟩
 ·go_enter Tryz.func96,Tryz.ntmps96
  go_wp2
  go_loopw [1,5] (fun l i wr => i = .int .i64 0∧l = .int .i64 (k0:Int)∧wr=w) (fun _ _ _ => 0)
  case atStart => exact ⟨rfl,rfl,rfl⟩
  case round =>
   obtain ⟨rfl,rfl,rfl⟩:=hrel
   go_wp2
   go_ret; exact ⟨rfl,.inl ⟨rfl,rfl,rfl⟩,Chg.refl _ _⟩
 have hsh0:Shp w g (ty Whole) (cap*12):=⟨cur_,hh_,hcs_⟩
 clear hh_ hcs_
 go_enter Tryz.func96,Tryz.ntmps96
 go_wp2
 go_loopw [1,5] (fun l i wr => ∃ k:Nat,k≤xs.length∧i = .int .i64 k∧l = .int .i64 ((k0+cnL (xs.take k):Nat):Int)∧Chg S w wr∧Row true wr (some ⟨g,0,none⟩) cap (meL (xs.take k) k0 ++ xs.drop k) S) (fun _ i _ => xs.length - (intOf i).toNat)
 case atStart => exact ⟨0,Nat.zero_le _,rfl,by simp [cnL],Chg.refl _ _,by simpa [meL] using hxx⟩
 case round =>
  obtain ⟨k,hkk,rfl,rfl,hch,hrow⟩:=hrel
  clear hxx
  by_cases hlt:k<xs.length
  ·have hylen:(meL (xs.take k) k0 ++ xs.drop k).length=xs.length:=by simp; omega
   have hstep:=meL_step xs k0 k hlt
   have hat:=meL_at xs k0 k hlt (by rw [hylen]; exact hlt)
   generalize hys:meL (xs.take k) k0 ++ xs.drop k=ys at hrow hylen hat hstep
   have hlty:k<ys.length:=zz18
   have hcs:=cnL_take_succ xs k hlt
   have hcl:=cnL_take_le xs (k+1)
   generalize hK:k0+cnL (xs.take k)=K at hstep
   generalize xs[k]=x at hat hcs hstep
   rw [show Mk.cn x=Whole.cn x from rfl] at hcs
   have hs2:Hid (k0+cnL (xs.take (k+1))=K+Whole.cn x):=zd zz18
   have hKb:K+Whole.cn x≤4611686018427387904:=zz18
   unfold Whole.cn at hKb
   have hst:Hid (meL (xs.take (k+1)) k0 ++ xs.drop (k+1)=ys.set k (Whole.me x K)):=zd hstep
   rcases hrow with ⟨h_,_⟩ | ⟨g2,cur,e_,_,hh,hcz,T,hT,hd,he⟩
   ·cases h_
   cases e_
   have hsh:Shp wr g (ty Whole) (cap*12):=⟨cur,hh,hcz⟩
   have hd:=hd rfl
   have hgl:=hsh.lt
   have hgT : ¬ T k g:=fun h => (hT k g h).2 rfl
   obtain ⟨c1,ha1,hr1⟩:=he k hlty
   rw [hat] at hr1
   have HE:=zd he; have HD:=zd hd; have HT:=zd hT
   clear hcs hcl hstep hat hys he hd hT hh hcz
   obtain ⟨eA0,ek0,eS0,eA1,ek1,eS1,eA2,ek2,eS2,eA3,ek3,eS3,eA4,ek4,eS4,eA5,ek5,eS5,eA6,ek6,eS6,rfl,ef3,ef4,ef5,ef6,ef7,ea0,eb0,er0,es0,ea1,eb1,er1,es1,ea2,eb2,er2,es2,ea3,eb3,er3,es3,ea4,eb4,er4,es4,ea5,eb5,er5,es5,ea6,eb6,er6,es6,epw⟩:=Whole.open hr1
   have epw_:=zd (epw rfl); clear epw
   have q0:wr.cell? ⟨g,k*12,none⟩=some (.slice eA0 x.proof.bucket.length ek0):=by have:=ha1 0 _ rfl; simpa [show Lay.n Whole=12 from rfl] using this
   have q1:wr.cell? ⟨g,k*12+1,none⟩=some (.slice eA1 x.proof.sides.length ek1):=by have:=ha1 1 _ rfl; simpa [show Lay.n Whole=12 from rfl] using this
   have q2:wr.cell? ⟨g,k*12+2,none⟩=some (.slice eA2 x.tops.length ek2):=by have:=ha1 2 _ rfl; simpa [show Lay.n Whole=12 from rfl] using this
   have q3:wr.cell? ⟨g,k*12+3,none⟩=some (.int .i64 x.seal_.head.house):=by have:=ha1 3 _ rfl; simpa [show Lay.n Whole=12 from rfl] using this
   have q4:wr.cell? ⟨g,k*12+4,none⟩=some (.int .i64 x.seal_.head.epoch):=by have:=ha1 4 _ rfl; simpa [show Lay.n Whole=12 from rfl] using this
   have q5:wr.cell? ⟨g,k*12+5,none⟩=some (.string x.seal_.head.root):=by have:=ha1 5 _ rfl; simpa [show Lay.n Whole=12 from rfl] using this
   have q6:wr.cell? ⟨g,k*12+6,none⟩=some (.string x.seal_.head.prev):=by have:=ha1 6 _ rfl; simpa [show Lay.n Whole=12 from rfl] using this
   have q7:wr.cell? ⟨g,k*12+7,none⟩=some (.int .i64 x.seal_.sig.at_):=by have:=ha1 7 _ rfl; simpa [show Lay.n Whole=12 from rfl] using this
   have q8:wr.cell? ⟨g,k*12+8,none⟩=some (.slice eA3 x.seal_.sig.open_.length ek3):=by have:=ha1 8 _ rfl; simpa [show Lay.n Whole=12 from rfl] using this
   have q9:wr.cell? ⟨g,k*12+9,none⟩=some (.slice eA4 x.seal_.sig.shut.length ek4):=by have:=ha1 9 _ rfl; simpa [show Lay.n Whole=12 from rfl] using this
   have q10:wr.cell? ⟨g,k*12+10,none⟩=some (.slice eA5 x.seal_.sig.sides.length ek5):=by have:=ha1 10 _ rfl; simpa [show Lay.n Whole=12 from rfl] using this
   have q11:wr.cell? ⟨g,k*12+11,none⟩=some (.slice eA6 x.stamps.length ek6):=by have:=ha1 11 _ rfl; simpa [show Lay.n Whole=12 from rfl] using this
   clear ha1
   have hf0:=fun o => hsh.frozen o
   obtain ⟨K1,hK1⟩:∃ q,K+cnL x.proof.bucket=q:=⟨_,rfl⟩
   have HK1:=zd hK1; clear hK1
   obtain ⟨K2,hK2⟩:∃ q,K1+cnL x.proof.sides=q:=⟨_,rfl⟩
   have HK2:=zd hK2; clear hK2
   obtain ⟨K3,hK3⟩:∃ q,K2+cnL x.tops=q:=⟨_,rfl⟩
   have HK3:=zd hK3; clear hK3
   obtain ⟨K4,hK4⟩:∃ q,K3+1+1+1+1+1+cnL x.seal_.sig.open_=q:=⟨_,rfl⟩
   have HK4:=zd hK4; clear hK4
   obtain ⟨K5,hK5⟩:∃ q,K4+cnL x.seal_.sig.shut=q:=⟨_,rfl⟩
   have HK5:=zd hK5; clear hK5
   obtain ⟨K6,hK6⟩:∃ q,K5+cnL x.seal_.sig.sides=q:=⟨_,rfl⟩
   have HK6:=zd hK6; clear hK6
   obtain ⟨K7,hK7⟩:∃ q,K6+cnL x.stamps=q:=⟨_,rfl⟩
   have HK7:=zd hK7; clear hK7
   have hme:Hid (Whole.me x K=(⟨(⟨meL x.proof.bucket (K),meL x.proof.sides (K1)⟩:Proof),meL x.tops (K2),(⟨(⟨(((K3):Nat):Int),(((K3+1):Nat):Int),mtext (K3+1+1),mtext (K3+1+1+1)⟩:Head),(⟨(((K3+1+1+1+1):Nat):Int),meL x.seal_.sig.open_ (K3+1+1+1+1+1),meL x.seal_.sig.shut (K4),meL x.seal_.sig.sides (K5)⟩:Sig)⟩:Seal),meL x.stamps (K6)⟩:Whole)):=zd (by simp only [Whole.me,HK1.out,HK2.out,HK3.out,HK4.out,HK5.out,HK6.out,HK7.out])
   have hKb0:K+0≤4611686018427387904:=zz33
   have hKb1:K1+0≤4611686018427387904:=zz33
   have hKb2:K2+0≤4611686018427387904:=zz33
   have hKb3:K3+5≤4611686018427387904:=zz33
   have hKb4:K4+0≤4611686018427387904:=zz33
   have hKb5:K5+0≤4611686018427387904:=zz33
   have hKb6:K6+0≤4611686018427387904:=zz33
   have hKb7:K7+0≤4611686018427387904:=zz33
   have hC0:Chg (fun b => b=g∨T k b) wr wr:=Chg.refl _ _
   have hS0:=hsh
   go_wp2_with (fail)
   refine (mark_LeafS x.proof.bucket _ _ _ _ _ (K) zz34 (by have:=HK1.out; omega) (show Row true _ eA0 ek0 x.proof.bucket eS0 from by have zh:=er0; exact zz9) (Nat.le_trans ea0 eb0)).mono ?_
   rw [HK1.out]
   rintro e1 w1 ⟨rfl,hr0_1,hb1⟩
   have hC1:Chg (fun b => b=g∨T k b) wr w1:=Chg.trans (b:=_) (by have zh:=hC0; exact zz8) (hb1.mono (fun b _ h => .inr (es0 b h)))
   have hS1:Shp w1 g (ty Whole) (cap*12):=Shp.ofc (by have zh:=hS0; exact zz5) hb1 (fun h => hgT (es0 _ h))
   have hr1_1:=Row.chg (show Row true _ eA1 ek1 x.proof.sides eS1 from by have zh:=er1; exact zz10) hb1 (ya5 (pwget7_0_1 epw_.out))
   have hr2_1:=Row.chg (show Row true _ eA2 ek2 x.tops eS2 from by have zh:=er2; exact zz11) hb1 (ya5 (pwget7_0_2 epw_.out))
   have hr3_1:=Row.chg (show Row true _ eA3 ek3 x.seal_.sig.open_ eS3 from by have zh:=er3; exact zz16) hb1 (ya5 (pwget7_0_3 epw_.out))
   have hr4_1:=Row.chg (show Row true _ eA4 ek4 x.seal_.sig.shut eS4 from by have zh:=er4; exact zz20) hb1 (ya5 (pwget7_0_4 epw_.out))
   have hr5_1:=Row.chg (show Row true _ eA5 ek5 x.seal_.sig.sides eS5 from by have zh:=er5; exact zz21) hb1 (ya5 (pwget7_0_5 epw_.out))
   have hr6_1:=Row.chg (show Row true _ eA6 ek6 x.stamps eS6 from by have zh:=er6; exact zz30) hb1 (ya5 (pwget7_0_6 epw_.out))
   have hc1:=fun o => hb1.cellC (p:=⟨g,o,none⟩) (Shp.lt (show Shp _ g (ty Whole) (cap*12) from by have zh:=hS0; exact zz5)) (fun h => hgT (es0 _ h))
   have hf1:=fun o => hS1.frozen o
   go_wp2_with (fail)
   refine (mark_StringS x.proof.sides _ _ _ _ _ (K1) zz34 (by have:=HK2.out; omega) (show Row true _ eA1 ek1 x.proof.sides eS1 from by have zh:=hr1_1; exact zz10) (Nat.le_trans ea1 eb1)).mono ?_
   rw [HK2.out]
   rintro e2 w2 ⟨rfl,hr1_2,hb2⟩
   have hC2:Chg (fun b => b=g∨T k b) wr w2:=Chg.trans (b:=_) (by have zh:=hC1; exact zz8) (hb2.mono (fun b _ h => .inr (es1 b h)))
   have hS2:Shp w2 g (ty Whole) (cap*12):=Shp.ofc (by have zh:=hS1; exact zz5) hb2 (fun h => hgT (es1 _ h))
   have hr0_2:=Row.chg (show Row true _ eA0 ek0 (meL x.proof.bucket (K)) eS0 from by have zh:=hr0_1; exact zz9) hb2 (pwget7_0_1 epw_.out)
   have hr2_2:=Row.chg (show Row true _ eA2 ek2 x.tops eS2 from by have zh:=hr2_1; exact zz11) hb2 (ya5 (pwget7_1_2 epw_.out))
   have hr3_2:=Row.chg (show Row true _ eA3 ek3 x.seal_.sig.open_ eS3 from by have zh:=hr3_1; exact zz16) hb2 (ya5 (pwget7_1_3 epw_.out))
   have hr4_2:=Row.chg (show Row true _ eA4 ek4 x.seal_.sig.shut eS4 from by have zh:=hr4_1; exact zz20) hb2 (ya5 (pwget7_1_4 epw_.out))
   have hr5_2:=Row.chg (show Row true _ eA5 ek5 x.seal_.sig.sides eS5 from by have zh:=hr5_1; exact zz21) hb2 (ya5 (pwget7_1_5 epw_.out))
   have hr6_2:=Row.chg (show Row true _ eA6 ek6 x.stamps eS6 from by have zh:=hr6_1; exact zz30) hb2 (ya5 (pwget7_1_6 epw_.out))
   have hc2:=fun o => hb2.cellC (p:=⟨g,o,none⟩) (Shp.lt (show Shp _ g (ty Whole) (cap*12) from by have zh:=hS1; exact zz5)) (fun h => hgT (es1 _ h))
   have hf2:=fun o => hS2.frozen o
   go_wp2_with (fail)
   refine (mark_StringS x.tops _ _ _ _ _ (K2) zz34 (by have:=HK3.out; omega) (show Row true _ eA2 ek2 x.tops eS2 from by have zh:=hr2_2; exact zz11) (Nat.le_trans ea2 eb2)).mono ?_
   rw [HK3.out]
   rintro e3 w3 ⟨rfl,hr2_3,hb3⟩
   have hC3:Chg (fun b => b=g∨T k b) wr w3:=Chg.trans (b:=_) (by have zh:=hC2; exact zz8) (hb3.mono (fun b _ h => .inr (es2 b h)))
   have hS3:Shp w3 g (ty Whole) (cap*12):=Shp.ofc (by have zh:=hS2; exact zz5) hb3 (fun h => hgT (es2 _ h))
   have hr0_3:=Row.chg (show Row true _ eA0 ek0 (meL x.proof.bucket (K)) eS0 from by have zh:=hr0_2; exact zz9) hb3 (pwget7_0_2 epw_.out)
   have hr1_3:=Row.chg (show Row true _ eA1 ek1 (meL x.proof.sides (K1)) eS1 from by have zh:=hr1_2; exact zz10) hb3 (pwget7_1_2 epw_.out)
   have hr3_3:=Row.chg (show Row true _ eA3 ek3 x.seal_.sig.open_ eS3 from by have zh:=hr3_2; exact zz16) hb3 (ya5 (pwget7_2_3 epw_.out))
   have hr4_3:=Row.chg (show Row true _ eA4 ek4 x.seal_.sig.shut eS4 from by have zh:=hr4_2; exact zz20) hb3 (ya5 (pwget7_2_4 epw_.out))
   have hr5_3:=Row.chg (show Row true _ eA5 ek5 x.seal_.sig.sides eS5 from by have zh:=hr5_2; exact zz21) hb3 (ya5 (pwget7_2_5 epw_.out))
   have hr6_3:=Row.chg (show Row true _ eA6 ek6 x.stamps eS6 from by have zh:=hr6_2; exact zz30) hb3 (ya5 (pwget7_2_6 epw_.out))
   have hc3:=fun o => hb3.cellC (p:=⟨g,o,none⟩) (Shp.lt (show Shp _ g (ty Whole) (cap*12) from by have zh:=hS2; exact zz5)) (fun h => hgT (es2 _ h))
   have hf3:=fun o => hS3.frozen o
   go_wp2_with (fail)
   refine (mark_Text _ (K3+1+1) zz34 zz18 _).mono ?_
   rintro e4 w4 ⟨rfl,hb4⟩
   have hC4:Chg (fun b => b=g∨T k b) wr w4:=Chg.trans (b:=_) (by have zh:=hC3; exact zz8) (hb4.chg_ (fun b => b=g∨T k b))
   have hS4:Shp w4 g (ty Whole) (cap*12):=Shp.ofb (by have zh:=hS3; exact zz5) hb4
   have hr0_4:=Row.later (show Row true _ eA0 ek0 (meL x.proof.bucket (K)) eS0 from by have zh:=hr0_3; exact zz9) hb4
   have hr1_4:=Row.later (show Row true _ eA1 ek1 (meL x.proof.sides (K1)) eS1 from by have zh:=hr1_3; exact zz10) hb4
   have hr2_4:=Row.later (show Row true _ eA2 ek2 (meL x.tops (K2)) eS2 from by have zh:=hr2_3; exact zz11) hb4
   have hr3_4:=Row.later (show Row true _ eA3 ek3 x.seal_.sig.open_ eS3 from by have zh:=hr3_3; exact zz16) hb4
   have hr4_4:=Row.later (show Row true _ eA4 ek4 x.seal_.sig.shut eS4 from by have zh:=hr4_3; exact zz20) hb4
   have hr5_4:=Row.later (show Row true _ eA5 ek5 x.seal_.sig.sides eS5 from by have zh:=hr5_3; exact zz21) hb4
   have hr6_4:=Row.later (show Row true _ eA6 ek6 x.stamps eS6 from by have zh:=hr6_3; exact zz30) hb4
   have hc4:=fun o => hb4.cell (p:=⟨g,o,none⟩) (Shp.lt (show Shp _ g (ty Whole) (cap*12) from by have zh:=hS3; exact zz5))
   have hf4:=fun o => hS4.frozen o
   go_wp2_with (fail)
   refine (mark_Text _ (K3+1+1+1) zz34 zz18 _).mono ?_
   rintro e5 w5 ⟨rfl,hb5⟩
   have hC5:Chg (fun b => b=g∨T k b) wr w5:=Chg.trans (b:=_) (by have zh:=hC4; exact zz8) (hb5.chg_ (fun b => b=g∨T k b))
   have hS5:Shp w5 g (ty Whole) (cap*12):=Shp.ofb (by have zh:=hS4; exact zz5) hb5
   have hr0_5:=Row.later (show Row true _ eA0 ek0 (meL x.proof.bucket (K)) eS0 from by have zh:=hr0_4; exact zz9) hb5
   have hr1_5:=Row.later (show Row true _ eA1 ek1 (meL x.proof.sides (K1)) eS1 from by have zh:=hr1_4; exact zz10) hb5
   have hr2_5:=Row.later (show Row true _ eA2 ek2 (meL x.tops (K2)) eS2 from by have zh:=hr2_4; exact zz11) hb5
   have hr3_5:=Row.later (show Row true _ eA3 ek3 x.seal_.sig.open_ eS3 from by have zh:=hr3_4; exact zz16) hb5
   have hr4_5:=Row.later (show Row true _ eA4 ek4 x.seal_.sig.shut eS4 from by have zh:=hr4_4; exact zz20) hb5
   have hr5_5:=Row.later (show Row true _ eA5 ek5 x.seal_.sig.sides eS5 from by have zh:=hr5_4; exact zz21) hb5
   have hr6_5:=Row.later (show Row true _ eA6 ek6 x.stamps eS6 from by have zh:=hr6_4; exact zz30) hb5
   have hc5:=fun o => hb5.cell (p:=⟨g,o,none⟩) (Shp.lt (show Shp _ g (ty Whole) (cap*12) from by have zh:=hS4; exact zz5))
   have hf5:=fun o => hS5.frozen o
   go_wp2_with (fail)
   refine (mark_StringS x.seal_.sig.open_ _ _ _ _ _ (K3+1+1+1+1+1) zz34 (by have:=HK4.out; omega) (show Row true _ eA3 ek3 x.seal_.sig.open_ eS3 from by have zh:=hr3_5; exact zz16) (Nat.le_trans ea3 eb3)).mono ?_
   rw [HK4.out]
   rintro e6 w6 ⟨rfl,hr3_6,hb6⟩
   have hC6:Chg (fun b => b=g∨T k b) wr w6:=Chg.trans (b:=_) (by have zh:=hC5; exact zz8) (hb6.mono (fun b _ h => .inr (es3 b h)))
   have hS6:Shp w6 g (ty Whole) (cap*12):=Shp.ofc (by have zh:=hS5; exact zz5) hb6 (fun h => hgT (es3 _ h))
   have hr0_6:=Row.chg (show Row true _ eA0 ek0 (meL x.proof.bucket (K)) eS0 from by have zh:=hr0_5; exact zz9) hb6 (pwget7_0_3 epw_.out)
   have hr1_6:=Row.chg (show Row true _ eA1 ek1 (meL x.proof.sides (K1)) eS1 from by have zh:=hr1_5; exact zz10) hb6 (pwget7_1_3 epw_.out)
   have hr2_6:=Row.chg (show Row true _ eA2 ek2 (meL x.tops (K2)) eS2 from by have zh:=hr2_5; exact zz11) hb6 (pwget7_2_3 epw_.out)
   have hr4_6:=Row.chg (show Row true _ eA4 ek4 x.seal_.sig.shut eS4 from by have zh:=hr4_5; exact zz20) hb6 (ya5 (pwget7_3_4 epw_.out))
   have hr5_6:=Row.chg (show Row true _ eA5 ek5 x.seal_.sig.sides eS5 from by have zh:=hr5_5; exact zz21) hb6 (ya5 (pwget7_3_5 epw_.out))
   have hr6_6:=Row.chg (show Row true _ eA6 ek6 x.stamps eS6 from by have zh:=hr6_5; exact zz30) hb6 (ya5 (pwget7_3_6 epw_.out))
   have hc6:=fun o => hb6.cellC (p:=⟨g,o,none⟩) (Shp.lt (show Shp _ g (ty Whole) (cap*12) from by have zh:=hS5; exact zz5)) (fun h => hgT (es3 _ h))
   have hf6:=fun o => hS6.frozen o
   go_wp2_with (fail)
   refine (mark_StringS x.seal_.sig.shut _ _ _ _ _ (K4) zz34 (by have:=HK5.out; omega) (show Row true _ eA4 ek4 x.seal_.sig.shut eS4 from by have zh:=hr4_6; exact zz20) (Nat.le_trans ea4 eb4)).mono ?_
   rw [HK5.out]
   rintro e7 w7 ⟨rfl,hr4_7,hb7⟩
   have hC7:Chg (fun b => b=g∨T k b) wr w7:=Chg.trans (b:=_) (by have zh:=hC6; exact zz8) (hb7.mono (fun b _ h => .inr (es4 b h)))
   have hS7:Shp w7 g (ty Whole) (cap*12):=Shp.ofc (by have zh:=hS6; exact zz5) hb7 (fun h => hgT (es4 _ h))
   have hr0_7:=Row.chg (show Row true _ eA0 ek0 (meL x.proof.bucket (K)) eS0 from by have zh:=hr0_6; exact zz9) hb7 (pwget7_0_4 epw_.out)
   have hr1_7:=Row.chg (show Row true _ eA1 ek1 (meL x.proof.sides (K1)) eS1 from by have zh:=hr1_6; exact zz10) hb7 (pwget7_1_4 epw_.out)
   have hr2_7:=Row.chg (show Row true _ eA2 ek2 (meL x.tops (K2)) eS2 from by have zh:=hr2_6; exact zz11) hb7 (pwget7_2_4 epw_.out)
   have hr3_7:=Row.chg (show Row true _ eA3 ek3 (meL x.seal_.sig.open_ (K3+1+1+1+1+1)) eS3 from by have zh:=hr3_6; exact zz16) hb7 (pwget7_3_4 epw_.out)
   have hr5_7:=Row.chg (show Row true _ eA5 ek5 x.seal_.sig.sides eS5 from by have zh:=hr5_6; exact zz21) hb7 (ya5 (pwget7_4_5 epw_.out))
   have hr6_7:=Row.chg (show Row true _ eA6 ek6 x.stamps eS6 from by have zh:=hr6_6; exact zz30) hb7 (ya5 (pwget7_4_6 epw_.out))
   have hc7:=fun o => hb7.cellC (p:=⟨g,o,none⟩) (Shp.lt (show Shp _ g (ty Whole) (cap*12) from by have zh:=hS6; exact zz5)) (fun h => hgT (es4 _ h))
   have hf7:=fun o => hS7.frozen o
   go_wp2_with (fail)
   refine (mark_StringS x.seal_.sig.sides _ _ _ _ _ (K5) zz34 (by have:=HK6.out; omega) (show Row true _ eA5 ek5 x.seal_.sig.sides eS5 from by have zh:=hr5_7; exact zz21) (Nat.le_trans ea5 eb5)).mono ?_
   rw [HK6.out]
   rintro e8 w8 ⟨rfl,hr5_8,hb8⟩
   have hC8:Chg (fun b => b=g∨T k b) wr w8:=Chg.trans (b:=_) (by have zh:=hC7; exact zz8) (hb8.mono (fun b _ h => .inr (es5 b h)))
   have hS8:Shp w8 g (ty Whole) (cap*12):=Shp.ofc (by have zh:=hS7; exact zz5) hb8 (fun h => hgT (es5 _ h))
   have hr0_8:=Row.chg (show Row true _ eA0 ek0 (meL x.proof.bucket (K)) eS0 from by have zh:=hr0_7; exact zz9) hb8 (pwget7_0_5 epw_.out)
   have hr1_8:=Row.chg (show Row true _ eA1 ek1 (meL x.proof.sides (K1)) eS1 from by have zh:=hr1_7; exact zz10) hb8 (pwget7_1_5 epw_.out)
   have hr2_8:=Row.chg (show Row true _ eA2 ek2 (meL x.tops (K2)) eS2 from by have zh:=hr2_7; exact zz11) hb8 (pwget7_2_5 epw_.out)
   have hr3_8:=Row.chg (show Row true _ eA3 ek3 (meL x.seal_.sig.open_ (K3+1+1+1+1+1)) eS3 from by have zh:=hr3_7; exact zz16) hb8 (pwget7_3_5 epw_.out)
   have hr4_8:=Row.chg (show Row true _ eA4 ek4 (meL x.seal_.sig.shut (K4)) eS4 from by have zh:=hr4_7; exact zz20) hb8 (pwget7_4_5 epw_.out)
   have hr6_8:=Row.chg (show Row true _ eA6 ek6 x.stamps eS6 from by have zh:=hr6_7; exact zz30) hb8 (ya5 (pwget7_5_6 epw_.out))
   have hc8:=fun o => hb8.cellC (p:=⟨g,o,none⟩) (Shp.lt (show Shp _ g (ty Whole) (cap*12) from by have zh:=hS7; exact zz5)) (fun h => hgT (es5 _ h))
   have hf8:=fun o => hS8.frozen o
   go_wp2_with (fail)
   refine (mark_StampS x.stamps _ _ _ _ _ (K6) zz34 (by have:=HK7.out; omega) (show Row true _ eA6 ek6 x.stamps eS6 from by have zh:=hr6_8; exact zz30) (Nat.le_trans ea6 eb6)).mono ?_
   rw [HK7.out]
   rintro e9 w9 ⟨rfl,hr6_9,hb9⟩
   have hC9:Chg (fun b => b=g∨T k b) wr w9:=Chg.trans (b:=_) (by have zh:=hC8; exact zz8) (hb9.mono (fun b _ h => .inr (es6 b h)))
   have hS9:Shp w9 g (ty Whole) (cap*12):=Shp.ofc (by have zh:=hS8; exact zz5) hb9 (fun h => hgT (es6 _ h))
   have hr0_9:=Row.chg (show Row true _ eA0 ek0 (meL x.proof.bucket (K)) eS0 from by have zh:=hr0_8; exact zz9) hb9 (pwget7_0_6 epw_.out)
   have hr1_9:=Row.chg (show Row true _ eA1 ek1 (meL x.proof.sides (K1)) eS1 from by have zh:=hr1_8; exact zz10) hb9 (pwget7_1_6 epw_.out)
   have hr2_9:=Row.chg (show Row true _ eA2 ek2 (meL x.tops (K2)) eS2 from by have zh:=hr2_8; exact zz11) hb9 (pwget7_2_6 epw_.out)
   have hr3_9:=Row.chg (show Row true _ eA3 ek3 (meL x.seal_.sig.open_ (K3+1+1+1+1+1)) eS3 from by have zh:=hr3_8; exact zz16) hb9 (pwget7_3_6 epw_.out)
   have hr4_9:=Row.chg (show Row true _ eA4 ek4 (meL x.seal_.sig.shut (K4)) eS4 from by have zh:=hr4_8; exact zz20) hb9 (pwget7_4_6 epw_.out)
   have hr5_9:=Row.chg (show Row true _ eA5 ek5 (meL x.seal_.sig.sides (K5)) eS5 from by have zh:=hr5_8; exact zz21) hb9 (pwget7_5_6 epw_.out)
   have hc9:=fun o => hb9.cellC (p:=⟨g,o,none⟩) (Shp.lt (show Shp _ g (ty Whole) (cap*12) from by have zh:=hS8; exact zz5)) (fun h => hgT (es6 _ h))
   have hf9:=fun o => hS9.frozen o
   go_wp2
   go_roundw
   case rel =>
    refine ⟨k+1,zz18,by go_num,by rw [hs2.out]; first | go_num | (congr 1; unfold Whole.cn; have:=HK1.out; have:=HK2.out; have:=HK3.out; have:=HK4.out; have:=HK5.out; have:=HK6.out; have:=HK7.out; omega),?_,?_⟩
    ·refine Chg.trans hch (Chg.mono (show Chg (fun b => b=g∨T k b) wr _ from by have zh:=hC9; exact zz8) (fun b _ h => h.elim (fun e => e ▸ hg) (fun h => (HT.out k b h).1)))
    ·rw [hst.out,hme.out]
     refine Row.setN (N:=12) (T:=T) (w:=wr) (cs:=[.slice eA0 (meL x.proof.bucket (K)).length ek0,.slice eA1 (meL x.proof.sides (K1)).length ek1,.slice eA2 (meL x.tops (K2)).length ek2,.int .i64 (((K3):Nat):Int),.int .i64 (((K3+1):Nat):Int),.string (mtext (K3+1+1)),.string (mtext (K3+1+1+1)),.int .i64 (((K3+1+1+1+1):Nat):Int),.slice eA3 (meL x.seal_.sig.open_ (K3+1+1+1+1+1)).length ek3,.slice eA4 (meL x.seal_.sig.shut (K4)).length ek4,.slice eA5 (meL x.seal_.sig.sides (K5)).length ek5,.slice eA6 (meL x.stamps (K6)).length ek6]) rfl hg HT.out HD.out HE.out hlty (show Shp _ g (ty Whole) (cap*12) from by have zh:=hS9; exact zz5) (fun o ho => ?_) (show Chg (fun b => b=g∨T k b) wr _ from by have zh:=hC9; exact zz8) ?_ ?_
     ·have n0:o≠k*12:=by intro h; apply ho; rw [h]; omega
      have n1:o≠k*12+1:=zz23
      have n2:o≠k*12+2:=zz23
      have n3:o≠k*12+3:=zz23
      have n4:o≠k*12+4:=zz23
      have n5:o≠k*12+5:=zz23
      have n6:o≠k*12+6:=zz23
      have n7:o≠k*12+7:=zz23
      have n8:o≠k*12+8:=zz23
      have n9:o≠k*12+9:=zz23
      have n10:o≠k*12+10:=zz23
      have n11:o≠k*12+11:=zz23
      simp only [hc9,hc8,hc7,hc6,hc5,hc4,hc3,hc2,hc1,ya1 _ _ _ o _ n0,ya1 _ _ _ o _ n1,ya1 _ _ _ o _ n2,ya1 _ _ _ o _ n3,ya1 _ _ _ o _ n4,ya1 _ _ _ o _ n5,ya1 _ _ _ o _ n6,ya1 _ _ _ o _ n7,ya1 _ _ _ o _ n8,ya1 _ _ _ o _ n9,ya1 _ _ _ o _ n10,ya1 _ _ _ o _ n11]
     ·intro j u hu
      have hj:j<12:=(List.getElem?_eq_some_iff.1 hu).1
      rcases (by omega:j=0∨j=1∨j=2∨j=3∨j=4∨j=5∨j=6∨j=7∨j=8∨j=9∨j=10∨j=11) with rfl | rfl | rfl | rfl | rfl | rfl | rfl | rfl | rfl | rfl | rfl | rfl
      all_goals (have hu:=Option.some.inj hu; subst hu; go_simp; try simp)
     ·exact Whole.mk' (m:=true) (x:=(⟨(⟨meL x.proof.bucket (K),meL x.proof.sides (K1)⟩:Proof),meL x.tops (K2),(⟨(⟨(((K3):Nat):Int),(((K3+1):Nat):Int),mtext (K3+1+1),mtext (K3+1+1+1)⟩:Head),(⟨(((K3+1+1+1+1):Nat):Int),meL x.seal_.sig.open_ (K3+1+1+1+1+1),meL x.seal_.sig.shut (K4),meL x.seal_.sig.sides (K5)⟩:Sig)⟩:Seal),meL x.stamps (K6)⟩:Whole)) (S:=T k) (by rw [meL_length]; exact ea0) eb0 (show Row true _ eA0 ek0 (meL x.proof.bucket (K)) eS0 from by have zh:=hr0_9; exact zz9) es0 (by rw [meL_length]; exact ea1) eb1 (show Row true _ eA1 ek1 (meL x.proof.sides (K1)) eS1 from by have zh:=hr1_9; exact zz10) es1 (by rw [meL_length]; exact ea2) eb2 (show Row true _ eA2 ek2 (meL x.tops (K2)) eS2 from by have zh:=hr2_9; exact zz11) es2 (I64_nat zz33) (I64_nat zz33) (mtext_size (K3+1+1) zz33) (mtext_size (K3+1+1+1) zz33) (I64_nat zz33) (by rw [meL_length]; exact ea3) eb3 (show Row true _ eA3 ek3 (meL x.seal_.sig.open_ (K3+1+1+1+1+1)) eS3 from by have zh:=hr3_9; exact zz16) es3 (by rw [meL_length]; exact ea4) eb4 (show Row true _ eA4 ek4 (meL x.seal_.sig.shut (K4)) eS4 from by have zh:=hr4_9; exact zz20) es4 (by rw [meL_length]; exact ea5) eb5 (show Row true _ eA5 ek5 (meL x.seal_.sig.sides (K5)) eS5 from by have zh:=hr5_9; exact zz21) es5 (by rw [meL_length]; exact ea6) eb6 (show Row true _ eA6 ek6 (meL x.stamps (K6)) eS6 from by have zh:=hr6_9; exact zz30) es6 (fun _ => epw_.out)
   case measure => simp [intOf]; omega
  ·have hke:k=xs.length:=by omega
   go_wp2
   go_ret; subst hke; refine ⟨zz71,zz84,hch⟩
theorem markr_Past (x:Past) (w:World) (A0:Option Addr) (k0:Nat) (S0:Blks) (a:Int) (k:Nat) (ha:a=(k:Int)) (hk:k+x.ct≤4611686018427387904) (r0:Row true w A0 k0 x.wholes S0) (l0:x.wholes.length≤maxLen) :
  Calls Tryz.prog 28 #[.agg (Past.cs x A0 k0).toArray,.int .i64 a] w fun e w' => e = .returned (.int .i64 ((k+x.ct:Nat):Int))∧(Row true w' A0 k0 (meL x.wholes (k)) S0)∧Chg S0 w w':=by
 subst ha
 unfold Past.ct at hk
 obtain ⟨K0,hK0⟩:∃ q,k+cnL x.wholes=q:=⟨_,rfl⟩
 have hfin:Hid (((k+x.ct:Nat):Int)=(K0:Int)):=zd (by unfold Past.ct; omega)
 have HK0:=zd hK0; clear hK0
 rw [hfin.out]
 have t0_0:=r0.tight
 clear r0
 have hC0:Chg S0 w w:=Chg.refl _ _
 have hz0:=Nat.le_refl w.heap.size
 simp only [Past.cs]
 go_enter Tryz.func28,Tryz.ntmps28
 go_wp2_with (fail)
 refine (mark_WholeS x.wholes _ _ _ (fun b => S0 b∧b<w.heap.size) _ k (by first | rfl | omega) (by have:=HK0.out; omega) (show Row true _ A0 k0 x.wholes (fun b => S0 b∧b<w.heap.size) from by have zh:=t0_0; exact zz26) l0).mono ?_
 rw [HK0.out]
 rintro e1 w1 ⟨rfl,t1_0,hb1⟩
 have hV1:∀ b,(fun b => S0 b∧b<w.heap.size) b→b<w.heap.size:=(fun b (h:(fun b => S0 b∧b<w.heap.size) b) => (show b<w.heap.size from by exact h.2))
 have hz1:w.heap.size+1≤w1.heap.size:=zz35
 have hC1:Chg S0 w w1:=Chg.trans (b:=_) (by have zh:=hC0; exact zz59) (hb1.mono (fun b _ h => (ya3 _) b h.1))
 have hc1:=fun o => hb1.cellC (p:=⟨w.heap.size,o,none⟩) zz0 (fun h => absurd (hV1 _ h) (Nat.lt_irrefl _))
 go_wp2
 go_ret
 exact ⟨rfl,Row.mono (show Row true _ A0 k0 (meL x.wholes k) (fun b => S0 b∧b<w.heap.size) from by have zh:=t1_0; exact zz26) (fun _ x => x.1),by have zh:=hC1; exact zz59⟩
theorem mark_Past (x:Past) (w:World) (cs:List Value) (S:Blks) (a:Int) (k:Nat) (ha:a=(k:Int)) (hk:k+x.ct≤4611686018427387904) (hx:rd true w cs x S) :
  Calls Tryz.prog 28 #[.agg cs.toArray,.int .i64 a] w fun e w' => e = .returned (.int .i64 ((k+x.ct:Nat):Int))∧rd true w' cs (x.mt k) S∧Chg S w w':=by
 obtain ⟨A0,k0,S0,rfl,a0,b0,r0,s0⟩:=Past.open hx
 refine (markr_Past x w A0 k0 S0 a k ha hk r0 (Nat.le_trans a0 b0)).mono ?_
 rintro e w1 ⟨rfl,t0,hb⟩
 have hm:rd true w1 (Past.cs (⟨meL x.wholes (k)⟩:Past) A0 k0) (⟨meL x.wholes (k)⟩:Past) S:=Past.mk' (x:=(⟨meL x.wholes (k)⟩:Past)) (by rw [meL_length]; exact a0) b0 t0 s0
 refine ⟨rfl,?_,hb.mono (fun b _ h => (show S b from s0 b h))⟩
 simpa only [Past.cs,meL_length,Past.mt] using hm
theorem mark_SealS (xs:List Seal) (w:World) (A:Option Addr) (cap:Nat) (S:Blks) (a:Int) (k0:Nat) (ha:a=(k0:Int)) (hk:k0+cnL xs≤4611686018427387904) (hx:Row true w A cap xs S) (hl:xs.length≤maxLen) :
  Calls Tryz.prog 43 #[.slice A xs.length cap,.int .i64 a] w fun e w' => e = .returned (.int .i64 ((k0+cnL xs:Nat):Int))∧Row true w' A cap (meL xs k0) S∧Chg S w w':=by
 subst ha
 unfold maxLen at hl
 have hxx:=hx
 rcases hx with ⟨rfl,rfl,rfl⟩ | ⟨g,cur_,rfl,hg,hh_,hcs_,_⟩
 ·go_enter Tryz.func43,Tryz.ntmps43
  go_wp2
  go_loopw [1,5] (fun l i wr => i = .int .i64 0∧l = .int .i64 (k0:Int)∧wr=w) (fun _ _ _ => 0)
  case atStart => exact ⟨rfl,rfl,rfl⟩
  case round =>
   obtain ⟨rfl,rfl,rfl⟩:=hrel
   go_wp2
   go_ret; exact ⟨rfl,.inl ⟨rfl,rfl,rfl⟩,Chg.refl _ _⟩
 have hsh0:Shp w g (ty Seal) (cap*8):=⟨cur_,hh_,hcs_⟩
 clear hh_ hcs_
 go_enter Tryz.func43,Tryz.ntmps43
 go_wp2
 go_loopw [1,5] (fun l i wr => ∃ k:Nat,k≤xs.length∧i = .int .i64 k∧l = .int .i64 ((k0+cnL (xs.take k):Nat):Int)∧Chg S w wr∧Row true wr (some ⟨g,0,none⟩) cap (meL (xs.take k) k0 ++ xs.drop k) S) (fun _ i _ => xs.length - (intOf i).toNat)
 case atStart => exact ⟨0,Nat.zero_le _,rfl,by simp [cnL],Chg.refl _ _,by simpa [meL] using hxx⟩
 case round =>
  obtain ⟨k,hkk,rfl,rfl,hch,hrow⟩:=hrel
  clear hxx
  by_cases hlt:k<xs.length
  ·have hylen:(meL (xs.take k) k0 ++ xs.drop k).length=xs.length:=by simp; omega
   have hstep:=meL_step xs k0 k hlt
   have hat:=meL_at xs k0 k hlt (by rw [hylen]; exact hlt)
   generalize hys:meL (xs.take k) k0 ++ xs.drop k=ys at hrow hylen hat hstep
   have hlty:k<ys.length:=zz18
   have hcs:=cnL_take_succ xs k hlt
   have hcl:=cnL_take_le xs (k+1)
   generalize hK:k0+cnL (xs.take k)=K at hstep
   generalize xs[k]=x at hat hcs hstep
   rw [show Mk.cn x=Seal.cn x from rfl] at hcs
   have hs2:Hid (k0+cnL (xs.take (k+1))=K+Seal.cn x):=zd zz18
   have hKb:K+Seal.cn x≤4611686018427387904:=zz18
   unfold Seal.cn at hKb
   have hst:Hid (meL (xs.take (k+1)) k0 ++ xs.drop (k+1)=ys.set k (Seal.me x K)):=zd hstep
   rcases hrow with ⟨h_,_⟩ | ⟨g2,cur,e_,_,hh,hcz,T,hT,hd,he⟩
   ·cases h_
   cases e_
   have hsh:Shp wr g (ty Seal) (cap*8):=⟨cur,hh,hcz⟩
   have hd:=hd rfl
   have hgl:=hsh.lt
   have hgT : ¬ T k g:=fun h => (hT k g h).2 rfl
   obtain ⟨c1,ha1,hr1⟩:=he k hlty
   rw [hat] at hr1
   have HE:=zd he; have HD:=zd hd; have HT:=zd hT
   clear hcs hcl hstep hat hys he hd hT hh hcz
   obtain ⟨eA0,ek0,eS0,eA1,ek1,eS1,eA2,ek2,eS2,rfl,ef0,ef1,ef2,ef3,ef4,ea0,eb0,er0,es0,ea1,eb1,er1,es1,ea2,eb2,er2,es2,epw⟩:=Seal.open hr1
   have epw_:=zd (epw rfl); clear epw
   have q0:wr.cell? ⟨g,k*8,none⟩=some (.int .i64 x.head.house):=by have:=ha1 0 _ rfl; simpa [show Lay.n Seal=8 from rfl] using this
   have q1:wr.cell? ⟨g,k*8+1,none⟩=some (.int .i64 x.head.epoch):=by have:=ha1 1 _ rfl; simpa [show Lay.n Seal=8 from rfl] using this
   have q2:wr.cell? ⟨g,k*8+2,none⟩=some (.string x.head.root):=by have:=ha1 2 _ rfl; simpa [show Lay.n Seal=8 from rfl] using this
   have q3:wr.cell? ⟨g,k*8+3,none⟩=some (.string x.head.prev):=by have:=ha1 3 _ rfl; simpa [show Lay.n Seal=8 from rfl] using this
   have q4:wr.cell? ⟨g,k*8+4,none⟩=some (.int .i64 x.sig.at_):=by have:=ha1 4 _ rfl; simpa [show Lay.n Seal=8 from rfl] using this
   have q5:wr.cell? ⟨g,k*8+5,none⟩=some (.slice eA0 x.sig.open_.length ek0):=by have:=ha1 5 _ rfl; simpa [show Lay.n Seal=8 from rfl] using this
   have q6:wr.cell? ⟨g,k*8+6,none⟩=some (.slice eA1 x.sig.shut.length ek1):=by have:=ha1 6 _ rfl; simpa [show Lay.n Seal=8 from rfl] using this
   have q7:wr.cell? ⟨g,k*8+7,none⟩=some (.slice eA2 x.sig.sides.length ek2):=by have:=ha1 7 _ rfl; simpa [show Lay.n Seal=8 from rfl] using this
   clear ha1
   have hf0:=fun o => hsh.frozen o
   obtain ⟨K1,hK1⟩:∃ q,K+1+1+1+1+1+cnL x.sig.open_=q:=⟨_,rfl⟩
   have HK1:=zd hK1; clear hK1
   obtain ⟨K2,hK2⟩:∃ q,K1+cnL x.sig.shut=q:=⟨_,rfl⟩
   have HK2:=zd hK2; clear hK2
   obtain ⟨K3,hK3⟩:∃ q,K2+cnL x.sig.sides=q:=⟨_,rfl⟩
   have HK3:=zd hK3; clear hK3
   have hme:Hid (Seal.me x K=(⟨(⟨(((K):Nat):Int),(((K+1):Nat):Int),mtext (K+1+1),mtext (K+1+1+1)⟩:Head),(⟨(((K+1+1+1+1):Nat):Int),meL x.sig.open_ (K+1+1+1+1+1),meL x.sig.shut (K1),meL x.sig.sides (K2)⟩:Sig)⟩:Seal)):=zd (by simp only [Seal.me,HK1.out,HK2.out,HK3.out])
   have hKb0:K+5≤4611686018427387904:=zz47
   have hKb1:K1+0≤4611686018427387904:=zz47
   have hKb2:K2+0≤4611686018427387904:=zz47
   have hKb3:K3+0≤4611686018427387904:=zz47
   have hC0:Chg (fun b => b=g∨T k b) wr wr:=Chg.refl _ _
   have hS0:=hsh
   go_wp2_with (fail)
   refine (mark_Text _ (K+1+1) zz34 zz18 _).mono ?_
   rintro e1 w1 ⟨rfl,hb1⟩
   have hC1:Chg (fun b => b=g∨T k b) wr w1:=Chg.trans (b:=_) (by have zh:=hC0; exact zz8) (hb1.chg_ (fun b => b=g∨T k b))
   have hS1:Shp w1 g (ty Seal) (cap*8):=Shp.ofb (by have zh:=hS0; exact zz5) hb1
   have hr0_1:=Row.later (show Row true _ eA0 ek0 x.sig.open_ eS0 from by have zh:=er0; exact zz9) hb1
   have hr1_1:=Row.later (show Row true _ eA1 ek1 x.sig.shut eS1 from by have zh:=er1; exact zz10) hb1
   have hr2_1:=Row.later (show Row true _ eA2 ek2 x.sig.sides eS2 from by have zh:=er2; exact zz11) hb1
   have hc1:=fun o => hb1.cell (p:=⟨g,o,none⟩) (Shp.lt (show Shp _ g (ty Seal) (cap*8) from by have zh:=hS0; exact zz5))
   have hf1:=fun o => hS1.frozen o
   go_wp2_with (fail)
   refine (mark_Text _ (K+1+1+1) zz34 zz18 _).mono ?_
   rintro e2 w2 ⟨rfl,hb2⟩
   have hC2:Chg (fun b => b=g∨T k b) wr w2:=Chg.trans (b:=_) (by have zh:=hC1; exact zz8) (hb2.chg_ (fun b => b=g∨T k b))
   have hS2:Shp w2 g (ty Seal) (cap*8):=Shp.ofb (by have zh:=hS1; exact zz5) hb2
   have hr0_2:=Row.later (show Row true _ eA0 ek0 x.sig.open_ eS0 from by have zh:=hr0_1; exact zz9) hb2
   have hr1_2:=Row.later (show Row true _ eA1 ek1 x.sig.shut eS1 from by have zh:=hr1_1; exact zz10) hb2
   have hr2_2:=Row.later (show Row true _ eA2 ek2 x.sig.sides eS2 from by have zh:=hr2_1; exact zz11) hb2
   have hc2:=fun o => hb2.cell (p:=⟨g,o,none⟩) (Shp.lt (show Shp _ g (ty Seal) (cap*8) from by have zh:=hS1; exact zz5))
   have hf2:=fun o => hS2.frozen o
   go_wp2_with (fail)
   refine (mark_StringS x.sig.open_ _ _ _ _ _ (K+1+1+1+1+1) zz34 (by have:=HK1.out; omega) (show Row true _ eA0 ek0 x.sig.open_ eS0 from by have zh:=hr0_2; exact zz9) (Nat.le_trans ea0 eb0)).mono ?_
   rw [HK1.out]
   rintro e3 w3 ⟨rfl,hr0_3,hb3⟩
   have hC3:Chg (fun b => b=g∨T k b) wr w3:=Chg.trans (b:=_) (by have zh:=hC2; exact zz8) (hb3.mono (fun b _ h => .inr (es0 b h)))
   have hS3:Shp w3 g (ty Seal) (cap*8):=Shp.ofc (by have zh:=hS2; exact zz5) hb3 (fun h => hgT (es0 _ h))
   have hr1_3:=Row.chg (show Row true _ eA1 ek1 x.sig.shut eS1 from by have zh:=hr1_2; exact zz10) hb3 (ya5 (pwget3_0_1 epw_.out))
   have hr2_3:=Row.chg (show Row true _ eA2 ek2 x.sig.sides eS2 from by have zh:=hr2_2; exact zz11) hb3 (ya5 (pwget3_0_2 epw_.out))
   have hc3:=fun o => hb3.cellC (p:=⟨g,o,none⟩) (Shp.lt (show Shp _ g (ty Seal) (cap*8) from by have zh:=hS2; exact zz5)) (fun h => hgT (es0 _ h))
   have hf3:=fun o => hS3.frozen o
   go_wp2_with (fail)
   refine (mark_StringS x.sig.shut _ _ _ _ _ (K1) zz34 (by have:=HK2.out; omega) (show Row true _ eA1 ek1 x.sig.shut eS1 from by have zh:=hr1_3; exact zz10) (Nat.le_trans ea1 eb1)).mono ?_
   rw [HK2.out]
   rintro e4 w4 ⟨rfl,hr1_4,hb4⟩
   have hC4:Chg (fun b => b=g∨T k b) wr w4:=Chg.trans (b:=_) (by have zh:=hC3; exact zz8) (hb4.mono (fun b _ h => .inr (es1 b h)))
   have hS4:Shp w4 g (ty Seal) (cap*8):=Shp.ofc (by have zh:=hS3; exact zz5) hb4 (fun h => hgT (es1 _ h))
   have hr0_4:=Row.chg (show Row true _ eA0 ek0 (meL x.sig.open_ (K+1+1+1+1+1)) eS0 from by have zh:=hr0_3; exact zz9) hb4 (pwget3_0_1 epw_.out)
   have hr2_4:=Row.chg (show Row true _ eA2 ek2 x.sig.sides eS2 from by have zh:=hr2_3; exact zz11) hb4 (ya5 (pwget3_1_2 epw_.out))
   have hc4:=fun o => hb4.cellC (p:=⟨g,o,none⟩) (Shp.lt (show Shp _ g (ty Seal) (cap*8) from by have zh:=hS3; exact zz5)) (fun h => hgT (es1 _ h))
   have hf4:=fun o => hS4.frozen o
   go_wp2_with (fail)
   refine (mark_StringS x.sig.sides _ _ _ _ _ (K2) zz34 (by have:=HK3.out; omega) (show Row true _ eA2 ek2 x.sig.sides eS2 from by have zh:=hr2_4; exact zz11) (Nat.le_trans ea2 eb2)).mono ?_
   rw [HK3.out]
   rintro e5 w5 ⟨rfl,hr2_5,hb5⟩
   have hC5:Chg (fun b => b=g∨T k b) wr w5:=Chg.trans (b:=_) (by have zh:=hC4; exact zz8) (hb5.mono (fun b _ h => .inr (es2 b h)))
   have hS5:Shp w5 g (ty Seal) (cap*8):=Shp.ofc (by have zh:=hS4; exact zz5) hb5 (fun h => hgT (es2 _ h))
   have hr0_5:=Row.chg (show Row true _ eA0 ek0 (meL x.sig.open_ (K+1+1+1+1+1)) eS0 from by have zh:=hr0_4; exact zz9) hb5 (pwget3_0_2 epw_.out)
   have hr1_5:=Row.chg (show Row true _ eA1 ek1 (meL x.sig.shut (K1)) eS1 from by have zh:=hr1_4; exact zz10) hb5 (pwget3_1_2 epw_.out)
   have hc5:=fun o => hb5.cellC (p:=⟨g,o,none⟩) (Shp.lt (show Shp _ g (ty Seal) (cap*8) from by have zh:=hS4; exact zz5)) (fun h => hgT (es2 _ h))
   have hf5:=fun o => hS5.frozen o
   go_wp2
   go_roundw
   case rel =>
    refine ⟨k+1,zz18,by go_num,by rw [hs2.out]; first | go_num | (congr 1; unfold Seal.cn; have:=HK1.out; have:=HK2.out; have:=HK3.out; omega),?_,?_⟩
    ·refine Chg.trans hch (Chg.mono (show Chg (fun b => b=g∨T k b) wr _ from by have zh:=hC5; exact zz8) (fun b _ h => h.elim (fun e => e ▸ hg) (fun h => (HT.out k b h).1)))
    ·rw [hst.out,hme.out]
     refine Row.setN (N:=8) (T:=T) (w:=wr) (cs:=[.int .i64 (((K):Nat):Int),.int .i64 (((K+1):Nat):Int),.string (mtext (K+1+1)),.string (mtext (K+1+1+1)),.int .i64 (((K+1+1+1+1):Nat):Int),.slice eA0 (meL x.sig.open_ (K+1+1+1+1+1)).length ek0,.slice eA1 (meL x.sig.shut (K1)).length ek1,.slice eA2 (meL x.sig.sides (K2)).length ek2]) rfl hg HT.out HD.out HE.out hlty (show Shp _ g (ty Seal) (cap*8) from by have zh:=hS5; exact zz5) (fun o ho => ?_) (show Chg (fun b => b=g∨T k b) wr _ from by have zh:=hC5; exact zz8) ?_ ?_
     ·have n0:o≠k*8:=by intro h; apply ho; rw [h]; omega
      have n1:o≠k*8+1:=zz23
      have n2:o≠k*8+2:=zz23
      have n3:o≠k*8+3:=zz23
      have n4:o≠k*8+4:=zz23
      have n5:o≠k*8+5:=zz23
      have n6:o≠k*8+6:=zz23
      have n7:o≠k*8+7:=zz23
      simp only [hc5,hc4,hc3,hc2,hc1,ya1 _ _ _ o _ n0,ya1 _ _ _ o _ n1,ya1 _ _ _ o _ n2,ya1 _ _ _ o _ n3,ya1 _ _ _ o _ n4,ya1 _ _ _ o _ n5,ya1 _ _ _ o _ n6,ya1 _ _ _ o _ n7]
     ·intro j u hu
      have hj:j<8:=(List.getElem?_eq_some_iff.1 hu).1
      rcases (by omega:j=0∨j=1∨j=2∨j=3∨j=4∨j=5∨j=6∨j=7) with rfl | rfl | rfl | rfl | rfl | rfl | rfl | rfl
      all_goals (have hu:=Option.some.inj hu; subst hu; go_simp; try simp)
     ·exact Seal.mk' (m:=true) (x:=(⟨(⟨(((K):Nat):Int),(((K+1):Nat):Int),mtext (K+1+1),mtext (K+1+1+1)⟩:Head),(⟨(((K+1+1+1+1):Nat):Int),meL x.sig.open_ (K+1+1+1+1+1),meL x.sig.shut (K1),meL x.sig.sides (K2)⟩:Sig)⟩:Seal)) (S:=T k) (I64_nat zz47) (I64_nat zz47) (mtext_size (K+1+1) zz47) (mtext_size (K+1+1+1) zz47) (I64_nat zz47) (by rw [meL_length]; exact ea0) eb0 (show Row true _ eA0 ek0 (meL x.sig.open_ (K+1+1+1+1+1)) eS0 from by have zh:=hr0_5; exact zz9) es0 (by rw [meL_length]; exact ea1) eb1 (show Row true _ eA1 ek1 (meL x.sig.shut (K1)) eS1 from by have zh:=hr1_5; exact zz10) es1 (by rw [meL_length]; exact ea2) eb2 (show Row true _ eA2 ek2 (meL x.sig.sides (K2)) eS2 from by have zh:=hr2_5; exact zz11) es2 (fun _ => epw_.out)
   case measure => simp [intOf]; omega
  ·have hke:k=xs.length:=by omega
   go_wp2
   go_ret; subst hke; refine ⟨zz71,zz84,hch⟩
theorem mark_BoolS (xs:List Bool) (w:World) (A:Option Addr) (cap:Nat) (S:Blks) (a:Int) (k0:Nat) (ha:a=(k0:Int)) (hk:k0+cnL xs≤4611686018427387904) (hx:Row true w A cap xs S) (hl:xs.length≤maxLen) :
  Calls Tryz.prog 150 #[.slice A xs.length cap,.int .i64 a] w fun e w' => e = .returned (.int .i64 ((k0+cnL xs:Nat):Int))∧Row true w' A cap (meL xs k0) S∧Chg S w w':=by
 subst ha
 unfold maxLen at hl
 have hxx:=hx
 rcases hx with ⟨rfl,rfl,rfl⟩ | ⟨g,cur_,rfl,hg,hh_,hcs_,_⟩
 ·go_enter Tryz.func150,Tryz.ntmps150
  go_wp2
  go_loopw [1,5] (fun l i wr => i = .int .i64 0∧l = .int .i64 (k0:Int)∧wr=w) (fun _ _ _ => 0)
  case atStart => exact ⟨rfl,rfl,rfl⟩
  case round =>
   obtain ⟨rfl,rfl,rfl⟩:=hrel
   go_wp2
   go_ret; exact ⟨rfl,.inl ⟨rfl,rfl,rfl⟩,Chg.refl _ _⟩
 have hsh0:Shp w g (ty Bool) (cap*1):=⟨cur_,hh_,hcs_⟩
 clear hh_ hcs_
 go_enter Tryz.func150,Tryz.ntmps150
 go_wp2
 go_loopw [1,5] (fun l i wr => ∃ k:Nat,k≤xs.length∧i = .int .i64 k∧l = .int .i64 ((k0+cnL (xs.take k):Nat):Int)∧Chg S w wr∧Row true wr (some ⟨g,0,none⟩) cap (meL (xs.take k) k0 ++ xs.drop k) S) (fun _ i _ => xs.length - (intOf i).toNat)
 case atStart => exact ⟨0,Nat.zero_le _,rfl,by simp [cnL],Chg.refl _ _,by simpa [meL] using hxx⟩
 case round =>
  obtain ⟨k,hkk,rfl,rfl,hch,hrow⟩:=hrel
  clear hxx
  by_cases hlt:k<xs.length
  ·have hylen:(meL (xs.take k) k0 ++ xs.drop k).length=xs.length:=by simp; omega
   have hstep:=meL_step xs k0 k hlt
   have hat:=meL_at xs k0 k hlt (by rw [hylen]; exact hlt)
   generalize hys:meL (xs.take k) k0 ++ xs.drop k=ys at hrow hylen hat hstep
   have hlty:k<ys.length:=zz18
   have hcs:=cnL_take_succ xs k hlt
   have hcl:=cnL_take_le xs (k+1)
   generalize hK:k0+cnL (xs.take k)=K at hstep
   generalize xs[k]=x at hat hcs hstep
   rw [show Mk.cn x=1 from rfl] at hcs
   have hs2:Hid (k0+cnL (xs.take (k+1))=K+1):=zd zz18
   have hKb:K+1≤4611686018427387904:=zz18
   have hst:Hid (meL (xs.take (k+1)) k0 ++ xs.drop (k+1)=ys.set k ((((K:Nat):Int) % 3 == 0))):=zd hstep
   rcases hrow with ⟨h_,_⟩ | ⟨g2,cur,e_,_,hh,hcz,T,hT,hd,he⟩
   ·cases h_
   cases e_
   have hsh:Shp wr g (ty Bool) (cap*1):=⟨cur,hh,hcz⟩
   have hd:=hd rfl
   have hgl:=hsh.lt
   have hgT : ¬ T k g:=fun h => (hT k g h).2 rfl
   obtain ⟨c1,ha1,hr1⟩:=he k hlty
   rw [hat] at hr1
   have HE:=zd he; have HD:=zd hd; have HT:=zd hT
   clear hcs hcl hstep hat hys he hd hT hh hcz
   have hr1:rd true wr c1 (x:Bool) (T k):=hr1
   obtain rfl:=open_bool hr1
   clear hr1
   have q0:wr.cell? ⟨g,k,none⟩=some (.bool x):=by have:=ha1 0 _ rfl; simpa [show Lay.n Bool=1 from rfl] using this
   clear ha1
   have hf0:=fun o => hsh.frozen o
   have hKb0:K+1≤4611686018427387904:=zz18
   have hC0:Chg (fun b => b=g∨T k b) wr wr:=Chg.refl _ _
   have hS0:=hsh
   go_wp2
   go_roundw
   case rel =>
    refine ⟨k+1,zz18,by go_num,by rw [hs2.out]; first | go_num | (congr 1; omega),?_,?_⟩
    ·refine Chg.trans hch (Chg.mono (show Chg (fun b => b=g∨T k b) wr _ from by have zh:=hC0; exact zz8) (fun b _ h => h.elim (fun e => e ▸ hg) (fun h => (HT.out k b h).1)))
    ·rw [hst.out]
     refine Row.setN (N:=1) (T:=T) (w:=wr) (cs:=[.bool ((((K):Nat):Int) % 3 == 0)]) rfl hg HT.out HD.out HE.out hlty (show Shp _ g (ty Bool) (cap*1) from by have zh:=hS0; exact zz5) (fun o ho => ?_) (show Chg (fun b => b=g∨T k b) wr _ from by have zh:=hC0; exact zz8) ?_ ?_
     ·have n0:o≠k:=by intro h; apply ho; rw [h]; omega
      simp only [ya1 _ _ _ o _ n0]
     ·intro j u hu
      have hj:j<1:=(List.getElem?_eq_some_iff.1 hu).1
      obtain rfl:j=0:=by omega
      all_goals (have hu:=Option.some.inj hu; subst hu; go_simp; try simp)
     ·exact rfl
   case measure => simp [intOf]; omega
  ·have hke:k=xs.length:=by omega
   go_wp2
   go_ret; subst hke; refine ⟨zz71,zz84,hch⟩
theorem mark_ServerS (xs:List Server) (w:World) (A:Option Addr) (cap:Nat) (S:Blks) (a:Int) (k0:Nat) (ha:a=(k0:Int)) (hk:k0+cnL xs≤4611686018427387904) (hx:Row true w A cap xs S) (hl:xs.length≤maxLen) :
  Calls Tryz.prog 227 #[.slice A xs.length cap,.int .i64 a] w fun e w' => e = .returned (.int .i64 ((k0+cnL xs:Nat):Int))∧Row true w' A cap (meL xs k0) S∧Chg S w w':=by
 subst ha
 unfold maxLen at hl
 have hxx:=hx
 rcases hx with ⟨rfl,rfl,rfl⟩ | ⟨g,cur_,rfl,hg,hh_,hcs_,_⟩
 ·go_enter Tryz.func227,Tryz.ntmps227
  go_wp2
  go_loopw [1,5] (fun l i wr => i = .int .i64 0∧l = .int .i64 (k0:Int)∧wr=w) (fun _ _ _ => 0)
  case atStart => exact ⟨rfl,rfl,rfl⟩
  case round =>
   obtain ⟨rfl,rfl,rfl⟩:=hrel
   go_wp2
   go_ret; exact ⟨rfl,.inl ⟨rfl,rfl,rfl⟩,Chg.refl _ _⟩
 have hsh0:Shp w g (ty Server) (cap*11):=⟨cur_,hh_,hcs_⟩
 clear hh_ hcs_
 go_enter Tryz.func227,Tryz.ntmps227
 go_wp2
 go_loopw [1,5] (fun l i wr => ∃ k:Nat,k≤xs.length∧i = .int .i64 k∧l = .int .i64 ((k0+cnL (xs.take k):Nat):Int)∧Chg S w wr∧Row true wr (some ⟨g,0,none⟩) cap (meL (xs.take k) k0 ++ xs.drop k) S) (fun _ i _ => xs.length - (intOf i).toNat)
 case atStart => exact ⟨0,Nat.zero_le _,rfl,by simp [cnL],Chg.refl _ _,by simpa [meL] using hxx⟩
 case round =>
  obtain ⟨k,hkk,rfl,rfl,hch,hrow⟩:=hrel
  clear hxx
  by_cases hlt:k<xs.length
  ·have hylen:(meL (xs.take k) k0 ++ xs.drop k).length=xs.length:=by simp; omega
   have hstep:=meL_step xs k0 k hlt
   have hat:=meL_at xs k0 k hlt (by rw [hylen]; exact hlt)
   generalize hys:meL (xs.take k) k0 ++ xs.drop k=ys at hrow hylen hat hstep
   have hlty:k<ys.length:=zz18
   have hcs:=cnL_take_succ xs k hlt
   have hcl:=cnL_take_le xs (k+1)
   generalize hK:k0+cnL (xs.take k)=K at hstep
   generalize xs[k]=x at hat hcs hstep
   rw [show Mk.cn x=Server.cn x from rfl] at hcs
   have hs2:Hid (k0+cnL (xs.take (k+1))=K+Server.cn x):=zd zz18
   have hKb:K+Server.cn x≤4611686018427387904:=zz18
   unfold Server.cn at hKb
   have hst:Hid (meL (xs.take (k+1)) k0 ++ xs.drop (k+1)=ys.set k (Server.me x K)):=zd hstep
   rcases hrow with ⟨h_,_⟩ | ⟨g2,cur,e_,_,hh,hcz,T,hT,hd,he⟩
   ·cases h_
   cases e_
   have hsh:Shp wr g (ty Server) (cap*11):=⟨cur,hh,hcz⟩
   have hd:=hd rfl
   have hgl:=hsh.lt
   have hgT : ¬ T k g:=fun h => (hT k g h).2 rfl
   obtain ⟨c1,ha1,hr1⟩:=he k hlty
   rw [hat] at hr1
   have HE:=zd he; have HD:=zd hd; have HT:=zd hT
   clear hcs hcl hstep hat hys he hd hT hh hcz
   obtain ⟨eA0,ek0,eS0,eA1,ek1,eS1,eA2,ek2,eS2,eA3,ek3,eS3,rfl,ef0,ef1,ef4,ef8,ef9,ef10,ea0,eb0,er0,es0,ea1,eb1,er1,es1,ea2,eb2,er2,es2,ea3,eb3,er3,es3,epw⟩:=Server.open hr1
   have epw_:=zd (epw rfl); clear epw
   have q0:wr.cell? ⟨g,k*11,none⟩=some (.int .i64 x.at_):=by have:=ha1 0 _ rfl; simpa [show Lay.n Server=11 from rfl] using this
   have q1:wr.cell? ⟨g,k*11+1,none⟩=some (.int .i64 x.k):=by have:=ha1 1 _ rfl; simpa [show Lay.n Server=11 from rfl] using this
   have q2:wr.cell? ⟨g,k*11+2,none⟩=some (.bool x.up):=by have:=ha1 2 _ rfl; simpa [show Lay.n Server=11 from rfl] using this
   have q3:wr.cell? ⟨g,k*11+3,none⟩=some (.slice eA0 x.disk.files.length ek0):=by have:=ha1 3 _ rfl; simpa [show Lay.n Server=11 from rfl] using this
   have q4:wr.cell? ⟨g,k*11+4,none⟩=some (.int .i64 x.epoch):=by have:=ha1 4 _ rfl; simpa [show Lay.n Server=11 from rfl] using this
   have q5:wr.cell? ⟨g,k*11+5,none⟩=some (.slice eA1 x.views.length ek1):=by have:=ha1 5 _ rfl; simpa [show Lay.n Server=11 from rfl] using this
   have q6:wr.cell? ⟨g,k*11+6,none⟩=some (.slice eA2 x.taken.length ek2):=by have:=ha1 6 _ rfl; simpa [show Lay.n Server=11 from rfl] using this
   have q7:wr.cell? ⟨g,k*11+7,none⟩=some (.slice eA3 x.all.length ek3):=by have:=ha1 7 _ rfl; simpa [show Lay.n Server=11 from rfl] using this
   have q8:wr.cell? ⟨g,k*11+8,none⟩=some (.int .i64 x.ready.epoch):=by have:=ha1 8 _ rfl; simpa [show Lay.n Server=11 from rfl] using this
   have q9:wr.cell? ⟨g,k*11+9,none⟩=some (.int .i64 x.ready.try_):=by have:=ha1 9 _ rfl; simpa [show Lay.n Server=11 from rfl] using this
   have q10:wr.cell? ⟨g,k*11+10,none⟩=some (.int .i64 x.ready.take):=by have:=ha1 10 _ rfl; simpa [show Lay.n Server=11 from rfl] using this
   clear ha1
   have hf0:=fun o => hsh.frozen o
   obtain ⟨K1,hK1⟩:∃ q,K+1+1+1+cnL x.disk.files=q:=⟨_,rfl⟩
   have HK1:=zd hK1; clear hK1
   obtain ⟨K2,hK2⟩:∃ q,K1+1+cnL x.views=q:=⟨_,rfl⟩
   have HK2:=zd hK2; clear hK2
   obtain ⟨K3,hK3⟩:∃ q,K2+cnL x.taken=q:=⟨_,rfl⟩
   have HK3:=zd hK3; clear hK3
   obtain ⟨K4,hK4⟩:∃ q,K3+cnL x.all=q:=⟨_,rfl⟩
   have HK4:=zd hK4; clear hK4
   have hme:Hid (Server.me x K=(⟨(((K):Nat):Int),(((K+1):Nat):Int),((((K+1+1):Nat):Int) % 3 == 0),(⟨meL x.disk.files (K+1+1+1)⟩:Disk),(((K1):Nat):Int),meL x.views (K1+1),meL x.taken (K2),meL x.all (K3),(⟨(((K4):Nat):Int),(((K4+1):Nat):Int),(((K4+1+1):Nat):Int)⟩:Ready)⟩:Server)):=zd (by simp only [Server.me,HK1.out,HK2.out,HK3.out,HK4.out])
   have hKb0:K+3≤4611686018427387904:=zz50
   have hKb1:K1+1≤4611686018427387904:=zz50
   have hKb2:K2+0≤4611686018427387904:=zz50
   have hKb3:K3+0≤4611686018427387904:=zz50
   have hKb4:K4+3≤4611686018427387904:=zz50
   have hC0:Chg (fun b => b=g∨T k b) wr wr:=Chg.refl _ _
   have hS0:=hsh
   go_wp2_with (fail)
   refine (mark_FileS x.disk.files _ _ _ _ _ (K+1+1+1) zz34 (by have:=HK1.out; omega) (show Row true _ eA0 ek0 x.disk.files eS0 from by have zh:=er0; exact zz9) (Nat.le_trans ea0 eb0)).mono ?_
   rw [HK1.out]
   rintro e1 w1 ⟨rfl,hr0_1,hb1⟩
   have hC1:Chg (fun b => b=g∨T k b) wr w1:=Chg.trans (b:=_) (by have zh:=hC0; exact zz8) (hb1.mono (fun b _ h => .inr (es0 b h)))
   have hS1:Shp w1 g (ty Server) (cap*11):=Shp.ofc (by have zh:=hS0; exact zz5) hb1 (fun h => hgT (es0 _ h))
   have hr1_1:=Row.chg (show Row true _ eA1 ek1 x.views eS1 from by have zh:=er1; exact zz10) hb1 (ya5 (pwget4_0_1 epw_.out))
   have hr2_1:=Row.chg (show Row true _ eA2 ek2 x.taken eS2 from by have zh:=er2; exact zz11) hb1 (ya5 (pwget4_0_2 epw_.out))
   have hr3_1:=Row.chg (show Row true _ eA3 ek3 x.all eS3 from by have zh:=er3; exact zz16) hb1 (ya5 (pwget4_0_3 epw_.out))
   have hc1:=fun o => hb1.cellC (p:=⟨g,o,none⟩) (Shp.lt (show Shp _ g (ty Server) (cap*11) from by have zh:=hS0; exact zz5)) (fun h => hgT (es0 _ h))
   have hf1:=fun o => hS1.frozen o
   go_wp2_with (fail)
   refine (mark_LeafSS x.views _ _ _ _ _ (K1+1) zz34 (by have:=HK2.out; omega) (show Row true _ eA1 ek1 x.views eS1 from by have zh:=hr1_1; exact zz10) (Nat.le_trans ea1 eb1)).mono ?_
   rw [HK2.out]
   rintro e2 w2 ⟨rfl,hr1_2,hb2⟩
   have hC2:Chg (fun b => b=g∨T k b) wr w2:=Chg.trans (b:=_) (by have zh:=hC1; exact zz8) (hb2.mono (fun b _ h => .inr (es1 b h)))
   have hS2:Shp w2 g (ty Server) (cap*11):=Shp.ofc (by have zh:=hS1; exact zz5) hb2 (fun h => hgT (es1 _ h))
   have hr0_2:=Row.chg (show Row true _ eA0 ek0 (meL x.disk.files (K+1+1+1)) eS0 from by have zh:=hr0_1; exact zz9) hb2 (pwget4_0_1 epw_.out)
   have hr2_2:=Row.chg (show Row true _ eA2 ek2 x.taken eS2 from by have zh:=hr2_1; exact zz11) hb2 (ya5 (pwget4_1_2 epw_.out))
   have hr3_2:=Row.chg (show Row true _ eA3 ek3 x.all eS3 from by have zh:=hr3_1; exact zz16) hb2 (ya5 (pwget4_1_3 epw_.out))
   have hc2:=fun o => hb2.cellC (p:=⟨g,o,none⟩) (Shp.lt (show Shp _ g (ty Server) (cap*11) from by have zh:=hS1; exact zz5)) (fun h => hgT (es1 _ h))
   have hf2:=fun o => hS2.frozen o
   go_wp2_with (fail)
   refine (mark_IntS x.taken _ _ _ _ _ (K2) zz34 (by have:=HK3.out; omega) (show Row true _ eA2 ek2 x.taken eS2 from by have zh:=hr2_2; exact zz11) (Nat.le_trans ea2 eb2)).mono ?_
   rw [HK3.out]
   rintro e3 w3 ⟨rfl,hr2_3,hb3⟩
   have hC3:Chg (fun b => b=g∨T k b) wr w3:=Chg.trans (b:=_) (by have zh:=hC2; exact zz8) (hb3.mono (fun b _ h => .inr (es2 b h)))
   have hS3:Shp w3 g (ty Server) (cap*11):=Shp.ofc (by have zh:=hS2; exact zz5) hb3 (fun h => hgT (es2 _ h))
   have hr0_3:=Row.chg (show Row true _ eA0 ek0 (meL x.disk.files (K+1+1+1)) eS0 from by have zh:=hr0_2; exact zz9) hb3 (pwget4_0_2 epw_.out)
   have hr1_3:=Row.chg (show Row true _ eA1 ek1 (meL x.views (K1+1)) eS1 from by have zh:=hr1_2; exact zz10) hb3 (pwget4_1_2 epw_.out)
   have hr3_3:=Row.chg (show Row true _ eA3 ek3 x.all eS3 from by have zh:=hr3_2; exact zz16) hb3 (ya5 (pwget4_2_3 epw_.out))
   have hc3:=fun o => hb3.cellC (p:=⟨g,o,none⟩) (Shp.lt (show Shp _ g (ty Server) (cap*11) from by have zh:=hS2; exact zz5)) (fun h => hgT (es2 _ h))
   have hf3:=fun o => hS3.frozen o
   go_wp2_with (fail)
   refine (mark_ChangeS x.all _ _ _ _ _ (K3) zz34 (by have:=HK4.out; omega) (show Row true _ eA3 ek3 x.all eS3 from by have zh:=hr3_3; exact zz16) (Nat.le_trans ea3 eb3)).mono ?_
   rw [HK4.out]
   rintro e4 w4 ⟨rfl,hr3_4,hb4⟩
   have hC4:Chg (fun b => b=g∨T k b) wr w4:=Chg.trans (b:=_) (by have zh:=hC3; exact zz8) (hb4.mono (fun b _ h => .inr (es3 b h)))
   have hS4:Shp w4 g (ty Server) (cap*11):=Shp.ofc (by have zh:=hS3; exact zz5) hb4 (fun h => hgT (es3 _ h))
   have hr0_4:=Row.chg (show Row true _ eA0 ek0 (meL x.disk.files (K+1+1+1)) eS0 from by have zh:=hr0_3; exact zz9) hb4 (pwget4_0_3 epw_.out)
   have hr1_4:=Row.chg (show Row true _ eA1 ek1 (meL x.views (K1+1)) eS1 from by have zh:=hr1_3; exact zz10) hb4 (pwget4_1_3 epw_.out)
   have hr2_4:=Row.chg (show Row true _ eA2 ek2 (meL x.taken (K2)) eS2 from by have zh:=hr2_3; exact zz11) hb4 (pwget4_2_3 epw_.out)
   have hc4:=fun o => hb4.cellC (p:=⟨g,o,none⟩) (Shp.lt (show Shp _ g (ty Server) (cap*11) from by have zh:=hS3; exact zz5)) (fun h => hgT (es3 _ h))
   have hf4:=fun o => hS4.frozen o
   go_wp2
   go_roundw
   case rel =>
    refine ⟨k+1,zz18,by go_num,by rw [hs2.out]; first | go_num | (congr 1; unfold Server.cn; have:=HK1.out; have:=HK2.out; have:=HK3.out; have:=HK4.out; omega),?_,?_⟩
    ·refine Chg.trans hch (Chg.mono (show Chg (fun b => b=g∨T k b) wr _ from by have zh:=hC4; exact zz8) (fun b _ h => h.elim (fun e => e ▸ hg) (fun h => (HT.out k b h).1)))
    ·rw [hst.out,hme.out]
     refine Row.setN (N:=11) (T:=T) (w:=wr) (cs:=[.int .i64 (((K):Nat):Int),.int .i64 (((K+1):Nat):Int),.bool ((((K+1+1):Nat):Int) % 3 == 0),.slice eA0 (meL x.disk.files (K+1+1+1)).length ek0,.int .i64 (((K1):Nat):Int),.slice eA1 (meL x.views (K1+1)).length ek1,.slice eA2 (meL x.taken (K2)).length ek2,.slice eA3 (meL x.all (K3)).length ek3,.int .i64 (((K4):Nat):Int),.int .i64 (((K4+1):Nat):Int),.int .i64 (((K4+1+1):Nat):Int)]) rfl hg HT.out HD.out HE.out hlty (show Shp _ g (ty Server) (cap*11) from by have zh:=hS4; exact zz5) (fun o ho => ?_) (show Chg (fun b => b=g∨T k b) wr _ from by have zh:=hC4; exact zz8) ?_ ?_
     ·have n0:o≠k*11:=by intro h; apply ho; rw [h]; omega
      have n1:o≠k*11+1:=zz23
      have n2:o≠k*11+2:=zz23
      have n3:o≠k*11+3:=zz23
      have n4:o≠k*11+4:=zz23
      have n5:o≠k*11+5:=zz23
      have n6:o≠k*11+6:=zz23
      have n7:o≠k*11+7:=zz23
      have n8:o≠k*11+8:=zz23
      have n9:o≠k*11+9:=zz23
      have n10:o≠k*11+10:=zz23
      simp only [hc4,hc3,hc2,hc1,ya1 _ _ _ o _ n0,ya1 _ _ _ o _ n1,ya1 _ _ _ o _ n2,ya1 _ _ _ o _ n3,ya1 _ _ _ o _ n4,ya1 _ _ _ o _ n5,ya1 _ _ _ o _ n6,ya1 _ _ _ o _ n7,ya1 _ _ _ o _ n8,ya1 _ _ _ o _ n9,ya1 _ _ _ o _ n10]
     ·intro j u hu
      have hj:j<11:=(List.getElem?_eq_some_iff.1 hu).1
      rcases (by omega:j=0∨j=1∨j=2∨j=3∨j=4∨j=5∨j=6∨j=7∨j=8∨j=9∨j=10) with rfl | rfl | rfl | rfl | rfl | rfl | rfl | rfl | rfl | rfl | rfl
      all_goals (have hu:=Option.some.inj hu; subst hu; go_simp; try simp)
     ·exact Server.mk' (m:=true) (x:=(⟨(((K):Nat):Int),(((K+1):Nat):Int),((((K+1+1):Nat):Int) % 3 == 0),(⟨meL x.disk.files (K+1+1+1)⟩:Disk),(((K1):Nat):Int),meL x.views (K1+1),meL x.taken (K2),meL x.all (K3),(⟨(((K4):Nat):Int),(((K4+1):Nat):Int),(((K4+1+1):Nat):Int)⟩:Ready)⟩:Server)) (S:=T k) (I64_nat zz50) (I64_nat zz50) (by rw [meL_length]; exact ea0) eb0 (show Row true _ eA0 ek0 (meL x.disk.files (K+1+1+1)) eS0 from by have zh:=hr0_4; exact zz9) es0 (I64_nat zz50) (by rw [meL_length]; exact ea1) eb1 (show Row true _ eA1 ek1 (meL x.views (K1+1)) eS1 from by have zh:=hr1_4; exact zz10) es1 (by rw [meL_length]; exact ea2) eb2 (show Row true _ eA2 ek2 (meL x.taken (K2)) eS2 from by have zh:=hr2_4; exact zz11) es2 (by rw [meL_length]; exact ea3) eb3 (show Row true _ eA3 ek3 (meL x.all (K3)) eS3 from by have zh:=hr3_4; exact zz16) es3 (I64_nat zz50) (I64_nat zz50) (I64_nat zz50) (fun _ => epw_.out)
   case measure => simp [intOf]; omega
  ·have hke:k=xs.length:=by omega
   go_wp2
   go_ret; subst hke; refine ⟨zz71,zz84,hch⟩
end Go.Proofs.YtcbbjfafmmcfiaaGreatDoor
