/- A part of the proof. -/
import Derived.Test.YtlfnmbcnehaikaaGreatDoorHApL30xTn
set_option linter.unusedVariables false
set_option linter.unusedSimpArgs false
set_option maxRecDepth 20000
set_option maxHeartbeats 8000000
namespace Go.Proofs.YtlfnmbcnehaikaaGreatDoor
open Go.RowKit Lay Mk
section
variable {κ α β : Type} [Lay κ] [Lay α] [Lay β] {B : Nat} {N : Blks} {w : World} {Ak : Option Addr} {ck : Nat} {ks : List κ} {Au : Option Addr} {cu : Nat} {us : List α} {As : Option Addr} {cs : Nat} {ss : List β}
theorem step_trigV [SlTy β] [Inf β] {ops : Array Oper} {o : Oper} {a : Act} {K0 : Act → World → Prop} {Q : Exit → Act → World → Prop} {E : Prop} {v : World} (hgd : o.guard = none) (s x : Operand)
  (ho : o.op = .call { callee:=.builtin .append,args:=#[s,x],argTypes:=#[SlTy.st β,SlTy.st β] })
  {A2 : Option Addr} {c2 k : Nat} {y : β} {T : Blks} (hs : a.eval s = .slice As k cs) (hk : k = ss.length) (tri : TriG B N w Ak ck ks Au cu us As cs ss) (hBw : B ≤ w.heap.size) (hb : Below w.heap.size w v)
  (hx : a.eval x = .slice A2 1 c2) (hsrc : Src v A2 [y] T) (hT : ∀ b,T b → w.heap.size ≤ b) (hlim : k ≤ 2000000000)
  (h : ∀ A' c' w',TriG B N w' Ak ck ks Au cu us A' c' (ss ++ [y]) → Chg (fun b => B ≤ b ∧ b < w.heap.size ∧ ¬ N b) v w' → K0 (a.put o.dst (.slice A' (k + 1) c')) w') :
  if Region.wanted o (yielded ops a.tmps) = true then Oper.wp Tryz.prog o a v K0 Q else E:=by
 subst hk
 obtain ⟨K,U,V,h1,h2,h3,d1,d2,d3,b1,b2,d4,d5,d6⟩:=tri.ex
 have hsz:=hb.size
 refine step_app (α:=β) hgd s x ho hs rfl (Row.later h3.tight hb) tri.ls tri.ms hx rfl hsrc (fun q x1 x2 => by have h8:=hT q x2; have h9:=x1.2; omega) zz4 ?_
 intro A' c' w' q1 q2 q3 q4
 refine h A' c' w' ⟨⟨_,_,_,Row.chgS q4 (Row.later h1.tight hb) (fun b x _ y => d2 b x.1 y.1),Row.chgS q4 (Row.later h2.tight hb) (fun b x _ y => d3 b x.1 y.1),q3,fun b x y => d1 b x.1 y.1,?_,?_,fun b x => b1 b x.1,?_,fun b x => d4 b x.1,fun b x => d5 b x.1,?_⟩,fun b x => Nat.lt_of_lt_of_le (tri.nb b x) (by have:=q4.size; omega),tri.lu,tri.mu,by rw [List.length_append]; exact q1,q2⟩ (q4.mono (fun b _ x => ⟨b2 b x.1,x.2,d6 b x.1⟩))
 ·rintro b x (y | y | y)
  ·exact d2 b x.1 y.1
  ·have:=hT b y; have:=x.2; omega
  ·have:=y.1; have:=x.2; omega
 ·rintro b x (y | y | y)
  ·exact d3 b x.1 y.1
  ·have:=hT b y; have:=x.2; omega
  ·have:=y.1; have:=x.2; omega
 ·rintro b (y | y | y)
  ·exact b2 b y.1
  ·have:=hT b y; omega
  ·have:=y.1; omega
 ·rintro b (y | y | y) x
  ·exact d6 b y.1 x
  ·have:=hT b y; have:=tri.nb b x; omega
  ·have:=y.1; have:=tri.nb b x; omega
theorem step_trigW [SlTy α] [Inf α] {ops : Array Oper} {o : Oper} {a : Act} {K0 : Act → World → Prop} {Q : Exit → Act → World → Prop} {E : Prop} {v : World} (hgd : o.guard = none) (s x : Operand)
  (ho : o.op = .call { callee:=.builtin .append,args:=#[s,x],argTypes:=#[SlTy.st α,SlTy.st α] })
  {A2 : Option Addr} {c2 k : Nat} {y : α} {T : Blks} (hs : a.eval s = .slice Au k cu) (hk : k = us.length) (tri : TriG B N w Ak ck ks Au cu us As cs ss) (hBw : B ≤ w.heap.size) (hb : Below w.heap.size w v)
  (hx : a.eval x = .slice A2 1 c2) (hsrc : Src v A2 [y] T) (hT : ∀ b,T b → w.heap.size ≤ b) (hlim : k ≤ 2000000000)
  (h : ∀ A' c' w',TriG B N w' Ak ck ks A' c' (us ++ [y]) As cs ss → Chg (fun b => B ≤ b ∧ b < w.heap.size ∧ ¬ N b) v w' → K0 (a.put o.dst (.slice A' (k + 1) c')) w') :
  if Region.wanted o (yielded ops a.tmps) = true then Oper.wp Tryz.prog o a v K0 Q else E :=
 step_trigV hgd s x ho hs hk tri.swap hBw hb hx hsrc hT hlim (fun A' c' w' h1 h2 => h A' c' w' h1.swap h2)
end
theorem cell_box {w : World} {g i : Nat} {cs : Array Value} {ty : TypeId} {v : Value} (h : Bx w g cs ty) (hi : cs[i]? = some v) (o : Obj) : (w.alloc o).cell? ⟨g,i,none⟩ = some v:=cell_alloc (h.at_ hi)
theorem impl_apply (w : World) (B g : Nat) (M : Blks) (x : Auditor) (ha : Aud B M w g x) (t : ByteArray) (ht : 0 < t.size) (ht2 : t.size ≤ 1048576) (hp : x.pins.length ≤ 1000000000) (hq : x.pairs.length ≤ 1000000000) : Calls Tryz.prog 83 #[.pointer (some ⟨g,0,none⟩), .string t] w fun e w' => e = .returned (.tuple #[]) ∧ Aud B M w' g (recTo t x) ∧ Chg (fun b => B ≤ b ∧ b < w.heap.size ∧ ¬ M b) w w':=by
 obtain ⟨A0,c0,A1,c1,A2,c2,A3,c3,F,G,ho⟩:=ha
 have hgw:=ho.bx.lt
 have hgB:=ho.gB
 have HO:=zd ho
 have HR1:=zd (fun h s hs => rec_pin (t:=t) (x:=x) (s:=s) ht h hs)
 have HR2:=zd (fun h hs => rec_nopin (t:=t) (x:=x) ht h hs)
 have HR3:=zd (fun h h2 => rec_other (t:=t) (x:=x) ht h h2)
 have HR4:=zd (fun h hs => rec_short (t:=t) (x:=x) ht h hs)
 have HR5:=zd (fun h u y s r hs h3 h4 => rec_pair (t:=t) (x:=x) (u:=u) (y:=y) (s:=s) (r:=r) ht h hs h3 h4)
 have HR6:=zd (fun h u y hs h3 => rec_nopair (t:=t) (x:=x) (u:=u) (y:=y) ht h hs h3)
 have hw:=ho.size
 have hem : (t.toList == ([] : List UInt8)) = false:=by rw [empty_eq]; exact decide_eq_false (fun e => by rw [e] at ht; exact absurd ht zz44)
 have hbt:=t[0].toNat_lt
 have ht0 : (0 : Int) < (t.size : Int):=zz4
 have ht1 : (1 : Int) ≤ (t.size : Int):=zz4
 clear ho
 by_cases h1 : t[0].toNat = 1
 ·have hv : ((t[0].toNat : Int) == 1) = true:=by rw [beq_iff_eq]; omega
  have HP:=zd (HR1.out h1)
  have HN:=zd (HR2.out h1)
  clear HR1 HR2 HR3 HR4 HR5 HR6 h1
  go_enter Tryz.func83,Tryz.ntmps83
  go_wp2_with (fail)
  refine (impl_ReadSeal w (t.extract 1 t.size) zz52).mono ?_
  rintro e1 w1 ⟨cs,s,ok,rfl,hrd,hb1,hy,hn⟩
  obtain ⟨E2,n2,_,E3,n3,_,E4,n4,_,rfl, -⟩:=Seal.open hrd
  have HRD:=zd hrd
  have hs1:=hb1.size
  simp only [Seal.cs]
  cases ok
  ·have HE:=zd (HN.out (hn rfl).1)
   clear hrd hy hn HP HN
   go_wp2_with (fail)
   have hbA:=hb1.alloc hs1 (.cells #[.int .i64 s.head.house, .int .i64 s.head.epoch, .string s.head.root, .string s.head.prev, .int .i64 s.sig.at_, .slice E2 s.sig.open_.length n2, .slice E3 s.sig.shut.length n3, .slice E4 s.sig.sides.length n4] 76)
   (first | refine bodyPost_end (results_none rfl _ _ _) rfl ?_ | refine bodyPost_ret (results_none rfl _ _ _) rfl ?_)
   exact ⟨rfl,by rw [HE.out]; exact (HO.out.later hbA).ok,Chg.below (Chg.refl _ w) hbA (Nat.le_refl _)⟩
  ·have HE:=zd (HP.out s (hy rfl))
   clear hy hn HP HN hrd
   go_upto_region 4 with (fail)
   obtain ⟨V,hV⟩ : ∃ V,w1.alloc (.cells #[.int .i64 s.head.house, .int .i64 s.head.epoch, .string s.head.root, .string s.head.prev, .int .i64 s.sig.at_, .slice E2 s.sig.open_.length n2, .slice E3 s.sig.shut.length n3, .slice E4 s.sig.sides.length n4] 76) = V:=⟨_,rfl⟩
   have hVf : Below w1.heap.size w1 V ∧ w1.heap.size < V.heap.size ∧ Bx V w1.heap.size #[.int .i64 s.head.house, .int .i64 s.head.epoch, .string s.head.root, .string s.head.prev, .int .i64 s.sig.at_, .slice E2 s.sig.open_.length n2, .slice E3 s.sig.shut.length n3, .slice E4 s.sig.sides.length n4] 76:=by
    rw [← hV]
    exact ⟨(Below.refl _ _).alloc (Nat.le_refl _) _,zz17,Bx.new _ _ _⟩
   rw [hV]
   clear hV
   obtain ⟨hbV,hlV,xV⟩:=hVf
   have HBV:=zd (hb1.trans (hbV.mono hs1))
   have HRV:=zd (Lay.later (Lay.tight HRD.out) hbV)
   have hgV : g < V.heap.size:=by have:=HBV.out.size; omega
   have xg:=zd (HO.out.bx.keep (HBV.out.block _ hgw))
   have q4:=xg.out.at_ (i:=4) rfl
   have q4a:=fun o => (cell_alloc q4 : (V.alloc o).cell? ⟨g,4,none⟩ = _)
   have y0:=xV.at_ (i:=0) rfl
   have y1:=xV.at_ (i:=1) rfl
   have y2:=xV.at_ (i:=2) rfl
   have y3:=xV.at_ (i:=3) rfl
   have y4:=xV.at_ (i:=4) rfl
   have y5:=xV.at_ (i:=5) rfl
   have y6:=xV.at_ (i:=6) rfl
   have y7:=xV.at_ (i:=7) rfl
   have HLN : Hid (x.pins.length = x.pins.length):=zd rfl
   have hlim : x.pins.length ≤ 2000000000:=zz4
   have hBw : B ≤ w.heap.size:=Nat.le_of_lt hw
   have hsV:=HBV.out.size
   clear hb1 hbV xV HRD
   go_region_law (refine step_trigW (w:=w) (y:=s) (T:=fun b => (nw w.heap.size b ∧ b < w1.heap.size) ∧ b < V.heap.size) rfl _ _ rfl rfl rfl HO.out.tri hBw (HBV.out.alloc hsV _).drew rfl ((srcR V s _ _ _ rfl HRV.out).keep ((Below.refl _ _).drew)) (fun b h => h.1.1) hlim ?_; intro A' c' w' tr hc; have TR:=zd tr; have HC:=zd hc; have xw:=xg.out.keep ((Below.heap_alloc V _ g hgV)) |>.keep (hc.block g (by show g < (V.alloc _).heap.size; simp; omega) (fun k => k.2.2 (.inl rfl))); have d4:=xw.at_ (i:=4) rfl; have df:=xw.fz; clear tr hc xw)
   all_goals (go_wp2_with (fail))
   all_goals (first | refine bodyPost_end (results_none rfl _ _ _) rfl ?_ | refine bodyPost_ret (results_none rfl _ _ _) rfl ?_)
   all_goals (obtain ⟨h1,h2⟩:=HO.out.pin rfl (HBV.out.alloc hsV _).drew TR.out HC.out; exact ⟨rfl,by rw [HE.out]; exact h1.ok,h2⟩)
 have hv : ((t[0].toNat : Int) == 1) = false:=by rw [beq_eq_false_iff_ne]; omega
 by_cases h2 : t[0].toNat = 2
 ·have hv2 : ((t[0].toNat : Int) == 2) = true:=by rw [beq_iff_eq]; omega
  have HS:=zd (HR4.out h2)
  have HP:=zd (HR5.out h2)
  have HN:=zd (HR6.out h2)
  clear HR1 HR2 HR3 HR4 HR5 HR6 h1 h2
  have ht1' : 1 ≤ t.size:=ht
  cases hsh : rdShort t 1 with
  | none =>
   have HE:=zd (HS.out hsh)
   have HSH:=zd hsh
   clear HS HP HN hsh
   go_enter Tryz.func83,Tryz.ntmps83
   go_wp2_with (fail)
   obtain ⟨W,hW⟩ : ∃ W,w.alloc (.cells #[.string t, .int .i64 1, .bool false] 151) = W:=⟨_,rfl⟩
   have hWf : Below w.heap.size w W ∧ w.heap.size < W.heap.size ∧ Fld 151 W w.heap.size t 1 false:=by rw [← hW]; exact ⟨(Below.refl _ _).alloc (Nat.le_refl _) _,zz17,heap_alloc_new w _⟩
   rw [hW]
   clear hW
   obtain ⟨hbW,hlW,hF⟩:=hWf
   refine (impl_short_no W w.heap.size t 1 false hF ht2 ht1' HSH.out).mono ?_
   rintro e1 w1 ⟨rfl,hF1,hc1⟩
   have hb1 : Below w.heap.size w w1:=hbW.trans (hc1.to_below zz4 (fun b k => by have k : b = w.heap.size:=k; omega))
   have hs1:=hb1.size
   have hl1 : w.heap.size < w1.heap.size:=by have:=hc1.size; omega
   clear hF hc1 hbW
   go_wp2_with (fail)
   refine (impl_ReadSeal w1 ⟨#[]⟩ zz44).mono ?_
   rintro e2 w2 ⟨cs,s,ok,rfl,hrd,hb2, -, -⟩
   obtain ⟨E2,n2,_,E3,n3,_,E4,n4,_,rfl, -⟩:=Seal.open hrd
   simp only [Seal.cs]
   have hb12:=hb1.trans (hb2.mono hs1)
   have hF2:=hF1.below hb2 hl1
   clear hrd hF1 hb1 hb2
   go_upto_region 8 with (fail)
   obtain ⟨V,hV⟩ : ∃ V,w2.alloc (.cells #[.int .i64 s.head.house, .int .i64 s.head.epoch, .string s.head.root, .string s.head.prev, .int .i64 s.sig.at_, .slice E2 s.sig.open_.length n2, .slice E3 s.sig.shut.length n3, .slice E4 s.sig.sides.length n4] 76) = V:=⟨_,rfl⟩
   have hVf : Below w2.heap.size w2 V ∧ w2.heap.size < V.heap.size ∧ Bx V w2.heap.size #[.int .i64 s.head.house, .int .i64 s.head.epoch, .string s.head.root, .string s.head.prev, .int .i64 s.sig.at_, .slice E2 s.sig.open_.length n2, .slice E3 s.sig.shut.length n3, .slice E4 s.sig.sides.length n4] 76:=zz33
   rw [hV]
   clear hV
   obtain ⟨hbV,hlV,xV⟩:=hVf
   have hF3:=hF2.below hbV hF2.lt
   have f2:=hF3.c2
   have hb3:=hb12.trans (hbV.mono hb12.size)
   clear hF2 xV hbV hb12
   go_wp2_with (fail)
   (first | refine bodyPost_end (results_none rfl _ _ _) rfl ?_ | refine bodyPost_ret (results_none rfl _ _ _) rfl ?_)
   exact ⟨rfl,by rw [HE.out]; exact (HO.out.later hb3).ok,Chg.below (Chg.refl _ w) hb3 (Nat.le_refl _)⟩
  | some p =>
   obtain ⟨u,y⟩:=p
   have HSH:=zd hsh
   have hbd:=rdShort_some hsh
   obtain ⟨-,hyt,hus⟩ : 0 = 0 ∧ y ≤ t.size ∧ u.size ≤ 1048576:=by have:=hbd; exact ⟨rfl,zz4,zz4⟩
   have hyi : (y : Int) ≤ (t.size : Int):=zz4
   have HPP:=zd (fun s r => HP.out u y s r hsh)
   have HNN:=zd (HN.out u y hsh)
   clear HS HP HN hsh hbd
   go_enter Tryz.func83,Tryz.ntmps83
   go_wp2_with (fail)
   obtain ⟨W,hW⟩ : ∃ W,w.alloc (.cells #[.string t, .int .i64 1, .bool false] 151) = W:=⟨_,rfl⟩
   have hWf : Below w.heap.size w W ∧ w.heap.size < W.heap.size ∧ Fld 151 W w.heap.size t 1 false:=by rw [← hW]; exact ⟨(Below.refl _ _).alloc (Nat.le_refl _) _,zz17,heap_alloc_new w _⟩
   rw [hW]
   clear hW
   obtain ⟨hbW,hlW,hF⟩:=hWf
   refine (impl_short_yes W w.heap.size t 1 false hF ht2 ht1' HSH.out).mono ?_
   rintro e1 w1 ⟨rfl,hF1,hc1⟩
   have hb1 : Below w.heap.size w w1:=hbW.trans (hc1.to_below zz4 (fun b k => by have k : b = w.heap.size:=k; omega))
   have hs1:=hb1.size
   have hl1 : w.heap.size < w1.heap.size:=by have:=hc1.size; omega
   clear hF hc1 hbW
   go_wp2_with (fail)
   refine (impl_ReadSeal w1 u hus).mono ?_
   rintro e2 w2 ⟨cs,s,ok,rfl,hrd,hb2,hy,hn⟩
   obtain ⟨E2,n2,_,E3,n3,_,E4,n4,_,rfl, -⟩:=Seal.open hrd
   simp only [Seal.cs]
   have HRD:=zd hrd
   have HF12:=zd hb2.size
   have HW1:=zd hs1
   have HB2:=zd (hb1.trans (hb2.mono hs1))
   have hF2:=hF1.below hb2 hl1
   have HY:=zd hy
   have HN2:=zd hn
   clear hrd hF1 hb1 hb2 hy hn
   go_upto_region 8 with (fail)
   obtain ⟨V,hV⟩ : ∃ V,w2.alloc (.cells #[.int .i64 s.head.house, .int .i64 s.head.epoch, .string s.head.root, .string s.head.prev, .int .i64 s.sig.at_, .slice E2 s.sig.open_.length n2, .slice E3 s.sig.shut.length n3, .slice E4 s.sig.sides.length n4] 76) = V:=⟨_,rfl⟩
   have hVf : Below w2.heap.size w2 V ∧ w2.heap.size < V.heap.size ∧ Bx V w2.heap.size #[.int .i64 s.head.house, .int .i64 s.head.epoch, .string s.head.root, .string s.head.prev, .int .i64 s.sig.at_, .slice E2 s.sig.open_.length n2, .slice E3 s.sig.shut.length n3, .slice E4 s.sig.sides.length n4] 76:=zz33
   rw [hV]
   clear hV
   obtain ⟨hbV,hlV,xV⟩:=hVf
   have hF3:=hF2.below hbV hF2.lt
   have f2:=hF3.c2
   have f1:=hF3.c1
   have HBV:=zd (HB2.out.trans (hbV.mono HB2.out.size))
   have HRV:=zd (Lay.later (Lay.tight HRD.out) hbV)
   clear hF2 hbV HRD HB2
   go_wp2_with (fail)
   refine (impl_ReadSeal V (t.extract y t.size) zz52).mono ?_
   rintro e3 w3 ⟨cs3,r,ok3,rfl,hrd3,hb3,hy3,hn3⟩
   obtain ⟨F2,p2,_,F3,p3,_,F4,p4,_,rfl, -⟩:=Seal.open hrd3
   simp only [Seal.cs]
   have HR3:=zd hrd3
   have HB3:=zd (HBV.out.trans (hb3.mono HBV.out.size))
   have hsV:=HBV.out.size
   have hs3:=hb3.size
   have HRS:=zd (Lay.later (Lay.tight HRV.out) hb3)
   go_upto_region 10 with (fail)
   obtain ⟨Z,hV⟩ : ∃ V,w3.alloc (.cells #[.int .i64 r.head.house, .int .i64 r.head.epoch, .string r.head.root, .string r.head.prev, .int .i64 r.sig.at_, .slice F2 r.sig.open_.length p2, .slice F3 r.sig.shut.length p3, .slice F4 r.sig.sides.length p4] 76) = V:=⟨_,rfl⟩
   have hVf : Below w3.heap.size w3 Z ∧ w3.heap.size < Z.heap.size ∧ Bx Z w3.heap.size #[.int .i64 r.head.house, .int .i64 r.head.epoch, .string r.head.root, .string r.head.prev, .int .i64 r.sig.at_, .slice F2 r.sig.open_.length p2, .slice F3 r.sig.shut.length p3, .slice F4 r.sig.sides.length p4] 76:=zz33
   rw [hV]
   clear hV
   obtain ⟨hbZ,hlZ,xZ⟩:=hVf
   have xV2:=(xV.keep (hb3.block _ hlV)).keep (hbZ.block _ zz4)
   have HBZ:=zd (HB3.out.trans (hbZ.mono HB3.out.size))
   have HRX:=zd (Lay.later HRS.out hbZ)
   have HRY:=zd (Lay.later (Lay.tight HR3.out) hbZ)
   clear hrd3 hb3 hbZ xV HR3 HRS HRV HB3 HBV
   have HNO : Hid (ok = false ∨ ok3 = false → recTo t x = x):=zd (fun h => HNN.out (h.imp (fun h => (HN2.out h).1) (fun h => (hn3 h).1)))
   have HYE : Hid (ok = true → ok3 = true → recTo t x = { x with pairs:=x.pairs ++ [⟨s,r⟩] }):=zd (fun h h3 => HPP.out s r (HY.out h) (hy3 h3))
   have hl2 : w1.heap.size ≤ w2.heap.size:=HF12.out
   clear HNN HPP HY HN2 hy3 hn3
   cases ok
   ·have HE:=zd (HNO.out zz17)
    clear HNO HYE
    go_wp2_with (fail)
    (first | refine bodyPost_end (results_none rfl _ _ _) rfl ?_ | refine bodyPost_ret (results_none rfl _ _ _) rfl ?_)
    exact ⟨rfl,by rw [HE.out]; exact (HO.out.later HBZ.out).ok,Chg.below (Chg.refl _ w) HBZ.out (Nat.le_refl _)⟩
   ·cases ok3
    ·have HE:=zd (HNO.out zz17)
     clear HNO HYE
     go_wp2_with (fail)
     (first | refine bodyPost_end (results_none rfl _ _ _) rfl ?_ | refine bodyPost_ret (results_none rfl _ _ _) rfl ?_)
     exact ⟨rfl,by rw [HE.out]; exact (HO.out.later HBZ.out).ok,Chg.below (Chg.refl _ w) HBZ.out (Nat.le_refl _)⟩
    ·have HE:=zd (HYE.out rfl rfl)
     clear HNO HYE
     go_upto_region 11 with (fail)
     have hgZ : g < Z.heap.size:=by have:=HBZ.out.size; omega
     have xg:=zd (HO.out.bx.keep (HBZ.out.block _ hgw))
     have q5:=xg.out.at_ (i:=5) rfl
     have q5a:=fun o => (cell_alloc q5 : (Z.alloc o).cell? ⟨g,5,none⟩ = _)
     have y0:=xV2.at_ (i:=0) rfl
     have z0:=xZ.at_ (i:=0) rfl
     have y1:=xV2.at_ (i:=1) rfl
     have z1:=xZ.at_ (i:=1) rfl
     have y2:=xV2.at_ (i:=2) rfl
     have z2:=xZ.at_ (i:=2) rfl
     have y3:=xV2.at_ (i:=3) rfl
     have z3:=xZ.at_ (i:=3) rfl
     have y4:=xV2.at_ (i:=4) rfl
     have z4:=xZ.at_ (i:=4) rfl
     have y5:=xV2.at_ (i:=5) rfl
     have z5:=xZ.at_ (i:=5) rfl
     have y6:=xV2.at_ (i:=6) rfl
     have z6:=xZ.at_ (i:=6) rfl
     have y7:=xV2.at_ (i:=7) rfl
     have z7:=xZ.at_ (i:=7) rfl
     have hlim : x.pairs.length ≤ 2000000000:=zz4
     have hBw : B ≤ w.heap.size:=Nat.le_of_lt hw
     have hsZ:=HBZ.out.size
     have hsZ3 : w3.heap.size < Z.heap.size:=hlZ
     clear xV2 xZ
     have HPR : Hid (rd true Z (Seal.cs s E2 n2 E3 n3 E4 n4 ++ Seal.cs r F2 p2 F3 p3 F4 p4) (⟨s,r⟩ : Pair) (fun b => w.heap.size ≤ b)):=zd (pair_rd HRX.out HRY.out (fun b k => by have k1 : w1.heap.size ≤ b:=k.1.1; show w.heap.size ≤ b; have:=HW1.out; omega) (fun b k => by have k1 : V.heap.size ≤ b:=k.1; show w.heap.size ≤ b; omega) (fun b k k2 => by have k1 : b < w2.heap.size:=k.1.2; have k3 : V.heap.size ≤ b:=k2.1; omega))
     clear HRX HRY
     go_region_law (refine step_trigV (w:=w) (y:=(⟨s,r⟩ : Pair)) (T:=fun b => w.heap.size ≤ b ∧ b < Z.heap.size) rfl _ _ rfl rfl rfl HO.out.tri hBw (HBZ.out.alloc hsZ _).drew rfl ((srcR Z (⟨s,r⟩ : Pair) _ _ _ rfl HPR.out).keep ((Below.refl _ _).drew)) (fun b h => h.1) hlim ?_; intro A9 c9 w9 tr hc; have TR:=zd tr; have HC:=zd hc; have xw:=xg.out.keep ((Below.heap_alloc Z _ g hgZ)) |>.keep (hc.block g (by show g < (Z.alloc _).heap.size; simp; omega) (fun k => k.2.2 (.inl rfl))); have d5:=xw.at_ (i:=5) rfl; have df:=xw.fz; clear tr hc xw)
     all_goals (go_wp2_with (fail))
     all_goals (first | refine bodyPost_end (results_none rfl _ _ _) rfl ?_ | refine bodyPost_ret (results_none rfl _ _ _) rfl ?_)
     all_goals (obtain ⟨h1,h2⟩:=HO.out.pair rfl (HBZ.out.alloc hsZ _).drew TR.out HC.out; exact ⟨rfl,by rw [HE.out]; exact h1.ok,h2⟩)
 ·have hv2 : ((t[0].toNat : Int) == 2) = false:=by rw [beq_eq_false_iff_ne]; omega
  have HE:=zd (HR3.out h1 h2)
  clear HR1 HR2 HR3 HR4 HR5 HR6 h1 h2
  go_enter Tryz.func83,Tryz.ntmps83
  go_wp2_with (fail)
  (first | refine bodyPost_end (results_none rfl _ _ _) rfl ?_ | refine bodyPost_ret (results_none rfl _ _ _) rfl ?_)
  exact ⟨rfl,by rw [HE.out]; exact HO.out.ok,Chg.refl _ _⟩
theorem spec_l22Record (w : World) (B g : Nat) (M : Blks) (x : Auditor) (ha : Aud B M w g x) (t : ByteArray) (ht : 0 < t.size) (ht2 : t.size ≤ 1048576) (hp : x.pins.length ≤ 1000000000) (hq : x.pairs.length ≤ 1000000000) : Calls Tryz.prog 76 #[.pointer (some ⟨g,0,none⟩), .string t] w fun e w' => e = .returned (.tuple #[]) ∧ Aud B M w' g (recTo t x) ∧ Chg (fun b => B ≤ b ∧ b < w.heap.size ∧ ¬ M b) w w':=by
 obtain ⟨A0,c0,A1,c1,A2,c2,A3,c3,F,G,ho⟩:=ha
 have hgw:=ho.bx.lt
 have hgB:=ho.gB
 have HO:=zd ho
 have HR1:=zd (fun h s hs => rec_pin (t:=t) (x:=x) (s:=s) ht h hs)
 have HR2:=zd (fun h hs => rec_nopin (t:=t) (x:=x) ht h hs)
 have HR3:=zd (fun h h2 => rec_other (t:=t) (x:=x) ht h h2)
 have HR4:=zd (fun h hs => rec_short (t:=t) (x:=x) ht h hs)
 have HR5:=zd (fun h u y s r hs h3 h4 => rec_pair (t:=t) (x:=x) (u:=u) (y:=y) (s:=s) (r:=r) ht h hs h3 h4)
 have HR6:=zd (fun h u y hs h3 => rec_nopair (t:=t) (x:=x) (u:=u) (y:=y) ht h hs h3)
 have hw:=ho.size
 have hem : (t.toList == ([] : List UInt8)) = false:=by rw [empty_eq]; exact decide_eq_false (fun e => by rw [e] at ht; exact absurd ht zz44)
 have hbt:=t[0].toNat_lt
 have ht0 : (0 : Int) < (t.size : Int):=zz4
 have ht1 : (1 : Int) ≤ (t.size : Int):=zz4
 clear ho
 by_cases h1 : t[0].toNat = 1
 ·have hv : ((t[0].toNat : Int) == 1) = true:=by rw [beq_iff_eq]; omega
  have HP:=zd (HR1.out h1)
  have HN:=zd (HR2.out h1)
  clear HR1 HR2 HR3 HR4 HR5 HR6 h1
  go_enter Tryz.func76,Tryz.ntmps76
  go_wp2_with (fail)
  refine (spec_ReadSeal w (t.extract 1 t.size) zz52).mono ?_
  rintro e1 w1 ⟨cs,s,ok,rfl,hrd,hb1,hy,hn⟩
  obtain ⟨E2,n2,_,E3,n3,_,E4,n4,_,rfl, -⟩:=Seal.open hrd
  have HRD:=zd hrd
  have hs1:=hb1.size
  simp only [Seal.cs]
  cases ok
  ·have HE:=zd (HN.out (hn rfl).1)
   clear hrd hy hn HP HN
   go_wp2_with (fail)
   have hbA:=hb1.alloc hs1 (.cells #[.int .i64 s.head.house, .int .i64 s.head.epoch, .string s.head.root, .string s.head.prev, .int .i64 s.sig.at_, .slice E2 s.sig.open_.length n2, .slice E3 s.sig.shut.length n3, .slice E4 s.sig.sides.length n4] 76)
   (first | refine bodyPost_end (results_none rfl _ _ _) rfl ?_ | refine bodyPost_ret (results_none rfl _ _ _) rfl ?_)
   exact ⟨rfl,by rw [HE.out]; exact (HO.out.later hbA).ok,Chg.below (Chg.refl _ w) hbA (Nat.le_refl _)⟩
  ·have HE:=zd (HP.out s (hy rfl))
   clear hy hn HP HN hrd
   go_upto_region 5 with (fail)
   obtain ⟨V,hV⟩ : ∃ V,w1.alloc (.cells #[.int .i64 s.head.house, .int .i64 s.head.epoch, .string s.head.root, .string s.head.prev, .int .i64 s.sig.at_, .slice E2 s.sig.open_.length n2, .slice E3 s.sig.shut.length n3, .slice E4 s.sig.sides.length n4] 76) = V:=⟨_,rfl⟩
   have hVf : Below w1.heap.size w1 V ∧ w1.heap.size < V.heap.size ∧ Bx V w1.heap.size #[.int .i64 s.head.house, .int .i64 s.head.epoch, .string s.head.root, .string s.head.prev, .int .i64 s.sig.at_, .slice E2 s.sig.open_.length n2, .slice E3 s.sig.shut.length n3, .slice E4 s.sig.sides.length n4] 76:=by
    rw [← hV]
    exact ⟨(Below.refl _ _).alloc (Nat.le_refl _) _,zz17,Bx.new _ _ _⟩
   rw [hV]
   clear hV
   obtain ⟨hbV,hlV,xV⟩:=hVf
   have HBV:=zd (hb1.trans (hbV.mono hs1))
   have HRV:=zd (Lay.later (Lay.tight HRD.out) hbV)
   have hgV : g < V.heap.size:=by have:=HBV.out.size; omega
   have xg:=zd (HO.out.bx.keep (HBV.out.block _ hgw))
   have q4:=xg.out.at_ (i:=4) rfl
   have q4a:=fun o => (cell_alloc q4 : (V.alloc o).cell? ⟨g,4,none⟩ = _)
   have y0:=xV.at_ (i:=0) rfl
   have y1:=xV.at_ (i:=1) rfl
   have y2:=xV.at_ (i:=2) rfl
   have y3:=xV.at_ (i:=3) rfl
   have y4:=xV.at_ (i:=4) rfl
   have y5:=xV.at_ (i:=5) rfl
   have y6:=xV.at_ (i:=6) rfl
   have y7:=xV.at_ (i:=7) rfl
   have HLN : Hid (x.pins.length = x.pins.length):=zd rfl
   have hlim : x.pins.length ≤ 2000000000:=zz4
   have hBw : B ≤ w.heap.size:=Nat.le_of_lt hw
   have hsV:=HBV.out.size
   clear hb1 hbV xV HRD
   go_region_law (refine step_trigW (w:=w) (y:=s) (T:=fun b => (nw w.heap.size b ∧ b < w1.heap.size) ∧ b < V.heap.size) rfl _ _ rfl rfl rfl HO.out.tri hBw (HBV.out.alloc hsV _).drew rfl ((srcR V s _ _ _ rfl HRV.out).keep ((Below.refl _ _).drew)) (fun b h => h.1.1) hlim ?_; intro A' c' w' tr hc; have TR:=zd tr; have HC:=zd hc; have xw:=xg.out.keep ((Below.heap_alloc V _ g hgV)) |>.keep (hc.block g (by show g < (V.alloc _).heap.size; simp; omega) (fun k => k.2.2 (.inl rfl))); have d4:=xw.at_ (i:=4) rfl; have df:=xw.fz; clear tr hc xw)
   all_goals (go_wp2_with (fail))
   all_goals (first | refine bodyPost_end (results_none rfl _ _ _) rfl ?_ | refine bodyPost_ret (results_none rfl _ _ _) rfl ?_)
   all_goals (obtain ⟨h1,h2⟩:=HO.out.pin rfl (HBV.out.alloc hsV _).drew TR.out HC.out; exact ⟨rfl,by rw [HE.out]; exact h1.ok,h2⟩)
 have hv : ((t[0].toNat : Int) == 1) = false:=by rw [beq_eq_false_iff_ne]; omega
 by_cases h2 : t[0].toNat = 2
 ·have hv2 : ((t[0].toNat : Int) == 2) = true:=by rw [beq_iff_eq]; omega
  have HS:=zd (HR4.out h2)
  have HP:=zd (HR5.out h2)
  have HN:=zd (HR6.out h2)
  clear HR1 HR2 HR3 HR4 HR5 HR6 h1 h2
  have ht1' : 1 ≤ t.size:=ht
  cases hsh : rdShort t 1 with
  | none =>
   have HE:=zd (HS.out hsh)
   have HSH:=zd hsh
   clear HS HP HN hsh
   go_enter Tryz.func76,Tryz.ntmps76
   go_wp2_with (fail)
   refine (spec_ReadShort w t ht2 1 ht1').mono ?_
   rintro e1 w1 ⟨rfl,hb1⟩
   rw [HSH.out]
   simp only [rsV]
   go_wp2_with (fail)
   (first | refine bodyPost_end (results_none rfl _ _ _) rfl ?_ | refine bodyPost_ret (results_none rfl _ _ _) rfl ?_)
   exact ⟨rfl,by rw [HE.out]; exact (HO.out.later hb1).ok,Chg.below (Chg.refl _ w) hb1 (Nat.le_refl _)⟩
  | some p =>
   obtain ⟨u,y⟩:=p
   have HSH:=zd hsh
   have hbd:=rdShort_some hsh
   obtain ⟨-,hyt,hus⟩ : 0 = 0 ∧ y ≤ t.size ∧ u.size ≤ 1048576:=by have:=hbd; exact ⟨rfl,zz4,zz4⟩
   have hyi : (y : Int) ≤ (t.size : Int):=zz4
   have HPP:=zd (fun s r => HP.out u y s r hsh)
   have HNN:=zd (HN.out u y hsh)
   clear HS HP HN hsh hbd
   go_enter Tryz.func76,Tryz.ntmps76
   go_wp2_with (fail)
   refine (spec_ReadShort w t ht2 1 ht1').mono ?_
   rintro e1 w1 ⟨rfl,hb1⟩
   rw [HSH.out]
   simp only [rsV]
   go_wp2_with (fail)
   refine (spec_ReadSeal w1 u hus).mono ?_
   rintro e2 w2 ⟨cs,s,ok,rfl,hrd,hb2,hy,hn⟩
   obtain ⟨E2,n2,_,E3,n3,_,E4,n4,_,rfl, -⟩:=Seal.open hrd
   simp only [Seal.cs]
   have HRD:=zd hrd
   have hs1:=hb1.size
   have HF12:=zd hb2.size
   have HW1:=zd hs1
   have HB2:=zd (hb1.trans (hb2.mono hs1))
   have HY:=zd hy
   have HN2:=zd hn
   clear hrd hb1 hb2 hy hn
   go_upto_region 10 with (fail)
   obtain ⟨V,hV⟩ : ∃ V,w2.alloc (.cells #[.int .i64 s.head.house, .int .i64 s.head.epoch, .string s.head.root, .string s.head.prev, .int .i64 s.sig.at_, .slice E2 s.sig.open_.length n2, .slice E3 s.sig.shut.length n3, .slice E4 s.sig.sides.length n4] 76) = V:=⟨_,rfl⟩
   have hVf : Below w2.heap.size w2 V ∧ w2.heap.size < V.heap.size ∧ Bx V w2.heap.size #[.int .i64 s.head.house, .int .i64 s.head.epoch, .string s.head.root, .string s.head.prev, .int .i64 s.sig.at_, .slice E2 s.sig.open_.length n2, .slice E3 s.sig.shut.length n3, .slice E4 s.sig.sides.length n4] 76:=zz33
   rw [hV]
   clear hV
   obtain ⟨hbV,hlV,xV⟩:=hVf
   have HBV:=zd (HB2.out.trans (hbV.mono HB2.out.size))
   have HRV:=zd (Lay.later (Lay.tight HRD.out) hbV)
   clear hbV HRD HB2
   go_wp2_with (fail)
   refine (spec_ReadSeal V (t.extract y t.size) zz52).mono ?_
   rintro e3 w3 ⟨cs3,r,ok3,rfl,hrd3,hb3,hy3,hn3⟩
   obtain ⟨F2,p2,_,F3,p3,_,F4,p4,_,rfl, -⟩:=Seal.open hrd3
   simp only [Seal.cs]
   have HR3:=zd hrd3
   have HB3:=zd (HBV.out.trans (hb3.mono HBV.out.size))
   have hsV:=HBV.out.size
   have hs3:=hb3.size
   have HRS:=zd (Lay.later (Lay.tight HRV.out) hb3)
   go_upto_region 11 with (fail)
   obtain ⟨Z,hV⟩ : ∃ V,w3.alloc (.cells #[.int .i64 r.head.house, .int .i64 r.head.epoch, .string r.head.root, .string r.head.prev, .int .i64 r.sig.at_, .slice F2 r.sig.open_.length p2, .slice F3 r.sig.shut.length p3, .slice F4 r.sig.sides.length p4] 76) = V:=⟨_,rfl⟩
   have hVf : Below w3.heap.size w3 Z ∧ w3.heap.size < Z.heap.size ∧ Bx Z w3.heap.size #[.int .i64 r.head.house, .int .i64 r.head.epoch, .string r.head.root, .string r.head.prev, .int .i64 r.sig.at_, .slice F2 r.sig.open_.length p2, .slice F3 r.sig.shut.length p3, .slice F4 r.sig.sides.length p4] 76:=zz33
   rw [hV]
   clear hV
   obtain ⟨hbZ,hlZ,xZ⟩:=hVf
   have xV2:=(xV.keep (hb3.block _ hlV)).keep (hbZ.block _ zz4)
   have HBZ:=zd (HB3.out.trans (hbZ.mono HB3.out.size))
   have HRX:=zd (Lay.later HRS.out hbZ)
   have HRY:=zd (Lay.later (Lay.tight HR3.out) hbZ)
   clear hrd3 hb3 hbZ xV HR3 HRS HRV HB3 HBV
   have HNO : Hid (ok = false ∨ ok3 = false → recTo t x = x):=zd (fun h => HNN.out (h.imp (fun h => (HN2.out h).1) (fun h => (hn3 h).1)))
   have HYE : Hid (ok = true → ok3 = true → recTo t x = { x with pairs:=x.pairs ++ [⟨s,r⟩] }):=zd (fun h h3 => HPP.out s r (HY.out h) (hy3 h3))
   have hl2 : w1.heap.size ≤ w2.heap.size:=HF12.out
   clear HNN HPP HY HN2 hy3 hn3
   cases ok
   ·have HE:=zd (HNO.out zz17)
    clear HNO HYE
    go_wp2_with (fail)
    (first | refine bodyPost_end (results_none rfl _ _ _) rfl ?_ | refine bodyPost_ret (results_none rfl _ _ _) rfl ?_)
    exact ⟨rfl,by rw [HE.out]; exact (HO.out.later HBZ.out).ok,Chg.below (Chg.refl _ w) HBZ.out (Nat.le_refl _)⟩
   ·cases ok3
    ·have HE:=zd (HNO.out zz17)
     clear HNO HYE
     go_wp2_with (fail)
     (first | refine bodyPost_end (results_none rfl _ _ _) rfl ?_ | refine bodyPost_ret (results_none rfl _ _ _) rfl ?_)
     exact ⟨rfl,by rw [HE.out]; exact (HO.out.later HBZ.out).ok,Chg.below (Chg.refl _ w) HBZ.out (Nat.le_refl _)⟩
    ·have HE:=zd (HYE.out rfl rfl)
     clear HNO HYE
     go_upto_region 12 with (fail)
     have hgZ : g < Z.heap.size:=by have:=HBZ.out.size; omega
     have xg:=zd (HO.out.bx.keep (HBZ.out.block _ hgw))
     have q5:=xg.out.at_ (i:=5) rfl
     have q5a:=fun o => (cell_alloc q5 : (Z.alloc o).cell? ⟨g,5,none⟩ = _)
     have y0:=xV2.at_ (i:=0) rfl
     have z0:=xZ.at_ (i:=0) rfl
     have y1:=xV2.at_ (i:=1) rfl
     have z1:=xZ.at_ (i:=1) rfl
     have y2:=xV2.at_ (i:=2) rfl
     have z2:=xZ.at_ (i:=2) rfl
     have y3:=xV2.at_ (i:=3) rfl
     have z3:=xZ.at_ (i:=3) rfl
     have y4:=xV2.at_ (i:=4) rfl
     have z4:=xZ.at_ (i:=4) rfl
     have y5:=xV2.at_ (i:=5) rfl
     have z5:=xZ.at_ (i:=5) rfl
     have y6:=xV2.at_ (i:=6) rfl
     have z6:=xZ.at_ (i:=6) rfl
     have y7:=xV2.at_ (i:=7) rfl
     have z7:=xZ.at_ (i:=7) rfl
     have hlim : x.pairs.length ≤ 2000000000:=zz4
     have hBw : B ≤ w.heap.size:=Nat.le_of_lt hw
     have hsZ:=HBZ.out.size
     have hsZ3 : w3.heap.size < Z.heap.size:=hlZ
     clear xV2 xZ
     have HPR : Hid (rd true Z (Seal.cs s E2 n2 E3 n3 E4 n4 ++ Seal.cs r F2 p2 F3 p3 F4 p4) (⟨s,r⟩ : Pair) (fun b => w.heap.size ≤ b)):=zd (pair_rd HRX.out HRY.out (fun b k => by have k1 : w1.heap.size ≤ b:=k.1.1; show w.heap.size ≤ b; have:=HW1.out; omega) (fun b k => by have k1 : V.heap.size ≤ b:=k.1; show w.heap.size ≤ b; omega) (fun b k k2 => by have k1 : b < w2.heap.size:=k.1.2; have k3 : V.heap.size ≤ b:=k2.1; omega))
     clear HRX HRY
     go_region_law (refine step_trigV (w:=w) (y:=(⟨s,r⟩ : Pair)) (T:=fun b => w.heap.size ≤ b ∧ b < Z.heap.size) rfl _ _ rfl rfl rfl HO.out.tri hBw (HBZ.out.alloc hsZ _).drew rfl ((srcR Z (⟨s,r⟩ : Pair) _ _ _ rfl HPR.out).keep ((Below.refl _ _).drew)) (fun b h => h.1) hlim ?_; intro A9 c9 w9 tr hc; have TR:=zd tr; have HC:=zd hc; have xw:=xg.out.keep ((Below.heap_alloc Z _ g hgZ)) |>.keep (hc.block g (by show g < (Z.alloc _).heap.size; simp; omega) (fun k => k.2.2 (.inl rfl))); have d5:=xw.at_ (i:=5) rfl; have df:=xw.fz; clear tr hc xw)
     all_goals (go_wp2_with (fail))
     all_goals (first | refine bodyPost_end (results_none rfl _ _ _) rfl ?_ | refine bodyPost_ret (results_none rfl _ _ _) rfl ?_)
     all_goals (obtain ⟨h1,h2⟩:=HO.out.pair rfl (HBZ.out.alloc hsZ _).drew TR.out HC.out; exact ⟨rfl,by rw [HE.out]; exact h1.ok,h2⟩)
 ·have hv2 : ((t[0].toNat : Int) == 2) = false:=by rw [beq_eq_false_iff_ne]; omega
  have HE:=zd (HR3.out h1 h2)
  clear HR1 HR2 HR3 HR4 HR5 HR6 h1 h2
  go_enter Tryz.func76,Tryz.ntmps76
  go_wp2_with (fail)
  (first | refine bodyPost_end (results_none rfl _ _ _) rfl ?_ | refine bodyPost_ret (results_none rfl _ _ _) rfl ?_)
  exact ⟨rfl,by rw [HE.out]; exact HO.out.ok,Chg.refl _ _⟩
end Go.Proofs.YtlfnmbcnehaikaaGreatDoor
