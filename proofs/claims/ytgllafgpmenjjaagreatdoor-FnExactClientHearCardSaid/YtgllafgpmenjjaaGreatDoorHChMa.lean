/- A part of the proof. -/
import Derived.Test.YtgllafgpmenjjaaGreatDoorHChL4xBr
import Derived.Test.YtgllafgpmenjjaaGreatDoorHChTy
set_option linter.unusedVariables false
set_option linter.unusedSimpArgs false
set_option maxRecDepth 40000
set_option maxHeartbeats 4000000
namespace Go.Proofs.YtgllafgpmenjjaaGreatDoor
open Go.RowKit Lay Mk
theorem I64_nat {k : Nat} (h : k ≤ 4611686018427387904) : I64 (k : Int):=by unfold I64; omega
theorem _root_.Go.RowKit.Below.chg_ {w w1 : World} (h : Below w.heap.size w w1) (U : Blks) : Chg U w w1:=⟨h.os,h.tape,h.output,h.size,fun k hk _ => h.block k hk⟩
theorem Shp.ofb {w w1 : World} {g t m : Nat} (h : Shp w g t m) (hb : Below w.heap.size w w1) : Shp w1 g t m:=h.of (hb.block g h.lt)
theorem Shp.ofc {w w1 : World} {g t m : Nat} {S : Blks} (h : Shp w g t m) (hb : Chg S w w1) (hn : ¬ S g) : Shp w1 g t m:=h.of (hb.block g h.lt hn)
theorem Chg.cellC {w w1 : World} {S : Blks} (hb : Chg S w w1) {p : Addr} (h : p.block < w.heap.size) (hn : ¬ S p.block) : w1.cell? p = w.cell? p:=World.cell?_of_block (hb.block p.block h hn)
theorem mark_HeadS (xs : List Head) (w : World) (A : Option Addr) (cap : Nat) (S : Blks) (a : Int) (k0 : Nat) (ha : a = (k0 : Int)) (hk : k0 + cnL xs ≤ 4611686018427387904) (hx : Row true w A cap xs S) (hl : xs.length ≤ maxLen) :
  Calls Tryz.prog 62 #[.slice A xs.length cap, .int .i64 a] w fun e w' => e = .returned (.int .i64 ((k0 + cnL xs : Nat) : Int)) ∧ Row true w' A cap (meL xs k0) S ∧ Chg S w w':=by
 subst ha
 unfold maxLen at hl
 have hxx:=hx
 rcases hx with ⟨rfl,rfl,rfl⟩ | ⟨g,cur_,rfl,hg,hh_,hcs_,_⟩
 ·go_enter Tryz.func62,Tryz.ntmps62
  go_wp2
  go_loopw [1,5] (fun l i wr => i = .int .i64 0 ∧ l = .int .i64 (k0 : Int) ∧ wr = w) (fun _ _ _ => 0)
  case atStart => exact ⟨rfl,rfl,rfl⟩
  case round =>
   obtain ⟨rfl,rfl,rfl⟩:=hrel
   go_wp2
   go_ret; exact ⟨rfl, .inl ⟨rfl,rfl,rfl⟩,Chg.refl _ _⟩
 have hsh0 : Shp w g (ty Head) (cap * 4):=⟨cur_,hh_,hcs_⟩
 clear hh_ hcs_
 go_enter Tryz.func62,Tryz.ntmps62
 go_wp2
 go_loopw [1,5] (fun l i wr => ∃ k : Nat,k ≤ xs.length ∧ i = .int .i64 k ∧ l = .int .i64 ((k0 + cnL (xs.take k) : Nat) : Int) ∧ Chg S w wr ∧ Row true wr (some ⟨g,0,none⟩) cap (meL (xs.take k) k0 ++ xs.drop k) S) (fun _ i _ => xs.length - (intOf i).toNat)
 case atStart => exact ⟨0,Nat.zero_le _,rfl,by simp [cnL],Chg.refl _ _,by simpa [meL] using hxx⟩
 case round =>
  obtain ⟨k,hkk,rfl,rfl,hch,hrow⟩:=hrel
  clear hxx
  by_cases hlt : k < xs.length
  ·have hylen : (meL (xs.take k) k0 ++ xs.drop k).length = xs.length:=by simp; omega
   have hstep:=meL_step xs k0 k hlt
   have hat:=meL_at xs k0 k hlt (by rw [hylen]; exact hlt)
   generalize hys : meL (xs.take k) k0 ++ xs.drop k = ys at hrow hylen hat hstep
   have hlty : k < ys.length:=zz8
   have hcs:=cnL_take_succ xs k hlt
   have hcl:=cnL_take_le xs (k + 1)
   generalize hK : k0 + cnL (xs.take k) = K at hstep
   generalize xs[k] = x at hat hcs hstep
   rw [show Mk.cn x = Head.cn x from rfl] at hcs
   have hs2 : Hid (k0 + cnL (xs.take (k + 1)) = K + Head.cn x):=zd zz8
   have hKb : K + Head.cn x ≤ 4611686018427387904:=zz8
   unfold Head.cn at hKb
   have hst : Hid (meL (xs.take (k + 1)) k0 ++ xs.drop (k + 1) = ys.set k (Head.me x K)):=zd hstep
   rcases hrow with ⟨h_,_⟩ | ⟨g2,cur,e_,_,hh,hcz,T,hT,hd,he⟩
   ·cases h_
   cases e_
   have hsh : Shp wr g (ty Head) (cap * 4):=⟨cur,hh,hcz⟩
   have hd:=hd rfl
   have hgl:=hsh.lt
   have hgT : ¬ T k g:=fun h => (hT k g h).2 rfl
   obtain ⟨c1,ha1,hr1⟩:=he k hlty
   rw [hat] at hr1
   have HE:=zd he; have HD:=zd hd; have HT:=zd hT
   clear hcs hcl hstep hat hys he hd hT hh hcz
   obtain ⟨rfl,ef0,ef1,ef2,ef3⟩:=Head.open hr1
   have q0 : wr.cell? ⟨g,k * 4,none⟩ = some (.int .i64 x.house):=by have:=ha1 0 _ rfl; simpa [show Lay.n Head = 4 from rfl] using this
   have q1 : wr.cell? ⟨g,k * 4 + 1,none⟩ = some (.int .i64 x.epoch):=by have:=ha1 1 _ rfl; simpa [show Lay.n Head = 4 from rfl] using this
   have q2 : wr.cell? ⟨g,k * 4 + 2,none⟩ = some (.string x.root):=by have:=ha1 2 _ rfl; simpa [show Lay.n Head = 4 from rfl] using this
   have q3 : wr.cell? ⟨g,k * 4 + 3,none⟩ = some (.string x.prev):=by have:=ha1 3 _ rfl; simpa [show Lay.n Head = 4 from rfl] using this
   clear ha1
   have hf0:=fun o => hsh.frozen o
   have hme : Hid (Head.me x K = (⟨(((K) : Nat) : Int),(((K + 1) : Nat) : Int),mtext (K + 1 + 1),mtext (K + 1 + 1 + 1)⟩ : Head)):=zd (by simp only [Head.me])
   have hKb0 : K + 4 ≤ 4611686018427387904:=zz8
   have hC0 : Chg (fun b => b = g ∨ T k b) wr wr:=Chg.refl _ _
   have hS0:=hsh
   go_wp2_with (fail)
   refine (mark_Text _ (K + 1 + 1) zz52 zz8 _).mono ?_
   rintro e1 w1 ⟨rfl,hb1⟩
   have hC1 : Chg (fun b => b = g ∨ T k b) wr w1:=Chg.trans (b:=_) (by have zh:=hC0; exact zz13) (hb1.chg_ (fun b => b = g ∨ T k b))
   have hS1 : Shp w1 g (ty Head) (cap * 4):=Shp.ofb (by have zh:=hS0; exact zz9) hb1
   have hc1:=fun o => hb1.cell (p:=⟨g,o,none⟩) (Shp.lt (show Shp _ g (ty Head) (cap * 4) from by have zh:=hS0; exact zz9))
   have hf1:=fun o => hS1.frozen o
   go_wp2_with (fail)
   refine (mark_Text _ (K + 1 + 1 + 1) zz52 zz8 _).mono ?_
   rintro e2 w2 ⟨rfl,hb2⟩
   have hC2 : Chg (fun b => b = g ∨ T k b) wr w2:=Chg.trans (b:=_) (by have zh:=hC1; exact zz13) (hb2.chg_ (fun b => b = g ∨ T k b))
   have hS2 : Shp w2 g (ty Head) (cap * 4):=Shp.ofb (by have zh:=hS1; exact zz9) hb2
   have hc2:=fun o => hb2.cell (p:=⟨g,o,none⟩) (Shp.lt (show Shp _ g (ty Head) (cap * 4) from by have zh:=hS1; exact zz9))
   have hf2:=fun o => hS2.frozen o
   go_wp2
   go_roundw
   case rel =>
    refine ⟨k + 1,zz8,by go_num,by rw [hs2.out]; first | go_num | (congr 1; unfold Head.cn; omega),?_,?_⟩
    ·refine Chg.trans hch (Chg.mono (show Chg (fun b => b = g ∨ T k b) wr _ from by have zh:=hC2; exact zz13) (fun b _ h => h.elim (fun e => e ▸ hg) (fun h => (HT.out k b h).1)))
    ·rw [hst.out,hme.out]
     refine Row.setN (N:=4) (T:=T) (w:=wr) (cs:=[.int .i64 (((K) : Nat) : Int), .int .i64 (((K + 1) : Nat) : Int), .string (mtext (K + 1 + 1)), .string (mtext (K + 1 + 1 + 1))]) rfl hg HT.out HD.out HE.out hlty (show Shp _ g (ty Head) (cap * 4) from by have zh:=hS2; exact zz9) (fun o ho => ?_) (show Chg (fun b => b = g ∨ T k b) wr _ from by have zh:=hC2; exact zz13) ?_ ?_
     ·have n0 : o ≠ k * 4:=by intro h; apply ho; rw [h]; omega
      have n1 : o ≠ k * 4 + 1:=zz33
      have n2 : o ≠ k * 4 + 2:=zz33
      have n3 : o ≠ k * 4 + 3:=zz33
      simp only [hc2,hc1,yad _ _ _ o _ n0,yad _ _ _ o _ n1,yad _ _ _ o _ n2,yad _ _ _ o _ n3]
     ·intro j u hu
      have hj : j < 4:=(List.getElem?_eq_some_iff.1 hu).1
      rcases (by omega : j = 0 ∨ j = 1 ∨ j = 2 ∨ j = 3) with rfl | rfl | rfl | rfl
      all_goals (have hu:=Option.some.inj hu; subst hu; go_simp; try simp)
     ·exact Head.mk' (m:=true) (x:=(⟨(((K) : Nat) : Int),(((K + 1) : Nat) : Int),mtext (K + 1 + 1),mtext (K + 1 + 1 + 1)⟩ : Head)) (S:=T k) (I64_nat zz8) (I64_nat zz8) (mtext_size (K + 1 + 1) zz8) (mtext_size (K + 1 + 1 + 1) zz8)
   case measure => simp [intOf]; omega
  ·have hke : k = xs.length:=by omega
   go_wp2
   go_ret; subst hke; refine ⟨by rw [List.take_of_length_le (Nat.le_refl _)]; rfl,by simpa using hrow,hch⟩
theorem markr_Client (x : Client) (w : World) (A0 : Option Addr) (k0 : Nat) (S0 : Blks) (a : Int) (k : Nat) (ha : a = (k : Int)) (hk : k + x.ct ≤ 4611686018427387904) (r0 : Row true w A0 k0 x.seen S0) (l0 : x.seen.length ≤ maxLen) :
  Calls Tryz.prog 20 #[.agg (Client.cs x A0 k0).toArray, .int .i64 a] w fun e w' => e = .returned (.int .i64 ((k + x.ct : Nat) : Int)) ∧ (Row true w' A0 k0 (meL x.seen (k)) S0) ∧ Chg S0 w w':=by
 subst ha
 unfold Client.ct at hk
 obtain ⟨K0,hK0⟩ : ∃ q,k + cnL x.seen = q:=⟨_,rfl⟩
 have hfin : Hid (((k + x.ct : Nat) : Int) = (K0 : Int)):=zd (by unfold Client.ct; omega)
 have HK0:=zd hK0; clear hK0
 rw [hfin.out]
 have t0_0:=r0.tight
 clear r0
 have hC0 : Chg S0 w w:=Chg.refl _ _
 have hz0:=Nat.le_refl w.heap.size
 simp only [Client.cs]
 go_enter Tryz.func20,Tryz.ntmps20
 go_wp2_with (fail)
 refine (mark_HeadS x.seen _ _ _ (fun b => S0 b ∧ b < w.heap.size) _ k (by first | rfl | omega) (by have:=HK0.out; omega) (show Row true _ A0 k0 x.seen (fun b => S0 b ∧ b < w.heap.size) from by have zh:=t0_0; exact zz6) l0).mono ?_
 rw [HK0.out]
 rintro e1 w1 ⟨rfl,t1_0,hb1⟩
 have hV1 : ∀ b,(fun b => S0 b ∧ b < w.heap.size) b → b < w.heap.size:=(fun b (h : (fun b => S0 b ∧ b < w.heap.size) b) => (show b < w.heap.size from by exact h.2))
 have hz1 : w.heap.size + 1 ≤ w1.heap.size:=zz27
 have hC1 : Chg S0 w w1:=Chg.trans (b:=_) (by have zh:=hC0; exact zz24) (hb1.mono (fun b _ h => (ya9 _) b h.1))
 have hc1:=fun o => hb1.cellC (p:=⟨w.heap.size,o,none⟩) zz0 (fun h => absurd (hV1 _ h) (Nat.lt_irrefl _))
 go_wp2
 go_ret
 exact ⟨rfl,Row.mono (show Row true _ A0 k0 (meL x.seen k) (fun b => S0 b ∧ b < w.heap.size) from by have zh:=t1_0; exact zz6) (fun _ x => x.1),by have zh:=hC1; exact zz24⟩
theorem mark_Client (x : Client) (w : World) (cs : List Value) (S : Blks) (a : Int) (k : Nat) (ha : a = (k : Int)) (hk : k + x.ct ≤ 4611686018427387904) (hx : rd true w cs x S) :
  Calls Tryz.prog 20 #[.agg cs.toArray, .int .i64 a] w fun e w' => e = .returned (.int .i64 ((k + x.ct : Nat) : Int)) ∧ rd true w' cs (x.mt k) S ∧ Chg S w w':=by
 obtain ⟨A0,k0,S0,rfl,f0,a0,b0,r0,s0⟩:=Client.open hx
 refine (markr_Client x w A0 k0 S0 a k ha hk r0 (Nat.le_trans a0 b0)).mono ?_
 rintro e w1 ⟨rfl,t0,hb⟩
 have hm : rd true w1 (Client.cs (⟨x.house,meL x.seen (k)⟩ : Client) A0 k0) (⟨x.house,meL x.seen (k)⟩ : Client) S:=Client.mk' (x:=(⟨x.house,meL x.seen (k)⟩ : Client)) f0 (by rw [meL_length]; exact a0) b0 t0 s0
 refine ⟨rfl,?_,hb.mono (fun b _ h => (show S b from s0 b h))⟩
 simpa only [Client.cs,meL_length,Client.mt] using hm
theorem mark_StringS (xs : List ByteArray) (w : World) (A : Option Addr) (cap : Nat) (S : Blks) (a : Int) (k0 : Nat) (ha : a = (k0 : Int)) (hk : k0 + cnL xs ≤ 4611686018427387904) (hx : Row true w A cap xs S) (hl : xs.length ≤ maxLen) :
  Calls Tryz.prog 63 #[.slice A xs.length cap, .int .i64 a] w fun e w' => e = .returned (.int .i64 ((k0 + cnL xs : Nat) : Int)) ∧ Row true w' A cap (meL xs k0) S ∧ Chg S w w':=by
 subst ha
 unfold maxLen at hl
 have hxx:=hx
 rcases hx with ⟨rfl,rfl,rfl⟩ | ⟨g,cur_,rfl,hg,hh_,hcs_,_⟩
 ·go_enter Tryz.func63,Tryz.ntmps63
  go_wp2
  go_loopw [1,5] (fun l i wr => i = .int .i64 0 ∧ l = .int .i64 (k0 : Int) ∧ wr = w) (fun _ _ _ => 0)
  case atStart => exact ⟨rfl,rfl,rfl⟩
  case round =>
   obtain ⟨rfl,rfl,rfl⟩:=hrel
   go_wp2
   go_ret; exact ⟨rfl, .inl ⟨rfl,rfl,rfl⟩,Chg.refl _ _⟩
 have hsh0 : Shp w g (ty ByteArray) (cap * 1):=⟨cur_,hh_,hcs_⟩
 clear hh_ hcs_
 go_enter Tryz.func63,Tryz.ntmps63
 go_wp2
 go_loopw [1,5] (fun l i wr => ∃ k : Nat,k ≤ xs.length ∧ i = .int .i64 k ∧ l = .int .i64 ((k0 + cnL (xs.take k) : Nat) : Int) ∧ Chg S w wr ∧ Row true wr (some ⟨g,0,none⟩) cap (meL (xs.take k) k0 ++ xs.drop k) S) (fun _ i _ => xs.length - (intOf i).toNat)
 case atStart => exact ⟨0,Nat.zero_le _,rfl,by simp [cnL],Chg.refl _ _,by simpa [meL] using hxx⟩
 case round =>
  obtain ⟨k,hkk,rfl,rfl,hch,hrow⟩:=hrel
  clear hxx
  by_cases hlt : k < xs.length
  ·have hylen : (meL (xs.take k) k0 ++ xs.drop k).length = xs.length:=by simp; omega
   have hstep:=meL_step xs k0 k hlt
   have hat:=meL_at xs k0 k hlt (by rw [hylen]; exact hlt)
   generalize hys : meL (xs.take k) k0 ++ xs.drop k = ys at hrow hylen hat hstep
   have hlty : k < ys.length:=zz8
   have hcs:=cnL_take_succ xs k hlt
   have hcl:=cnL_take_le xs (k + 1)
   generalize hK : k0 + cnL (xs.take k) = K at hstep
   generalize xs[k] = x at hat hcs hstep
   rw [show Mk.cn x = 1 from rfl] at hcs
   have hs2 : Hid (k0 + cnL (xs.take (k + 1)) = K + 1):=zd zz8
   have hKb : K + 1 ≤ 4611686018427387904:=zz8
   have hst : Hid (meL (xs.take (k + 1)) k0 ++ xs.drop (k + 1) = ys.set k (mtext K)):=zd hstep
   rcases hrow with ⟨h_,_⟩ | ⟨g2,cur,e_,_,hh,hcz,T,hT,hd,he⟩
   ·cases h_
   cases e_
   have hsh : Shp wr g (ty ByteArray) (cap * 1):=⟨cur,hh,hcz⟩
   have hd:=hd rfl
   have hgl:=hsh.lt
   have hgT : ¬ T k g:=fun h => (hT k g h).2 rfl
   obtain ⟨c1,ha1,hr1⟩:=he k hlty
   rw [hat] at hr1
   have HE:=zd he; have HD:=zd hd; have HT:=zd hT
   clear hcs hcl hstep hat hys he hd hT hh hcz
   have hr1 : rd true wr c1 (x : ByteArray) (T k):=hr1
   obtain ⟨rfl,_⟩:=open_str hr1
   clear hr1
   have q0 : wr.cell? ⟨g,k,none⟩ = some (.string x):=by have:=ha1 0 _ rfl; simpa [show Lay.n ByteArray = 1 from rfl] using this
   clear ha1
   have hf0:=fun o => hsh.frozen o
   have hKb0 : K + 1 ≤ 4611686018427387904:=zz8
   have hC0 : Chg (fun b => b = g ∨ T k b) wr wr:=Chg.refl _ _
   have hS0:=hsh
   go_wp2_with (fail)
   refine (mark_Text _ (K) zz52 zz8 _).mono ?_
   rintro e1 w1 ⟨rfl,hb1⟩
   have hC1 : Chg (fun b => b = g ∨ T k b) wr w1:=Chg.trans (b:=_) (by have zh:=hC0; exact zz13) (hb1.chg_ (fun b => b = g ∨ T k b))
   have hS1 : Shp w1 g (ty ByteArray) (cap * 1):=Shp.ofb (by have zh:=hS0; exact zz9) hb1
   have hc1:=fun o => hb1.cell (p:=⟨g,o,none⟩) (Shp.lt (show Shp _ g (ty ByteArray) (cap * 1) from by have zh:=hS0; exact zz9))
   have hf1:=fun o => hS1.frozen o
   go_wp2
   go_roundw
   case rel =>
    refine ⟨k + 1,zz8,by go_num,by rw [hs2.out]; first | go_num | (congr 1; omega),?_,?_⟩
    ·refine Chg.trans hch (Chg.mono (show Chg (fun b => b = g ∨ T k b) wr _ from by have zh:=hC1; exact zz13) (fun b _ h => h.elim (fun e => e ▸ hg) (fun h => (HT.out k b h).1)))
    ·rw [hst.out]
     refine Row.setN (N:=1) (T:=T) (w:=wr) (cs:=[.string (mtext (K))]) rfl hg HT.out HD.out HE.out hlty (show Shp _ g (ty ByteArray) (cap * 1) from by have zh:=hS1; exact zz9) (fun o ho => ?_) (show Chg (fun b => b = g ∨ T k b) wr _ from by have zh:=hC1; exact zz13) ?_ ?_
     ·have n0 : o ≠ k:=by intro h; apply ho; rw [h]; omega
      simp only [hc1,yad _ _ _ o _ n0]
     ·intro j u hu
      have hj : j < 1:=(List.getElem?_eq_some_iff.1 hu).1
      obtain rfl : j = 0:=by omega
      all_goals (have hu:=Option.some.inj hu; subst hu; go_simp; try simp)
     ·exact ⟨rfl,mtext_size _ zz8⟩
   case measure => simp [intOf]; omega
  ·have hke : k = xs.length:=by omega
   go_wp2
   go_ret; subst hke; refine ⟨by rw [List.take_of_length_le (Nat.le_refl _)]; rfl,by simpa using hrow,hch⟩
theorem markr_Trust (x : Trust) (w : World) (A0 : Option Addr) (k0 : Nat) (S0 : Blks) (a : Int) (k : Nat) (ha : a = (k : Int)) (hk : k + x.ct ≤ 4611686018427387904) (r0 : Row true w A0 k0 x.roots S0) (l0 : x.roots.length ≤ maxLen) :
  Calls Tryz.prog 21 #[.agg (Trust.cs x A0 k0).toArray, .int .i64 a] w fun e w' => e = .returned (.int .i64 ((k + x.ct : Nat) : Int)) ∧ (Row true w' A0 k0 (meL x.roots (k)) S0) ∧ Chg S0 w w':=by
 subst ha
 unfold Trust.ct at hk
 obtain ⟨K0,hK0⟩ : ∃ q,k + cnL x.roots = q:=⟨_,rfl⟩
 have hfin : Hid (((k + x.ct : Nat) : Int) = (K0 : Int)):=zd (by unfold Trust.ct; omega)
 have HK0:=zd hK0; clear hK0
 rw [hfin.out]
 have t0_0:=r0.tight
 clear r0
 have hC0 : Chg S0 w w:=Chg.refl _ _
 have hz0:=Nat.le_refl w.heap.size
 simp only [Trust.cs]
 go_enter Tryz.func21,Tryz.ntmps21
 go_wp2_with (fail)
 refine (mark_StringS x.roots _ _ _ (fun b => S0 b ∧ b < w.heap.size) _ k (by first | rfl | omega) (by have:=HK0.out; omega) (show Row true _ A0 k0 x.roots (fun b => S0 b ∧ b < w.heap.size) from by have zh:=t0_0; exact zz6) l0).mono ?_
 rw [HK0.out]
 rintro e1 w1 ⟨rfl,t1_0,hb1⟩
 have hV1 : ∀ b,(fun b => S0 b ∧ b < w.heap.size) b → b < w.heap.size:=(fun b (h : (fun b => S0 b ∧ b < w.heap.size) b) => (show b < w.heap.size from by exact h.2))
 have hz1 : w.heap.size + 1 ≤ w1.heap.size:=zz27
 have hC1 : Chg S0 w w1:=Chg.trans (b:=_) (by have zh:=hC0; exact zz24) (hb1.mono (fun b _ h => (ya9 _) b h.1))
 have hc1:=fun o => hb1.cellC (p:=⟨w.heap.size,o,none⟩) zz0 (fun h => absurd (hV1 _ h) (Nat.lt_irrefl _))
 go_wp2
 go_ret
 exact ⟨rfl,Row.mono (show Row true _ A0 k0 (meL x.roots k) (fun b => S0 b ∧ b < w.heap.size) from by have zh:=t1_0; exact zz6) (fun _ x => x.1),by have zh:=hC1; exact zz24⟩
theorem mark_Trust (x : Trust) (w : World) (cs : List Value) (S : Blks) (a : Int) (k : Nat) (ha : a = (k : Int)) (hk : k + x.ct ≤ 4611686018427387904) (hx : rd true w cs x S) :
  Calls Tryz.prog 21 #[.agg cs.toArray, .int .i64 a] w fun e w' => e = .returned (.int .i64 ((k + x.ct : Nat) : Int)) ∧ rd true w' cs (x.mt k) S ∧ Chg S w w':=by
 obtain ⟨A0,k0,S0,rfl,f1,f2,a0,b0,r0,s0⟩:=Trust.open hx
 refine (markr_Trust x w A0 k0 S0 a k ha hk r0 (Nat.le_trans a0 b0)).mono ?_
 rintro e w1 ⟨rfl,t0,hb⟩
 have hm : rd true w1 (Trust.cs (⟨meL x.roots (k),x.k,x.need⟩ : Trust) A0 k0) (⟨meL x.roots (k),x.k,x.need⟩ : Trust) S:=Trust.mk' (x:=(⟨meL x.roots (k),x.k,x.need⟩ : Trust)) (by rw [meL_length]; exact a0) b0 t0 s0 f1 f2
 refine ⟨rfl,?_,hb.mono (fun b _ h => (show S b from s0 b h))⟩
 simpa only [Trust.cs,meL_length,Trust.mt] using hm
theorem markr_Sig (x : Sig) (w : World) (A0 : Option Addr) (k0 : Nat) (S0 : Blks) (A1 : Option Addr) (k1 : Nat) (S1 : Blks) (A2 : Option Addr) (k2 : Nat) (S2 : Blks) (a : Int) (k : Nat) (ha : a = (k : Int)) (hk : k + x.ct ≤ 4611686018427387904) (r0 : Row true w A0 k0 x.open_ S0) (l0 : x.open_.length ≤ maxLen) (r1 : Row true w A1 k1 x.shut S1) (l1 : x.shut.length ≤ maxLen) (r2 : Row true w A2 k2 x.sides S2) (l2 : x.sides.length ≤ maxLen) (pw : List.Pairwise disj [S0,S1,S2]) :
  Calls Tryz.prog 110 #[.agg (Sig.cs x A0 k0 A1 k1 A2 k2).toArray, .int .i64 a] w fun e w' => e = .returned (.int .i64 ((k + x.ct : Nat) : Int)) ∧ (Row true w' A0 k0 (meL x.open_ (k)) S0 ∧ Row true w' A1 k1 (meL x.shut (k + cnL x.open_)) S1 ∧ Row true w' A2 k2 (meL x.sides (k + cnL x.open_ + cnL x.shut)) S2) ∧ Chg (un S0 (un S1 S2)) w w':=by
 subst ha
 unfold Sig.ct at hk
 obtain ⟨K0,hK0⟩ : ∃ q,k + cnL x.open_ = q:=⟨_,rfl⟩
 obtain ⟨K1,hK1⟩ : ∃ q,K0 + cnL x.shut = q:=⟨_,rfl⟩
 obtain ⟨K2,hK2⟩ : ∃ q,K1 + cnL x.sides = q:=⟨_,rfl⟩
 have hfin : Hid (((k + x.ct : Nat) : Int) = (K2 : Int)):=zd (by unfold Sig.ct; omega)
 simp only [hK0,hK1]
 have HK0:=zd hK0; clear hK0
 have HK1:=zd hK1; clear hK1
 have HK2:=zd hK2; clear hK2
 rw [hfin.out]
 have t0_0:=r0.tight
 have t0_1:=r1.tight
 have t0_2:=r2.tight
 clear r0 r1 r2
 have d0_1:=yae (pwget3_0_1 pw) (fun b (x : S0 b ∧ b < w.heap.size) => x.1) (fun b (x : S1 b ∧ b < w.heap.size) => x.1)
 have d0_2:=yae (pwget3_0_2 pw) (fun b (x : S0 b ∧ b < w.heap.size) => x.1) (fun b (x : S2 b ∧ b < w.heap.size) => x.1)
 have d1_2:=yae (pwget3_1_2 pw) (fun b (x : S1 b ∧ b < w.heap.size) => x.1) (fun b (x : S2 b ∧ b < w.heap.size) => x.1)
 clear pw
 have hC0 : Chg (un S0 (un S1 S2)) w w:=Chg.refl _ _
 have hz0:=Nat.le_refl w.heap.size
 simp only [Sig.cs]
 go_enter Tryz.func110,Tryz.ntmps110
 go_wp2_with (fail)
 refine (mark_StringS x.open_ _ _ _ (fun b => S0 b ∧ b < w.heap.size) _ k (by first | rfl | omega) (by have:=HK0.out; have:=HK1.out; have:=HK2.out; omega) (show Row true _ A0 k0 x.open_ (fun b => S0 b ∧ b < w.heap.size) from by have zh:=t0_0; exact zz6) l0).mono ?_
 rw [HK0.out]
 rintro e1 w1 ⟨rfl,t1_0,hb1⟩
 have hV1 : ∀ b,(fun b => S0 b ∧ b < w.heap.size) b → b < w.heap.size:=(fun b (h : (fun b => S0 b ∧ b < w.heap.size) b) => (show b < w.heap.size from by exact h.2))
 have hz1 : w.heap.size + 1 ≤ w1.heap.size:=zz27
 have hC1 : Chg (un S0 (un S1 S2)) w w1:=Chg.trans (b:=_) (by have zh:=hC0; exact zz24) (hb1.mono (fun b _ h => (un_left _ _) b h.1))
 have t1_1:=Row.chg (show Row true _ A1 k1 x.shut (fun b => S1 b ∧ b < w.heap.size) from by have zh:=t0_1; exact zz6) hb1 (disj_symm d0_1)
 have t1_2:=Row.chg (show Row true _ A2 k2 x.sides (fun b => S2 b ∧ b < w.heap.size) from by have zh:=t0_2; exact zz6) hb1 (disj_symm d0_2)
 have hc1:=fun o => hb1.cellC (p:=⟨w.heap.size,o,none⟩) zz0 (fun h => absurd (hV1 _ h) (Nat.lt_irrefl _))
 go_wp2_with (fail)
 refine (mark_StringS x.shut _ _ _ (fun b => S1 b ∧ b < w.heap.size) _ K0 (by first | rfl | omega) (by have:=HK0.out; have:=HK1.out; have:=HK2.out; omega) (show Row true _ A1 k1 x.shut (fun b => S1 b ∧ b < w.heap.size) from by have zh:=t1_1; exact zz6) l1).mono ?_
 rw [HK1.out]
 rintro e2 w2 ⟨rfl,t2_1,hb2⟩
 have hV2 : ∀ b,(fun b => S1 b ∧ b < w.heap.size) b → b < w.heap.size:=(fun b (h : (fun b => S1 b ∧ b < w.heap.size) b) => (show b < w.heap.size from by exact h.2))
 have hz2 : w.heap.size + 1 ≤ w2.heap.size:=zz42
 have hC2 : Chg (un S0 (un S1 S2)) w w2:=Chg.trans (b:=_) (by have zh:=hC1; exact zz24) (hb2.mono (fun b _ h => (ya3 (un_left _ _) (yac _ _)) b h.1))
 have t2_0:=Row.chg (show Row true _ A0 k0 (meL x.open_ k) (fun b => S0 b ∧ b < w.heap.size) from by have zh:=t1_0; exact zz6) hb2 d0_1
 have t2_2:=Row.chg (show Row true _ A2 k2 x.sides (fun b => S2 b ∧ b < w.heap.size) from by have zh:=t1_2; exact zz6) hb2 (disj_symm d1_2)
 have hc2:=fun o => hb2.cellC (p:=⟨w.heap.size,o,none⟩) zz0 (fun h => absurd (hV2 _ h) (Nat.lt_irrefl _))
 go_wp2_with (fail)
 refine (mark_StringS x.sides _ _ _ (fun b => S2 b ∧ b < w.heap.size) _ K1 (by first | rfl | omega) (by have:=HK0.out; have:=HK1.out; have:=HK2.out; omega) (show Row true _ A2 k2 x.sides (fun b => S2 b ∧ b < w.heap.size) from by have zh:=t2_2; exact zz6) l2).mono ?_
 rw [HK2.out]
 rintro e3 w3 ⟨rfl,t3_2,hb3⟩
 have hV3 : ∀ b,(fun b => S2 b ∧ b < w.heap.size) b → b < w.heap.size:=(fun b (h : (fun b => S2 b ∧ b < w.heap.size) b) => (show b < w.heap.size from by exact h.2))
 have hz3 : w.heap.size + 1 ≤ w3.heap.size:=zz65
 have hC3 : Chg (un S0 (un S1 S2)) w w3:=Chg.trans (b:=_) (by have zh:=hC2; exact zz24) (hb3.mono (fun b _ h => (ya3 (ya3 (ya9 _) (yac _ _)) (yac _ _)) b h.1))
 have t3_0:=Row.chg (show Row true _ A0 k0 (meL x.open_ k) (fun b => S0 b ∧ b < w.heap.size) from by have zh:=t2_0; exact zz6) hb3 d0_2
 have t3_1:=Row.chg (show Row true _ A1 k1 (meL x.shut K0) (fun b => S1 b ∧ b < w.heap.size) from by have zh:=t2_1; exact zz6) hb3 d1_2
 have hc3:=fun o => hb3.cellC (p:=⟨w.heap.size,o,none⟩) zz0 (fun h => absurd (hV3 _ h) (Nat.lt_irrefl _))
 go_wp2
 go_ret
 exact ⟨rfl,⟨Row.mono (show Row true _ A0 k0 (meL x.open_ k) (fun b => S0 b ∧ b < w.heap.size) from by have zh:=t3_0; exact zz6) (fun _ x => x.1),Row.mono (show Row true _ A1 k1 (meL x.shut K0) (fun b => S1 b ∧ b < w.heap.size) from by have zh:=t3_1; exact zz6) (fun _ x => x.1),Row.mono (show Row true _ A2 k2 (meL x.sides K1) (fun b => S2 b ∧ b < w.heap.size) from by have zh:=t3_2; exact zz6) (fun _ x => x.1)⟩,by have zh:=hC3; exact zz24⟩
theorem markr_Seal (x : Seal) (w : World) (A0 : Option Addr) (k0 : Nat) (S0 : Blks) (A1 : Option Addr) (k1 : Nat) (S1 : Blks) (A2 : Option Addr) (k2 : Nat) (S2 : Blks) (a : Int) (k : Nat) (ha : a = (k : Int)) (hk : k + x.ct ≤ 4611686018427387904) (r0 : Row true w A0 k0 x.sig.open_ S0) (l0 : x.sig.open_.length ≤ maxLen) (r1 : Row true w A1 k1 x.sig.shut S1) (l1 : x.sig.shut.length ≤ maxLen) (r2 : Row true w A2 k2 x.sig.sides S2) (l2 : x.sig.sides.length ≤ maxLen) (pw : List.Pairwise disj [S0,S1,S2]) :
  Calls Tryz.prog 66 #[.agg (Seal.cs x A0 k0 A1 k1 A2 k2).toArray, .int .i64 a] w fun e w' => e = .returned (.int .i64 ((k + x.ct : Nat) : Int)) ∧ (Row true w' A0 k0 (meL x.sig.open_ (k)) S0 ∧ Row true w' A1 k1 (meL x.sig.shut (k + cnL x.sig.open_)) S1 ∧ Row true w' A2 k2 (meL x.sig.sides (k + cnL x.sig.open_ + cnL x.sig.shut)) S2) ∧ Chg (un S0 (un S1 S2)) w w':=by
 subst ha
 unfold Seal.ct at hk
 obtain ⟨K0,hK0⟩ : ∃ q,k + cnL x.sig.open_ = q:=⟨_,rfl⟩
 obtain ⟨K1,hK1⟩ : ∃ q,K0 + cnL x.sig.shut = q:=⟨_,rfl⟩
 obtain ⟨K2,hK2⟩ : ∃ q,K1 + cnL x.sig.sides = q:=⟨_,rfl⟩
 have hfin : Hid (((k + x.ct : Nat) : Int) = (K2 : Int)):=zd (by unfold Seal.ct; omega)
 simp only [hK0,hK1]
 have HK0:=zd hK0; clear hK0
 have HK1:=zd hK1; clear hK1
 have HK2:=zd hK2; clear hK2
 rw [hfin.out]
 have t0_0:=r0.tight
 have t0_1:=r1.tight
 have t0_2:=r2.tight
 clear r0 r1 r2
 have d0_1:=yae (pwget3_0_1 pw) (fun b (x : S0 b ∧ b < w.heap.size) => x.1) (fun b (x : S1 b ∧ b < w.heap.size) => x.1)
 have d0_2:=yae (pwget3_0_2 pw) (fun b (x : S0 b ∧ b < w.heap.size) => x.1) (fun b (x : S2 b ∧ b < w.heap.size) => x.1)
 have d1_2:=yae (pwget3_1_2 pw) (fun b (x : S1 b ∧ b < w.heap.size) => x.1) (fun b (x : S2 b ∧ b < w.heap.size) => x.1)
 clear pw
 have hC0 : Chg (un S0 (un S1 S2)) w w:=Chg.refl _ _
 have hz0:=Nat.le_refl w.heap.size
 simp only [Seal.cs]
 go_enter Tryz.func66,Tryz.ntmps66
 go_wp2_with (fail)
 refine (markr_Sig x.sig _ A0 k0 (fun b => S0 b ∧ b < w.heap.size) A1 k1 (fun b => S1 b ∧ b < w.heap.size) A2 k2 (fun b => S2 b ∧ b < w.heap.size) _ k (by first | rfl | omega) (by have:=HK0.out; have:=HK1.out; have:=HK2.out; unfold Sig.ct; omega) (show Row true _ A0 k0 x.sig.open_ (fun b => S0 b ∧ b < w.heap.size) from by have zh:=t0_0; exact zz6) l0 (show Row true _ A1 k1 x.sig.shut (fun b => S1 b ∧ b < w.heap.size) from by have zh:=t0_1; exact zz6) l1 (show Row true _ A2 k2 x.sig.sides (fun b => S2 b ∧ b < w.heap.size) from by have zh:=t0_2; exact zz6) l2 (pwmk3 d0_1 d0_2 d1_2)).mono ?_
 rw [show k + (x.sig).ct = K2 from by have:=HK0.out; have:=HK1.out; have:=HK2.out; unfold Sig.ct; omega]
 simp only [HK0.out,HK1.out]
 rintro e1 w1 ⟨rfl,⟨t1_0,t1_1,t1_2⟩,hb1⟩
 have hV1 : ∀ b,(un (fun b => S0 b ∧ b < w.heap.size) (un (fun b => S1 b ∧ b < w.heap.size) (fun b => S2 b ∧ b < w.heap.size))) b → b < w.heap.size:=(fun b (h : (un (fun b => S0 b ∧ b < w.heap.size) (un (fun b => S1 b ∧ b < w.heap.size) (fun b => S2 b ∧ b < w.heap.size))) b) => (show b < w.heap.size from by unfold un at h; (try simp only at h); rcases h with h | (h | h) <;> exact h.2))
 have hz1 : w.heap.size + 1 ≤ w1.heap.size:=zz27
 have hC1 : Chg (un S0 (un S1 S2)) w w1:=Chg.trans (b:=_) (by have zh:=hC0; exact zz24) (hb1.mono (fun b _ h => (show (un S0 (un S1 S2)) b from by unfold un at h; (try simp only at h); rcases h with h | (h | h) <;> first | exact (un_left _ _) b h.1 | exact (ya3 (un_left _ _) (yac _ _)) b h.1 | exact (ya3 (ya3 (ya9 _) (yac _ _)) (yac _ _)) b h.1)))
 have hc1:=fun o => hb1.cellC (p:=⟨w.heap.size,o,none⟩) zz0 (fun h => absurd (hV1 _ h) (Nat.lt_irrefl _))
 go_wp2
 go_ret
 exact ⟨rfl,⟨Row.mono (show Row true _ A0 k0 (meL x.sig.open_ k) (fun b => S0 b ∧ b < w.heap.size) from by have zh:=t1_0; exact zz6) (fun _ x => x.1),Row.mono (show Row true _ A1 k1 (meL x.sig.shut K0) (fun b => S1 b ∧ b < w.heap.size) from by have zh:=t1_1; exact zz6) (fun _ x => x.1),Row.mono (show Row true _ A2 k2 (meL x.sig.sides K1) (fun b => S2 b ∧ b < w.heap.size) from by have zh:=t1_2; exact zz6) (fun _ x => x.1)⟩,by have zh:=hC1; exact zz24⟩
theorem mark_SealS (xs : List Seal) (w : World) (A : Option Addr) (cap : Nat) (S : Blks) (a : Int) (k0 : Nat) (ha : a = (k0 : Int)) (hk : k0 + cnL xs ≤ 4611686018427387904) (hx : Row true w A cap xs S) (hl : xs.length ≤ maxLen) :
  Calls Tryz.prog 22 #[.slice A xs.length cap, .int .i64 a] w fun e w' => e = .returned (.int .i64 ((k0 + cnL xs : Nat) : Int)) ∧ Row true w' A cap (meL xs k0) S ∧ Chg S w w':=by
 subst ha
 unfold maxLen at hl
 have hxx:=hx
 rcases hx with ⟨rfl,rfl,rfl⟩ | ⟨g,cur_,rfl,hg,hh_,hcs_,_⟩
 ·go_enter Tryz.func22,Tryz.ntmps22
  go_wp2
  go_loopw [1,5] (fun l i wr => i = .int .i64 0 ∧ l = .int .i64 (k0 : Int) ∧ wr = w) (fun _ _ _ => 0)
  case atStart => exact ⟨rfl,rfl,rfl⟩
  case round =>
   obtain ⟨rfl,rfl,rfl⟩:=hrel
   go_wp2
   go_ret; exact ⟨rfl, .inl ⟨rfl,rfl,rfl⟩,Chg.refl _ _⟩
 have hsh0 : Shp w g (ty Seal) (cap * 8):=⟨cur_,hh_,hcs_⟩
 clear hh_ hcs_
 go_enter Tryz.func22,Tryz.ntmps22
 go_wp2
 go_loopw [1,5] (fun l i wr => ∃ k : Nat,k ≤ xs.length ∧ i = .int .i64 k ∧ l = .int .i64 ((k0 + cnL (xs.take k) : Nat) : Int) ∧ Chg S w wr ∧ Row true wr (some ⟨g,0,none⟩) cap (meL (xs.take k) k0 ++ xs.drop k) S) (fun _ i _ => xs.length - (intOf i).toNat)
 case atStart => exact ⟨0,Nat.zero_le _,rfl,by simp [cnL],Chg.refl _ _,by simpa [meL] using hxx⟩
 case round =>
  obtain ⟨k,hkk,rfl,rfl,hch,hrow⟩:=hrel
  clear hxx
  by_cases hlt : k < xs.length
  ·have hylen : (meL (xs.take k) k0 ++ xs.drop k).length = xs.length:=by simp; omega
   have hstep:=meL_step xs k0 k hlt
   have hat:=meL_at xs k0 k hlt (by rw [hylen]; exact hlt)
   generalize hys : meL (xs.take k) k0 ++ xs.drop k = ys at hrow hylen hat hstep
   have hlty : k < ys.length:=zz8
   have hcs:=cnL_take_succ xs k hlt
   have hcl:=cnL_take_le xs (k + 1)
   generalize hK : k0 + cnL (xs.take k) = K at hstep
   generalize xs[k] = x at hat hcs hstep
   rw [show Mk.cn x = Seal.cn x from rfl] at hcs
   have hs2 : Hid (k0 + cnL (xs.take (k + 1)) = K + Seal.cn x):=zd zz8
   have hKb : K + Seal.cn x ≤ 4611686018427387904:=zz8
   unfold Seal.cn at hKb
   have hst : Hid (meL (xs.take (k + 1)) k0 ++ xs.drop (k + 1) = ys.set k (Seal.me x K)):=zd hstep
   rcases hrow with ⟨h_,_⟩ | ⟨g2,cur,e_,_,hh,hcz,T,hT,hd,he⟩
   ·cases h_
   cases e_
   have hsh : Shp wr g (ty Seal) (cap * 8):=⟨cur,hh,hcz⟩
   have hd:=hd rfl
   have hgl:=hsh.lt
   have hgT : ¬ T k g:=fun h => (hT k g h).2 rfl
   obtain ⟨c1,ha1,hr1⟩:=he k hlty
   rw [hat] at hr1
   have HE:=zd he; have HD:=zd hd; have HT:=zd hT
   clear hcs hcl hstep hat hys he hd hT hh hcz
   obtain ⟨eA0,ek0,eS0,eA1,ek1,eS1,eA2,ek2,eS2,rfl,ef0,ef1,ef2,ef3,ef4,ea0,eb0,er0,es0,ea1,eb1,er1,es1,ea2,eb2,er2,es2,epw⟩:=Seal.open hr1
   have epw_:=zd (epw rfl); clear epw
   have q0 : wr.cell? ⟨g,k * 8,none⟩ = some (.int .i64 x.head.house):=by have:=ha1 0 _ rfl; simpa [show Lay.n Seal = 8 from rfl] using this
   have q1 : wr.cell? ⟨g,k * 8 + 1,none⟩ = some (.int .i64 x.head.epoch):=by have:=ha1 1 _ rfl; simpa [show Lay.n Seal = 8 from rfl] using this
   have q2 : wr.cell? ⟨g,k * 8 + 2,none⟩ = some (.string x.head.root):=by have:=ha1 2 _ rfl; simpa [show Lay.n Seal = 8 from rfl] using this
   have q3 : wr.cell? ⟨g,k * 8 + 3,none⟩ = some (.string x.head.prev):=by have:=ha1 3 _ rfl; simpa [show Lay.n Seal = 8 from rfl] using this
   have q4 : wr.cell? ⟨g,k * 8 + 4,none⟩ = some (.int .i64 x.sig.at_):=by have:=ha1 4 _ rfl; simpa [show Lay.n Seal = 8 from rfl] using this
   have q5 : wr.cell? ⟨g,k * 8 + 5,none⟩ = some (.slice eA0 x.sig.open_.length ek0):=by have:=ha1 5 _ rfl; simpa [show Lay.n Seal = 8 from rfl] using this
   have q6 : wr.cell? ⟨g,k * 8 + 6,none⟩ = some (.slice eA1 x.sig.shut.length ek1):=by have:=ha1 6 _ rfl; simpa [show Lay.n Seal = 8 from rfl] using this
   have q7 : wr.cell? ⟨g,k * 8 + 7,none⟩ = some (.slice eA2 x.sig.sides.length ek2):=by have:=ha1 7 _ rfl; simpa [show Lay.n Seal = 8 from rfl] using this
   clear ha1
   have hf0:=fun o => hsh.frozen o
   obtain ⟨K1,hK1⟩ : ∃ q,K + 1 + 1 + 1 + 1 + 1 + cnL x.sig.open_ = q:=⟨_,rfl⟩
   have HK1:=zd hK1; clear hK1
   obtain ⟨K2,hK2⟩ : ∃ q,K1 + cnL x.sig.shut = q:=⟨_,rfl⟩
   have HK2:=zd hK2; clear hK2
   obtain ⟨K3,hK3⟩ : ∃ q,K2 + cnL x.sig.sides = q:=⟨_,rfl⟩
   have HK3:=zd hK3; clear hK3
   have hme : Hid (Seal.me x K = (⟨(⟨(((K) : Nat) : Int),(((K + 1) : Nat) : Int),mtext (K + 1 + 1),mtext (K + 1 + 1 + 1)⟩ : Head),(⟨(((K + 1 + 1 + 1 + 1) : Nat) : Int),meL x.sig.open_ (K + 1 + 1 + 1 + 1 + 1),meL x.sig.shut (K1),meL x.sig.sides (K2)⟩ : Sig)⟩ : Seal)):=zd (by simp only [Seal.me,HK1.out,HK2.out,HK3.out])
   have hKb0 : K + 5 ≤ 4611686018427387904:=zz36
   have hKb1 : K1 + 0 ≤ 4611686018427387904:=zz36
   have hKb2 : K2 + 0 ≤ 4611686018427387904:=zz36
   have hKb3 : K3 + 0 ≤ 4611686018427387904:=zz36
   have hC0 : Chg (fun b => b = g ∨ T k b) wr wr:=Chg.refl _ _
   have hS0:=hsh
   go_wp2_with (fail)
   refine (mark_Text _ (K + 1 + 1) zz52 zz8 _).mono ?_
   rintro e1 w1 ⟨rfl,hb1⟩
   have hC1 : Chg (fun b => b = g ∨ T k b) wr w1:=Chg.trans (b:=_) (by have zh:=hC0; exact zz13) (hb1.chg_ (fun b => b = g ∨ T k b))
   have hS1 : Shp w1 g (ty Seal) (cap * 8):=Shp.ofb (by have zh:=hS0; exact zz9) hb1
   have hr0_1:=Row.later (show Row true _ eA0 ek0 x.sig.open_ eS0 from by have zh:=er0; exact zz21) hb1
   have hr1_1:=Row.later (show Row true _ eA1 ek1 x.sig.shut eS1 from by have zh:=er1; exact zz22) hb1
   have hr2_1:=Row.later (show Row true _ eA2 ek2 x.sig.sides eS2 from by have zh:=er2; exact zz23) hb1
   have hc1:=fun o => hb1.cell (p:=⟨g,o,none⟩) (Shp.lt (show Shp _ g (ty Seal) (cap * 8) from by have zh:=hS0; exact zz9))
   have hf1:=fun o => hS1.frozen o
   go_wp2_with (fail)
   refine (mark_Text _ (K + 1 + 1 + 1) zz52 zz8 _).mono ?_
   rintro e2 w2 ⟨rfl,hb2⟩
   have hC2 : Chg (fun b => b = g ∨ T k b) wr w2:=Chg.trans (b:=_) (by have zh:=hC1; exact zz13) (hb2.chg_ (fun b => b = g ∨ T k b))
   have hS2 : Shp w2 g (ty Seal) (cap * 8):=Shp.ofb (by have zh:=hS1; exact zz9) hb2
   have hr0_2:=Row.later (show Row true _ eA0 ek0 x.sig.open_ eS0 from by have zh:=hr0_1; exact zz21) hb2
   have hr1_2:=Row.later (show Row true _ eA1 ek1 x.sig.shut eS1 from by have zh:=hr1_1; exact zz22) hb2
   have hr2_2:=Row.later (show Row true _ eA2 ek2 x.sig.sides eS2 from by have zh:=hr2_1; exact zz23) hb2
   have hc2:=fun o => hb2.cell (p:=⟨g,o,none⟩) (Shp.lt (show Shp _ g (ty Seal) (cap * 8) from by have zh:=hS1; exact zz9))
   have hf2:=fun o => hS2.frozen o
   go_wp2_with (fail)
   refine (mark_StringS x.sig.open_ _ _ _ _ _ (K + 1 + 1 + 1 + 1 + 1) zz52 (by have:=HK1.out; omega) (show Row true _ eA0 ek0 x.sig.open_ eS0 from by have zh:=hr0_2; exact zz21) (Nat.le_trans ea0 eb0)).mono ?_
   rw [HK1.out]
   rintro e3 w3 ⟨rfl,hr0_3,hb3⟩
   have hC3 : Chg (fun b => b = g ∨ T k b) wr w3:=Chg.trans (b:=_) (by have zh:=hC2; exact zz13) (hb3.mono (fun b _ h => .inr (es0 b h)))
   have hS3 : Shp w3 g (ty Seal) (cap * 8):=Shp.ofc (by have zh:=hS2; exact zz9) hb3 (fun h => hgT (es0 _ h))
   have hr1_3:=Row.chg (show Row true _ eA1 ek1 x.sig.shut eS1 from by have zh:=hr1_2; exact zz22) hb3 (disj_symm (pwget3_0_1 epw_.out))
   have hr2_3:=Row.chg (show Row true _ eA2 ek2 x.sig.sides eS2 from by have zh:=hr2_2; exact zz23) hb3 (disj_symm (pwget3_0_2 epw_.out))
   have hc3:=fun o => hb3.cellC (p:=⟨g,o,none⟩) (Shp.lt (show Shp _ g (ty Seal) (cap * 8) from by have zh:=hS2; exact zz9)) (fun h => hgT (es0 _ h))
   have hf3:=fun o => hS3.frozen o
   go_wp2_with (fail)
   refine (mark_StringS x.sig.shut _ _ _ _ _ (K1) zz52 (by have:=HK2.out; omega) (show Row true _ eA1 ek1 x.sig.shut eS1 from by have zh:=hr1_3; exact zz22) (Nat.le_trans ea1 eb1)).mono ?_
   rw [HK2.out]
   rintro e4 w4 ⟨rfl,hr1_4,hb4⟩
   have hC4 : Chg (fun b => b = g ∨ T k b) wr w4:=Chg.trans (b:=_) (by have zh:=hC3; exact zz13) (hb4.mono (fun b _ h => .inr (es1 b h)))
   have hS4 : Shp w4 g (ty Seal) (cap * 8):=Shp.ofc (by have zh:=hS3; exact zz9) hb4 (fun h => hgT (es1 _ h))
   have hr0_4:=Row.chg (show Row true _ eA0 ek0 (meL x.sig.open_ (K + 1 + 1 + 1 + 1 + 1)) eS0 from by have zh:=hr0_3; exact zz21) hb4 (pwget3_0_1 epw_.out)
   have hr2_4:=Row.chg (show Row true _ eA2 ek2 x.sig.sides eS2 from by have zh:=hr2_3; exact zz23) hb4 (disj_symm (pwget3_1_2 epw_.out))
   have hc4:=fun o => hb4.cellC (p:=⟨g,o,none⟩) (Shp.lt (show Shp _ g (ty Seal) (cap * 8) from by have zh:=hS3; exact zz9)) (fun h => hgT (es1 _ h))
   have hf4:=fun o => hS4.frozen o
   go_wp2_with (fail)
   refine (mark_StringS x.sig.sides _ _ _ _ _ (K2) zz52 (by have:=HK3.out; omega) (show Row true _ eA2 ek2 x.sig.sides eS2 from by have zh:=hr2_4; exact zz23) (Nat.le_trans ea2 eb2)).mono ?_
   rw [HK3.out]
   rintro e5 w5 ⟨rfl,hr2_5,hb5⟩
   have hC5 : Chg (fun b => b = g ∨ T k b) wr w5:=Chg.trans (b:=_) (by have zh:=hC4; exact zz13) (hb5.mono (fun b _ h => .inr (es2 b h)))
   have hS5 : Shp w5 g (ty Seal) (cap * 8):=Shp.ofc (by have zh:=hS4; exact zz9) hb5 (fun h => hgT (es2 _ h))
   have hr0_5:=Row.chg (show Row true _ eA0 ek0 (meL x.sig.open_ (K + 1 + 1 + 1 + 1 + 1)) eS0 from by have zh:=hr0_4; exact zz21) hb5 (pwget3_0_2 epw_.out)
   have hr1_5:=Row.chg (show Row true _ eA1 ek1 (meL x.sig.shut (K1)) eS1 from by have zh:=hr1_4; exact zz22) hb5 (pwget3_1_2 epw_.out)
   have hc5:=fun o => hb5.cellC (p:=⟨g,o,none⟩) (Shp.lt (show Shp _ g (ty Seal) (cap * 8) from by have zh:=hS4; exact zz9)) (fun h => hgT (es2 _ h))
   have hf5:=fun o => hS5.frozen o
   go_wp2
   go_roundw
   case rel =>
    refine ⟨k + 1,zz8,by go_num,by rw [hs2.out]; first | go_num | (congr 1; unfold Seal.cn; have:=HK1.out; have:=HK2.out; have:=HK3.out; omega),?_,?_⟩
    ·refine Chg.trans hch (Chg.mono (show Chg (fun b => b = g ∨ T k b) wr _ from by have zh:=hC5; exact zz13) (fun b _ h => h.elim (fun e => e ▸ hg) (fun h => (HT.out k b h).1)))
    ·rw [hst.out,hme.out]
     refine Row.setN (N:=8) (T:=T) (w:=wr) (cs:=[.int .i64 (((K) : Nat) : Int), .int .i64 (((K + 1) : Nat) : Int), .string (mtext (K + 1 + 1)), .string (mtext (K + 1 + 1 + 1)), .int .i64 (((K + 1 + 1 + 1 + 1) : Nat) : Int), .slice eA0 (meL x.sig.open_ (K + 1 + 1 + 1 + 1 + 1)).length ek0, .slice eA1 (meL x.sig.shut (K1)).length ek1, .slice eA2 (meL x.sig.sides (K2)).length ek2]) rfl hg HT.out HD.out HE.out hlty (show Shp _ g (ty Seal) (cap * 8) from by have zh:=hS5; exact zz9) (fun o ho => ?_) (show Chg (fun b => b = g ∨ T k b) wr _ from by have zh:=hC5; exact zz13) ?_ ?_
     ·have n0 : o ≠ k * 8:=by intro h; apply ho; rw [h]; omega
      have n1 : o ≠ k * 8 + 1:=zz33
      have n2 : o ≠ k * 8 + 2:=zz33
      have n3 : o ≠ k * 8 + 3:=zz33
      have n4 : o ≠ k * 8 + 4:=zz33
      have n5 : o ≠ k * 8 + 5:=zz33
      have n6 : o ≠ k * 8 + 6:=zz33
      have n7 : o ≠ k * 8 + 7:=zz33
      simp only [hc5,hc4,hc3,hc2,hc1,yad _ _ _ o _ n0,yad _ _ _ o _ n1,yad _ _ _ o _ n2,yad _ _ _ o _ n3,yad _ _ _ o _ n4,yad _ _ _ o _ n5,yad _ _ _ o _ n6,yad _ _ _ o _ n7]
     ·intro j u hu
      have hj : j < 8:=(List.getElem?_eq_some_iff.1 hu).1
      rcases (by omega : j = 0 ∨ j = 1 ∨ j = 2 ∨ j = 3 ∨ j = 4 ∨ j = 5 ∨ j = 6 ∨ j = 7) with rfl | rfl | rfl | rfl | rfl | rfl | rfl | rfl
      all_goals (have hu:=Option.some.inj hu; subst hu; go_simp; try simp)
     ·exact Seal.mk' (m:=true) (x:=(⟨(⟨(((K) : Nat) : Int),(((K + 1) : Nat) : Int),mtext (K + 1 + 1),mtext (K + 1 + 1 + 1)⟩ : Head),(⟨(((K + 1 + 1 + 1 + 1) : Nat) : Int),meL x.sig.open_ (K + 1 + 1 + 1 + 1 + 1),meL x.sig.shut (K1),meL x.sig.sides (K2)⟩ : Sig)⟩ : Seal)) (S:=T k) (I64_nat zz36) (I64_nat zz36) (mtext_size (K + 1 + 1) zz36) (mtext_size (K + 1 + 1 + 1) zz36) (I64_nat zz36) (by rw [meL_length]; exact ea0) eb0 (show Row true _ eA0 ek0 (meL x.sig.open_ (K + 1 + 1 + 1 + 1 + 1)) eS0 from by have zh:=hr0_5; exact zz21) es0 (by rw [meL_length]; exact ea1) eb1 (show Row true _ eA1 ek1 (meL x.sig.shut (K1)) eS1 from by have zh:=hr1_5; exact zz22) es1 (by rw [meL_length]; exact ea2) eb2 (show Row true _ eA2 ek2 (meL x.sig.sides (K2)) eS2 from by have zh:=hr2_5; exact zz23) es2 (fun _ => epw_.out)
   case measure => simp [intOf]; omega
  ·have hke : k = xs.length:=by omega
   go_wp2
   go_ret; subst hke; refine ⟨by rw [List.take_of_length_le (Nat.le_refl _)]; rfl,by simpa using hrow,hch⟩
theorem mark_LeafS (xs : List Leaf) (w : World) (A : Option Addr) (cap : Nat) (S : Blks) (a : Int) (k0 : Nat) (ha : a = (k0 : Int)) (hk : k0 + cnL xs ≤ 4611686018427387904) (hx : Row true w A cap xs S) (hl : xs.length ≤ maxLen) :
  Calls Tryz.prog 109 #[.slice A xs.length cap, .int .i64 a] w fun e w' => e = .returned (.int .i64 ((k0 + cnL xs : Nat) : Int)) ∧ Row true w' A cap (meL xs k0) S ∧ Chg S w w':=by
 subst ha
 unfold maxLen at hl
 have hxx:=hx
 rcases hx with ⟨rfl,rfl,rfl⟩ | ⟨g,cur_,rfl,hg,hh_,hcs_,_⟩
 ·go_enter Tryz.func109,Tryz.ntmps109
  go_wp2
  go_loopw [1,5] (fun l i wr => i = .int .i64 0 ∧ l = .int .i64 (k0 : Int) ∧ wr = w) (fun _ _ _ => 0)
  case atStart => exact ⟨rfl,rfl,rfl⟩
  case round =>
   obtain ⟨rfl,rfl,rfl⟩:=hrel
   go_wp2
   go_ret; exact ⟨rfl, .inl ⟨rfl,rfl,rfl⟩,Chg.refl _ _⟩
 have hsh0 : Shp w g (ty Leaf) (cap * 2):=⟨cur_,hh_,hcs_⟩
 clear hh_ hcs_
 go_enter Tryz.func109,Tryz.ntmps109
 go_wp2
 go_loopw [1,5] (fun l i wr => ∃ k : Nat,k ≤ xs.length ∧ i = .int .i64 k ∧ l = .int .i64 ((k0 + cnL (xs.take k) : Nat) : Int) ∧ Chg S w wr ∧ Row true wr (some ⟨g,0,none⟩) cap (meL (xs.take k) k0 ++ xs.drop k) S) (fun _ i _ => xs.length - (intOf i).toNat)
 case atStart => exact ⟨0,Nat.zero_le _,rfl,by simp [cnL],Chg.refl _ _,by simpa [meL] using hxx⟩
 case round =>
  obtain ⟨k,hkk,rfl,rfl,hch,hrow⟩:=hrel
  clear hxx
  by_cases hlt : k < xs.length
  ·have hylen : (meL (xs.take k) k0 ++ xs.drop k).length = xs.length:=by simp; omega
   have hstep:=meL_step xs k0 k hlt
   have hat:=meL_at xs k0 k hlt (by rw [hylen]; exact hlt)
   generalize hys : meL (xs.take k) k0 ++ xs.drop k = ys at hrow hylen hat hstep
   have hlty : k < ys.length:=zz8
   have hcs:=cnL_take_succ xs k hlt
   have hcl:=cnL_take_le xs (k + 1)
   generalize hK : k0 + cnL (xs.take k) = K at hstep
   generalize xs[k] = x at hat hcs hstep
   rw [show Mk.cn x = Leaf.cn x from rfl] at hcs
   have hs2 : Hid (k0 + cnL (xs.take (k + 1)) = K + Leaf.cn x):=zd zz8
   have hKb : K + Leaf.cn x ≤ 4611686018427387904:=zz8
   unfold Leaf.cn at hKb
   have hst : Hid (meL (xs.take (k + 1)) k0 ++ xs.drop (k + 1) = ys.set k (Leaf.me x K)):=zd hstep
   rcases hrow with ⟨h_,_⟩ | ⟨g2,cur,e_,_,hh,hcz,T,hT,hd,he⟩
   ·cases h_
   cases e_
   have hsh : Shp wr g (ty Leaf) (cap * 2):=⟨cur,hh,hcz⟩
   have hd:=hd rfl
   have hgl:=hsh.lt
   have hgT : ¬ T k g:=fun h => (hT k g h).2 rfl
   obtain ⟨c1,ha1,hr1⟩:=he k hlty
   rw [hat] at hr1
   have HE:=zd he; have HD:=zd hd; have HT:=zd hT
   clear hcs hcl hstep hat hys he hd hT hh hcz
   obtain ⟨rfl,ef0,ef1⟩:=Leaf.open hr1
   have q0 : wr.cell? ⟨g,k * 2,none⟩ = some (.string x.name):=by have:=ha1 0 _ rfl; simpa [show Lay.n Leaf = 2 from rfl] using this
   have q1 : wr.cell? ⟨g,k * 2 + 1,none⟩ = some (.string x.value):=by have:=ha1 1 _ rfl; simpa [show Lay.n Leaf = 2 from rfl] using this
   clear ha1
   have hf0:=fun o => hsh.frozen o
   have hme : Hid (Leaf.me x K = (⟨mtext (K),mtext (K + 1)⟩ : Leaf)):=zd (by simp only [Leaf.me])
   have hKb0 : K + 2 ≤ 4611686018427387904:=zz8
   have hC0 : Chg (fun b => b = g ∨ T k b) wr wr:=Chg.refl _ _
   have hS0:=hsh
   go_wp2_with (fail)
   refine (mark_Text _ (K) zz52 zz8 _).mono ?_
   rintro e1 w1 ⟨rfl,hb1⟩
   have hC1 : Chg (fun b => b = g ∨ T k b) wr w1:=Chg.trans (b:=_) (by have zh:=hC0; exact zz13) (hb1.chg_ (fun b => b = g ∨ T k b))
   have hS1 : Shp w1 g (ty Leaf) (cap * 2):=Shp.ofb (by have zh:=hS0; exact zz9) hb1
   have hc1:=fun o => hb1.cell (p:=⟨g,o,none⟩) (Shp.lt (show Shp _ g (ty Leaf) (cap * 2) from by have zh:=hS0; exact zz9))
   have hf1:=fun o => hS1.frozen o
   go_wp2_with (fail)
   refine (mark_Text _ (K + 1) zz52 zz8 _).mono ?_
   rintro e2 w2 ⟨rfl,hb2⟩
   have hC2 : Chg (fun b => b = g ∨ T k b) wr w2:=Chg.trans (b:=_) (by have zh:=hC1; exact zz13) (hb2.chg_ (fun b => b = g ∨ T k b))
   have hS2 : Shp w2 g (ty Leaf) (cap * 2):=Shp.ofb (by have zh:=hS1; exact zz9) hb2
   have hc2:=fun o => hb2.cell (p:=⟨g,o,none⟩) (Shp.lt (show Shp _ g (ty Leaf) (cap * 2) from by have zh:=hS1; exact zz9))
   have hf2:=fun o => hS2.frozen o
   go_wp2
   go_roundw
   case rel =>
    refine ⟨k + 1,zz8,by go_num,by rw [hs2.out]; first | go_num | (congr 1; unfold Leaf.cn; omega),?_,?_⟩
    ·refine Chg.trans hch (Chg.mono (show Chg (fun b => b = g ∨ T k b) wr _ from by have zh:=hC2; exact zz13) (fun b _ h => h.elim (fun e => e ▸ hg) (fun h => (HT.out k b h).1)))
    ·rw [hst.out,hme.out]
     refine Row.setN (N:=2) (T:=T) (w:=wr) (cs:=[.string (mtext (K)), .string (mtext (K + 1))]) rfl hg HT.out HD.out HE.out hlty (show Shp _ g (ty Leaf) (cap * 2) from by have zh:=hS2; exact zz9) (fun o ho => ?_) (show Chg (fun b => b = g ∨ T k b) wr _ from by have zh:=hC2; exact zz13) ?_ ?_
     ·have n0 : o ≠ k * 2:=by intro h; apply ho; rw [h]; omega
      have n1 : o ≠ k * 2 + 1:=zz33
      simp only [hc2,hc1,yad _ _ _ o _ n0,yad _ _ _ o _ n1]
     ·intro j u hu
      have hj : j < 2:=(List.getElem?_eq_some_iff.1 hu).1
      rcases (by omega : j = 0 ∨ j = 1) with rfl | rfl
      all_goals (have hu:=Option.some.inj hu; subst hu; go_simp; try simp)
     ·exact Leaf.mk' (m:=true) (x:=(⟨mtext (K),mtext (K + 1)⟩ : Leaf)) (S:=T k) (mtext_size (K) zz8) (mtext_size (K + 1) zz8)
   case measure => simp [intOf]; omega
  ·have hke : k = xs.length:=by omega
   go_wp2
   go_ret; subst hke; refine ⟨by rw [List.take_of_length_le (Nat.le_refl _)]; rfl,by simpa using hrow,hch⟩
theorem markr_Proof (x : Proof) (w : World) (A0 : Option Addr) (k0 : Nat) (S0 : Blks) (A1 : Option Addr) (k1 : Nat) (S1 : Blks) (a : Int) (k : Nat) (ha : a = (k : Int)) (hk : k + x.ct ≤ 4611686018427387904) (r0 : Row true w A0 k0 x.bucket S0) (l0 : x.bucket.length ≤ maxLen) (r1 : Row true w A1 k1 x.sides S1) (l1 : x.sides.length ≤ maxLen) (pw : List.Pairwise disj [S0,S1]) :
  Calls Tryz.prog 65 #[.agg (Proof.cs x A0 k0 A1 k1).toArray, .int .i64 a] w fun e w' => e = .returned (.int .i64 ((k + x.ct : Nat) : Int)) ∧ (Row true w' A0 k0 (meL x.bucket (k)) S0 ∧ Row true w' A1 k1 (meL x.sides (k + cnL x.bucket)) S1) ∧ Chg (un S0 S1) w w':=by
 subst ha
 unfold Proof.ct at hk
 obtain ⟨K0,hK0⟩ : ∃ q,k + cnL x.bucket = q:=⟨_,rfl⟩
 obtain ⟨K1,hK1⟩ : ∃ q,K0 + cnL x.sides = q:=⟨_,rfl⟩
 have hfin : Hid (((k + x.ct : Nat) : Int) = (K1 : Int)):=zd (by unfold Proof.ct; omega)
 simp only [hK0]
 have HK0:=zd hK0; clear hK0
 have HK1:=zd hK1; clear hK1
 rw [hfin.out]
 have t0_0:=r0.tight
 have t0_1:=r1.tight
 clear r0 r1
 have d0_1:=yae (pwget2_0_1 pw) (fun b (x : S0 b ∧ b < w.heap.size) => x.1) (fun b (x : S1 b ∧ b < w.heap.size) => x.1)
 clear pw
 have hC0 : Chg (un S0 S1) w w:=Chg.refl _ _
 have hz0:=Nat.le_refl w.heap.size
 simp only [Proof.cs]
 go_enter Tryz.func65,Tryz.ntmps65
 go_wp2_with (fail)
 refine (mark_LeafS x.bucket _ _ _ (fun b => S0 b ∧ b < w.heap.size) _ k (by first | rfl | omega) (by have:=HK0.out; have:=HK1.out; omega) (show Row true _ A0 k0 x.bucket (fun b => S0 b ∧ b < w.heap.size) from by have zh:=t0_0; exact zz6) l0).mono ?_
 rw [HK0.out]
 rintro e1 w1 ⟨rfl,t1_0,hb1⟩
 have hV1 : ∀ b,(fun b => S0 b ∧ b < w.heap.size) b → b < w.heap.size:=(fun b (h : (fun b => S0 b ∧ b < w.heap.size) b) => (show b < w.heap.size from by exact h.2))
 have hz1 : w.heap.size + 1 ≤ w1.heap.size:=zz27
 have hC1 : Chg (un S0 S1) w w1:=Chg.trans (b:=_) (by have zh:=hC0; exact zz24) (hb1.mono (fun b _ h => (un_left _ _) b h.1))
 have t1_1:=Row.chg (show Row true _ A1 k1 x.sides (fun b => S1 b ∧ b < w.heap.size) from by have zh:=t0_1; exact zz6) hb1 (disj_symm d0_1)
 have hc1:=fun o => hb1.cellC (p:=⟨w.heap.size,o,none⟩) zz0 (fun h => absurd (hV1 _ h) (Nat.lt_irrefl _))
 go_wp2_with (fail)
 refine (mark_StringS x.sides _ _ _ (fun b => S1 b ∧ b < w.heap.size) _ K0 (by first | rfl | omega) (by have:=HK0.out; have:=HK1.out; omega) (show Row true _ A1 k1 x.sides (fun b => S1 b ∧ b < w.heap.size) from by have zh:=t1_1; exact zz6) l1).mono ?_
 rw [HK1.out]
 rintro e2 w2 ⟨rfl,t2_1,hb2⟩
 have hV2 : ∀ b,(fun b => S1 b ∧ b < w.heap.size) b → b < w.heap.size:=(fun b (h : (fun b => S1 b ∧ b < w.heap.size) b) => (show b < w.heap.size from by exact h.2))
 have hz2 : w.heap.size + 1 ≤ w2.heap.size:=zz42
 have hC2 : Chg (un S0 S1) w w2:=Chg.trans (b:=_) (by have zh:=hC1; exact zz24) (hb2.mono (fun b _ h => (ya3 (ya9 _) (yac _ _)) b h.1))
 have t2_0:=Row.chg (show Row true _ A0 k0 (meL x.bucket k) (fun b => S0 b ∧ b < w.heap.size) from by have zh:=t1_0; exact zz6) hb2 d0_1
 have hc2:=fun o => hb2.cellC (p:=⟨w.heap.size,o,none⟩) zz0 (fun h => absurd (hV2 _ h) (Nat.lt_irrefl _))
 go_wp2
 go_ret
 exact ⟨rfl,⟨Row.mono (show Row true _ A0 k0 (meL x.bucket k) (fun b => S0 b ∧ b < w.heap.size) from by have zh:=t2_0; exact zz6) (fun _ x => x.1),Row.mono (show Row true _ A1 k1 (meL x.sides K0) (fun b => S1 b ∧ b < w.heap.size) from by have zh:=t2_1; exact zz6) (fun _ x => x.1)⟩,by have zh:=hC2; exact zz24⟩
theorem mark_StampS (xs : List Stamp) (w : World) (A : Option Addr) (cap : Nat) (S : Blks) (a : Int) (k0 : Nat) (ha : a = (k0 : Int)) (hk : k0 + cnL xs ≤ 4611686018427387904) (hx : Row true w A cap xs S) (hl : xs.length ≤ maxLen) :
  Calls Tryz.prog 67 #[.slice A xs.length cap, .int .i64 a] w fun e w' => e = .returned (.int .i64 ((k0 + cnL xs : Nat) : Int)) ∧ Row true w' A cap (meL xs k0) S ∧ Chg S w w':=by
 subst ha
 unfold maxLen at hl
 have hxx:=hx
 rcases hx with ⟨rfl,rfl,rfl⟩ | ⟨g,cur_,rfl,hg,hh_,hcs_,_⟩
 ·go_enter Tryz.func67,Tryz.ntmps67
  go_wp2
  go_loopw [1,5] (fun l i wr => i = .int .i64 0 ∧ l = .int .i64 (k0 : Int) ∧ wr = w) (fun _ _ _ => 0)
  case atStart => exact ⟨rfl,rfl,rfl⟩
  case round =>
   obtain ⟨rfl,rfl,rfl⟩:=hrel
   go_wp2
   go_ret; exact ⟨rfl, .inl ⟨rfl,rfl,rfl⟩,Chg.refl _ _⟩
 have hsh0 : Shp w g (ty Stamp) (cap * 5):=⟨cur_,hh_,hcs_⟩
 clear hh_ hcs_
 go_enter Tryz.func67,Tryz.ntmps67
 go_wp2
 go_loopw [1,5] (fun l i wr => ∃ k : Nat,k ≤ xs.length ∧ i = .int .i64 k ∧ l = .int .i64 ((k0 + cnL (xs.take k) : Nat) : Int) ∧ Chg S w wr ∧ Row true wr (some ⟨g,0,none⟩) cap (meL (xs.take k) k0 ++ xs.drop k) S) (fun _ i _ => xs.length - (intOf i).toNat)
 case atStart => exact ⟨0,Nat.zero_le _,rfl,by simp [cnL],Chg.refl _ _,by simpa [meL] using hxx⟩
 case round =>
  obtain ⟨k,hkk,rfl,rfl,hch,hrow⟩:=hrel
  clear hxx
  by_cases hlt : k < xs.length
  ·have hylen : (meL (xs.take k) k0 ++ xs.drop k).length = xs.length:=by simp; omega
   have hstep:=meL_step xs k0 k hlt
   have hat:=meL_at xs k0 k hlt (by rw [hylen]; exact hlt)
   generalize hys : meL (xs.take k) k0 ++ xs.drop k = ys at hrow hylen hat hstep
   have hlty : k < ys.length:=zz8
   have hcs:=cnL_take_succ xs k hlt
   have hcl:=cnL_take_le xs (k + 1)
   generalize hK : k0 + cnL (xs.take k) = K at hstep
   generalize xs[k] = x at hat hcs hstep
   rw [show Mk.cn x = Stamp.cn x from rfl] at hcs
   have hs2 : Hid (k0 + cnL (xs.take (k + 1)) = K + Stamp.cn x):=zd zz8
   have hKb : K + Stamp.cn x ≤ 4611686018427387904:=zz8
   unfold Stamp.cn at hKb
   have hst : Hid (meL (xs.take (k + 1)) k0 ++ xs.drop (k + 1) = ys.set k (Stamp.me x K)):=zd hstep
   rcases hrow with ⟨h_,_⟩ | ⟨g2,cur,e_,_,hh,hcz,T,hT,hd,he⟩
   ·cases h_
   cases e_
   have hsh : Shp wr g (ty Stamp) (cap * 5):=⟨cur,hh,hcz⟩
   have hd:=hd rfl
   have hgl:=hsh.lt
   have hgT : ¬ T k g:=fun h => (hT k g h).2 rfl
   obtain ⟨c1,ha1,hr1⟩:=he k hlty
   rw [hat] at hr1
   have HE:=zd he; have HD:=zd hd; have HT:=zd hT
   clear hcs hcl hstep hat hys he hd hT hh hcz
   obtain ⟨eA0,ek0,eS0,eA1,ek1,eS1,eA2,ek2,eS2,rfl,ef0,ef1,ea0,eb0,er0,es0,ea1,eb1,er1,es1,ea2,eb2,er2,es2,epw⟩:=Stamp.open hr1
   have epw_:=zd (epw rfl); clear epw
   have q0 : wr.cell? ⟨g,k * 5,none⟩ = some (.int .i64 x.by_):=by have:=ha1 0 _ rfl; simpa [show Lay.n Stamp = 5 from rfl] using this
   have q1 : wr.cell? ⟨g,k * 5 + 1,none⟩ = some (.int .i64 x.sig.at_):=by have:=ha1 1 _ rfl; simpa [show Lay.n Stamp = 5 from rfl] using this
   have q2 : wr.cell? ⟨g,k * 5 + 2,none⟩ = some (.slice eA0 x.sig.open_.length ek0):=by have:=ha1 2 _ rfl; simpa [show Lay.n Stamp = 5 from rfl] using this
   have q3 : wr.cell? ⟨g,k * 5 + 3,none⟩ = some (.slice eA1 x.sig.shut.length ek1):=by have:=ha1 3 _ rfl; simpa [show Lay.n Stamp = 5 from rfl] using this
   have q4 : wr.cell? ⟨g,k * 5 + 4,none⟩ = some (.slice eA2 x.sig.sides.length ek2):=by have:=ha1 4 _ rfl; simpa [show Lay.n Stamp = 5 from rfl] using this
   clear ha1
   have hf0:=fun o => hsh.frozen o
   obtain ⟨K1,hK1⟩ : ∃ q,K + 1 + 1 + cnL x.sig.open_ = q:=⟨_,rfl⟩
   have HK1:=zd hK1; clear hK1
   obtain ⟨K2,hK2⟩ : ∃ q,K1 + cnL x.sig.shut = q:=⟨_,rfl⟩
   have HK2:=zd hK2; clear hK2
   obtain ⟨K3,hK3⟩ : ∃ q,K2 + cnL x.sig.sides = q:=⟨_,rfl⟩
   have HK3:=zd hK3; clear hK3
   have hme : Hid (Stamp.me x K = (⟨(((K) : Nat) : Int),(⟨(((K + 1) : Nat) : Int),meL x.sig.open_ (K + 1 + 1),meL x.sig.shut (K1),meL x.sig.sides (K2)⟩ : Sig)⟩ : Stamp)):=zd (by simp only [Stamp.me,HK1.out,HK2.out,HK3.out])
   have hKb0 : K + 2 ≤ 4611686018427387904:=zz36
   have hKb1 : K1 + 0 ≤ 4611686018427387904:=zz36
   have hKb2 : K2 + 0 ≤ 4611686018427387904:=zz36
   have hKb3 : K3 + 0 ≤ 4611686018427387904:=zz36
   have hC0 : Chg (fun b => b = g ∨ T k b) wr wr:=Chg.refl _ _
   have hS0:=hsh
   go_wp2_with (fail)
   refine (mark_StringS x.sig.open_ _ _ _ _ _ (K + 1 + 1) zz52 (by have:=HK1.out; omega) (show Row true _ eA0 ek0 x.sig.open_ eS0 from by have zh:=er0; exact zz21) (Nat.le_trans ea0 eb0)).mono ?_
   rw [HK1.out]
   rintro e1 w1 ⟨rfl,hr0_1,hb1⟩
   have hC1 : Chg (fun b => b = g ∨ T k b) wr w1:=Chg.trans (b:=_) (by have zh:=hC0; exact zz13) (hb1.mono (fun b _ h => .inr (es0 b h)))
   have hS1 : Shp w1 g (ty Stamp) (cap * 5):=Shp.ofc (by have zh:=hS0; exact zz9) hb1 (fun h => hgT (es0 _ h))
   have hr1_1:=Row.chg (show Row true _ eA1 ek1 x.sig.shut eS1 from by have zh:=er1; exact zz22) hb1 (disj_symm (pwget3_0_1 epw_.out))
   have hr2_1:=Row.chg (show Row true _ eA2 ek2 x.sig.sides eS2 from by have zh:=er2; exact zz23) hb1 (disj_symm (pwget3_0_2 epw_.out))
   have hc1:=fun o => hb1.cellC (p:=⟨g,o,none⟩) (Shp.lt (show Shp _ g (ty Stamp) (cap * 5) from by have zh:=hS0; exact zz9)) (fun h => hgT (es0 _ h))
   have hf1:=fun o => hS1.frozen o
   go_wp2_with (fail)
   refine (mark_StringS x.sig.shut _ _ _ _ _ (K1) zz52 (by have:=HK2.out; omega) (show Row true _ eA1 ek1 x.sig.shut eS1 from by have zh:=hr1_1; exact zz22) (Nat.le_trans ea1 eb1)).mono ?_
   rw [HK2.out]
   rintro e2 w2 ⟨rfl,hr1_2,hb2⟩
   have hC2 : Chg (fun b => b = g ∨ T k b) wr w2:=Chg.trans (b:=_) (by have zh:=hC1; exact zz13) (hb2.mono (fun b _ h => .inr (es1 b h)))
   have hS2 : Shp w2 g (ty Stamp) (cap * 5):=Shp.ofc (by have zh:=hS1; exact zz9) hb2 (fun h => hgT (es1 _ h))
   have hr0_2:=Row.chg (show Row true _ eA0 ek0 (meL x.sig.open_ (K + 1 + 1)) eS0 from by have zh:=hr0_1; exact zz21) hb2 (pwget3_0_1 epw_.out)
   have hr2_2:=Row.chg (show Row true _ eA2 ek2 x.sig.sides eS2 from by have zh:=hr2_1; exact zz23) hb2 (disj_symm (pwget3_1_2 epw_.out))
   have hc2:=fun o => hb2.cellC (p:=⟨g,o,none⟩) (Shp.lt (show Shp _ g (ty Stamp) (cap * 5) from by have zh:=hS1; exact zz9)) (fun h => hgT (es1 _ h))
   have hf2:=fun o => hS2.frozen o
   go_wp2_with (fail)
   refine (mark_StringS x.sig.sides _ _ _ _ _ (K2) zz52 (by have:=HK3.out; omega) (show Row true _ eA2 ek2 x.sig.sides eS2 from by have zh:=hr2_2; exact zz23) (Nat.le_trans ea2 eb2)).mono ?_
   rw [HK3.out]
   rintro e3 w3 ⟨rfl,hr2_3,hb3⟩
   have hC3 : Chg (fun b => b = g ∨ T k b) wr w3:=Chg.trans (b:=_) (by have zh:=hC2; exact zz13) (hb3.mono (fun b _ h => .inr (es2 b h)))
   have hS3 : Shp w3 g (ty Stamp) (cap * 5):=Shp.ofc (by have zh:=hS2; exact zz9) hb3 (fun h => hgT (es2 _ h))
   have hr0_3:=Row.chg (show Row true _ eA0 ek0 (meL x.sig.open_ (K + 1 + 1)) eS0 from by have zh:=hr0_2; exact zz21) hb3 (pwget3_0_2 epw_.out)
   have hr1_3:=Row.chg (show Row true _ eA1 ek1 (meL x.sig.shut (K1)) eS1 from by have zh:=hr1_2; exact zz22) hb3 (pwget3_1_2 epw_.out)
   have hc3:=fun o => hb3.cellC (p:=⟨g,o,none⟩) (Shp.lt (show Shp _ g (ty Stamp) (cap * 5) from by have zh:=hS2; exact zz9)) (fun h => hgT (es2 _ h))
   have hf3:=fun o => hS3.frozen o
   go_wp2
   go_roundw
   case rel =>
    refine ⟨k + 1,zz8,by go_num,by rw [hs2.out]; first | go_num | (congr 1; unfold Stamp.cn; have:=HK1.out; have:=HK2.out; have:=HK3.out; omega),?_,?_⟩
    ·refine Chg.trans hch (Chg.mono (show Chg (fun b => b = g ∨ T k b) wr _ from by have zh:=hC3; exact zz13) (fun b _ h => h.elim (fun e => e ▸ hg) (fun h => (HT.out k b h).1)))
    ·rw [hst.out,hme.out]
     refine Row.setN (N:=5) (T:=T) (w:=wr) (cs:=[.int .i64 (((K) : Nat) : Int), .int .i64 (((K + 1) : Nat) : Int), .slice eA0 (meL x.sig.open_ (K + 1 + 1)).length ek0, .slice eA1 (meL x.sig.shut (K1)).length ek1, .slice eA2 (meL x.sig.sides (K2)).length ek2]) rfl hg HT.out HD.out HE.out hlty (show Shp _ g (ty Stamp) (cap * 5) from by have zh:=hS3; exact zz9) (fun o ho => ?_) (show Chg (fun b => b = g ∨ T k b) wr _ from by have zh:=hC3; exact zz13) ?_ ?_
     ·have n0 : o ≠ k * 5:=by intro h; apply ho; rw [h]; omega
      have n1 : o ≠ k * 5 + 1:=zz33
      have n2 : o ≠ k * 5 + 2:=zz33
      have n3 : o ≠ k * 5 + 3:=zz33
      have n4 : o ≠ k * 5 + 4:=zz33
      simp only [hc3,hc2,hc1,yad _ _ _ o _ n0,yad _ _ _ o _ n1,yad _ _ _ o _ n2,yad _ _ _ o _ n3,yad _ _ _ o _ n4]
     ·intro j u hu
      have hj : j < 5:=(List.getElem?_eq_some_iff.1 hu).1
      rcases (by omega : j = 0 ∨ j = 1 ∨ j = 2 ∨ j = 3 ∨ j = 4) with rfl | rfl | rfl | rfl | rfl
      all_goals (have hu:=Option.some.inj hu; subst hu; go_simp; try simp)
     ·exact Stamp.mk' (m:=true) (x:=(⟨(((K) : Nat) : Int),(⟨(((K + 1) : Nat) : Int),meL x.sig.open_ (K + 1 + 1),meL x.sig.shut (K1),meL x.sig.sides (K2)⟩ : Sig)⟩ : Stamp)) (S:=T k) (I64_nat zz36) (I64_nat zz36) (by rw [meL_length]; exact ea0) eb0 (show Row true _ eA0 ek0 (meL x.sig.open_ (K + 1 + 1)) eS0 from by have zh:=hr0_3; exact zz21) es0 (by rw [meL_length]; exact ea1) eb1 (show Row true _ eA1 ek1 (meL x.sig.shut (K1)) eS1 from by have zh:=hr1_3; exact zz22) es1 (by rw [meL_length]; exact ea2) eb2 (show Row true _ eA2 ek2 (meL x.sig.sides (K2)) eS2 from by have zh:=hr2_3; exact zz23) es2 (fun _ => epw_.out)
   case measure => simp [intOf]; omega
  ·have hke : k = xs.length:=by omega
   go_wp2
   go_ret; subst hke; refine ⟨by rw [List.take_of_length_le (Nat.le_refl _)]; rfl,by simpa using hrow,hch⟩
theorem markr_Whole (x : Whole) (w : World) (A0 : Option Addr) (k0 : Nat) (S0 : Blks) (A1 : Option Addr) (k1 : Nat) (S1 : Blks) (A2 : Option Addr) (k2 : Nat) (S2 : Blks) (A3 : Option Addr) (k3 : Nat) (S3 : Blks) (A4 : Option Addr) (k4 : Nat) (S4 : Blks) (A5 : Option Addr) (k5 : Nat) (S5 : Blks) (A6 : Option Addr) (k6 : Nat) (S6 : Blks) (a : Int) (k : Nat) (ha : a = (k : Int)) (hk : k + x.ct ≤ 4611686018427387904) (r0 : Row true w A0 k0 x.proof.bucket S0) (l0 : x.proof.bucket.length ≤ maxLen) (r1 : Row true w A1 k1 x.proof.sides S1) (l1 : x.proof.sides.length ≤ maxLen) (r2 : Row true w A2 k2 x.tops S2) (l2 : x.tops.length ≤ maxLen) (r3 : Row true w A3 k3 x.seal_.sig.open_ S3) (l3 : x.seal_.sig.open_.length ≤ maxLen) (r4 : Row true w A4 k4 x.seal_.sig.shut S4) (l4 : x.seal_.sig.shut.length ≤ maxLen) (r5 : Row true w A5 k5 x.seal_.sig.sides S5) (l5 : x.seal_.sig.sides.length ≤ maxLen) (r6 : Row true w A6 k6 x.stamps S6) (l6 : x.stamps.length ≤ maxLen) (pw : List.Pairwise disj [S0,S1,S2,S3,S4,S5,S6]) :
  Calls Tryz.prog 23 #[.agg (Whole.cs x A0 k0 A1 k1 A2 k2 A3 k3 A4 k4 A5 k5 A6 k6).toArray, .int .i64 a] w fun e w' => e = .returned (.int .i64 ((k + x.ct : Nat) : Int)) ∧ (Row true w' A0 k0 (meL x.proof.bucket (k)) S0 ∧ Row true w' A1 k1 (meL x.proof.sides (k + cnL x.proof.bucket)) S1 ∧ Row true w' A2 k2 (meL x.tops (k + cnL x.proof.bucket + cnL x.proof.sides)) S2 ∧ Row true w' A3 k3 (meL x.seal_.sig.open_ (k + cnL x.proof.bucket + cnL x.proof.sides + cnL x.tops)) S3 ∧ Row true w' A4 k4 (meL x.seal_.sig.shut (k + cnL x.proof.bucket + cnL x.proof.sides + cnL x.tops + cnL x.seal_.sig.open_)) S4 ∧ Row true w' A5 k5 (meL x.seal_.sig.sides (k + cnL x.proof.bucket + cnL x.proof.sides + cnL x.tops + cnL x.seal_.sig.open_ + cnL x.seal_.sig.shut)) S5 ∧ Row true w' A6 k6 (meL x.stamps (k + cnL x.proof.bucket + cnL x.proof.sides + cnL x.tops + cnL x.seal_.sig.open_ + cnL x.seal_.sig.shut + cnL x.seal_.sig.sides)) S6) ∧ Chg (un S0 (un S1 (un S2 (un S3 (un S4 (un S5 S6)))))) w w':=by
 subst ha
 unfold Whole.ct at hk
 obtain ⟨K0,hK0⟩ : ∃ q,k + cnL x.proof.bucket = q:=⟨_,rfl⟩
 obtain ⟨K1,hK1⟩ : ∃ q,K0 + cnL x.proof.sides = q:=⟨_,rfl⟩
 obtain ⟨K2,hK2⟩ : ∃ q,K1 + cnL x.tops = q:=⟨_,rfl⟩
 obtain ⟨K3,hK3⟩ : ∃ q,K2 + cnL x.seal_.sig.open_ = q:=⟨_,rfl⟩
 obtain ⟨K4,hK4⟩ : ∃ q,K3 + cnL x.seal_.sig.shut = q:=⟨_,rfl⟩
 obtain ⟨K5,hK5⟩ : ∃ q,K4 + cnL x.seal_.sig.sides = q:=⟨_,rfl⟩
 obtain ⟨K6,hK6⟩ : ∃ q,K5 + cnL x.stamps = q:=⟨_,rfl⟩
 have hfin : Hid (((k + x.ct : Nat) : Int) = (K6 : Int)):=zd (by unfold Whole.ct; omega)
 simp only [hK0,hK1,hK2,hK3,hK4,hK5]
 have HK0:=zd hK0; clear hK0
 have HK1:=zd hK1; clear hK1
 have HK2:=zd hK2; clear hK2
 have HK3:=zd hK3; clear hK3
 have HK4:=zd hK4; clear hK4
 have HK5:=zd hK5; clear hK5
 have HK6:=zd hK6; clear hK6
 rw [hfin.out]
 have t0_0:=r0.tight
 have t0_1:=r1.tight
 have t0_2:=r2.tight
 have t0_3:=r3.tight
 have t0_4:=r4.tight
 have t0_5:=r5.tight
 have t0_6:=r6.tight
 clear r0 r1 r2 r3 r4 r5 r6
 have d0_1:=yae (pwget7_0_1 pw) (fun b (x : S0 b ∧ b < w.heap.size) => x.1) (fun b (x : S1 b ∧ b < w.heap.size) => x.1)
 have d0_2:=yae (pwget7_0_2 pw) (fun b (x : S0 b ∧ b < w.heap.size) => x.1) (fun b (x : S2 b ∧ b < w.heap.size) => x.1)
 have d0_3:=yae (pwget7_0_3 pw) (fun b (x : S0 b ∧ b < w.heap.size) => x.1) (fun b (x : S3 b ∧ b < w.heap.size) => x.1)
 have d0_4:=yae (pwget7_0_4 pw) (fun b (x : S0 b ∧ b < w.heap.size) => x.1) (fun b (x : S4 b ∧ b < w.heap.size) => x.1)
 have d0_5:=yae (pwget7_0_5 pw) (fun b (x : S0 b ∧ b < w.heap.size) => x.1) (fun b (x : S5 b ∧ b < w.heap.size) => x.1)
 have d0_6:=yae (pwget7_0_6 pw) (fun b (x : S0 b ∧ b < w.heap.size) => x.1) (fun b (x : S6 b ∧ b < w.heap.size) => x.1)
 have d1_2:=yae (pwget7_1_2 pw) (fun b (x : S1 b ∧ b < w.heap.size) => x.1) (fun b (x : S2 b ∧ b < w.heap.size) => x.1)
 have d1_3:=yae (pwget7_1_3 pw) (fun b (x : S1 b ∧ b < w.heap.size) => x.1) (fun b (x : S3 b ∧ b < w.heap.size) => x.1)
 have d1_4:=yae (pwget7_1_4 pw) (fun b (x : S1 b ∧ b < w.heap.size) => x.1) (fun b (x : S4 b ∧ b < w.heap.size) => x.1)
 have d1_5:=yae (pwget7_1_5 pw) (fun b (x : S1 b ∧ b < w.heap.size) => x.1) (fun b (x : S5 b ∧ b < w.heap.size) => x.1)
 have d1_6:=yae (pwget7_1_6 pw) (fun b (x : S1 b ∧ b < w.heap.size) => x.1) (fun b (x : S6 b ∧ b < w.heap.size) => x.1)
 have d2_3:=yae (pwget7_2_3 pw) (fun b (x : S2 b ∧ b < w.heap.size) => x.1) (fun b (x : S3 b ∧ b < w.heap.size) => x.1)
 have d2_4:=yae (pwget7_2_4 pw) (fun b (x : S2 b ∧ b < w.heap.size) => x.1) (fun b (x : S4 b ∧ b < w.heap.size) => x.1)
 have d2_5:=yae (pwget7_2_5 pw) (fun b (x : S2 b ∧ b < w.heap.size) => x.1) (fun b (x : S5 b ∧ b < w.heap.size) => x.1)
 have d2_6:=yae (pwget7_2_6 pw) (fun b (x : S2 b ∧ b < w.heap.size) => x.1) (fun b (x : S6 b ∧ b < w.heap.size) => x.1)
 have d3_4:=yae (pwget7_3_4 pw) (fun b (x : S3 b ∧ b < w.heap.size) => x.1) (fun b (x : S4 b ∧ b < w.heap.size) => x.1)
 have d3_5:=yae (pwget7_3_5 pw) (fun b (x : S3 b ∧ b < w.heap.size) => x.1) (fun b (x : S5 b ∧ b < w.heap.size) => x.1)
 have d3_6:=yae (pwget7_3_6 pw) (fun b (x : S3 b ∧ b < w.heap.size) => x.1) (fun b (x : S6 b ∧ b < w.heap.size) => x.1)
 have d4_5:=yae (pwget7_4_5 pw) (fun b (x : S4 b ∧ b < w.heap.size) => x.1) (fun b (x : S5 b ∧ b < w.heap.size) => x.1)
 have d4_6:=yae (pwget7_4_6 pw) (fun b (x : S4 b ∧ b < w.heap.size) => x.1) (fun b (x : S6 b ∧ b < w.heap.size) => x.1)
 have d5_6:=yae (pwget7_5_6 pw) (fun b (x : S5 b ∧ b < w.heap.size) => x.1) (fun b (x : S6 b ∧ b < w.heap.size) => x.1)
 clear pw
 have hC0 : Chg (un S0 (un S1 (un S2 (un S3 (un S4 (un S5 S6)))))) w w:=Chg.refl _ _
 have hz0:=Nat.le_refl w.heap.size
 simp only [Whole.cs]
 go_enter Tryz.func23,Tryz.ntmps23
 go_wp2_with (fail)
 refine (markr_Proof x.proof _ A0 k0 (fun b => S0 b ∧ b < w.heap.size) A1 k1 (fun b => S1 b ∧ b < w.heap.size) _ k (by first | rfl | omega) (by have:=HK0.out; have:=HK1.out; have:=HK2.out; have:=HK3.out; have:=HK4.out; have:=HK5.out; have:=HK6.out; unfold Proof.ct; omega) (show Row true _ A0 k0 x.proof.bucket (fun b => S0 b ∧ b < w.heap.size) from by have zh:=t0_0; exact zz6) l0 (show Row true _ A1 k1 x.proof.sides (fun b => S1 b ∧ b < w.heap.size) from by have zh:=t0_1; exact zz6) l1 (pwmk2 d0_1)).mono ?_
 rw [show k + (x.proof).ct = K1 from by have:=HK0.out; have:=HK1.out; have:=HK2.out; have:=HK3.out; have:=HK4.out; have:=HK5.out; have:=HK6.out; unfold Proof.ct; omega]
 simp only [HK0.out]
 rintro e1 w1 ⟨rfl,⟨t1_0,t1_1⟩,hb1⟩
 have hV1 : ∀ b,(un (fun b => S0 b ∧ b < w.heap.size) (fun b => S1 b ∧ b < w.heap.size)) b → b < w.heap.size:=(fun b (h : (un (fun b => S0 b ∧ b < w.heap.size) (fun b => S1 b ∧ b < w.heap.size)) b) => (show b < w.heap.size from by unfold un at h; (try simp only at h); rcases h with h | h <;> exact h.2))
 have hz1 : w.heap.size + 1 ≤ w1.heap.size:=zz27
 have hC1 : Chg (un S0 (un S1 (un S2 (un S3 (un S4 (un S5 S6)))))) w w1:=Chg.trans (b:=_) (by have zh:=hC0; exact zz24) (hb1.mono (fun b _ h => (show (un S0 (un S1 (un S2 (un S3 (un S4 (un S5 S6)))))) b from by unfold un at h; (try simp only at h); rcases h with h | h <;> first | exact (un_left _ _) b h.1 | exact (ya3 (un_left _ _) (yac _ _)) b h.1)))
 have t1_2:=Row.chg (show Row true _ A2 k2 x.tops (fun b => S2 b ∧ b < w.heap.size) from by have zh:=t0_2; exact zz6) hb1 (disj_un (disj_symm d0_2) (disj_symm d1_2))
 have t1_3:=Row.chg (show Row true _ A3 k3 x.seal_.sig.open_ (fun b => S3 b ∧ b < w.heap.size) from by have zh:=t0_3; exact zz6) hb1 (disj_un (disj_symm d0_3) (disj_symm d1_3))
 have t1_4:=Row.chg (show Row true _ A4 k4 x.seal_.sig.shut (fun b => S4 b ∧ b < w.heap.size) from by have zh:=t0_4; exact zz6) hb1 (disj_un (disj_symm d0_4) (disj_symm d1_4))
 have t1_5:=Row.chg (show Row true _ A5 k5 x.seal_.sig.sides (fun b => S5 b ∧ b < w.heap.size) from by have zh:=t0_5; exact zz6) hb1 (disj_un (disj_symm d0_5) (disj_symm d1_5))
 have t1_6:=Row.chg (show Row true _ A6 k6 x.stamps (fun b => S6 b ∧ b < w.heap.size) from by have zh:=t0_6; exact zz6) hb1 (disj_un (disj_symm d0_6) (disj_symm d1_6))
 have hc1:=fun o => hb1.cellC (p:=⟨w.heap.size,o,none⟩) zz0 (fun h => absurd (hV1 _ h) (Nat.lt_irrefl _))
 go_wp2_with (fail)
 refine (mark_StringS x.tops _ _ _ (fun b => S2 b ∧ b < w.heap.size) _ K1 (by first | rfl | omega) (by have:=HK0.out; have:=HK1.out; have:=HK2.out; have:=HK3.out; have:=HK4.out; have:=HK5.out; have:=HK6.out; omega) (show Row true _ A2 k2 x.tops (fun b => S2 b ∧ b < w.heap.size) from by have zh:=t1_2; exact zz6) l2).mono ?_
 rw [HK2.out]
 rintro e2 w2 ⟨rfl,t2_2,hb2⟩
 have hV2 : ∀ b,(fun b => S2 b ∧ b < w.heap.size) b → b < w.heap.size:=(fun b (h : (fun b => S2 b ∧ b < w.heap.size) b) => (show b < w.heap.size from by exact h.2))
 have hz2 : w.heap.size + 1 ≤ w2.heap.size:=zz42
 have hC2 : Chg (un S0 (un S1 (un S2 (un S3 (un S4 (un S5 S6)))))) w w2:=Chg.trans (b:=_) (by have zh:=hC1; exact zz24) (hb2.mono (fun b _ h => (ya3 (ya3 (un_left _ _) (yac _ _)) (yac _ _)) b h.1))
 have t2_0:=Row.chg (show Row true _ A0 k0 (meL x.proof.bucket k) (fun b => S0 b ∧ b < w.heap.size) from by have zh:=t1_0; exact zz6) hb2 d0_2
 have t2_1:=Row.chg (show Row true _ A1 k1 (meL x.proof.sides K0) (fun b => S1 b ∧ b < w.heap.size) from by have zh:=t1_1; exact zz6) hb2 d1_2
 have t2_3:=Row.chg (show Row true _ A3 k3 x.seal_.sig.open_ (fun b => S3 b ∧ b < w.heap.size) from by have zh:=t1_3; exact zz6) hb2 (disj_symm d2_3)
 have t2_4:=Row.chg (show Row true _ A4 k4 x.seal_.sig.shut (fun b => S4 b ∧ b < w.heap.size) from by have zh:=t1_4; exact zz6) hb2 (disj_symm d2_4)
 have t2_5:=Row.chg (show Row true _ A5 k5 x.seal_.sig.sides (fun b => S5 b ∧ b < w.heap.size) from by have zh:=t1_5; exact zz6) hb2 (disj_symm d2_5)
 have t2_6:=Row.chg (show Row true _ A6 k6 x.stamps (fun b => S6 b ∧ b < w.heap.size) from by have zh:=t1_6; exact zz6) hb2 (disj_symm d2_6)
 have hc2:=fun o => hb2.cellC (p:=⟨w.heap.size,o,none⟩) zz0 (fun h => absurd (hV2 _ h) (Nat.lt_irrefl _))
 go_wp2_with (fail)
 refine (markr_Seal x.seal_ _ A3 k3 (fun b => S3 b ∧ b < w.heap.size) A4 k4 (fun b => S4 b ∧ b < w.heap.size) A5 k5 (fun b => S5 b ∧ b < w.heap.size) _ K2 (by first | rfl | omega) (by have:=HK0.out; have:=HK1.out; have:=HK2.out; have:=HK3.out; have:=HK4.out; have:=HK5.out; have:=HK6.out; unfold Seal.ct; omega) (show Row true _ A3 k3 x.seal_.sig.open_ (fun b => S3 b ∧ b < w.heap.size) from by have zh:=t2_3; exact zz6) l3 (show Row true _ A4 k4 x.seal_.sig.shut (fun b => S4 b ∧ b < w.heap.size) from by have zh:=t2_4; exact zz6) l4 (show Row true _ A5 k5 x.seal_.sig.sides (fun b => S5 b ∧ b < w.heap.size) from by have zh:=t2_5; exact zz6) l5 (pwmk3 d3_4 d3_5 d4_5)).mono ?_
 rw [show K2 + (x.seal_).ct = K5 from by have:=HK0.out; have:=HK1.out; have:=HK2.out; have:=HK3.out; have:=HK4.out; have:=HK5.out; have:=HK6.out; unfold Seal.ct; omega]
 simp only [HK3.out,HK4.out]
 rintro e3 w3 ⟨rfl,⟨t3_3,t3_4,t3_5⟩,hb3⟩
 have hV3 : ∀ b,(un (fun b => S3 b ∧ b < w.heap.size) (un (fun b => S4 b ∧ b < w.heap.size) (fun b => S5 b ∧ b < w.heap.size))) b → b < w.heap.size:=(fun b (h : (un (fun b => S3 b ∧ b < w.heap.size) (un (fun b => S4 b ∧ b < w.heap.size) (fun b => S5 b ∧ b < w.heap.size))) b) => (show b < w.heap.size from by unfold un at h; (try simp only at h); rcases h with h | (h | h) <;> exact h.2))
 have hz3 : w.heap.size + 1 ≤ w3.heap.size:=zz65
 have hC3 : Chg (un S0 (un S1 (un S2 (un S3 (un S4 (un S5 S6)))))) w w3:=Chg.trans (b:=_) (by have zh:=hC2; exact zz24) (hb3.mono (fun b _ h => (show (un S0 (un S1 (un S2 (un S3 (un S4 (un S5 S6)))))) b from by unfold un at h; (try simp only at h); rcases h with h | (h | h) <;> first | exact (ya3 (ya3 (ya3 (un_left _ _) (yac _ _)) (yac _ _)) (yac _ _)) b h.1 | exact (ya3 (ya3 (ya3 (ya3 (un_left _ _) (yac _ _)) (yac _ _)) (yac _ _)) (yac _ _)) b h.1 | exact (ya3 (ya3 (ya3 (ya3 (ya3 (un_left _ _) (yac _ _)) (yac _ _)) (yac _ _)) (yac _ _)) (yac _ _)) b h.1)))
 have t3_0:=Row.chg (show Row true _ A0 k0 (meL x.proof.bucket k) (fun b => S0 b ∧ b < w.heap.size) from by have zh:=t2_0; exact zz6) hb3 (disj_un d0_3 (disj_un d0_4 d0_5))
 have t3_1:=Row.chg (show Row true _ A1 k1 (meL x.proof.sides K0) (fun b => S1 b ∧ b < w.heap.size) from by have zh:=t2_1; exact zz6) hb3 (disj_un d1_3 (disj_un d1_4 d1_5))
 have t3_2:=Row.chg (show Row true _ A2 k2 (meL x.tops K1) (fun b => S2 b ∧ b < w.heap.size) from by have zh:=t2_2; exact zz6) hb3 (disj_un d2_3 (disj_un d2_4 d2_5))
 have t3_6:=Row.chg (show Row true _ A6 k6 x.stamps (fun b => S6 b ∧ b < w.heap.size) from by have zh:=t2_6; exact zz6) hb3 (disj_un (disj_symm d3_6) (disj_un (disj_symm d4_6) (disj_symm d5_6)))
 have hc3:=fun o => hb3.cellC (p:=⟨w.heap.size,o,none⟩) zz0 (fun h => absurd (hV3 _ h) (Nat.lt_irrefl _))
 go_wp2_with (fail)
 refine (mark_StampS x.stamps _ _ _ (fun b => S6 b ∧ b < w.heap.size) _ K5 (by first | rfl | omega) (by have:=HK0.out; have:=HK1.out; have:=HK2.out; have:=HK3.out; have:=HK4.out; have:=HK5.out; have:=HK6.out; omega) (show Row true _ A6 k6 x.stamps (fun b => S6 b ∧ b < w.heap.size) from by have zh:=t3_6; exact zz6) l6).mono ?_
 rw [HK6.out]
 rintro e4 w4 ⟨rfl,t4_6,hb4⟩
 have hV4 : ∀ b,(fun b => S6 b ∧ b < w.heap.size) b → b < w.heap.size:=(fun b (h : (fun b => S6 b ∧ b < w.heap.size) b) => (show b < w.heap.size from by exact h.2))
 have hz4 : w.heap.size + 1 ≤ w4.heap.size:=by have:=hb4.size; (try simp at this); omega
 have hC4 : Chg (un S0 (un S1 (un S2 (un S3 (un S4 (un S5 S6)))))) w w4:=Chg.trans (b:=_) (by have zh:=hC3; exact zz24) (hb4.mono (fun b _ h => (ya3 (ya3 (ya3 (ya3 (ya3 (ya3 (ya9 _) (yac _ _)) (yac _ _)) (yac _ _)) (yac _ _)) (yac _ _)) (yac _ _)) b h.1))
 have t4_0:=Row.chg (show Row true _ A0 k0 (meL x.proof.bucket k) (fun b => S0 b ∧ b < w.heap.size) from by have zh:=t3_0; exact zz6) hb4 d0_6
 have t4_1:=Row.chg (show Row true _ A1 k1 (meL x.proof.sides K0) (fun b => S1 b ∧ b < w.heap.size) from by have zh:=t3_1; exact zz6) hb4 d1_6
 have t4_2:=Row.chg (show Row true _ A2 k2 (meL x.tops K1) (fun b => S2 b ∧ b < w.heap.size) from by have zh:=t3_2; exact zz6) hb4 d2_6
 have t4_3:=Row.chg (show Row true _ A3 k3 (meL x.seal_.sig.open_ K2) (fun b => S3 b ∧ b < w.heap.size) from by have zh:=t3_3; exact zz6) hb4 d3_6
 have t4_4:=Row.chg (show Row true _ A4 k4 (meL x.seal_.sig.shut K3) (fun b => S4 b ∧ b < w.heap.size) from by have zh:=t3_4; exact zz6) hb4 d4_6
 have t4_5:=Row.chg (show Row true _ A5 k5 (meL x.seal_.sig.sides K4) (fun b => S5 b ∧ b < w.heap.size) from by have zh:=t3_5; exact zz6) hb4 d5_6
 have hc4:=fun o => hb4.cellC (p:=⟨w.heap.size,o,none⟩) zz0 (fun h => absurd (hV4 _ h) (Nat.lt_irrefl _))
 go_wp2
 go_ret
 exact ⟨rfl,⟨Row.mono (show Row true _ A0 k0 (meL x.proof.bucket k) (fun b => S0 b ∧ b < w.heap.size) from by have zh:=t4_0; exact zz6) (fun _ x => x.1),Row.mono (show Row true _ A1 k1 (meL x.proof.sides K0) (fun b => S1 b ∧ b < w.heap.size) from by have zh:=t4_1; exact zz6) (fun _ x => x.1),Row.mono (show Row true _ A2 k2 (meL x.tops K1) (fun b => S2 b ∧ b < w.heap.size) from by have zh:=t4_2; exact zz6) (fun _ x => x.1),Row.mono (show Row true _ A3 k3 (meL x.seal_.sig.open_ K2) (fun b => S3 b ∧ b < w.heap.size) from by have zh:=t4_3; exact zz6) (fun _ x => x.1),Row.mono (show Row true _ A4 k4 (meL x.seal_.sig.shut K3) (fun b => S4 b ∧ b < w.heap.size) from by have zh:=t4_4; exact zz6) (fun _ x => x.1),Row.mono (show Row true _ A5 k5 (meL x.seal_.sig.sides K4) (fun b => S5 b ∧ b < w.heap.size) from by have zh:=t4_5; exact zz6) (fun _ x => x.1),Row.mono (show Row true _ A6 k6 (meL x.stamps K5) (fun b => S6 b ∧ b < w.heap.size) from by have zh:=t4_6; exact zz6) (fun _ x => x.1)⟩,by have zh:=hC4; exact zz24⟩
theorem mark_Whole (x : Whole) (w : World) (cs : List Value) (S : Blks) (a : Int) (k : Nat) (ha : a = (k : Int)) (hk : k + x.ct ≤ 4611686018427387904) (hx : rd true w cs x S) :
  Calls Tryz.prog 23 #[.agg cs.toArray, .int .i64 a] w fun e w' => e = .returned (.int .i64 ((k + x.ct : Nat) : Int)) ∧ rd true w' cs (x.mt k) S ∧ Chg S w w':=by
 obtain ⟨A0,k0,S0,A1,k1,S1,A2,k2,S2,A3,k3,S3,A4,k4,S4,A5,k5,S5,A6,k6,S6,rfl,f3,f4,f5,f6,f7,a0,b0,r0,s0,a1,b1,r1,s1,a2,b2,r2,s2,a3,b3,r3,s3,a4,b4,r4,s4,a5,b5,r5,s5,a6,b6,r6,s6,pw⟩:=Whole.open hx
 refine (markr_Whole x w A0 k0 S0 A1 k1 S1 A2 k2 S2 A3 k3 S3 A4 k4 S4 A5 k5 S5 A6 k6 S6 a k ha hk r0 (Nat.le_trans a0 b0) r1 (Nat.le_trans a1 b1) r2 (Nat.le_trans a2 b2) r3 (Nat.le_trans a3 b3) r4 (Nat.le_trans a4 b4) r5 (Nat.le_trans a5 b5) r6 (Nat.le_trans a6 b6) (pw rfl)).mono ?_
 rintro e w1 ⟨rfl,⟨t0,t1,t2,t3,t4,t5,t6⟩,hb⟩
 have hm : rd true w1 (Whole.cs (⟨(⟨meL x.proof.bucket (k),meL x.proof.sides (k + cnL x.proof.bucket)⟩ : Proof),meL x.tops (k + cnL x.proof.bucket + cnL x.proof.sides),(⟨(⟨x.seal_.head.house,x.seal_.head.epoch,x.seal_.head.root,x.seal_.head.prev⟩ : Head),(⟨x.seal_.sig.at_,meL x.seal_.sig.open_ (k + cnL x.proof.bucket + cnL x.proof.sides + cnL x.tops),meL x.seal_.sig.shut (k + cnL x.proof.bucket + cnL x.proof.sides + cnL x.tops + cnL x.seal_.sig.open_),meL x.seal_.sig.sides (k + cnL x.proof.bucket + cnL x.proof.sides + cnL x.tops + cnL x.seal_.sig.open_ + cnL x.seal_.sig.shut)⟩ : Sig)⟩ : Seal),meL x.stamps (k + cnL x.proof.bucket + cnL x.proof.sides + cnL x.tops + cnL x.seal_.sig.open_ + cnL x.seal_.sig.shut + cnL x.seal_.sig.sides)⟩ : Whole) A0 k0 A1 k1 A2 k2 A3 k3 A4 k4 A5 k5 A6 k6) (⟨(⟨meL x.proof.bucket (k),meL x.proof.sides (k + cnL x.proof.bucket)⟩ : Proof),meL x.tops (k + cnL x.proof.bucket + cnL x.proof.sides),(⟨(⟨x.seal_.head.house,x.seal_.head.epoch,x.seal_.head.root,x.seal_.head.prev⟩ : Head),(⟨x.seal_.sig.at_,meL x.seal_.sig.open_ (k + cnL x.proof.bucket + cnL x.proof.sides + cnL x.tops),meL x.seal_.sig.shut (k + cnL x.proof.bucket + cnL x.proof.sides + cnL x.tops + cnL x.seal_.sig.open_),meL x.seal_.sig.sides (k + cnL x.proof.bucket + cnL x.proof.sides + cnL x.tops + cnL x.seal_.sig.open_ + cnL x.seal_.sig.shut)⟩ : Sig)⟩ : Seal),meL x.stamps (k + cnL x.proof.bucket + cnL x.proof.sides + cnL x.tops + cnL x.seal_.sig.open_ + cnL x.seal_.sig.shut + cnL x.seal_.sig.sides)⟩ : Whole) S:=Whole.mk' (x:=(⟨(⟨meL x.proof.bucket (k),meL x.proof.sides (k + cnL x.proof.bucket)⟩ : Proof),meL x.tops (k + cnL x.proof.bucket + cnL x.proof.sides),(⟨(⟨x.seal_.head.house,x.seal_.head.epoch,x.seal_.head.root,x.seal_.head.prev⟩ : Head),(⟨x.seal_.sig.at_,meL x.seal_.sig.open_ (k + cnL x.proof.bucket + cnL x.proof.sides + cnL x.tops),meL x.seal_.sig.shut (k + cnL x.proof.bucket + cnL x.proof.sides + cnL x.tops + cnL x.seal_.sig.open_),meL x.seal_.sig.sides (k + cnL x.proof.bucket + cnL x.proof.sides + cnL x.tops + cnL x.seal_.sig.open_ + cnL x.seal_.sig.shut)⟩ : Sig)⟩ : Seal),meL x.stamps (k + cnL x.proof.bucket + cnL x.proof.sides + cnL x.tops + cnL x.seal_.sig.open_ + cnL x.seal_.sig.shut + cnL x.seal_.sig.sides)⟩ : Whole)) (by rw [meL_length]; exact a0) b0 t0 s0 (by rw [meL_length]; exact a1) b1 t1 s1 (by rw [meL_length]; exact a2) b2 t2 s2 f3 f4 f5 f6 f7 (by rw [meL_length]; exact a3) b3 t3 s3 (by rw [meL_length]; exact a4) b4 t4 s4 (by rw [meL_length]; exact a5) b5 t5 s5 (by rw [meL_length]; exact a6) b6 t6 s6 pw
 refine ⟨rfl,?_,hb.mono (fun b _ h => (show S b from by unfold un at h; (try simp only at h); rcases h with h | (h | (h | (h | (h | (h | h))))) <;> first | exact s0 b h | exact s1 b h | exact s2 b h | exact s3 b h | exact s4 b h | exact s5 b h | exact s6 b h))⟩
 simpa only [Whole.cs,meL_length,Whole.mt] using hm
end Go.Proofs.YtgllafgpmenjjaaGreatDoor
