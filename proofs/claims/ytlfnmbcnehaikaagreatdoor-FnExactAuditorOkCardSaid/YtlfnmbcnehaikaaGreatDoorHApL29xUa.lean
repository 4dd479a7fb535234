/- A part of the proof. -/
import Derived.Test.YtlfnmbcnehaikaaGreatDoorHApL28xTf
set_option linter.unusedVariables false
set_option linter.unusedSimpArgs false
set_option maxRecDepth 20000
set_option maxHeartbeats 8000000
namespace Go.Proofs.YtlfnmbcnehaikaaGreatDoor
open Go.RowKit Lay Mk
structure AudO (B : Nat) (M : Blks) (w : World) (g : Nat) (x : Auditor) (A0 : Option Addr) (c0 : Nat) (A1 : Option Addr) (c1 : Nat) (A2 : Option Addr) (c2 : Nat) (A3 : Option Addr) (c3 : Nat) (F G : Blks) : Prop where
 bx : Bx w g #[.int .i64 x.house, .bool x.up, .slice A0 x.disk.files.length c0, .slice A1 x.pool.length c1, .slice A2 x.pins.length c2, .slice A3 x.pairs.length c3] 33
 gB : B ≤ g
 r0 : Row true w A0 c0 x.disk.files F
 r1 : Row true w A1 c1 x.pool G
 dj : disj F G
 bF : ∀ b,F b → B ≤ b
 bG : ∀ b,G b → B ≤ b
 gF : ¬ F g
 gG : ¬ G g
 gM : ¬ M g
 l0 : x.disk.files.length ≤ c0
 m0 : c0 ≤ maxLen
 l1 : x.pool.length ≤ c1
 m1 : c1 ≤ maxLen
 hi : I64 x.house
 tri : TriG B (fun b => b = g ∨ F b ∨ G b ∨ M b) w none 0 ([] : List Int) A2 c2 x.pins A3 c3 x.pairs
def Aud (B : Nat) (M : Blks) (w : World) (g : Nat) (x : Auditor) : Prop:=∃ A0 c0 A1 c1 A2 c2 A3 c3 F G,AudO B M w g x A0 c0 A1 c1 A2 c2 A3 c3 F G
section
variable {B : Nat} {M : Blks} {w : World} {g : Nat} {x : Auditor} {A0 : Option Addr} {c0 : Nat} {A1 : Option Addr} {c1 : Nat} {A2 : Option Addr} {c2 : Nat} {A3 : Option Addr} {c3 : Nat} {F G : Blks}
theorem AudO.later {w' : World} (h : AudO B M w g x A0 c0 A1 c1 A2 c2 A3 c3 F G) (hb : Below w.heap.size w w') : AudO B M w' g x A0 c0 A1 c1 A2 c2 A3 c3 F G :=
 ⟨h.bx.keep (hb.block _ h.bx.lt),h.gB,Row.later h.r0 hb,Row.later h.r1 hb,h.dj,h.bF,h.bG,h.gF,h.gG,h.gM,h.l0,h.m0,h.l1,h.m1,h.hi,h.tri.later hb⟩
theorem Aud.later {w' : World} (h : Aud B M w g x) (hb : Below w.heap.size w w') : Aud B M w' g x:=by
 obtain ⟨A0,c0,A1,c1,A2,c2,A3,c3,F,G,h⟩:=h
 exact ⟨A0,c0,A1,c1,A2,c2,A3,c3,F,G,h.later hb⟩
theorem AudO.ok (h : AudO B M w g x A0 c0 A1 c1 A2 c2 A3 c3 F G) : Aud B M w g x:=⟨A0,c0,A1,c1,A2,c2,A3,c3,F,G,h⟩
theorem AudO.size (h : AudO B M w g x A0 c0 A1 c1 A2 c2 A3 c3 F G) : B < w.heap.size:=Nat.lt_of_le_of_lt h.gB h.bx.lt
theorem chg_box {o : Nat} {v : Value} {N : Blks} (h : N g) : Chg N w (w.setCell ⟨g,o,none⟩ v):=Chg.setCell (S:=N) (p:=⟨g,o,none⟩) (Chg.refl _ _) (Or.inl h) _
theorem AudO.pin {v w' : World} {A' : Option Addr} {c' : Nat} {s : Seal} {k : Nat} (hk : k = x.pins.length) (h : AudO B M w g x A0 c0 A1 c1 A2 c2 A3 c3 F G) (hb : Below w.heap.size w v)
  (ht : TriG B (fun b => b = g ∨ F b ∨ G b ∨ M b) w' none 0 ([] : List Int) A' c' (x.pins ++ [s]) A3 c3 x.pairs) (hc : Chg (fun b => B ≤ b ∧ b < w.heap.size ∧ ¬ (b = g ∨ F b ∨ G b ∨ M b)) v w') :
  AudO B M (w'.setCell ⟨g,4,none⟩ (.slice A' (k + 1) c')) g { x with pins:=x.pins ++ [s] } A0 c0 A1 c1 A' c' A3 c3 F G ∧ Chg (fun b => B ≤ b ∧ b < w.heap.size ∧ ¬ M b) w (w'.setCell ⟨g,4,none⟩ (.slice A' (k + 1) c')):=by
 subst hk
 have hl:=h.bx.lt
 have hbx : Bx w' g _ _:=(h.bx.keep (hb.block _ hl)).keep (hc.block _ (by have:=hb.size; omega) (fun q => q.2.2 (.inl rfl)))
 have h0 : Row true w' A0 c0 x.disk.files F:=Row.chg (Row.later h.r0 hb) hc (fun b p q => q.2.2 (.inr (.inl p)))
 have h1 : Row true w' A1 c1 x.pool G:=Row.chg (Row.later h.r1 hb) hc (fun b p q => q.2.2 (.inr (.inr (.inl p))))
 have hg : g < w'.heap.size:=hbx.lt
 refine ⟨⟨hbx.set zz17,h.gB,h0.setC h.gF _,h1.setC h.gG _,h.dj,h.bF,h.bG,h.gF,h.gG,h.gM,h.l0,h.m0,h.l1,h.m1,h.hi,ht.chgN (chg_box (Or.inl rfl))⟩,?_⟩
 exact Chg.setCell ((Chg.below (Chg.refl _ w) hb (Nat.le_refl _)).trans (hc.mono (fun b _ q => ⟨q.1,q.2.1,fun k => q.2.2 (.inr (.inr (.inr k)))⟩))) (.inl ⟨h.gB,hl,h.gM⟩) _
theorem AudO.pair {v w' : World} {A' : Option Addr} {c' : Nat} {s : Pair} {k : Nat} (hk : k = x.pairs.length) (h : AudO B M w g x A0 c0 A1 c1 A2 c2 A3 c3 F G) (hb : Below w.heap.size w v)
  (ht : TriG B (fun b => b = g ∨ F b ∨ G b ∨ M b) w' none 0 ([] : List Int) A2 c2 x.pins A' c' (x.pairs ++ [s])) (hc : Chg (fun b => B ≤ b ∧ b < w.heap.size ∧ ¬ (b = g ∨ F b ∨ G b ∨ M b)) v w') :
  AudO B M (w'.setCell ⟨g,5,none⟩ (.slice A' (k + 1) c')) g { x with pairs:=x.pairs ++ [s] } A0 c0 A1 c1 A2 c2 A' c' F G ∧ Chg (fun b => B ≤ b ∧ b < w.heap.size ∧ ¬ M b) w (w'.setCell ⟨g,5,none⟩ (.slice A' (k + 1) c')):=by
 subst hk
 have hl:=h.bx.lt
 have hbx : Bx w' g _ _:=(h.bx.keep (hb.block _ hl)).keep (hc.block _ (by have:=hb.size; omega) (fun q => q.2.2 (.inl rfl)))
 have h0 : Row true w' A0 c0 x.disk.files F:=Row.chg (Row.later h.r0 hb) hc (fun b p q => q.2.2 (.inr (.inl p)))
 have h1 : Row true w' A1 c1 x.pool G:=Row.chg (Row.later h.r1 hb) hc (fun b p q => q.2.2 (.inr (.inr (.inl p))))
 have hg : g < w'.heap.size:=hbx.lt
 refine ⟨⟨hbx.set zz17,h.gB,h0.setC h.gF _,h1.setC h.gG _,h.dj,h.bF,h.bG,h.gF,h.gG,h.gM,h.l0,h.m0,h.l1,h.m1,h.hi,ht.chgN (chg_box (Or.inl rfl))⟩,?_⟩
 exact Chg.setCell ((Chg.below (Chg.refl _ w) hb (Nat.le_refl _)).trans (hc.mono (fun b _ q => ⟨q.1,q.2.1,fun k => q.2.2 (.inr (.inr (.inr k)))⟩))) (.inl ⟨h.gB,hl,h.gM⟩) _
theorem AudO.fence {w' : World} {M' : Blks} (h : AudO B M w g x A0 c0 A1 c1 A2 c2 A3 c3 F G) (hb : Below w.heap.size w w') (hM : ∀ b,M' b → w.heap.size ≤ b ∧ b < w'.heap.size) : AudO B M' w' g x A0 c0 A1 c1 A2 c2 A3 c3 F G:=by
 have hl:=h.bx.lt
 have hn:=h.tri.nb
 obtain ⟨K,U,V,h1,h2,h3,d1,d2,d3,b1,b2,d4,d5,d6⟩:=h.tri.ex
 refine ⟨h.bx.keep (hb.block _ hl),h.gB,Row.later h.r0 hb,Row.later h.r1 hb,h.dj,h.bF,h.bG,h.gF,h.gG,fun k => by have:=(hM g k).1; omega,h.l0,h.m0,h.l1,h.m1,h.hi,⟨⟨_,_,_,Row.later h1.tight hb,Row.later h2.tight hb,Row.later h3.tight hb,fun b x y => d1 b x.1 y.1,fun b x y => d2 b x.1 y.1,fun b x y => d3 b x.1 y.1,fun b x => b1 b x.1,fun b x => b2 b x.1,?_,?_,?_⟩,?_,h.tri.lu,h.tri.mu,h.tri.ls,h.tri.ms⟩⟩
 ·rintro b x (y | y | y | y)
  ·exact d4 b x.1 (.inl y)
  ·exact d4 b x.1 (.inr (.inl y))
  ·exact d4 b x.1 (.inr (.inr (.inl y)))
  ·have:=(hM b y).1; have:=x.2; omega
 ·rintro b x (y | y | y | y)
  ·exact d5 b x.1 (.inl y)
  ·exact d5 b x.1 (.inr (.inl y))
  ·exact d5 b x.1 (.inr (.inr (.inl y)))
  ·have:=(hM b y).1; have:=x.2; omega
 ·rintro b x (y | y | y | y)
  ·exact d6 b x.1 (.inl y)
  ·exact d6 b x.1 (.inr (.inl y))
  ·exact d6 b x.1 (.inr (.inr (.inl y)))
  ·have:=(hM b y).1; have:=x.2; omega
 ·rintro b (y | y | y | y)
  ·exact Nat.lt_of_lt_of_le (hn b (.inl y)) hb.size
  ·exact Nat.lt_of_lt_of_le (hn b (.inr (.inl y))) hb.size
  ·exact Nat.lt_of_lt_of_le (hn b (.inr (.inr (.inl y)))) hb.size
  ·exact (hM b y).2
theorem AudO.read (h : AudO B M w g x A0 c0 A1 c1 A2 c2 A3 c3 F G) : rd true w [.int .i64 x.house, .bool x.up, .slice A0 x.disk.files.length c0, .slice A1 x.pool.length c1, .slice A2 x.pins.length c2, .slice A3 x.pairs.length c3] x (nw B):=by
 obtain ⟨K,U,V,h1,h2,h3,d1,d2,d3,b1,b2,d4,d5,d6⟩:=h.tri.ex
 exact Auditor.mk' h.hi h.l0 h.m0 h.r0 h.bF h.l1 h.m1 h.r1 h.bG h.tri.lu h.tri.mu h2 b1 h.tri.ls h.tri.ms h3 b2 (fun _ => pwmk4 h.dj (fun b p q => d5 b q (.inr (.inl p))) (fun b p q => d6 b q (.inr (.inl p))) (fun b p q => d5 b q (.inr (.inr (.inl p)))) (fun b p q => d6 b q (.inr (.inr (.inl p)))) d3)
theorem Aud.fence {w' : World} {M' : Blks} (h : Aud B M w g x) (hb : Below w.heap.size w w') (hM : ∀ b,M' b → w.heap.size ≤ b ∧ b < w'.heap.size) : Aud B M' w' g x:=by
 obtain ⟨A0,c0,A1,c1,A2,c2,A3,c3,F,G,h⟩:=h
 exact ⟨A0,c0,A1,c1,A2,c2,A3,c3,F,G,h.fence hb hM⟩
theorem AudO.start {house : Int} {up : Bool} {fs : List File} {ps : List ByteArray} (hi : I64 house) (hB : B ≤ w.heap.size) (r0 : Row true w A0 c0 fs F) (r1 : Row true w A1 c1 ps G) (dj : disj F G) (bF : ∀ b,F b → B ≤ b ∧ b < w.heap.size) (bG : ∀ b,G b → B ≤ b ∧ b < w.heap.size) (l0 : fs.length ≤ c0) (m0 : c0 ≤ maxLen) (l1 : ps.length ≤ c1) (m1 : c1 ≤ maxLen) :
  AudO B none_ (w.alloc (.cells #[.int .i64 house, .bool up, .slice A0 fs.length c0, .slice A1 ps.length c1, .slice none 0 0, .slice none 0 0] 33)) w.heap.size ⟨house,up,⟨fs⟩,ps, [], []⟩ A0 c0 A1 c1 none 0 none 0 F G :=
 ⟨Bx.new _ _ _,hB,r0.allocC _,r1.allocC _,dj,fun b k => (bF b k).1,fun b k => (bG b k).1,fun k => by have:=(bF _ k).2; omega,fun k => by have:=(bG _ k).2; omega,fun k => k,l0,m0,l1,m1,hi,
  ⟨⟨none_,none_,none_,(row_nil _ _).weak,row_nil _ _,row_nil _ _,fun _ k => k.elim,fun _ k => k.elim,fun _ k => k.elim,fun _ k => k.elim,fun _ k => k.elim,fun _ k => k.elim,fun _ k => k.elim,fun _ k => k.elim⟩,by
   rintro b (y | y | y | y)
   ·rw [World.size_alloc]; omega
   ·have:=(bF b y).2; rw [World.size_alloc]; omega
   ·have:=(bG b y).2; rw [World.size_alloc]; omega
   ·exact y.elim,Nat.le_refl _,zz44,Nat.le_refl _,zz44⟩⟩
end
def recTo (t : ByteArray) (x : Auditor) : Auditor:={ x with pins:=(recAt t (x.pins,x.pairs)).1,pairs:=(recAt t (x.pins,x.pairs)).2 }
def recsTo (l : List ByteArray) (x : Auditor) : Auditor:=l.foldl (fun x t => recTo t x) x
theorem recsTo_cons (t : ByteArray) (l : List ByteArray) (x : Auditor) : recsTo (t :: l) x = recsTo l (recTo t x):=rfl
theorem recsTo_eq : ∀ (l : List ByteArray) (x : Auditor),recsTo l x = { x with pins:=(recsAt l (x.pins,x.pairs)).1,pairs:=(recsAt l (x.pins,x.pairs)).2 }
 | [],_ => rfl
 | t :: l,x => by rw [recsTo_cons,recsTo_eq l]; rfl
theorem auditorFrom_eq (house : Int) (d : Disk) (pool : List ByteArray) : auditorFrom house d pool = recsTo (logTexts d.files pinsName) ⟨house,true,d,pool, [], []⟩:=by rw [recsTo_eq]; rfl
theorem rec_len (t : ByteArray) (x : Auditor) : (recTo t x).pins.length ≤ x.pins.length + 1 ∧ (recTo t x).pairs.length ≤ x.pairs.length + 1:=by
 unfold recTo
 rcases recAt_cases t (x.pins,x.pairs) with e | ⟨s,_,e⟩ | ⟨p,_,e⟩ <;> rw [e] <;> simp
theorem rec_pin {t : ByteArray} {x : Auditor} {s : Seal} (h : 0 < t.size) (h1 : t[0].toNat = 1) (hs : rdSeal (t.extract 1 t.size) = some s) : recTo t x = { x with pins:=x.pins ++ [s] }:=by
 unfold recTo recAt
 simp only [h,h1,dif_pos,if_true,hs]
theorem rec_nopin {t : ByteArray} {x : Auditor} (h : 0 < t.size) (h1 : t[0].toNat = 1) (hs : rdSeal (t.extract 1 t.size) = none) : recTo t x = x:=by
 unfold recTo recAt
 simp only [h,h1,dif_pos,if_true,hs]
theorem rec_other {t : ByteArray} {x : Auditor} (h : 0 < t.size) (h1 : ¬ t[0].toNat = 1) (h2 : ¬ t[0].toNat = 2) : recTo t x = x:=by
 unfold recTo recAt
 simp only [h,h1,h2,dif_pos,if_false]
theorem rec_short {t : ByteArray} {x : Auditor} (h : 0 < t.size) (h2 : t[0].toNat = 2) (hs : rdShort t 1 = none) : recTo t x = x:=by
 unfold recTo recAt
 simp only [h,h2,dif_pos,if_true,hs,show ¬ (2 = 1) by decide,if_false]
theorem rec_pair {t u : ByteArray} {x : Auditor} {y : Nat} {s r : Seal} (h : 0 < t.size) (h2 : t[0].toNat = 2) (hs : rdShort t 1 = some (u,y)) (h3 : rdSeal u = some s) (h4 : rdSeal (t.extract y t.size) = some r) : recTo t x = { x with pairs:=x.pairs ++ [⟨s,r⟩] }:=by
 unfold recTo recAt
 simp only [h,h2,dif_pos,if_true,hs,h3,h4,show ¬ (2 = 1) by decide,if_false]
theorem rec_nopair {t u : ByteArray} {x : Auditor} {y : Nat} (h : 0 < t.size) (h2 : t[0].toNat = 2) (hs : rdShort t 1 = some (u,y)) (h3 : rdSeal u = none ∨ rdSeal (t.extract y t.size) = none) : recTo t x = x:=by
 unfold recTo recAt
 simp only [h,h2,dif_pos,if_true,hs,show ¬ (2 = 1) by decide,if_false]
 rcases h3 with h3 | h3
 ·simp only [h3]
 ·simp only [h3]
  cases rdSeal u <;> rfl
end Go.Proofs.YtlfnmbcnehaikaaGreatDoor
namespace Go.Proofs.YtlfnmbcnehaikaaGreatDoor
open Go.RowKit Lay Mk
theorem joinT_len : ∀ {l : List ByteArray},(∀ s ∈ l,s.size = 16) → (joinT l).length = 16 * l.length
 | [],_ => rfl
 | a :: l,h => by
  have h1:=joinT_len (l:=l) (fun s hs => h s (by simp [hs]))
  have h2 : a.data.toList.length = 16:=by rw [Array.length_toList]; exact h a zz17
  rw [joinT,List.length_append,h1,h2,List.length_cons]; omega
theorem sigTx_len {x : Sig} (h : sigForm x = true) : (sigTx x).size = 321:=by
 simp only [sigForm,Bool.and_eq_true] at h
 obtain ⟨⟨⟨-,f1⟩,f2⟩,f3⟩:=h
 obtain ⟨a1,a2⟩:=wide_both f1
 obtain ⟨b1,b2⟩:=wide_both f2
 obtain ⟨c1,c2⟩:=wide_both f3
 unfold sigTx
 rw [bs_size,List.length_cons,joinT_len (by
  intro s hs
  rcases List.mem_append.1 hs with hs | hs
  ·rcases List.mem_append.1 hs with hs | hs
   ·exact a1 s hs
   ·exact b1 s hs
  ·exact c1 s hs),List.length_append,List.length_append,a2,b2,c2]
theorem spec_SealText (w : World) (x : Seal) (cs : List Value) (S : Blks) (hx : rd false w cs x S) : Calls Tryz.prog 69 #[.agg cs.toArray] w fun e w' => e = .returned (sgV (headOk x.head && sigForm x.sig) (sealTx x)) ∧ Below w.heap.size w w':=by
 obtain ⟨A0,k0,S0,A1,k1,S1,A2,k2,S2,rfl,h0,h1,h2,h3,h4,l0,m0,r0, -,l1,m1,r1, -,l2,m2,r2, -⟩:=Seal.open hx
 clear hx
 simp only [Seal.cs]
 have HSG:=zd (fun Z (hb : Below w.heap.size w Z) => spec_SigText Z x.sig _ All (Sig.mk' (m:=false) (x:=x.sig) (S:=All) h4 l0 m0 (Row.later r0 hb) (fun _ _ => trivial) l1 m1 (Row.later r1 hb) (fun _ _ => trivial) l2 m2 (Row.later r2 hb) (fun _ _ => trivial) (fun hm => by cases hm)))
 simp only [Sig.cs] at HSG
 clear r0 r1 r2
 go_enter Tryz.func69,Tryz.ntmps69
 go_wp2_with (fail)
 obtain ⟨W,hW⟩ : ∃ W,w.alloc (.cells #[.int .i64 x.head.house, .int .i64 x.head.epoch, .string x.head.root, .string x.head.prev, .int .i64 x.sig.at_, .slice A0 x.sig.open_.length k0, .slice A1 x.sig.shut.length k1, .slice A2 x.sig.sides.length k2] 76) = W:=⟨_,rfl⟩
 have hWf : Below w.heap.size w W ∧ w.heap.size < W.heap.size ∧ Bx W w.heap.size #[.int .i64 x.head.house, .int .i64 x.head.epoch, .string x.head.root, .string x.head.prev, .int .i64 x.sig.at_, .slice A0 x.sig.open_.length k0, .slice A1 x.sig.shut.length k1, .slice A2 x.sig.sides.length k2] 76:=by
  rw [← hW]
  exact ⟨(Below.refl _ _).alloc (Nat.le_refl _) _,zz17,Bx.new _ _ _⟩
 rw [hW]
 clear hW
 obtain ⟨bW,sW,xW⟩:=hWf
 have HHT:=zd (spec_HeadText x.head W)
 simp only [Head.cs] at HHT
 refine HHT.out.mono ?_
 rintro e1 w1 ⟨rfl,hb1⟩
 have x1:=xW.keep (hb1.block _ sW)
 have HB1:=zd (bW.trans (hb1.mono bW.size))
 clear HHT xW hb1
 have z4:=x1.at_ (i:=4) rfl
 have z5:=x1.at_ (i:=5) rfl
 have z6:=x1.at_ (i:=6) rfl
 have z7:=x1.at_ (i:=7) rfl
 clear x1
 have HH : Hid (headText x.head = if headOk x.head then headTx x.head else ⟨#[]⟩):=zd rfl
 obtain ⟨T1,hT1⟩ : ∃ z,headText x.head = z:=⟨_,rfl⟩
 rw [hT1] at HH ⊢
 clear hT1
 have HG:=zd (HSG.out w1 HB1.out)
 cases hs : sigForm x.sig
 ·rw [hs] at HG
  simp only [sgV,Bool.false_eq_true,if_false] at HG
  have HE : Hid (sgV (headOk x.head && false) (sealTx x) = .tuple #[.string ⟨#[]⟩, .bool false]):=zd (by rw [Bool.and_false]; rfl)
  have HS2:=zd hs
  cases hk : headOk x.head
  ·rw [hk] at HE
   go_wp2_with (fail)
   refine HG.out.mono ?_
   rintro e2 w2 ⟨rfl,hb2⟩
   go_wp2_with (fail)
   refine bodyPost_ret (v:=.tuple #[.string ⟨#[]⟩, .bool false]) (by simp [results,Tryz.results69,go_sem, *]) rfl ?_
   exact ⟨by rw [HS2.out,hk]; rfl,HB1.out.trans (hb2.mono HB1.out.size)⟩
  ·rw [hk] at HE
   go_wp2_with (fail)
   refine HG.out.mono ?_
   rintro e2 w2 ⟨rfl,hb2⟩
   go_wp2_with (fail)
   refine bodyPost_ret (v:=.tuple #[.string ⟨#[]⟩, .bool false]) (by simp [results,Tryz.results69,go_sem, *]) rfl ?_
   exact ⟨by rw [HS2.out,hk]; rfl,HB1.out.trans (hb2.mono HB1.out.size)⟩
 rw [hs] at HG
 simp only [sgV,if_true] at HG
 have hzs:=sigTx_len hs
 have HS2:=zd hs
 have HTX : Hid (sealTx x = varT (headTx x.head).size ++ headTx x.head ++ sigTx x.sig):=zd rfl
 obtain ⟨T2,hT2⟩ : ∃ z,sigTx x.sig = z:=⟨_,rfl⟩
 rw [hT2] at HG hzs HTX
 clear hT2 hs
 cases hk : headOk x.head
 ·have HK:=zd hk
  go_wp2_with (fail)
  refine HG.out.mono ?_
  rintro e2 w2 ⟨rfl,hb2⟩
  go_wp2_with (fail)
  refine bodyPost_ret (v:=.tuple #[.string ⟨#[]⟩, .bool false]) (by simp [results,Tryz.results69,go_sem, *]) rfl ?_
  exact ⟨by rw [HS2.out,HK.out]; rfl,HB1.out.trans (hb2.mono HB1.out.size)⟩
 ·have HK:=zd hk
  have hz1:=headTx_le hk
  have HT1 : Hid (T1 = headTx x.head):=zd (by rw [HH.out,hk,if_pos rfl])
  rw [← HT1.out] at hz1 HTX
  have hv:=varT_le (n:=T1.size) zz4
  have HV:=zd (fun Z => spec_l01Var T1.size Z zz4)
  have q1 : ¬ 9223372036854775807 < (varT T1.size).size + T1.size:=zz4
  have q2 : ¬ 9223372036854775807 < (varT T1.size ++ T1).size + T2.size:=by rw [ByteArray.size_append]; omega
  have q2b : ¬ 9223372036854775807 < (varT T1.size).size + T1.size + T2.size:=zz4
  clear hk
  have hk:=HK.out
  go_wp2_with (fail)
  refine HG.out.mono ?_
  rintro e2 w2 ⟨rfl,hb2⟩
  go_wp2_with (go_at_call 109; refine (HV.out _).mono ?_; rintro e3 w3 ⟨rfl,hb3⟩)
  refine bodyPost_ret (v:=.tuple #[.string (varT T1.size ++ T1 ++ T2), .bool true]) (by simp [results,Tryz.results69,go_sem, *]) rfl ?_
  exact ⟨by rw [HS2.out,HK.out,HTX.out]; rfl,HB1.out.trans ((hb2.trans (hb3.mono hb2.size)).mono HB1.out.size)⟩
end Go.Proofs.YtlfnmbcnehaikaaGreatDoor
