/- A part of the proof. -/
import Derived.Deep.RegionHeld3
import Derived.Test.YtcbbjfafmmcfiaaGreatDoorHPqL4xBr
import Derived.Test.YtcbbjfafmmcfiaaGreatDoorHPqTy
set_option linter.unusedVariables false
set_option linter.unusedSimpArgs false
set_option maxRecDepth 40000
set_option maxHeartbeats 4000000
namespace Go.Proofs.YtcbbjfafmmcfiaaGreatDoor
open Go.RowKit Lay Mk
theorem held_LeafS (xs:List Leaf) (w:World) (A:Option Addr) (cap:Nat) (S:Blks) (a:Int) (k0:Nat) (ha:a=(k0:Int)) (hk:k0+cnL xs≤4611686018427387904) (hx:Row false w A cap (meL xs k0) S) (hl:xs.length≤maxLen) :
  Calls Tryz.prog 86 #[.slice A xs.length cap,.int .i64 a] w fun e w' => e = .returned (.int .i64 ((k0+cnL xs:Nat):Int))∧Below w.heap.size w w':=by
 subst ha
 unfold maxLen at hl
 go_enter Tryz.func86,Tryz.ntmps86
 go_wp2
 go_loopw [1,5] (fun l i wr => ∃ k:Nat,k≤xs.length∧i = .int .i64 k∧l = .int .i64 ((k0+cnL (xs.take k):Nat):Int)∧Below w.heap.size w wr) (fun _ i _ => xs.length - (intOf i).toNat)
 case atStart => exact ⟨0,Nat.zero_le _,rfl,by simp [cnL],Below.refl _ _⟩
 case round =>
  obtain ⟨k,hkk,rfl,rfl,hb⟩:=hrel
  have hz:=hb.size
  by_cases hlt:k<xs.length
  ·have hlt2:k<(meL xs k0).length:=by simpa using hlt
   have hne:meL xs k0≠[]:=by intro h; rw [h] at hlt2; simp at hlt2
   obtain ⟨b1,o1,rfl,_,T1,_,_,he1⟩:=hx hne
   obtain ⟨c1,ha1,hr1⟩:=he1 k hlt2
   have hl1:=ha1.lt zz37
   rw [meL_get xs k0 k hlt] at hr1
   have hcs:=cnL_take_succ xs k hlt
   have hcl:=cnL_take_le xs (k+1)
   generalize hK:k0+cnL (xs.take k)=K at hr1
   generalize xs[k]=x at hr1 hcs
   rw [show Mk.cn x=Leaf.cn x from rfl] at hcs
   have hs2:Hid (k0+cnL (xs.take (k+1))=K+Leaf.cn x):=zd zz18
   have hKb:K+Leaf.cn x≤4611686018427387904:=zz18
   unfold Leaf.cn at hKb
   clear hcs hK hcl he1 hx
   have hc0:=fun o => hb.cell (p:=⟨b1,o,none⟩) hl1
   have hr1:rd false w c1 (Leaf.me x K) (T1 k):=hr1
   obtain ⟨rfl,ef0,ef1⟩:=Leaf.open hr1
   have q0:w.cell? ⟨b1,o1+k*2,none⟩=some (.string (mtext (K))):=by have:=ha1 0 _ rfl; simpa [show Lay.n Leaf=2 from rfl,Leaf.me] using this
   have q1:w.cell? ⟨b1,o1+k*2+1,none⟩=some (.string (mtext (K+1))):=by have:=ha1 1 _ rfl; simpa [show Lay.n Leaf=2 from rfl,Leaf.me] using this
   clear ha1
   go_wp2_with (fail)
   go_region_held3 (fun w' => w'.cell? ⟨b1,o1+k*2,none⟩=some (.string (mtext (K)))∧Below w.heap.size w w')
    (first | (refine And.intro ?_ ?_ <;> first | exact hb.drew | exact (hb.drew.cell (p:=⟨b1,o1+k*2,none⟩) hl1).trans q0 | exact (hb1.cell (p:=⟨b1,o1+k*2,none⟩) zz57).trans ((hb.drew.cell (p:=⟨b1,o1+k*2,none⟩) hl1).trans q0) | exact hb.drew.trans (hb1.mono zz57) | (go_keep; done)))
    ((go_at_call 97; refine (mark_Text _ (K) zz34 zz18 _).mono ?_; rintro e1 w1 ⟨rfl,hb1⟩))
   have hB1:Below w.heap.size w w1:=hb.drew.trans (hb1.mono zz57)
   have hz1:=hB1.size
   have hc1:=fun o => hB1.cell (p:=⟨b1,o,none⟩) hl1
   go_wp2_with (fail)
   go_region_held3 (fun w' => w'.cell? ⟨b1,o1+k*2+1,none⟩=some (.string (mtext (K+1)))∧Below w.heap.size w w')
    (first | (refine And.intro ?_ ?_ <;> first | exact hB1.drew | exact (hB1.drew.cell (p:=⟨b1,o1+k*2+1,none⟩) hl1).trans q1 | exact (hb2.cell (p:=⟨b1,o1+k*2+1,none⟩) zz57).trans ((hB1.drew.cell (p:=⟨b1,o1+k*2+1,none⟩) hl1).trans q1) | exact hB1.drew.trans (hb2.mono zz57) | (go_keep; done)))
    ((go_at_call 97; refine (mark_Text _ (K+1) zz34 zz18 _).mono ?_; rintro e2 w2 ⟨rfl,hb2⟩))
   have hB2:Below w.heap.size w w2:=hB1.drew.trans (hb2.mono zz57)
   have hz2:=hB2.size
   have hc2:=fun o => hB2.cell (p:=⟨b1,o,none⟩) hl1
   go_wp2
   go_roundw
   case rel => exact ⟨k+1,zz18,by go_num,by rw [hs2.out]; first | go_num | (congr 1; unfold Leaf.cn; omega),by have zh:=hB2; exact zz1⟩
   case measure => simp [intOf]; omega
  ·have hke:k=xs.length:=by omega
   go_wp2
   go_ret; refine ⟨?_,hb⟩; subst hke; rw [List.take_of_length_le (Nat.le_refl _)]; rfl
theorem held_StringS (xs:List ByteArray) (w:World) (A:Option Addr) (cap:Nat) (S:Blks) (a:Int) (k0:Nat) (ha:a=(k0:Int)) (hk:k0+cnL xs≤4611686018427387904) (hx:Row false w A cap (meL xs k0) S) (hl:xs.length≤maxLen) :
  Calls Tryz.prog 30 #[.slice A xs.length cap,.int .i64 a] w fun e w' => e = .returned (.int .i64 ((k0+cnL xs:Nat):Int))∧Below w.heap.size w w':=by
 subst ha
 unfold maxLen at hl
 go_enter Tryz.func30,Tryz.ntmps30
 go_wp2
 go_loopw [1,5] (fun l i wr => ∃ k:Nat,k≤xs.length∧i = .int .i64 k∧l = .int .i64 ((k0+cnL (xs.take k):Nat):Int)∧Below w.heap.size w wr) (fun _ i _ => xs.length - (intOf i).toNat)
 case atStart => exact ⟨0,Nat.zero_le _,rfl,by simp [cnL],Below.refl _ _⟩
 case round =>
  obtain ⟨k,hkk,rfl,rfl,hb⟩:=hrel
  have hz:=hb.size
  by_cases hlt:k<xs.length
  ·have hlt2:k<(meL xs k0).length:=by simpa using hlt
   have hne:meL xs k0≠[]:=by intro h; rw [h] at hlt2; simp at hlt2
   obtain ⟨b1,o1,rfl,_,T1,_,_,he1⟩:=hx hne
   obtain ⟨c1,ha1,hr1⟩:=he1 k hlt2
   have hl1:=ha1.lt zz37
   rw [meL_get xs k0 k hlt] at hr1
   have hcs:=cnL_take_succ xs k hlt
   have hcl:=cnL_take_le xs (k+1)
   generalize hK:k0+cnL (xs.take k)=K at hr1
   generalize xs[k]=x at hr1 hcs
   rw [show Mk.cn x=1 from rfl] at hcs
   have hs2:Hid (k0+cnL (xs.take (k+1))=K+1):=zd zz18
   have hKb:K+1≤4611686018427387904:=zz18
   clear hcs hK hcl he1 hx
   have hc0:=fun o => hb.cell (p:=⟨b1,o,none⟩) hl1
   have hr1:rd false w c1 (mtext K) (T1 k):=hr1
   obtain ⟨rfl,_⟩:=open_str hr1
   clear hr1
   have q0:w.cell? ⟨b1,o1+k,none⟩=some (.string (mtext (K))):=by have:=ha1 0 _ rfl; simpa [show Lay.n ByteArray=1 from rfl] using this
   clear ha1
   go_wp2_with (fail)
   go_region_held3 (fun w' => w'.cell? ⟨b1,o1+k,none⟩=some (.string (mtext (K)))∧Below w.heap.size w w')
    (first | (refine And.intro ?_ ?_ <;> first | exact hb.drew | exact (hb.drew.cell (p:=⟨b1,o1+k,none⟩) hl1).trans q0 | exact (hb1.cell (p:=⟨b1,o1+k,none⟩) zz57).trans ((hb.drew.cell (p:=⟨b1,o1+k,none⟩) hl1).trans q0) | exact hb.drew.trans (hb1.mono zz57) | (go_keep; done)))
    ((go_at_call 97; refine (mark_Text _ (K) zz34 zz18 _).mono ?_; rintro e1 w1 ⟨rfl,hb1⟩))
   have hB1:Below w.heap.size w w1:=hb.drew.trans (hb1.mono zz57)
   have hz1:=hB1.size
   have hc1:=fun o => hB1.cell (p:=⟨b1,o,none⟩) hl1
   go_wp2
   go_roundw
   case rel => exact ⟨k+1,zz18,by go_num,by rw [hs2.out]; first | go_num | (congr 1; omega),by have zh:=hB1; exact zz1⟩
   case measure => simp [intOf]; omega
  ·have hke:k=xs.length:=by omega
   go_wp2
   go_ret; refine ⟨?_,hb⟩; subst hke; rw [List.take_of_length_le (Nat.le_refl _)]; rfl
theorem held_StampS (xs:List Stamp) (w:World) (A:Option Addr) (cap:Nat) (S:Blks) (a:Int) (k0:Nat) (ha:a=(k0:Int)) (hk:k0+cnL xs≤4611686018427387904) (hx:Row false w A cap (meL xs k0) S) (hl:xs.length≤maxLen) :
  Calls Tryz.prog 152 #[.slice A xs.length cap,.int .i64 a] w fun e w' => e = .returned (.int .i64 ((k0+cnL xs:Nat):Int))∧Below w.heap.size w w':=by
 subst ha
 unfold maxLen at hl
 go_enter Tryz.func152,Tryz.ntmps152
 go_wp2
 go_loopw [1,5] (fun l i wr => ∃ k:Nat,k≤xs.length∧i = .int .i64 k∧l = .int .i64 ((k0+cnL (xs.take k):Nat):Int)∧Below w.heap.size w wr) (fun _ i _ => xs.length - (intOf i).toNat)
 case atStart => exact ⟨0,Nat.zero_le _,rfl,by simp [cnL],Below.refl _ _⟩
 case round =>
  obtain ⟨k,hkk,rfl,rfl,hb⟩:=hrel
  have hz:=hb.size
  by_cases hlt:k<xs.length
  ·have hlt2:k<(meL xs k0).length:=by simpa using hlt
   have hne:meL xs k0≠[]:=by intro h; rw [h] at hlt2; simp at hlt2
   obtain ⟨b1,o1,rfl,_,T1,_,_,he1⟩:=hx hne
   obtain ⟨c1,ha1,hr1⟩:=he1 k hlt2
   have hl1:=ha1.lt zz37
   rw [meL_get xs k0 k hlt] at hr1
   have hcs:=cnL_take_succ xs k hlt
   have hcl:=cnL_take_le xs (k+1)
   generalize hK:k0+cnL (xs.take k)=K at hr1
   generalize xs[k]=x at hr1 hcs
   rw [show Mk.cn x=Stamp.cn x from rfl] at hcs
   have hs2:Hid (k0+cnL (xs.take (k+1))=K+Stamp.cn x):=zd zz18
   have hKb:K+Stamp.cn x≤4611686018427387904:=zz18
   unfold Stamp.cn at hKb
   clear hcs hK hcl he1 hx
   have hc0:=fun o => hb.cell (p:=⟨b1,o,none⟩) hl1
   have hr1:rd false w c1 (Stamp.me x K) (T1 k):=hr1
   obtain ⟨eA0,ek0,eS0,eA1,ek1,eS1,eA2,ek2,eS2,rfl,ef0,ef1,ea0,eb0,er0,es0,ea1,eb1,er1,es1,ea2,eb2,er2,es2,epw⟩:=Stamp.open hr1
   have q0:w.cell? ⟨b1,o1+k*5,none⟩=some (.int .i64 (((K:Nat)):Int)):=by have:=ha1 0 _ rfl; simpa [show Lay.n Stamp=5 from rfl,Stamp.me,Int.natCast_add] using this
   have q1:w.cell? ⟨b1,o1+k*5+1,none⟩=some (.int .i64 (((K+1:Nat)):Int)):=by have:=ha1 1 _ rfl; simpa [show Lay.n Stamp=5 from rfl,Stamp.me,Int.natCast_add] using this
   have q2:w.cell? ⟨b1,o1+k*5+2,none⟩=some (.slice eA0 x.sig.open_.length ek0):=by have:=ha1 2 _ rfl; simpa [show Lay.n Stamp=5 from rfl,Stamp.me] using this
   have q3:w.cell? ⟨b1,o1+k*5+3,none⟩=some (.slice eA1 x.sig.shut.length ek1):=by have:=ha1 3 _ rfl; simpa [show Lay.n Stamp=5 from rfl,Stamp.me] using this
   have q4:w.cell? ⟨b1,o1+k*5+4,none⟩=some (.slice eA2 x.sig.sides.length ek2):=by have:=ha1 4 _ rfl; simpa [show Lay.n Stamp=5 from rfl,Stamp.me] using this
   have er0_:Row false w eA0 ek0 (meL x.sig.open_ (K+1+1)) eS0:=er0
   have ea0_:x.sig.open_.length≤ek0:=by have:=ea0; simpa [Stamp.me] using this
   have er1_:Row false w eA1 ek1 (meL x.sig.shut (K+1+1+cnL x.sig.open_)) eS1:=er1
   have ea1_:x.sig.shut.length≤ek1:=by have:=ea1; simpa [Stamp.me] using this
   have er2_:Row false w eA2 ek2 (meL x.sig.sides (K+1+1+cnL x.sig.open_+cnL x.sig.shut)) eS2:=er2
   have ea2_:x.sig.sides.length≤ek2:=by have:=ea2; simpa [Stamp.me] using this
   generalize hK1:K+1+1+cnL x.sig.open_=K1 at *
   have HK1:=zd hK1; clear hK1
   generalize hK2:K1+cnL x.sig.shut=K2 at *
   have HK2:=zd hK2; clear hK2
   generalize hK3:K2+cnL x.sig.sides=K3 at *
   have HK3:=zd hK3; clear hK3
   have hKb1:K1+0≤4611686018427387904:=zz47
   have hKb2:K2+0≤4611686018427387904:=zz47
   have hKb3:K3+0≤4611686018427387904:=zz47
   clear ha1 er0 er1 er2
   go_wp2_with (fail)
   refine (held_StringS x.sig.open_ _ _ _ _ _ (K+1+1) zz34 (by have:=HK1.out; omega) (er0_.later (by have zh:=hb; exact zz1)) (Nat.le_trans ea0_ eb0)).mono ?_
   rw [HK1.out]
   rintro e1 w1 ⟨rfl,hb1⟩
   have hB1:Below w.heap.size w w1:=by have zh:=hb; refine Below.trans ?_ (hb1.mono ?_) <;> exact zz12
   have hz1:=hB1.size
   have hc1:=fun o => hB1.cell (p:=⟨b1,o,none⟩) hl1
   go_wp2_with (fail)
   refine (held_StringS x.sig.shut _ _ _ _ _ (K1) zz34 (by have:=HK2.out; omega) (er1_.later (by have zh:=hB1; exact zz1)) (Nat.le_trans ea1_ eb1)).mono ?_
   rw [HK2.out]
   rintro e2 w2 ⟨rfl,hb2⟩
   have hB2:Below w.heap.size w w2:=by have zh:=hB1; refine Below.trans ?_ (hb2.mono ?_) <;> exact zz12
   have hz2:=hB2.size
   have hc2:=fun o => hB2.cell (p:=⟨b1,o,none⟩) hl1
   go_wp2_with (fail)
   refine (held_StringS x.sig.sides _ _ _ _ _ (K2) zz34 (by have:=HK3.out; omega) (er2_.later (by have zh:=hB2; exact zz1)) (Nat.le_trans ea2_ eb2)).mono ?_
   rw [HK3.out]
   rintro e3 w3 ⟨rfl,hb3⟩
   have hB3:Below w.heap.size w w3:=by have zh:=hB2; refine Below.trans ?_ (hb3.mono ?_) <;> exact zz12
   have hz3:=hB3.size
   have hc3:=fun o => hB3.cell (p:=⟨b1,o,none⟩) hl1
   go_wp2
   go_roundw
   case rel => exact ⟨k+1,zz18,by go_num,by rw [hs2.out]; first | go_num | (congr 1; unfold Stamp.cn; have:=HK1.out; have:=HK2.out; have:=HK3.out; omega),by have zh:=hB3; exact zz1⟩
   case measure => simp [intOf]; omega
  ·have hke:k=xs.length:=by omega
   go_wp2
   go_ret; refine ⟨?_,hb⟩; subst hke; rw [List.take_of_length_le (Nat.le_refl _)]; rfl
theorem held_WholeS (xs:List Whole) (w:World) (A:Option Addr) (cap:Nat) (S:Blks) (a:Int) (k0:Nat) (ha:a=(k0:Int)) (hk:k0+cnL xs≤4611686018427387904) (hx:Row false w A cap (meL xs k0) S) (hl:xs.length≤maxLen) :
  Calls Tryz.prog 154 #[.slice A xs.length cap,.int .i64 a] w fun e w' => e = .returned (.int .i64 ((k0+cnL xs:Nat):Int))∧Below w.heap.size w w':=by
 subst ha
 unfold maxLen at hl
 go_enter Tryz.func154,Tryz.ntmps154
 go_wp2
 go_loopw [1,5] (fun l i wr => ∃ k:Nat,k≤xs.length∧i = .int .i64 k∧l = .int .i64 ((k0+cnL (xs.take k):Nat):Int)∧Below w.heap.size w wr) (fun _ i _ => xs.length - (intOf i).toNat)
 case atStart => exact ⟨0,Nat.zero_le _,rfl,by simp [cnL],Below.refl _ _⟩
 case round =>
  obtain ⟨k,hkk,rfl,rfl,hb⟩:=hrel
  have hz:=hb.size
  by_cases hlt:k<xs.length
  ·have hlt2:k<(meL xs k0).length:=by simpa using hlt
   have hne:meL xs k0≠[]:=by intro h; rw [h] at hlt2; simp at hlt2
   obtain ⟨b1,o1,rfl,_,T1,_,_,he1⟩:=hx hne
   obtain ⟨c1,ha1,hr1⟩:=he1 k hlt2
   have hl1:=ha1.lt zz37
   rw [meL_get xs k0 k hlt] at hr1
   have hcs:=cnL_take_succ xs k hlt
   have hcl:=cnL_take_le xs (k+1)
   generalize hK:k0+cnL (xs.take k)=K at hr1
   generalize xs[k]=x at hr1 hcs
   rw [show Mk.cn x=Whole.cn x from rfl] at hcs
   have hs2:Hid (k0+cnL (xs.take (k+1))=K+Whole.cn x):=zd zz18
   have hKb:K+Whole.cn x≤4611686018427387904:=zz18
   unfold Whole.cn at hKb
   clear hcs hK hcl he1 hx
   have hc0:=fun o => hb.cell (p:=⟨b1,o,none⟩) hl1
   have hr1:rd false w c1 (Whole.me x K) (T1 k):=hr1
   obtain ⟨eA0,ek0,eS0,eA1,ek1,eS1,eA2,ek2,eS2,eA3,ek3,eS3,eA4,ek4,eS4,eA5,ek5,eS5,eA6,ek6,eS6,rfl,ef3,ef4,ef5,ef6,ef7,ea0,eb0,er0,es0,ea1,eb1,er1,es1,ea2,eb2,er2,es2,ea3,eb3,er3,es3,ea4,eb4,er4,es4,ea5,eb5,er5,es5,ea6,eb6,er6,es6,epw⟩:=Whole.open hr1
   have q0:w.cell? ⟨b1,o1+k*12,none⟩=some (.slice eA0 x.proof.bucket.length ek0):=by have:=ha1 0 _ rfl; simpa [show Lay.n Whole=12 from rfl,Whole.me] using this
   have q1:w.cell? ⟨b1,o1+k*12+1,none⟩=some (.slice eA1 x.proof.sides.length ek1):=by have:=ha1 1 _ rfl; simpa [show Lay.n Whole=12 from rfl,Whole.me] using this
   have q2:w.cell? ⟨b1,o1+k*12+2,none⟩=some (.slice eA2 x.tops.length ek2):=by have:=ha1 2 _ rfl; simpa [show Lay.n Whole=12 from rfl,Whole.me] using this
   have q3:w.cell? ⟨b1,o1+k*12+3,none⟩=some (.int .i64 (((K+cnL x.proof.bucket+cnL x.proof.sides+cnL x.tops:Nat)):Int)):=by have:=ha1 3 _ rfl; simpa [show Lay.n Whole=12 from rfl,Whole.me,Int.natCast_add] using this
   have q4:w.cell? ⟨b1,o1+k*12+4,none⟩=some (.int .i64 (((K+cnL x.proof.bucket+cnL x.proof.sides+cnL x.tops+1:Nat)):Int)):=by have:=ha1 4 _ rfl; simpa [show Lay.n Whole=12 from rfl,Whole.me,Int.natCast_add] using this
   have q5:w.cell? ⟨b1,o1+k*12+5,none⟩=some (.string (mtext (K+cnL x.proof.bucket+cnL x.proof.sides+cnL x.tops+1+1))):=by have:=ha1 5 _ rfl; simpa [show Lay.n Whole=12 from rfl,Whole.me] using this
   have q6:w.cell? ⟨b1,o1+k*12+6,none⟩=some (.string (mtext (K+cnL x.proof.bucket+cnL x.proof.sides+cnL x.tops+1+1+1))):=by have:=ha1 6 _ rfl; simpa [show Lay.n Whole=12 from rfl,Whole.me] using this
   have q7:w.cell? ⟨b1,o1+k*12+7,none⟩=some (.int .i64 (((K+cnL x.proof.bucket+cnL x.proof.sides+cnL x.tops+1+1+1+1:Nat)):Int)):=by have:=ha1 7 _ rfl; simpa [show Lay.n Whole=12 from rfl,Whole.me,Int.natCast_add] using this
   have q8:w.cell? ⟨b1,o1+k*12+8,none⟩=some (.slice eA3 x.seal_.sig.open_.length ek3):=by have:=ha1 8 _ rfl; simpa [show Lay.n Whole=12 from rfl,Whole.me] using this
   have q9:w.cell? ⟨b1,o1+k*12+9,none⟩=some (.slice eA4 x.seal_.sig.shut.length ek4):=by have:=ha1 9 _ rfl; simpa [show Lay.n Whole=12 from rfl,Whole.me] using this
   have q10:w.cell? ⟨b1,o1+k*12+10,none⟩=some (.slice eA5 x.seal_.sig.sides.length ek5):=by have:=ha1 10 _ rfl; simpa [show Lay.n Whole=12 from rfl,Whole.me] using this
   have q11:w.cell? ⟨b1,o1+k*12+11,none⟩=some (.slice eA6 x.stamps.length ek6):=by have:=ha1 11 _ rfl; simpa [show Lay.n Whole=12 from rfl,Whole.me] using this
   have er0_:Row false w eA0 ek0 (meL x.proof.bucket (K)) eS0:=er0
   have ea0_:x.proof.bucket.length≤ek0:=by have:=ea0; simpa [Whole.me] using this
   have er1_:Row false w eA1 ek1 (meL x.proof.sides (K+cnL x.proof.bucket)) eS1:=er1
   have ea1_:x.proof.sides.length≤ek1:=by have:=ea1; simpa [Whole.me] using this
   have er2_:Row false w eA2 ek2 (meL x.tops (K+cnL x.proof.bucket+cnL x.proof.sides)) eS2:=er2
   have ea2_:x.tops.length≤ek2:=by have:=ea2; simpa [Whole.me] using this
   have er3_:Row false w eA3 ek3 (meL x.seal_.sig.open_ (K+cnL x.proof.bucket+cnL x.proof.sides+cnL x.tops+1+1+1+1+1)) eS3:=er3
   have ea3_:x.seal_.sig.open_.length≤ek3:=by have:=ea3; simpa [Whole.me] using this
   have er4_:Row false w eA4 ek4 (meL x.seal_.sig.shut (K+cnL x.proof.bucket+cnL x.proof.sides+cnL x.tops+1+1+1+1+1+cnL x.seal_.sig.open_)) eS4:=er4
   have ea4_:x.seal_.sig.shut.length≤ek4:=by have:=ea4; simpa [Whole.me] using this
   have er5_:Row false w eA5 ek5 (meL x.seal_.sig.sides (K+cnL x.proof.bucket+cnL x.proof.sides+cnL x.tops+1+1+1+1+1+cnL x.seal_.sig.open_+cnL x.seal_.sig.shut)) eS5:=er5
   have ea5_:x.seal_.sig.sides.length≤ek5:=by have:=ea5; simpa [Whole.me] using this
   have er6_:Row false w eA6 ek6 (meL x.stamps (K+cnL x.proof.bucket+cnL x.proof.sides+cnL x.tops+1+1+1+1+1+cnL x.seal_.sig.open_+cnL x.seal_.sig.shut+cnL x.seal_.sig.sides)) eS6:=er6
   have ea6_:x.stamps.length≤ek6:=by have:=ea6; simpa [Whole.me] using this
   generalize hK1:K+cnL x.proof.bucket=K1 at *
   have HK1:=zd hK1; clear hK1
   generalize hK2:K1+cnL x.proof.sides=K2 at *
   have HK2:=zd hK2; clear hK2
   generalize hK3:K2+cnL x.tops=K3 at *
   have HK3:=zd hK3; clear hK3
   generalize hK4:K3+1+1+1+1+1+cnL x.seal_.sig.open_=K4 at *
   have HK4:=zd hK4; clear hK4
   generalize hK5:K4+cnL x.seal_.sig.shut=K5 at *
   have HK5:=zd hK5; clear hK5
   generalize hK6:K5+cnL x.seal_.sig.sides=K6 at *
   have HK6:=zd hK6; clear hK6
   generalize hK7:K6+cnL x.stamps=K7 at *
   have HK7:=zd hK7; clear hK7
   have hKb1:K1+0≤4611686018427387904:=zz33
   have hKb2:K2+0≤4611686018427387904:=zz33
   have hKb3:K3+5≤4611686018427387904:=zz33
   have hKb4:K4+0≤4611686018427387904:=zz33
   have hKb5:K5+0≤4611686018427387904:=zz33
   have hKb6:K6+0≤4611686018427387904:=zz33
   have hKb7:K7+0≤4611686018427387904:=zz33
   clear ha1 er0 er1 er2 er3 er4 er5 er6
   go_wp2_with (fail)
   refine (held_LeafS x.proof.bucket _ _ _ _ _ (K) zz34 (by have:=HK1.out; omega) (er0_.later (by have zh:=hb; exact zz1)) (Nat.le_trans ea0_ eb0)).mono ?_
   rw [HK1.out]
   rintro e1 w1 ⟨rfl,hb1⟩
   have hB1:Below w.heap.size w w1:=by have zh:=hb; refine Below.trans ?_ (hb1.mono ?_) <;> exact zz12
   have hz1:=hB1.size
   have hc1:=fun o => hB1.cell (p:=⟨b1,o,none⟩) hl1
   go_wp2_with (fail)
   refine (held_StringS x.proof.sides _ _ _ _ _ (K1) zz34 (by have:=HK2.out; omega) (er1_.later (by have zh:=hB1; exact zz1)) (Nat.le_trans ea1_ eb1)).mono ?_
   rw [HK2.out]
   rintro e2 w2 ⟨rfl,hb2⟩
   have hB2:Below w.heap.size w w2:=by have zh:=hB1; refine Below.trans ?_ (hb2.mono ?_) <;> exact zz12
   have hz2:=hB2.size
   have hc2:=fun o => hB2.cell (p:=⟨b1,o,none⟩) hl1
   go_wp2_with (fail)
   refine (held_StringS x.tops _ _ _ _ _ (K2) zz34 (by have:=HK3.out; omega) (er2_.later (by have zh:=hB2; exact zz1)) (Nat.le_trans ea2_ eb2)).mono ?_
   rw [HK3.out]
   rintro e3 w3 ⟨rfl,hb3⟩
   have hB3:Below w.heap.size w w3:=by have zh:=hB2; refine Below.trans ?_ (hb3.mono ?_) <;> exact zz12
   have hz3:=hB3.size
   have hc3:=fun o => hB3.cell (p:=⟨b1,o,none⟩) hl1
   go_wp2_with (fail)
   go_region_held3 (fun w' => w'.cell? ⟨b1,o1+k*12+5,none⟩=some (.string (mtext (K3+1+1)))∧Below w.heap.size w w')
    (first | (refine And.intro ?_ ?_ <;> first | exact hB3.drew | exact (hB3.drew.cell (p:=⟨b1,o1+k*12+5,none⟩) hl1).trans q5 | exact (hb4.cell (p:=⟨b1,o1+k*12+5,none⟩) zz57).trans ((hB3.drew.cell (p:=⟨b1,o1+k*12+5,none⟩) hl1).trans q5) | exact hB3.drew.trans (hb4.mono zz57) | (go_keep; done)))
    ((go_at_call 97; refine (mark_Text _ (K3+1+1) zz34 zz18 _).mono ?_; rintro e4 w4 ⟨rfl,hb4⟩))
   have hB4:Below w.heap.size w w4:=hB3.drew.trans (hb4.mono zz57)
   have hz4:=hB4.size
   have hc4:=fun o => hB4.cell (p:=⟨b1,o,none⟩) hl1
   go_wp2_with (fail)
   go_region_held3 (fun w' => w'.cell? ⟨b1,o1+k*12+6,none⟩=some (.string (mtext (K3+1+1+1)))∧Below w.heap.size w w')
    (first | (refine And.intro ?_ ?_ <;> first | exact hB4.drew | exact (hB4.drew.cell (p:=⟨b1,o1+k*12+6,none⟩) hl1).trans q6 | exact (hb5.cell (p:=⟨b1,o1+k*12+6,none⟩) zz57).trans ((hB4.drew.cell (p:=⟨b1,o1+k*12+6,none⟩) hl1).trans q6) | exact hB4.drew.trans (hb5.mono zz57) | (go_keep; done)))
    ((go_at_call 97; refine (mark_Text _ (K3+1+1+1) zz34 zz18 _).mono ?_; rintro e5 w5 ⟨rfl,hb5⟩))
   have hB5:Below w.heap.size w w5:=hB4.drew.trans (hb5.mono zz57)
   have hz5:=hB5.size
   have hc5:=fun o => hB5.cell (p:=⟨b1,o,none⟩) hl1
   go_wp2_with (fail)
   refine (held_StringS x.seal_.sig.open_ _ _ _ _ _ (K3+1+1+1+1+1) zz34 (by have:=HK4.out; omega) (er3_.later (by have zh:=hB5; exact zz1)) (Nat.le_trans ea3_ eb3)).mono ?_
   rw [HK4.out]
   rintro e6 w6 ⟨rfl,hb6⟩
   have hB6:Below w.heap.size w w6:=by have zh:=hB5; refine Below.trans ?_ (hb6.mono ?_) <;> exact zz12
   have hz6:=hB6.size
   have hc6:=fun o => hB6.cell (p:=⟨b1,o,none⟩) hl1
   go_wp2_with (fail)
   refine (held_StringS x.seal_.sig.shut _ _ _ _ _ (K4) zz34 (by have:=HK5.out; omega) (er4_.later (by have zh:=hB6; exact zz1)) (Nat.le_trans ea4_ eb4)).mono ?_
   rw [HK5.out]
   rintro e7 w7 ⟨rfl,hb7⟩
   have hB7:Below w.heap.size w w7:=by have zh:=hB6; refine Below.trans ?_ (hb7.mono ?_) <;> exact zz12
   have hz7:=hB7.size
   have hc7:=fun o => hB7.cell (p:=⟨b1,o,none⟩) hl1
   go_wp2_with (fail)
   refine (held_StringS x.seal_.sig.sides _ _ _ _ _ (K5) zz34 (by have:=HK6.out; omega) (er5_.later (by have zh:=hB7; exact zz1)) (Nat.le_trans ea5_ eb5)).mono ?_
   rw [HK6.out]
   rintro e8 w8 ⟨rfl,hb8⟩
   have hB8:Below w.heap.size w w8:=by have zh:=hB7; refine Below.trans ?_ (hb8.mono ?_) <;> exact zz12
   have hz8:=hB8.size
   have hc8:=fun o => hB8.cell (p:=⟨b1,o,none⟩) hl1
   go_wp2_with (fail)
   refine (held_StampS x.stamps _ _ _ _ _ (K6) zz34 (by have:=HK7.out; omega) (er6_.later (by have zh:=hB8; exact zz1)) (Nat.le_trans ea6_ eb6)).mono ?_
   rw [HK7.out]
   rintro e9 w9 ⟨rfl,hb9⟩
   have hB9:Below w.heap.size w w9:=by have zh:=hB8; refine Below.trans ?_ (hb9.mono ?_) <;> exact zz12
   have hz9:=hB9.size
   have hc9:=fun o => hB9.cell (p:=⟨b1,o,none⟩) hl1
   go_wp2
   go_roundw
   case rel => exact ⟨k+1,zz18,by go_num,by rw [hs2.out]; first | go_num | (congr 1; unfold Whole.cn; have:=HK1.out; have:=HK2.out; have:=HK3.out; have:=HK4.out; have:=HK5.out; have:=HK6.out; have:=HK7.out; omega),by have zh:=hB9; exact zz1⟩
   case measure => simp [intOf]; omega
  ·have hke:k=xs.length:=by omega
   go_wp2
   go_ret; refine ⟨?_,hb⟩; subst hke; rw [List.take_of_length_le (Nat.le_refl _)]; rfl
theorem held_Past (x:Past) (w:World) (cs:List Value) (S:Blks) (a:Int) (k:Nat) (ha:a=(k:Int)) (hk:k+x.ct≤4611686018427387904) (hx:rd false w cs (x.mt k) S) :
  Calls Tryz.prog 57 #[.agg cs.toArray,.int .i64 a] w fun e w' => e = .returned (.int .i64 ((k+x.ct:Nat):Int))∧Below w.heap.size w w':=by
 subst ha
 obtain ⟨A0,k0,S0,rfl,a0,b0,r0,s0⟩:=Past.open hx
 clear hx
 unfold Past.ct at hk
 simp only [Past.cs,Past.mt,meL_length]
 have R0:Row false w A0 k0 (meL x.wholes (k)) S0:=r0
 have L0:x.wholes.length≤maxLen:=by have:=Nat.le_trans a0 b0; simpa [Past.mt] using this
 clear r0
 generalize hK0:k+cnL x.wholes=K0 at *
 have HK0:=zd hK0; clear hK0
 have hfin:Hid (((k+x.ct:Nat):Int)=(K0:Int)):=zd (by unfold Past.ct; have:=HK0.out; omega)
 rw [hfin.out]
 go_enter Tryz.func57,Tryz.ntmps57
 go_wp2_with (fail)
 refine (held_WholeS x.wholes _ _ _ _ _ k (by first | rfl | omega) (by have:=HK0.out; omega) (R0.later zz4) L0).mono ?_
 rw [HK0.out]
 rintro e1 w1 ⟨rfl,hb1⟩
 have hB1:Below w.heap.size w w1:=by refine Below.trans (b:=_) ?_ (hb1.mono ?_) <;> exact zz15
 have hz1:w.heap.size+1≤w1.heap.size:=zz35
 have hc1:=fun o => hb1.cell (p:=⟨w.heap.size,o,none⟩) zz0
 go_wp2
 go_ret; exact ⟨rfl,by have zh:=hB1; exact zz1⟩
end Go.Proofs.YtcbbjfafmmcfiaaGreatDoor
