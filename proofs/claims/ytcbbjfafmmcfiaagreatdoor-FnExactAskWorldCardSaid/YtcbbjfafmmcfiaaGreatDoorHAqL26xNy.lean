/- A part of the proof. -/
import Derived.Test.YtcbbjfafmmcfiaaGreatDoorHAqL25xNx
import Derived.Test.YtcbbjfafmmcfiaaGreatDoorHAqPq
set_option linter.unusedVariables false
set_option linter.unusedSimpArgs false
set_option maxRecDepth 20000
set_option maxHeartbeats 16000000
namespace Go.Proofs.YtcbbjfafmmcfiaaGreatDoor
open Go.RowKit Lay Mk
def NodeS (n:Int) (d:Nat):Prop:=∀ (w:World) (p:Nat) (_:p<2 ^ (8 - d)) (ls:List Leaf) (_:leavesOk ls=true) (A:Option Addr) (cap:Nat) (S:Blks) (_:Row false w A cap (spotsOf ls) S) (bE:Nat) (_:bE<w.heap.size) (_:∀ j,j≤8→w.cell? ⟨bE,j,none⟩=some (.string (emptyD n (8 - j)))),Calls Tryz.prog 236 #[.slice A ls.length cap,.int .i64 (8 - (d:Int)),.int .i64 (p:Int),.int .i64 n,.slice (some ⟨bE,0,none⟩) 9 9] w fun e w' => e = .returned (.string (nodeD n d p ls))∧Below w.heap.size w w'
theorem spotsOf_at {ls:List Leaf} {k:Nat} (h:k<ls.length):(spotsOf ls)[k]'(by rw [spotsOf_len]; exact h)=spotOf ls[k]:=by unfold spotsOf; simp
theorem nodeS_step (n:Int) (hn:I64 n) (d:Nat) (hd:d≤8) (hrec:∀ d',d=d' + 1→NodeS n d'):NodeS n d:=by
 intro w p hp ls hok A cap S hx bE hbE hE
 have HRC:=zd hrec
 have hl:=leavesOk_len hok
 have HOK:=zd hok
 have HEE:=zd hE
 clear hrec hok hE
 have hp8:p<256:=Nat.lt_of_lt_of_le hp (Nat.pow_le_pow_right zz13 (show 8 - d≤8 by omega))
 have hw1:IntKind.i64.wrap (8 - (8 - (d:Int)))=(d:Int):=zz72
 have hw2:IntKind.u64.wrap (d:Int)=(d:Int):=by
  rcases (show d=0∨d=1∨d=2∨d=3∨d=4∨d=5∨d=6∨d=7∨d=8 by omega) with rfl | rfl | rfl | rfl | rfl | rfl | rfl | rfl | rfl <;> rfl
 go_enter Tryz.func236,Tryz.ntmps236
 go_wp2
 have HO:=zd (Own.litAt (α:=Spot) (Below.refl w.heap.size w) 357 rfl (b:=w.heap.size) rfl)
 have HOL:Hid ((spotsOf ls).length=ls.length):=zd (spotsOf_len ls)
 go_loopw [11,12] (fun u i wr => ∃ (k:Nat) (L:List Leaf) (A2:Option Addr) (c:Nat),k≤ls.length∧i = .int .i64 k∧u = .slice A2 L.length c∧Hid (L=belowL d p (ls.take k))∧L.length≤k∧Own w wr A2 c (spotsOf L)) (fun _ i _ => ls.length - (intOf i).toNat)
 case atStart => exact ⟨0, [],some ⟨w.heap.size,0,none⟩,0,Nat.zero_le _,rfl,rfl,zd rfl,zz30,HO.out⟩
 case round =>
  clear HO
  obtain ⟨k,L,A2,c,hk,rfl,rfl,HL,hLk,hown⟩:=hrel
  have hb:=hown.bl
  have HOW:=zd hown
  by_cases hlt:k<ls.length
  ·obtain ⟨b1,o1,rfl,hl1,e0,e1,e2,s0,s1,s2⟩:=Row.atSpot hx (i:=k) (by rw [spotsOf_len]; exact hlt)
   rw [spotsOf_at hlt] at e0 e1 e2 s0 s1 s2
   replace e0:=(hb.cell (p:=⟨b1,o1+k*3,none⟩) hl1).trans e0
   replace e1:=(hb.cell (p:=⟨b1,o1+k*3+1,none⟩) hl1).trans e1
   replace e2:=(hb.cell (p:=⟨b1,o1+k*3+2,none⟩) hl1).trans e2
   have hlb1:b1<wr.heap.size:=Nat.lt_of_lt_of_le hl1 hb.size
   have HN:=zd (below_snoc (d:=d) (p:=p) hlt)
   obtain ⟨x,hx'⟩:∃ x,ls[k]=x:=⟨_,rfl⟩
   rw [hx'] at e0 e1 e2 s0 s1 s2 HN
   clear hx'
   have HSX:Hid (spotOf x=⟨x,(yaf x.name:Int)⟩):=zd rfl
   rw [HSX.out] at e0 e1 e2 s0 s1 s2
   have hokx:Flat.ok (spotOf x):=(show x.name.size≤maxLen∧x.value.size≤maxLen∧I64 ((yaf x.name:Nat):Int) from ⟨s0,s1,s2⟩)
   have HSS:Hid (spotsOf (L ++ [x])=spotsOf L ++ [⟨x,(yaf x.name:Int)⟩]):=zd (by unfold spotsOf; rw [List.map_append]; rfl)
   have HLL:Hid (L.length=(spotsOf L).length):=zd (spotsOf_len L).symm
   rw [HSX.out] at hokx
   obtain ⟨ix,hix⟩:∃ ix,yaf x.name=ix:=⟨_,rfl⟩
   have hixl:ix<256:=by rw [← hix]; exact indexOf_lt _
   rw [hix] at HN e2 hokx HSS
   simp only at e0 e1 e2
   clear hix hown hb HSX s0 s1 s2
   have hpc:((ix / 2 ^ d:Nat):Int)=(ix:Int) / 2 ^ d:=by rw [Int.natCast_ediv,Int.natCast_pow]; rfl
   by_cases hc:ix / 2 ^ d=p
   ·have hq:((ix:Int) / 2 ^ d == (p:Int))=true:=by rw [← hpc,beq_iff_eq,hc]
    have HN2:Hid (belowL d p (ls.take (k+1))=L ++ [x]):=zd (by rw [HN.out,if_pos hc,HL.out])
    clear hc hpc HN
    go_wp2_with (at_builtin; refine wpList_push (α:=Spot) rfl _ _ rfl rfl HLL.out (HOW.out.alloc _) rfl rfl (src1 hokx zz63 rfl) zz13 ?_; intro A6 c6 w6 o6 z6)
    go_roundw
    case rel => exact ⟨k+1,L ++ [x],A6,c6,hlt,by go_num,zz30,zd HN2.out.symm,zz46,by rw [HSS.out]; exact o6⟩
    case measure => simp [intOf]; omega
   ·have hq:((ix:Int) / 2 ^ d == (p:Int))=false:=by rw [← hpc,beq_eq_false_iff_ne]; omega
    have HN2:Hid (belowL d p (ls.take (k+1))=L):=zd (by rw [HN.out,if_neg hc,HL.out,List.append_nil])
    clear hc hpc HN
    go_wp2
    go_roundw
    case rel => exact ⟨k+1,L,A2,c,hlt,by go_num,rfl,zd HN2.out.symm,zz13,HOW.out⟩
    case measure => simp [intOf]; omega
  ·have hke:k=ls.length:=by omega
   subst hke
   have HL2:Hid (L=belowL d p ls):=zd (by rw [HL.out,List.take_of_length_le (Nat.le_refl _)])
   have HER:=zd (fun (j:Nat) (hj:j≤8) => (hb.cell (p:=⟨bE,j,none⟩) hbE).trans (HEE.out j hj))
   have HBr:=zd hb
   have hbEr:bE<wr.heap.size:=Nat.lt_of_lt_of_le hbE hb.size
   have hLk24:L.length≤24:=zz13
   clear HL hLk hown hb hlt hw2 hw1
   by_cases h0:L.length=0
   ·have HRES:Hid (nodeD n d p ls=emptyD n d):=zd (node_none n (by rw [← HL2.out]; exact h0))
    have hq0:((L.length:Int) == 0)=true:=by rw [beq_iff_eq]; omega
    obtain ⟨m,hm⟩:∃ m:Nat,m+d=8:=⟨8 - d,zz13⟩
    have hmd:(8:Int) - (d:Int)=(m:Int):=zz13
    have x0:wr.cell? ⟨bE,m,none⟩=some (.string (emptyD n d)):=by have h9:=HER.out m zz13; rwa [show 8 - m=d by omega] at h9
    have hm9:(m:Int)<9:=zz13
    have hm0:(0:Int)≤(m:Int):=zz13
    simp only [hmd]
    clear hmd hm h0
    go_wp2
    go_ret
    exact ⟨ret_str (by rw [HRES.out]),HBr.out⟩
   have hq0:((L.length:Int) == 0)=false:=zz49
   have HOKL:Hid (leavesOk L=true):=zd (by rw [HL2.out]; exact leavesOk_below HOK.out _ _)
   have HH0:=zd h0
   clear h0
   cases d with
   | zero =>
    have h8:((8:Int) - ((0:Nat):Int) == 8)=true:=zz30
    have HRES:Hid (nodeD n 0 p ls=bucketHash L n):=zd (by rw [HL2.out]; rfl)
    have HLS:=zd (spotsOf_len L)
    have HLT:Hid (L.take L.length=L):=zd (List.take_length)
    obtain ⟨V,hV⟩:∃ V,wr=V:=⟨_,rfl⟩
    simp only [hV] at *
    clear hV
    simp only [show (8:Int) - ((0:Nat):Int)=8 from rfl]
    go_wp2
    have HO4:=zd (Own.litAt (α:=Leaf) (Below.refl V.heap.size V) 246 rfl (b:=V.heap.size) rfl)
    go_loopw [13,14] (fun u i wr => ∃ (k:Nat) (A4:Option Addr) (c4:Nat),k≤L.length∧i = .int .i64 k∧u = .slice A4 k c4∧Own V wr A4 c4 (L.take k)) (fun _ i _ => L.length - (intOf i).toNat)
    case atStart => exact ⟨0,some ⟨V.heap.size,0,none⟩,0,Nat.zero_le _,rfl,rfl,HO4.out⟩
    case round =>
     clear HO4
     obtain ⟨k,A4,c4,hk4,rfl,rfl,hown4⟩:=hrel
     have hb4:=hown4.bl
     have HOW4:=zd hown4
     by_cases hlt:k<L.length
     ·obtain ⟨b1,o1,rfl,hl1,e0,e1,e2,s0,s1,s2⟩:=Row.atSpot HOW.out.weak (i:=k) (by rw [spotsOf_len]; exact hlt)
      rw [spotsOf_at hlt] at e0 e1 e2 s0 s1 s2
      replace e0:=(hb4.cell (p:=⟨b1,o1+k*3,none⟩) hl1).trans e0
      replace e1:=(hb4.cell (p:=⟨b1,o1+k*3+1,none⟩) hl1).trans e1
      have hlb1:b1<wr.heap.size:=Nat.lt_of_lt_of_le hl1 hb4.size
      have HN:Hid (L.take (k+1)=L.take k ++ [L[k]]):=zd (List.take_succ_eq_append_getElem hlt)
      have HKL:Hid (k=(L.take k).length):=zd (by rw [List.length_take]; omega)
      obtain ⟨x,hx'⟩:∃ x,L[k]=x:=⟨_,rfl⟩
      rw [hx'] at e0 e1 s0 s1 HN
      have HSX:Hid (spotOf x=⟨x,(yaf x.name:Int)⟩):=zd rfl
      rw [HSX.out] at e0 e1 s0 s1
      simp only at e0 e1
      have hokx:Flat.ok x:=(show x.name.size≤maxLen∧x.value.size≤maxLen from ⟨s0,s1⟩)
      clear hx' e2 s2 hown4 hb4 s0 s1
      go_wp2_with (at_builtin; refine wpList_push (α:=Leaf) rfl _ _ rfl rfl HKL.out (HOW4.out.alloc _) rfl rfl (src1 hokx zz63 rfl) zz13 ?_; intro A6 c6 w6 o6 z6)
      go_roundw
      case rel => exact ⟨k+1,A6,c6,hlt,by go_num,rfl,by rw [HN.out]; exact o6⟩
      case measure => simp [intOf]; omega
     ·have hke:k=L.length:=by omega
      subst hke
      have hown5:Own V wr A4 c4 L:=by rw [← HLT.out]; exact hown4
      have HOW5:=zd hown5
      have HB5:=zd hown5.bl
      have HBK:=zd (spec_BucketHash wr L A4 c4 _ hown5.weak HOKL.out n hn)
      clear hown4 hb4 hown5
      go_wp2_with (fail)
      refine HBK.out.mono ?_
      rintro e7 w7 ⟨rfl,hb7⟩
      have HB7:=zd (HB5.out.trans (hb7.mono HB5.out.size))
      clear hb7
      go_wp2
      go_ret
      exact ⟨ret_str (by rw [HRES.out]),HBr.out.trans (HB7.out.mono HBr.out.size)⟩
   | succ d =>
    have h8:((8:Int) - ((d+1:Nat):Int) == 8)=false:=zz49
    have hpp:2 ^ (8 - d)=2*2 ^ (8 - (d+1)):=by rw [show 8 - d=(8 - (d+1))+1 by omega,Nat.pow_succ]; omega
    have HRES:Hid (nodeD n (d+1) p ls=yae 3 [nodeD n d (2*p) L,nodeD n d (2*p+1) L] n):=zd (by
     rw [node_below,if_neg (by rw [← HL2.out]; exact HH0.out), ← HL2.out])
    have HN1:=zd (fun W' (h:Below wr.heap.size wr W') => HRC.out d rfl W' (2*p) zz13 L HOKL.out A2 c _ (Row.later HOW.out.weak h) bE (Nat.lt_of_lt_of_le hbEr h.size) (fun j hj => (h.cell (p:=⟨bE,j,none⟩) hbEr).trans (HER.out j hj)))
    have HN2:=zd (fun W' (h:Below wr.heap.size wr W') => HRC.out d rfl W' (2*p+1) zz13 L HOKL.out A2 c _ (Row.later HOW.out.weak h) bE (Nat.lt_of_lt_of_le hbEr h.size) (fun j hj => (h.cell (p:=⟨bE,j,none⟩) hbEr).trans (HER.out j hj)))
    have ec1:((2*p:Nat):Int)=2*(p:Int):=zz13
    have ec2:((2*p+1:Nat):Int)=2*(p:Int)+1:=zz13
    rw [ec1] at HN1
    rw [ec2] at HN2
    have hm1:=nodeD_max n d (2*p) L
    have hm2:=nodeD_max n d (2*p+1) L
    obtain ⟨a,hae⟩:∃ a,nodeD n d (2*p) L=a:=⟨_,rfl⟩
    obtain ⟨b,hbe⟩:∃ b,nodeD n d (2*p+1) L=b:=⟨_,rfl⟩
    rw [hae] at HRES HN1 hm1
    rw [hbe] at HRES HN2 hm2
    have hwa:IntKind.i64.wrap (8 - ((d:Int)+1)+1)=8 - (d:Int):=zz72
    have hwb:IntKind.i64.wrap (2*(p:Int))=2*(p:Int):=zz72
    have hwc:IntKind.i64.wrap (2*(p:Int)+1)=2*(p:Int)+1:=zz72
    clear hae hbe hpp ec1 ec2
    go_wp2_with (fail)
    with_reducible refine (HN1.out _ ?_).mono ?_
    ·exact Below.refl _ _
    rintro e5 w5 ⟨rfl,hb5⟩
    have HB5:=zd hb5
    clear hb5
    go_wp2_with (fail)
    with_reducible refine (HN2.out _ ?_).mono ?_
    ·exact HB5.out
    rintro e6 w6 ⟨rfl,hb6⟩
    have HB6:=zd (HB5.out.trans (hb6.mono HB5.out.size))
    clear hb6
    go_wp2_with (fail)
    refine (spec_TagHash _ 3 zz41 [a,b] _ _ _ (row_pairAt _ a b hm1 hm2 _ _ zz63) zz30 n hn).mono ?_
    rintro e7 w7 ⟨rfl,hb7⟩
    have HB7:=zd (HB6.out.trans ((Below.via hb7).mono HB6.out.size))
    clear hb7
    go_wp2
    go_ret
    exact ⟨ret_str (by rw [HRES.out]),HBr.out.trans (HB7.out.mono HBr.out.size)⟩
theorem spec_l10Node (n:Int) (hn:I64 n):∀ d,d≤8→NodeS n d
 | 0,h => nodeS_step n hn 0 h (fun d' e => zz13)
 | d+1,h => nodeS_step n hn (d+1) h (fun d' e => by
   obtain rfl:d=d':=by omega
   exact spec_l10Node n hn d zz13)
end Go.Proofs.YtcbbjfafmmcfiaaGreatDoor
namespace Go.Proofs.YtcbbjfafmmcfiaaGreatDoor
open Go.RowKit Lay Mk
def PlRes (R:Proof × Bool) (w:World) (e:Ending) (w':World):Prop:=∃ c,e = .returned (.tuple #[.agg c.toArray,.bool R.2])∧rd true w' c R.1 (rng w.heap.size w'.heap.size)∧Below w.heap.size w w'
theorem PlRes.mk {R:Proof × Bool} {B:List Leaf} {L:List ByteArray} {b:Bool} {w w':World} {A A':Option Addr} {c c' n n':Nat} {S S':Blks} (hR:R=(⟨B,L⟩,b)) (hn:n=B.length) (hn':n' = L.length) (l1:B.length≤c) (m1:c≤maxLen) (r1:Row true w' A c B S) (l2:L.length≤c') (m2:c'≤maxLen) (r2:Row true w' A' c' L S') (hd:disj S S') (s1:sub S (rng w.heap.size w'.heap.size)) (s2:sub S' (rng w.heap.size w'.heap.size)) (hb:Below w.heap.size w w') :
  PlRes R w (.returned (.tuple #[.agg #[.slice A n c,.slice A' n' c'],.bool b])) w':=by
 subst hR; subst hn; subst hn'
 exact ⟨[.slice A B.length c,.slice A' L.length c'],rfl,Proof.mk' (x:=⟨B,L⟩) (S0:=S) (S1:=S') l1 m1 r1 s1 l2 m2 r2 s2 (fun _ => pwmk2 hd),hb⟩
theorem PlRes.nil {R:Proof × Bool} {w w':World} (hR:R=(⟨[], []⟩,false)) (hb:Below w.heap.size w w'):PlRes R w (.returned (.tuple #[.agg #[.slice none 0 0,.slice none 0 0],.bool false])) w' :=
 PlRes.mk (S:=none_) (S':=none_) hR rfl rfl (Nat.le_refl _) zz76 (row_nil _ _) (Nat.le_refl _) zz76 (row_nil _ _) (disj_none_ _) (fun _ h => h.elim) (fun _ h => h.elim) hb
theorem impl_ProveLeaf (w:World) (xs:List Leaf) (A:Option Addr) (cap:Nat) (S:Blks) (hx:Row false w A cap xs S) (hl:xs.length≤1048576) (hz:szL xs≤1048576) (name:ByteArray) (hn:name.size≤1048576) (lv:Int) (hlv:I64 lv) (n:Int) (hnn:I64 n) (hT:Tabs w):Calls Tryz.prog 74 #[.slice A xs.length cap,.string name,.int .i64 lv,.int .i64 n] w (PlRes (proveLeaf xs name lv n) w):=by
 have HT:=zd hT
 clear hT
 have hnm:name.size≤maxLen:=zz56
 have HLV:=zd (fun W (h:Below w.heap.size w W) => impl_LeavesOk W xs A cap S (Row.later hx h) zz13)
 have HNM:=zd (fun W => impl_NameOk name W hnm)
 have HIN:=zd (fun W => impl_in lv 0 8 W)
 have HIW:=zd (fun W => impl_isWide n W)
 have HF:Hid (proveLeaf xs name lv n=if (leavesOk xs && (nameOk name && (inB lv 0 8 && inB n 1 32)))=true then (⟨bucketOf xs (yaf name),sidesD n (yaf name) xs (8 - lv.toNat)⟩,true) else (⟨[], []⟩,false)):=zd rfl
 obtain ⟨R,hR⟩:∃ R,proveLeaf xs name lv n=R:=⟨_,rfl⟩
 rw [hR] at HF ⊢
 clear hR
 have hWd:∀ W,W=w.alloc (.cells #[.slice none 0 0,.slice none 0 0] 36)→Below w.heap.size w W∧W.cell? ⟨w.heap.size,0,none⟩=some (.slice none 0 0)∧W.cell? ⟨w.heap.size,1,none⟩=some (.slice none 0 0)∧(∀ o,W.frozen? ⟨w.heap.size,o,none⟩=false)∧w.heap.size<W.heap.size:=by
  rintro W rfl
  exact ⟨(Below.refl _ _).alloc (Nat.le_refl _) _,ya1 _ _ _ _ _ rfl,ya1 _ _ _ _ _ rfl,fun o => zz30,zz30⟩
 cases h1:leavesOk xs <;> rw [h1] at HLV
 ·have HE:Hid (R=(⟨[], []⟩,false)):=zd (by rw [HF.out,h1]; simp)
  clear HF h1
  go_enter Tryz.func74,Tryz.ntmps74
  go_wp2_with (fail)
  obtain ⟨W,hW⟩:∃ W,w.alloc (.cells #[.slice none 0 0,.slice none 0 0] 36)=W:=⟨_,rfl⟩
  rw [hW]
  obtain ⟨hBW,z0,z1,zf,hlW⟩:=hWd W hW.symm
  clear hW hWd
  refine (HLV.out _ hBW).mono ?_
  rintro e1 w1 ⟨rfl,hb1⟩
  replace z0:=(hb1.cell (p:=⟨w.heap.size,0,none⟩) hlW).trans z0
  replace z1:=(hb1.cell (p:=⟨w.heap.size,1,none⟩) hlW).trans z1
  replace zf:=fun o => (hb1.frozen (p:=⟨w.heap.size,o,none⟩) hlW).trans (zf o)
  have hl1:w.heap.size<w1.heap.size:=Nat.lt_of_lt_of_le hlW hb1.size
  have HB1:=zd (hBW.trans (hb1.mono hBW.size))
  clear hBW hb1 hlW
  go_wp2_with (first | (go_at_call 72; refine (HNM.out _).mono ?_; rintro e2 w2 ⟨rfl,rfl⟩) | (go_at_call 70; refine (HIN.out _).mono ?_; rintro e3 w3 ⟨rfl,rfl⟩) | (go_at_call 168; refine (HIW.out _).mono ?_; rintro e4 w4 ⟨rfl,rfl⟩))
  refine bodyPost_ret (v:=.tuple #[.agg #[.slice none 0 0,.slice none 0 0],.bool false]) (by simp [results,Tryz.results74,go_sem, *]) rfl ?_
  exact PlRes.nil HE.out (Below.setCell (Below.setCell HB1.out (Nat.le_refl _) _) (Nat.le_refl _) _)
 cases h2:nameOk name <;> rw [h2] at HNM
 ·have HE:Hid (R=(⟨[], []⟩,false)):=zd (by rw [HF.out,h1,h2]; simp)
  clear HF h1 h2
  go_enter Tryz.func74,Tryz.ntmps74
  go_wp2_with (fail)
  obtain ⟨W,hW⟩:∃ W,w.alloc (.cells #[.slice none 0 0,.slice none 0 0] 36)=W:=⟨_,rfl⟩
  rw [hW]
  obtain ⟨hBW,z0,z1,zf,hlW⟩:=hWd W hW.symm
  clear hW hWd
  refine (HLV.out _ hBW).mono ?_
  rintro e1 w1 ⟨rfl,hb1⟩
  replace z0:=(hb1.cell (p:=⟨w.heap.size,0,none⟩) hlW).trans z0
  replace z1:=(hb1.cell (p:=⟨w.heap.size,1,none⟩) hlW).trans z1
  replace zf:=fun o => (hb1.frozen (p:=⟨w.heap.size,o,none⟩) hlW).trans (zf o)
  have hl1:w.heap.size<w1.heap.size:=Nat.lt_of_lt_of_le hlW hb1.size
  have HB1:=zd (hBW.trans (hb1.mono hBW.size))
  clear hBW hb1 hlW
  go_wp2_with (first | (go_at_call 72; refine (HNM.out _).mono ?_; rintro e2 w2 ⟨rfl,rfl⟩) | (go_at_call 70; refine (HIN.out _).mono ?_; rintro e3 w3 ⟨rfl,rfl⟩) | (go_at_call 168; refine (HIW.out _).mono ?_; rintro e4 w4 ⟨rfl,rfl⟩))
  refine bodyPost_ret (v:=.tuple #[.agg #[.slice none 0 0,.slice none 0 0],.bool false]) (by simp [results,Tryz.results74,go_sem, *]) rfl ?_
  exact PlRes.nil HE.out (Below.setCell (Below.setCell HB1.out (Nat.le_refl _) _) (Nat.le_refl _) _)
 cases h3:inB lv 0 8 <;> rw [h3] at HIN
 ·have HE:Hid (R=(⟨[], []⟩,false)):=zd (by rw [HF.out,h1,h2,h3]; simp)
  clear HF h1 h2 h3
  go_enter Tryz.func74,Tryz.ntmps74
  go_wp2_with (fail)
  obtain ⟨W,hW⟩:∃ W,w.alloc (.cells #[.slice none 0 0,.slice none 0 0] 36)=W:=⟨_,rfl⟩
  rw [hW]
  obtain ⟨hBW,z0,z1,zf,hlW⟩:=hWd W hW.symm
  clear hW hWd
  refine (HLV.out _ hBW).mono ?_
  rintro e1 w1 ⟨rfl,hb1⟩
  replace z0:=(hb1.cell (p:=⟨w.heap.size,0,none⟩) hlW).trans z0
  replace z1:=(hb1.cell (p:=⟨w.heap.size,1,none⟩) hlW).trans z1
  replace zf:=fun o => (hb1.frozen (p:=⟨w.heap.size,o,none⟩) hlW).trans (zf o)
  have hl1:w.heap.size<w1.heap.size:=Nat.lt_of_lt_of_le hlW hb1.size
  have HB1:=zd (hBW.trans (hb1.mono hBW.size))
  clear hBW hb1 hlW
  go_wp2_with (first | (go_at_call 72; refine (HNM.out _).mono ?_; rintro e2 w2 ⟨rfl,rfl⟩) | (go_at_call 70; refine (HIN.out _).mono ?_; rintro e3 w3 ⟨rfl,rfl⟩) | (go_at_call 168; refine (HIW.out _).mono ?_; rintro e4 w4 ⟨rfl,rfl⟩))
  refine bodyPost_ret (v:=.tuple #[.agg #[.slice none 0 0,.slice none 0 0],.bool false]) (by simp [results,Tryz.results74,go_sem, *]) rfl ?_
  exact PlRes.nil HE.out (Below.setCell (Below.setCell HB1.out (Nat.le_refl _) _) (Nat.le_refl _) _)
 cases h4:inB n 1 32 <;> rw [h4] at HIW
 ·have HE:Hid (R=(⟨[], []⟩,false)):=zd (by rw [HF.out,h1,h2,h3,h4]; simp)
  clear HF h1 h2 h3 h4
  go_enter Tryz.func74,Tryz.ntmps74
  go_wp2_with (fail)
  obtain ⟨W,hW⟩:∃ W,w.alloc (.cells #[.slice none 0 0,.slice none 0 0] 36)=W:=⟨_,rfl⟩
  rw [hW]
  obtain ⟨hBW,z0,z1,zf,hlW⟩:=hWd W hW.symm
  clear hW hWd
  refine (HLV.out _ hBW).mono ?_
  rintro e1 w1 ⟨rfl,hb1⟩
  replace z0:=(hb1.cell (p:=⟨w.heap.size,0,none⟩) hlW).trans z0
  replace z1:=(hb1.cell (p:=⟨w.heap.size,1,none⟩) hlW).trans z1
  replace zf:=fun o => (hb1.frozen (p:=⟨w.heap.size,o,none⟩) hlW).trans (zf o)
  have hl1:w.heap.size<w1.heap.size:=Nat.lt_of_lt_of_le hlW hb1.size
  have HB1:=zd (hBW.trans (hb1.mono hBW.size))
  clear hBW hb1 hlW
  go_wp2_with (first | (go_at_call 72; refine (HNM.out _).mono ?_; rintro e2 w2 ⟨rfl,rfl⟩) | (go_at_call 70; refine (HIN.out _).mono ?_; rintro e3 w3 ⟨rfl,rfl⟩) | (go_at_call 168; refine (HIW.out _).mono ?_; rintro e4 w4 ⟨rfl,rfl⟩))
  refine bodyPost_ret (v:=.tuple #[.agg #[.slice none 0 0,.slice none 0 0],.bool false]) (by simp [results,Tryz.results74,go_sem, *]) rfl ?_
  exact PlRes.nil HE.out (Below.setCell (Below.setCell HB1.out (Nat.le_refl _) _) (Nat.le_refl _) _)
 have HE:Hid (R=(⟨bucketOf xs (yaf name),sidesD n (yaf name) xs (8 - lv.toNat)⟩,true)):=zd (by rw [HF.out,h1,h2,h3,h4]; rfl)
 have hlv8:0≤lv∧lv≤8:=by simpa [inB] using h3
 obtain ⟨m,hm,hm8⟩:∃ m:Nat,lv=8 - (m:Int)∧m≤8:=⟨8 - lv.toNat,zz13,zz13⟩
 have HMM:Hid (8 - lv.toNat=m):=zd zz13
 clear HF h1 h2 h3 h4 hlv8
 subst hm
 rw [HMM.out] at HE
 have hix:=indexOf_lt name
 have HIX:=zd (fun W (h:Below w.heap.size w W) => impl_IndexOf W name zz13 (HT.out.later h))
 obtain ⟨ix,hixe⟩:∃ ix,yaf name=ix:=⟨_,rfl⟩
 rw [hixe] at HE HIX hix
 clear hixe
 have HBK:=zd (fun W (h:Below w.heap.size w W) => impl_BucketOf W xs A cap S (Row.later hx h) hl hz (ix:Int) (HT.out.later h))
 have HGR:=zd (fun W (h:Below w.heap.size w W) => impl_newGrove W xs A cap S (Row.later hx h) hl hz n (HT.out.later h))
 have HSD:=zd (fun W (h:Below w.heap.size w W) (A2:Option Addr) (c2:Nat) (S2:Blks) (hi:Row false W A2 c2 (ixs xs) S2) => impl_sides W xs A cap S (Row.later hx h) A2 c2 S2 hi hl n hnn ix hix m hm8 (HT.out.later h))
 go_enter Tryz.func74,Tryz.ntmps74
 go_wp2_with (fail)
 obtain ⟨W,hW⟩:∃ W,w.alloc (.cells #[.slice none 0 0,.slice none 0 0] 36)=W:=⟨_,rfl⟩
 rw [hW]
 obtain ⟨hBW,z0,z1,zf,hlW⟩:=hWd W hW.symm
 clear hW hWd
 refine (HLV.out _ hBW).mono ?_
 rintro e1 w1 ⟨rfl,hb1⟩
 replace z0:=(hb1.cell (p:=⟨w.heap.size,0,none⟩) hlW).trans z0
 replace z1:=(hb1.cell (p:=⟨w.heap.size,1,none⟩) hlW).trans z1
 replace zf:=fun o => (hb1.frozen (p:=⟨w.heap.size,o,none⟩) hlW).trans (zf o)
 have hl1:w.heap.size<w1.heap.size:=Nat.lt_of_lt_of_le hlW hb1.size
 have HB1:=zd (hBW.trans (hb1.mono hBW.size))
 clear hBW hb1 hlW
 go_wp2_with (first | (go_at_call 72; refine (HNM.out _).mono ?_; rintro e2 w2 ⟨rfl,rfl⟩) | (go_at_call 70; refine (HIN.out _).mono ?_; rintro e3 w3 ⟨rfl,rfl⟩) | (go_at_call 168; refine (HIW.out _).mono ?_; rintro e4 w4 ⟨rfl,rfl⟩))
 refine (HIX.out _ HB1.out).mono ?_
 rintro e5 w5 ⟨rfl,hb5⟩
 have HB5:=zd (HB1.out.trans (hb5.mono HB1.out.size))
 replace z0:=(hb5.cell (p:=⟨w.heap.size,0,none⟩) hl1).trans z0
 replace z1:=(hb5.cell (p:=⟨w.heap.size,1,none⟩) hl1).trans z1
 replace zf:=fun o => (hb5.frozen (p:=⟨w.heap.size,o,none⟩) hl1).trans (zf o)
 have hl5:w.heap.size<w5.heap.size:=Nat.lt_of_lt_of_le hl1 hb5.size
 clear hb5
 go_wp2_with (fail)
 refine (HBK.out _ HB5.out).mono ?_
 rintro e6 w6 ⟨A6,c6,rfl,o6⟩
 have hb6:=o6.bl
 have HB6:=zd (HB5.out.trans (hb6.mono HB5.out.size))
 replace z0:=(hb6.cell (p:=⟨w.heap.size,0,none⟩) hl5).trans z0
 replace z1:=(hb6.cell (p:=⟨w.heap.size,1,none⟩) hl5).trans z1
 replace zf:=fun o => (hb6.frozen (p:=⟨w.heap.size,o,none⟩) hl5).trans (zf o)
 have hl6:w.heap.size<w6.heap.size:=Nat.lt_of_lt_of_le hl5 hb6.size
 have O6:=zd o6
 clear hb6 o6
 go_wp2_with (fail)
 refine (HGR.out _ HB6.out).mono ?_
 rintro e7 w7 ⟨A7,c7,rfl,o7⟩
 have hb7:=o7.bl
 have HB7:=zd (HB6.out.trans (hb7.mono HB6.out.size))
 replace z0:=(hb7.cell (p:=⟨w.heap.size,0,none⟩) hl6).trans z0
 replace z1:=(hb7.cell (p:=⟨w.heap.size,1,none⟩) hl6).trans z1
 replace zf:=fun o => (hb7.frozen (p:=⟨w.heap.size,o,none⟩) hl6).trans (zf o)
 have hl7:w.heap.size<w7.heap.size:=Nat.lt_of_lt_of_le hl6 hb7.size
 have O7:=zd o7
 clear hb7 o7
 go_wp2_with (fail)
 refine (HSD.out _ HB7.out A7 c7 _ O7.out.weak).mono ?_
 rintro e8 w8 ⟨A8,c8,rfl,o8⟩
 have hb8:=o8.bl
 have HB8:=zd (HB7.out.trans (hb8.mono HB7.out.size))
 replace z0:=(hb8.cell (p:=⟨w.heap.size,0,none⟩) hl7).trans z0
 replace z1:=(hb8.cell (p:=⟨w.heap.size,1,none⟩) hl7).trans z1
 replace zf:=fun o => (hb8.frozen (p:=⟨w.heap.size,o,none⟩) hl7).trans (zf o)
 have hl8:w.heap.size<w8.heap.size:=Nat.lt_of_lt_of_le hl7 hb8.size
 have O8:=zd o8
 clear hb8 o8
 obtain ⟨B,hBe⟩:∃ B,bucketOf xs (ix:Int)=B:=⟨_,rfl⟩
 obtain ⟨L,hLe⟩:∃ L,sidesD n ix xs m=L:=⟨_,rfl⟩
 rw [hBe] at HE O6
 rw [hLe] at HE O8
 simp only [hBe,hLe]
 clear hBe hLe
 have HL5:=zd hl5
 go_wp2
 refine bodyPost_ret (v:=.tuple #[.agg #[.slice A6 B.length c6,.slice A8 L.length c8],.bool true]) (by simp [results,Tryz.results74,go_sem, *]) rfl ?_
 have s6:=O6.out.size
 have s7:=O7.out.size
 have s8:=O8.out.size
 have hn1:∀ o:Nat, ¬ rng w5.heap.size w6.heap.size (⟨w.heap.size,o,none⟩:Addr).block:=fun o h => by have h1:=h.1; have:=HL5.out; simp only at h1; omega
 have hn2:∀ o:Nat, ¬ rng w7.heap.size w8.heap.size (⟨w.heap.size,o,none⟩:Addr).block:=fun o h => by have h1:=h.1; simp only at h1; omega
 have r6:=Row.later O6.out.rng (O7.out.bl.trans (O8.out.bl.mono O7.out.bl.size))
 exact PlRes.mk HE.out rfl rfl O6.out.le O6.out.cm ((r6.setC (hn1 0) _).setC (hn1 1) _) O8.out.le O8.out.cm ((O8.out.rng.setC (hn2 0) _).setC (hn2 1) _) (fun b h1 h2 => by have:=h1.2; have:=h2.1; omega) (fun b h => by have:=h.1; have:=h.2; have:=HL5.out; unfold rng; simp; omega) (fun b h => by have:=h.1; have:=h.2; unfold rng; simp; omega) (Below.setCell (Below.setCell HB8.out (Nat.le_refl _) _) (Nat.le_refl _) _)
end Go.Proofs.YtcbbjfafmmcfiaaGreatDoor
namespace Go.Proofs.YtcbbjfafmmcfiaaGreatDoor
open Go.RowKit Lay Mk
def stampP (t:Trust) (house:Int) (h:Head) (s:Stamp):Bool:=inB s.by_ 0 ((t.roots.length:Int) - 1) && (!decide (s.by_=house) && stampOk (t.roots.getD s.by_.toNat ⟨#[]⟩) h s.sig)
def rootUp (t:Trust) (name:ByteArray) (x:Whole):ByteArray:=foldUp 16 (proofHash name x.proof 16) (yaf name) t.k x.tops
def verify (t:Trust) (house:Int) (name:ByteArray) (epoch:Int) (x:Whole):ByteArray × Bool × Int :=
 if wholeForm t house name x=false then (⟨#[]⟩,false,1)
 else if x.seal_.head.house≠house∨x.seal_.head.epoch≠epoch then (⟨#[]⟩,false,2)
 else if sealOk (t.roots.getD house.toNat ⟨#[]⟩) x.seal_=false then (⟨#[]⟩,false,3)
 else if rootUp t name x≠x.seal_.head.root then (⟨#[]⟩,false,4)
 else if ((x.stamps.countP (stampP t house x.seal_.head):Nat):Int)<t.need then (⟨#[]⟩,false,5)
 else ((leafGet x.proof.bucket name).1,(leafGet x.proof.bucket name).2,0)
theorem count_snoc {α:Type} {p:α→Bool} {l:List α} {k:Nat} (h:k<l.length):(l.take (k+1)).countP p=(l.take k).countP p+(if p l[k]=true then 1 else 0):=by
 rw [List.take_succ_eq_append_getElem h,List.countP_append,List.countP_singleton]
theorem form_facts {t:Trust} {house:Int} {name:ByteArray} {x:Whole} (h:wholeForm t house name x=true):(∃ k:Nat,house=k∧k<t.roots.length)∧(0≤t.k∧t.k≤2)∧(0≤t.need∧t.need≤2)∧(1≤t.roots.length∧t.roots.length≤3):=by
 unfold wholeForm trustOk at h
 simp only [Bool.and_eq_true] at h
 obtain ⟨⟨h1,_,h3,h4⟩,h5,_⟩:=h
 have a1:1≤(t.roots.length:Int)∧(t.roots.length:Int)≤3:=by simpa [inB] using h1
 have a2:0≤t.k∧t.k≤2:=by simpa [inB] using h3
 have a3:0≤t.need∧t.need≤2:=by simpa [inB] using h4
 have a4:0≤house∧house≤(t.roots.length:Int) - 1:=by simpa [inB] using h5
 exact ⟨⟨house.toNat,zz13,zz13⟩,a2,a3,zz13⟩
theorem getD_ltv {l:List ByteArray} {k:Nat} (h:k<l.length):l.getD k ⟨#[]⟩=l[k]:=by
 rw [List.getD_eq_getElem?_getD,List.getElem?_eq_getElem h,Option.getD_some]
theorem ver_1 {t:Trust} {house:Int} {name:ByteArray} {epoch:Int} {x:Whole} (h:wholeForm t house name x=false):verify t house name epoch x=(⟨#[]⟩,false,1):=by unfold verify; rw [if_pos h]
theorem ver_2 {t:Trust} {house:Int} {name:ByteArray} {epoch:Int} {x:Whole} (h:wholeForm t house name x=true) (h2:x.seal_.head.house≠house∨x.seal_.head.epoch≠epoch):verify t house name epoch x=(⟨#[]⟩,false,2):=by unfold verify; rw [if_neg (by simp [h]),if_pos h2]
theorem ver_3 {t:Trust} {house:Int} {name:ByteArray} {epoch:Int} {x:Whole} (h:wholeForm t house name x=true) (h2:x.seal_.head.house=house) (h3:x.seal_.head.epoch=epoch) (h4:sealOk (t.roots.getD house.toNat ⟨#[]⟩) x.seal_=false):verify t house name epoch x=(⟨#[]⟩,false,3):=by unfold verify; rw [if_neg (by simp [h]),if_neg (by simp [h2,h3]),if_pos h4]
theorem ver_4 {t:Trust} {house:Int} {name:ByteArray} {epoch:Int} {x:Whole} (h:wholeForm t house name x=true) (h2:x.seal_.head.house=house) (h3:x.seal_.head.epoch=epoch) (h4:sealOk (t.roots.getD house.toNat ⟨#[]⟩) x.seal_=true) (h5:rootUp t name x≠x.seal_.head.root):verify t house name epoch x=(⟨#[]⟩,false,4):=by unfold verify; rw [if_neg (by simp [h]),if_neg (by simp [h2,h3]),if_neg (by rw [h4]; simp),if_pos h5]
theorem ver_5 {t:Trust} {house:Int} {name:ByteArray} {epoch:Int} {x:Whole} (h:wholeForm t house name x=true) (h2:x.seal_.head.house=house) (h3:x.seal_.head.epoch=epoch) (h4:sealOk (t.roots.getD house.toNat ⟨#[]⟩) x.seal_=true) (h5:rootUp t name x=x.seal_.head.root) (h6:((x.stamps.countP (stampP t house x.seal_.head):Nat):Int)<t.need):verify t house name epoch x=(⟨#[]⟩,false,5):=by unfold verify; rw [if_neg (by simp [h]),if_neg (by simp [h2,h3]),if_neg (by rw [h4]; simp),if_neg (by simp [h5]),if_pos h6]
theorem ver_0 {t:Trust} {house:Int} {name:ByteArray} {epoch:Int} {x:Whole} (h:wholeForm t house name x=true) (h2:x.seal_.head.house=house) (h3:x.seal_.head.epoch=epoch) (h4:sealOk (t.roots.getD house.toNat ⟨#[]⟩) x.seal_=true) (h5:rootUp t name x=x.seal_.head.root) (h6 : ¬ ((x.stamps.countP (stampP t house x.seal_.head):Nat):Int)<t.need):verify t house name epoch x=((leafGet x.proof.bucket name).1,(leafGet x.proof.bucket name).2,0):=by unfold verify; rw [if_neg (by simp [h]),if_neg (by simp [h2,h3]),if_neg (by rw [h4]; simp),if_neg (by simp [h5]),if_neg h6]
theorem stampP_at {t:Trust} {house:Int} {h:Head} {s:Stamp} {k:Nat} (hb:s.by_=k) (hk:k<t.roots.length):stampP t house h s=(!decide (s.by_=house) && stampOk t.roots[k] h s.sig):=by
 unfold stampP
 have:inB s.by_ 0 ((t.roots.length:Int) - 1)=true:=by rw [hb]; unfold inB; simp; omega
 rw [this,hb,Int.toNat_natCast,getD_ltv hk]
 rfl
theorem stampP_no {t:Trust} {house:Int} {h:Head} {s:Stamp} (hb:inB s.by_ 0 ((t.roots.length:Int) - 1)=false):stampP t house h s=false:=by unfold stampP; rw [hb]; rfl
end Go.Proofs.YtcbbjfafmmcfiaaGreatDoor
