/- A part of the proof. -/
import Derived.Test.YtcbbjfafmmcfiaaGreatDoorHAqNh
set_option linter.unusedVariables false
set_option linter.unusedSimpArgs false
set_option maxRecDepth 20000
set_option maxHeartbeats 8000000
namespace Go.Proofs.YtcbbjfafmmcfiaaGreatDoor
open Go.RowKit Lay Mk
theorem spec_l12Up (w:World) (l:List ByteArray) (A:Option Addr) (cap:Nat) (S:Blks) (hx:Row false w A cap l S) (hl:l.length≤1048576) (n:Int) (hn:I64 n):Calls Tryz.prog 213 #[.slice A l.length cap,.int .i64 n] w (OwnRes (aboveL n l) w):=by
 have HF:Hid (aboveL n l=aboveT n l (l.length / 2)):=zd rfl
 go_enter Tryz.func213,Tryz.ntmps213
 go_wp2
 have HO:=zd (Own.litAt (α:=ByteArray) (Below.refl w.heap.size w) 9 rfl (b:=w.heap.size) rfl)
 go_loopw [5,6] (fun u i wr => ∃ (m k:Nat) (L:List ByteArray) (A2:Option Addr) (c:Nat),Hid (m=2*k)∧m≤l.length∧i = .int .i64 m∧u = .slice A2 L.length c∧Hid (L=aboveT n l k)∧L.length≤m∧Own w wr A2 c L) (fun _ i _ => l.length - (intOf i).toNat)
 case atStart => exact ⟨0,0, [],some ⟨w.heap.size,0,none⟩,0,zd rfl,Nat.zero_le _,rfl,rfl,zd rfl,zz30,HO.out⟩
 case round =>
  clear HO
  obtain ⟨m,k,L,A2,c,hmk,hm,rfl,rfl,HL,hLl,hown⟩:=hrel
  by_cases hlt:m+1<l.length
  ·obtain ⟨b1,o1,rfl,hl1,f0,s0⟩:=Row.str hx (i:=m) zz13
   obtain ⟨b2,o2,e2,hl2,f1,s1⟩:=Row.str hx (i:=m+1) hlt
   cases e2
   have hb:=hown.bl
   have HN:Hid (aboveT n l (k+1)=L ++ [yae 3 [l[m]'zz13,l[m+1]] n]):=zd (by
    have e:=hmk.out
    subst e
    rw [aboveT, ← HL.out,getD_lt (k:=2*k) zz13,getD_lt (k:=2*k+1) hlt])
   obtain ⟨a,ha⟩:∃ a,l[m]'zz13=a:=⟨_,rfl⟩
   obtain ⟨b,hb'⟩:∃ b,l[m+1]=b:=⟨_,rfl⟩
   rw [ha] at f0 s0 HN
   rw [hb'] at f1 s1 HN
   have hm2:(m:Int)+1<(l.length:Int):=zz13
   have hmz:(m:Int)<(l.length:Int):=zz13
   have hm3:IntKind.i64.wrap ((m:Int)+1)=(m:Int)+1:=IntWalk.i64_in _ zz13
   have hm4:(0:Int)≤(m:Int)+1:=zz13
   have hm5:((m:Int)+1).toNat=m+1:=zz13
   have HOW:=zd hown
   have hlr:b1<wr.heap.size:=Nat.lt_of_lt_of_le hl1 hb.size
   have hBw:=hb
   have hBws:=hb.size
   have hwl:=hb.size
   clear ha hb' hown hb hl2
   have HN2:=zd (fun (h:ByteArray) (hh:yae 3 [a,b] n=h) => (show aboveT n l (k+1)=L ++ [h] by rw [HN.out,hh]))
   obtain ⟨h,hh⟩:∃ h,yae 3 [a,b] n=h:=⟨_,rfl⟩
   have HNh:=zd (HN2.out h hh)
   have hhm:=hash_max 3 [a,b] n
   rw [hh] at hhm
   have HC:=zd (fun W (h1:Row false W (some ⟨W.heap.size - 1,0,none⟩) 2 [a,b] (fun q => q=W.heap.size - 1)) => h1)
   have hB:=Below.refl wr.heap.size wr
   have HM:=zd (fun (w':World) (h:Below w.heap.size w w') => (⟨(h.cell (p:=⟨b1,o1+m,none⟩) hl1).trans f0,(h.cell (p:=⟨b1,o1+(m+1),none⟩) hl1).trans f1,h⟩:w'.cell? ⟨b1,o1+m,none⟩=some (.string a)∧w'.cell? ⟨b1,o1+(m+1),none⟩=some (.string b)∧Below w.heap.size w w'))
   have HH:=zd hh
   clear f0 f1 HN HN2 hh HC
   go_wp2_with (fail)
   go_region_held3 (fun w' => w'.cell? ⟨b1,o1+m,none⟩=some (.string a)∧w'.cell? ⟨b1,o1+(m+1),none⟩=some (.string b)∧Below w.heap.size w w')
    (first | exact HM.out _ hE | exact HM.out _ (hBw.trans (Below.mono (w:=wr) (by have zh:=hB; exact zz11) hBws)))
    (first | (go_at_call 183; refine (spec_TagHash _ 3 zz41 [a,b] _ _ _ (by first | exact row_pairAt _ a b s0 s1 _ _ zz63 | exact Row.drewC (row_pairAt _ a b s0 s1 _ _ zz63)) zz30 n hn).mono ?_; rintro e5 w5 ⟨rfl,hb5⟩; (try simp only [HH.out]); have hB:=Below.step (a:=wr) (by have zh:=hB; exact zz11) hb5; have hs5:=hB.size) | ((refine step_push (α:=ByteArray) (w0:=w) rfl _ _ rfl rfl rfl (HOW.out.later (by have zh:=hB; exact zz11)) rfl rfl (src1 hhm zz63 rfl) zz13 ?_); intro A6 c6 w6 o6 hE))
   go_wp2
   go_roundw
   case rel => exact ⟨m+2,k+1,L ++ [h],A6,c6,zd (by have:=hmk.out; omega),zz13,by go_num,zz30,zd HNh.out.symm,zz46,o6⟩
   case measure => simp [intOf]; omega
  ·have HE:Hid (aboveL n l=L):=zd (by rw [HF.out,HL.out]; congr 1; have:=hmk.out; omega)
   have HOW:=zd hown
   clear hown
   go_wp2
   go_ret
   exact OwnRes.mk HOW.out HE.out rfl
theorem impl_rootsOk (w:World) (l:List ByteArray) (A:Option Addr) (cap:Nat) (S:Blks) (hx:Row false w A cap l S) (hl:l.length≤1048576):Calls Tryz.prog 220 #[.slice A l.length cap,.int .i64 16] w fun e w' => e = .returned (.bool (rootsFit l 16))∧w=w':=by
 have HF:Hid (rootsFit l 16=((decide (l.length=1) || (decide (l.length=2) || decide (l.length=4))) && (inB 16 1 32 && wideG l 16))):=zd rfl
 have HW:=zd (impl_haveWidth w l A cap S hx zz56 (l.length:Int) zz41 16)
 have HIW:=zd (impl_isWide 16 w)
 rw [show inB (16:Int) 1 32=true from rfl] at HIW
 obtain ⟨z,hz⟩:∃ z,wideG l 16=z:=⟨_,rfl⟩
 rw [hz] at HF HW
 clear hz
 by_cases h1:l.length=1
 ·have q1:((l.length:Int) == 1)=true:=by rw [h1]; rfl
  have q2:((l.length:Int) == 2)=false:=by rw [h1]; rfl
  have q4:((l.length:Int) == 4)=false:=by rw [h1]; rfl
  have HE:Hid (rootsFit l 16=z):=zd (by rw [HF.out,h1]; cases z <;> rfl)
  clear h1
  go_enter Tryz.func220,Tryz.ntmps220
  go_wp2_with (first | (go_at_call 258; refine HW.out.mono ?_; rintro e2 w2 ⟨rfl,rfl⟩) | (go_at_call 168; refine HIW.out.mono ?_; rintro e3 w3 ⟨rfl,rfl⟩))
  go_ret
  exact ⟨yab zz58,rfl⟩
 by_cases h2:l.length=2
 ·have q1:((l.length:Int) == 1)=false:=by rw [h2]; rfl
  have q2:((l.length:Int) == 2)=true:=by rw [h2]; rfl
  have q4:((l.length:Int) == 4)=false:=by rw [h2]; rfl
  have HE:Hid (rootsFit l 16=z):=zd (by rw [HF.out,h2]; cases z <;> rfl)
  clear h2 h1
  go_enter Tryz.func220,Tryz.ntmps220
  go_wp2_with (first | (go_at_call 258; refine HW.out.mono ?_; rintro e2 w2 ⟨rfl,rfl⟩) | (go_at_call 168; refine HIW.out.mono ?_; rintro e3 w3 ⟨rfl,rfl⟩))
  go_ret
  exact ⟨yab zz58,rfl⟩
 by_cases h4:l.length=4
 ·have q1:((l.length:Int) == 1)=false:=by rw [h4]; rfl
  have q2:((l.length:Int) == 2)=false:=by rw [h4]; rfl
  have q4:((l.length:Int) == 4)=true:=by rw [h4]; rfl
  have HE:Hid (rootsFit l 16=z):=zd (by rw [HF.out,h4]; cases z <;> rfl)
  clear h4 h1 h2
  go_enter Tryz.func220,Tryz.ntmps220
  go_wp2_with (first | (go_at_call 258; refine HW.out.mono ?_; rintro e2 w2 ⟨rfl,rfl⟩) | (go_at_call 168; refine HIW.out.mono ?_; rintro e3 w3 ⟨rfl,rfl⟩))
  go_ret
  exact ⟨yab zz58,rfl⟩
 have q1:((l.length:Int) == 1)=false:=zz49
 have q2:((l.length:Int) == 2)=false:=zz49
 have q4:((l.length:Int) == 4)=false:=zz49
 have HE:Hid (rootsFit l 16=false):=zd (by rw [HF.out,decide_eq_false h1,decide_eq_false h2,decide_eq_false h4]; rfl)
 clear h1 h2 h4
 go_enter Tryz.func220,Tryz.ntmps220
 go_wp2_with (first | (go_at_call 258; refine HW.out.mono ?_; rintro e2 w2 ⟨rfl,rfl⟩) | (go_at_call 168; refine HIW.out.mono ?_; rintro e3 w3 ⟨rfl,rfl⟩))
 go_ret
 exact ⟨yab zz58,rfl⟩
theorem spec_l12Roots (w:World) (l:List ByteArray) (A:Option Addr) (cap:Nat) (S:Blks) (hx:Row false w A cap l S) (hl:l.length≤1048576):Calls Tryz.prog 212 #[.slice A l.length cap,.int .i64 16] w fun e w' => e = .returned (.bool (rootsFit l 16))∧w=w':=by
 have HF:Hid (rootsFit l 16=((decide (l.length=1) || (decide (l.length=2) || decide (l.length=4))) && (inB 16 1 32 && wideG l 16))):=zd rfl
 have HW:=zd (spec_l11Wide w l A cap S hx zz56 16)
 rw [show inB (16:Int) 1 32=true from rfl,Bool.and_true] at HW
 obtain ⟨z,hz⟩:∃ z,wideG l 16=z:=⟨_,rfl⟩
 rw [hz] at HF HW
 clear hz
 by_cases h1:l.length=1
 ·have q1:((l.length:Int) == 1)=true:=by rw [h1]; rfl
  have q2:((l.length:Int) == 2)=false:=by rw [h1]; rfl
  have q4:((l.length:Int) == 4)=false:=by rw [h1]; rfl
  have HE:Hid (rootsFit l 16=z):=zd (by rw [HF.out,h1]; cases z <;> rfl)
  clear h1
  go_enter Tryz.func212,Tryz.ntmps212
  go_wp2_with (first | (go_at_call 245; refine HW.out.mono ?_; rintro e2 w2 ⟨rfl,rfl⟩))
  go_ret
  exact ⟨yab zz58,rfl⟩
 by_cases h2:l.length=2
 ·have q1:((l.length:Int) == 1)=false:=by rw [h2]; rfl
  have q2:((l.length:Int) == 2)=true:=by rw [h2]; rfl
  have q4:((l.length:Int) == 4)=false:=by rw [h2]; rfl
  have HE:Hid (rootsFit l 16=z):=zd (by rw [HF.out,h2]; cases z <;> rfl)
  clear h2 h1
  go_enter Tryz.func212,Tryz.ntmps212
  go_wp2_with (first | (go_at_call 245; refine HW.out.mono ?_; rintro e2 w2 ⟨rfl,rfl⟩))
  go_ret
  exact ⟨yab zz58,rfl⟩
 by_cases h4:l.length=4
 ·have q1:((l.length:Int) == 1)=false:=by rw [h4]; rfl
  have q2:((l.length:Int) == 2)=false:=by rw [h4]; rfl
  have q4:((l.length:Int) == 4)=true:=by rw [h4]; rfl
  have HE:Hid (rootsFit l 16=z):=zd (by rw [HF.out,h4]; cases z <;> rfl)
  clear h4 h1 h2
  go_enter Tryz.func212,Tryz.ntmps212
  go_wp2_with (first | (go_at_call 245; refine HW.out.mono ?_; rintro e2 w2 ⟨rfl,rfl⟩))
  go_ret
  exact ⟨yab zz58,rfl⟩
 have q1:((l.length:Int) == 1)=false:=zz49
 have q2:((l.length:Int) == 2)=false:=zz49
 have q4:((l.length:Int) == 4)=false:=zz49
 have HE:Hid (rootsFit l 16=false):=zd (by rw [HF.out,decide_eq_false h1,decide_eq_false h2,decide_eq_false h4]; rfl)
 clear h1 h2 h4
 go_enter Tryz.func212,Tryz.ntmps212
 go_wp2_with (first | (go_at_call 245; refine HW.out.mono ?_; rintro e2 w2 ⟨rfl,rfl⟩))
 go_ret
 exact ⟨yab zz58,rfl⟩
def CsRes (R:List ByteArray × Bool) (w:World) (e:Ending) (w':World):Prop:=∃ A c,e = .returned (.tuple #[.slice A R.1.length c,.bool R.2])∧Own w w' A c R.1
theorem CsRes.mk {R:List ByteArray × Bool} {L:List ByteArray} {b:Bool} {w w':World} {A:Option Addr} {c n:Nat} (hR:R=(L,b)) (hn:n=L.length) (own:Own w w' A c L):CsRes R w (.returned (.tuple #[.slice A n c,.bool b])) w':=by
 subst hR; subst hn; exact ⟨A,c,rfl,own⟩
theorem xor_lt {s e:Nat} (h:s<2 ^ (e+1)):s ^^^ 1<2 ^ (e+1):=Nat.xor_lt_two_pow h (Nat.lt_of_lt_of_le (by decide:1<2 ^ 1) (Nat.pow_le_pow_right zz13 zz13))
theorem comb_no {l:List ByteArray} {s:Int} (h:rootsFit l 16=false):combineSides l s 16=([],false):=by unfold combineSides; rw [h]; rfl
theorem comb_out {l:List ByteArray} {s:Int} (h:inB s 0 ((l.length:Int) - 1)=false):combineSides l s 16=([],false):=by unfold combineSides; rw [h]; simp
theorem comb_yes {l:List ByteArray} {s:Int} (h1:rootsFit l 16=true) (h:inB s 0 ((l.length:Int) - 1)=true):combineSides l s 16=(combD 16 (depthOf l.length) l s.toNat,true):=by unfold combineSides; rw [h1,h]; rfl
theorem fit_len {l:List ByteArray} (h:rootsFit l 16=true):l.length=2 ^ depthOf l.length∧depthOf l.length≤2:=by
 unfold rootsFit at h
 simp only [Bool.and_eq_true,Bool.or_eq_true,decide_eq_true_eq] at h
 rcases h.1 with h1 | h1 | h1 <;> rw [h1] <;> exact ⟨rfl,zz76⟩
theorem comb_step (n:Int) (e:Nat) (l:List ByteArray) (s:Nat) {t:Nat} (ht:s ^^^ 1=t) (h:t<l.length):combD n (e+1) l s=l[t] :: combD n e (aboveL n l) (s / 2):=by
 show l.getD (s ^^^ 1) ⟨#[]⟩ :: _=_
 rw [ht,getD_lt h]
theorem impl_CombineSides (w:World) (l:List ByteArray) (A:Option Addr) (cap:Nat) (S:Blks) (hx:Row false w A cap l S) (hl:l.length≤1048576) (s:Int) (hT:Tabs w):Calls Tryz.prog 138 #[.slice A l.length cap,.int .i64 s,.int .i64 16] w (CsRes (combineSides l s 16) w):=by
 have HT:=zd hT
 clear hT
 have HRK:=zd (fun W (h:Below w.heap.size w W) => impl_rootsOk W l A cap S (Row.later hx h) hl)
 have HIN:=zd (fun W => impl_in s 0 ((l.length:Int) - 1) W)
 have hwl:IntKind.i64.wrap ((l.length:Int) - 1)=(l.length:Int) - 1:=IntWalk.i64_in _ zz13
 obtain ⟨R,hR⟩:∃ R,combineSides l s 16=R:=⟨_,rfl⟩
 have HR:=zd hR
 rw [hR]
 clear hR
 cases h1:rootsFit l 16 <;> rw [h1] at HRK
 ·have HE:Hid (R=([],false)):=zd (by rw [← HR.out,comb_no h1])
  clear h1
  go_enter Tryz.func138,Tryz.ntmps138
  go_wp2_with (fail)
  refine (HRK.out _ (Below.refl _ _)).mono ?_
  rintro e1 w1 ⟨rfl,rfl⟩
  go_wp2_with (first | (go_at_call 70; refine (HIN.out _).mono ?_; rintro e2 w2 ⟨rfl,rfl⟩))
  go_ret2
  exact CsRes.mk HE.out rfl (Own.start (Below.refl _ _))
 cases h2:inB s 0 ((l.length:Int) - 1) <;> rw [h2] at HIN
 ·have HE:Hid (R=([],false)):=zd (by rw [← HR.out,comb_out h2])
  clear h1 h2
  go_enter Tryz.func138,Tryz.ntmps138
  go_wp2_with (fail)
  refine (HRK.out _ (Below.refl _ _)).mono ?_
  rintro e1 w1 ⟨rfl,rfl⟩
  go_wp2_with (first | (go_at_call 70; refine (HIN.out _).mono ?_; rintro e2 w2 ⟨rfl,rfl⟩))
  go_ret2
  exact CsRes.mk HE.out rfl (Own.start (Below.refl _ _))
 have HE0:Hid (R=(combD 16 (depthOf l.length) l s.toNat,true)):=zd (by rw [← HR.out,comb_yes h1 h2])
 have hs2:0≤s∧s≤(l.length:Int) - 1:=by simpa [inB] using h2
 obtain ⟨q,hq⟩:∃ q:Nat,s=(q:Int):=⟨s.toNat,zz13⟩
 subst hq
 have hql:q<l.length:=zz13
 obtain ⟨hfl,hfd⟩:=fit_len h1
 obtain ⟨d,hd⟩:∃ d,depthOf l.length=d:=⟨_,rfl⟩
 rw [hd] at HE0 hfl hfd
 rw [Int.toNat_natCast] at HE0
 have HFL:=zd hfl
 have hqd:q<2 ^ d:=by rw [← hfl]; exact hql
 obtain ⟨CL,hCL⟩:∃ c,combD 16 d l q=c:=⟨_,rfl⟩
 rw [hCL] at HE0
 have HCL:=zd hCL
 clear h1 h2 hs2 hql hd hfl hCL
 go_enter Tryz.func138,Tryz.ntmps138
 go_wp2_with (fail)
 refine (HRK.out _ (Below.refl _ _)).mono ?_
 rintro e1 w1 ⟨rfl,rfl⟩
 go_wp2_with (first | (go_at_call 70; refine (HIN.out _).mono ?_; rintro e2 w2 ⟨rfl,rfl⟩))
 go_loopw [1,8,9] (fun sv ov lv wr => ∃ (e sj:Nat) (lj:List ByteArray) (Al:Option Addr) (cl:Nat) (SL:Blks) (out:List ByteArray) (Ao:Option Addr) (co:Nat) (SO:Blks),e≤2∧Hid (lj.length=2 ^ e)∧sj<2 ^ e∧sv = .int .i64 sj∧ov = .slice Ao out.length co∧lv = .slice Al lj.length cl∧Hid (Row false wr Al cl lj SL)∧Hid (Row true wr Ao co out SO)∧Hid (out.length≤co∧co≤maxLen)∧Hid (∀ b,SO b→SL b→False)∧Hid (∀ b,SO b→w.heap.size≤b)∧Hid (out ++ combD 16 e lj sj=CL)∧Hid (Below w.heap.size w wr)∧out.length+e≤2) (fun _ _ lv _ => lenV lv)
 case atStart => exact ⟨d,q,l,A,cap,S, [],none,0,fun _ => False,hfd,HFL,hqd,rfl,rfl,rfl,zd hx,zd (row_nil _ _),zd ⟨Nat.le_refl _,zz76⟩,zd (fun b h _ => h),zd (fun b h => h.elim),zd HCL.out,zd (Below.refl _ _),by simpa using hfd⟩
 case round =>
  clear HRK HIN hx
  obtain ⟨e,sj,lj,Al,cl,SL,out,Ao,co,SO,he,HLJ,hsj,rfl,rfl,rfl,HRL,HRO,HOC,HDJ,HLO,HSUM,HBW,hoe⟩:=hrel
  rcases e with _ | e
  ·have h1:lj.length=1:=by have:=HLJ.out; simpa using this
   have HEC:Hid (CL=out):=zd (by rw [← HSUM.out]; show out ++ []=out; rw [List.append_nil])
   simp only [h1]
   clear h1
   go_wp2
   go_ret2
   exact CsRes.mk (A:=Ao) (c:=co) (by rw [HE0.out,HEC.out]) rfl ⟨HRO.out.mono (fun b h => HLO.out b h),HOC.out.1,HOC.out.2,HBW.out⟩
  ·obtain ⟨t,ht⟩:∃ t,sj ^^^ 1=t:=⟨_,rfl⟩
   have htl:t<2 ^ (e+1):=by rw [← ht]; exact xor_lt hsj
   have htj:t<lj.length:=by rw [HLJ.out]; exact htl
   have hs4:sj<4:=Nat.lt_of_lt_of_le hsj (Nat.pow_le_pow_right (n:=2) zz13 he)
   have hbx:bits .xor .i64 (sj:Int) 1=(t:Int):=by rw [xor1 (show sj<256 by omega),ht]
   have hqu:Int.tdiv (sj:Int) 2=((sj / 2:Nat):Int):=rfl
   have HWQ:Hid (wrap64 ((sj:Int) / 2)=(sj:Int) / 2):=zd (IntWalk.wrap64_in _ ⟨zz13,zz13⟩)
   have HST:=zd (comb_step 16 e lj sj ht htj)
   obtain ⟨b1,o1,rfl,hl1,f0,s0⟩:=Row.str HRL.out htj
   obtain ⟨x,hx1⟩:∃ x,lj[t]=x:=⟨_,rfl⟩
   rw [hx1] at f0 s0 HST
   have HUP:=zd (aboveL_len 16 lj)
   have HLL:Hid ((aboveL 16 lj).length=2 ^ e):=zd (by rw [aboveL_len,HLJ.out,Nat.pow_succ]; omega)
   have hgt:((lj.length:Nat):Int) > 1:=by have:=HLJ.out; have h9:2 ^ 1≤2 ^ (e+1):=Nat.pow_le_pow_right zz13 zz13; omega
   have hgn:1<lj.length:=zz13
   have hlj4:lj.length≤4:=by rw [HLJ.out]; exact Nat.pow_le_pow_right (n:=2) zz13 he
   have hti:(t:Int)<(lj.length:Int):=zz13
   have ht0:(0:Int)≤(t:Int):=zz13
   have hsj2:sj / 2<2 ^ e:=by
    have h9:2 ^ (e+1)=2*2 ^ e:=by rw [Nat.pow_succ]; omega
    omega
   have HSJ:=zd hsj2
   have HOE:=zd hoe
   have HE2:=zd he
   have hob:out.length+1≤4000000000:=zz13
   have HLT:=zd hlj4
   clear ht hx1 htl hs4 hsj hsj2 hoe he
   go_wp2_with (at_builtin; refine wpList_app (α:=ByteArray) rfl _ _ rfl rfl rfl (HRO.out.allocC _) HOC.out.1 HOC.out.2 rfl rfl (src1 s0 zz63 rfl) (disj_none_ _) hob ?_; intro A6 c6 w6 p1 p2 p3 p4)
   have hs6:=p4.size
   rw [World.size_alloc] at hs6
   have HRL6:=zd (Row.chgS p4 (HRL.out.allocC _) (fun b h1 h2 h3 => HDJ.out b h3 h1))
   have HBW6:=zd ((HBW.out.alloc HBW.out.size _).trans (p4.to_below (by rw [World.size_alloc]; have:=HBW.out.size; omega) HLO.out))
   have HP:=zd (And.intro p1 (And.intro p2 p3.tight))
   have HLO6:Hid (∀ b,(fun b => (SO b∨none_ b∨((wr.alloc (.cells #[.string x] 9)).heap.size≤b∧b<w6.heap.size))∧b<w6.heap.size) b→w.heap.size≤b∧b<w6.heap.size):=zd (fun b h => ⟨by
    rcases h.1 with h1 | h1 | h1
    ·exact HLO.out b h1
    ·exact h1.elim
    ·have h2:=h1.1; rw [World.size_alloc] at h2; have:=HBW.out.size; omega,h.2⟩)
   clear p1 p2 p3 p4 hs6
   go_wp2_with (fail)
   refine (impl_above _ lj (some ⟨b1,o1,none⟩) cl _ HRL6.out (by have:=HLT.out; omega) 16 zz41 (HT.out.later HBW6.out)).mono ?_
   rintro e7 w7 ⟨A7,c7,rfl,o7⟩
   have HRO7:=zd (Row.later HP.out.2.2 o7.bl)
   have HBW7:=zd (HBW6.out.trans (o7.bl.mono HBW6.out.size))
   have HR7:=zd o7.weak
   clear o7
   go_wp2
   go_roundw
   case rel => exact ⟨e,sj / 2,aboveL 16 lj,A7,c7,nw w6.heap.size,out ++ [x],A6,c6,_,by have:=HE2.out; omega,HLL,HSJ.out,by first | rfl | (rw [HWQ.out]; rfl) | (simp only [HWQ.out]; rfl),zz30,rfl,HR7,HRO7,zd ⟨by rw [List.length_append]; exact HP.out.1,HP.out.2.1⟩,zd (fun b h1 h2 => by have h3:=(HLO6.out b h1).2; have h4:w6.heap.size≤b:=h2; omega),zd (fun b h => (HLO6.out b h).1),zd (by rw [← HSUM.out,HST.out,List.append_assoc]; rfl),HBW7,by rw [List.length_append]; have:=HOE.out; simp; omega⟩
   case measure => simp [lenV,HUP.out]; omega
theorem spec_CombineSides (w:World) (l:List ByteArray) (A:Option Addr) (cap:Nat) (S:Blks) (hx:Row false w A cap l S) (hl:l.length≤1048576) (s:Int):Calls Tryz.prog 127 #[.slice A l.length cap,.int .i64 s,.int .i64 16] w (CsRes (combineSides l s 16) w):=by
 have HRK:=zd (fun W (h:Below w.heap.size w W) => spec_l12Roots W l A cap S (Row.later hx h) hl)
 have HIN:=zd (fun W => spec_in s 0 ((l.length:Int) - 1) W)
 have hwl:IntKind.i64.wrap ((l.length:Int) - 1)=(l.length:Int) - 1:=IntWalk.i64_in _ zz13
 obtain ⟨R,hR⟩:∃ R,combineSides l s 16=R:=⟨_,rfl⟩
 have HR:=zd hR
 rw [hR]
 clear hR
 cases h1:rootsFit l 16 <;> rw [h1] at HRK
 ·have HE:Hid (R=([],false)):=zd (by rw [← HR.out,comb_no h1])
  clear h1
  go_enter Tryz.func127,Tryz.ntmps127
  go_wp2_with (fail)
  refine (HRK.out _ ((Below.refl _ _).alloc (Nat.le_refl _) _)).mono ?_
  rintro e1 w1 ⟨rfl,rfl⟩
  go_wp2_with (first | (go_at_call 62; refine (HIN.out _).mono ?_; rintro e2 w2 ⟨rfl,rfl⟩))
  go_ret2
  exact CsRes.mk HE.out rfl (Own.litAt (Below.refl _ _) 9 rfl rfl)
 cases h2:inB s 0 ((l.length:Int) - 1) <;> rw [h2] at HIN
 ·have HE:Hid (R=([],false)):=zd (by rw [← HR.out,comb_out h2])
  clear h1 h2
  go_enter Tryz.func127,Tryz.ntmps127
  go_wp2_with (fail)
  refine (HRK.out _ ((Below.refl _ _).alloc (Nat.le_refl _) _)).mono ?_
  rintro e1 w1 ⟨rfl,rfl⟩
  go_wp2_with (first | (go_at_call 62; refine (HIN.out _).mono ?_; rintro e2 w2 ⟨rfl,rfl⟩))
  go_ret2
  exact CsRes.mk HE.out rfl (Own.litAt (Below.refl _ _) 9 rfl rfl)
 have HE0:Hid (R=(combD 16 (depthOf l.length) l s.toNat,true)):=zd (by rw [← HR.out,comb_yes h1 h2])
 have hs2:0≤s∧s≤(l.length:Int) - 1:=by simpa [inB] using h2
 obtain ⟨q,hq⟩:∃ q:Nat,s=(q:Int):=⟨s.toNat,zz13⟩
 subst hq
 have hql:q<l.length:=zz13
 obtain ⟨hfl,hfd⟩:=fit_len h1
 obtain ⟨d,hd⟩:∃ d,depthOf l.length=d:=⟨_,rfl⟩
 rw [hd] at HE0 hfl hfd
 rw [Int.toNat_natCast] at HE0
 have HFL:=zd hfl
 have hqd:q<2 ^ d:=by rw [← hfl]; exact hql
 obtain ⟨CL,hCL⟩:∃ c,combD 16 d l q=c:=⟨_,rfl⟩
 rw [hCL] at HE0
 have HCL:=zd hCL
 clear h1 h2 hs2 hql hd hfl hCL
 go_enter Tryz.func127,Tryz.ntmps127
 go_wp2_with (fail)
 refine (HRK.out _ ((Below.refl _ _).alloc (Nat.le_refl _) _)).mono ?_
 rintro e1 w1 ⟨rfl,rfl⟩
 go_wp2_with (first | (at_builtin; refine wpList_push (α:=ByteArray) (w0:=w.alloc (.cells #[] 9)) rfl _ _ rfl rfl rfl (Own.litAt (Below.refl _ _) 9 rfl zz63) rfl rfl (Src.flat (Row.later hx (((Below.refl _ _).alloc (Nat.le_refl _) _).alloc zz30 _))) zz13 ?_; intro A6 c6 w6 o6 z6) | (go_at_call 62; refine (HIN.out _).mono ?_; rintro e2 w2 ⟨rfl,rfl⟩))
 have HB6:Hid (Below w.heap.size w w6):=zd (Below.via o6.bl)
 have HRO0:Hid (Row true w6 (some ⟨w.heap.size,0,none⟩) 0 ([]:List ByteArray) (fun b => b=w.heap.size)):=zd (Row.later (row_lit0 w 9 (fun b => b=w.heap.size) rfl rfl) o6.bl)
 have HRL0:Hid (Row false w6 A6 c6 l (nw (w.alloc (.cells #[] 9)).heap.size)):=zd (by have h:=o6.weak; rwa [List.nil_append] at h)
 have hnw:(w.alloc (.cells #[] 9)).heap.size=w.heap.size+1:=zz30
 have HNW:=zd hnw
 clear o6 z6 hnw
 go_loopw [1,8,9] (fun sv ov lv wr => ∃ (e sj:Nat) (lj:List ByteArray) (Al:Option Addr) (cl:Nat) (SL:Blks) (out:List ByteArray) (Ao:Option Addr) (co:Nat) (SO:Blks),e≤2∧Hid (lj.length=2 ^ e)∧sj<2 ^ e∧sv = .int .i64 sj∧ov = .slice Ao out.length co∧lv = .slice Al lj.length cl∧Hid (Row false wr Al cl lj SL)∧Hid (Row true wr Ao co out SO)∧Hid (out.length≤co∧co≤maxLen)∧Hid (∀ b,SO b→SL b→False)∧Hid (∀ b,SO b→w.heap.size≤b)∧Hid (out ++ combD 16 e lj sj=CL)∧Hid (Below w.heap.size w wr)∧out.length+e≤2) (fun _ _ lv _ => lenV lv)
 case atStart => exact ⟨d,q,l,A6,c6,_, [],some ⟨w.heap.size,0,none⟩,0,_,hfd,HFL,hqd,rfl,rfl,zz30,HRL0,HRO0,zd ⟨Nat.le_refl _,zz76⟩,zd (fun b h1 h2 => by have h3:(w.alloc (.cells #[] 9)).heap.size≤b:=h2; have:=HNW.out; have h4:b=w.heap.size:=h1; omega),zd (fun b h => by have h4:b=w.heap.size:=h; omega),zd HCL.out,HB6,by simpa using hfd⟩
 case round =>
  clear HRK HIN hx
  obtain ⟨e,sj,lj,Al,cl,SL,out,Ao,co,SO,he,HLJ,hsj,rfl,rfl,rfl,HRL,HRO,HOC,HDJ,HLO,HSUM,HBW,hoe⟩:=hrel
  rcases e with _ | e
  ·have h1:lj.length=1:=by have:=HLJ.out; simpa using this
   have HEC:Hid (CL=out):=zd (by rw [← HSUM.out]; show out ++ []=out; rw [List.append_nil])
   simp only [h1]
   clear h1
   go_wp2
   go_ret2
   exact CsRes.mk (A:=Ao) (c:=co) (by rw [HE0.out,HEC.out]) rfl ⟨HRO.out.mono (fun b h => HLO.out b h),HOC.out.1,HOC.out.2,HBW.out⟩
  ·obtain ⟨t,ht⟩:∃ t,sj ^^^ 1=t:=⟨_,rfl⟩
   have htl:t<2 ^ (e+1):=by rw [← ht]; exact xor_lt hsj
   have htj:t<lj.length:=by rw [HLJ.out]; exact htl
   have hs4:sj<4:=Nat.lt_of_lt_of_le hsj (Nat.pow_le_pow_right (n:=2) zz13 he)
   have hbx:bits .xor .i64 (sj:Int) 1=(t:Int):=by rw [xor1 (show sj<256 by omega),ht]
   have hqu:Int.tdiv (sj:Int) 2=((sj / 2:Nat):Int):=rfl
   have HWQ:Hid (wrap64 ((sj:Int) / 2)=(sj:Int) / 2):=zd (IntWalk.wrap64_in _ ⟨zz13,zz13⟩)
   have HST:=zd (comb_step 16 e lj sj ht htj)
   obtain ⟨b1,o1,rfl,hl1,f0,s0⟩:=Row.str HRL.out htj
   obtain ⟨x,hx1⟩:∃ x,lj[t]=x:=⟨_,rfl⟩
   rw [hx1] at f0 s0 HST
   have HUP:=zd (aboveL_len 16 lj)
   have HLL:Hid ((aboveL 16 lj).length=2 ^ e):=zd (by rw [aboveL_len,HLJ.out,Nat.pow_succ]; omega)
   have hgt:((lj.length:Nat):Int) > 1:=by have:=HLJ.out; have h9:2 ^ 1≤2 ^ (e+1):=Nat.pow_le_pow_right zz13 zz13; omega
   have hgn:1<lj.length:=zz13
   have hlj4:lj.length≤4:=by rw [HLJ.out]; exact Nat.pow_le_pow_right (n:=2) zz13 he
   have hti:(t:Int)<(lj.length:Int):=zz13
   have ht0:(0:Int)≤(t:Int):=zz13
   have hsj2:sj / 2<2 ^ e:=by
    have h9:2 ^ (e+1)=2*2 ^ e:=by rw [Nat.pow_succ]; omega
    omega
   have HSJ:=zd hsj2
   have HOE:=zd hoe
   have HE2:=zd he
   have hob:out.length+1≤4000000000:=zz13
   have HLT:=zd hlj4
   clear ht hx1 htl hs4 hsj hsj2 hoe he
   go_wp2_with (at_builtin; refine wpList_app (α:=ByteArray) rfl _ _ rfl rfl rfl (HRO.out.allocC _) HOC.out.1 HOC.out.2 rfl rfl (src1 s0 zz63 rfl) (disj_none_ _) hob ?_; intro A6 c6 w6 p1 p2 p3 p4)
   have hs6:=p4.size
   rw [World.size_alloc] at hs6
   have HRL6:=zd (Row.chgS p4 (HRL.out.allocC _) (fun b h1 h2 h3 => HDJ.out b h3 h1))
   have HBW6:=zd ((HBW.out.alloc HBW.out.size _).trans (p4.to_below (by rw [World.size_alloc]; have:=HBW.out.size; omega) HLO.out))
   have HP:=zd (And.intro p1 (And.intro p2 p3.tight))
   have HLO6:Hid (∀ b,(fun b => (SO b∨none_ b∨((wr.alloc (.cells #[.string x] 9)).heap.size≤b∧b<w6.heap.size))∧b<w6.heap.size) b→w.heap.size≤b∧b<w6.heap.size):=zd (fun b h => ⟨by
    rcases h.1 with h1 | h1 | h1
    ·exact HLO.out b h1
    ·exact h1.elim
    ·have h2:=h1.1; rw [World.size_alloc] at h2; have:=HBW.out.size; omega,h.2⟩)
   clear p1 p2 p3 p4 hs6
   go_wp2_with (fail)
   refine (spec_l12Up _ lj (some ⟨b1,o1,none⟩) cl _ HRL6.out (by have:=HLT.out; omega) 16 zz41).mono ?_
   rintro e7 w7 ⟨A7,c7,rfl,o7⟩
   have HRO7:=zd (Row.later HP.out.2.2 o7.bl)
   have HBW7:=zd (HBW6.out.trans (o7.bl.mono HBW6.out.size))
   have HR7:=zd o7.weak
   clear o7
   go_wp2
   go_roundw
   case rel => exact ⟨e,sj / 2,aboveL 16 lj,A7,c7,nw w6.heap.size,out ++ [x],A6,c6,_,by have:=HE2.out; omega,HLL,HSJ.out,by first | rfl | (rw [HWQ.out]; rfl) | (simp only [HWQ.out]; rfl),zz30,rfl,HR7,HRO7,zd ⟨by rw [List.length_append]; exact HP.out.1,HP.out.2.1⟩,zd (fun b h1 h2 => by have h3:=(HLO6.out b h1).2; have h4:w6.heap.size≤b:=h2; omega),zd (fun b h => (HLO6.out b h).1),zd (by rw [← HSUM.out,HST.out,List.append_assoc]; rfl),HBW7,by rw [List.length_append]; have:=HOE.out; simp; omega⟩
   case measure => simp [lenV,HUP.out]; omega
end Go.Proofs.YtcbbjfafmmcfiaaGreatDoor
