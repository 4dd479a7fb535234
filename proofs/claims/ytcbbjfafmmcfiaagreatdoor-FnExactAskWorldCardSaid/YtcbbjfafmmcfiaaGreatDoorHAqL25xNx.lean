/- A part of the proof. -/
import Derived.Test.YtcbbjfafmmcfiaaGreatDoorHAqL24xNw
set_option linter.unusedVariables false
set_option linter.unusedSimpArgs false
set_option maxRecDepth 20000
set_option maxHeartbeats 8000000
namespace Go.Proofs.YtcbbjfafmmcfiaaGreatDoor
open Go.RowKit Lay Mk
def EmptiesRes (n:Int) (w:World) (e:Ending) (w':World):Prop:=∃ b,e = .returned (.slice (some ⟨b,0,none⟩) 9 9)∧w.heap.size≤b∧b<w'.heap.size∧(∀ j,j≤8→w'.cell? ⟨b,j,none⟩=some (.string (emptyD n (8 - j))))∧Below w.heap.size w w'
theorem spec_l10Empties (w:World) (n:Int) (hn:I64 n):Calls Tryz.prog 235 #[.int .i64 n] w (EmptiesRes n w):=by
 have hmk:∀ W:World,(Instr.makeSlice 34 (.int .i64 9) (.int .i64 9)).run Tryz.prog W = .ok (.slice (some ⟨W.heap.size,0,none⟩) 9 9) (W.alloc (.cells #[.string ⟨#[]⟩,.string ⟨#[]⟩,.string ⟨#[]⟩,.string ⟨#[]⟩,.string ⟨#[]⟩,.string ⟨#[]⟩,.string ⟨#[]⟩,.string ⟨#[]⟩,.string ⟨#[]⟩] 9)):=fun _ => by kernel_rfl
 have hWd:∀ W,W=w.alloc (.cells #[.string ⟨#[]⟩,.string ⟨#[]⟩,.string ⟨#[]⟩,.string ⟨#[]⟩,.string ⟨#[]⟩,.string ⟨#[]⟩,.string ⟨#[]⟩,.string ⟨#[]⟩,.string ⟨#[]⟩] 9)→Below w.heap.size w W∧(∀ j,j≤8→W.cell? ⟨w.heap.size,j,none⟩=some (.string ⟨#[]⟩))∧(∀ o,W.frozen? ⟨w.heap.size,o,none⟩=false)∧w.heap.size<W.heap.size:=by
  rintro W rfl
  refine ⟨(Below.refl _ _).alloc (Nat.le_refl _) _,fun j hj => ?_,fun o => zz30,zz30⟩
  rcases (show j=0∨j=1∨j=2∨j=3∨j=4∨j=5∨j=6∨j=7∨j=8 by omega) with rfl | rfl | rfl | rfl | rfl | rfl | rfl | rfl | rfl <;> exact ya1 _ _ _ _ _ rfl
 have HE0:Hid (yae 1 [] n=emptyD n 0):=zd rfl
 have HEM:=zd (fun k => emptyD_max n k)
 go_enter Tryz.func235,Tryz.ntmps235
 go_wp2_with (fail)
 obtain ⟨W,hW⟩:∃ W,w.alloc (.cells #[.string ⟨#[]⟩,.string ⟨#[]⟩,.string ⟨#[]⟩,.string ⟨#[]⟩,.string ⟨#[]⟩,.string ⟨#[]⟩,.string ⟨#[]⟩,.string ⟨#[]⟩,.string ⟨#[]⟩] 9)=W:=⟨_,rfl⟩
 rw [hW]
 obtain ⟨hBW,ha,hf,hlW⟩:=hWd W hW.symm
 clear hW hWd hmk
 have HBW:=zd hBW
 have hlA:=hlW
 refine (spec_TagHash _ 1 zz41 [] _ 0 none_ (show Row false _ _ _ ([]:List ByteArray) none_ from fun h => absurd rfl h) zz30 n hn).mono ?_
 rintro e0 w0 ⟨rfl,hb0⟩
 rw [HE0.out]
 have hV:=Below.via hb0
 have hB0:=hBW.trans (hV.mono hBW.size)
 have ha0:=fun (j:Nat) (hj:j≤8) => (hV.cell (p:=⟨w.heap.size,j,none⟩) hlW).trans (ha j hj)
 have hf0:=fun (o:Nat) => (hV.frozen (p:=⟨w.heap.size,o,none⟩) hlW).trans (hf o)
 have hl0:w.heap.size<w0.heap.size:=Nat.lt_of_lt_of_le hlW hV.size
 have h8:=ha0 8 (Nat.le_refl _)
 have HA0:=zd ha0
 have HF0:=zd hf0
 have HB0:=zd hB0
 have HS8:=zd (World.cell?_setCell_same w0 ⟨w.heap.size,8,none⟩ (.string (emptyD n 0)) h8)
 have HES:Hid (∀ k,yae 3 [emptyD n k,emptyD n k] n=emptyD n (k+1)):=zd (fun _ => rfl)
 clear ha hf hBW hb0 hV ha0 hB0 hlA HE0
 go_wp2
 go_loopw [4] (fun i wr => ∃ l:Nat,l≤8∧i = .int .i64 ((l:Int) - 1)∧Hid (∀ j,l≤j→j≤8→wr.cell? ⟨w.heap.size,j,none⟩=some (.string (emptyD n (8 - j))))∧Hid (∀ j,j<l→wr.cell? ⟨w.heap.size,j,none⟩=some (.string ⟨#[]⟩))∧Hid (∀ o,wr.frozen? ⟨w.heap.size,o,none⟩=false)∧Hid (Below w.heap.size w wr)∧w.heap.size<wr.heap.size) (fun i _ => (intOf i+1).toNat)
 case atStart =>
  refine ⟨8,Nat.le_refl _,rfl,zd (fun j h1 h2 => ?_),zd (fun j h1 => ?_),zd (fun o => by simpa using HF0.out o),zd (Below.setCell HB0.out (Nat.le_refl _) _),by simpa using hl0⟩
  ·obtain rfl:j=8:=by omega
   exact HS8.out
  ·exact (World.cell?_setCell_other _ _ _ _ zz81).trans (HA0.out j zz13)
 case round =>
  clear h8 hf0 hl0
  obtain ⟨l,hl8,rfl,HC,HZ,HFZ,HBr,hlr⟩:=hrel
  by_cases hl0:l=0
  ·subst hl0
   go_wp2
   go_ret
   exact ⟨w.heap.size,rfl,Nat.le_refl _,hlr,fun j hj => HC.out j (Nat.zero_le _) hj,HBr.out⟩
  ·obtain ⟨q,rfl⟩:∃ q,l=q+1:=⟨l - 1,zz13⟩
   have hqe:(((q+1:Nat):Int) - 1)=(q:Int):=zz13
   simp only [hqe]
   have x1:=HC.out (q+1) (Nat.le_refl _) hl8
   have x0:=HZ.out q zz13
   have hfr:=HFZ.out q
   have hq8:q<8:=zz13
   have hqge:(q:Int) ≥ 0:=zz13
   have hq0:(0:Int)≤(q:Int):=zz13
   have hq9:(q:Int)<9:=zz13
   have hq1:IntKind.i64.wrap ((q:Int)+1)=(q:Int)+1:=zz72
   have hq19:(q:Int)+1<9:=zz13
   have hq10:(0:Int)≤(q:Int)+1:=zz13
   have hqt:((q:Int)+1).toNat=q+1:=zz13
   have hqm:IntKind.i64.wrap ((q:Int) - 1)=(q:Int) - 1:=zz72
   have HST:Hid (yae 3 [emptyD n (8 - (q+1)),emptyD n (8 - (q+1))] n=emptyD n (8 - q)):=zd (by rw [HES.out]; congr 1; omega)
   have hem:=HEM.out (8 - (q+1))
   have HM:=zd (fun (w':World) (h:Below wr.heap.size wr w') => (⟨(h.cell (p:=⟨w.heap.size,q+1,none⟩) hlr).trans x1,HBr.out.trans (h.mono (Nat.le_of_lt hlr))⟩:w'.cell? ⟨w.heap.size,q+1,none⟩=some (.string (emptyD n (8 - (q+1))))∧Below w.heap.size w w'))
   have HM0:=zd (fun (w':World) (h:Below wr.heap.size wr w') => (⟨(h.cell (p:=⟨w.heap.size,q,none⟩) hlr).trans x0,(h.frozen (p:=⟨w.heap.size,q,none⟩) hlr).trans hfr⟩:w'.cell? ⟨w.heap.size,q,none⟩=some (.string ⟨#[]⟩)∧w'.frozen? ⟨w.heap.size,q,none⟩=false))
   have HMA:=zd (fun (w':World) (h:Below wr.heap.size wr w') => (⟨fun j h1 h2 => (h.cell (p:=⟨w.heap.size,j,none⟩) hlr).trans (HC.out j h1 h2),fun j h1 => (h.cell (p:=⟨w.heap.size,j,none⟩) hlr).trans (HZ.out j h1),fun o => (h.frozen (p:=⟨w.heap.size,o,none⟩) hlr).trans (HFZ.out o)⟩:(∀ j,q+1≤j→j≤8→w'.cell? ⟨w.heap.size,j,none⟩=some (.string (emptyD n (8 - j))))∧(∀ j,j<q+1→w'.cell? ⟨w.heap.size,j,none⟩=some (.string ⟨#[]⟩))∧(∀ o,w'.frozen? ⟨w.heap.size,o,none⟩=false)))
   obtain ⟨E,hEe⟩:∃ E,emptyD n (8 - (q+1))=E:=⟨_,rfl⟩
   simp only [hEe] at HST hem HM x1
   have hB:=Below.refl wr.heap.size wr
   have HEE:=zd hEe
   clear hEe x1 x0 hfr HC HZ HFZ hqe
   go_wp2_with (fail)
   go_region_held3 (fun w' => w'.cell? ⟨w.heap.size,q+1,none⟩=some (.string E)∧Below w.heap.size w w')
    (first | exact ⟨(World.cell?_setCell_other _ _ _ _ zz81).trans (HM.out _ hB).1,Below.setCell (HM.out _ hB).2 (Nat.le_refl _) _⟩ | exact HM.out _ (by have zh:=hB; exact zz11))
    (first | (go_at_call 183; refine (spec_TagHash _ 3 zz41 [E,E] _ _ _ (by first | exact row_pairAt _ E E hem hem _ _ zz63 | exact Row.drewC (row_pairAt _ E E hem hem _ _ zz63)) zz30 n hn).mono ?_; rintro e5 w5 ⟨rfl,hb5⟩; have hB:=Below.step (a:=wr) (by have zh:=hB; exact zz11) hb5; have hs5:=hB.size; have hl5:w.heap.size<w5.heap.size:=zz13; have y0:=(HM0.out _ hB).1; have yf:=(HM0.out _ hB).2) | fail)
   obtain ⟨HA1,HA2,HA3⟩:=HMA.out _ hB
   have HSS:=zd (World.cell?_setCell_same w5 ⟨w.heap.size,q,none⟩ (.string (emptyD n (8 - q))) y0)
   have HRR:=zd (And.intro HA1 (And.intro HA2 HA3))
   have HB5:=zd (HBr.out.trans (hB.mono (Nat.le_of_lt hlr)))
   rw [HST.out]
   clear HA1 HA2 HA3 y0 yf
   go_wp2
   go_roundw
   case rel =>
    refine ⟨q,zz13,by go_num,zd (fun j h1 h2 => ?_),zd (fun j h1 => ?_),zd (fun o => by simpa using HRR.out.2.2 o),zd (Below.setCell HB5.out (Nat.le_refl _) _),by simpa using hl5⟩
    ·by_cases hjq:j=q
     ·subst hjq; exact HSS.out
     ·exact (World.cell?_setCell_other _ _ _ _ zz81).trans (HRR.out.1 j zz13 h2)
    ·exact (World.cell?_setCell_other _ _ _ _ zz81).trans (HRR.out.2.1 j zz13)
   case measure => simp [intOf]
end Go.Proofs.YtcbbjfafmmcfiaaGreatDoor
namespace Go.Proofs.YtcbbjfafmmcfiaaGreatDoor
open Go.RowKit Lay Mk
theorem place_lt {ix k m:Nat} (hix:ix<256) (hk:k<m) (hm:m≤8):(ix / 2 ^ k) ^^^ 1<2 ^ (8 - k):=by
 refine Nat.xor_lt_two_pow ?_ (Nat.lt_of_lt_of_le (by decide:1<2 ^ 1) (Nat.pow_le_pow_right zz13 zz13))
 rw [Nat.div_lt_iff_lt_mul (Nat.two_pow_pos k), ← Nat.pow_add,show 8 - k+k=8 by omega]
 exact hix
theorem xor1 {q:Nat} (h:q<256):bits .xor .i64 (q:Int) 1=((q ^^^ 1:Nat):Int):=(show ∀ q:Fin 256,bits .xor .i64 ((q.val:Nat):Int) 1=((q.val ^^^ 1:Nat):Int) from by decide +kernel) ⟨q,h⟩
theorem impl_sides (w:World) (xs:List Leaf) (A:Option Addr) (cap:Nat) (S:Blks) (hx:Row false w A cap xs S) (A2:Option Addr) (cap2:Nat) (S2:Blks) (hi:Row false w A2 cap2 (ixs xs) S2) (hl:xs.length≤1048576) (n:Int) (hn:I64 n) (ix:Nat) (hix:ix<256) (m:Nat) (hm:m≤8) (hT:Tabs w):Calls Tryz.prog 171 #[.agg #[.slice A xs.length cap,.slice A2 xs.length cap2,.int .i64 n],.int .i64 (ix:Int),.int .i64 (8 - (m:Int))] w (OwnRes (sidesD n ix xs m) w):=by
 have HT:=zd hT
 clear hT
 have hWd:∀ W,W=w.alloc (.cells #[.slice A xs.length cap,.slice A2 xs.length cap2,.int .i64 n] 241)→Below w.heap.size w W∧W.cell? ⟨w.heap.size,0,none⟩=some (.slice A xs.length cap)∧W.cell? ⟨w.heap.size,1,none⟩=some (.slice A2 xs.length cap2)∧W.cell? ⟨w.heap.size,2,none⟩=some (.int .i64 n)∧w.heap.size<W.heap.size:=by
  rintro W rfl
  exact ⟨(Below.refl _ _).alloc (Nat.le_refl _) _,ya1 _ _ _ _ _ rfl,ya1 _ _ _ _ _ rfl,ya1 _ _ _ _ _ rfl,zz30⟩
 go_enter Tryz.func171,Tryz.ntmps171
 go_wp2_with (fail)
 obtain ⟨W,hW⟩:∃ W,w.alloc (.cells #[.slice A xs.length cap,.slice A2 xs.length cap2,.int .i64 n] 241)=W:=⟨_,rfl⟩
 rw [hW]
 obtain ⟨hBW,g0,g1,g2,hlW⟩:=hWd W hW.symm
 clear hW hWd
 have HBW:=zd hBW
 have HM0:=zd (fun (w':World) (h:Below W.heap.size W w') => (⟨(h.cell (p:=⟨w.heap.size,0,none⟩) hlW).trans g0,(h.cell (p:=⟨w.heap.size,1,none⟩) hlW).trans g1,(h.cell (p:=⟨w.heap.size,2,none⟩) hlW).trans g2,h⟩:w'.cell? ⟨w.heap.size,0,none⟩=some (.slice A xs.length cap)∧w'.cell? ⟨w.heap.size,1,none⟩=some (.slice A2 xs.length cap2)∧w'.cell? ⟨w.heap.size,2,none⟩=some (.int .i64 n)∧Below W.heap.size W w'))
 have HO:=zd (Own.start (α:=ByteArray) (Below.refl W.heap.size W))
 have RX:=zd (Row.later hx hBW)
 have RI:=zd (Row.later hi hBW)
 clear hBW hx hi
 go_loopw [7,8] (fun u i wr => ∃ (k:Nat) (A3:Option Addr) (c:Nat),k≤m∧i = .int .i64 (8 - (k:Int))∧u = .slice A3 k c∧Own W wr A3 c (sidesD n ix xs k)) (fun _ i _ => (intOf i).toNat)
 case atStart => exact ⟨0,none,0,Nat.zero_le _,rfl,rfl,HO.out⟩
 case round =>
  clear HO g0 g1 g2
  obtain ⟨k,A3,c,hk,rfl,rfl,hown⟩:=hrel
  have hb:=hown.bl
  have HOW:=zd hown
  obtain ⟨g0,g1,g2, -⟩:=HM0.out wr hb
  by_cases hlt:k<m
  ·have hgt:(8:Int) - (k:Int) > 8 - (m:Int):=by omega
   have hw1:IntKind.i64.wrap (8 - (k:Int) - 1)=8 - (k:Int) - 1:=IntWalk.i64_in _ zz13
   have hw2:IntKind.i64.wrap (8 - (8 - (k:Int)))=(k:Int):=zz72
   have HNL:=zd (sidesD_len n ix xs k)
   have HPL:=zd (place_lt hix hlt hm)
   have HBr:=zd (HBW.out.trans (hb.mono HBW.out.size))
   have HN:=zd (fun W' (h:Below W.heap.size W W') => impl_node n hn k zz13 W' ((ix / 2 ^ k) ^^^ 1) HPL.out xs A cap S (Row.later RX.out h) A2 cap2 S2 (Row.later RI.out h) hl (HT.out.later (HBW.out.trans (h.mono HBW.out.size))))
   have hnm:=nodeD_max n k ((ix / 2 ^ k) ^^^ 1) xs
   have HSS:Hid (sidesD n ix xs (k+1)=sidesD n ix xs k ++ [nodeD n k ((ix / 2 ^ k) ^^^ 1) xs]):=zd rfl
   obtain ⟨a,hae⟩:∃ a,nodeD n k ((ix / 2 ^ k) ^^^ 1) xs=a:=⟨_,rfl⟩
   rw [hae] at HN hnm HSS
   have hbx:(((ix / 2 ^ k) ^^^ 1:Nat):Int)=bits .xor .i64 ((ix:Int) / 2 ^ k) 1:=by
    rw [← xor1 (Nat.lt_of_le_of_lt (Nat.div_le_self _ _) hix),Int.natCast_ediv,Int.natCast_pow]; rfl
   rw [hbx] at HN
   clear hae hbx
   have hwl:=hb.size
   have hB:=Below.refl wr.heap.size wr
   clear hown
   go_wp2_with (fail)
   go_region_held3 (fun w' => w'.cell? ⟨w.heap.size,0,none⟩=some (.slice A xs.length cap)∧w'.cell? ⟨w.heap.size,1,none⟩=some (.slice A2 xs.length cap2)∧w'.cell? ⟨w.heap.size,2,none⟩=some (.int .i64 n)∧Below W.heap.size W w')
    (first | exact HM0.out _ hE | exact HM0.out _ (hb.trans (Below.mono (w:=wr) (by have zh:=hB; exact zz11) hwl)))
    (first | (go_at_call 241; with_reducible refine (HN.out _ ?_).mono ?_; (exact hb.trans (Below.mono (w:=wr) (by have zh:=hB; exact zz11) hwl)); rintro e5 w5 ⟨rfl,hb5⟩; have hB:=Below.step (a:=wr) (by have zh:=hB; exact zz11) hb5; have hs5:=hB.size) | ((refine step_push (α:=ByteArray) (w0:=W) rfl _ _ rfl rfl HNL.out.symm (HOW.out.later (by have zh:=hB; exact zz11)) rfl rfl (src1 hnm zz63 rfl) zz13 ?_); intro A6 c6 w6 o6 hE))
   go_wp2
   go_roundw
   case rel => exact ⟨k+1,A6,c6,hlt,by go_num,rfl,by rw [HSS.out]; exact o6⟩
   case measure => simp [intOf]; omega
  ·have hke:k=m:=by omega
   subst hke
   have HNL:=zd (sidesD_len n ix xs k)
   have HOF:=zd (hown.from HBW.out)
   clear hown hb
   go_wp2
   go_ret
   exact OwnRes.mk HOF.out rfl HNL.out.symm
end Go.Proofs.YtcbbjfafmmcfiaaGreatDoor
namespace Go.Proofs.YtcbbjfafmmcfiaaGreatDoor
open Go.RowKit Lay Mk
def stampKey (h e:Int):Int:=if (inB h 0 2 && inB e 1 4)=true then 4*(h+1)+e - 1 else -1
def stampTx (x:Head):ByteArray:=yae 8 [headHash x] 16
def stampOk (root:ByteArray) (x:Head) (s:Sig):Bool:=headOk x && decide (s.at_=stampKey x.house x.epoch) && sigOk root (stampTx x) s
theorem impl_StampAt (h e:Int) (w:World):Calls Tryz.prog 262 #[.int .i64 h,.int .i64 e] w fun r w' => r = .returned (.int .i64 (stampKey h e))∧w=w':=by
 cases h1:inB h 0 2
 ·have HC:Hid (stampKey h e = -1):=zd (by unfold stampKey; rw [h1]; rfl)
  go_enter Tryz.func262,Tryz.ntmps262
  go_wp2_with (first | (go_at_call 266; refine (house_in _ _).mono ?_; rintro e2 w2 ⟨rfl,rfl⟩) | (go_at_call 153; refine (epoch_in _ _).mono ?_; rintro e3 w3 ⟨rfl,rfl⟩))
  go_ret
  exact ⟨by rw [HC.out]; rfl,rfl⟩
 cases h2:inB e 1 4
 ·have HC:Hid (stampKey h e = -1):=zd (by unfold stampKey; rw [h1,h2]; rfl)
  go_enter Tryz.func262,Tryz.ntmps262
  go_wp2_with (first | (go_at_call 266; refine (house_in _ _).mono ?_; rintro e2 w2 ⟨rfl,rfl⟩) | (go_at_call 153; refine (epoch_in _ _).mono ?_; rintro e3 w3 ⟨rfl,rfl⟩))
  go_ret
  exact ⟨by rw [HC.out]; rfl,rfl⟩
 have HC:Hid (stampKey h e=4*(h+1)+e - 1):=zd (by unfold stampKey; rw [h1,h2]; rfl)
 have hb1:0≤h∧h≤2:=by simpa [inB] using h1
 have hb2:1≤e∧e≤4:=by simpa [inB] using h2
 obtain ⟨q1,q2⟩:=hb1
 obtain ⟨q3,q4⟩:=hb2
 go_enter Tryz.func262,Tryz.ntmps262
 go_wp2_with (first | (go_at_call 266; refine (house_in _ _).mono ?_; rintro e2 w2 ⟨rfl,rfl⟩) | (go_at_call 153; refine (epoch_in _ _).mono ?_; rintro e3 w3 ⟨rfl,rfl⟩))
 go_ret
 exact ⟨by rw [HC.out]; rfl,rfl⟩
theorem spec_StampAt (h e:Int) (w:World):Calls Tryz.prog 252 #[.int .i64 h,.int .i64 e] w fun r w' => r = .returned (.int .i64 (stampKey h e))∧w=w':=by
 cases h1:inB h 0 2
 ·have HC:Hid (stampKey h e = -1):=zd (by unfold stampKey; rw [h1]; rfl)
  go_enter Tryz.func252,Tryz.ntmps252
  go_wp2_with (go_at_call 62; refine (spec_in _ _ _ _).mono ?_; rintro e2 w2 ⟨rfl,rfl⟩)
  go_ret
  exact ⟨by rw [HC.out]; rfl,rfl⟩
 cases h2:inB e 1 4
 ·have HC:Hid (stampKey h e = -1):=zd (by unfold stampKey; rw [h1,h2]; rfl)
  go_enter Tryz.func252,Tryz.ntmps252
  go_wp2_with (go_at_call 62; refine (spec_in _ _ _ _).mono ?_; rintro e2 w2 ⟨rfl,rfl⟩)
  go_ret
  exact ⟨by rw [HC.out]; rfl,rfl⟩
 have HC:Hid (stampKey h e=4*(h+1)+e - 1):=zd (by unfold stampKey; rw [h1,h2]; rfl)
 have hb1:0≤h∧h≤2:=by simpa [inB] using h1
 have hb2:1≤e∧e≤4:=by simpa [inB] using h2
 obtain ⟨q1,q2⟩:=hb1
 obtain ⟨q3,q4⟩:=hb2
 go_enter Tryz.func252,Tryz.ntmps252
 go_wp2_with (go_at_call 62; refine (spec_in _ _ _ _).mono ?_; rintro e2 w2 ⟨rfl,rfl⟩)
 go_ret
 exact ⟨by rw [HC.out]; rfl,rfl⟩
theorem impl_stampText (x:Head) (w:World) (hT:Tabs w):Calls Tryz.prog 263 #[.agg (Head.cs x).toArray] w fun e w' => e = .returned (.string (stampTx x))∧Below w.heap.size w w':=by
 have HT:=zd hT
 clear hT
 have HH:=zd (fun W (h:Below w.heap.size w W) => impl_HeadHash x W (HT.out.later h))
 have HF:Hid (stampTx x=yae 8 [headHash x] 16):=zd rfl
 have hle:=headHash_le x
 obtain ⟨t,ht⟩:∃ t,headHash x=t:=⟨_,rfl⟩
 rw [ht] at HH HF hle
 clear ht
 obtain ⟨hs,ep,r,p⟩:=x
 simp only [Head.cs] at HH ⊢
 go_enter Tryz.func263,Tryz.ntmps263
 go_wp2_with (fail)
 refine (HH.out _ ((Below.refl _ _).alloc (Nat.le_refl _) _)).mono ?_
 rintro e1 w1 ⟨rfl,hb1⟩
 have HB1:=zd (Below.via hb1)
 clear hb1
 go_wp2_with (fail)
 refine (impl_hashOf _ 8 zz41 [t] _ _ _ (row_one w1 t (ml hle zz13) _) zz30 16 zz41 (HT.out.later (HB1.out.alloc HB1.out.size _))).mono ?_
 rintro e5 w5 ⟨rfl,hb5⟩
 go_wp2
 go_ret
 exact ⟨ret_str (by rw [HF.out]),(HB1.out.alloc HB1.out.size _).trans (hb5.mono (by have:=HB1.out.size; simp; omega))⟩
theorem spec_l14Stamp (x:Head) (w:World):Calls Tryz.prog 253 #[.agg (Head.cs x).toArray] w fun e w' => e = .returned (.string (stampTx x))∧Below w.heap.size w w':=by
 have HH:=zd (fun W (h:Below w.heap.size w W) => spec_HeadHash x W)
 have HF:Hid (stampTx x=yae 8 [headHash x] 16):=zd rfl
 have hle:=headHash_le x
 obtain ⟨t,ht⟩:∃ t,headHash x=t:=⟨_,rfl⟩
 rw [ht] at HH HF hle
 clear ht
 obtain ⟨hs,ep,r,p⟩:=x
 simp only [Head.cs] at HH ⊢
 go_enter Tryz.func253,Tryz.ntmps253
 go_wp2_with (fail)
 refine (HH.out _ ((Below.refl _ _).alloc (Nat.le_refl _) _)).mono ?_
 rintro e1 w1 ⟨rfl,hb1⟩
 have HB1:=zd (Below.via hb1)
 clear hb1
 go_wp2_with (fail)
 refine (spec_TagHash _ 8 zz41 [t] _ _ _ (row_one w1 t (ml hle zz13) _) zz30 16 zz41).mono ?_
 rintro e5 w5 ⟨rfl,hb5⟩
 go_wp2
 go_ret
 exact ⟨ret_str (by rw [HF.out]),(HB1.out.alloc HB1.out.size _).trans (hb5.mono (by have:=HB1.out.size; simp; omega))⟩
theorem impl_StampOk (w:World) (root:ByteArray) (x:Head) (s:Sig) (cs:List Value) (S:Blks) (hx:rd false w cs s S) (hT:Tabs w):Calls Tryz.prog 187 #[.string root,.agg (Head.cs x).toArray,.agg cs.toArray] w fun e w' => e = .returned (.bool (stampOk root x s))∧Below w.heap.size w w':=by
 have HT:=zd hT
 clear hT
 have HSig:=zd (fun W (h:Below w.heap.size w W) => impl_SigOk W root (stampTx x) s cs S (Lay.later hx h) (HT.out.later h))
 have HTX:=zd (fun W (h:Below w.heap.size w W) => impl_stampText x W (HT.out.later h))
 have HHO:=zd (fun W => impl_HeadOk x W)
 have HSA:=zd (fun W => impl_StampAt x.house x.epoch W)
 have HOK:Hid (stampOk root x s=(headOk x && decide (s.at_=stampKey x.house x.epoch) && sigOk root (stampTx x) s)):=zd rfl
 obtain ⟨A0,k0,S0,A1,k1,S1,A2,k2,S2,rfl, -⟩:=Sig.open hx
 clear hx
 obtain ⟨v,hv⟩:∃ v,stampKey x.house x.epoch=v:=⟨_,rfl⟩
 rw [hv] at HSA HOK
 clear hv
 obtain ⟨R,hR⟩:∃ R,stampOk root x s=R:=⟨_,rfl⟩
 rw [hR] at HOK ⊢
 clear hR
 obtain ⟨z,hz⟩:∃ z,sigOk root (stampTx x) s=z:=⟨_,rfl⟩
 rw [hz] at HSig HOK
 clear hz
 obtain ⟨tx,htx⟩:∃ t,stampTx x=t:=⟨_,rfl⟩
 rw [htx] at HSig HTX
 clear htx
 obtain ⟨b,hb⟩:∃ b,headOk x=b:=⟨_,rfl⟩
 rw [hb] at HHO HOK
 clear hb
 obtain ⟨hh,he,hr,hp⟩:=x
 obtain ⟨a,so,ss,sd⟩:=s
 simp only [Head.cs,Sig.cs] at HSig HTX HHO HSA HOK ⊢
 cases b
 ·go_enter Tryz.func187,Tryz.ntmps187
  go_wp2
  generalize hW:(w.alloc (.cells #[.int .i64 hh,.int .i64 he,.string hr,.string hp] 102)).alloc (.cells #[.int .i64 a,.slice A0 so.length k0,.slice A1 ss.length k1,.slice A2 sd.length k2] 103)=W
  have HBW:Hid (Below w.heap.size w W):=zz67
  have c0:=Grown.cell (show W.cell? ⟨w.heap.size,0,none⟩=some (.int .i64 hh) by rw [← hW]; exact ya7 (ya1 _ _ _ _ _ rfl))
  have c1:=Grown.cell (show W.cell? ⟨w.heap.size,1,none⟩=some (.int .i64 he) by rw [← hW]; exact ya7 (ya1 _ _ _ _ _ rfl))
  have c2:=Grown.cell (show W.cell? ⟨w.heap.size,2,none⟩=some (.string hr) by rw [← hW]; exact ya7 (ya1 _ _ _ _ _ rfl))
  have c3:=Grown.cell (show W.cell? ⟨w.heap.size,3,none⟩=some (.string hp) by rw [← hW]; exact ya7 (ya1 _ _ _ _ _ rfl))
  have d0:=Grown.cell (show W.cell? ⟨w.heap.size+1,0,none⟩=some (.int .i64 a) by rw [← hW,show w.heap.size+1=(w.alloc (.cells #[.int .i64 hh,.int .i64 he,.string hr,.string hp] 102)).heap.size from by simp]; exact ya1 _ _ _ _ _ rfl)
  have d1:=Grown.cell (show W.cell? ⟨w.heap.size+1,1,none⟩=some (.slice A0 so.length k0) by rw [← hW,show w.heap.size+1=(w.alloc (.cells #[.int .i64 hh,.int .i64 he,.string hr,.string hp] 102)).heap.size from by simp]; exact ya1 _ _ _ _ _ rfl)
  have d2:=Grown.cell (show W.cell? ⟨w.heap.size+1,2,none⟩=some (.slice A1 ss.length k1) by rw [← hW,show w.heap.size+1=(w.alloc (.cells #[.int .i64 hh,.int .i64 he,.string hr,.string hp] 102)).heap.size from by simp]; exact ya1 _ _ _ _ _ rfl)
  have d3:=Grown.cell (show W.cell? ⟨w.heap.size+1,3,none⟩=some (.slice A2 sd.length k2) by rw [← hW,show w.heap.size+1=(w.alloc (.cells #[.int .i64 hh,.int .i64 he,.string hr,.string hp] 102)).heap.size from by simp]; exact ya1 _ _ _ _ _ rfl)
  have hz1:w.heap.size+1<W.heap.size:=by rw [← hW]; simp
  clear hW
  obtain ⟨B,hB⟩:∃ B,w.heap.size=B:=⟨_,rfl⟩
  simp only [hB] at c0 c1 c2 c3 d0 d1 d2 d3 hz1 ⊢
  have HBE:=zd hB
  clear hB
  refine ya4 (by kernel_rfl) (by kernel_rfl) ?_
  repeat (go_big_quiet_step (first | (go_at_call 198; exact ya8 (HHO.out _)) | (go_at_call 262; exact yac (HSA.out _)) | (go_at_call 263; exact ya8 (HTX.out _ (HBW.out.trans ((Grown.ok _).mono HBW.out.size)))) | (go_at_call 200; exact ya8 (HSig.out _ (HBW.out.trans ((Grown.ok _).mono HBW.out.size))))))
  refine wpQuiet_nil ?_
  intro w2 hw2
  have hR:=zd (yaa hw2)
  clear hw2
  go_wp2
  go_ret
  exact ⟨yab (by rw [HOK.out]; simp []),by first | exact (HBW.out).trans (hR.out.mono HBW.out.size) | rw [← HBE.out]; exact (HBW.out).trans (hR.out.mono HBW.out.size)⟩
 by_cases hav:a=v
 ·have HAV:=zd hav
  subst hav
  go_enter Tryz.func187,Tryz.ntmps187
  go_wp2
  generalize hW:(w.alloc (.cells #[.int .i64 hh,.int .i64 he,.string hr,.string hp] 102)).alloc (.cells #[.int .i64 a,.slice A0 so.length k0,.slice A1 ss.length k1,.slice A2 sd.length k2] 103)=W
  have HBW:Hid (Below w.heap.size w W):=zz67
  have c0:=Grown.cell (show W.cell? ⟨w.heap.size,0,none⟩=some (.int .i64 hh) by rw [← hW]; exact ya7 (ya1 _ _ _ _ _ rfl))
  have c1:=Grown.cell (show W.cell? ⟨w.heap.size,1,none⟩=some (.int .i64 he) by rw [← hW]; exact ya7 (ya1 _ _ _ _ _ rfl))
  have c2:=Grown.cell (show W.cell? ⟨w.heap.size,2,none⟩=some (.string hr) by rw [← hW]; exact ya7 (ya1 _ _ _ _ _ rfl))
  have c3:=Grown.cell (show W.cell? ⟨w.heap.size,3,none⟩=some (.string hp) by rw [← hW]; exact ya7 (ya1 _ _ _ _ _ rfl))
  have d0:=Grown.cell (show W.cell? ⟨w.heap.size+1,0,none⟩=some (.int .i64 a) by rw [← hW,show w.heap.size+1=(w.alloc (.cells #[.int .i64 hh,.int .i64 he,.string hr,.string hp] 102)).heap.size from by simp]; exact ya1 _ _ _ _ _ rfl)
  have d1:=Grown.cell (show W.cell? ⟨w.heap.size+1,1,none⟩=some (.slice A0 so.length k0) by rw [← hW,show w.heap.size+1=(w.alloc (.cells #[.int .i64 hh,.int .i64 he,.string hr,.string hp] 102)).heap.size from by simp]; exact ya1 _ _ _ _ _ rfl)
  have d2:=Grown.cell (show W.cell? ⟨w.heap.size+1,2,none⟩=some (.slice A1 ss.length k1) by rw [← hW,show w.heap.size+1=(w.alloc (.cells #[.int .i64 hh,.int .i64 he,.string hr,.string hp] 102)).heap.size from by simp]; exact ya1 _ _ _ _ _ rfl)
  have d3:=Grown.cell (show W.cell? ⟨w.heap.size+1,3,none⟩=some (.slice A2 sd.length k2) by rw [← hW,show w.heap.size+1=(w.alloc (.cells #[.int .i64 hh,.int .i64 he,.string hr,.string hp] 102)).heap.size from by simp]; exact ya1 _ _ _ _ _ rfl)
  have hz1:w.heap.size+1<W.heap.size:=by rw [← hW]; simp
  clear hW
  obtain ⟨B,hB⟩:∃ B,w.heap.size=B:=⟨_,rfl⟩
  simp only [hB] at c0 c1 c2 c3 d0 d1 d2 d3 hz1 ⊢
  have HBE:=zd hB
  clear hB
  refine ya4 (by kernel_rfl) (by kernel_rfl) ?_
  repeat (go_big_quiet_step (first | (go_at_call 198; exact ya8 (HHO.out _)) | (go_at_call 262; exact yac (HSA.out _)) | (go_at_call 263; exact ya8 (HTX.out _ (HBW.out.trans ((Grown.ok _).mono HBW.out.size)))) | (go_at_call 200; exact ya8 (HSig.out _ (HBW.out.trans ((Grown.ok _).mono HBW.out.size))))))
  refine wpQuiet_nil ?_
  intro w2 hw2
  have hR:=zd (yaa hw2)
  clear hw2
  go_wp2
  go_ret
  exact ⟨yab (by rw [HOK.out]; simp []),by first | exact (HBW.out).trans (hR.out.mono HBW.out.size) | rw [← HBE.out]; exact (HBW.out).trans (hR.out.mono HBW.out.size)⟩
 ·have HAV:=zd hav
  have hq1:(a == v)=false:=beq_eq_false_iff_ne.2 hav
  have hq2:decide (a=v)=false:=decide_eq_false hav
  clear hav
  go_enter Tryz.func187,Tryz.ntmps187
  go_wp2
  generalize hW:(w.alloc (.cells #[.int .i64 hh,.int .i64 he,.string hr,.string hp] 102)).alloc (.cells #[.int .i64 a,.slice A0 so.length k0,.slice A1 ss.length k1,.slice A2 sd.length k2] 103)=W
  have HBW:Hid (Below w.heap.size w W):=zz67
  have c0:=Grown.cell (show W.cell? ⟨w.heap.size,0,none⟩=some (.int .i64 hh) by rw [← hW]; exact ya7 (ya1 _ _ _ _ _ rfl))
  have c1:=Grown.cell (show W.cell? ⟨w.heap.size,1,none⟩=some (.int .i64 he) by rw [← hW]; exact ya7 (ya1 _ _ _ _ _ rfl))
  have c2:=Grown.cell (show W.cell? ⟨w.heap.size,2,none⟩=some (.string hr) by rw [← hW]; exact ya7 (ya1 _ _ _ _ _ rfl))
  have c3:=Grown.cell (show W.cell? ⟨w.heap.size,3,none⟩=some (.string hp) by rw [← hW]; exact ya7 (ya1 _ _ _ _ _ rfl))
  have d0:=Grown.cell (show W.cell? ⟨w.heap.size+1,0,none⟩=some (.int .i64 a) by rw [← hW,show w.heap.size+1=(w.alloc (.cells #[.int .i64 hh,.int .i64 he,.string hr,.string hp] 102)).heap.size from by simp]; exact ya1 _ _ _ _ _ rfl)
  have d1:=Grown.cell (show W.cell? ⟨w.heap.size+1,1,none⟩=some (.slice A0 so.length k0) by rw [← hW,show w.heap.size+1=(w.alloc (.cells #[.int .i64 hh,.int .i64 he,.string hr,.string hp] 102)).heap.size from by simp]; exact ya1 _ _ _ _ _ rfl)
  have d2:=Grown.cell (show W.cell? ⟨w.heap.size+1,2,none⟩=some (.slice A1 ss.length k1) by rw [← hW,show w.heap.size+1=(w.alloc (.cells #[.int .i64 hh,.int .i64 he,.string hr,.string hp] 102)).heap.size from by simp]; exact ya1 _ _ _ _ _ rfl)
  have d3:=Grown.cell (show W.cell? ⟨w.heap.size+1,3,none⟩=some (.slice A2 sd.length k2) by rw [← hW,show w.heap.size+1=(w.alloc (.cells #[.int .i64 hh,.int .i64 he,.string hr,.string hp] 102)).heap.size from by simp]; exact ya1 _ _ _ _ _ rfl)
  have hz1:w.heap.size+1<W.heap.size:=by rw [← hW]; simp
  clear hW
  obtain ⟨B,hB⟩:∃ B,w.heap.size=B:=⟨_,rfl⟩
  simp only [hB] at c0 c1 c2 c3 d0 d1 d2 d3 hz1 ⊢
  have HBE:=zd hB
  clear hB
  refine ya4 (by kernel_rfl) (by kernel_rfl) ?_
  repeat (go_big_quiet_step (first | (go_at_call 198; exact ya8 (HHO.out _)) | (go_at_call 262; exact yac (HSA.out _)) | (go_at_call 263; exact ya8 (HTX.out _ (HBW.out.trans ((Grown.ok _).mono HBW.out.size)))) | (go_at_call 200; exact ya8 (HSig.out _ (HBW.out.trans ((Grown.ok _).mono HBW.out.size))))))
  refine wpQuiet_nil ?_
  intro w2 hw2
  have hR:=zd (yaa hw2)
  clear hw2
  go_wp2
  go_ret
  exact ⟨yab (by rw [HOK.out]; simp [HAV.out]),by first | exact (HBW.out).trans (hR.out.mono HBW.out.size) | rw [← HBE.out]; exact (HBW.out).trans (hR.out.mono HBW.out.size)⟩
theorem spec_StampOk (w:World) (root:ByteArray) (x:Head) (s:Sig) (cs:List Value) (S:Blks) (hx:rd false w cs s S):Calls Tryz.prog 180 #[.string root,.agg (Head.cs x).toArray,.agg cs.toArray] w fun e w' => e = .returned (.bool (stampOk root x s))∧Below w.heap.size w w':=by
 have HSig:=zd (fun W (h:Below w.heap.size w W) => spec_SigOk W root (stampTx x) s cs S (Lay.later hx h))
 have HTX:=zd (fun W (h:Below w.heap.size w W) => spec_l14Stamp x W)
 have HHO:=zd (fun W => spec_HeadOk x W)
 have HSA:=zd (fun W => spec_StampAt x.house x.epoch W)
 have HOK:Hid (stampOk root x s=(headOk x && decide (s.at_=stampKey x.house x.epoch) && sigOk root (stampTx x) s)):=zd rfl
 obtain ⟨A0,k0,S0,A1,k1,S1,A2,k2,S2,rfl, -⟩:=Sig.open hx
 clear hx
 obtain ⟨v,hv⟩:∃ v,stampKey x.house x.epoch=v:=⟨_,rfl⟩
 rw [hv] at HSA HOK
 clear hv
 obtain ⟨R,hR⟩:∃ R,stampOk root x s=R:=⟨_,rfl⟩
 rw [hR] at HOK ⊢
 clear hR
 obtain ⟨z,hz⟩:∃ z,sigOk root (stampTx x) s=z:=⟨_,rfl⟩
 rw [hz] at HSig HOK
 clear hz
 obtain ⟨tx,htx⟩:∃ t,stampTx x=t:=⟨_,rfl⟩
 rw [htx] at HSig HTX
 clear htx
 obtain ⟨b,hb⟩:∃ b,headOk x=b:=⟨_,rfl⟩
 rw [hb] at HHO HOK
 clear hb
 obtain ⟨hh,he,hr,hp⟩:=x
 obtain ⟨a,so,ss,sd⟩:=s
 simp only [Head.cs,Sig.cs] at HSig HTX HHO HSA HOK ⊢
 cases b
 ·go_enter Tryz.func180,Tryz.ntmps180
  go_wp2
  generalize hW:(w.alloc (.cells #[.int .i64 hh,.int .i64 he,.string hr,.string hp] 102)).alloc (.cells #[.int .i64 a,.slice A0 so.length k0,.slice A1 ss.length k1,.slice A2 sd.length k2] 103)=W
  have HBW:Hid (Below w.heap.size w W):=zz67
  have c0:=Grown.cell (show W.cell? ⟨w.heap.size,0,none⟩=some (.int .i64 hh) by rw [← hW]; exact ya7 (ya1 _ _ _ _ _ rfl))
  have c1:=Grown.cell (show W.cell? ⟨w.heap.size,1,none⟩=some (.int .i64 he) by rw [← hW]; exact ya7 (ya1 _ _ _ _ _ rfl))
  have c2:=Grown.cell (show W.cell? ⟨w.heap.size,2,none⟩=some (.string hr) by rw [← hW]; exact ya7 (ya1 _ _ _ _ _ rfl))
  have c3:=Grown.cell (show W.cell? ⟨w.heap.size,3,none⟩=some (.string hp) by rw [← hW]; exact ya7 (ya1 _ _ _ _ _ rfl))
  have d0:=Grown.cell (show W.cell? ⟨w.heap.size+1,0,none⟩=some (.int .i64 a) by rw [← hW,show w.heap.size+1=(w.alloc (.cells #[.int .i64 hh,.int .i64 he,.string hr,.string hp] 102)).heap.size from by simp]; exact ya1 _ _ _ _ _ rfl)
  have d1:=Grown.cell (show W.cell? ⟨w.heap.size+1,1,none⟩=some (.slice A0 so.length k0) by rw [← hW,show w.heap.size+1=(w.alloc (.cells #[.int .i64 hh,.int .i64 he,.string hr,.string hp] 102)).heap.size from by simp]; exact ya1 _ _ _ _ _ rfl)
  have d2:=Grown.cell (show W.cell? ⟨w.heap.size+1,2,none⟩=some (.slice A1 ss.length k1) by rw [← hW,show w.heap.size+1=(w.alloc (.cells #[.int .i64 hh,.int .i64 he,.string hr,.string hp] 102)).heap.size from by simp]; exact ya1 _ _ _ _ _ rfl)
  have d3:=Grown.cell (show W.cell? ⟨w.heap.size+1,3,none⟩=some (.slice A2 sd.length k2) by rw [← hW,show w.heap.size+1=(w.alloc (.cells #[.int .i64 hh,.int .i64 he,.string hr,.string hp] 102)).heap.size from by simp]; exact ya1 _ _ _ _ _ rfl)
  have hz1:w.heap.size+1<W.heap.size:=by rw [← hW]; simp
  clear hW
  obtain ⟨B,hB⟩:∃ B,w.heap.size=B:=⟨_,rfl⟩
  simp only [hB] at c0 c1 c2 c3 d0 d1 d2 d3 hz1 ⊢
  have HBE:=zd hB
  clear hB
  refine ya4 (by kernel_rfl) (by kernel_rfl) ?_
  repeat (go_big_quiet_step (first | (go_at_call 246; exact ya8 (HHO.out _)) | (go_at_call 252; exact yac (HSA.out _)) | (go_at_call 253; exact ya8 (HTX.out _ (HBW.out.trans ((Grown.ok _).mono HBW.out.size)))) | (go_at_call 248; exact ya8 (HSig.out _ (HBW.out.trans ((Grown.ok _).mono HBW.out.size))))))
  refine wpQuiet_nil ?_
  intro w2 hw2
  have hR:=zd (yaa hw2)
  clear hw2
  go_wp2
  go_ret
  exact ⟨yab (by rw [HOK.out]; simp []),by first | exact (HBW.out).trans (hR.out.mono HBW.out.size) | rw [← HBE.out]; exact (HBW.out).trans (hR.out.mono HBW.out.size)⟩
 by_cases hav:a=v
 ·have HAV:=zd hav
  subst hav
  go_enter Tryz.func180,Tryz.ntmps180
  go_wp2
  generalize hW:(w.alloc (.cells #[.int .i64 hh,.int .i64 he,.string hr,.string hp] 102)).alloc (.cells #[.int .i64 a,.slice A0 so.length k0,.slice A1 ss.length k1,.slice A2 sd.length k2] 103)=W
  have HBW:Hid (Below w.heap.size w W):=zz67
  have c0:=Grown.cell (show W.cell? ⟨w.heap.size,0,none⟩=some (.int .i64 hh) by rw [← hW]; exact ya7 (ya1 _ _ _ _ _ rfl))
  have c1:=Grown.cell (show W.cell? ⟨w.heap.size,1,none⟩=some (.int .i64 he) by rw [← hW]; exact ya7 (ya1 _ _ _ _ _ rfl))
  have c2:=Grown.cell (show W.cell? ⟨w.heap.size,2,none⟩=some (.string hr) by rw [← hW]; exact ya7 (ya1 _ _ _ _ _ rfl))
  have c3:=Grown.cell (show W.cell? ⟨w.heap.size,3,none⟩=some (.string hp) by rw [← hW]; exact ya7 (ya1 _ _ _ _ _ rfl))
  have d0:=Grown.cell (show W.cell? ⟨w.heap.size+1,0,none⟩=some (.int .i64 a) by rw [← hW,show w.heap.size+1=(w.alloc (.cells #[.int .i64 hh,.int .i64 he,.string hr,.string hp] 102)).heap.size from by simp]; exact ya1 _ _ _ _ _ rfl)
  have d1:=Grown.cell (show W.cell? ⟨w.heap.size+1,1,none⟩=some (.slice A0 so.length k0) by rw [← hW,show w.heap.size+1=(w.alloc (.cells #[.int .i64 hh,.int .i64 he,.string hr,.string hp] 102)).heap.size from by simp]; exact ya1 _ _ _ _ _ rfl)
  have d2:=Grown.cell (show W.cell? ⟨w.heap.size+1,2,none⟩=some (.slice A1 ss.length k1) by rw [← hW,show w.heap.size+1=(w.alloc (.cells #[.int .i64 hh,.int .i64 he,.string hr,.string hp] 102)).heap.size from by simp]; exact ya1 _ _ _ _ _ rfl)
  have d3:=Grown.cell (show W.cell? ⟨w.heap.size+1,3,none⟩=some (.slice A2 sd.length k2) by rw [← hW,show w.heap.size+1=(w.alloc (.cells #[.int .i64 hh,.int .i64 he,.string hr,.string hp] 102)).heap.size from by simp]; exact ya1 _ _ _ _ _ rfl)
  have hz1:w.heap.size+1<W.heap.size:=by rw [← hW]; simp
  clear hW
  obtain ⟨B,hB⟩:∃ B,w.heap.size=B:=⟨_,rfl⟩
  simp only [hB] at c0 c1 c2 c3 d0 d1 d2 d3 hz1 ⊢
  have HBE:=zd hB
  clear hB
  refine ya4 (by kernel_rfl) (by kernel_rfl) ?_
  repeat (go_big_quiet_step (first | (go_at_call 246; exact ya8 (HHO.out _)) | (go_at_call 252; exact yac (HSA.out _)) | (go_at_call 253; exact ya8 (HTX.out _ (HBW.out.trans ((Grown.ok _).mono HBW.out.size)))) | (go_at_call 248; exact ya8 (HSig.out _ (HBW.out.trans ((Grown.ok _).mono HBW.out.size))))))
  refine wpQuiet_nil ?_
  intro w2 hw2
  have hR:=zd (yaa hw2)
  clear hw2
  go_wp2
  go_ret
  exact ⟨yab (by rw [HOK.out]; simp []),by first | exact (HBW.out).trans (hR.out.mono HBW.out.size) | rw [← HBE.out]; exact (HBW.out).trans (hR.out.mono HBW.out.size)⟩
 ·have HAV:=zd hav
  have hq1:(a == v)=false:=beq_eq_false_iff_ne.2 hav
  have hq2:decide (a=v)=false:=decide_eq_false hav
  clear hav
  go_enter Tryz.func180,Tryz.ntmps180
  go_wp2
  generalize hW:(w.alloc (.cells #[.int .i64 hh,.int .i64 he,.string hr,.string hp] 102)).alloc (.cells #[.int .i64 a,.slice A0 so.length k0,.slice A1 ss.length k1,.slice A2 sd.length k2] 103)=W
  have HBW:Hid (Below w.heap.size w W):=zz67
  have c0:=Grown.cell (show W.cell? ⟨w.heap.size,0,none⟩=some (.int .i64 hh) by rw [← hW]; exact ya7 (ya1 _ _ _ _ _ rfl))
  have c1:=Grown.cell (show W.cell? ⟨w.heap.size,1,none⟩=some (.int .i64 he) by rw [← hW]; exact ya7 (ya1 _ _ _ _ _ rfl))
  have c2:=Grown.cell (show W.cell? ⟨w.heap.size,2,none⟩=some (.string hr) by rw [← hW]; exact ya7 (ya1 _ _ _ _ _ rfl))
  have c3:=Grown.cell (show W.cell? ⟨w.heap.size,3,none⟩=some (.string hp) by rw [← hW]; exact ya7 (ya1 _ _ _ _ _ rfl))
  have d0:=Grown.cell (show W.cell? ⟨w.heap.size+1,0,none⟩=some (.int .i64 a) by rw [← hW,show w.heap.size+1=(w.alloc (.cells #[.int .i64 hh,.int .i64 he,.string hr,.string hp] 102)).heap.size from by simp]; exact ya1 _ _ _ _ _ rfl)
  have d1:=Grown.cell (show W.cell? ⟨w.heap.size+1,1,none⟩=some (.slice A0 so.length k0) by rw [← hW,show w.heap.size+1=(w.alloc (.cells #[.int .i64 hh,.int .i64 he,.string hr,.string hp] 102)).heap.size from by simp]; exact ya1 _ _ _ _ _ rfl)
  have d2:=Grown.cell (show W.cell? ⟨w.heap.size+1,2,none⟩=some (.slice A1 ss.length k1) by rw [← hW,show w.heap.size+1=(w.alloc (.cells #[.int .i64 hh,.int .i64 he,.string hr,.string hp] 102)).heap.size from by simp]; exact ya1 _ _ _ _ _ rfl)
  have d3:=Grown.cell (show W.cell? ⟨w.heap.size+1,3,none⟩=some (.slice A2 sd.length k2) by rw [← hW,show w.heap.size+1=(w.alloc (.cells #[.int .i64 hh,.int .i64 he,.string hr,.string hp] 102)).heap.size from by simp]; exact ya1 _ _ _ _ _ rfl)
  have hz1:w.heap.size+1<W.heap.size:=by rw [← hW]; simp
  clear hW
  obtain ⟨B,hB⟩:∃ B,w.heap.size=B:=⟨_,rfl⟩
  simp only [hB] at c0 c1 c2 c3 d0 d1 d2 d3 hz1 ⊢
  have HBE:=zd hB
  clear hB
  refine ya4 (by kernel_rfl) (by kernel_rfl) ?_
  repeat (go_big_quiet_step (first | (go_at_call 246; exact ya8 (HHO.out _)) | (go_at_call 252; exact yac (HSA.out _)) | (go_at_call 253; exact ya8 (HTX.out _ (HBW.out.trans ((Grown.ok _).mono HBW.out.size)))) | (go_at_call 248; exact ya8 (HSig.out _ (HBW.out.trans ((Grown.ok _).mono HBW.out.size))))))
  refine wpQuiet_nil ?_
  intro w2 hw2
  have hR:=zd (yaa hw2)
  clear hw2
  go_wp2
  go_ret
  exact ⟨yab (by rw [HOK.out]; simp [HAV.out]),by first | exact (HBW.out).trans (hR.out.mono HBW.out.size) | rw [← HBE.out]; exact (HBW.out).trans (hR.out.mono HBW.out.size)⟩
end Go.Proofs.YtcbbjfafmmcfiaaGreatDoor
