/- A part of the proof. -/
import Derived.Test.YtcbbjfafmmcfiaaGreatDoorHAqL13xDl
set_option linter.unusedVariables false
set_option linter.unusedSimpArgs false
set_option maxRecDepth 100000
set_option maxHeartbeats 8000000
namespace Go.Proofs.YtcbbjfafmmcfiaaGreatDoor
open Go.RowKit Lay Mk
theorem in_idx {n:Int} {l:Nat} (h:inB n 0 ((l:Int) - 1)=true):∃ k:Nat,n=k∧k<l:=by
 have h1:0≤n∧n≤(l:Int) - 1:=by simpa [inB] using h
 exact ⟨n.toNat,zz13,zz13⟩
theorem sz_get {α:Type} [Lay α] [Mk α] {xs:List α} {k:Nat} (hk:k<xs.length) {n:Nat} (hz:szL xs≤n):sz xs[k]≤n:=by have:=sz_le_L xs k hk; omega
theorem house_at {m:Bool} {w:World} {A:Option Addr} {cap:Nat} {xs:List House} {S:Blks} (h:Row m w A cap xs S) {i:Nat} (hi:i<xs.length) :
  ∃ b off A0 k0 S0,A=some ⟨b,off,none⟩∧b<w.heap.size∧w.cell? ⟨b,off+i*14+5,none⟩=some (.slice A0 (xs[i]).coord.seals.length k0)∧(xs[i]).coord.seals.length≤k0∧k0≤maxLen∧Row m w A0 k0 (xs[i]).coord.seals S0:=by
 obtain ⟨b,off,cs,T,e,hb,ha,hr,_,_⟩:=Row.at_ h hi
 obtain ⟨_,_,_,_,_,_,A0,k0,S0,_,_,_,_,_,_,_,_,_,_,_,_,_,_,_,_,_,_,rfl, -, -, -, -, -, -, -, -, -, -, -,l0,m0,r0, -⟩:=House.open hr
 rw [show Lay.n House=14 from rfl] at ha
 exact ⟨b,off,_,_,_,e,hb,ha 5 _ rfl,l0,m0,r0⟩
end Go.Proofs.YtcbbjfafmmcfiaaGreatDoor
namespace Go.Proofs.YtcbbjfafmmcfiaaGreatDoor
open Go.RowKit Lay Mk
section
variable {P:Program} {ops:Array Oper} {rest:List Oper} {o:Oper} {a:Act} {Q:Exit→Act→World→Prop} {w:World}
theorem wpList_storeArr (hgd:o.guard=none) (t:TypeId) (p x:Operand) (ho:o.op = .store t p x) {g et:Nat} {l l':List Int} (hp:a.eval p = .pointer (some ⟨g,0,none⟩)) (hx:a.eval x = .agg (arr l'))
  (hA:Arr w g et l) (hl:l.length=l'.length) (hi:(P.info? t).map (·.size)=some l'.length)
  (h:∀ w',Arr w' g et l'→Chg (fun b => b=g) w w'→wpList P ops Q rest (a.put o.dst (.tuple #[])) w'):wpList P ops Q (o :: rest) a w:=by
 refine wpList_plain hgd fun K hK => ?_
 have hr:=run_storeVar_row (P:=P) w g et t (arr l) (arr l') hA (by rw [arr_size]; exact hi) (by rw [arr_size,arr_size]; exact hl) (by rw [Array.all_eq_true']; intro u hu; exact arr_one l' u (by simpa using hu))
 unfold Oper.wp execOp
 simp only [ho,hp,hx,Instr.storeAt,Instr.sureAddr,Sem.run_bind,Sem.run_pure,Result.andThen_ok,hr]
 refine hK _ _ (h _ (setRow_heap w g _ _ et _ hA) ⟨rfl,rfl,rfl,zz30,fun k _ hk => setRow_other w g k _ hk⟩)
theorem wpList_loadArr (hgd:o.guard=none) (t:TypeId) (x:Operand) (ho:o.op = .load t x) {g et e:Nat} {l:List Int} {n:Nat} (hx:a.eval x = .pointer (some ⟨g,0,none⟩)) (hA:Arr w g et l)
  (hu:P.underlying t=some (.array n e)) (hi:(P.info? t).map (·.size)=some l.length)
  (h:wpList P ops Q rest (a.put o.dst (.agg (arr l))) w):wpList P ops Q (o :: rest) a w :=
 wpList_load_row hgd t x ho g hx et (arr l) (0,0) _ hA hu rfl (by rw [arr_size]; exact hi) h
theorem wpList_newArr (hgd:o.guard=none) (t:TypeId) (p x:Operand) (ho:o.op = .store t p x) {l':List Int} {z:Array Value} {g:Nat} (hg:g=w.heap.size) (hp:a.eval p = .pointer (some ⟨g,0,none⟩)) (hx:a.eval x = .agg (arr l'))
  (hz:z.size=l'.length) (hi:(P.info? t).map (·.size)=some l'.length)
  (h:wpList P ops Q rest (a.put o.dst (.tuple #[])) (w.alloc (.cells (arr l') t))):wpList P ops Q (o :: rest) a (w.alloc (.cells z t)) :=
 wpList_storeNew hgd t p x ho hp hx hg (by rw [arr_size]; exact hi) (by rw [arr_size]; exact hz) (arr_one l') h
theorem results_arr {fn:Func} {p:Tmp} {ty:TypeId} (h:fn.results = #[.cell p ty]) (tmps:Array Value) (w:World) (g t:Nat) (l:List Int) {n e:Nat}
  (hp:tmps.getD p undef = .pointer (some ⟨g,0,none⟩)) (hA:Arr w g t l) (hu:P.underlying ty=some (.array n e)) (hi:(P.info? ty).map (·.size)=some l.length) :
  (results fn tmps).run P w = .ok (.agg (arr l)) w:=results_cell_row h tmps w g t (arr l) (0,0) _ hp hA hu rfl (by rw [arr_size]; exact hi)
end
theorem run_index_arr {P:Program} (w:World) {t e n:Nat} {l:List Int} {k:Nat} {i:TypeInfo} (hu:P.underlying t=some (.array n e)) (he:P.underlying e=some (.int .u32)) (hi:P.info? e=some i) (hs:i.size=1) (hk:k<n) (hl:k<l.length) :
  (Instr.index t (.agg (arr l)) (.int .i64 (k:Int))).run P w = .ok (.int .u32 (l.getD k 0)) w:=by
 have h1:0≤(k:Int)∧(k:Int)<(n:Int):=zz13
 have h2:(arr l)[k]? = some (.int .u32 (l.getD k 0)):=by
  rw [← getD_get hl]; simp [arr,u32v,hl]
 simp [Instr.index,asIntOf,run_underlying hu,sizeOf,typeInfo,hi,hs,hk,part,isAgg,run_underlying he,h2]
def strLen:Value→Nat
 | .string s => s.size
 | _ => 0
def shaRun:Nat→S8→ByteArray→S8
 | 0,s,_ => s
 | n+1,s,r => shaRun n (comp s (r.extract 0 64)) (r.extract 64 r.size)
def digS (t:ByteArray):S8:=shaRun ((pad t).size / 64) shaFirst (pad t)
def b4 (x:Int):List UInt8:=[UInt8.ofNat (x.toNat / 16777216),UInt8.ofNat (x.toNat / 65536),UInt8.ofNat (x.toNat / 256),UInt8.ofNat x.toNat]
def dig32 (s:S8):List UInt8:=b4 s.a ++ b4 s.b ++ b4 s.c ++ b4 s.d ++ b4 s.e ++ b4 s.f ++ b4 s.g ++ b4 s.h
def digest (t:ByteArray):ByteArray:=bs (dig32 (digS t))
theorem digest_size (t:ByteArray):(digest t).size=32:=by unfold digest; rw [bs_size]; rfl
theorem shaRun_ok {s:S8} (h:s.Ok):∀ n r,(shaRun n s r).Ok:=by
 intro n
 induction n generalizing s with
 | zero => exact fun _ => h
 | succ n ih => exact fun r => ih (comp_ok _ _) _
theorem digS_ok (t:ByteArray):(digS t).Ok:=shaRun_ok first_ok _ _
theorem fourB_b4 (n:Nat):fourB n=bs (b4 (n:Int)):=rfl
theorem dig_step (s:S8) {k:Nat} (h:k<8):bs ((dig32 s).take (4*k)) ++ bs (b4 (s.l.getD k 0))=bs ((dig32 s).take (4*(k+1))):=by
 rw [bs_app]
 rcases (show k=0∨k=1∨k=2∨k=3∨k=4∨k=5∨k=6∨k=7 by omega) with rfl | rfl | rfl | rfl | rfl | rfl | rfl | rfl <;> rfl
theorem S8.get_ok {s:S8} (h:s.Ok) {k:Nat} (hk:k<8):W32 (s.l.getD k 0):=by
 rcases (show k=0∨k=1∨k=2∨k=3∨k=4∨k=5∨k=6∨k=7 by omega) with rfl | rfl | rfl | rfl | rfl | rfl | rfl | rfl
 ·exact h.a
 ·exact h.b
 ·exact h.c
 ·exact h.d
 ·exact h.e
 ·exact h.f
 ·exact h.g
 ·exact h.h
theorem ext_head (p:ByteArray) (k:Nat) (h:64*k+64≤p.size):(p.extract (64*k) p.size).extract 0 64=p.extract (64*k) (64*k+64):=by
 rw [ByteArray.extract_extract]; congr 1; omega
theorem ext_tail (p:ByteArray) (k:Nat) (h:64*k+64≤p.size):(p.extract (64*k) p.size).extract 64 (p.extract (64*k) p.size).size=p.extract (64*(k+1)) p.size:=by
 rw [ByteArray.extract_extract,ByteArray.size_extract]; congr 1; omega
theorem info32:(Tryz.prog.info? 350).map (fun i => (i.zero,i.size,i.bytes))=some (some (.int .u32 0),1,4):=by kernel_rfl
theorem index_arr8 (W:World) {l:List Int} {k:Nat} (hk:k<8) (hl:l.length=8):(Instr.index 351 (.agg (arr l)) (.int .i64 (k:Int))).run Tryz.prog W = .ok (.int .u32 (l.getD k 0)) W:=by
 obtain ⟨i,hi,h0,h1,h2⟩:=info_parts info32
 exact run_index_arr W Tryz.underlying351 Tryz.underlying350 hi h1 hk zz13
theorem first_arr:arr shaFirst.l = #[.int .u32 1779033703,.int .u32 3144134277,.int .u32 1013904242,.int .u32 2773480762,.int .u32 1359893119,.int .u32 2600822924,.int .u32 528734635,.int .u32 1541459225]:=rfl
theorem spec_l03First (w:World):Calls Tryz.prog 278 #[] w fun e w' => e = .returned (.agg (arr shaFirst.l))∧Below w.heap.size w w':=by
 go_enter Tryz.func278,Tryz.ntmps278
 go_wp2_with (refine wpList_newArr (l':=shaFirst.l) rfl 351 _ _ rfl rfl rfl rfl rfl (by kernel_rfl) ?_)
 refine bodyPost_ret (v:=.agg (arr shaFirst.l)) ?_ rfl ⟨rfl,(Below.refl _ _).alloc (Nat.le_refl _) _⟩
 exact results_arr rfl _ _ w.heap.size 351 _ rfl (Arr.new w _ _) Tryz.underlying351 (by kernel_rfl)
theorem spec_l03Keys (w:World):Calls Tryz.prog 279 #[] w fun e w' => e = .returned (.agg (arr shaKeys))∧Below w.heap.size w w':=by
 go_enter Tryz.func279,Tryz.ntmps279
 go_wp2_with (refine wpList_newArr (l':=shaKeys) rfl 353 _ _ rfl rfl rfl rfl rfl (by kernel_rfl) ?_)
 refine bodyPost_ret (v:=.agg (arr shaKeys)) ?_ rfl ⟨rfl,(Below.refl _ _).alloc (Nat.le_refl _) _⟩
 exact results_arr rfl _ _ w.heap.size 353 _ rfl (Arr.new w _ _) Tryz.underlying353 (by kernel_rfl)
theorem impl_Digest (w:World) (t:ByteArray) (ht:t.size≤100000000) (hT:Tabs w):Calls Tryz.prog 239 #[.string t] w fun e w' => e = .returned (.string (digest t))∧Below w.heap.size w w':=by
 have g0:=hT.2 0 zz13
 have g1:=hT.2 1 zz13
 have g2:=hT.2 2 zz13
 have g3:=hT.2 3 zz13
 have g4:=hT.2 4 zz13
 have g5:=hT.2 5 zz13
 have g6:=hT.2 6 zz13
 have g7:=hT.2 7 zz13
 simp only [S8.l,shaFirst,List.getD_cons_zero,List.getD_cons_succ] at g0 g1 g2 g3 g4 g5 g6 g7
 go_enter Tryz.func239,Tryz.ntmps239
 have hp:=pad_size t
 have hm:=pad_mod t
 have HD:Hid (digest t=bs (dig32 (digS t))):=zd rfl
 have HS:Hid (digS t=shaRun ((pad t).size / 64) shaFirst (pad t)):=zd rfl
 have hok:=digS_ok t
 obtain ⟨D,hD⟩:∃ D,digS t=D:=⟨_,rfl⟩
 rw [hD] at HD HS hok
 clear hD
 go_wp2_with (fail)
 refine (impl_PadText _ t ht).mono ?_
 rintro e1 w1 ⟨rfl,hb1⟩
 have A3:Arr w1 w.heap.size 351 shaFirst.l:=(arr_new (w:=w) rfl rfl).keep (hb1.block _ zz30)
 have hB:Below w.heap.size w w1:=Below.via hb1
 have hl1:w.heap.size<w1.heap.size:=by have:=hb1.size; simp at this; omega
 clear hb1 g0 g1 g2 g3 g4 g5 g6 g7
 obtain ⟨P,hP⟩:∃ P,pad t=P:=⟨_,rfl⟩
 rw [hP] at hp hm HS ⊢
 clear hP
 have hPz:P.size=64*(P.size / 64):=zz13
 have hPs:P.size≤100000073:=by have:=hp; unfold padZ at this; omega
 clear hp hm
 have HPZ:=zd hPz; clear hPz
 go_wp2
 go_loopw [4] (fun u wr => ∃ (n:Nat) (s:S8) (r:ByteArray),u = .string r∧s.Ok∧Hid (r.size=64*n)∧r.size≤100000073∧Hid (D=shaRun n s r)∧Arr wr w.heap.size 351 s.l∧Below w.heap.size w wr) (fun u _ => strLen u)
 case atStart => exact ⟨P.size / 64,shaFirst,P,rfl,first_ok,HPZ,hPs,HS,A3,hB⟩
 case round =>
  clear A3 hB HPZ HS hl1 hPs
  obtain ⟨n,s,r,rfl,hs,hr,hrs,hrun,A3,hB⟩:=hrel
  have hz:=hB.size
  have hl:=A3.lt
  cases n with
  | zero =>
   have h0:r.toList.isEmpty=true:=by
    have:=hr.out
    rw [ByteArray.toList_eq]
    have h2:r.data.toList.length=0:=by show r.size=0; omega
    rw [List.eq_nil_of_length_eq_zero h2]; rfl
   have h1:(r.toList == [])=true:=by simpa using h0
   have HE:Hid (D=s):=zd hrun.out
   clear hrun hr
   go_wp2_with (refine wpList_loadArr rfl 351 _ rfl rfl A3 Tryz.underlying351 (by kernel_rfl) ?_)
   have hbs0:(⟨#[]⟩:ByteArray)=bs ((dig32 s).take (4*0)):=rfl
   go_loopw [5,20] (fun u i wr => ∃ (k:Nat),k≤8∧i = .int .i64 k∧u = .string (bs ((dig32 s).take (4*k)))∧Below w.heap.size w wr) (fun _ i _ => 8 - (intOf i).toNat)
   case atStart => exact ⟨0,zz13,rfl,rfl,hB⟩
   case round =>
    clear hB A3 hz hl hbs0
    obtain ⟨k,hk,rfl,rfl,hB⟩:=hrel
    have hz:=hB.size
    by_cases hlt:k<8
    ·have hw:=S8.get_ok hs hlt
     have hst:=zd (dig_step s hlt)
     have hix:=fun W => index_arr8 W (l:=s.l) hlt rfl
     obtain ⟨x,hx⟩:∃ x,s.l.getD k 0=x:=⟨_,rfl⟩
     rw [hx] at hw hst hix
     clear hx
     obtain ⟨hw0,hw1⟩:=hw
     obtain ⟨x,rfl⟩:∃ n:Nat,x=n:=⟨x.toNat,zz13⟩
     rw [← fourB_b4] at hst
     have hc:(bs ((dig32 s).take (4*k))).size≤32:=by rw [bs_size,List.length_take]; have:(dig32 s).length=32:=rfl; omega
     have h4:=fourB_size x
     have hcat : ¬ 9223372036854775807<(bs ((dig32 s).take (4*k))).size+(fourB x).size:=zz13
     clear h4 hc
     obtain ⟨q,hq⟩:∃ q,bs ((dig32 s).take (4*k))=q:=⟨_,rfl⟩
     rw [hq] at hst hcat ⊢
     clear hq
     have hx4:x<4294967296:=zz13
     clear hw0 hw1
     go_wp2_with (go_at_call 285; refine (impl_fourBytes _ x hx4).mono ?_; rintro e2 w2 ⟨rfl,hb2⟩)
     go_roundw
     case rel => exact ⟨k+1,zz13,by go_num,by rw [hst.out],Below.step hB hb2⟩
     case measure => simp [intOf]; omega
    ·have hke:k=8:=by omega
     subst hke
     go_wp2
     go_ret
     exact ⟨by rw [HD.out,HE.out]; rfl,hB⟩
  | succ n =>
   have hr64:64≤r.size:=by have:=hr.out; omega
   have h0:r.toList.isEmpty=false:=by
    rw [ByteArray.toList_eq]
    have h2:r.data.toList.length=r.size:=rfl
    cases hq:r.data.toList with
    | nil => rw [hq] at h2; simp at h2; omega
    | cons _ _ => rfl
   have h1:(r.toList == [])=false:=by
    cases hq:r.toList with
    | nil => rw [hq] at h0; cases h0
    | cons _ _ => rfl
   have hm:Hid (D=shaRun n (comp s (r.extract 0 64)) (r.extract 64 r.size)):=zd hrun.out
   have hx1:(r.extract 0 64).size=64:=by rw [ByteArray.size_extract]; omega
   have hx2:Hid ((r.extract 64 r.size).size=64*n):=zd (by have:=hr.out; rw [ByteArray.size_extract]; omega)
   have hx3:(r.extract 64 r.size).size≤100000073:=by rw [ByteArray.size_extract]; omega
   have HX1:=zd hx1; clear hx1
   have r64:(64:Int)≤(r.size:Int):=zz13
   have hok':=comp_ok s (r.extract 0 64)
   have HTw:=hT.later hB
   clear hrun hr
   obtain ⟨sa,sb,sc,sd,se,sf,sg,sh⟩:=s
   have v0:=A3.cell (i:=0) zz85
   have v1:=A3.cell (i:=1) zz85
   have v2:=A3.cell (i:=2) zz85
   have v3:=A3.cell (i:=3) zz85
   have v4:=A3.cell (i:=4) zz85
   have v5:=A3.cell (i:=5) zz85
   have v6:=A3.cell (i:=6) zz85
   have v7:=A3.cell (i:=7) zz85
   simp only [S8.l,List.getElem_cons_zero,List.getElem_cons_succ] at v0 v1 v2 v3 v4 v5 v6 v7
   obtain ⟨st,hst⟩:∃ st,(⟨sa,sb,sc,sd,se,sf,sg,sh⟩:S8)=st:=⟨_,rfl⟩
   have HST:=zd hst
   rw [hst] at hs A3 hm hok'
   clear hst
   have HT2:=zd HTw; clear HTw
   go_wp2
   refine still_tail 3 (by kernel_rfl) (by kernel_rfl) ?_
   simp only [List.take_succ_cons,List.take_zero,List.drop_succ_cons,List.drop_zero]
   repeat still_step
   refine wpStill_nil ?_
   have HC:=zd (fun W h => impl_compress W st hs (r.extract 0 64) HX1.out h)
   rw [← HST.out] at HC
   clear v0 v1 v2 v3 v4 v5 v6 v7
   go_wp2_with (fail)
   refine (HC.out _ (HT2.out.later ((Below.refl _ _).drew))).mono ?_
   rintro e2 w2 ⟨rfl,hb2⟩
   replace A3:=A3.keep (hb2.block _ hl)
   rw [HST.out]
   have hB2:Below w.heap.size w w2:=hB.drew.trans (hb2.mono hz)
   go_wp2_with (refine wpList_storeArr (l':=(comp st (r.extract 0 64)).l) rfl _ _ _ rfl rfl rfl A3 rfl (by kernel_rfl) ?_; intro w3 A4 hch)
   go_roundw
   case rel => exact ⟨n,comp st (r.extract 0 64),r.extract 64 r.size,rfl,hok',hx2,hx3,hm,A4,hB2.trans (hch.to_below hB2.size (fun b hb => zz13))⟩
   case measure => simp [strLen]; omega
end Go.Proofs.YtcbbjfafmmcfiaaGreatDoor
namespace Go.Proofs.YtcbbjfafmmcfiaaGreatDoor
open Go.RowKit Lay Mk
def givenAt (h e b:Int) (g:Given):Bool:=decide (g.house=h) && decide (g.epoch=e) && decide (g.stamp.by_=b)
def stampAt (gs:List Given) (h e:Int) (b:Nat):List Stamp:=match gs.find? (givenAt h e b) with
 | some g => [⟨b,g.stamp.sig⟩]
 | none => []
def stampTo (gs:List Given) (h e:Int):Nat→List Stamp
 | 0 => []
 | k+1 => stampTo gs h e k ++ stampAt gs h e k
def stampsOf (x:Wrld) (h e:Int):List Stamp:=stampTo x.given h e 3
theorem stamp_none {gs:List Given} {h e:Int} {b:Nat} (hn:∀ i (hi:i<gs.length),givenAt h e b gs[i]=false):stampAt gs h e b = []:=by
 unfold stampAt
 have:gs.find? (givenAt h e b)=none:=by
  rw [List.find?_eq_none]; intro g hg
  obtain ⟨i,hi,rfl⟩:=List.getElem_of_mem hg
  simp [hn i hi]
 rw [this]
theorem stamp_some {gs:List Given} {h e:Int} {b j:Nat} (hj:j<gs.length) (hn:∀ i (hi:i<gs.length),i<j→givenAt h e b gs[i]=false) (hy:givenAt h e b gs[j]=true):stampAt gs h e b = [⟨b,gs[j].stamp.sig⟩]:=by
 unfold stampAt
 have:gs.find? (givenAt h e b)=some gs[j]:=by
  rw [List.find?_eq_some_iff_getElem]
  refine ⟨hy,j,hj,rfl,fun i hi => ?_⟩
  simp [hn i zz13 hi]
 rw [this]
theorem stampAt_len (gs:List Given) (h e:Int) (b:Nat):(stampAt gs h e b).length≤1:=by unfold stampAt; split <;> simp
theorem stampTo_len (gs:List Given) (h e:Int):∀ k,(stampTo gs h e k).length≤k
 | 0 => by simp [stampTo]
 | k+1 => by have h1:=stampTo_len gs h e k; have h2:=stampAt_len gs h e k; unfold stampTo; rw [List.length_append]; omega
theorem given_lens {gs:List Given} {j:Nat} (hj:j<gs.length) (hz:szL gs≤1048576):gs[j].stamp.sig.open_.length≤1048576∧gs[j].stamp.sig.shut.length≤1048576∧gs[j].stamp.sig.sides.length≤1048576:=by
 have h1:=sz_le_L gs j hj
 have h2:Mk.sz gs[j]=gs[j].sz:=rfl
 have h3:gs[j].sz=gs[j].stamp.sig.sz:=rfl
 simp only [Sig.sz] at h3
 have:=szT_le gs[j].stamp.sig.open_ 0
 have:=szT_le gs[j].stamp.sig.shut 0
 have:=szT_le gs[j].stamp.sig.sides 0
 omega
theorem stamp_rd {w:World} {b:Int} (hb:I64 b) {s:Sig} {c:List Value} {T:Blks} (h:rd true w c s T):rd true w (.int .i64 b :: c) (⟨b,s⟩:Stamp) T :=
 ⟨[.int .i64 b],c,none_,T,rfl,none_sub _,ya3 _,fun _ => disj_symm (disj_none_ _),⟨rfl,hb⟩,h⟩
theorem impl_StampsOf (w:World) (x:Wrld) (cs:List Value) (S:Blks) (hx:rd false w cs x S) (hz:x.sz≤1048576) (hh:Int) (hhh:I64 hh) (ee:Int) (hee:I64 ee):Calls Tryz.prog 140 #[.agg cs.toArray,.int .i64 hh,.int .i64 ee] w fun e w' => ∃ A' cap',e = .returned (.slice A' (stampsOf x hh ee).length cap')∧(stampsOf x hh ee).length≤cap'∧cap'≤maxLen∧Row true w' A' cap' (stampsOf x hh ee) (rng w.heap.size w'.heap.size)∧Below w.heap.size w w':=by
 have hml:szL x.given≤1048576:=by simp only [Wrld.sz] at hz; omega
 have hl0:=szT_le x.given 0
 have hgl:x.given.length≤1048576:=zz13
 obtain ⟨A0,k0,S0,A1,k1,S1,A2,k2,S2,A3,k3,S3,A4,k4,S4,A5,k5,S5,rfl, -, -, -, -, -, -, -, -, -, -, -, -, -, -,r3, -⟩:=Wrld.open hx
 clear hx hz hhh hee hl0
 have HF:Hid (stampsOf x hh ee=stampTo x.given hh ee 3):=zd rfl
 obtain ⟨R,hR⟩:∃ R,stampsOf x hh ee=R:=⟨_,rfl⟩
 rw [hR] at HF ⊢
 clear hR
 simp only [Wrld.cs]
 have hWd:∀ W,W=w.alloc (.cells #[.slice A0 x.houses.length k0,.slice A1 x.auditors.length k1,.slice A2 x.notes.length k2,.slice A3 x.given.length k3,.slice A4 x.evil.length k4,.slice A5 x.codes.length k5] 132)→Below w.heap.size w W∧W.cell? ⟨w.heap.size,3,none⟩=some (.slice A3 x.given.length k3)∧W.heap.size=w.heap.size+1:=by
  rintro W rfl
  exact ⟨(Below.refl _ _).alloc (Nat.le_refl _) _,ya1 _ _ _ _ _ rfl,zz30⟩
 obtain ⟨gs,hgs⟩:∃ gs,x.given=gs:=⟨_,rfl⟩
 simp only [hgs] at *
 clear hgs
 go_enter Tryz.func140,Tryz.ntmps140
 go_wp2_with (fail)
 obtain ⟨W,hW⟩:∃ W,w.alloc (.cells #[.slice A0 x.houses.length k0,.slice A1 x.auditors.length k1,.slice A2 x.notes.length k2,.slice A3 gs.length k3,.slice A4 x.evil.length k4,.slice A5 x.codes.length k5] 132)=W:=⟨_,rfl⟩
 rw [hW]
 obtain ⟨hBW,c3,hsz⟩:=hWd W hW.symm
 have HO:=zd (Own.start (α:=Stamp) (Below.refl W.heap.size W))
 clear hW hWd
 have HBW:=zd hBW
 have C3:=zd c3
 have hlW:w.heap.size<W.heap.size:=zz13
 have rW:=zd (Row.later r3 hBW)
 clear hBW c3 r3
 go_loopw [7,11] (fun u i wr => ∃ (b:Nat) (L:List Stamp) (A:Option Addr) (c:Nat),b≤3∧i = .int .i64 b∧u = .slice A L.length c∧Hid (L=stampTo gs hh ee b)∧L.length≤b∧Own W wr A c L) (fun _ i _ => 3 - (intOf i).toNat)
 case atStart => exact ⟨0, [],none,0,zz13,rfl,rfl,zd rfl,zz30,HO.out⟩
 case round =>
  clear HO
  obtain ⟨b,L,A,c,hb3,rfl,rfl,HL,hLb,hown⟩:=hrel
  by_cases hlt:b<3
  ·have HN:Hid (stampTo gs hh ee (b+1)=L ++ stampAt gs hh ee b):=zd (by rw [HL.out]; rfl)
   have hb0:=hown.bl
   have HOW:=zd hown
   have c3:=(hb0.cell (p:=⟨w.heap.size,3,none⟩) (by show w.heap.size<W.heap.size; omega)).trans C3.out
   clear hown hb0
   go_wp2_with (fail)
   go_loopw [7,17] (fun u i wr => ∃ (j:Nat),j≤gs.length∧i = .int .i64 j∧u = .slice A L.length c∧Hid (∀ i (hi:i<gs.length),i<j→givenAt hh ee b gs[i]=false)∧Own W wr A c L) (fun _ i _ => gs.length - (intOf i).toNat)
   case atStart => exact ⟨0,Nat.zero_le _,rfl,rfl,zd (fun i _ h => absurd h zz13),HOW.out⟩
   case round =>
    clear HOW c3
    obtain ⟨j,hj,rfl,rfl,HA,hown⟩:=hrel
    have hb:=hown.bl
    have HOW:=zd hown
    have c3:=(hb.cell (p:=⟨w.heap.size,3,none⟩) (by show w.heap.size<W.heap.size; omega)).trans C3.out
    by_cases hlt2:j<gs.length
    ·obtain ⟨b2,o2,cc,T2,rfl,hl2,ha,hr,_,_⟩:=Row.at_ rW.out hlt2
     replace ha:=ha.keep (hb.block b2 hl2)
     replace hr:=Lay.later hr hb
     have hbd:=given_lens hlt2 hml
     have HY:=zd (fun hy => stamp_some hlt2 HA.out hy)
     have HA2:Hid (givenAt hh ee b gs[j]=false→∀ i (hi:i<gs.length),i<j+1→givenAt hh ee b gs[i]=false):=zd (fun h0 i hi h => by rcases Nat.lt_succ_iff_lt_or_eq.1 h with h1 | h1; exact HA.out i hi h1; subst h1; exact h0)
     obtain ⟨g,hg⟩:∃ g,gs[j]=g:=⟨_,rfl⟩
     rw [hg] at hr HY HA2 hbd
     have HG:Hid (givenAt hh ee b g=(decide (g.house=hh) && decide (g.epoch=ee) && decide (g.stamp.by_=(b:Int)))):=zd rfl
     clear hg
     obtain ⟨D0,m0,U0,D1,m1,U1,D2,m2,U2,rfl, -, -, -,f3,l0,n0,q0,s0,l1,n1,q1,s1,l2,n2,q2,s2, -⟩:=Given.open hr
     have HSg:=zd (Sig.mk' (x:=g.stamp.sig) f3 l0 n0 q0 s0 l1 n1 q1 s1 l2 n2 q2 s2 (fun h => by simp at h))
     clear hr f3 q0 q1 q2 s0 s1 s2
     rw [show Lay.n Given=7 from rfl] at ha
     have e0:=ha 0 _ rfl
     have e1:=ha 1 _ rfl
     have e2:=ha 2 _ rfl
     have e3:=ha 3 _ rfl
     have e4:=ha 4 _ rfl
     have e5:=ha 5 _ rfl
     have e6:=ha 6 _ rfl
     simp only [Nat.add_zero] at e0
     clear ha hown
     have hlr:w.heap.size<wr.heap.size:=Nat.lt_of_lt_of_le hlW hb.size
     have hl3:b2<wr.heap.size:=Nat.lt_of_lt_of_le hl2 hb.size
     by_cases q0:g.house=hh
     rotate_left
     ·have hq:(g.house == hh)=false:=beq_eq_false_iff_ne.2 q0
      have HF0:=zd (HA2.out (by rw [HG.out]; simp [q0]))
      clear q0 hbd HY HA2 HG HSg
      go_wp2
      go_roundw
      case rel => exact ⟨j+1,zz13,by go_num,rfl,HF0,HOW.out.alloc _⟩
      case measure => simp [intOf]; omega
     have hq0:(g.house == hh)=true:=beq_iff_eq.2 q0
     by_cases q1:g.epoch=ee
     rotate_left
     ·have hq:(g.epoch == ee)=false:=beq_eq_false_iff_ne.2 q1
      have HF0:=zd (HA2.out (by rw [HG.out]; simp [q1]))
      clear q1 hbd HY HA2 HG HSg
      go_wp2
      go_roundw
      case rel => exact ⟨j+1,zz13,by go_num,rfl,HF0,HOW.out.alloc _⟩
      case measure => simp [intOf]; omega
     have hq1:(g.epoch == ee)=true:=beq_iff_eq.2 q1
     by_cases q2:g.stamp.by_=(b:Int)
     rotate_left
     ·have hq:(g.stamp.by_ == (b:Int))=false:=beq_eq_false_iff_ne.2 q2
      have HF0:=zd (HA2.out (by rw [HG.out]; simp [q2]))
      clear q2 hbd HY HA2 HG HSg
      go_wp2
      go_roundw
      case rel => exact ⟨j+1,zz13,by go_num,rfl,HF0,HOW.out.alloc _⟩
      case measure => simp [intOf]; omega
     have hq2:(g.stamp.by_ == (b:Int))=true:=beq_iff_eq.2 q2
     have HF0:=zd (HY.out (by rw [HG.out,decide_eq_true q0,decide_eq_true q1,decide_eq_true q2]; rfl))
     clear q0 q1 q2 HY HA2 HG
     obtain ⟨ls0,ls1,ls2⟩:=hbd
     have hib:I64 (b:Int):=zz41
     go_wp2_with (fail)
     refine (impl_copySig _ g.stamp.sig _ _ (Lay.later HSg.out ((Below.refl _ _).alloc (Nat.le_refl _) _)) ls0 ls1 ls2).mono ?_
     rintro e9 w9 ⟨G0,g0,G1,g1,G2,g2,rfl,hq9,hb9⟩
     go_wp2_with (at_builtin; refine wpList_pushR (α:=Stamp) rfl _ _ rfl rfl rfl (HOW.out.alloc _) hb9 (stamp_rd hib hq9) (fun q hq => hq.1) rfl rfl zz13 ?_; intro A5 c5 w5 o5 z5)
     go_roundw
     case rel => exact ⟨b+1,L ++ [⟨b,g.stamp.sig⟩],A5,c5,zz13,by go_num,zz30,zd (by rw [HN.out,HF0.out]),zz46,o5⟩
     case measure => simp [intOf]; omega
    ·have hje:j=gs.length:=by omega
     have HF0:=zd (stamp_none (fun i hi => HA.out i hi zz13))
     subst hje
     go_wp2
     go_roundw
     case rel => exact ⟨b+1,L,A,c,zz13,by go_num,rfl,zd (by rw [HN.out,HF0.out,List.append_nil]),zz13,HOW.out⟩
     case measure => simp [intOf]; omega
  ·have hbe:b=3:=by omega
   subst hbe
   have HE:Hid (R=L):=zd (by rw [HF.out,HL.out])
   have HOW:=zd (hown.from HBW.out)
   clear hown
   go_wp2
   go_ret
   exact ⟨A,c,zz79,by rw [HE.out]; exact HOW.out.le,HOW.out.cm,by rw [HE.out]; exact HOW.out.rng,HOW.out.bl⟩
theorem spec_StampsOf (w:World) (x:Wrld) (cs:List Value) (S:Blks) (hx:rd false w cs x S) (hz:x.sz≤1048576) (hh:Int) (hhh:I64 hh) (ee:Int) (hee:I64 ee):Calls Tryz.prog 129 #[.agg cs.toArray,.int .i64 hh,.int .i64 ee] w fun e w' => ∃ A' cap',e = .returned (.slice A' (stampsOf x hh ee).length cap')∧(stampsOf x hh ee).length≤cap'∧cap'≤maxLen∧Row true w' A' cap' (stampsOf x hh ee) (rng w.heap.size w'.heap.size)∧Below w.heap.size w w':=by
 have hml:szL x.given≤1048576:=by simp only [Wrld.sz] at hz; omega
 have hl0:=szT_le x.given 0
 have hgl:x.given.length≤1048576:=zz13
 obtain ⟨A0,k0,S0,A1,k1,S1,A2,k2,S2,A3,k3,S3,A4,k4,S4,A5,k5,S5,rfl, -, -, -, -, -, -, -, -, -, -, -, -, -, -,r3, -⟩:=Wrld.open hx
 clear hx hz hhh hee hl0
 have HF:Hid (stampsOf x hh ee=stampTo x.given hh ee 3):=zd rfl
 obtain ⟨R,hR⟩:∃ R,stampsOf x hh ee=R:=⟨_,rfl⟩
 rw [hR] at HF ⊢
 clear hR
 simp only [Wrld.cs]
 have hWd:∀ W,W=w.alloc (.cells #[.slice A0 x.houses.length k0,.slice A1 x.auditors.length k1,.slice A2 x.notes.length k2,.slice A3 x.given.length k3,.slice A4 x.evil.length k4,.slice A5 x.codes.length k5] 132)→Below w.heap.size w W∧W.cell? ⟨w.heap.size,3,none⟩=some (.slice A3 x.given.length k3)∧W.heap.size=w.heap.size+1:=by
  rintro W rfl
  exact ⟨(Below.refl _ _).alloc (Nat.le_refl _) _,ya1 _ _ _ _ _ rfl,zz30⟩
 obtain ⟨gs,hgs⟩:∃ gs,x.given=gs:=⟨_,rfl⟩
 simp only [hgs] at *
 clear hgs
 go_enter Tryz.func129,Tryz.ntmps129
 go_wp2
 obtain ⟨W,hW⟩:∃ W,w.alloc (.cells #[.slice A0 x.houses.length k0,.slice A1 x.auditors.length k1,.slice A2 x.notes.length k2,.slice A3 gs.length k3,.slice A4 x.evil.length k4,.slice A5 x.codes.length k5] 132)=W:=⟨_,rfl⟩
 rw [hW]
 obtain ⟨hBW,c3,hsz⟩:=hWd W hW.symm
 have HO:=zd (Own.litAt (α:=Stamp) (Below.refl W.heap.size W) 254 rfl (b:=w.heap.size+1) hsz.symm)
 clear hW hWd
 have HBW:=zd hBW
 have C3:=zd c3
 have hlW:w.heap.size<W.heap.size:=zz13
 have rW:=zd (Row.later r3 hBW)
 clear hBW c3 r3
 go_loopw [7,8] (fun u i wr => ∃ (b:Nat) (L:List Stamp) (A:Option Addr) (c:Nat),b≤3∧i = .int .i64 b∧u = .slice A L.length c∧Hid (L=stampTo gs hh ee b)∧L.length≤b∧Own W wr A c L) (fun _ i _ => 3 - (intOf i).toNat)
 case atStart => exact ⟨0, [],some ⟨w.heap.size+1,0,none⟩,0,zz13,rfl,rfl,zd rfl,zz30,HO.out⟩
 case round =>
  clear HO
  obtain ⟨b,L,A,c,hb3,rfl,rfl,HL,hLb,hown⟩:=hrel
  by_cases hlt:b<3
  ·have HN:Hid (stampTo gs hh ee (b+1)=L ++ stampAt gs hh ee b):=zd (by rw [HL.out]; rfl)
   have hb0:=hown.bl
   have HOW:=zd hown
   have c3:=(hb0.cell (p:=⟨w.heap.size,3,none⟩) (by show w.heap.size<W.heap.size; omega)).trans C3.out
   clear hown hb0
   go_wp2_with (fail)
   go_loopw [7,9] (fun u i wr => ∃ (j:Nat),j≤gs.length∧i = .int .i64 j∧u = .slice A L.length c∧Hid (∀ i (hi:i<gs.length),i<j→givenAt hh ee b gs[i]=false)∧Own W wr A c L) (fun _ i _ => gs.length - (intOf i).toNat)
   case atStart => exact ⟨0,Nat.zero_le _,rfl,rfl,zd (fun i _ h => absurd h zz13),HOW.out⟩
   case round =>
    clear HOW c3
    obtain ⟨j,hj,rfl,rfl,HA,hown⟩:=hrel
    have hb:=hown.bl
    have HOW:=zd hown
    have c3:=(hb.cell (p:=⟨w.heap.size,3,none⟩) (by show w.heap.size<W.heap.size; omega)).trans C3.out
    by_cases hlt2:j<gs.length
    ·obtain ⟨b2,o2,cc,T2,rfl,hl2,ha,hr,_,_⟩:=Row.at_ rW.out hlt2
     replace ha:=ha.keep (hb.block b2 hl2)
     replace hr:=Lay.later hr hb
     have hbd:=given_lens hlt2 hml
     have HY:=zd (fun hy => stamp_some hlt2 HA.out hy)
     have HA2:Hid (givenAt hh ee b gs[j]=false→∀ i (hi:i<gs.length),i<j+1→givenAt hh ee b gs[i]=false):=zd (fun h0 i hi h => by rcases Nat.lt_succ_iff_lt_or_eq.1 h with h1 | h1; exact HA.out i hi h1; subst h1; exact h0)
     obtain ⟨g,hg⟩:∃ g,gs[j]=g:=⟨_,rfl⟩
     rw [hg] at hr HY HA2 hbd
     have HG:Hid (givenAt hh ee b g=(decide (g.house=hh) && decide (g.epoch=ee) && decide (g.stamp.by_=(b:Int)))):=zd rfl
     clear hg
     obtain ⟨D0,m0,U0,D1,m1,U1,D2,m2,U2,rfl, -, -, -,f3,l0,n0,q0,s0,l1,n1,q1,s1,l2,n2,q2,s2, -⟩:=Given.open hr
     have HSg:=zd (Sig.mk' (x:=g.stamp.sig) f3 l0 n0 q0 s0 l1 n1 q1 s1 l2 n2 q2 s2 (fun h => by simp at h))
     clear hr f3 q0 q1 q2 s0 s1 s2
     rw [show Lay.n Given=7 from rfl] at ha
     have e0:=ha 0 _ rfl
     have e1:=ha 1 _ rfl
     have e2:=ha 2 _ rfl
     have e3:=ha 3 _ rfl
     have e4:=ha 4 _ rfl
     have e5:=ha 5 _ rfl
     have e6:=ha 6 _ rfl
     simp only [Nat.add_zero] at e0
     clear ha hown
     have hlr:w.heap.size<wr.heap.size:=Nat.lt_of_lt_of_le hlW hb.size
     have hl3:b2<wr.heap.size:=Nat.lt_of_lt_of_le hl2 hb.size
     by_cases q0:g.house=hh
     rotate_left
     ·have hq:(g.house == hh)=false:=beq_eq_false_iff_ne.2 q0
      have HF0:=zd (HA2.out (by rw [HG.out]; simp [q0]))
      clear q0 hbd HY HA2 HG HSg
      go_wp2
      go_roundw
      case rel => exact ⟨j+1,zz13,by go_num,rfl,HF0,HOW.out.alloc _⟩
      case measure => simp [intOf]; omega
     have hq0:(g.house == hh)=true:=beq_iff_eq.2 q0
     by_cases q1:g.epoch=ee
     rotate_left
     ·have hq:(g.epoch == ee)=false:=beq_eq_false_iff_ne.2 q1
      have HF0:=zd (HA2.out (by rw [HG.out]; simp [q1]))
      clear q1 hbd HY HA2 HG HSg
      go_wp2
      go_roundw
      case rel => exact ⟨j+1,zz13,by go_num,rfl,HF0,HOW.out.alloc _⟩
      case measure => simp [intOf]; omega
     have hq1:(g.epoch == ee)=true:=beq_iff_eq.2 q1
     by_cases q2:g.stamp.by_=(b:Int)
     rotate_left
     ·have hq:(g.stamp.by_ == (b:Int))=false:=beq_eq_false_iff_ne.2 q2
      have HF0:=zd (HA2.out (by rw [HG.out]; simp [q2]))
      clear q2 hbd HY HA2 HG HSg
      go_wp2
      go_roundw
      case rel => exact ⟨j+1,zz13,by go_num,rfl,HF0,HOW.out.alloc _⟩
      case measure => simp [intOf]; omega
     have hq2:(g.stamp.by_ == (b:Int))=true:=beq_iff_eq.2 q2
     have HF0:=zd (HY.out (by rw [HG.out,decide_eq_true q0,decide_eq_true q1,decide_eq_true q2]; rfl))
     clear q0 q1 q2 HY HA2 HG
     obtain ⟨ls0,ls1,ls2⟩:=hbd
     have hib:I64 (b:Int):=zz41
     go_wp2_with (fail)
     refine (spec_l05Copy _ g.stamp.sig _ _ (Lay.later HSg.out ((Below.refl _ _).alloc (Nat.le_refl _) _)) ls0 ls1 ls2).mono ?_
     rintro e9 w9 ⟨G0,g0,G1,g1,G2,g2,rfl,hq9,hb9⟩
     go_wp2_with (at_builtin; refine wpList_pushR (α:=Stamp) rfl _ _ rfl rfl rfl (HOW.out.alloc _) hb9 (stamp_rd hib hq9) (fun q hq => hq.1) rfl rfl zz13 ?_; intro A5 c5 w5 o5 z5)
     go_roundw
     case rel => exact ⟨b+1,L ++ [⟨b,g.stamp.sig⟩],A5,c5,zz13,by go_num,zz30,zd (by rw [HN.out,HF0.out]),zz46,o5⟩
     case measure => simp [intOf]; omega
    ·have hje:j=gs.length:=by omega
     have HF0:=zd (stamp_none (fun i hi => HA.out i hi zz13))
     subst hje
     go_wp2
     go_roundw
     case rel => exact ⟨b+1,L,A,c,zz13,by go_num,rfl,zd (by rw [HN.out,HF0.out,List.append_nil]),zz13,HOW.out⟩
     case measure => simp [intOf]; omega
  ·have hbe:b=3:=by omega
   subst hbe
   have HE:Hid (R=L):=zd (by rw [HF.out,HL.out])
   have HOW:=zd (hown.from HBW.out)
   clear hown
   go_wp2
   go_ret
   exact ⟨A,c,zz79,by rw [HE.out]; exact HOW.out.le,HOW.out.cm,by rw [HE.out]; exact HOW.out.rng,HOW.out.bl⟩
end Go.Proofs.YtcbbjfafmmcfiaaGreatDoor
