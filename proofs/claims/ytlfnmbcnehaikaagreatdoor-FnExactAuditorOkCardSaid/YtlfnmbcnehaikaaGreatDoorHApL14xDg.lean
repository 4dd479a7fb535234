/- A part of the proof. -/
import Derived.Test.YtlfnmbcnehaikaaGreatDoorHApL13xDl
set_option linter.unusedVariables false
set_option linter.unusedSimpArgs false
set_option maxRecDepth 100000
set_option maxHeartbeats 4000000
namespace Go.Proofs.YtlfnmbcnehaikaaGreatDoor
open Go.RowKit Lay Mk
section
variable {P : Program} {ops : Array Oper} {rest : List Oper} {o : Oper} {a : Act} {Q : Exit → Act → World → Prop} {w : World}
theorem wpList_storeArr (hgd : o.guard = none) (t : TypeId) (p x : Operand) (ho : o.op = .store t p x) {g et : Nat} {l l' : List Int} (hp : a.eval p = .pointer (some ⟨g,0,none⟩)) (hx : a.eval x = .agg (arr l'))
  (hA : Arr w g et l) (hl : l.length = l'.length) (hi : (P.info? t).map (·.size) = some l'.length)
  (h : ∀ w',Arr w' g et l' → Chg (fun b => b = g) w w' → wpList P ops Q rest (a.put o.dst (.tuple #[])) w') : wpList P ops Q (o :: rest) a w:=by
 refine wpList_plain hgd fun K hK => ?_
 have hr:=run_storeVar_row (P:=P) w g et t (arr l) (arr l') hA (by rw [arr_size]; exact hi) (by rw [arr_size,arr_size]; exact hl) (by rw [Array.all_eq_true']; intro u hu; exact arr_one l' u (by simpa using hu))
 unfold Oper.wp execOp
 simp only [ho,hp,hx,Instr.storeAt,Instr.sureAddr,Sem.run_bind,Sem.run_pure,Result.andThen_ok,hr]
 refine hK _ _ (h _ (setRow_heap w g _ _ et _ hA) ⟨rfl,rfl,rfl,zz17,fun k _ hk => setRow_other w g k _ hk⟩)
theorem wpList_loadArr (hgd : o.guard = none) (t : TypeId) (x : Operand) (ho : o.op = .load t x) {g et e : Nat} {l : List Int} {n : Nat} (hx : a.eval x = .pointer (some ⟨g,0,none⟩)) (hA : Arr w g et l)
  (hu : P.underlying t = some (.array n e)) (hi : (P.info? t).map (·.size) = some l.length)
  (h : wpList P ops Q rest (a.put o.dst (.agg (arr l))) w) : wpList P ops Q (o :: rest) a w :=
 wpList_load_row hgd t x ho g hx et (arr l) (0,0) _ hA hu rfl (by rw [arr_size]; exact hi) h
theorem wpList_newArr (hgd : o.guard = none) (t : TypeId) (p x : Operand) (ho : o.op = .store t p x) {l' : List Int} {z : Array Value} {g : Nat} (hg : g = w.heap.size) (hp : a.eval p = .pointer (some ⟨g,0,none⟩)) (hx : a.eval x = .agg (arr l'))
  (hz : z.size = l'.length) (hi : (P.info? t).map (·.size) = some l'.length)
  (h : wpList P ops Q rest (a.put o.dst (.tuple #[])) (w.alloc (.cells (arr l') t))) : wpList P ops Q (o :: rest) a (w.alloc (.cells z t)) :=
 wpList_storeNew hgd t p x ho hp hx hg (by rw [arr_size]; exact hi) (by rw [arr_size]; exact hz) (arr_one l') h
theorem results_arr {fn : Func} {p : Tmp} {ty : TypeId} (h : fn.results = #[.cell p ty]) (tmps : Array Value) (w : World) (g t : Nat) (l : List Int) {n e : Nat}
  (hp : tmps.getD p undef = .pointer (some ⟨g,0,none⟩)) (hA : Arr w g t l) (hu : P.underlying ty = some (.array n e)) (hi : (P.info? ty).map (·.size) = some l.length) :
  (results fn tmps).run P w = .ok (.agg (arr l)) w:=results_cell_row h tmps w g t (arr l) (0,0) _ hp hA hu rfl (by rw [arr_size]; exact hi)
end
theorem run_index_arr {P : Program} (w : World) {t e n : Nat} {l : List Int} {k : Nat} {i : TypeInfo} (hu : P.underlying t = some (.array n e)) (he : P.underlying e = some (.int .u32)) (hi : P.info? e = some i) (hs : i.size = 1) (hk : k < n) (hl : k < l.length) :
  (Instr.index t (.agg (arr l)) (.int .i64 (k : Int))).run P w = .ok (.int .u32 (l.getD k 0)) w:=by
 have h1 : 0 ≤ (k : Int) ∧ (k : Int) < (n : Int):=zz4
 have h2 : (arr l)[k]? = some (.int .u32 (l.getD k 0)):=by
  rw [← getD_get hl]; simp [arr,u32v,hl]
 simp [Instr.index,asIntOf,run_underlying hu,sizeOf,typeInfo,hi,hs,hk,part,isAgg,run_underlying he,h2]
def strLen : Value → Nat
 | .string s => s.size
 | _ => 0
def shaRun : Nat → S8 → ByteArray → S8
 | 0,s,_ => s
 | n + 1,s,r => shaRun n (comp s (r.extract 0 64)) (r.extract 64 r.size)
def digS (t : ByteArray) : S8:=shaRun ((pad t).size / 64) shaFirst (pad t)
def b4 (x : Int) : List UInt8:=[UInt8.ofNat (x.toNat / 16777216),UInt8.ofNat (x.toNat / 65536),UInt8.ofNat (x.toNat / 256),UInt8.ofNat x.toNat]
def dig32 (s : S8) : List UInt8:=b4 s.a ++ b4 s.b ++ b4 s.c ++ b4 s.d ++ b4 s.e ++ b4 s.f ++ b4 s.g ++ b4 s.h
def digest (t : ByteArray) : ByteArray:=bs (dig32 (digS t))
theorem digest_size (t : ByteArray) : (digest t).size = 32:=by unfold digest; rw [bs_size]; rfl
theorem shaRun_ok {s : S8} (h : s.Ok) : ∀ n r,(shaRun n s r).Ok:=by
 intro n
 induction n generalizing s with
 | zero => exact fun _ => h
 | succ n ih => exact fun r => ih (comp_ok _ _) _
theorem digS_ok (t : ByteArray) : (digS t).Ok:=shaRun_ok first_ok _ _
theorem fourB_b4 (n : Nat) : fourB n = bs (b4 (n : Int)):=rfl
theorem dig_step (s : S8) {k : Nat} (h : k < 8) : bs ((dig32 s).take (4 * k)) ++ bs (b4 (s.l.getD k 0)) = bs ((dig32 s).take (4 * (k + 1))):=by
 rw [bs_app]
 rcases (show k = 0 ∨ k = 1 ∨ k = 2 ∨ k = 3 ∨ k = 4 ∨ k = 5 ∨ k = 6 ∨ k = 7 by omega) with rfl | rfl | rfl | rfl | rfl | rfl | rfl | rfl <;> rfl
theorem S8.get_ok {s : S8} (h : s.Ok) {k : Nat} (hk : k < 8) : W32 (s.l.getD k 0):=by
 rcases (show k = 0 ∨ k = 1 ∨ k = 2 ∨ k = 3 ∨ k = 4 ∨ k = 5 ∨ k = 6 ∨ k = 7 by omega) with rfl | rfl | rfl | rfl | rfl | rfl | rfl | rfl
 ·exact h.a
 ·exact h.b
 ·exact h.c
 ·exact h.d
 ·exact h.e
 ·exact h.f
 ·exact h.g
 ·exact h.h
theorem ext_head (p : ByteArray) (k : Nat) (h : 64 * k + 64 ≤ p.size) : (p.extract (64 * k) p.size).extract 0 64 = p.extract (64 * k) (64 * k + 64):=by
 rw [ByteArray.extract_extract]; congr 1; omega
theorem ext_tail (p : ByteArray) (k : Nat) (h : 64 * k + 64 ≤ p.size) : (p.extract (64 * k) p.size).extract 64 (p.extract (64 * k) p.size).size = p.extract (64 * (k + 1)) p.size:=by
 rw [ByteArray.extract_extract,ByteArray.size_extract]; congr 1; omega
theorem info32 : (Tryz.prog.info? 189).map (fun i => (i.zero,i.size,i.bytes)) = some (some (.int .u32 0),1,4):=by kernel_rfl
theorem index_arr8 (W : World) {l : List Int} {k : Nat} (hk : k < 8) (hl : l.length = 8) : (Instr.index 204 (.agg (arr l)) (.int .i64 (k : Int))).run Tryz.prog W = .ok (.int .u32 (l.getD k 0)) W:=by
 obtain ⟨i,hi,h0,h1,h2⟩:=info_parts info32
 exact run_index_arr W Tryz.underlying204 Tryz.underlying189 hi h1 hk zz4
theorem first_arr : arr shaFirst.l = #[.int .u32 1779033703, .int .u32 3144134277, .int .u32 1013904242, .int .u32 2773480762, .int .u32 1359893119, .int .u32 2600822924, .int .u32 528734635, .int .u32 1541459225]:=rfl
theorem spec_l03First (w : World) : Calls Tryz.prog 220 #[] w fun e w' => e = .returned (.agg (arr shaFirst.l)) ∧ Below w.heap.size w w':=by
 go_enter Tryz.func220,Tryz.ntmps220
 go_wp2_with (refine wpList_newArr (l':=shaFirst.l) rfl 204 _ _ rfl rfl rfl rfl rfl (by kernel_rfl) ?_)
 refine bodyPost_ret (v:=.agg (arr shaFirst.l)) ?_ rfl ⟨rfl,(Below.refl _ _).alloc (Nat.le_refl _) _⟩
 exact results_arr rfl _ _ w.heap.size 204 _ rfl (Arr.new w _ _) Tryz.underlying204 (by kernel_rfl)
theorem spec_l03Keys (w : World) : Calls Tryz.prog 221 #[] w fun e w' => e = .returned (.agg (arr shaKeys)) ∧ Below w.heap.size w w':=by
 go_enter Tryz.func221,Tryz.ntmps221
 go_wp2_with (refine wpList_newArr (l':=shaKeys) rfl 211 _ _ rfl rfl rfl rfl rfl (by kernel_rfl) ?_)
 refine bodyPost_ret (v:=.agg (arr shaKeys)) ?_ rfl ⟨rfl,(Below.refl _ _).alloc (Nat.le_refl _) _⟩
 exact results_arr rfl _ _ w.heap.size 211 _ rfl (Arr.new w _ _) Tryz.underlying211 (by kernel_rfl)
theorem impl_Digest (w : World) (t : ByteArray) (ht : t.size ≤ 100000000) (hT : Tabs w) : Calls Tryz.prog 189 #[.string t] w fun e w' => e = .returned (.string (digest t)) ∧ Below w.heap.size w w':=by
 have g0:=hT.2 0 zz4
 have g1:=hT.2 1 zz4
 have g2:=hT.2 2 zz4
 have g3:=hT.2 3 zz4
 have g4:=hT.2 4 zz4
 have g5:=hT.2 5 zz4
 have g6:=hT.2 6 zz4
 have g7:=hT.2 7 zz4
 simp only [S8.l,shaFirst,List.getD_cons_zero,List.getD_cons_succ] at g0 g1 g2 g3 g4 g5 g6 g7
 go_enter Tryz.func189,Tryz.ntmps189
 have hp:=pad_size t
 have hm:=pad_mod t
 have HD : Hid (digest t = bs (dig32 (digS t))):=zd rfl
 have HS : Hid (digS t = shaRun ((pad t).size / 64) shaFirst (pad t)):=zd rfl
 have hok:=digS_ok t
 obtain ⟨D,hD⟩ : ∃ D,digS t = D:=⟨_,rfl⟩
 rw [hD] at HD HS hok
 clear hD
 go_wp2_with (fail)
 refine (impl_PadText _ t ht).mono ?_
 rintro e1 w1 ⟨rfl,hb1⟩
 have A3 : Arr w1 w.heap.size 204 shaFirst.l:=(arr_new (w:=w) rfl rfl).keep (hb1.block _ zz17)
 have hB : Below w.heap.size w w1:=Below.via hb1
 have hl1 : w.heap.size < w1.heap.size:=by have:=hb1.size; simp at this; omega
 clear hb1 g0 g1 g2 g3 g4 g5 g6 g7
 obtain ⟨P,hP⟩ : ∃ P,pad t = P:=⟨_,rfl⟩
 rw [hP] at hp hm HS ⊢
 clear hP
 have hPz : P.size = 64 * (P.size / 64):=zz4
 have hPs : P.size ≤ 100000073:=by have:=hp; unfold padZ at this; omega
 clear hp hm
 have HPZ:=zd hPz; clear hPz
 go_wp2
 go_loopw [4] (fun u wr => ∃ (n : Nat) (s : S8) (r : ByteArray),u = .string r ∧ s.Ok ∧ Hid (r.size = 64 * n) ∧ r.size ≤ 100000073 ∧ Hid (D = shaRun n s r) ∧ Arr wr w.heap.size 204 s.l ∧ Below w.heap.size w wr) (fun u _ => strLen u)
 case atStart => exact ⟨P.size / 64,shaFirst,P,rfl,first_ok,HPZ,hPs,HS,A3,hB⟩
 case round =>
  clear A3 hB HPZ HS hl1 hPs
  obtain ⟨n,s,r,rfl,hs,hr,hrs,hrun,A3,hB⟩:=hrel
  have hz:=hB.size
  have hl:=A3.lt
  cases n with
  | zero =>
   have h0 : r.toList.isEmpty = true:=by
    have:=hr.out
    rw [ByteArray.toList_eq]
    have h2 : r.data.toList.length = 0:=by show r.size = 0; omega
    rw [List.eq_nil_of_length_eq_zero h2]; rfl
   have h1 : (r.toList == []) = true:=by simpa using h0
   have HE : Hid (D = s):=zd hrun.out
   clear hrun hr
   go_wp2_with (refine wpList_loadArr rfl 204 _ rfl rfl A3 Tryz.underlying204 (by kernel_rfl) ?_)
   have hbs0 : (⟨#[]⟩ : ByteArray) = bs ((dig32 s).take (4 * 0)):=rfl
   go_loopw [5,20] (fun u i wr => ∃ (k : Nat),k ≤ 8 ∧ i = .int .i64 k ∧ u = .string (bs ((dig32 s).take (4 * k))) ∧ Below w.heap.size w wr) (fun _ i _ => 8 - (intOf i).toNat)
   case atStart => exact ⟨0,zz4,rfl,rfl,hB⟩
   case round =>
    clear hB A3 hz hl hbs0
    obtain ⟨k,hk,rfl,rfl,hB⟩:=hrel
    have hz:=hB.size
    by_cases hlt : k < 8
    ·have hw:=S8.get_ok hs hlt
     have hst:=zd (dig_step s hlt)
     have hix:=fun W => index_arr8 W (l:=s.l) hlt rfl
     obtain ⟨x,hx⟩ : ∃ x,s.l.getD k 0 = x:=⟨_,rfl⟩
     rw [hx] at hw hst hix
     clear hx
     obtain ⟨hw0,hw1⟩:=hw
     obtain ⟨x,rfl⟩ : ∃ n : Nat,x = n:=⟨x.toNat,zz4⟩
     rw [← fourB_b4] at hst
     have hc : (bs ((dig32 s).take (4 * k))).size ≤ 32:=by rw [bs_size,List.length_take]; have : (dig32 s).length = 32:=rfl; omega
     have h4:=fourB_size x
     have hcat : ¬ 9223372036854775807 < (bs ((dig32 s).take (4 * k))).size + (fourB x).size:=zz4
     clear h4 hc
     obtain ⟨q,hq⟩ : ∃ q,bs ((dig32 s).take (4 * k)) = q:=⟨_,rfl⟩
     rw [hq] at hst hcat ⊢
     clear hq
     have hx4 : x < 4294967296:=zz4
     clear hw0 hw1
     go_wp2_with (go_at_call 179; refine (impl_fourBytes _ x hx4).mono ?_; rintro e2 w2 ⟨rfl,hb2⟩)
     go_roundw
     case rel => exact ⟨k + 1,zz4,by go_num,by rw [hst.out],Below.step hB hb2⟩
     case measure => simp [intOf]; omega
    ·have hke : k = 8:=by omega
     subst hke
     go_wp2
     go_ret
     exact ⟨by rw [HD.out,HE.out]; rfl,hB⟩
  | succ n =>
   have hr64 : 64 ≤ r.size:=by have:=hr.out; omega
   have h0 : r.toList.isEmpty = false:=by
    rw [ByteArray.toList_eq]
    have h2 : r.data.toList.length = r.size:=rfl
    cases hq : r.data.toList with
    | nil => rw [hq] at h2; simp at h2; omega
    | cons _ _ => rfl
   have h1 : (r.toList == []) = false:=by
    cases hq : r.toList with
    | nil => rw [hq] at h0; cases h0
    | cons _ _ => rfl
   have hm : Hid (D = shaRun n (comp s (r.extract 0 64)) (r.extract 64 r.size)):=zd hrun.out
   have hx1 : (r.extract 0 64).size = 64:=zz52
   have hx2 : Hid ((r.extract 64 r.size).size = 64 * n):=zd (by have:=hr.out; rw [ByteArray.size_extract]; omega)
   have hx3 : (r.extract 64 r.size).size ≤ 100000073:=zz52
   have HX1:=zd hx1; clear hx1
   have r64 : (64 : Int) ≤ (r.size : Int):=zz4
   have hok':=comp_ok s (r.extract 0 64)
   have HTw:=hT.later hB
   clear hrun hr
   obtain ⟨sa,sb,sc,sd,se,sf,sg,sh⟩:=s
   have v0:=A3.cell (i:=0) zz56
   have v1:=A3.cell (i:=1) zz56
   have v2:=A3.cell (i:=2) zz56
   have v3:=A3.cell (i:=3) zz56
   have v4:=A3.cell (i:=4) zz56
   have v5:=A3.cell (i:=5) zz56
   have v6:=A3.cell (i:=6) zz56
   have v7:=A3.cell (i:=7) zz56
   simp only [S8.l,List.getElem_cons_zero,List.getElem_cons_succ] at v0 v1 v2 v3 v4 v5 v6 v7
   obtain ⟨st,hst⟩ : ∃ st,(⟨sa,sb,sc,sd,se,sf,sg,sh⟩ : S8) = st:=⟨_,rfl⟩
   have HST:=zd hst
   rw [hst] at hs A3 hm hok'
   clear hst
   have HT2:=zd HTw; clear HTw
   go_wp2
   refine still_tail 3 (by kernel_rfl) (by kernel_rfl) ?_
   simp only [List.take_succ_cons,List.take_zero,List.drop_succ_cons,List.drop_zero]
   repeat still_step
   refine wpStill_nil ?_
   have HC:=zd (fun W h => impl_compress W st hs (r.extract 0 64) HX1.out h)
   rw [← HST.out] at HC
   clear v0 v1 v2 v3 v4 v5 v6 v7
   go_wp2_with (fail)
   refine (HC.out _ (HT2.out.later ((Below.refl _ _).drew))).mono ?_
   rintro e2 w2 ⟨rfl,hb2⟩
   replace A3:=A3.keep (hb2.block _ hl)
   rw [HST.out]
   have hB2 : Below w.heap.size w w2:=hB.drew.trans (hb2.mono hz)
   go_wp2_with (refine wpList_storeArr (l':=(comp st (r.extract 0 64)).l) rfl _ _ _ rfl rfl rfl A3 rfl (by kernel_rfl) ?_; intro w3 A4 hch)
   go_roundw
   case rel => exact ⟨n,comp st (r.extract 0 64),r.extract 64 r.size,rfl,hok',hx2,hx3,hm,A4,hB2.trans (hch.to_below hB2.size (fun b hb => zz4))⟩
   case measure => simp [strLen]; omega
end Go.Proofs.YtlfnmbcnehaikaaGreatDoor
namespace Go.Proofs.YtlfnmbcnehaikaaGreatDoor
open Go.RowKit Lay Mk
section
variable {κ α β : Type} [Lay κ] [Lay α] [Lay β] {B : Nat} {N : Blks} {w : World} {Ak : Option Addr} {ck : Nat} {ks : List κ} {Au : Option Addr} {cu : Nat} {us : List α} {As : Option Addr} {cs : Nat} {ss : List β}
theorem TriG.swap (h : TriG B N w Ak ck ks Au cu us As cs ss) : TriG B N w Ak ck ks As cs ss Au cu us:=by
 obtain ⟨K,U,V,h1,h2,h3,d1,d2,d3,b1,b2,d4,d5,d6⟩:=h.ex
 exact ⟨⟨K,V,U,h1,h3,h2,d2,d1,fun b x y => d3 b y x,b2,b1,d4,d6,d5⟩,h.nb,h.ls,h.ms,h.lu,h.mu⟩
theorem wpList_trigW [SlTy α] [Inf α] {ops : Array Oper} {rest : List Oper} {o : Oper} {a : Act} {Q : Exit → Act → World → Prop} {v : World} (hgd : o.guard = none) (s x : Operand)
  (ho : o.op = .call { callee:=.builtin .append,args:=#[s,x],argTypes:=#[SlTy.st α,SlTy.st α] })
  {c2 k b : Nat} {y : α} {T : Blks} {ys : Array Value} {t : TypeId} (hs : a.eval s = .slice Au k cu) (hk : k = us.length) (tri : TriG B N w Ak ck ks Au cu us As cs ss) (hBw : B ≤ w.heap.size) (hb : Below w.heap.size w v)
  (hy : rd true v ys.toList y T) (hT : ∀ b,T b → w.heap.size ≤ b) (hx : a.eval x = .slice (some ⟨b,0,none⟩) 1 c2) (hbb : b = v.heap.size) (hlim : k ≤ 2000000000)
  (h : ∀ A' c' w',TriG B N w' Ak ck ks A' c' (us ++ [y]) As cs ss → Chg (fun b => B ≤ b ∧ b < w.heap.size ∧ ¬ N b) (v.alloc (.cells ys t)) w' → wpList Tryz.prog ops Q rest (a.put o.dst (.slice A' (k + 1) c')) w') :
  wpList Tryz.prog ops Q (o :: rest) a (v.alloc (.cells ys t)) :=
 wpList_trigV hgd s x ho hs hk tri.swap hBw hb hy hT hx hbb hlim (fun A' c' w' h1 h2 => h A' c' w' h1.swap h2)
end
end Go.Proofs.YtlfnmbcnehaikaaGreatDoor
namespace Go.Proofs.YtlfnmbcnehaikaaGreatDoor
open Go.RowKit Go.WideShapes Go.ChangeShapes Go.ChangeAt Lay Mk
def laidFive : List (String × DataW Unit) := [("math/bits.deBruijn32tab", Rows.laid_math_bits_deBruijn32tab), ("math/bits.deBruijn64tab", Rows.laid_math_bits_deBruijn64tab), ("internal/strconv.uint64pow10", Rows.laid_internal_strconv_uint64pow10), ("loop.example/g00284/impl.roundWords", Rows.laid_loop_example_g00284_impl_roundWords), ("loop.example/g00284/impl.startWords", Rows.laid_loop_example_g00284_impl_startWords)]
theorem tabs_of_five {W : World} (h : laidMetH Tryz.prog laidFive W) : Tabs W:=by
 rw [MakeChecks.laidMetH_plain _ _ _ (by kernel_rfl)] at h
 obtain ⟨ps,⟨_,_,_,_,_,_,_,_,_,_,⟨_,_,_,_,_,_,_,_,_,_,⟨_,_,_,_,_,_,_,_,_,_,⟨g0,t0,cs0,f0,p0,q0,hg0,ht0,hv0,hd0,⟨g1,t1,cs1,f1,p1,q1,hg1,ht1,hv1,hd1,_,_⟩,_⟩,_⟩,_⟩,_⟩,_,_⟩:=h
 obtain rfl:=Option.some.inj (gRound.symm.trans hg0)
 obtain rfl:=Option.some.inj (gStart.symm.trans hg1)
 obtain rfl:=Option.some.inj (tRound.symm.trans ht0)
 obtain rfl:=Option.some.inj (tStart.symm.trans ht1)
 rw [laidRound_tab] at hd0
 rw [laidStart_tab] at hd1
 have e0:=Go.Lib.cells_of_tab Tryz.underlying211 Tryz.underlying189 (by kernel_rfl) (by kernel_rfl) hd0
 have e1:=Go.Lib.cells_of_tab Tryz.underlying204 Tryz.underlying189 (by kernel_rfl) (by kernel_rfl) hd1
 have k0 : shaKeys.length = 64:=rfl
 have k1 : shaFirst.l.length = 8:=rfl
 refine ⟨fun i hi => ?_,fun i hi => ?_⟩
 ·have h:=World.var?_cell hg0 hv0 i
  rw [h]
  have : cs0.toList[i]? = some (.int .u32 (shaKeys.getD i 0)):=by
   rw [e0,List.getElem?_map,List.getElem?_eq_getElem zz4,Option.map_some,List.getD_eq_getElem?_getD,List.getElem?_eq_getElem zz4]; rfl
  simpa using this
 ·have h:=World.var?_cell hg1 hv1 i
  rw [h]
  have : cs1.toList[i]? = some (.int .u32 (shaFirst.l.getD i 0)):=by
   rw [e1,List.getElem?_map,List.getElem?_eq_getElem zz4,Option.map_some,List.getD_eq_getElem?_getD,List.getElem?_eq_getElem zz4]; rfl
  simpa using this
theorem door_met5 (os : Os) (args : Array Value) : laidMetH Tryz.prog laidFive ((World.doorLaid Tryz.prog 34 os).forCall (fun _ _ => 0) ⟨#[],args, []⟩).memory :=
 laidMetH_of_parts3 (fuel:=8) (laidMet_of_run' 8 (by kernel_rfl) (by kernel_rfl)) (by kernel_rfl) (by kernel_rfl)
end Go.Proofs.YtlfnmbcnehaikaaGreatDoor
