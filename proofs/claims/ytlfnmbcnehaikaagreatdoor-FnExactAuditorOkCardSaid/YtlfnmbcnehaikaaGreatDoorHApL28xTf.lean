/- A part of the proof. -/
import Derived.Test.YtlfnmbcnehaikaaGreatDoorHApL27xUo
set_option linter.unusedVariables false
set_option linter.unusedSimpArgs false
set_option maxRecDepth 20000
set_option maxHeartbeats 8000000
namespace Go.Proofs.YtlfnmbcnehaikaaGreatDoor
open Go.RowKit Lay Mk
def zeroSeal : Seal:=⟨⟨0,0,⟨#[]⟩,⟨#[]⟩⟩,⟨0, [], [], []⟩⟩
theorem seal_zero {w : World} {S : Blks} : rd true w [.int .i64 0, .int .i64 0, .string ⟨#[]⟩, .string ⟨#[]⟩, .int .i64 0, .slice none 0 0, .slice none 0 0, .slice none 0 0] zeroSeal S:=by
 have h:=Seal.mk' (m:=true) (w:=w) (x:=zeroSeal) (S:=S) (by show I64 0; unfold I64; omega) (by show I64 0; unfold I64; omega) (Nat.zero_le _) (Nat.zero_le _) (by show I64 0; unfold I64; omega) (Nat.zero_le _) zz44 (row_nil w none_) (fun _ k => k.elim) (Nat.zero_le _) zz44 (row_nil w none_) (fun _ k => k.elim) (Nat.zero_le _) zz44 (row_nil w none_) (fun _ k => k.elim) (fun _ => .cons (fun b hb => by rcases List.mem_cons.1 hb with rfl | hb; exact fun _ k => k.elim; rw [List.mem_singleton.1 hb]; exact fun _ k => k.elim) (.cons (fun b hb => by rw [List.mem_singleton.1 hb]; exact fun _ k => k.elim) (.cons (fun b hb => by cases hb) .nil)))
 exact h
def RslRes (t : ByteArray) (w : World) (e : Ending) (w' : World) : Prop:=∃ cs x ok,e = .returned (.tuple #[.agg cs.toArray, .bool ok]) ∧ rd true w' cs x (nw w.heap.size) ∧ Below w.heap.size w w' ∧ (ok = true → rdSeal t = some x) ∧ (ok = false → rdSeal t = none ∧ x = zeroSeal)
theorem impl_ReadSeal (w : World) (t : ByteArray) (ht : t.size ≤ 1048576) : Calls Tryz.prog 118 #[.string t] w (RslRes t w):=by
 go_enter Tryz.func118,Tryz.ntmps118
 go_wp2_with (fail)
 obtain ⟨W,hW⟩ : ∃ W,(w.alloc (.cells #[.int .i64 0, .int .i64 0, .string ⟨#[]⟩, .string ⟨#[]⟩, .int .i64 0, .slice none 0 0, .slice none 0 0, .slice none 0 0] 76)).alloc (.cells #[.string t, .int .i64 0, .bool false] 151) = W:=⟨_,rfl⟩
 obtain ⟨g,hg⟩ : ∃ g,w.heap.size + 1 = g:=⟨_,rfl⟩
 have hWf : Below w.heap.size w W ∧ g < W.heap.size ∧ Bx W w.heap.size #[.int .i64 0, .int .i64 0, .string ⟨#[]⟩, .string ⟨#[]⟩, .int .i64 0, .slice none 0 0, .slice none 0 0, .slice none 0 0] 76 ∧ Fld 151 W g t 0 false:=by
  rw [← hW, ← hg]
  have e1 : w.heap.size + 1 = (w.alloc (.cells #[.int .i64 0, .int .i64 0, .string ⟨#[]⟩, .string ⟨#[]⟩, .int .i64 0, .slice none 0 0, .slice none 0 0, .slice none 0 0] 76)).heap.size:=zz17
  refine ⟨((Below.refl _ _).alloc (Nat.le_refl _) _).alloc zz17 _,zz17,(Bx.new _ _ _).keep (Below.heap_alloc _ _ _ zz17),?_⟩
  rw [e1]
  exact Fld.new _ _ _
 have hgw : w.heap.size < g:=zz4
 rw [hW,hg]
 clear hW hg
 obtain ⟨bW,sW,xW,hF⟩:=hWf
 refine (impl_seal W g t hF ht).mono ?_
 rintro e1 w1 ⟨cs,x,a',b',rfl,hrd,hF1,hc1,ha1,h1,h2⟩
 obtain ⟨A2,c2,S2,A3,c3,S3,A4,c4,S4,rfl, -⟩:=Seal.open hrd
 have HRD:=zd hrd
 have hs1:=hc1.size
 have x1:=xW.keep (hc1.block _ zz4 zz4)
 have HB1:=zd (bW.trans (hc1.to_below (B:=w.heap.size) zz4 (fun b k => by rcases k with k | k <;> omega)))
 have H1:=zd h1; have H2:=zd h2
 have HF1:=zd hF1
 have hgl1:=hF1.lt
 simp only [Seal.cs]
 clear hrd hc1 h1 h2 hF xW hF1 bW
 go_upto_region 3 with (fail)
 obtain ⟨V,hV⟩ : ∃ V,w1.alloc (.cells #[.int .i64 x.head.house, .int .i64 x.head.epoch, .string x.head.root, .string x.head.prev, .int .i64 x.sig.at_, .slice A2 x.sig.open_.length c2, .slice A3 x.sig.shut.length c3, .slice A4 x.sig.sides.length c4] 76) = V:=⟨_,rfl⟩
 have hVf : Below w1.heap.size w1 V ∧ w1.heap.size < V.heap.size ∧ Bx V w1.heap.size #[.int .i64 x.head.house, .int .i64 x.head.epoch, .string x.head.root, .string x.head.prev, .int .i64 x.sig.at_, .slice A2 x.sig.open_.length c2, .slice A3 x.sig.shut.length c3, .slice A4 x.sig.sides.length c4] 76:=by
  rw [← hV]
  exact ⟨(Below.refl _ _).alloc (Nat.le_refl _) _,zz17,Bx.new _ _ _⟩
 rw [hV]
 clear hV
 obtain ⟨bV,sV,xV⟩:=hVf
 have xr:=x1.keep (bV.block _ x1.lt)
 have hFV:=HF1.out.below bV hgl1
 have HBV:=zd (HB1.out.trans (bV.mono HB1.out.size))
 have HRV:=zd (Lay.later (Lay.tight HRD.out) bV)
 have hW1 : w.heap.size < W.heap.size:=zz4
 clear x1 bV HRD HF1 HB1
 go_wp2_with (fail)
 refine (impl_done V g t a' b' hFV ht ha1).mono ?_
 rintro e2 w2 ⟨rfl, -,hc2⟩
 have hs2:=hc2.size
 have xo:=xV.keep (hc2.block _ sV zz4)
 have xr2:=xr.keep (hc2.block _ xr.lt zz4)
 have HB2:=zd (HBV.out.trans (hc2.to_below (B:=w.heap.size) (by have:=HBV.out.size; omega) (fun b k => by have k : b = g:=k; omega)))
 have HC2:=zd hc2
 clear hc2 xV xr hFV
 have y0:=xr2.at_ (i:=0) rfl
 have y1:=xr2.at_ (i:=1) rfl
 have y2:=xr2.at_ (i:=2) rfl
 have y3:=xr2.at_ (i:=3) rfl
 have y4:=xr2.at_ (i:=4) rfl
 have y5:=xr2.at_ (i:=5) rfl
 have y6:=xr2.at_ (i:=6) rfl
 have y7:=xr2.at_ (i:=7) rfl
 have yf:=xr2.fz
 obtain ⟨d,hd⟩ : ∃ d,(!b' && decide (a' = t.size)) = d:=⟨_,rfl⟩
 rw [hd]
 have HD:=zd hd
 clear hd
 have hset : ∀ (Z : World) (o : Nat) (u : Value),Below w.heap.size w Z → Below w.heap.size w (Z.setCell ⟨w.heap.size,o,none⟩ u):=fun Z o u k => Below.setCell k (Nat.le_refl _) u
 cases d
 ·clear xo xr2
  go_wp2_with (fail)
  refine bodyPost_ret (v:=.tuple #[.agg #[.int .i64 0, .int .i64 0, .string ⟨#[]⟩, .string ⟨#[]⟩, .int .i64 0, .slice none 0 0, .slice none 0 0, .slice none 0 0], .bool false]) (by simp [results,Tryz.results118,go_sem, *]) rfl ?_
  refine ⟨_,zeroSeal,false,rfl,seal_zero,hset _ _ _ (hset _ _ _ (hset _ _ _ (hset _ _ _ (hset _ _ _ (hset _ _ _ (hset _ _ _ (hset _ _ _ HB2.out))))))),fun k => (by cases k),fun _ => ⟨?_,rfl⟩⟩
  cases hr : rdSeal t with
  | none => rfl
  | some y =>
   obtain ⟨k1,k2⟩:=H2.out y hr
   have h9:=HD.out
   rw [k1,k2] at h9
   simp at h9
 ·have z0:=xo.at_ (i:=0) rfl
  have z1:=xo.at_ (i:=1) rfl
  have z2:=xo.at_ (i:=2) rfl
  have z3:=xo.at_ (i:=3) rfl
  have z4:=xo.at_ (i:=4) rfl
  have z5:=xo.at_ (i:=5) rfl
  have z6:=xo.at_ (i:=6) rfl
  have z7:=xo.at_ (i:=7) rfl
  clear xo xr2
  go_wp2_with (fail)
  refine bodyPost_ret (v:=.tuple #[.agg #[.int .i64 x.head.house, .int .i64 x.head.epoch, .string x.head.root, .string x.head.prev, .int .i64 x.sig.at_, .slice A2 x.sig.open_.length c2, .slice A3 x.sig.shut.length c3, .slice A4 x.sig.sides.length c4], .bool true]) (by simp [results,Tryz.results118,go_sem, *]) rfl ?_
  have hbd : b' = false ∧ a' = t.size:=by
   have h9:=HD.out
   cases b' <;> simp at h9
   exact ⟨rfl,h9⟩
  refine ⟨_,x,true,rfl,?_,hset _ _ _ (hset _ _ _ (hset _ _ _ (hset _ _ _ (hset _ _ _ (hset _ _ _ (hset _ _ _ (hset _ _ _ HB2.out))))))),fun _ => H1.out hbd.1 hbd.2,fun k => (by cases k)⟩
  clear y0 y1 y2 y3 y4 y5 y6 y7 yf z0 z1 z2 z3 z4 z5 z6 z7
  refine Lay.mono (Lay.keep HRV.out (fun b k => ?_)) (fun b k => by have k1 : W.heap.size ≤ b:=k.1; show w.heap.size ≤ b; omega)
  have k1 : W.heap.size ≤ b:=k.1
  have k2 : b < w1.heap.size:=k.2
  exact ((set8R _ _ _ _ _ _ _ _ _ _).block_ne zz4 zz4).trans (HC2.out.block b zz4 zz4)
end Go.Proofs.YtlfnmbcnehaikaaGreatDoor
namespace Go.Proofs.YtlfnmbcnehaikaaGreatDoor
open Go.RowKit Lay Mk
theorem bs_more (l : List UInt8) (E : ByteArray) : bs l ++ E = bs (l ++ E.data.toList):=by rw [← bs_app,bs_data]
def sgV (b : Bool) (s : ByteArray) : Value:=if b then .tuple #[.string s, .bool true] else .tuple #[.string ⟨#[]⟩, .bool false]
theorem spec_SigText (w : World) (x : Sig) (cs : List Value) (S : Blks) (hx : rd false w cs x S) : Calls Tryz.prog 108 #[.agg cs.toArray] w fun e w' => e = .returned (sgV (sigForm x) (sigTx x)) ∧ Below w.heap.size w w':=by
 obtain ⟨A0,k0,S0,A1,k1,S1,A2,k2,S2,rfl,ha,l0,m0,r0, -,l1,m1,r1, -,l2,m2,r2, -⟩:=Sig.open hx
 have hfm:=fun W (hb : Below w.heap.size w W) => spec_form W x _ S (Lay.later hx hb)
 simp only [Sig.cs] at hfm ⊢
 clear hx
 go_enter Tryz.func108,Tryz.ntmps108
 go_wp2_with (fail)
 obtain ⟨W,hW⟩ : ∃ W,w.alloc (.cells #[.int .i64 x.at_, .slice A0 x.open_.length k0, .slice A1 x.shut.length k1, .slice A2 x.sides.length k2] 74) = W:=⟨_,rfl⟩
 have hWf : Below w.heap.size w W ∧ w.heap.size < W.heap.size ∧ Bx W w.heap.size #[.int .i64 x.at_, .slice A0 x.open_.length k0, .slice A1 x.shut.length k1, .slice A2 x.sides.length k2] 74:=by
  rw [← hW]
  exact ⟨(Below.refl _ _).alloc (Nat.le_refl _) _,zz17,Bx.new _ _ _⟩
 rw [hW]
 clear hW
 obtain ⟨bW,sW,xW⟩:=hWf
 have HFM:=zd (hfm W bW)
 clear hfm
 cases hk : sigForm x
 ·rw [hk] at HFM
  refine HFM.out.mono ?_
  rintro e1 w1 ⟨rfl,hb1⟩
  clear HFM xW
  go_wp2_with (fail)
  refine bodyPost_ret (v:=.tuple #[.string ⟨#[]⟩, .bool false]) (by simp [results,Tryz.results108,go_sem, *]) rfl ?_
  exact ⟨by rw [hk]; rfl,bW.trans (hb1.mono bW.size)⟩
 rw [hk] at HFM
 have hF:=hk
 obtain ⟨at_,op,sh,si⟩:=x
 simp only at HFM xW l0 m0 r0 l1 m1 r1 l2 m2 r2 ha ⊢
 simp only [sigForm,Bool.and_eq_true,inB,decide_eq_true_eq] at hF
 obtain ⟨⟨⟨hat,f1⟩,f2⟩,f3⟩:=hF
 obtain ⟨lo,so⟩:=wide_at f1
 obtain ⟨ls,ss⟩:=wide_at f2
 obtain ⟨li,sI⟩:=wide_at f3
 obtain ⟨n,rfl⟩ : ∃ n : Nat,at_ = n:=⟨at_.toNat,zz4⟩
 have wh : IntKind.u8.wrap (n : Int) = n:=by rw [IntKind.wrap_u8']; omega
 have wm : (n : Int) % 256 = n:=zz4
 have hlo : op.length + sh.length + si.length = 20:=zz4
 have HC : Hid (([.int .u8 (n : Int)] : List Value) = [UInt8.ofNat n].map u8c):=zd (by
  have e1 : n % 256 = n:=zz4
  simp [u8c,e1]; try omega)
 have hR : ∀ Z : World,BR (Z.alloc (.cells #[.int .u8 (n : Int)] 5)) (some ⟨Z.heap.size,0,none⟩) 1 [UInt8.ofNat n] (fun b => Z.heap.size ≤ b):=fun Z => br_lit Z _ _ [UInt8.ofNat n] (by rw [← HC.out])
 refine HFM.out.mono ?_
 rintro e1 w1 ⟨rfl,hb1⟩
 have x1:=xW.keep (hb1.block _ sW)
 have HB1:=zd (bW.trans (hb1.mono bW.size))
 have hs1:=hb1.size
 clear HFM xW hb1
 have y0:=x1.at_ (i:=0) rfl
 have y1:=x1.at_ (i:=1) rfl
 have y2:=x1.at_ (i:=2) rfl
 have y3:=x1.at_ (i:=3) rfl
 go_wp2_with (refine wpList_strB rfl _ rfl Tryz.underlying5 Tryz.underlying9 rfl rfl (hR _) ?_)
 obtain ⟨V,hV⟩ : ∃ Z,w1.alloc (.cells #[.int .u8 (n : Int)] 5) = Z:=⟨_,rfl⟩
 have hVb : Below w1.heap.size w1 V:=by rw [← hV]; exact (Below.refl _ _).alloc (Nat.le_refl _) _
 rw [hV]
 clear hV y0 y1 y2 y3 hR
 have xV:=x1.keep (hVb.block _ x1.lt)
 have HBV:=zd (HB1.out.trans (hVb.mono HB1.out.size))
 have Hr0:=zd (fun (Z : World) (h : Below V.heap.size V Z) => Row.later r0 (HBV.out.trans (h.mono HBV.out.size)))
 have Hr1:=zd (fun (Z : World) (h : Below V.heap.size V Z) => Row.later r1 (HBV.out.trans (h.mono HBV.out.size)))
 have Hr2:=zd (fun (Z : World) (h : Below V.heap.size V Z) => Row.later r2 (HBV.out.trans (h.mono HBV.out.size)))
 have HS:=zd (fun (Z : World) (h : Below V.heap.size V Z) => (⟨(xV.keep (h.block _ xV.lt)).at_ (i:=1) rfl,(xV.keep (h.block _ xV.lt)).at_ (i:=2) rfl,(xV.keep (h.block _ xV.lt)).at_ (i:=3) rfl⟩ : Z.cell? ⟨w.heap.size,1,none⟩ = some (.slice A0 op.length k0) ∧ Z.cell? ⟨w.heap.size,2,none⟩ = some (.slice A1 sh.length k1) ∧ Z.cell? ⟨w.heap.size,3,none⟩ = some (.slice A2 si.length k2)))
 clear r0 r1 r2 x1 xV hVb
 go_cut [5] (fun s5 wx => ∃ (B2 : Option Addr) (d2 : Nat),s5 = .slice B2 20 d2 ∧ Hid (Own V wx B2 d2 ((([] ++ op) ++ sh) ++ si)))
 case first =>
  refine wp_region_held_drew (S:=fun W' => W'.cell? ⟨w.heap.size,1,none⟩ = some (.slice A0 op.length k0) ∧ W'.cell? ⟨w.heap.size,2,none⟩ = some (.slice A1 sh.length k1) ∧ W'.cell? ⟨w.heap.size,3,none⟩ = some (.slice A2 si.length k2)) (by kernel_rfl) (HS.out _ ((Below.refl _ _).drew)) (fun hS => ?_)
  refine wpAnyH_take (i:=1) (v:=.pointer (some ⟨w.heap.size,1,none⟩)) rfl (by as_aux_lemma => kernel_rfl) (by as_aux_lemma => kernel_rfl) (by as_aux_lemma => kernel_rfl) (fun _ _ _ h => h) (Or.inl ⟨zz22,by intro w hSw; go_simp⟩) hS ?_
  (try simp only [Act.put,List.getElem_toArray,List.getElem_cons_succ,List.getElem_cons_zero,List.setIfInBounds_toArray,List.set_cons_zero,List.set_cons_succ])
  refine wpAnyH_take (i:=2) (v:=.slice A0 op.length k0) rfl (by as_aux_lemma => kernel_rfl) (by as_aux_lemma => kernel_rfl) (by as_aux_lemma => kernel_rfl) (fun _ _ _ h => h) (Or.inl ⟨zz22,by rintro w ⟨h1,h2,h3⟩; go_simp⟩) hS ?_
  (try simp only [Act.put,List.getElem_toArray,List.getElem_cons_succ,List.getElem_cons_zero,List.setIfInBounds_toArray,List.set_cons_zero,List.set_cons_succ])
  refine wpAnyH_take (i:=4) (v:=.pointer (some ⟨w.heap.size,2,none⟩)) rfl (by as_aux_lemma => kernel_rfl) (by as_aux_lemma => kernel_rfl) (by as_aux_lemma => kernel_rfl) (fun _ _ _ h => h) (Or.inl ⟨zz22,by intro w hSw; go_simp⟩) hS ?_
  (try simp only [Act.put,List.getElem_toArray,List.getElem_cons_succ,List.getElem_cons_zero,List.setIfInBounds_toArray,List.set_cons_zero,List.set_cons_succ])
  refine wpAnyH_take (i:=5) (v:=.slice A1 sh.length k1) rfl (by as_aux_lemma => kernel_rfl) (by as_aux_lemma => kernel_rfl) (by as_aux_lemma => kernel_rfl) (fun _ _ _ h => h) (Or.inl ⟨zz22,by rintro w ⟨h1,h2,h3⟩; go_simp⟩) hS ?_
  (try simp only [Act.put,List.getElem_toArray,List.getElem_cons_succ,List.getElem_cons_zero,List.setIfInBounds_toArray,List.set_cons_zero,List.set_cons_succ])
  refine wpAnyH_take (i:=7) (v:=.pointer (some ⟨w.heap.size,3,none⟩)) rfl (by as_aux_lemma => kernel_rfl) (by as_aux_lemma => kernel_rfl) (by as_aux_lemma => kernel_rfl) (fun _ _ _ h => h) (Or.inl ⟨zz22,by intro w hSw; go_simp⟩) hS ?_
  (try simp only [Act.put,List.getElem_toArray,List.getElem_cons_succ,List.getElem_cons_zero,List.setIfInBounds_toArray,List.set_cons_zero,List.set_cons_succ])
  refine wpAnyH_take (i:=8) (v:=.slice A2 si.length k2) rfl (by as_aux_lemma => kernel_rfl) (by as_aux_lemma => kernel_rfl) (by as_aux_lemma => kernel_rfl) (fun _ _ _ h => h) (Or.inl ⟨zz22,by rintro w ⟨h1,h2,h3⟩; go_simp⟩) hS ?_
  (try simp only [Act.put,List.getElem_toArray,List.getElem_cons_succ,List.getElem_cons_zero,List.setIfInBounds_toArray,List.set_cons_zero,List.set_cons_succ])
  refine wpAnyH_ready (rs:=[0]) (by as_aux_lemma => kernel_rfl) zz17 (AllReadyH.cons rfl (fun K hK => ?_) AllReadyH.nil)
  (try rw [if_pos zz22])
  clear hS
  go_simp
  obtain ⟨Va,hVa⟩ : ∃ Z,(V.alloc (.cells #[] 9)).drew = Z:=⟨_,rfl⟩
  have hOa : Own (α:=ByteArray) V Va (some ⟨V.heap.size,0,none⟩) 0 []:=by rw [← hVa]; exact (Own.litAt (Below.refl _ _) 9 rfl rfl).drew
  rw [hVa]
  clear hVa
  have HOA:=zd hOa; clear hOa
  refine hK.out _ _ (HS.out _ HOA.out.bl) (fun hS => ?_)
  clear hK K
  (try simp only [Act.put,List.getElem_toArray,List.getElem_cons_succ,List.getElem_cons_zero,List.setIfInBounds_toArray,List.set_cons_zero,List.set_cons_succ])
  refine wpAnyH_ready (rs:=[3]) (by as_aux_lemma => kernel_rfl) zz17 (AllReadyH.cons rfl (fun K hK => ?_) AllReadyH.nil)
  clear hS
  refine step_push (α:=ByteArray) (L:=[]) (ys:=op) (w0:=V) rfl _ _ rfl rfl (by simp [lo,ls,li]) HOA.out rfl lo.symm (Src.flat (Hr0.out _ HOA.out.bl)) zz4 ?_
  intro B0 d0 u0 o0 e0
  have HO0:=zd o0; clear o0 e0
  refine hK.out _ _ (HS.out _ HO0.out.bl) (fun hS => ?_)
  clear hK K
  (try simp only [Act.put,List.getElem_toArray,List.getElem_cons_succ,List.getElem_cons_zero,List.setIfInBounds_toArray,List.set_cons_zero,List.set_cons_succ])
  refine wpAnyH_ready (rs:=[6]) (by as_aux_lemma => kernel_rfl) zz17 (AllReadyH.cons rfl (fun K hK => ?_) AllReadyH.nil)
  clear hS
  refine step_push (α:=ByteArray) (L:=([] ++ op)) (ys:=sh) (w0:=V) rfl _ _ rfl rfl (by simp [lo,ls,li]) HO0.out rfl ls.symm (Src.flat (Hr1.out _ HO0.out.bl)) zz4 ?_
  intro B1 d1 u1 o1 e1
  have HO1:=zd o1; clear o1 e1
  refine hK.out _ _ (HS.out _ HO1.out.bl) (fun hS => ?_)
  clear hK K
  (try simp only [Act.put,List.getElem_toArray,List.getElem_cons_succ,List.getElem_cons_zero,List.setIfInBounds_toArray,List.set_cons_zero,List.set_cons_succ])
  refine wpAnyH_ready (rs:=[9]) (by as_aux_lemma => kernel_rfl) zz17 (AllReadyH.cons rfl (fun K hK => ?_) AllReadyH.nil)
  clear hS
  refine step_push (α:=ByteArray) (L:=(([] ++ op) ++ sh)) (ys:=si) (w0:=V) rfl _ _ rfl rfl (by simp [lo,ls,li]) HO1.out rfl li.symm (Src.flat (Hr2.out _ HO1.out.bl)) zz4 ?_
  intro B2 d2 u2 o2 e2
  have HO2:=zd o2; clear o2 e2
  refine hK.out _ _ (HS.out _ HO2.out.bl) (fun hS => ?_)
  clear hK K
  (try simp only [Act.put,List.getElem_toArray,List.getElem_cons_succ,List.getElem_cons_zero,List.setIfInBounds_toArray,List.set_cons_zero,List.set_cons_succ])
  refine wpAnyH_take (i:=10) (v:=.slice B2 20 d2) rfl (by as_aux_lemma => kernel_rfl) (by as_aux_lemma => kernel_rfl) (by as_aux_lemma => kernel_rfl) (fun _ _ _ h => h) (yieldsIf_assign zz22 _ rfl zz22) hS ?_
  (try simp only [Act.put,List.getElem_toArray,List.getElem_cons_succ,List.getElem_cons_zero,List.setIfInBounds_toArray,List.set_cons_zero,List.set_cons_succ])
  refine wpAnyH_done (by as_aux_lemma => kernel_rfl) ?_ _
  clear hS
  (try go_wp2_with (fail))
  go_meet
  exact ⟨B2,d2,rfl,HO2⟩
 case rest =>
 rename World => V4
 obtain ⟨B2,d2,rfl,HO⟩:=hcut
 have HJ : Hid (sigTx ⟨(n : Int),op,sh,si⟩ = bs (UInt8.ofNat n :: joinT ((([] ++ op) ++ sh) ++ si))):=zd (by simp [sigTx])
 have HLL : Hid (((([] ++ op) ++ sh) ++ si).length = 20):=zd zz23
 have HSZ : Hid (∀ z ∈ ((([] ++ op) ++ sh) ++ si),z.size = 16):=zd (fun z hm => by
  simp only [List.nil_append,List.mem_append] at hm
  rcases hm with (hm | hm) | hm
  ·exact so _ hm
  ·exact ss _ hm
  ·exact sI _ hm)
 obtain ⟨L,hL⟩ : ∃ L,(([] ++ op) ++ sh) ++ si = L:=⟨_,rfl⟩
 simp only [hL] at HO HJ HLL HSZ
 obtain ⟨RT,hRT⟩ : ∃ z,sigTx ⟨(n : Int),op,sh,si⟩ = z:=⟨_,rfl⟩
 rw [hRT] at HJ
 have HRT:=zd hRT
 have HK:=zd hk
 clear hL hRT hk lo ls li so ss sI hlo f1 f2 f3 HS Hr0 Hr1 Hr2
 have HB4:=zd (HBV.out.trans (HO.out.bl.mono HBV.out.size))
 go_wp2_with (fail)
 go_loopw [4,6] (fun u i wr => ∃ (k : Nat) (s : ByteArray),k ≤ 20 ∧ i = .int .i64 k ∧ u = .string s ∧ s.size ≤ 1 + 16 * k ∧ Hid (s = bs (UInt8.ofNat n :: joinT (L.take k))) ∧ Below V4.heap.size V4 wr) (fun _ i _ => 20 - (intOf i).toNat)
 case atStart => exact ⟨0,_,zz4,rfl,rfl,by rw [bs_size]; simp,zd (by simp [joinT]),Below.refl _ _⟩
 case round =>
  obtain ⟨k,s,hk,rfl,rfl,hsz,HT,hB⟩:=hrel
  by_cases hlt : k < 20
  ·have hkl : k < L.length:=by have:=HLL.out; omega
   obtain ⟨b1,o1,rfl,hl1,f0, -⟩:=Row.str HO.out.row hkl
   replace f0:=(hB.cell (p:=⟨b1,o1 + k,none⟩) hl1).trans f0
   have HZ:=zd (HSZ.out _ (List.getElem_mem hkl))
   have HN:=zd (show L.take (k + 1) = L.take k ++ [L[k]] from List.take_succ_eq_append_getElem hkl)
   obtain ⟨E,hE⟩ : ∃ E,L[k] = E:=⟨_,rfl⟩
   rw [hE] at f0 HZ HN
   clear hE
   have hez:=HZ.out
   have hc : ¬ 9223372036854775807 < s.size + E.size:=zz4
   go_wp2
   go_roundw
   case rel => exact ⟨k + 1,s ++ E,zz4,by go_num,rfl,by rw [ByteArray.size_append]; omega,zd (by rw [HN.out,joinT_app,HT.out,bs_more]; simp [joinT]),hB⟩
   case measure => simp [intOf]; omega
  ·have hke : k = 20:=by omega
   subst hke
   have HE : Hid (s = RT):=zd (by rw [HT.out,HJ.out,List.take_of_length_le (by rw [HLL.out]; exact Nat.le_refl _)])
   go_wp2
   refine bodyPost_ret (v:=.tuple #[.string s, .bool true]) (by simp [results,Tryz.results108,go_sem, *]) rfl ?_
   exact ⟨by rw [HK.out,HRT.out, ← HE.out]; rfl,HB4.out.trans (hB.mono HB4.out.size)⟩
end Go.Proofs.YtlfnmbcnehaikaaGreatDoor
