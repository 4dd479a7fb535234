/- A part of the proof. -/
import Derived.Test.YtlfnmbcnehaikaaGreatDoorHApUb
import Derived.Test.YtlfnmbcnehaikaaGreatDoorHApRm
set_option linter.unusedVariables false
set_option linter.unusedSimpArgs false
set_option maxRecDepth 20000
set_option maxHeartbeats 8000000
namespace Go.Proofs.YtlfnmbcnehaikaaGreatDoor
open Go.RowKit Lay Mk
theorem logTexts_good (xs : List File) (n : ByteArray) : ∀ s ∈ logTexts xs n,1 ≤ s.size ∧ s.size ≤ 9000:=by
 unfold logTexts
 split
 ·intro s hs; cases hs
 ·rename_i T _
  split
  ·exact (unframe_sz T).1
  ·intro s hs; cases hs
theorem set6R (w : World) (r : Nat) (b0 b1 b2 b3 b4 b5 : Value) : Chg (fun b => b = r) w ((((((w.setCell ⟨r,0,none⟩ b0).setCell ⟨r,1,none⟩ b1).setCell ⟨r,2,none⟩ b2).setCell ⟨r,3,none⟩ b3).setCell ⟨r,4,none⟩ b4).setCell ⟨r,5,none⟩ b5):=by
 have h : ∀ (Z : World) (o : Nat) (u : Value),Chg (fun b => b = r) w Z → Chg (fun b => b = r) w (Z.setCell ⟨r,o,none⟩ u):=fun Z o u k => Chg.setCell k (Or.inl rfl) u
 exact h _ _ _ (h _ _ _ (h _ _ _ (h _ _ _ (h _ _ _ (h _ _ _ (Chg.refl _ _))))))
theorem recsTo_snoc {l : List ByteArray} {k : Nat} (h : k < l.length) (x : Auditor) : recsTo (l.take (k + 1)) x = recTo l[k] (recsTo (l.take k) x):=by
 rw [List.take_succ_eq_append_getElem h]
 unfold recsTo
 rw [List.foldl_append]; rfl
theorem recsTo_len : ∀ (l : List ByteArray) (x : Auditor),(recsTo l x).pins.length ≤ x.pins.length + l.length ∧ (recsTo l x).pairs.length ≤ x.pairs.length + l.length
 | [],x => ⟨Nat.le_refl _,Nat.le_refl _⟩
 | t :: l,x => by
  rw [recsTo_cons]
  have h1:=recsTo_len l (recTo t x)
  have h2:=rec_len t x
  simp only [List.length_cons]
  omega
def AudRes (x : Auditor) (w : World) (e : Ending) (w' : World) : Prop:=∃ cs,e = .returned (.agg cs.toArray) ∧ rd true w' cs x (nw w.heap.size) ∧ Below w.heap.size w w'
theorem impl_auditorFrom (w : World) (house : Int) (hi : I64 house) (xs : List File) (A : Option Addr) (cap : Nat) (S : Blks) (hx : Row false w A cap xs S) (hl : xs.length ≤ 2000000000) (hz : ∀ k (h : k < xs.length),xs[k].text.size ≤ 1048576) (ps : List ByteArray) (A1 : Option Addr) (cap1 : Nat) (S1 : Blks) (hp : Row false w A1 cap1 ps S1) (hpl : ps.length ≤ 2000000000) : Calls Tryz.prog 33 #[.int .i64 house, .agg #[.slice A xs.length cap], .slice A1 ps.length cap1] w (AudRes (auditorFrom house ⟨xs⟩ ps) w):=by
 have HAF:=zd (auditorFrom_eq house ⟨xs⟩ ps)
 have HLG:=zd (logTexts_good xs pinsName)
 have hLL:=logTexts_len xs pinsName
 go_enter Tryz.func33,Tryz.ntmps33
 go_upto_region 1 with (fail)
 obtain ⟨W,hW⟩ : ∃ W,(w.alloc (.cells #[.slice A xs.length cap] 28)).alloc (.cells #[.int .i64 0, .bool false, .slice none 0 0, .slice none 0 0, .slice none 0 0, .slice none 0 0] 33) = W:=⟨_,rfl⟩
 have hWf : Below w.heap.size w W ∧ W.heap.size = w.heap.size + 1 + 1 ∧ W.cell? ⟨w.heap.size,0,none⟩ = some (.slice A xs.length cap) ∧ Bx W (w.heap.size + 1) #[.int .i64 0, .bool false, .slice none 0 0, .slice none 0 0, .slice none 0 0, .slice none 0 0] 33:=by
  rw [← hW]
  have e1 : w.heap.size + 1 = (w.alloc (.cells #[.slice A xs.length cap] 28)).heap.size:=zz17
  exact ⟨((Below.refl _ _).alloc (Nat.le_refl _) _).alloc zz17 _,zz17,cell_alloc (ya2 _ _ _ _ _ rfl),by rw [e1]; exact Bx.new _ _ _⟩
 rw [hW]
 clear hW
 obtain ⟨bW,sW,cW,xW⟩:=hWf
 have hxW:=Row.later hx bW
 have hpW:=Row.later hp bW
 have HXW:=zd hxW; have HPW:=zd hpW; have HBW:=zd bW; have XW:=zd xW
 clear hx hp hxW hpW bW xW
 go_wp2_with (fail)
 refine (impl_copyDisk W xs A cap S HXW.out hl).mono ?_
 rintro e1 w1 ⟨B0,b0,rfl,o1⟩
 have O1:=zd o1
 have hs1:=o1.bl.size
 clear o1
 go_wp2_with (fail)
 refine (impl_copyTexts w1 ps A1 cap1 S1 (Row.later HPW.out O1.out.bl) hpl).mono ?_
 rintro e2 w2 ⟨B1,b1,rfl,l1,m1,r1,hb2⟩
 have hs2:=hb2.size
 have HB2:=zd (O1.out.bl.trans (hb2.mono hs1))
 have HAV:=zd (AudO.start (w:=w2) (B:=W.heap.size) (up:=true) (ps:=ps) hi zz4 (Row.later O1.out.rng hb2) r1 (rng_dj (Nat.le_refl _)) (fun b k => ⟨k.1,by have:=k.2; omega⟩) (fun b k => ⟨by have:=k.1; omega,k.2⟩) O1.out.le O1.out.cm l1 m1)
 clear r1 hb2 O1
 go_upto_region 2 with (fail)
 obtain ⟨V,hV⟩ : ∃ V,w2.alloc (.cells #[.int .i64 house, .bool true, .slice B0 xs.length b0, .slice B1 ps.length b1, .slice none 0 0, .slice none 0 0] 33) = V:=⟨_,rfl⟩
 have hVf : Below w2.heap.size w2 V ∧ w2.heap.size < V.heap.size:=by rw [← hV]; exact ⟨(Below.refl _ _).alloc (Nat.le_refl _) _,zz17⟩
 rw [hV] at HAV ⊢
 clear hV
 obtain ⟨hbV,hlV⟩:=hVf
 have hsV2 : w2.heap.size < V.heap.size:=hlV
 have HBV:=zd (HB2.out.trans (hbV.mono HB2.out.size))
 have hsV:=HBV.out.size
 have cV:=(HBV.out.cell (p:=⟨w.heap.size,0,none⟩) (by show w.heap.size < _; omega)).trans cW
 clear hbV HB2
 go_wp2_with (fail)
 refine (impl_LogTexts V xs A cap S (Row.later HXW.out HBV.out) zz4 pinsName hz).mono ?_
 rintro e3 w3 ⟨A3,c3,rfl,o3⟩
 obtain ⟨L,hL⟩ : ∃ L,logTexts xs pinsName = L:=⟨_,rfl⟩
 have HAF2 : Hid (auditorFrom house ⟨xs⟩ ps = recsTo L ⟨house,true,⟨xs⟩,ps, [], []⟩):=zd (by rw [HAF.out, ← hL])
 rw [hL] at o3 HLG hLL ⊢
 have HA3:=zd (HAV.out.ok.fence o3.bl (M':=rng V.heap.size w3.heap.size) (fun b k => k))
 have RL:=zd o3.rng
 have HB3:=zd (HBV.out.trans (o3.bl.mono HBV.out.size))
 have hs3:=o3.bl.size
 clear o3 hL HAF HAV cV cW
 go_wp2_with (fail)
 go_loopw [19] (fun i wr => ∃ k : Nat,k ≤ L.length ∧ i = .int .i64 k ∧ Aud W.heap.size (rng V.heap.size w3.heap.size) wr w2.heap.size (recsTo (L.take k) ⟨house,true,⟨xs⟩,ps, [], []⟩) ∧ Chg (fun b => W.heap.size ≤ b ∧ b < wr.heap.size ∧ ¬ rng V.heap.size w3.heap.size b) w3 wr) (fun i _ => L.length - (intOf i).toNat)
 case atStart => exact ⟨0,Nat.zero_le _,rfl,HA3.out,Chg.refl _ _⟩
 case round =>
  obtain ⟨k,hk,rfl,haud,hch⟩:=hrel
  have HAU:=zd haud
  have HCH:=zd hch
  have hsr:=hch.size
  clear haud HA3
  by_cases hlt : k < L.length
  ·obtain ⟨b1,o1,rfl,hl1,q1,q2⟩:=Row.str (Row.chg RL.out hch (fun b p q => q.2.2 p)) hlt
   have HS:=zd (recsTo_snoc hlt ⟨house,true,⟨xs⟩,ps, [], []⟩)
   have hg:=HLG.out L[k] (List.getElem_mem hlt)
   have HLN:=zd (recsTo_len (L.take k) ⟨house,true,⟨xs⟩,ps, [], []⟩)
   obtain ⟨s,hs⟩ : ∃ s,L[k] = s:=⟨_,rfl⟩
   rw [hs] at q1 HS hg
   clear hs hch q2
   have hln : (L.take k).length ≤ 4000:=zz23
   have hki : (k : Int) < (L.length : Int):=zz4
   go_wp2_with (fail)
   refine (impl_apply wr W.heap.size w2.heap.size (rng V.heap.size w3.heap.size) _ HAU.out s zz4 zz4 (by have:=HLN.out.1; simp only [List.length_nil] at this; omega) (by have:=HLN.out.2; simp only [List.length_nil] at this; omega)).mono ?_
   rintro e4 w4 ⟨rfl,hau4,hc4⟩
   have hs4:=hc4.size
   go_wp2_with (fail)
   go_roundw
   case rel => exact ⟨k + 1,hlt,by go_num,by rw [HS.out]; exact hau4,(HCH.out.mono (fun b _ q => ⟨q.1,by have:=q.2.1; omega,q.2.2⟩)).trans (hc4.mono (fun b _ q => ⟨q.1,by have:=q.2.1; omega,q.2.2⟩))⟩
   case measure => simp [intOf]; omega
  ·have hke : k = L.length:=by omega
   subst hke
   rw [List.take_length] at HAU
   have HAE:=zd HAF2.out
   obtain ⟨x,hx⟩ : ∃ x,recsTo L ⟨house,true,⟨xs⟩,ps, [], []⟩ = x:=⟨_,rfl⟩
   rw [hx] at HAU HAE
   clear hx HLG hch
   obtain ⟨C0,d0,C1,d1,C2,d2,C3,d3,F,G,ho⟩:=HAU.out
   have HR:=zd ho.read
   have bx:=ho.bx
   have hgl:=bx.lt
   have xr:=XW.out.keep (((HCH.out.mono (fun b _ q => q.1)).block (w.heap.size + 1) zz4 zz4).trans (HB3.out.block _ zz4))
   have y0:=bx.at_ (i:=0) rfl
   have z0:=xr.at_ (i:=0) rfl
   have y1:=bx.at_ (i:=1) rfl
   have z1:=xr.at_ (i:=1) rfl
   have y2:=bx.at_ (i:=2) rfl
   have z2:=xr.at_ (i:=2) rfl
   have y3:=bx.at_ (i:=3) rfl
   have z3:=xr.at_ (i:=3) rfl
   have y4:=bx.at_ (i:=4) rfl
   have z4:=xr.at_ (i:=4) rfl
   have y5:=bx.at_ (i:=5) rfl
   have z5:=xr.at_ (i:=5) rfl
   have yf:=xr.fz
   clear ho bx xr
   go_wp2_with (fail)
   refine bodyPost_ret (v:=.agg #[.int .i64 x.house, .bool x.up, .slice C0 x.disk.files.length d0, .slice C1 x.pool.length d1, .slice C2 x.pins.length d2, .slice C3 x.pairs.length d3]) (by simp [results,Tryz.results33,go_sem, *]) rfl ?_
   rw [HAE.out]
   clear y0 y1 y2 y3 y4 y5 yf z0 z1 z2 z3 z4 z5
   have hset:=set6R wr (w.heap.size + 1) (.int .i64 x.house) (.bool x.up) (.slice C0 x.disk.files.length d0) (.slice C1 x.pool.length d1) (.slice C2 x.pins.length d2) (.slice C3 x.pairs.length d3)
   refine ⟨_,rfl,Lay.mono (Lay.keep (Lay.tight HR.out) (fun b k => hset.block_ne (by have k1 : W.heap.size ≤ b:=k.1; omega) k.2)) (fun b k => by have k1 : W.heap.size ≤ b:=k.1; show w.heap.size ≤ b; omega),?_⟩
   exact (HBW.out.trans ((HB3.out.trans ((HCH.out).to_below zz4 (fun b q => q.1))).mono HBW.out.size)).trans (hset.to_below zz4 (fun b q => by have q : b = w.heap.size + 1:=q; omega))
theorem spec_l22New (w : World) (house : Int) (hi : I64 house) (xs : List File) (A : Option Addr) (cap : Nat) (S : Blks) (hx : Row false w A cap xs S) (hl : xs.length ≤ 2000000000) (hz : ∀ k (h : k < xs.length),xs[k].text.size ≤ 1048576) (ps : List ByteArray) (A1 : Option Addr) (cap1 : Nat) (S1 : Blks) (hp : Row false w A1 cap1 ps S1) (hpl : ps.length ≤ 2000000000) : Calls Tryz.prog 29 #[.int .i64 house, .agg #[.slice A xs.length cap], .slice A1 ps.length cap1] w (AudRes (auditorFrom house ⟨xs⟩ ps) w):=by
 have HAF:=zd (auditorFrom_eq house ⟨xs⟩ ps)
 have HLG:=zd (logTexts_good xs pinsName)
 have hLL:=logTexts_len xs pinsName
 go_enter Tryz.func29,Tryz.ntmps29
 go_upto_region 1 with (fail)
 obtain ⟨W,hW⟩ : ∃ W,(w.alloc (.cells #[.slice A xs.length cap] 28)).alloc (.cells #[.int .i64 0, .bool false, .slice none 0 0, .slice none 0 0, .slice none 0 0, .slice none 0 0] 33) = W:=⟨_,rfl⟩
 have hWf : Below w.heap.size w W ∧ W.heap.size = w.heap.size + 1 + 1 ∧ W.cell? ⟨w.heap.size,0,none⟩ = some (.slice A xs.length cap) ∧ Bx W (w.heap.size + 1) #[.int .i64 0, .bool false, .slice none 0 0, .slice none 0 0, .slice none 0 0, .slice none 0 0] 33:=by
  rw [← hW]
  have e1 : w.heap.size + 1 = (w.alloc (.cells #[.slice A xs.length cap] 28)).heap.size:=zz17
  exact ⟨((Below.refl _ _).alloc (Nat.le_refl _) _).alloc zz17 _,zz17,cell_alloc (ya2 _ _ _ _ _ rfl),by rw [e1]; exact Bx.new _ _ _⟩
 rw [hW]
 clear hW
 obtain ⟨bW,sW,cW,xW⟩:=hWf
 have hxW:=Row.later hx bW
 have hpW:=Row.later hp bW
 have HXW:=zd hxW; have HPW:=zd hpW; have HBW:=zd bW; have XW:=zd xW
 clear hx hp hxW hpW bW xW
 go_upto_region 2 with (first | (at_builtin; refine wpList_push (α:=File) (w0:=W) rfl _ _ rfl rfl rfl (Own.litAt (Below.refl W.heap.size W) 102 rfl sW.symm) rfl rfl (Src.flat (Row.later HXW.out ((Below.refl _ _).alloc (Nat.le_refl _) _))) zz4 ?_; intro B0 b0 w1 o1 s1; have O1:=zd o1; have hs1:=o1.bl.size; clear o1 s1) | (at_builtin; refine wpList_push (α:=ByteArray) (w0:=w1) rfl _ _ rfl rfl rfl (Own.litAt (Below.refl w1.heap.size w1) 9 rfl rfl) rfl rfl (Src.flat (Row.later (Row.later HPW.out O1.out.bl) ((Below.refl _ _).alloc (Nat.le_refl _) _))) zz4 ?_; intro B1 b1 w2 o2 s2; have O2:=zd o2; have hs2:=o2.bl.size; clear o2 s2))
 have HB2:=zd (O1.out.bl.trans (O2.out.bl.mono hs1))
 simp only [List.length_nil,Nat.zero_add,List.nil_append] at O1 O2 ⊢
 have HAV:=zd (AudO.start (w:=w2) (B:=W.heap.size) (up:=true) (ps:=ps) hi zz4 (Row.later O1.out.rng O2.out.bl) O2.out.rng (rng_dj (Nat.le_refl _)) (fun b k => ⟨k.1,by have:=k.2; omega⟩) (fun b k => ⟨by have:=k.1; omega,k.2⟩) O1.out.le O1.out.cm O2.out.le O2.out.cm)
 clear O1 O2
 obtain ⟨V,hV⟩ : ∃ V,w2.alloc (.cells #[.int .i64 house, .bool true, .slice B0 xs.length b0, .slice B1 ps.length b1, .slice none 0 0, .slice none 0 0] 33) = V:=⟨_,rfl⟩
 have hVf : Below w2.heap.size w2 V ∧ w2.heap.size < V.heap.size:=by rw [← hV]; exact ⟨(Below.refl _ _).alloc (Nat.le_refl _) _,zz17⟩
 rw [hV] at HAV ⊢
 clear hV
 obtain ⟨hbV,hlV⟩:=hVf
 have hsV2 : w2.heap.size < V.heap.size:=hlV
 have HBV:=zd (HB2.out.trans (hbV.mono HB2.out.size))
 have hsV:=HBV.out.size
 have cV:=(HBV.out.cell (p:=⟨w.heap.size,0,none⟩) (by show w.heap.size < _; omega)).trans cW
 clear hbV HB2
 go_wp2_with (fail)
 refine (spec_LogTexts V xs A cap S (Row.later HXW.out HBV.out) zz4 pinsName hz).mono ?_
 rintro e3 w3 ⟨A3,c3,rfl,o3⟩
 obtain ⟨L,hL⟩ : ∃ L,logTexts xs pinsName = L:=⟨_,rfl⟩
 have HAF2 : Hid (auditorFrom house ⟨xs⟩ ps = recsTo L ⟨house,true,⟨xs⟩,ps, [], []⟩):=zd (by rw [HAF.out, ← hL])
 rw [hL] at o3 HLG hLL ⊢
 have HA3:=zd (HAV.out.ok.fence o3.bl (M':=rng V.heap.size w3.heap.size) (fun b k => k))
 have RL:=zd o3.rng
 have HB3:=zd (HBV.out.trans (o3.bl.mono HBV.out.size))
 have hs3:=o3.bl.size
 clear o3 hL HAF HAV cV cW
 go_wp2_with (fail)
 go_loopw [9] (fun i wr => ∃ k : Nat,k ≤ L.length ∧ i = .int .i64 k ∧ Aud W.heap.size (rng V.heap.size w3.heap.size) wr w2.heap.size (recsTo (L.take k) ⟨house,true,⟨xs⟩,ps, [], []⟩) ∧ Chg (fun b => W.heap.size ≤ b ∧ b < wr.heap.size ∧ ¬ rng V.heap.size w3.heap.size b) w3 wr) (fun i _ => L.length - (intOf i).toNat)
 case atStart => exact ⟨0,Nat.zero_le _,rfl,HA3.out,Chg.refl _ _⟩
 case round =>
  obtain ⟨k,hk,rfl,haud,hch⟩:=hrel
  have HAU:=zd haud
  have HCH:=zd hch
  have hsr:=hch.size
  clear haud HA3
  by_cases hlt : k < L.length
  ·obtain ⟨b1,o1,rfl,hl1,q1,q2⟩:=Row.str (Row.chg RL.out hch (fun b p q => q.2.2 p)) hlt
   have HS:=zd (recsTo_snoc hlt ⟨house,true,⟨xs⟩,ps, [], []⟩)
   have hg:=HLG.out L[k] (List.getElem_mem hlt)
   have HLN:=zd (recsTo_len (L.take k) ⟨house,true,⟨xs⟩,ps, [], []⟩)
   obtain ⟨s,hs⟩ : ∃ s,L[k] = s:=⟨_,rfl⟩
   rw [hs] at q1 HS hg
   clear hs hch q2
   have hln : (L.take k).length ≤ 4000:=zz23
   have hki : (k : Int) < (L.length : Int):=zz4
   go_wp2_with (fail)
   refine (spec_l22Record wr W.heap.size w2.heap.size (rng V.heap.size w3.heap.size) _ HAU.out s zz4 zz4 (by have:=HLN.out.1; simp only [List.length_nil] at this; omega) (by have:=HLN.out.2; simp only [List.length_nil] at this; omega)).mono ?_
   rintro e4 w4 ⟨rfl,hau4,hc4⟩
   have hs4:=hc4.size
   go_wp2_with (fail)
   go_roundw
   case rel => exact ⟨k + 1,hlt,by go_num,by rw [HS.out]; exact hau4,(HCH.out.mono (fun b _ q => ⟨q.1,by have:=q.2.1; omega,q.2.2⟩)).trans (hc4.mono (fun b _ q => ⟨q.1,by have:=q.2.1; omega,q.2.2⟩))⟩
   case measure => simp [intOf]; omega
  ·have hke : k = L.length:=by omega
   subst hke
   rw [List.take_length] at HAU
   have HAE:=zd HAF2.out
   obtain ⟨x,hx⟩ : ∃ x,recsTo L ⟨house,true,⟨xs⟩,ps, [], []⟩ = x:=⟨_,rfl⟩
   rw [hx] at HAU HAE
   clear hx HLG hch
   obtain ⟨C0,d0,C1,d1,C2,d2,C3,d3,F,G,ho⟩:=HAU.out
   have HR:=zd ho.read
   have bx:=ho.bx
   have hgl:=bx.lt
   have xr:=XW.out.keep (((HCH.out.mono (fun b _ q => q.1)).block (w.heap.size + 1) zz4 zz4).trans (HB3.out.block _ zz4))
   have y0:=bx.at_ (i:=0) rfl
   have z0:=xr.at_ (i:=0) rfl
   have y1:=bx.at_ (i:=1) rfl
   have z1:=xr.at_ (i:=1) rfl
   have y2:=bx.at_ (i:=2) rfl
   have z2:=xr.at_ (i:=2) rfl
   have y3:=bx.at_ (i:=3) rfl
   have z3:=xr.at_ (i:=3) rfl
   have y4:=bx.at_ (i:=4) rfl
   have z4:=xr.at_ (i:=4) rfl
   have y5:=bx.at_ (i:=5) rfl
   have z5:=xr.at_ (i:=5) rfl
   have yf:=xr.fz
   clear ho bx xr
   go_wp2_with (fail)
   refine bodyPost_ret (v:=.agg #[.int .i64 x.house, .bool x.up, .slice C0 x.disk.files.length d0, .slice C1 x.pool.length d1, .slice C2 x.pins.length d2, .slice C3 x.pairs.length d3]) (by simp [results,Tryz.results29,go_sem, *]) rfl ?_
   rw [HAE.out]
   clear y0 y1 y2 y3 y4 y5 yf z0 z1 z2 z3 z4 z5
   have hset:=set6R wr (w.heap.size + 1) (.int .i64 x.house) (.bool x.up) (.slice C0 x.disk.files.length d0) (.slice C1 x.pool.length d1) (.slice C2 x.pins.length d2) (.slice C3 x.pairs.length d3)
   refine ⟨_,rfl,Lay.mono (Lay.keep (Lay.tight HR.out) (fun b k => hset.block_ne (by have k1 : W.heap.size ≤ b:=k.1; omega) k.2)) (fun b k => by have k1 : W.heap.size ≤ b:=k.1; show w.heap.size ≤ b; omega),?_⟩
   exact (HBW.out.trans ((HB3.out.trans ((HCH.out).to_below zz4 (fun b q => q.1))).mono HBW.out.size)).trans (hset.to_below zz4 (fun b q => by have q : b = w.heap.size + 1:=q; omega))
end Go.Proofs.YtlfnmbcnehaikaaGreatDoor
