/- A part of the proof. -/
import Derived.Test.YtgllafgpmenjjaaGreatDoorHChCf
set_option linter.unusedVariables false
set_option linter.unusedSimpArgs false
set_option maxRecDepth 20000
set_option maxHeartbeats 16000000
namespace Go.Proofs.YtgllafgpmenjjaaGreatDoor
open Go.RowKit Lay Mk
theorem HearCut.last2 {W w5 : World} {hs : Int} {A : Option Addr} {c n : Nat} {L : List Head} (own : Own W w5 A c L) (hn : n = L.length) (t : TypeId) : HearCut W (w5.alloc (.cells #[.int .i64 hs, .slice A n c] t)) w5.heap.size hs A c L:=by
 subst hn
 have hs5 : W.heap.size ≤ w5.heap.size:=own.size
 refine ⟨own.bl.alloc hs5 _,hs5,zz32,ya1 _ _ _ _ _ rfl,ya1 _ _ _ _ _ rfl,fun o => frozen_new _ _ _ o,?_,own.le,own.cm⟩
 exact (own.rng.allocC _).mono (fun b h => ⟨h.1,by have:=h.2; omega⟩)
theorem cnL_heads (xs : List Head) : cnL xs = 4 * xs.length:=by
 induction xs with
 | nil => rfl
 | cons x r ih => simp only [cnL,List.map_cons,List.sum_cons,List.length_cons] at *; rw [ih]; have : cn x = 4:=rfl; omega
theorem cnb_clientHear (c : Client) (t : Trust) (links : List Seal) (name : ByteArray) (x : Whole) (hc : c.sz ≤ 1048576) (_ht : t.sz ≤ 1048576) (hl : szL links ≤ 1048576) (_hx : x.sz ≤ 1048576) (_hn : name.size ≤ 1048576) : (clientHear c t links name x).1.ct ≤ 1000000000000:=by
 have h1:=client_sz hc
 have h2:=szT_le links 0
 have h3 : (clientHear c t links name x).1.seen.length ≤ c.seen.length + links.length:=by
  unfold clientHear
  split
  ·exact Nat.le_add_right _ _
  ·split
   ·split
    ·exact Nat.le_add_right _ _
    ·exact Nat.le_add_right _ _
   ·split
    ·show (hearAll c links).length ≤ _
     rw [hearAll_len]; exact Nat.le_refl _
    ·exact Nat.le_add_right _ _
 show cnL _ ≤ _
 rw [cnL_heads]
 omega
theorem spec_ClientHear (w : World) (c : Client) (cc : List Value) (Sc : Blks) (hc : rd false w cc c Sc) (hzc : c.sz ≤ 1048576) (t : Trust) (ct : List Value) (St : Blks) (ht : rd false w ct t St) (hzt : t.sz ≤ 1048576) (links : List Seal) (AL : Option Addr) (kL : Nat) (SL : Blks) (hL : Row false w AL kL links SL) (lL : links.length ≤ kL) (mL : kL ≤ maxLen) (zL : szL links ≤ 1048576) (name : ByteArray) (hn : name.size ≤ 1048576) (x : Whole) (cx : List Value) (Sx : Blks) (hx : rd false w cx x Sx) (hzx : x.sz ≤ 1048576) : Calls Tryz.prog 10 #[.agg cc.toArray, .agg ct.toArray, .slice AL links.length kL, .string name, .agg cx.toArray] w (ChRes (clientHear c t links name x) w):=by
 obtain ⟨hs,L⟩:=c
 have hcl:=client_sz hzc
 have hll : links.length ≤ 1048576:=by have:=szT_le links 0; omega
 obtain ⟨C0,q0,SC,rfl,hci, -, -,rC, -⟩:=Client.open hc
 simp only at hcl hci rC
 have HT1:=zd ht
 have HX1:=zd hx
 obtain ⟨A0,k0,ST,rfl, -, -, -, -,rT, -⟩:=Trust.open ht
 obtain ⟨B0,j0,U0,B1,j1,U1,B2,j2,U2,B3,j3,U3,B4,j4,U4,B5,j5,U5,B6,j6,U6,rfl, -,hie, -⟩:=Whole.open hx
 clear hc ht hx
 simp only [Trust.cs,Client.cs,Whole.cs] at HT1 HX1 ⊢
 have HVE:=zd (fun W (h : Below w.heap.size w W) => spec_Verify W t _ St (Lay.later HT1.out h) hzt hs hci name hn x.seal_.head.epoch hie x _ Sx (Lay.later HX1.out h) (whole_sz hzx))
 have HVI:=zd (fun h => ver_in (t:=t) (house:=hs) (name:=name) (epoch:=x.seal_.head.epoch) (x:=x) h)
 have HC1:=zd (fun h => ch_1 (c:=⟨hs,L⟩) (t:=t) (links:=links) (name:=name) (x:=x) h)
 have HC2:=zd (fun h m hm hl h5 => ch_2 (c:=⟨hs,L⟩) (t:=t) (links:=links) (name:=name) (x:=x) h (m:=m) hm hl h5)
 have HC3:=zd (fun h m hm hl h5 => ch_3 (c:=⟨hs,L⟩) (t:=t) (links:=links) (name:=name) (x:=x) h (m:=m) hm hl h5)
 have HC4:=zd (fun h hl h5 => ch_4 (c:=⟨hs,L⟩) (t:=t) (links:=links) (name:=name) (x:=x) h hl h5)
 have HC5:=zd (fun h hl h5 => ch_5 (c:=⟨hs,L⟩) (t:=t) (links:=links) (name:=name) (x:=x) h hl h5)
 have HLB:=zd (fun root k hk hb => lk_bad (root:=root) (c:=⟨hs,L⟩) (links:=links) (h:=x.seal_.head) (k:=k) hk hb)
 have HLA:=zd (fun root ha => lk_all (root:=root) (c:=⟨hs,L⟩) (links:=links) (h:=x.seal_.head) ha)
 obtain ⟨R,hR⟩ : ∃ R,clientHear ⟨hs,L⟩ t links name x = R:=⟨_,rfl⟩
 rw [hR] at HC1 HC2 HC3 HC4 HC5 ⊢
 obtain ⟨v,hv⟩ : ∃ v,verify t hs name x.seal_.head.epoch x = v:=⟨_,rfl⟩
 rw [hv] at HVE HVI HC1 HC2 HC3 HC4 HC5
 obtain ⟨v1,v2,v3⟩:=v
 simp only at HVI HC1 HC2 HC3 HC4 HC5
 clear hR hv
 obtain ⟨hd,hhd⟩ : ∃ h,x.seal_.head = h:=⟨_,rfl⟩
 simp only [hhd] at HVE HVI HC2 HC3 HC4 HC5 HLB HLA hie ⊢
 clear hhd
 obtain ⟨hh,ep,hr,hp⟩:=hd
 have HSM : Hid (∀ y : Head,sameHd y ⟨hh,ep,hr,hp⟩ = (decide (y.house = hh) && decide (y.epoch = ep) && decide (y.root = hr) && decide (y.prev = hp))):=zd (fun _ => rfl)
 simp only at HVE HVI HC2 HC3 HC4 HC5 hie
 have hWd : ∀ W,W = (((w.alloc (.cells #[.int .i64 hs, .slice C0 L.length q0] 47)).alloc (.cells #[.slice A0 t.roots.length k0, .int .i64 t.k, .int .i64 t.need] 51)).alloc (.cells #[.slice B0 x.proof.bucket.length j0, .slice B1 x.proof.sides.length j1, .slice B2 x.tops.length j2, .int .i64 hh, .int .i64 ep, .string hr, .string hp, .int .i64 x.seal_.sig.at_, .slice B3 x.seal_.sig.open_.length j3, .slice B4 x.seal_.sig.shut.length j4, .slice B5 x.seal_.sig.sides.length j5, .slice B6 x.stamps.length j6] 64)).alloc (.cells #[.int .i64 0, .slice none 0 0] 47) → Below w.heap.size w W ∧ W.heap.size = w.heap.size + 4 ∧ (∀ o,W.frozen? ⟨w.heap.size + 1 + 1 + 1,o,none⟩ = false) ∧ W.cell? ⟨w.heap.size,0,none⟩ = some (.int .i64 hs) ∧ W.cell? ⟨w.heap.size,1,none⟩ = some (.slice C0 L.length q0) ∧ W.cell? ⟨w.heap.size + 1,0,none⟩ = some (.slice A0 t.roots.length k0) ∧ W.cell? ⟨w.heap.size + 1,1,none⟩ = some (.int .i64 t.k) ∧ W.cell? ⟨w.heap.size + 1,2,none⟩ = some (.int .i64 t.need) ∧ W.cell? ⟨w.heap.size + 1 + 1,0,none⟩ = some (.slice B0 x.proof.bucket.length j0) ∧ W.cell? ⟨w.heap.size + 1 + 1,1,none⟩ = some (.slice B1 x.proof.sides.length j1) ∧ W.cell? ⟨w.heap.size + 1 + 1,2,none⟩ = some (.slice B2 x.tops.length j2) ∧ W.cell? ⟨w.heap.size + 1 + 1,3,none⟩ = some (.int .i64 hh) ∧ W.cell? ⟨w.heap.size + 1 + 1,4,none⟩ = some (.int .i64 ep) ∧ W.cell? ⟨w.heap.size + 1 + 1,5,none⟩ = some (.string hr) ∧ W.cell? ⟨w.heap.size + 1 + 1,6,none⟩ = some (.string hp) ∧ W.cell? ⟨w.heap.size + 1 + 1,7,none⟩ = some (.int .i64 x.seal_.sig.at_) ∧ W.cell? ⟨w.heap.size + 1 + 1,8,none⟩ = some (.slice B3 x.seal_.sig.open_.length j3) ∧ W.cell? ⟨w.heap.size + 1 + 1,9,none⟩ = some (.slice B4 x.seal_.sig.shut.length j4) ∧ W.cell? ⟨w.heap.size + 1 + 1,10,none⟩ = some (.slice B5 x.seal_.sig.sides.length j5) ∧ W.cell? ⟨w.heap.size + 1 + 1,11,none⟩ = some (.slice B6 x.stamps.length j6) ∧ W.cell? ⟨w.heap.size + 1 + 1 + 1,0,none⟩ = some (.int .i64 0) ∧ W.cell? ⟨w.heap.size + 1 + 1 + 1,1,none⟩ = some (.slice none 0 0):=by
  rintro W rfl
  have e1 : w.heap.size + 1 = (w.alloc (.cells #[.int .i64 hs, .slice C0 L.length q0] 47)).heap.size:=zz32
  have e2 : w.heap.size + 1 + 1 = ((w.alloc (.cells #[.int .i64 hs, .slice C0 L.length q0] 47)).alloc (.cells #[.slice A0 t.roots.length k0, .int .i64 t.k, .int .i64 t.need] 51)).heap.size:=zz32
  have e3 : w.heap.size + 1 + 1 + 1 = (((w.alloc (.cells #[.int .i64 hs, .slice C0 L.length q0] 47)).alloc (.cells #[.slice A0 t.roots.length k0, .int .i64 t.k, .int .i64 t.need] 51)).alloc (.cells #[.slice B0 x.proof.bucket.length j0, .slice B1 x.proof.sides.length j1, .slice B2 x.tops.length j2, .int .i64 hh, .int .i64 ep, .string hr, .string hp, .int .i64 x.seal_.sig.at_, .slice B3 x.seal_.sig.open_.length j3, .slice B4 x.seal_.sig.shut.length j4, .slice B5 x.seal_.sig.sides.length j5, .slice B6 x.stamps.length j6] 64)).heap.size:=zz32
  refine ⟨(((((Below.refl _ _).alloc (Nat.le_refl _) _).alloc zz32 _).alloc zz35 _).alloc zz35 _),zz32,fun o => by rw [e3]; exact frozen_new _ _ _ _,?_⟩
  refine ⟨ya4 (ya4 (ya4 (ya1 _ _ _ _ _ rfl))),ya4 (ya4 (ya4 (ya1 _ _ _ _ _ rfl))),ya4 (ya4 zz56),ya4 (ya4 zz56),ya4 (ya4 zz56),ya4 zz34,ya4 zz34,ya4 zz34,ya4 zz34,ya4 zz34,ya4 zz34,ya4 zz34,ya4 zz34,ya4 zz34,ya4 zz34,ya4 zz34,ya4 zz34,(by rw [e3]; exact ya1 _ _ _ _ _ rfl),(by rw [e3]; exact ya1 _ _ _ _ _ rfl)⟩
 go_enter Tryz.func10,Tryz.ntmps10
 go_wp2_with (fail)
 obtain ⟨W,hW⟩ : ∃ W,(((w.alloc (.cells #[.int .i64 hs, .slice C0 L.length q0] 47)).alloc (.cells #[.slice A0 t.roots.length k0, .int .i64 t.k, .int .i64 t.need] 51)).alloc (.cells #[.slice B0 x.proof.bucket.length j0, .slice B1 x.proof.sides.length j1, .slice B2 x.tops.length j2, .int .i64 hh, .int .i64 ep, .string hr, .string hp, .int .i64 x.seal_.sig.at_, .slice B3 x.seal_.sig.open_.length j3, .slice B4 x.seal_.sig.shut.length j4, .slice B5 x.seal_.sig.sides.length j5, .slice B6 x.stamps.length j6] 64)).alloc (.cells #[.int .i64 0, .slice none 0 0] 47) = W:=⟨_,rfl⟩
 rw [hW]
 obtain ⟨hBW,hWs,rf,c0,c1,t0,t1,t2,x0,x1,x2,x3,x4,x5,x6,x7,x8,x9,x10,x11,r0,r1⟩:=hWd W hW.symm
 clear hW hWd
 have HBW:=zd hBW
 have hlW : w.heap.size + 1 + 1 + 1 < W.heap.size:=zz8
 have HALL:=zd (fun (w' : World) (h : Below W.heap.size W w') => (⟨(h.cell (p:=⟨w.heap.size,0,none⟩) zz28).trans c0,(h.cell (p:=⟨w.heap.size,1,none⟩) zz28).trans c1,(h.cell (p:=⟨w.heap.size + 1,0,none⟩) zz12).trans t0,(h.cell (p:=⟨w.heap.size + 1,1,none⟩) zz12).trans t1,(h.cell (p:=⟨w.heap.size + 1,2,none⟩) zz12).trans t2,(h.cell (p:=⟨w.heap.size + 1 + 1,0,none⟩) zz18).trans x0,(h.cell (p:=⟨w.heap.size + 1 + 1,1,none⟩) zz18).trans x1,(h.cell (p:=⟨w.heap.size + 1 + 1,2,none⟩) zz18).trans x2,(h.cell (p:=⟨w.heap.size + 1 + 1,3,none⟩) zz18).trans x3,(h.cell (p:=⟨w.heap.size + 1 + 1,4,none⟩) zz18).trans x4,(h.cell (p:=⟨w.heap.size + 1 + 1,5,none⟩) zz18).trans x5,(h.cell (p:=⟨w.heap.size + 1 + 1,6,none⟩) zz18).trans x6,(h.cell (p:=⟨w.heap.size + 1 + 1,7,none⟩) zz18).trans x7,(h.cell (p:=⟨w.heap.size + 1 + 1,8,none⟩) zz18).trans x8,(h.cell (p:=⟨w.heap.size + 1 + 1,9,none⟩) zz18).trans x9,(h.cell (p:=⟨w.heap.size + 1 + 1,10,none⟩) zz18).trans x10,(h.cell (p:=⟨w.heap.size + 1 + 1,11,none⟩) zz18).trans x11,(h.cell (p:=⟨w.heap.size + 1 + 1 + 1,0,none⟩) (by show w.heap.size + 1 + 1 + 1 < _; omega)).trans r0,(h.cell (p:=⟨w.heap.size + 1 + 1 + 1,1,none⟩) (by show w.heap.size + 1 + 1 + 1 < _; omega)).trans r1,fun o => (h.frozen (p:=⟨w.heap.size + 1 + 1 + 1,o,none⟩) hlW).trans (rf o)⟩ : w'.cell? ⟨w.heap.size,0,none⟩ = some (.int .i64 hs) ∧ w'.cell? ⟨w.heap.size,1,none⟩ = some (.slice C0 L.length q0) ∧ w'.cell? ⟨w.heap.size + 1,0,none⟩ = some (.slice A0 t.roots.length k0) ∧ w'.cell? ⟨w.heap.size + 1,1,none⟩ = some (.int .i64 t.k) ∧ w'.cell? ⟨w.heap.size + 1,2,none⟩ = some (.int .i64 t.need) ∧ w'.cell? ⟨w.heap.size + 1 + 1,0,none⟩ = some (.slice B0 x.proof.bucket.length j0) ∧ w'.cell? ⟨w.heap.size + 1 + 1,1,none⟩ = some (.slice B1 x.proof.sides.length j1) ∧ w'.cell? ⟨w.heap.size + 1 + 1,2,none⟩ = some (.slice B2 x.tops.length j2) ∧ w'.cell? ⟨w.heap.size + 1 + 1,3,none⟩ = some (.int .i64 hh) ∧ w'.cell? ⟨w.heap.size + 1 + 1,4,none⟩ = some (.int .i64 ep) ∧ w'.cell? ⟨w.heap.size + 1 + 1,5,none⟩ = some (.string hr) ∧ w'.cell? ⟨w.heap.size + 1 + 1,6,none⟩ = some (.string hp) ∧ w'.cell? ⟨w.heap.size + 1 + 1,7,none⟩ = some (.int .i64 x.seal_.sig.at_) ∧ w'.cell? ⟨w.heap.size + 1 + 1,8,none⟩ = some (.slice B3 x.seal_.sig.open_.length j3) ∧ w'.cell? ⟨w.heap.size + 1 + 1,9,none⟩ = some (.slice B4 x.seal_.sig.shut.length j4) ∧ w'.cell? ⟨w.heap.size + 1 + 1,10,none⟩ = some (.slice B5 x.seal_.sig.sides.length j5) ∧ w'.cell? ⟨w.heap.size + 1 + 1,11,none⟩ = some (.slice B6 x.stamps.length j6) ∧ w'.cell? ⟨w.heap.size + 1 + 1 + 1,0,none⟩ = some (.int .i64 0) ∧ w'.cell? ⟨w.heap.size + 1 + 1 + 1,1,none⟩ = some (.slice none 0 0) ∧ ∀ o,w'.frozen? ⟨w.heap.size + 1 + 1 + 1,o,none⟩ = false))
 clear hWs hBW
 have HCP:=zd (fun W' (h : Below W.heap.size W W') => spec_l28Copy W' hs L C0 q0 _ (Row.later rC (HBW.out.trans (h.mono HBW.out.size))) zz8)
 clear c0 c1 t0 t1 t2 x0 x1 x2 x3 x4 x5 x6 x7 x8 x9 x10 x11 r0 r1 rf
 refine (HCP.out _ (Below.refl _ _)).mono ?_
 rintro e5 w5 ⟨A5,c5,rfl,o5⟩
 obtain ⟨c0,c1,t0,t1,t2,x0,x1,x2,x3,x4,x5,x6,x7,x8,x9,x10,x11,r0,r1,rf⟩:=HALL.out w5 o5.bl
 have O5:=zd o5
 have hs5 : W.heap.size ≤ w5.heap.size:=o5.size
 have hl51 : w.heap.size < w5.heap.size:=zz8
 have hl52 : w.heap.size + 1 < w5.heap.size:=zz8
 have hl53 : w.heap.size + 1 + 1 < w5.heap.size:=zz8
 have RC0:=zd rC
 have RT0:=zd rT
 have RL0:=zd hL
 clear o5 rC rT hL HCP
 go_wp2_with (fail)
 obtain ⟨wc,hwc_⟩ : ∃ wc,w5.alloc (.cells #[.int .i64 hs, .slice A5 L.length c5] 47) = wc:=⟨_,rfl⟩
 have HV0 : HearCut W wc w5.heap.size hs A5 c5 L:=by rw [← hwc_]; exact HearCut.last2 O5.out rfl _
 have hwcs : w5.heap.size + 1 = wc.heap.size:=by rw [← hwc_]; simp
 have HWCS:=zd hwcs
 rw [hwc_]
 simp only [hwcs]
 clear hwc_ hwcs
 obtain ⟨ob,hob⟩ : ∃ ob,w5.heap.size = ob:=⟨_,rfl⟩
 rw [hob] at HV0
 simp only [hob]
 have HV:=zd HV0
 clear HV0 hob hl51 hl52 hl53 hs5 O5 HWCS c0 c1 t0 t1 t2 x0 x1 x2 x3 x4 x5 x6 x7 x8 x9 x10 x11 r0 r1 rf
 obtain ⟨c0,c1,t0,t1,t2,x0,x1,x2,x3,x4,x5,x6,x7,x8,x9,x10,x11,r0,r1,rf⟩:=HALL.out wc HV.out.bl
 have hwc : W.heap.size ≤ wc.heap.size:=HV.out.bl.size
 have hlc1 : w.heap.size < wc.heap.size:=zz8
 have hlc2 : w.heap.size + 1 < wc.heap.size:=zz8
 have hlc3 : w.heap.size + 1 + 1 < wc.heap.size:=zz8
 have HOUT:=zd (fun (w' : World) (h : Below wc.heap.size wc w') => (⟨(h.cell (p:=⟨ob,0,none⟩) HV.out.lt).trans HV.out.h0,(h.cell (p:=⟨ob,1,none⟩) HV.out.lt).trans HV.out.h1,fun o => (h.frozen (p:=⟨ob,o,none⟩) HV.out.lt).trans (HV.out.fz o)⟩ : w'.cell? ⟨ob,0,none⟩ = some (.int .i64 hs) ∧ w'.cell? ⟨ob,1,none⟩ = some (.slice A5 L.length c5) ∧ ∀ o,w'.frozen? ⟨ob,o,none⟩ = false))
 obtain ⟨V,hV⟩ : ∃ V,wc.alloc (.cells #[.int .i64 hh, .int .i64 ep, .string hr, .string hp] 58) = V:=⟨_,rfl⟩
 rw [hV]
 have hVB : Below wc.heap.size wc V:=by rw [← hV]; exact (Below.refl _ _).alloc (Nat.le_refl _) _
 have hVs : wc.heap.size < V.heap.size:=by rw [← hV]; simp
 have g0 : V.cell? ⟨wc.heap.size,0,none⟩ = some (.int .i64 hh):=zz54
 have g1 : V.cell? ⟨wc.heap.size,1,none⟩ = some (.int .i64 ep):=zz54
 have g2 : V.cell? ⟨wc.heap.size,2,none⟩ = some (.string hr):=zz54
 have g3 : V.cell? ⟨wc.heap.size,3,none⟩ = some (.string hp):=zz54
 clear hV
 refine (HVE.out _ (HBW.out.trans ((HV.out.bl.trans (hVB.mono hwc)).mono HBW.out.size))).mono ?_
 rintro e6 w6 ⟨rfl,hb6⟩
 have HB6:=zd (hVB.trans (hb6.mono (Nat.le_of_lt hVs)))
 replace g0:=(hb6.cell (p:=⟨wc.heap.size,0,none⟩) hVs).trans g0
 replace g1:=(hb6.cell (p:=⟨wc.heap.size,1,none⟩) hVs).trans g1
 replace g2:=(hb6.cell (p:=⟨wc.heap.size,2,none⟩) hVs).trans g2
 replace g3:=(hb6.cell (p:=⟨wc.heap.size,3,none⟩) hVs).trans g3
 have hl6 : wc.heap.size < w6.heap.size:=Nat.lt_of_lt_of_le hVs hb6.size
 clear hVB hVs hb6 c0 c1 t0 t1 t2 x0 x1 x2 x3 x4 x5 x6 x7 x8 x9 x10 x11 r0 r1 rf
 obtain ⟨c0,c1,t0,t1,t2,x0,x1,x2,x3,x4,x5,x6,x7,x8,x9,x10,x11,r0,r1,rf⟩:=HALL.out w6 (HV.out.bl.trans (HB6.out.mono hwc))
 obtain ⟨d0,d1,df⟩:=HOUT.out w6 HB6.out
 clear x0 x1 x2 x3 x4 x5 x6 x7 x8 x9 x10 x11
 by_cases c3 : v3 = 0
 rotate_left
 ·have HE:=zd (HC1.out c3)
  go_wp2
  refine bodyPost_ret (v:=.tuple #[.agg #[.int .i64 hs, .slice A5 L.length c5], .string ⟨#[]⟩, .bool false, .int .i64 1]) (by simp [results,Tryz.results10,go_sem, *]) rfl ?_
  exact ChRes.mk HE.out rfl hci (HV.out.ret HBW.out HB6.out zz8 hlW _ _)
 subst c3
 obtain ⟨⟨kh,hkh,hkl⟩,hep1⟩:=HVI.out rfl
 subst hkh
 by_cases c6 : ep ≤ (L.length : Int)
 ·obtain ⟨m,rfl⟩ : ∃ m : Nat,ep = (m : Int) + 1:=⟨(ep - 1).toNat,zz8⟩
  have hml : m < L.length:=zz8
  obtain ⟨b1,o1,rfl,hl1,q0,q1,q2,q3, -, -, -, -⟩:=Row.atHead RC0.out hml
  have hBw6:=HBW.out.trans ((HV.out.bl.trans (HB6.out.mono hwc)).mono HBW.out.size)
  replace q0:=(hBw6.cell (p:=⟨b1,o1 + m * 4,none⟩) hl1).trans q0
  replace q1:=(hBw6.cell (p:=⟨b1,o1 + m * 4 + 1,none⟩) hl1).trans q1
  replace q2:=(hBw6.cell (p:=⟨b1,o1 + m * 4 + 2,none⟩) hl1).trans q2
  replace q3:=(hBw6.cell (p:=⟨b1,o1 + m * 4 + 3,none⟩) hl1).trans q3
  have hw1 : IntKind.i64.wrap ((m : Int) + 1 - 1) = (m : Int):=by rw [IntWalk.i64_in] <;> omega
  have hw2 : (m : Int) + 1 - 1 = (m : Int):=zz8
  have hmi : (m : Int) < (L.length : Int):=zz8
  have hm0 : (0 : Int) ≤ (m : Int):=zz8
  have HLM:=zd (HC2.out rfl m rfl hml)
  have HLN:=zd (HC3.out rfl m rfl hml)
  have HSA:=zd (HSM.out L[m])
  obtain ⟨y,hy⟩ : ∃ y,L[m] = y:=⟨_,rfl⟩
  rw [hy] at q0 q1 q2 q3 HSA
  simp only [hy] at HLM HLN
  obtain ⟨yh,ye,yr,yp⟩:=y
  simp only at q0 q1 q2 q3 HSA
  clear hy hBw6
  by_cases s0 : yh = hh
  rotate_left
  ·have HQ:=zd s0
   have HE:=zd (HLM.out (by rw [HSA.out]; simp [HQ.out]))
   have hq : (yh == hh) = false:=beq_eq_false_iff_ne.2 s0
   have hq2 : ¬ yh = hh:=HQ.out
   go_wp2_with (fail)
   have Gc1:=Grown.cell c1
   have Gg0:=Grown.cell g0
   have Gg1:=Grown.cell g1
   have Gg2:=Grown.cell g2
   have Gg3:=Grown.cell g3
   have Gq0:=Grown.cell q0
   have Gq1:=Grown.cell q1
   have Gq2:=Grown.cell q2
   have Gq3:=Grown.cell q3
   clear c1 g0 g1 g2 g3 q0 q1 q2 q3
   refine ya2 (by kernel_rfl) (by kernel_rfl) ?_
   repeat (go_big_quiet_step (fail))
   refine wpQuiet_nil ?_
   intro w7 hw_
   have hB7:=ya7 hw_
   clear hw_ Gc1 Gg0 Gg1 Gg2 Gg3 Gq0 Gq1 Gq2 Gq3
   have HB7:=zd (HB6.out.trans (hB7.mono (Nat.le_of_lt hl6)))
   clear hB7 c0 t0 t1 t2 r0 r1 rf d0 d1 df
   obtain ⟨c0,c1,t0,t1,t2,x0,x1,x2,x3,x4,x5,x6,x7,x8,x9,x10,x11,r0,r1,rf⟩:=HALL.out w7 (HV.out.bl.trans (HB7.out.mono hwc))
   obtain ⟨d0,d1,df⟩:=HOUT.out w7 HB7.out
   clear x0 x1 x2 x3 x4 x5 x6 x7 x8 x9 x10 x11
   go_wp2
   refine bodyPost_ret (v:=.tuple #[.agg #[.int .i64 kh, .slice A5 L.length c5], .string ⟨#[]⟩, .bool false, .int .i64 2]) (by simp [results,Tryz.results10,go_sem, *]) rfl ?_
   exact ChRes.mk HE.out rfl hci (HV.out.ret HBW.out HB7.out zz8 hlW _ _)
  subst s0
  by_cases s1 : ye = ((m : Int) + 1)
  rotate_left
  ·have HQ:=zd s1
   have HE:=zd (HLM.out (by rw [HSA.out]; simp [HQ.out]))
   have hq : (ye == ((m : Int) + 1)) = false:=beq_eq_false_iff_ne.2 s1
   have hq2 : ¬ ye = ((m : Int) + 1):=HQ.out
   go_wp2_with (fail)
   have Gc1:=Grown.cell c1
   have Gg0:=Grown.cell g0
   have Gg1:=Grown.cell g1
   have Gg2:=Grown.cell g2
   have Gg3:=Grown.cell g3
   have Gq0:=Grown.cell q0
   have Gq1:=Grown.cell q1
   have Gq2:=Grown.cell q2
   have Gq3:=Grown.cell q3
   clear c1 g0 g1 g2 g3 q0 q1 q2 q3
   refine ya2 (by kernel_rfl) (by kernel_rfl) ?_
   repeat (go_big_quiet_step (fail))
   refine wpQuiet_nil ?_
   intro w7 hw_
   have hB7:=ya7 hw_
   clear hw_ Gc1 Gg0 Gg1 Gg2 Gg3 Gq0 Gq1 Gq2 Gq3
   have HB7:=zd (HB6.out.trans (hB7.mono (Nat.le_of_lt hl6)))
   clear hB7 c0 t0 t1 t2 r0 r1 rf d0 d1 df
   obtain ⟨c0,c1,t0,t1,t2,x0,x1,x2,x3,x4,x5,x6,x7,x8,x9,x10,x11,r0,r1,rf⟩:=HALL.out w7 (HV.out.bl.trans (HB7.out.mono hwc))
   obtain ⟨d0,d1,df⟩:=HOUT.out w7 HB7.out
   clear x0 x1 x2 x3 x4 x5 x6 x7 x8 x9 x10 x11
   go_wp2
   refine bodyPost_ret (v:=.tuple #[.agg #[.int .i64 kh, .slice A5 L.length c5], .string ⟨#[]⟩, .bool false, .int .i64 2]) (by simp [results,Tryz.results10,go_sem, *]) rfl ?_
   exact ChRes.mk HE.out rfl hci (HV.out.ret HBW.out HB7.out zz8 hlW _ _)
  subst s1
  by_cases s2 : yr = hr
  rotate_left
  ·have HQ:=zd s2
   have HE:=zd (HLM.out (by rw [HSA.out]; simp [HQ.out]))
   have hq : (yr.toList == hr.toList) = false:=str_ne s2
   have hq2 : ¬ yr.toList = hr.toList:=fun e => HQ.out (toList_inj e)
   clear s2
   go_wp2_with (fail)
   have Gc1:=Grown.cell c1
   have Gg0:=Grown.cell g0
   have Gg1:=Grown.cell g1
   have Gg2:=Grown.cell g2
   have Gg3:=Grown.cell g3
   have Gq0:=Grown.cell q0
   have Gq1:=Grown.cell q1
   have Gq2:=Grown.cell q2
   have Gq3:=Grown.cell q3
   clear c1 g0 g1 g2 g3 q0 q1 q2 q3
   refine ya2 (by kernel_rfl) (by kernel_rfl) ?_
   repeat (go_big_quiet_step (fail))
   refine wpQuiet_nil ?_
   intro w7 hw_
   have hB7:=ya7 hw_
   clear hw_ Gc1 Gg0 Gg1 Gg2 Gg3 Gq0 Gq1 Gq2 Gq3
   have HB7:=zd (HB6.out.trans (hB7.mono (Nat.le_of_lt hl6)))
   clear hB7 c0 t0 t1 t2 r0 r1 rf d0 d1 df
   obtain ⟨c0,c1,t0,t1,t2,x0,x1,x2,x3,x4,x5,x6,x7,x8,x9,x10,x11,r0,r1,rf⟩:=HALL.out w7 (HV.out.bl.trans (HB7.out.mono hwc))
   obtain ⟨d0,d1,df⟩:=HOUT.out w7 HB7.out
   clear x0 x1 x2 x3 x4 x5 x6 x7 x8 x9 x10 x11
   go_wp2
   refine bodyPost_ret (v:=.tuple #[.agg #[.int .i64 kh, .slice A5 L.length c5], .string ⟨#[]⟩, .bool false, .int .i64 2]) (by simp [results,Tryz.results10,go_sem, *]) rfl ?_
   exact ChRes.mk HE.out rfl hci (HV.out.ret HBW.out HB7.out zz8 hlW _ _)
  subst s2
  by_cases s3 : yp = hp
  rotate_left
  ·have HQ:=zd s3
   have HE:=zd (HLM.out (by rw [HSA.out]; simp [HQ.out]))
   have hq : (yp.toList == hp.toList) = false:=str_ne s3
   have hq2 : ¬ yp.toList = hp.toList:=fun e => HQ.out (toList_inj e)
   clear s3
   go_wp2_with (fail)
   have Gc1:=Grown.cell c1
   have Gg0:=Grown.cell g0
   have Gg1:=Grown.cell g1
   have Gg2:=Grown.cell g2
   have Gg3:=Grown.cell g3
   have Gq0:=Grown.cell q0
   have Gq1:=Grown.cell q1
   have Gq2:=Grown.cell q2
   have Gq3:=Grown.cell q3
   clear c1 g0 g1 g2 g3 q0 q1 q2 q3
   refine ya2 (by kernel_rfl) (by kernel_rfl) ?_
   repeat (go_big_quiet_step (fail))
   refine wpQuiet_nil ?_
   intro w7 hw_
   have hB7:=ya7 hw_
   clear hw_ Gc1 Gg0 Gg1 Gg2 Gg3 Gq0 Gq1 Gq2 Gq3
   have HB7:=zd (HB6.out.trans (hB7.mono (Nat.le_of_lt hl6)))
   clear hB7 c0 t0 t1 t2 r0 r1 rf d0 d1 df
   obtain ⟨c0,c1,t0,t1,t2,x0,x1,x2,x3,x4,x5,x6,x7,x8,x9,x10,x11,r0,r1,rf⟩:=HALL.out w7 (HV.out.bl.trans (HB7.out.mono hwc))
   obtain ⟨d0,d1,df⟩:=HOUT.out w7 HB7.out
   clear x0 x1 x2 x3 x4 x5 x6 x7 x8 x9 x10 x11
   go_wp2
   refine bodyPost_ret (v:=.tuple #[.agg #[.int .i64 kh, .slice A5 L.length c5], .string ⟨#[]⟩, .bool false, .int .i64 2]) (by simp [results,Tryz.results10,go_sem, *]) rfl ?_
   exact ChRes.mk HE.out rfl hci (HV.out.ret HBW.out HB7.out zz8 hlW _ _)
  subst s3
  have HE:=zd (HLN.out (by rw [HSA.out]; simp))
  go_wp2_with (fail)
  have Gc1:=Grown.cell c1
  have Gg0:=Grown.cell g0
  have Gg1:=Grown.cell g1
  have Gg2:=Grown.cell g2
  have Gg3:=Grown.cell g3
  have Gq0:=Grown.cell q0
  have Gq1:=Grown.cell q1
  have Gq2:=Grown.cell q2
  have Gq3:=Grown.cell q3
  clear c1 g0 g1 g2 g3 q0 q1 q2 q3
  refine ya2 (by kernel_rfl) (by kernel_rfl) ?_
  repeat (go_big_quiet_step (fail))
  refine wpQuiet_nil ?_
  intro w7 hw_
  have hB7:=ya7 hw_
  clear hw_ Gc1 Gg0 Gg1 Gg2 Gg3 Gq0 Gq1 Gq2 Gq3
  have HB7:=zd (HB6.out.trans (hB7.mono (Nat.le_of_lt hl6)))
  clear hB7 c0 t0 t1 t2 r0 r1 rf d0 d1 df
  obtain ⟨c0,c1,t0,t1,t2,x0,x1,x2,x3,x4,x5,x6,x7,x8,x9,x10,x11,r0,r1,rf⟩:=HALL.out w7 (HV.out.bl.trans (HB7.out.mono hwc))
  obtain ⟨d0,d1,df⟩:=HOUT.out w7 HB7.out
  clear x0 x1 x2 x3 x4 x5 x6 x7 x8 x9 x10 x11
  go_wp2
  refine bodyPost_ret (v:=.tuple #[.agg #[.int .i64 kh, .slice A5 L.length c5], .string v1, .bool v2, .int .i64 0]) (by simp [results,Tryz.results10,go_sem, *]) rfl ?_
  exact ChRes.mk HE.out rfl hci (HV.out.ret HBW.out HB7.out zz8 hlW _ _)
 ·have HC6:=zd c6
  have HRT : Hid (linkRoot ⟨(kh : Int),L⟩ t = t.roots[kh]):=zd (by unfold linkRoot; rw [Int.toNat_natCast,getD_ltv hkl])
  obtain ⟨b2,o2,rfl,hl2,u0, -⟩:=Row.str RT0.out hkl
  obtain ⟨root,hroot⟩ : ∃ r,t.roots[kh] = r:=⟨_,rfl⟩
  rw [hroot] at HRT u0
  clear hroot
  have hki : (kh : Int) < (t.roots.length : Int):=zz8
  have hk0 : (0 : Int) ≤ (kh : Int):=zz8
  have hwc6 : wc.heap.size ≤ w6.heap.size:=Nat.le_of_lt hl6
  have HBw6:=zd (HBW.out.trans ((HV.out.bl.trans (HB6.out.mono hwc)).mono HBW.out.size))
  have u1:=(HBw6.out.cell (p:=⟨b2,o2 + kh,none⟩) hl2).trans u0
  have hlw6 : w.heap.size + 1 + 1 + 1 < w6.heap.size:=zz8
  have hlb6 : b2 < w6.heap.size:=Nat.lt_of_lt_of_le hl2 HBw6.out.size
  have hc6n : decide (ep ≤ (L.length : Int)) = false:=decide_eq_false c6
  have HL4:=zd (fun h5 => HC4.out rfl (by have:=HC6.out; omega) h5)
  have HL5:=zd (fun h5 => HC5.out rfl (by have:=HC6.out; omega) h5)
  rw [HRT.out] at HL4 HL5
  have HLK:=zd (fun W' (h : Below w6.heap.size w6 W') => spec_l28Links W' (kh : Int) L C0 q0 _ (Row.later RC0.out (HBw6.out.trans (h.mono HBw6.out.size))) hcl root links AL kL _ (Row.later RL0.out (HBw6.out.trans (h.mono HBw6.out.size))) hll hh ep hr hp)
  obtain ⟨LO,hLO⟩ : ∃ b,linksOk root ⟨(kh : Int),L⟩ links ⟨hh,ep,hr,hp⟩ = b:=⟨_,rfl⟩
  rw [hLO] at HL4 HL5 HLK
  obtain ⟨AA,hAA⟩ : ∃ l,hearAll ⟨(kh : Int),L⟩ links = l:=⟨_,rfl⟩
  rw [hAA] at HL5 HLK
  have HM10:=zd (fun (w' : World) (h : Below w6.heap.size w6 w') => (⟨(h.cell (p:=⟨w.heap.size,0,none⟩) zz28).trans c0,(h.cell (p:=⟨w.heap.size,1,none⟩) zz28).trans c1,(h.cell (p:=⟨w.heap.size + 1,0,none⟩) zz12).trans t0,(h.cell (p:=⟨b2,o2 + kh,none⟩) hlb6).trans u1,(h.cell (p:=⟨wc.heap.size,0,none⟩) hl6).trans g0,(h.cell (p:=⟨wc.heap.size,1,none⟩) hl6).trans g1,(h.cell (p:=⟨wc.heap.size,2,none⟩) hl6).trans g2,(h.cell (p:=⟨wc.heap.size,3,none⟩) hl6).trans g3,h⟩ : w'.cell? ⟨w.heap.size,0,none⟩ = some (.int .i64 kh) ∧ w'.cell? ⟨w.heap.size,1,none⟩ = some (.slice C0 L.length q0) ∧ w'.cell? ⟨w.heap.size + 1,0,none⟩ = some (.slice (some ⟨b2,o2,none⟩) t.roots.length k0) ∧ w'.cell? ⟨b2,o2 + kh,none⟩ = some (.string root) ∧ w'.cell? ⟨wc.heap.size,0,none⟩ = some (.int .i64 hh) ∧ w'.cell? ⟨wc.heap.size,1,none⟩ = some (.int .i64 ep) ∧ w'.cell? ⟨wc.heap.size,2,none⟩ = some (.string hr) ∧ w'.cell? ⟨wc.heap.size,3,none⟩ = some (.string hp) ∧ Below w6.heap.size w6 w'))
  have hB:=Below.refl w6.heap.size w6
  clear u0 u1 g0 g2 g3 HC1 HC2 HC3 HC4 HC5 HVI HVE c6 hep1 hLO hAA
  go_wp2_with (fail)
  clear g1 c0 c1 t0 t1 t2 r0 r1 rf d0 d1 df
  go_region_held3 (fun w' => w'.cell? ⟨w.heap.size,0,none⟩ = some (.int .i64 kh) ∧ w'.cell? ⟨w.heap.size,1,none⟩ = some (.slice C0 L.length q0) ∧ w'.cell? ⟨w.heap.size + 1,0,none⟩ = some (.slice (some ⟨b2,o2,none⟩) t.roots.length k0) ∧ w'.cell? ⟨b2,o2 + kh,none⟩ = some (.string root) ∧ w'.cell? ⟨wc.heap.size,0,none⟩ = some (.int .i64 hh) ∧ w'.cell? ⟨wc.heap.size,1,none⟩ = some (.int .i64 ep) ∧ w'.cell? ⟨wc.heap.size,2,none⟩ = some (.string hr) ∧ w'.cell? ⟨wc.heap.size,3,none⟩ = some (.string hp) ∧ Below w6.heap.size w6 w')
   (first | exact HM10.out _ (by have zh:=hB; exact zz40))
   (first | (go_at_call 46; refine (HLK.out _ (by have zh:=hB; exact zz40)).mono ?_; rintro e7 w7 ⟨A7,n7,c7,rfl,hok7,hb7⟩; have HOK7:=zd (fun h => (show n7 = AA.length ∧ Own w6 w7 A7 c7 AA from ⟨(hok7 h).1,(hok7 h).2.from (by have zh:=hB; exact zz40)⟩)); have hB:=Below.step (a:=w6) (by have zh:=hB; exact zz40) hb7; have hs7:=hB.size; clear hok7) | fail)
  have HB67:=zd hB
  have HB7:=zd (HB6.out.trans (hB.mono hwc6))
  obtain ⟨c0,c1,t0,t1,t2,x0,x1,x2,x3,x4,x5,x6,x7,x8,x9,x10,x11,r0,r1,rf⟩:=HALL.out w7 (HV.out.bl.trans (HB7.out.mono hwc))
  obtain ⟨d0,d1,df⟩:=HOUT.out w7 HB7.out
  clear x0 x1 x2 x3 x4 x5 x6 x7 x8 x9 x10 x11
  cases LO
  ·have HE:=zd (HL4.out rfl)
   go_wp2
   refine bodyPost_ret (v:=.tuple #[.agg #[.int .i64 kh, .slice A5 L.length c5], .string ⟨#[]⟩, .bool false, .int .i64 3]) (by simp [results,Tryz.results10,go_sem, *]) rfl ?_
   exact ChRes.mk HE.out rfl hci (HV.out.ret HBW.out HB7.out zz8 hlW _ _)
  ·have HE:=zd (HL5.out rfl)
   obtain ⟨hn7,o7⟩:=HOK7.out rfl
   have O7:=zd o7
   subst hn7
   have hob1:=HV.out.lt
   have hol1:=HV.out.lo
   have hne1 : ¬ ob = w.heap.size + 1 + 1 + 1:=zz8
   have hne2 : ¬ w.heap.size + 1 + 1 + 1 = ob:=zz8
   clear o7
   go_wp2
   refine bodyPost_ret (v:=.tuple #[.agg #[.int .i64 kh, .slice A7 AA.length c7], .string v1, .bool v2, .int .i64 0]) (by simp [results,Tryz.results10,go_sem, *]) rfl ?_
   exact ChRes.mk HE.out rfl hci (own_three O7.out (Below.refl _ _) HBw6.out zz8 zz8 zz8 zz8 _ _ _)
end Go.Proofs.YtgllafgpmenjjaaGreatDoor
