/- A part of the proof. -/
import Derived.Test.YtlfnmbcnehaikaaGreatDoorHApUd
set_option linter.unusedVariables false
set_option linter.unusedSimpArgs false
set_option maxRecDepth 20000
set_option maxHeartbeats 8000000
namespace Go.Proofs.YtlfnmbcnehaikaaGreatDoor
open Go.RowKit Lay Mk
theorem seed_le (n : Int) : (seedOf n).size ≤ maxLen:=by
 unfold seedOf
 split
 ·rw [ByteArray.size_append]; show 5 + 1 ≤ maxLen; decide
 ·exact Nat.zero_le _
theorem file_sizes {xs : List File} {n : Nat} (hz : szL xs ≤ n) : ∀ k (h : k < xs.length),xs[k].text.size ≤ n:=fun k h => by
 have h1:=sz_get' h hz
 have h2 : (xs[k]).sz ≤ n:=h1
 simp only [File.sz] at h2
 omega
theorem impl_AuditorNew (w : World) (house : Int) (hi : I64 house) (x : Disk) (cs : List Value) (S : Blks) (hx : rd false w cs x S) (hz : x.sz ≤ 1048576) (hT : Tabs w) : Calls Tryz.prog 10 #[.int .i64 house, .agg cs.toArray] w fun e w' => ∃ c,e = .returned (.agg c.toArray) ∧ rd true w' c (auditorNew house x) (rng w.heap.size w'.heap.size) ∧ Below w.heap.size w w':=by
 obtain ⟨A,cap,S1,rfl, -, -,hr, -⟩:=Disk.open hx
 have hzf : szL x.files ≤ 1048576:=hz
 have hl:=szT_le x.files 0
 have hl2 : x.files.length ≤ 2000000000:=zz4
 have HFZ:=zd (file_sizes hzf)
 have HSL:=zd (seed_le house)
 have HPL : Hid ((poolOf (seedOf house)).length ≤ 2000000000):=zd (by unfold poolOf; rw [poolTo_len]; decide)
 have HT:=zd hT
 clear hT
 simp only [Disk.cs]
 clear hx hz hzf hl
 go_enter Tryz.func10,Tryz.ntmps10
 go_upto_region 1 with (fail)
 obtain ⟨W,hW⟩ : ∃ W,(w.alloc (.cells #[.slice A x.files.length cap] 28)).alloc (.cells #[.int .i64 0, .bool false, .slice none 0 0, .slice none 0 0, .slice none 0 0, .slice none 0 0] 33) = W:=⟨_,rfl⟩
 have hWf : Below w.heap.size w W ∧ W.heap.size = w.heap.size + 1 + 1 ∧ W.cell? ⟨w.heap.size,0,none⟩ = some (.slice A x.files.length cap) ∧ Bx W (w.heap.size + 1) #[.int .i64 0, .bool false, .slice none 0 0, .slice none 0 0, .slice none 0 0, .slice none 0 0] 33:=by
  rw [← hW]
  have e1 : w.heap.size + 1 = (w.alloc (.cells #[.slice A x.files.length cap] 28)).heap.size:=zz17
  exact ⟨((Below.refl _ _).alloc (Nat.le_refl _) _).alloc zz17 _,zz17,cell_alloc (ya2 _ _ _ _ _ rfl),by rw [e1]; exact Bx.new _ _ _⟩
 rw [hW]
 clear hW
 obtain ⟨bW,sW,cW,xW⟩:=hWf
 have HXW:=zd (Row.later hr bW); have HBW:=zd bW; have XW:=zd xW
 have HTW:=zd (HT.out.later HBW.out)
 obtain ⟨y,hy⟩ : ∃ y,auditorFrom house ⟨x.files⟩ (poolOf (seedOf house)) = y:=⟨_,rfl⟩
 have HY:=zd hy
 have HZ : Hid (auditorNew house x = y):=zd hy
 clear hy
 have HM:=zd (fun (w' : World) (h : Below (w.heap.size + 1) W w') => (⟨(h.cell (p:=⟨w.heap.size,0,none⟩) (by show w.heap.size < w.heap.size + 1; omega)).trans cW,h⟩ : w'.cell? ⟨w.heap.size,0,none⟩ = some (.slice A x.files.length cap) ∧ Below (w.heap.size + 1) W w'))
 have hB:=Below.refl W.heap.size W
 have hwl : w.heap.size + 1 < W.heap.size:=zz4
 clear hr bW cW xW sW
 go_region_held3 (fun w' => w'.cell? ⟨w.heap.size,0,none⟩ = some (.slice A x.files.length cap) ∧ Below (w.heap.size + 1) W w')
  (exact HM.out _ (by (repeat (first | with_reducible exact hB.mono (Nat.le_of_lt hwl) | with_reducible refine Below.setCell ?_ ?_ _ | with_reducible refine Below.alloc ?_ ?_ _ | with_reducible apply Below.drew)); all_goals (first | omega | (simp; done) | (simp; omega))))
  (first | (go_at_call 35; refine (impl_SeedOf _ house hi).mono ?_; rintro e1 w1 ⟨rfl,hb1⟩; have hs1:=hb1.size; (try simp at hs1); have hB:=Below.step (a:=W) (by first | exact hB | exact hB.drew) hb1) | (go_at_call 34; refine (impl_PoolOf _ (seedOf house) HSL.out (HTW.out.later (by first | exact hB | exact hB.drew))).mono ?_; rintro e2 w2 ⟨A2,c2,rfl,o2⟩; have O2:=zd o2.weak; have hb2:=o2.bl; have hs2:=hb2.size; (try simp at hs2); have hB:=Below.step (a:=W) (by first | exact hB | exact hB.drew) hb2; clear o2) | (go_at_call 33; refine (impl_auditorFrom _ house hi x.files A cap S1 (Row.later HXW.out (by first | exact hB | exact hB.drew)) hl2 HFZ.out (poolOf (seedOf house)) A2 c2 _ (by first | exact O2.out | exact Row.later O2.out ((Below.refl _ _).drew)) HPL.out).mono ?_; rintro e3 w3 ⟨c3,rfl,hrd,hb3⟩; rw [HY.out] at hrd; have HRD:=zd hrd; have hs3:=hb3.size; (try simp at hs3); have hB:=Below.step (a:=W) (by first | exact hB | exact hB.drew) hb3; have HB3:=zd hB; obtain ⟨C0,d0,_,C1,d1,_,C2,d2,_,C3,d3,_,rfl, -⟩:=Auditor.open hrd; simp only [Auditor.cs]; have xr:=XW.out.keep (HB3.out.block _ hwl); have y0:=xr.at_ (i:=0) rfl; have y1:=xr.at_ (i:=1) rfl; have y2:=xr.at_ (i:=2) rfl; have y3:=xr.at_ (i:=3) rfl; have y4:=xr.at_ (i:=4) rfl; have y5:=xr.at_ (i:=5) rfl; have yf:=xr.fz; clear hrd xr))
 go_wp2_with (fail)
 refine bodyPost_ret (v:=.agg #[.int .i64 y.house, .bool y.up, .slice C0 y.disk.files.length d0, .slice C1 y.pool.length d1, .slice C2 y.pins.length d2, .slice C3 y.pairs.length d3]) (by simp [results,Tryz.results10,go_sem, *]) rfl ?_
 rw [HZ.out]
 clear y0 y1 y2 y3 y4 y5 yf
 have hset:=set6R w3 (w.heap.size + 1) (.int .i64 y.house) (.bool y.up) (.slice C0 y.disk.files.length d0) (.slice C1 y.pool.length d1) (.slice C2 y.pins.length d2) (.slice C3 y.pairs.length d3)
 have h2:=HB3.out.size
 refine ⟨_,rfl,Lay.mono (Lay.tight (Lay.keep (Lay.tight HRD.out) (fun b k => hset.block_ne (by have k1 : w2.heap.size ≤ b:=k.1; omega) k.2))) (fun b k => ⟨by have k1 : w2.heap.size ≤ b:=k.1.1; omega,k.2⟩),?_⟩
 exact (HBW.out.trans (HB3.out.mono HBW.out.size)).trans (hset.to_below zz4 (fun b q => by have q : b = w.heap.size + 1:=q; omega))
theorem spec_AuditorNew (w : World) (house : Int) (hi : I64 house) (x : Disk) (cs : List Value) (S : Blks) (hx : rd false w cs x S) (hz : x.sz ≤ 1048576) : Calls Tryz.prog 8 #[.int .i64 house, .agg cs.toArray] w fun e w' => ∃ c,e = .returned (.agg c.toArray) ∧ rd true w' c (auditorNew house x) (rng w.heap.size w'.heap.size) ∧ Below w.heap.size w w':=by
 obtain ⟨A,cap,S1,rfl, -, -,hr, -⟩:=Disk.open hx
 have hzf : szL x.files ≤ 1048576:=hz
 have hl:=szT_le x.files 0
 have hl2 : x.files.length ≤ 2000000000:=zz4
 have HFZ:=zd (file_sizes hzf)
 have HSL:=zd (seed_le house)
 have HPL : Hid ((poolOf (seedOf house)).length ≤ 2000000000):=zd (by unfold poolOf; rw [poolTo_len]; decide)
 simp only [Disk.cs]
 clear hx hz hzf hl
 go_enter Tryz.func8,Tryz.ntmps8
 go_upto_region 1 with (fail)
 obtain ⟨W,hW⟩ : ∃ W,(w.alloc (.cells #[.slice A x.files.length cap] 28)).alloc (.cells #[.int .i64 0, .bool false, .slice none 0 0, .slice none 0 0, .slice none 0 0, .slice none 0 0] 33) = W:=⟨_,rfl⟩
 have hWf : Below w.heap.size w W ∧ W.heap.size = w.heap.size + 1 + 1 ∧ W.cell? ⟨w.heap.size,0,none⟩ = some (.slice A x.files.length cap) ∧ Bx W (w.heap.size + 1) #[.int .i64 0, .bool false, .slice none 0 0, .slice none 0 0, .slice none 0 0, .slice none 0 0] 33:=by
  rw [← hW]
  have e1 : w.heap.size + 1 = (w.alloc (.cells #[.slice A x.files.length cap] 28)).heap.size:=zz17
  exact ⟨((Below.refl _ _).alloc (Nat.le_refl _) _).alloc zz17 _,zz17,cell_alloc (ya2 _ _ _ _ _ rfl),by rw [e1]; exact Bx.new _ _ _⟩
 rw [hW]
 clear hW
 obtain ⟨bW,sW,cW,xW⟩:=hWf
 have HXW:=zd (Row.later hr bW); have HBW:=zd bW; have XW:=zd xW
 obtain ⟨y,hy⟩ : ∃ y,auditorFrom house ⟨x.files⟩ (poolOf (seedOf house)) = y:=⟨_,rfl⟩
 have HY:=zd hy
 have HZ : Hid (auditorNew house x = y):=zd hy
 clear hy
 have HM:=zd (fun (w' : World) (h : Below (w.heap.size + 1) W w') => (⟨(h.cell (p:=⟨w.heap.size,0,none⟩) (by show w.heap.size < w.heap.size + 1; omega)).trans cW,h⟩ : w'.cell? ⟨w.heap.size,0,none⟩ = some (.slice A x.files.length cap) ∧ Below (w.heap.size + 1) W w'))
 have hB:=Below.refl W.heap.size W
 have hwl : w.heap.size + 1 < W.heap.size:=zz4
 clear hr bW cW xW sW
 go_region_held3 (fun w' => w'.cell? ⟨w.heap.size,0,none⟩ = some (.slice A x.files.length cap) ∧ Below (w.heap.size + 1) W w')
  (exact HM.out _ (by (repeat (first | with_reducible exact hB.mono (Nat.le_of_lt hwl) | with_reducible refine Below.setCell ?_ ?_ _ | with_reducible refine Below.alloc ?_ ?_ _ | with_reducible apply Below.drew)); all_goals (first | omega | (simp; done) | (simp; omega))))
  (first | (go_at_call 31; refine (spec_SeedOf _ house hi).mono ?_; rintro e1 w1 ⟨rfl,hb1⟩; have hs1:=hb1.size; (try simp at hs1); have hB:=Below.step (a:=W) (by first | exact hB | exact hB.drew) hb1) | (go_at_call 30; refine (spec_PoolOf _ (seedOf house) HSL.out).mono ?_; rintro e2 w2 ⟨A2,c2,rfl,o2⟩; have O2:=zd o2.weak; have hb2:=o2.bl; have hs2:=hb2.size; (try simp at hs2); have hB:=Below.step (a:=W) (by first | exact hB | exact hB.drew) hb2; clear o2) | (go_at_call 29; refine (spec_l22New _ house hi x.files A cap S1 (Row.later HXW.out (by first | exact hB | exact hB.drew)) hl2 HFZ.out (poolOf (seedOf house)) A2 c2 _ (by first | exact O2.out | exact Row.later O2.out ((Below.refl _ _).drew)) HPL.out).mono ?_; rintro e3 w3 ⟨c3,rfl,hrd,hb3⟩; rw [HY.out] at hrd; have HRD:=zd hrd; have hs3:=hb3.size; (try simp at hs3); have hB:=Below.step (a:=W) (by first | exact hB | exact hB.drew) hb3; have HB3:=zd hB; obtain ⟨C0,d0,_,C1,d1,_,C2,d2,_,C3,d3,_,rfl, -⟩:=Auditor.open hrd; simp only [Auditor.cs]; have xr:=XW.out.keep (HB3.out.block _ hwl); have y0:=xr.at_ (i:=0) rfl; have y1:=xr.at_ (i:=1) rfl; have y2:=xr.at_ (i:=2) rfl; have y3:=xr.at_ (i:=3) rfl; have y4:=xr.at_ (i:=4) rfl; have y5:=xr.at_ (i:=5) rfl; have yf:=xr.fz; clear hrd xr))
 go_wp2_with (fail)
 refine bodyPost_ret (v:=.agg #[.int .i64 y.house, .bool y.up, .slice C0 y.disk.files.length d0, .slice C1 y.pool.length d1, .slice C2 y.pins.length d2, .slice C3 y.pairs.length d3]) (by simp [results,Tryz.results8,go_sem, *]) rfl ?_
 rw [HZ.out]
 clear y0 y1 y2 y3 y4 y5 yf
 have hset:=set6R w3 (w.heap.size + 1) (.int .i64 y.house) (.bool y.up) (.slice C0 y.disk.files.length d0) (.slice C1 y.pool.length d1) (.slice C2 y.pins.length d2) (.slice C3 y.pairs.length d3)
 have h2:=HB3.out.size
 refine ⟨_,rfl,Lay.mono (Lay.tight (Lay.keep (Lay.tight HRD.out) (fun b k => hset.block_ne (by have k1 : w2.heap.size ≤ b:=k.1; omega) k.2))) (fun b k => ⟨by have k1 : w2.heap.size ≤ b:=k.1.1; omega,k.2⟩),?_⟩
 exact (HBW.out.trans (HB3.out.mono HBW.out.size)).trans (hset.to_below zz4 (fun b q => by have q : b = w.heap.size + 1:=q; omega))
end Go.Proofs.YtlfnmbcnehaikaaGreatDoor
