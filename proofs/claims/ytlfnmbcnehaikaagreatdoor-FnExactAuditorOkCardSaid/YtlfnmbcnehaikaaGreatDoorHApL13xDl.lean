/- A part of the proof. -/
import Derived.LaidMore
import Derived.LaidLaws
import Derived.LaidHandle
import Derived.Handed
import Derived.Lib.LaidTab
import Derived.OpenShut
import Derived.SevenTiedAt
import Derived.Test.YtlfnmbcnehaikaaGreatDoorHApL12xDh
set_option linter.unusedVariables false
set_option linter.unusedSimpArgs false
set_option maxRecDepth 100000
set_option maxHeartbeats 8000000
namespace Go.Proofs.YtlfnmbcnehaikaaGreatDoor
open Go.RowKit Go.WideShapes Go.ChangeShapes Go.ChangeAt Lay Mk
theorem gRound : Tryz.prog.globalNamed "loop.example/g00284/impl.roundWords" = some 1 := by kernel_rfl
theorem gStart : Tryz.prog.globalNamed "loop.example/g00284/impl.startWords" = some 0 := by kernel_rfl
theorem tRound : (Tryz.prog.globals[1]?).map (·.type) = some 211:=by kernel_rfl
theorem tStart : (Tryz.prog.globals[0]?).map (·.type) = some 204:=by kernel_rfl
theorem laidRound_tab : (Rows.laid_loop_example_g00284_impl_roundWords : DataW Unit) = Go.Lib.tabData .u32 shaKeys:=by kernel_rfl
theorem laidStart_tab : (Rows.laid_loop_example_g00284_impl_startWords : DataW Unit) = Go.Lib.tabData .u32 shaFirst.l:=by kernel_rfl
def rowedVars (P : Program) (ns : List String) : Bool:=ns.all fun n => ((P.globalNamed n).bind (P.globals[·]?)).all fun gl => P.readableRec gl.type && decide (gl.type < P.types.size)
theorem trodVars_stays {H : Type} {enc : TypeId × Value → H} {P : Program} (hl : laidOutB P = true) {W W' : World} {sp : Nat → Bool} (hb : Below W.heap.size W W') :
  ∀ {ns : List String} {gs : List (DataW H)} {ps : List MemPlace},rowedVars P ns = true → DataW.TrodVars enc P W (fun _ => true) ns gs ps → (∀ x ∈ ps,sp x.block = true) → DataW.TrodVars enc P W' sp ns gs ps
 | [], [],_,_,h,_ => h
 | [],_ :: _,_,_,h,_ => h.elim
 | _ :: _, [],_,_,h,_ => h.elim
 | n :: ns,d :: ds,ps,hv,h,hsp => by
  have hlt:=h.lt
  obtain ⟨g,t,cs,fuel,p,q,h1,h2,h3,h4,hs,e⟩:=h
  simp only [rowedVars,List.all_cons,Bool.and_eq_true] at hv
  have ht : P.readableRec t = true ∧ t < P.types.size:=by
   have:=hv.1
   rw [h1] at this
   cases hg : P.globals[g]? with
   | none => rw [hg] at h2; cases h2
   | some gl =>
    rw [hg] at h2
    obtain rfl : gl.type = t:=Option.some.inj h2
    simpa [hg] using this
  have hp : ∀ x ∈ p,x.block < W.heap.size:=fun x hx => hlt x (by rw [e]; simp [hx])
  have h3' : W'.var? P n = some cs:=by
   unfold World.var? at h3 ⊢
   rw [h1] at h3 ⊢
   simp only [Option.bind_some] at h3 ⊢
   have hg : g < W.heap.size:=by
    cases hh : W.heap[g]? with
    | none => rw [hh] at h3; cases h3
    | some o => exact (Array.getElem?_eq_some_iff.1 hh).1
   rw [hb.block g hg]; exact h3
  exact ⟨g,t,cs,fuel,p,q,h1,h2,h3',DataW.trod_stays (kids_book hl ht.1) (book_sized ht.1) (fun h => by cases h) ⟨ht.2,book_self t⟩ h4 (fun x hx => hb.same (hp x hx)) (fun x hx => hsp x (by rw [e]; simp [hx])),
   trodVars_stays hl hb (by simpa [rowedVars] using hv.2) hs (fun x hx => hsp x (by rw [e]; simp [hx])),e⟩
end Go.Proofs.YtlfnmbcnehaikaaGreatDoor
namespace Go.Proofs.YtlfnmbcnehaikaaGreatDoor
open Go.RowKit Lay Mk
theorem impl_compress (w : World) (s : S8) (hs : s.Ok) (blk : ByteArray) (hb : blk.size = 64) (hT : Tabs w) : Calls Tryz.prog 209 #[.agg (arr s.l), .string blk] w fun e w' => e = .returned (.agg (arr (comp s blk).l)) ∧ Below w.heap.size w w':=by
 have hbl : 64 ≤ blk.size:=zz4
 have HB:=zd hb; clear hb
 obtain ⟨hs0,hs1,hs2,hs3,hs4,hs5,hs6,hs7⟩:=hs
 rw [S8.arr]
 go_enter Tryz.func209,Tryz.ntmps209
 go_wp2
 generalize hW : ((w.alloc (.cells #[_,_,_,_,_,_,_,_] _)).alloc (.cells #[_,_,_,_,_,_,_,_] _)).alloc _ = W
 have hWs : W.heap.size = w.heap.size + 1 + 1 + 1:=by rw [← hW]; simp
 have A2 : Arr W w.heap.size 204 s.l:=by
  rw [← hW]
  exact Arr.alloc (Arr.alloc (arr_new (l:=s.l) rfl rfl) _) _
 have A4 : Arr W (w.heap.size + 1) 204 (List.replicate 8 0):=by
  rw [← hW]
  exact Arr.alloc (arr_new (l:=List.replicate 8 0) (World.size_alloc _ _).symm rfl) _
 have A5 : Arr W (w.heap.size + 1 + 1) 211 (padz (sch blk 0) 64):=by
  rw [← hW]
  exact arr_new (l:=padz (sch blk 0) 64) (by rw [World.size_alloc,World.size_alloc]) rfl
 have hWB : Below w.heap.size w W:=by
  rw [← hW]
  exact (((Below.refl _ _).alloc (Nat.le_refl _) _).alloc zz17 _).alloc zz23 _
 have hWs2 : w.heap.size + 1 + 1 + 1 ≤ W.heap.size:=zz4
 clear hW hWs
 go_loopw [18] (fun i wr => ∃ k : Nat,k ≤ 16 ∧ i = .int .i64 k ∧ Arr wr w.heap.size 204 s.l ∧ Arr wr (w.heap.size + 1) 204 (List.replicate 8 0) ∧ Arr wr (w.heap.size + 1 + 1) 211 (padz (sch blk k) 64) ∧ Below w.heap.size w wr) (fun i _ => 16 - (intOf i).toNat)
 case atStart => exact ⟨0,zz4,rfl,A2,A4,A5,hWB⟩
 case round =>
  clear A2 A4 A5 hWB
  obtain ⟨k,hk,rfl,A2,A4,A5,hB⟩:=hrel
  by_cases hlt : k < 16
  ·have e0 : IntKind.i64.wrap (4 * (k : Int)) = 4 * (k : Int):=IntWalk.i64_in _ zz4
   have e1 : IntKind.i64.wrap (4 * (k : Int) + 1) = 4 * (k : Int) + 1:=IntWalk.i64_in _ zz4
   have e2 : IntKind.i64.wrap (4 * (k : Int) + 2) = 4 * (k : Int) + 2:=IntWalk.i64_in _ zz4
   have e3 : IntKind.i64.wrap (4 * (k : Int) + 3) = 4 * (k : Int) + 3:=IntWalk.i64_in _ zz4
   have n0 : (4 * (k : Int)).toNat = 4 * k:=zz4
   have n1 : (4 * (k : Int) + 1).toNat = 4 * k + 1:=zz4
   have n2 : (4 * (k : Int) + 2).toNat = 4 * k + 2:=zz4
   have n3 : (4 * (k : Int) + 3).toNat = 4 * k + 3:=zz4
   have l0 : 4 * (k : Int) < blk.size:=zz4
   have l1 : 4 * (k : Int) + 1 < blk.size:=zz4
   have l2 : 4 * (k : Int) + 2 < blk.size:=zz4
   have l3 : 4 * (k : Int) + 3 < blk.size:=zz4
   have m0 : 0 ≤ 4 * (k : Int):=zz4
   have m1 : 0 ≤ 4 * (k : Int) + 1:=zz4
   have m2 : 0 ≤ 4 * (k : Int) + 2:=zz4
   have m3 : 0 ≤ 4 * (k : Int) + 3:=zz4
   go_wp2
   refine still_tail 30 (by kernel_rfl) (by kernel_rfl) ?_
   simp only [List.take_succ_cons,List.take_zero,List.drop_succ_cons,List.drop_zero]
   repeat still_step
   refine wpStill_nil ?_
   clear e0 e1 e2 e3
   have hc:=A5.cell (i:=k) (by rw [padz_len (by rw [sch_len]; omega)]; omega)
   have hf:=A5.frozen k
   have hl : k < 64:=zz4
   go_wp2
   go_roundw
   case rel =>
    refine ⟨k + 1,zz4,by go_num,((A2.setO (show w.heap.size ≠ w.heap.size + 1 + 1 by omega) _).drew),((A4.setO (show w.heap.size + 1 ≠ w.heap.size + 1 + 1 by omega) _).drew),?_,?_⟩
    ·rw [sch_low blk hlt, ← sch_put blk hl, ← word_at zz4]
     exact (A5.set k _).drew
    ·exact (hB.setCell (show w.heap.size ≤ w.heap.size + 1 + 1 by omega) _).drew
   case measure => simp [intOf]; omega
  ·have hke : k = 16:=by omega
   subst hke
   clear hlt hk
   go_wp2
   go_loopw [8] (fun i wr => ∃ k : Nat,16 ≤ k ∧ k ≤ 64 ∧ i = .int .i64 k ∧ Arr wr w.heap.size 204 s.l ∧ Arr wr (w.heap.size + 1) 204 (List.replicate 8 0) ∧ Arr wr (w.heap.size + 1 + 1) 211 (padz (sch blk k) 64) ∧ Below w.heap.size w wr) (fun i _ => 64 - (intOf i).toNat)
   case atStart => exact ⟨16,zz4,zz4,rfl,A2,A4,A5,hB⟩
   case round =>
    clear A2 A4 A5 hB
    obtain ⟨k,hk0,hk,rfl,A2,A4,A5,hB⟩:=hrel
    by_cases hlt : k < 64
    ·obtain ⟨x16,X16,hx16,c16⟩:=A5.word (i:=k - 16) zz4 zz4
     obtain ⟨x15,X15,hx15,c15⟩:=A5.word (i:=k - 15) zz4 zz4
     obtain ⟨x7,X7,hx7,c7⟩:=A5.word (i:=k - 7) zz4 zz4
     obtain ⟨x2,X2,hx2,c2⟩:=A5.word (i:=k - 2) zz4 zz4
     have HS : Hid (sch blk (k + 1) = sch blk k ++ [wsum x16 (sg0 x15) x7 (sg1 x2)]):=zd (by rw [sch_high blk zz4]; simp only [wnext,X16,X15,X7,X2])
     clear X16 X15 X7 X2
     have e16 : IntKind.i64.wrap ((k : Int) - 16) = (k : Int) - 16:=IntWalk.i64_in _ zz4
     have e15 : IntKind.i64.wrap ((k : Int) - 15) = (k : Int) - 15:=IntWalk.i64_in _ zz4
     have e7 : IntKind.i64.wrap ((k : Int) - 7) = (k : Int) - 7:=IntWalk.i64_in _ zz4
     have e2 : IntKind.i64.wrap ((k : Int) - 2) = (k : Int) - 2:=IntWalk.i64_in _ zz4
     have n16 : ((k : Int) - 16).toNat = k - 16:=zz4
     have n15 : ((k : Int) - 15).toNat = k - 15:=zz4
     have n7 : ((k : Int) - 7).toNat = k - 7:=zz4
     have n2 : ((k : Int) - 2).toNat = k - 2:=zz4
     have m16 : 0 ≤ (k : Int) - 16:=zz4
     have m15 : 0 ≤ (k : Int) - 15:=zz4
     have m7 : 0 ≤ (k : Int) - 7:=zz4
     have m2 : 0 ≤ (k : Int) - 2:=zz4
     have p16 : (16 : Int) ≤ k:=zz4
     have p15 : (15 : Int) ≤ k:=zz4
     have p7 : (7 : Int) ≤ k:=zz4
     have p2 : (2 : Int) ≤ k:=zz4
     have l16 : (k : Int) - 16 < 64:=zz4
     have l15 : (k : Int) - 15 < 64:=zz4
     have l7 : (k : Int) - 7 < 64:=zz4
     have l2 : (k : Int) - 2 < 64:=zz4
     obtain ⟨hx15a,hx15b⟩:=hx15
     obtain ⟨hx2a,hx2b⟩:=hx2
     go_wp2
     go_quiet (fail)
     go_wp2
     refine still_tail 32 (by kernel_rfl) (by kernel_rfl) ?_
     simp only [List.take_succ_cons,List.take_zero,List.drop_succ_cons,List.drop_zero]
     repeat still_step
     still_call (still_of (impl_turn 7 _ _ zz44 hx15a hx15b))
     repeat still_step
     still_call (still_of (impl_turn 18 _ _ zz44 hx15a hx15b))
     repeat still_step
     still_call (still_of (impl_turn 17 _ _ zz44 hx2a hx2b))
     repeat still_step
     still_call (still_of (impl_turn 19 _ _ zz44 hx2a hx2b))
     repeat still_step
     refine wpStill_nil ?_
     have hc:=A5.cell (i:=k) (by rw [padz_len (by rw [sch_len]; omega)]; omega)
     have hf:=A5.frozen k
     clear e16 e15 e7 e2 c16 c15 c7 c2 n16 n15 n7 n2 m16 m15 m7 m2 l16 l15 l7 l2 p16 p15 p7 p2
     go_wp2
     go_roundw
     case rel =>
      (repeat apply Exists.intro)
      refine ⟨⟨k + 1,zz4,zz4,by go_num,A2.setO (show w.heap.size ≠ w.heap.size + 1 + 1 by omega) _,A4.setO (show w.heap.size + 1 ≠ w.heap.size + 1 + 1 by omega) _,?_,?_⟩,rfl⟩
      ·rw [HS.out, ← sch_put blk hlt]
       simp only [wsum,sg0,sg1,xr]
       exact A5.set k _
      ·exact ((Below.drewN hB _).setCell (show w.heap.size ≤ w.heap.size + 1 + 1 by omega) _)
     case measure => simp [intOf]; omega
    ·have hke : k = 64:=by omega
     subst hke
     clear hlt hk hk0
     rw [show padz (sch blk 64) 64 = sch blk 64 from by unfold padz; rw [sch_len]; simp] at A5
     have hsz2:=hB.size
     have A5lt:=A5.lt
     go_wp2_with (refine wpList_load_row rfl 204 _ rfl w.heap.size rfl 204 #[.int .u32 s.a, .int .u32 s.b, .int .u32 s.c, .int .u32 s.d, .int .u32 s.e, .int .u32 s.f, .int .u32 s.g, .int .u32 s.h] (0,0) _ A2 Tryz.underlying204 rfl (by kernel_rfl) ?_)
     obtain ⟨V,hV⟩ : ∃ V,wr.heap.size = V:=⟨_,rfl⟩
     have AV : Arr (wr.alloc (.cells #[.int .u32 s.a, .int .u32 s.b, .int .u32 s.c, .int .u32 s.d, .int .u32 s.e, .int .u32 s.f, .int .u32 s.g, .int .u32 s.h] 204)) V 204 (rounds s (sch blk 64) 0).l:=arr_new hV.symm rfl
     replace A2:=A2.alloc (.cells #[.int .u32 s.a, .int .u32 s.b, .int .u32 s.c, .int .u32 s.d, .int .u32 s.e, .int .u32 s.f, .int .u32 s.g, .int .u32 s.h] 204)
     replace A4:=A4.alloc (.cells #[.int .u32 s.a, .int .u32 s.b, .int .u32 s.c, .int .u32 s.d, .int .u32 s.e, .int .u32 s.f, .int .u32 s.g, .int .u32 s.h] 204)
     replace A5:=A5.alloc (.cells #[.int .u32 s.a, .int .u32 s.b, .int .u32 s.c, .int .u32 s.d, .int .u32 s.e, .int .u32 s.f, .int .u32 s.g, .int .u32 s.h] 204)
     replace hB:=hB.alloc hsz2 (.cells #[.int .u32 s.a, .int .u32 s.b, .int .u32 s.c, .int .u32 s.d, .int .u32 s.e, .int .u32 s.f, .int .u32 s.g, .int .u32 s.h] 204)
     have hV3 : w.heap.size + 1 + 1 < V:=by rw [← hV]; exact A5lt
     rw [hV]
     replace hV:=zd hV
     generalize wr.alloc _ = W2 at A2 A4 A5 hB AV ⊢
     have HT2:=zd (hT.later hB)
     go_loopw [99] (fun i wr => ∃ k : Nat,k ≤ 64 ∧ i = .int .i64 k ∧ Arr wr w.heap.size 204 s.l ∧ Arr wr (w.heap.size + 1) 204 (List.replicate 8 0) ∧ Arr wr (w.heap.size + 1 + 1) 211 (sch blk 64) ∧ Arr wr V 204 (rounds s (sch blk 64) k).l ∧ Below w.heap.size w wr) (fun i _ => 64 - (intOf i).toNat)
     case atStart => exact ⟨0,zz4,rfl,A2,A4,A5,AV,hB⟩
     case round =>
      clear A2 A4 A5 hB AV HT2
      obtain ⟨k,hk,rfl,A2,A4,A5,AV,hB⟩:=hrel
      by_cases hlt : k < 64
      ·obtain ⟨hw,hwx,hww,cw⟩ : ∃ x,(sch blk 64).getD k 0 = x ∧ W32 x ∧ wr.cell? ⟨w.heap.size + 1 + 1,k,none⟩ = some (.int .u32 x):=⟨_,rfl,sch_w blk hlt,A5.at_ (by rw [sch_len]; exact hlt)⟩
       obtain ⟨kk,hkk,hkw,ck⟩ : ∃ x,shaKeys.getD k 0 = x ∧ W32 x ∧ wr.cell? ⟨1,k,none⟩ = some (.int .u32 x):=⟨_,rfl,keys_lt k hlt,(hT.later hB).1 k hlt⟩
       have HR : Hid (rounds s (sch blk 64) (k + 1) = rnd (rounds s (sch blk 64) k) kk hw):=zd (by simp only [rounds,hwx,hkk])
       clear hwx hkk
       have hro:=rounds_ok ⟨hs0,hs1,hs2,hs3,hs4,hs5,hs6,hs7⟩ (sch blk 64) k
       obtain ⟨r,hr⟩ : ∃ r,rounds s (sch blk 64) k = r:=⟨_,rfl⟩
       rw [hr] at AV HR hro
       clear hr
       obtain ⟨ra,rb,rc,rd_,re,rf,rg,rh⟩:=r
       obtain ⟨ha,hb_,hc_,hd,he,hf_,hg,hh⟩:=hro
       have v0:=AV.cell (i:=0) zz56
       have v1:=AV.cell (i:=1) zz56
       have v2:=AV.cell (i:=2) zz56
       have v3:=AV.cell (i:=3) zz56
       have v4:=AV.cell (i:=4) zz56
       have v5:=AV.cell (i:=5) zz56
       have v6:=AV.cell (i:=6) zz56
       have v7:=AV.cell (i:=7) zz56
       simp only [S8.l,List.getElem_cons_zero,List.getElem_cons_succ] at v0 v1 v2 v3 v4 v5 v6 v7
       change W32 ra at ha
       change W32 re at he
       obtain ⟨haa,hab⟩:=ha
       obtain ⟨hea,heb⟩:=he
       have hk64 : (k : Int) < 64:=zz4
       go_wp2
       go_quiet (fail)
       go_wp2
       go_quiet ((go_at_call 228; exact quiet_add_left (impl_turn _ _ _ zz44 hea heb)))
       go_wp2
       go_quiet ((go_at_call 228; exact quiet_add_left (impl_turn _ _ _ zz44 haa hab)))
       have hfz:=fun o => AV.frozen o
       go_wp2
       go_roundw
       case rel =>
        first | refine ⟨k + 1,zz4,by go_num,Arr.setO8 (A2.drewN _) zz4 _ _ _ _ _ _ _ _,Arr.setO8 (A4.drewN _) zz4 _ _ _ _ _ _ _ _,Arr.setO8 (A5.drewN _) zz4 _ _ _ _ _ _ _ _,?_,Below.set8 (Below.drewN hB _) zz4 _ _ _ _ _ _ _ _⟩ | ((repeat apply Exists.intro); refine ⟨⟨k + 1,zz4,by go_num,Arr.setO8 (A2.drewN _) zz4 _ _ _ _ _ _ _ _,Arr.setO8 (A4.drewN _) zz4 _ _ _ _ _ _ _ _,Arr.setO8 (A5.drewN _) zz4 _ _ _ _ _ _ _ _,?_,Below.set8 (Below.drewN hB _) zz4 _ _ _ _ _ _ _ _⟩,rfl⟩)
        rw [HR.out]
        simp only [rnd,tmpT,tmpU,up0,up1,chs,maj,xr,an, ← max32]
        exact Arr.set8 (AV.drewN _) _ _ _ _ _ _ _ _
       case measure => simp [intOf]; omega
      ·have hke : k = 64:=by omega
       subst hke
       clear hlt hk
       obtain ⟨r,hr⟩ : ∃ r,rounds s (sch blk 64) 64 = r:=⟨_,rfl⟩
       have HC : Hid (comp s blk = adds s r):=zd (by unfold comp; rw [hr])
       rw [hr] at AV
       clear hr
       have hsz3:=hB.size
       go_wp2
       have B2 : Arr wr w.heap.size 204 (addk s r 0):=A2
       clear A2
       go_loopw [185] (fun i wr => ∃ k : Nat,k ≤ 8 ∧ i = .int .i64 k ∧ Arr wr w.heap.size 204 (addk s r k) ∧ Arr wr (w.heap.size + 1) 204 (List.replicate 8 0) ∧ Arr wr V 204 r.l ∧ Below w.heap.size w wr) (fun i _ => 8 - (intOf i).toNat)
       case atStart => exact ⟨0,zz4,rfl,B2,A4,AV,hB⟩
       case round =>
        clear B2 A4 A5 AV hB hsz3
        obtain ⟨k,hk,rfl,A2,A4,AV,hB⟩:=hrel
        by_cases hlt : k < 8
        ·have c0 : wr.cell? ⟨w.heap.size,k,none⟩ = some (.int .u32 (s.l.getD k 0)):=by rw [← addk_get hlt]; exact A2.at_ (by rw [addk_len]; exact hlt)
         have c1 : wr.cell? ⟨V,k,none⟩ = some (.int .u32 (r.l.getD k 0)):=AV.at_ hlt
         have f0:=A2.frozen k
         have hs8:=zd (addk_set (s:=s) (r:=r) hlt)
         obtain ⟨x,hx⟩ : ∃ x,s.l.getD k 0 = x:=⟨_,rfl⟩
         obtain ⟨y,hy⟩ : ∃ y,r.l.getD k 0 = y:=⟨_,rfl⟩
         rw [hx] at c0 hs8
         rw [hy] at c1 hs8
         clear hx hy
         have hk8 : (k : Int) < 8:=zz4
         go_wp2
         refine still_tail 7 (by kernel_rfl) (by kernel_rfl) ?_
         simp only [List.take_succ_cons,List.take_zero,List.drop_succ_cons,List.drop_zero]
         repeat still_step
         refine wpStill_nil ?_
         go_wp2
         go_roundw
         case rel =>
          first | refine ⟨k + 1,zz4,by go_num,?_,A4.setO (show w.heap.size + 1 ≠ w.heap.size by omega) _,AV.setO (show V ≠ w.heap.size by omega) _,(hB.drew.setCell (Nat.le_refl _) _)⟩ | ((repeat apply Exists.intro); refine ⟨⟨k + 1,zz4,by go_num,?_,A4.setO (show w.heap.size + 1 ≠ w.heap.size by omega) _,AV.setO (show V ≠ w.heap.size by omega) _,(hB.drew.setCell (Nat.le_refl _) _)⟩,rfl⟩)
          rw [← hs8.out]
          exact A2.set k _
         case measure => simp [intOf]; omega
        ·have hke : k = 8:=by omega
         subst hke
         clear hlt hk
         rw [addk_all] at A2
         rw [← HC.out] at A2
         obtain ⟨⟨qa,qb,qc,qd,qe,qf,qg,qh⟩,hq⟩ : ∃ q,comp s blk = q:=⟨_,rfl⟩
         rw [hq] at A2
         have HQ:=zd hq
         clear hq
         have z0:=A4.cell (i:=0) zz17
         have z1:=A4.cell (i:=1) zz17
         have z2:=A4.cell (i:=2) zz17
         have z3:=A4.cell (i:=3) zz17
         have z4:=A4.cell (i:=4) zz17
         have z5:=A4.cell (i:=5) zz17
         have z6:=A4.cell (i:=6) zz17
         have z7:=A4.cell (i:=7) zz17
         simp only [List.getElem_replicate] at z0 z1 z2 z3 z4 z5 z6 z7
         have hfz:=fun o => A4.frozen o
         go_wp2_with (refine wpList_load_row rfl 204 _ rfl w.heap.size rfl 204 #[.int .u32 qa, .int .u32 qb, .int .u32 qc, .int .u32 qd, .int .u32 qe, .int .u32 qf, .int .u32 qg, .int .u32 qh] (0,0) _ A2 Tryz.underlying204 rfl (by kernel_rfl) ?_)
         refine bodyPost_ret (v:=.agg #[.int .u32 qa, .int .u32 qb, .int .u32 qc, .int .u32 qd, .int .u32 qe, .int .u32 qf, .int .u32 qg, .int .u32 qh]) ?_ rfl ⟨by rw [HQ.out]; rfl,Below.set8 hB zz4 _ _ _ _ _ _ _ _⟩
         exact results_cell_row rfl _ _ (w.heap.size + 1) 204 _ (0,0) _ rfl (Arr.set8 A4 qa qb qc qd qe qf qg qh) Tryz.underlying204 rfl (by kernel_rfl)
end Go.Proofs.YtlfnmbcnehaikaaGreatDoor
namespace Go.Proofs.YtlfnmbcnehaikaaGreatDoor
open Go.RowKit Lay Mk
theorem spec_l03Block (w : World) (s : S8) (hs : s.Ok) (blk : ByteArray) (hb : blk.size = 64)  : Calls Tryz.prog 223 #[.agg (arr s.l), .string blk, .agg (arr shaKeys)] w fun e w' => e = .returned (.agg (arr (comp s blk).l)) ∧ Below w.heap.size w w':=by
 have hbl : 64 ≤ blk.size:=zz4
 have HB:=zd hb; clear hb
 obtain ⟨hs0,hs1,hs2,hs3,hs4,hs5,hs6,hs7⟩:=hs
 rw [S8.arr]
 obtain ⟨KS,hKS⟩ : ∃ K,arr shaKeys = K:=⟨_,rfl⟩
 rw [hKS]
 replace hKS:=zd hKS
 go_enter Tryz.func223,Tryz.ntmps223
 go_wp2_with (first | (refine wpList_box rfl _ _ rfl rfl ?_) | (refine wpList_storeNew (cs:=arr (List.replicate 64 0)) rfl 211 _ _ rfl rfl rfl zz17 (by kernel_rfl) rfl (arr_one _) ?_))
 generalize hW : (((w.alloc (.cells #[_,_,_,_,_,_,_,_] _)).alloc (.cells KS _)).alloc (.cells #[_,_,_,_,_,_,_,_] _)).alloc _ = W
 have hWs : W.heap.size = w.heap.size + 1 + 1 + 1 + 1:=by rw [← hW]; simp
 have A2 : Arr W w.heap.size 204 s.l:=by
  rw [← hW]
  exact Arr.alloc (Arr.alloc (Arr.alloc (arr_new (l:=s.l) rfl rfl) _) _) _
 have AK : Arr W (w.heap.size + 1) 211 shaKeys:=by
  rw [← hW]
  exact Arr.alloc (Arr.alloc (arr_new (l:=shaKeys) (World.size_alloc _ _).symm hKS.out.symm) _) _
 have A4 : Arr W (w.heap.size + 1 + 1) 204 (List.replicate 8 0):=by
  rw [← hW]
  exact Arr.alloc (arr_new (l:=List.replicate 8 0) (by rw [World.size_alloc,World.size_alloc]) rfl) _
 have A5 : Arr W (w.heap.size + 1 + 1 + 1) 211 (padz (sch blk 0) 64):=by
  rw [← hW]
  exact arr_new (l:=padz (sch blk 0) 64) (by rw [World.size_alloc,World.size_alloc,World.size_alloc]) rfl
 have hWB : Below w.heap.size w W:=by
  rw [← hW]
  exact ((((Below.refl _ _).alloc (Nat.le_refl _) _).alloc zz17 _).alloc zz23 _).alloc zz23 _
 have hWs2 : w.heap.size + 1 + 1 + 1 + 1 ≤ W.heap.size:=zz4
 clear hW hWs
 go_loopw [8] (fun i wr => ∃ k : Nat,k ≤ 16 ∧ i = .int .i64 k ∧ Arr wr w.heap.size 204 s.l ∧ Arr wr (w.heap.size + 1) 211 shaKeys ∧ Arr wr (w.heap.size + 1 + 1) 204 (List.replicate 8 0) ∧ Arr wr (w.heap.size + 1 + 1 + 1) 211 (padz (sch blk k) 64) ∧ Below w.heap.size w wr) (fun i _ => 16 - (intOf i).toNat)
 case atStart => exact ⟨0,zz4,rfl,A2,AK,A4,A5,hWB⟩
 case round =>
  clear A2 AK A4 A5 hWB
  obtain ⟨k,hk,rfl,A2,AK,A4,A5,hB⟩:=hrel
  by_cases hlt : k < 16
  ·have e0 : IntKind.i64.wrap (4 * (k : Int)) = 4 * (k : Int):=IntWalk.i64_in _ zz4
   have e1 : IntKind.i64.wrap (4 * (k : Int) + 1) = 4 * (k : Int) + 1:=IntWalk.i64_in _ zz4
   have e2 : IntKind.i64.wrap (4 * (k : Int) + 2) = 4 * (k : Int) + 2:=IntWalk.i64_in _ zz4
   have e3 : IntKind.i64.wrap (4 * (k : Int) + 3) = 4 * (k : Int) + 3:=IntWalk.i64_in _ zz4
   have n0 : (4 * (k : Int)).toNat = 4 * k:=zz4
   have n1 : (4 * (k : Int) + 1).toNat = 4 * k + 1:=zz4
   have n2 : (4 * (k : Int) + 2).toNat = 4 * k + 2:=zz4
   have n3 : (4 * (k : Int) + 3).toNat = 4 * k + 3:=zz4
   have l0 : 4 * (k : Int) < blk.size:=zz4
   have l1 : 4 * (k : Int) + 1 < blk.size:=zz4
   have l2 : 4 * (k : Int) + 2 < blk.size:=zz4
   have l3 : 4 * (k : Int) + 3 < blk.size:=zz4
   have m0 : 0 ≤ 4 * (k : Int):=zz4
   have m1 : 0 ≤ 4 * (k : Int) + 1:=zz4
   have m2 : 0 ≤ 4 * (k : Int) + 2:=zz4
   have m3 : 0 ≤ 4 * (k : Int) + 3:=zz4
   go_wp2
   refine still_tail 30 (by kernel_rfl) (by kernel_rfl) ?_
   simp only [List.take_succ_cons,List.take_zero,List.drop_succ_cons,List.drop_zero]
   repeat still_step
   refine wpStill_nil ?_
   clear e0 e1 e2 e3
   have hc:=A5.cell (i:=k) (by rw [padz_len (by rw [sch_len]; omega)]; omega)
   have hf:=A5.frozen k
   have hl : k < 64:=zz4
   go_wp2
   go_roundw
   case rel =>
    refine ⟨k + 1,zz4,by go_num,((A2.setO (show w.heap.size ≠ w.heap.size + 1 + 1 + 1 by omega) _).drew),((AK.setO (show w.heap.size + 1 ≠ w.heap.size + 1 + 1 + 1 by omega) _).drew),((A4.setO (show w.heap.size + 1 + 1 ≠ w.heap.size + 1 + 1 + 1 by omega) _).drew),?_,?_⟩
    ·rw [sch_low blk hlt, ← sch_put blk hl, ← word_at zz4]
     exact (A5.set k _).drew
    ·exact (hB.setCell (show w.heap.size ≤ w.heap.size + 1 + 1 + 1 by omega) _).drew
   case measure => simp [intOf]; omega
  ·have hke : k = 16:=by omega
   subst hke
   clear hlt hk
   go_wp2
   go_loopw [9] (fun i wr => ∃ k : Nat,16 ≤ k ∧ k ≤ 64 ∧ i = .int .i64 k ∧ Arr wr w.heap.size 204 s.l ∧ Arr wr (w.heap.size + 1) 211 shaKeys ∧ Arr wr (w.heap.size + 1 + 1) 204 (List.replicate 8 0) ∧ Arr wr (w.heap.size + 1 + 1 + 1) 211 (padz (sch blk k) 64) ∧ Below w.heap.size w wr) (fun i _ => 64 - (intOf i).toNat)
   case atStart => exact ⟨16,zz4,zz4,rfl,A2,AK,A4,A5,hB⟩
   case round =>
    clear A2 AK A4 A5 hB
    obtain ⟨k,hk0,hk,rfl,A2,AK,A4,A5,hB⟩:=hrel
    by_cases hlt : k < 64
    ·obtain ⟨x16,X16,hx16,c16⟩:=A5.word (i:=k - 16) zz4 zz4
     obtain ⟨x15,X15,hx15,c15⟩:=A5.word (i:=k - 15) zz4 zz4
     obtain ⟨x7,X7,hx7,c7⟩:=A5.word (i:=k - 7) zz4 zz4
     obtain ⟨x2,X2,hx2,c2⟩:=A5.word (i:=k - 2) zz4 zz4
     have HS : Hid (sch blk (k + 1) = sch blk k ++ [wsum x16 (sg0 x15) x7 (sg1 x2)]):=zd (by rw [sch_high blk zz4]; simp only [wnext,X16,X15,X7,X2])
     clear X16 X15 X7 X2
     have e16 : IntKind.i64.wrap ((k : Int) - 16) = (k : Int) - 16:=IntWalk.i64_in _ zz4
     have e15 : IntKind.i64.wrap ((k : Int) - 15) = (k : Int) - 15:=IntWalk.i64_in _ zz4
     have e7 : IntKind.i64.wrap ((k : Int) - 7) = (k : Int) - 7:=IntWalk.i64_in _ zz4
     have e2 : IntKind.i64.wrap ((k : Int) - 2) = (k : Int) - 2:=IntWalk.i64_in _ zz4
     have n16 : ((k : Int) - 16).toNat = k - 16:=zz4
     have n15 : ((k : Int) - 15).toNat = k - 15:=zz4
     have n7 : ((k : Int) - 7).toNat = k - 7:=zz4
     have n2 : ((k : Int) - 2).toNat = k - 2:=zz4
     have m16 : 0 ≤ (k : Int) - 16:=zz4
     have m15 : 0 ≤ (k : Int) - 15:=zz4
     have m7 : 0 ≤ (k : Int) - 7:=zz4
     have m2 : 0 ≤ (k : Int) - 2:=zz4
     have p16 : (16 : Int) ≤ k:=zz4
     have p15 : (15 : Int) ≤ k:=zz4
     have p7 : (7 : Int) ≤ k:=zz4
     have p2 : (2 : Int) ≤ k:=zz4
     have l16 : (k : Int) - 16 < 64:=zz4
     have l15 : (k : Int) - 15 < 64:=zz4
     have l7 : (k : Int) - 7 < 64:=zz4
     have l2 : (k : Int) - 2 < 64:=zz4
     obtain ⟨hx15a,hx15b⟩:=hx15
     obtain ⟨hx2a,hx2b⟩:=hx2
     go_wp2
     go_quiet ((go_at_call 234; exact quiet_w (spec_turn _ _ _ zz44 hx15a hx15b)))
     go_wp2
     go_quiet ((go_at_call 234; exact quiet_add_left (spec_turn _ _ _ zz44 hx2a hx2b)))
     go_wp2
     refine still_tail 14 (by kernel_rfl) (by kernel_rfl) ?_
     simp only [List.take_succ_cons,List.take_zero,List.drop_succ_cons,List.drop_zero]
     repeat still_step
     refine wpStill_nil ?_
     have hc:=A5.cell (i:=k) (by rw [padz_len (by rw [sch_len]; omega)]; omega)
     have hf:=A5.frozen k
     clear e16 e15 e7 e2 c16 c15 c7 c2 n16 n15 n7 n2 m16 m15 m7 m2 l16 l15 l7 l2 p16 p15 p7 p2
     go_wp2
     go_roundw
     case rel =>
      (repeat apply Exists.intro)
      refine ⟨⟨k + 1,zz4,zz4,by go_num,A2.setO (show w.heap.size ≠ w.heap.size + 1 + 1 + 1 by omega) _,AK.setO (show w.heap.size + 1 ≠ w.heap.size + 1 + 1 + 1 by omega) _,A4.setO (show w.heap.size + 1 + 1 ≠ w.heap.size + 1 + 1 + 1 by omega) _,?_,?_⟩,rfl⟩
      ·rw [HS.out, ← sch_put blk hlt]
       simp only [wsum,sg0,sg1,xr]
       exact A5.set k _
      ·exact ((Below.drewN hB _).setCell (show w.heap.size ≤ w.heap.size + 1 + 1 + 1 by omega) _)
     case measure => simp [intOf]; omega
    ·have hke : k = 64:=by omega
     subst hke
     clear hlt hk hk0
     rw [show padz (sch blk 64) 64 = sch blk 64 from by unfold padz; rw [sch_len]; simp] at A5
     have hsz2:=hB.size
     have A5lt:=A5.lt
     go_wp2_with (refine wpList_load_row rfl 204 _ rfl w.heap.size rfl 204 #[.int .u32 s.a, .int .u32 s.b, .int .u32 s.c, .int .u32 s.d, .int .u32 s.e, .int .u32 s.f, .int .u32 s.g, .int .u32 s.h] (0,0) _ A2 Tryz.underlying204 rfl (by kernel_rfl) ?_)
     obtain ⟨V,hV⟩ : ∃ V,wr.heap.size = V:=⟨_,rfl⟩
     have AV : Arr (wr.alloc (.cells #[.int .u32 s.a, .int .u32 s.b, .int .u32 s.c, .int .u32 s.d, .int .u32 s.e, .int .u32 s.f, .int .u32 s.g, .int .u32 s.h] 204)) V 204 (rounds s (sch blk 64) 0).l:=arr_new hV.symm rfl
     replace A2:=A2.alloc (.cells #[.int .u32 s.a, .int .u32 s.b, .int .u32 s.c, .int .u32 s.d, .int .u32 s.e, .int .u32 s.f, .int .u32 s.g, .int .u32 s.h] 204)
     replace AK:=AK.alloc (.cells #[.int .u32 s.a, .int .u32 s.b, .int .u32 s.c, .int .u32 s.d, .int .u32 s.e, .int .u32 s.f, .int .u32 s.g, .int .u32 s.h] 204)
     replace A4:=A4.alloc (.cells #[.int .u32 s.a, .int .u32 s.b, .int .u32 s.c, .int .u32 s.d, .int .u32 s.e, .int .u32 s.f, .int .u32 s.g, .int .u32 s.h] 204)
     replace A5:=A5.alloc (.cells #[.int .u32 s.a, .int .u32 s.b, .int .u32 s.c, .int .u32 s.d, .int .u32 s.e, .int .u32 s.f, .int .u32 s.g, .int .u32 s.h] 204)
     replace hB:=hB.alloc hsz2 (.cells #[.int .u32 s.a, .int .u32 s.b, .int .u32 s.c, .int .u32 s.d, .int .u32 s.e, .int .u32 s.f, .int .u32 s.g, .int .u32 s.h] 204)
     have hV3 : w.heap.size + 1 + 1 + 1 < V:=by rw [← hV]; exact A5lt
     rw [hV]
     replace hV:=zd hV
     generalize wr.alloc _ = W2 at A2 AK A4 A5 hB AV ⊢
     go_loopw [13] (fun i wr => ∃ k : Nat,k ≤ 64 ∧ i = .int .i64 k ∧ Arr wr w.heap.size 204 s.l ∧ Arr wr (w.heap.size + 1) 211 shaKeys ∧ Arr wr (w.heap.size + 1 + 1) 204 (List.replicate 8 0) ∧ Arr wr (w.heap.size + 1 + 1 + 1) 211 (sch blk 64) ∧ Arr wr V 204 (rounds s (sch blk 64) k).l ∧ Below w.heap.size w wr) (fun i _ => 64 - (intOf i).toNat)
     case atStart => exact ⟨0,zz4,rfl,A2,AK,A4,A5,AV,hB⟩
     case round =>
      clear A2 AK A4 A5 hB AV
      obtain ⟨k,hk,rfl,A2,AK,A4,A5,AV,hB⟩:=hrel
      by_cases hlt : k < 64
      ·obtain ⟨hw,hwx,hww,cw⟩ : ∃ x,(sch blk 64).getD k 0 = x ∧ W32 x ∧ wr.cell? ⟨w.heap.size + 1 + 1 + 1,k,none⟩ = some (.int .u32 x):=⟨_,rfl,sch_w blk hlt,A5.at_ (by rw [sch_len]; exact hlt)⟩
       obtain ⟨kk,hkk,hkw,ck⟩ : ∃ x,shaKeys.getD k 0 = x ∧ W32 x ∧ wr.cell? ⟨w.heap.size + 1,k,none⟩ = some (.int .u32 x):=⟨_,rfl,keys_lt k hlt,AK.at_ hlt⟩
       have HR : Hid (rounds s (sch blk 64) (k + 1) = rnd (rounds s (sch blk 64) k) kk hw):=zd (by simp only [rounds,hwx,hkk])
       clear hwx hkk
       have hro:=rounds_ok ⟨hs0,hs1,hs2,hs3,hs4,hs5,hs6,hs7⟩ (sch blk 64) k
       obtain ⟨r,hr⟩ : ∃ r,rounds s (sch blk 64) k = r:=⟨_,rfl⟩
       rw [hr] at AV HR hro
       clear hr
       obtain ⟨ra,rb,rc,rd_,re,rf,rg,rh⟩:=r
       obtain ⟨ha,hb_,hc_,hd,he,hf_,hg,hh⟩:=hro
       have v0:=AV.cell (i:=0) zz56
       have v1:=AV.cell (i:=1) zz56
       have v2:=AV.cell (i:=2) zz56
       have v3:=AV.cell (i:=3) zz56
       have v4:=AV.cell (i:=4) zz56
       have v5:=AV.cell (i:=5) zz56
       have v6:=AV.cell (i:=6) zz56
       have v7:=AV.cell (i:=7) zz56
       simp only [S8.l,List.getElem_cons_zero,List.getElem_cons_succ] at v0 v1 v2 v3 v4 v5 v6 v7
       change W32 ra at ha
       change W32 re at he
       obtain ⟨haa,hab⟩:=ha
       obtain ⟨hea,heb⟩:=he
       have hk64 : (k : Int) < 64:=zz4
       have hfz:=fun o => AV.frozen o
       go_wp2
       go_quiet ((go_at_call 234; exact quiet_w (spec_turn _ _ _ zz44 hea heb)))
       go_wp2
       go_quiet (fail)
       go_wp2
       go_quiet ((go_at_call 234; exact quiet_add_left (spec_turn _ _ _ zz44 haa hab)))
       go_wp2
       go_roundw
       case rel =>
        first | refine ⟨k + 1,zz4,by go_num,Arr.setO8r (A2.drewN _) zz4 _ _ _ _ _ _ _ _,Arr.setO8r (AK.drewN _) zz4 _ _ _ _ _ _ _ _,Arr.setO8r (A4.drewN _) zz4 _ _ _ _ _ _ _ _,Arr.setO8r (A5.drewN _) zz4 _ _ _ _ _ _ _ _,?_,Below.set8r (Below.drewN hB _) zz4 _ _ _ _ _ _ _ _⟩ | ((repeat apply Exists.intro); refine ⟨⟨k + 1,zz4,by go_num,Arr.setO8r (A2.drewN _) zz4 _ _ _ _ _ _ _ _,Arr.setO8r (AK.drewN _) zz4 _ _ _ _ _ _ _ _,Arr.setO8r (A4.drewN _) zz4 _ _ _ _ _ _ _ _,Arr.setO8r (A5.drewN _) zz4 _ _ _ _ _ _ _ _,?_,Below.set8r (Below.drewN hB _) zz4 _ _ _ _ _ _ _ _⟩,rfl⟩)
        rw [HR.out]
        simp only [rnd,tmpT,tmpU,up0,up1,chs,maj,xr,an]
        exact Arr.set8r (AV.drewN _) _ _ _ _ _ _ _ _
       case measure => simp [intOf]; omega
      ·have hke : k = 64:=by omega
       subst hke
       clear hlt hk
       obtain ⟨r,hr⟩ : ∃ r,rounds s (sch blk 64) 64 = r:=⟨_,rfl⟩
       have HC : Hid (comp s blk = adds s r):=zd (by unfold comp; rw [hr])
       rw [hr] at AV
       clear hr
       have hsz3:=hB.size
       go_wp2
       have B2 : Arr wr w.heap.size 204 (addk s r 0):=A2
       clear A2
       go_loopw [20] (fun i wr => ∃ k : Nat,k ≤ 8 ∧ i = .int .i64 k ∧ Arr wr w.heap.size 204 (addk s r k) ∧ Arr wr (w.heap.size + 1 + 1) 204 (List.replicate 8 0) ∧ Arr wr V 204 r.l ∧ Below w.heap.size w wr) (fun i _ => 8 - (intOf i).toNat)
       case atStart => exact ⟨0,zz4,rfl,B2,A4,AV,hB⟩
       case round =>
        clear B2 A4 A5 AV hB hsz3
        obtain ⟨k,hk,rfl,A2,A4,AV,hB⟩:=hrel
        by_cases hlt : k < 8
        ·have c0 : wr.cell? ⟨w.heap.size,k,none⟩ = some (.int .u32 (s.l.getD k 0)):=by rw [← addk_get hlt]; exact A2.at_ (by rw [addk_len]; exact hlt)
         have c1 : wr.cell? ⟨V,k,none⟩ = some (.int .u32 (r.l.getD k 0)):=AV.at_ hlt
         have f0:=A2.frozen k
         have hs8:=zd (addk_set (s:=s) (r:=r) hlt)
         obtain ⟨x,hx⟩ : ∃ x,s.l.getD k 0 = x:=⟨_,rfl⟩
         obtain ⟨y,hy⟩ : ∃ y,r.l.getD k 0 = y:=⟨_,rfl⟩
         rw [hx] at c0 hs8
         rw [hy] at c1 hs8
         clear hx hy
         have hk8 : (k : Int) < 8:=zz4
         go_wp2
         refine still_tail 8 (by kernel_rfl) (by kernel_rfl) ?_
         simp only [List.take_succ_cons,List.take_zero,List.drop_succ_cons,List.drop_zero]
         repeat still_step
         refine wpStill_nil ?_
         go_wp2
         go_roundw
         case rel =>
          first | refine ⟨k + 1,zz4,by go_num,?_,A4.setO (show w.heap.size + 1 + 1 ≠ w.heap.size by omega) _,AV.setO (show V ≠ w.heap.size by omega) _,(hB.drew.setCell (Nat.le_refl _) _)⟩ | ((repeat apply Exists.intro); refine ⟨⟨k + 1,zz4,by go_num,?_,A4.setO (show w.heap.size + 1 + 1 ≠ w.heap.size by omega) _,AV.setO (show V ≠ w.heap.size by omega) _,(hB.drew.setCell (Nat.le_refl _) _)⟩,rfl⟩)
          rw [← hs8.out]
          exact A2.set k _
         case measure => simp [intOf]; omega
        ·have hke : k = 8:=by omega
         subst hke
         clear hlt hk
         rw [addk_all] at A2
         rw [← HC.out] at A2
         obtain ⟨⟨qa,qb,qc,qd,qe,qf,qg,qh⟩,hq⟩ : ∃ q,comp s blk = q:=⟨_,rfl⟩
         rw [hq] at A2
         have HQ:=zd hq
         clear hq
         have z0:=A4.cell (i:=0) zz17
         have z1:=A4.cell (i:=1) zz17
         have z2:=A4.cell (i:=2) zz17
         have z3:=A4.cell (i:=3) zz17
         have z4:=A4.cell (i:=4) zz17
         have z5:=A4.cell (i:=5) zz17
         have z6:=A4.cell (i:=6) zz17
         have z7:=A4.cell (i:=7) zz17
         simp only [List.getElem_replicate] at z0 z1 z2 z3 z4 z5 z6 z7
         have hfz:=fun o => A4.frozen o
         go_wp2_with (refine wpList_load_row rfl 204 _ rfl w.heap.size rfl 204 #[.int .u32 qa, .int .u32 qb, .int .u32 qc, .int .u32 qd, .int .u32 qe, .int .u32 qf, .int .u32 qg, .int .u32 qh] (0,0) _ A2 Tryz.underlying204 rfl (by kernel_rfl) ?_)
         refine bodyPost_ret (v:=.agg #[.int .u32 qa, .int .u32 qb, .int .u32 qc, .int .u32 qd, .int .u32 qe, .int .u32 qf, .int .u32 qg, .int .u32 qh]) ?_ rfl ⟨by rw [HQ.out]; rfl,Below.set8 hB zz4 _ _ _ _ _ _ _ _⟩
         exact results_cell_row rfl _ _ (w.heap.size + 1 + 1) 204 _ (0,0) _ rfl (Arr.set8 A4 qa qb qc qd qe qf qg qh) Tryz.underlying204 rfl (by kernel_rfl)
end Go.Proofs.YtlfnmbcnehaikaaGreatDoor
namespace Go.Proofs.YtlfnmbcnehaikaaGreatDoor
open Go.RowKit Lay Mk
structure TriG {κ α β : Type} [Lay κ] [Lay α] [Lay β] (B : Nat) (N : Blks) (w : World) (Ak : Option Addr) (ck : Nat) (ks : List κ) (Au : Option Addr) (cu : Nat) (us : List α) (As : Option Addr) (cs : Nat) (ss : List β) : Prop where
 ex : ∃ K U V : Blks,Row false w Ak ck ks K ∧ Row true w Au cu us U ∧ Row true w As cs ss V ∧ disj K U ∧ disj K V ∧ disj U V ∧ (∀ b,U b → B ≤ b) ∧ (∀ b,V b → B ≤ b) ∧ disj K N ∧ disj U N ∧ disj V N
 nb : ∀ b,N b → b < w.heap.size
 lu : us.length ≤ cu
 mu : cu ≤ maxLen
 ls : ss.length ≤ cs
 ms : cs ≤ maxLen
section
variable {κ α β : Type} [Lay κ] [Lay α] [Lay β] {B : Nat} {N : Blks} {w : World} {Ak : Option Addr} {ck : Nat} {ks : List κ} {Au : Option Addr} {cu : Nat} {us : List α} {As : Option Addr} {cs : Nat} {ss : List β}
theorem TriG.later {w' : World} (h : TriG B N w Ak ck ks Au cu us As cs ss) (hb : Below w.heap.size w w') : TriG B N w' Ak ck ks Au cu us As cs ss:=by
 obtain ⟨K,U,V,h1,h2,h3,h4⟩:=h.ex
 exact ⟨⟨K,U,V,Row.later h1 hb,Row.later h2 hb,Row.later h3 hb,h4⟩,fun b x => Nat.lt_of_lt_of_le (h.nb b x) hb.size,h.lu,h.mu,h.ls,h.ms⟩
theorem TriG.chgN {w' : World} (h : TriG B N w Ak ck ks Au cu us As cs ss) (hc : Chg N w w') : TriG B N w' Ak ck ks Au cu us As cs ss:=by
 obtain ⟨K,U,V,h1,h2,h3,d1,d2,d3,b1,b2,d4,d5,d6⟩:=h.ex
 exact ⟨⟨K,U,V,Row.chg h1 hc d4,Row.chg h2 hc d5,Row.chg h3 hc d6,d1,d2,d3,b1,b2,d4,d5,d6⟩,fun b x => Nat.lt_of_lt_of_le (h.nb b x) hc.size,h.lu,h.mu,h.ls,h.ms⟩
theorem TriG.fst (h : TriG B N w Ak ck ks Au cu us As cs ss) : ∃ K,Row false w Ak ck ks K:=by
 obtain ⟨K,U,V,h1,_⟩:=h.ex
 exact ⟨K,h1⟩
theorem TriG.snd (h : TriG B N w Ak ck ks Au cu us As cs ss) : Row true w Au cu us (nw B):=by
 obtain ⟨K,U,V,h1,h2,h3,d1,d2,d3,b1,b2,d4,d5,d6⟩:=h.ex
 exact h2.mono b1
theorem TriG.thd (h : TriG B N w Ak ck ks Au cu us As cs ss) : Row true w As cs ss (nw B):=by
 obtain ⟨K,U,V,h1,h2,h3,d1,d2,d3,b1,b2,d4,d5,d6⟩:=h.ex
 exact h3.mono b2
theorem TriG.fresh {κ' : Type} [Lay κ'] {w' : World} {A : Option Addr} {c : Nat} {qs : List κ'} (h : TriG B N w Ak ck ks Au cu us As cs ss) (hb : Below w.heap.size w w') (hr : Row false w' A c qs (nw w.heap.size)) : TriG B N w' A c qs Au cu us As cs ss:=by
 obtain ⟨K,U,V,h1,h2,h3,d1,d2,d3,b1,b2,d4,d5,d6⟩:=h.ex
 exact ⟨⟨nw w.heap.size,_,_,hr,Row.later h2.tight hb,Row.later h3.tight hb,fun b x y => by have x : w.heap.size ≤ b:=x; have:=y.2; omega,fun b x y => by have x : w.heap.size ≤ b:=x; have:=y.2; omega,fun b x y => d3 b x.1 y.1,fun b x => b1 b x.1,fun b x => b2 b x.1,fun b x y => by have x : w.heap.size ≤ b:=x; have:=h.nb b y; omega,fun b x => d5 b x.1,fun b x => d6 b x.1⟩,fun b x => Nat.lt_of_lt_of_le (h.nb b x) hb.size,h.lu,h.mu,h.ls,h.ms⟩
theorem wpList_trigU [SlTy α] [Inf α] {ops : Array Oper} {rest : List Oper} {o : Oper} {a : Act} {Q : Exit → Act → World → Prop} {v : World} (hgd : o.guard = none) (s x : Operand)
  (ho : o.op = .call { callee:=.builtin .append,args:=#[s,x],argTypes:=#[SlTy.st α,SlTy.st α] })
  {A2 : Option Addr} {c2 k : Nat} {y : α} (hs : a.eval s = .slice Au k cu) (hk : k = us.length) (tri : TriG B N w Ak ck ks Au cu us As cs ss) (hBw : B ≤ w.heap.size) (hb : Below w.heap.size w v)
  (hx : a.eval x = .slice A2 1 c2) (hsrc : Src v A2 [y] none_) (hlim : k ≤ 2000000000)
  (h : ∀ A' c' w',TriG B N w' Ak ck ks A' c' (us ++ [y]) As cs ss → Chg (fun b => B ≤ b ∧ b < w.heap.size ∧ ¬ N b) v w' → wpList Tryz.prog ops Q rest (a.put o.dst (.slice A' (k + 1) c')) w') :
  wpList Tryz.prog ops Q (o :: rest) a v:=by
 subst hk
 obtain ⟨K,U,V,h1,h2,h3,d1,d2,d3,b1,b2,d4,d5,d6⟩:=tri.ex
 have hsz:=hb.size
 refine wpList_app (α:=α) hgd s x ho hs rfl (Row.later h2.tight hb) tri.lu tri.mu hx rfl hsrc (disj_none_ _) zz23 ?_
 intro A' c' w' q1 q2 q3 q4
 refine h A' c' w' ⟨⟨_,_,_,Row.chgS q4 (Row.later h1.tight hb) (fun b x _ y => d1 b x.1 y.1),q3,Row.chgS q4 (Row.later h3.tight hb) (fun b x _ y => d3 b y.1 x.1),?_,fun b x y => d2 b x.1 y.1,?_,?_,fun b x => b2 b x.1,fun b x => d4 b x.1,?_,fun b x => d6 b x.1⟩,fun b x => Nat.lt_of_lt_of_le (tri.nb b x) (by have:=q4.size; omega),by rw [List.length_append]; exact q1,q2,tri.ls,tri.ms⟩ (q4.mono (fun b _ x => ⟨b1 b x.1,x.2,d5 b x.1⟩))
 ·rintro b x (y | y | y)
  ·exact d1 b x.1 y.1
  ·exact y.elim
  ·have:=y.1; have:=x.2; omega
 ·rintro b (y | y | y) x
  ·exact d3 b y.1 x.1
  ·exact y.elim
  ·have:=y.1; have:=x.2; omega
 ·rintro b (y | y | y)
  ·exact b1 b y.1
  ·exact y.elim
  ·have:=y.1; omega
 ·rintro b (y | y | y) x
  ·exact d5 b y.1 x
  ·exact y.elim
  ·have:=y.1; have:=tri.nb b x; omega
theorem wpList_trigV [SlTy β] [Inf β] {ops : Array Oper} {rest : List Oper} {o : Oper} {a : Act} {Q : Exit → Act → World → Prop} {v : World} (hgd : o.guard = none) (s x : Operand)
  (ho : o.op = .call { callee:=.builtin .append,args:=#[s,x],argTypes:=#[SlTy.st β,SlTy.st β] })
  {c2 k b : Nat} {y : β} {T : Blks} {ys : Array Value} {t : TypeId} (hs : a.eval s = .slice As k cs) (hk : k = ss.length) (tri : TriG B N w Ak ck ks Au cu us As cs ss) (hBw : B ≤ w.heap.size) (hb : Below w.heap.size w v)
  (hy : rd true v ys.toList y T) (hT : ∀ b,T b → w.heap.size ≤ b) (hx : a.eval x = .slice (some ⟨b,0,none⟩) 1 c2) (hbb : b = v.heap.size) (hlim : k ≤ 2000000000)
  (h : ∀ A' c' w',TriG B N w' Ak ck ks Au cu us A' c' (ss ++ [y]) → Chg (fun b => B ≤ b ∧ b < w.heap.size ∧ ¬ N b) (v.alloc (.cells ys t)) w' → wpList Tryz.prog ops Q rest (a.put o.dst (.slice A' (k + 1) c')) w') :
  wpList Tryz.prog ops Q (o :: rest) a (v.alloc (.cells ys t)):=by
 subst hk
 obtain ⟨K,U,V,h1,h2,h3,d1,d2,d3,b1,b2,d4,d5,d6⟩:=tri.ex
 have hsz:=hb.size
 have hbw : Below w.heap.size w (v.alloc (.cells ys t)):=hb.alloc hb.size _
 refine wpList_app (α:=β) hgd s x ho hs rfl (Row.later h3.tight hbw) tri.ls tri.ms hx rfl (srcR v y ys t b hbb hy) (fun q x1 x2 => ?_) zz23 ?_
 ·have h8:=hT q x2.1
  have h9:=x1.2
  omega
 intro A' c' w' q1 q2 q3 q4
 refine h A' c' w' ⟨⟨_,_,_,Row.chgS q4 (Row.later h1.tight hbw) (fun b x _ y => d2 b x.1 y.1),Row.chgS q4 (Row.later h2.tight hbw) (fun b x _ y => d3 b x.1 y.1),q3,fun b x y => d1 b x.1 y.1,?_,?_,fun b x => b1 b x.1,?_,fun b x => d4 b x.1,fun b x => d5 b x.1,?_⟩,fun b x => Nat.lt_of_lt_of_le (tri.nb b x) (by have:=q4.size; rw [World.size_alloc] at this; omega),tri.lu,tri.mu,by rw [List.length_append]; exact q1,q2⟩ (q4.mono (fun b _ x => ⟨b2 b x.1,x.2,d6 b x.1⟩))
 ·rintro b x (y | y | y)
  ·exact d2 b x.1 y.1
  ·have:=hT b y.1; have:=x.2; omega
  ·have:=y.1; have:=x.2; rw [World.size_alloc] at *; omega
 ·rintro b x (y | y | y)
  ·exact d3 b x.1 y.1
  ·have:=hT b y.1; have:=x.2; omega
  ·have:=y.1; have:=x.2; rw [World.size_alloc] at *; omega
 ·rintro b (y | y | y)
  ·exact b2 b y.1
  ·have:=hT b y.1; omega
  ·have:=y.1; rw [World.size_alloc] at *; omega
 ·rintro b (y | y | y) x
  ·exact d6 b y.1 x
  ·have:=hT b y.1; have:=tri.nb b x; omega
  ·have:=y.1; have:=tri.nb b x; rw [World.size_alloc] at *; omega
end
end Go.Proofs.YtlfnmbcnehaikaaGreatDoor
