/- A part of the proof. -/
import Derived.LaidMore
import Derived.LaidLaws
import Derived.LaidHandle
import Derived.Handed
import Derived.Lib.LaidTab
import Derived.OpenShut
import Derived.SevenTiedAt
import Derived.Test.YtgllafgpmenjjaaGreatDoorHChL12xDh
set_option linter.unusedVariables false
set_option linter.unusedSimpArgs false
set_option maxRecDepth 100000
set_option maxHeartbeats 8000000
namespace Go.Proofs.YtgllafgpmenjjaaGreatDoor
open Go.RowKit Go.WideShapes Go.ChangeShapes Go.ChangeAt Lay Mk
def laidSha : List (String × DataW Unit) := [("loop.example/g00284/impl.roundWords", Rows.laid_loop_example_g00284_impl_roundWords), ("loop.example/g00284/impl.startWords", Rows.laid_loop_example_g00284_impl_startWords)]
theorem gRound : Tryz.prog.globalNamed "loop.example/g00284/impl.roundWords" = some 1 := by kernel_rfl
theorem gStart : Tryz.prog.globalNamed "loop.example/g00284/impl.startWords" = some 0 := by kernel_rfl
theorem tRound : (Tryz.prog.globals[1]?).map (·.type) = some 220:=by kernel_rfl
theorem tStart : (Tryz.prog.globals[0]?).map (·.type) = some 218:=by kernel_rfl
theorem laidRound_tab : (Rows.laid_loop_example_g00284_impl_roundWords : DataW Unit) = Go.Lib.tabData .u32 shaKeys:=by kernel_rfl
theorem laidStart_tab : (Rows.laid_loop_example_g00284_impl_startWords : DataW Unit) = Go.Lib.tabData .u32 shaFirst.l:=by kernel_rfl
theorem tabs_of_laid {W : World} (h : laidMetH Tryz.prog laidSha W) : Tabs W:=by
 rw [MakeChecks.laidMetH_plain _ _ _ (by kernel_rfl)] at h
 obtain ⟨ps,⟨g0,t0,cs0,f0,p0,q0,hg0,ht0,hv0,hd0,⟨g1,t1,cs1,f1,p1,q1,hg1,ht1,hv1,hd1,_,_⟩,_⟩,_,_⟩:=h
 obtain rfl:=Option.some.inj (gRound.symm.trans hg0)
 obtain rfl:=Option.some.inj (gStart.symm.trans hg1)
 obtain rfl:=Option.some.inj (tRound.symm.trans ht0)
 obtain rfl:=Option.some.inj (tStart.symm.trans ht1)
 rw [laidRound_tab] at hd0
 rw [laidStart_tab] at hd1
 have e0:=Go.Lib.cells_of_tab Tryz.underlying220 Tryz.underlying217 (by kernel_rfl) (by kernel_rfl) hd0
 have e1:=Go.Lib.cells_of_tab Tryz.underlying218 Tryz.underlying217 (by kernel_rfl) (by kernel_rfl) hd1
 have k0 : shaKeys.length = 64:=rfl
 have k1 : shaFirst.l.length = 8:=rfl
 refine ⟨fun i hi => ?_,fun i hi => ?_⟩
 ·have h:=World.var?_cell hg0 hv0 i
  rw [h]
  have : cs0.toList[i]? = some (.int .u32 (shaKeys.getD i 0)):=by
   rw [e0,List.getElem?_map,List.getElem?_eq_getElem zz8,Option.map_some,List.getD_eq_getElem?_getD,List.getElem?_eq_getElem zz8]; rfl
  simpa using this
 ·have h:=World.var?_cell hg1 hv1 i
  rw [h]
  have : cs1.toList[i]? = some (.int .u32 (shaFirst.l.getD i 0)):=by
   rw [e1,List.getElem?_map,List.getElem?_eq_getElem zz8,Option.map_some,List.getD_eq_getElem?_getD,List.getElem?_eq_getElem zz8]; rfl
  simpa using this
theorem door_met (os : Os) (args : Array Value) : laidMetH Tryz.prog laidSha ((World.doorLaid Tryz.prog 34 os).forCall (fun _ _ => 0) ⟨#[],args, []⟩).memory :=
 laidMetH_of_parts3 (fuel:=8) (laidMet_of_run' 8 (by kernel_rfl) (by kernel_rfl)) (by kernel_rfl) (by kernel_rfl)
def rowedVars (P : Program) (ns : List String) : Bool:=ns.all fun n => ((P.globalNamed n).bind (P.globals[·]?)).all fun gl => P.readableRec gl.type && decide (gl.type < P.types.size)
theorem trodVars_stays {H : Type} {enc : TypeId × Value → H} {P : Program} (hl : laidOutB P = true) {W W' : World} {sp : Nat → Bool} (hb : Below W.heap.size W W') :
  ∀ {ns : List String} {gs : List (DataW H)} {ps : List MemPlace},rowedVars P ns = true → DataW.TrodVars enc P W (fun _ => true) ns gs ps → (∀ x ∈ ps,sp x.block = true) → DataW.TrodVars enc P W' sp ns gs ps
 | [], [],_,_,h,_ => h
 | [],_ :: _,_,_,h,_ => h.elim
 | _ :: _, [],_,_,h,_ => h.elim
 | n :: ns,d :: ds,ps,hv,h,hsp => by
  have hlt:=h.lt
  obtain ⟨g,t,cs,fuel,p,q,h1,h2,h3,h4,hs,e⟩:=h
  simp only [rowedVars,List.all_cons,Bool.and_eq_true] at hv
  have ht : P.readableRec t = true ∧ t < P.types.size:=by
   have:=hv.1
   rw [h1] at this
   cases hg : P.globals[g]? with
   | none => rw [hg] at h2; cases h2
   | some gl =>
    rw [hg] at h2
    obtain rfl : gl.type = t:=Option.some.inj h2
    simpa [hg] using this
  have hp : ∀ x ∈ p,x.block < W.heap.size:=fun x hx => hlt x (by rw [e]; simp [hx])
  have h3' : W'.var? P n = some cs:=by
   unfold World.var? at h3 ⊢
   rw [h1] at h3 ⊢
   simp only [Option.bind_some] at h3 ⊢
   have hg : g < W.heap.size:=by
    cases hh : W.heap[g]? with
    | none => rw [hh] at h3; cases h3
    | some o => exact (Array.getElem?_eq_some_iff.1 hh).1
   rw [hb.block g hg]; exact h3
  exact ⟨g,t,cs,fuel,p,q,h1,h2,h3',DataW.trod_stays (kids_book hl ht.1) (book_sized ht.1) (fun h => by cases h) ⟨ht.2,book_self t⟩ h4 (fun x hx => hb.same (hp x hx)) (fun x hx => hsp x (by rw [e]; simp [hx])),
   trodVars_stays hl hb (by simpa [rowedVars] using hv.2) hs (fun x hx => hsp x (by rw [e]; simp [hx])),e⟩
end Go.Proofs.YtgllafgpmenjjaaGreatDoor
namespace Go.Proofs.YtgllafgpmenjjaaGreatDoor
open Go.RowKit Lay Mk
theorem Src.flatC {α : Type} [Lay α] [Flat α] {m : Bool} {w : World} {A : Option Addr} {cap : Nat} {xs : List α} {S : Blks} (h : Row m w A cap xs S) : Src w A xs none_:=Src.flat h
theorem impl_copyHeads (w : World) (xs : List Head) (A : Option Addr) (cap : Nat) (S : Blks) (hx : Row false w A cap xs S) (hl : xs.length ≤ 2000000000) : Calls Tryz.prog 52 #[.slice A xs.length cap] w (OwnRes xs w):=by
 go_enter Tryz.func52,Tryz.ntmps52
 go_wp2_with (at_builtin; refine wpList_push (α:=Head) rfl _ _ rfl rfl rfl (Own.start (Below.refl w.heap.size w)) rfl rfl (Src.flatC hx) zz8 ?_; intro A' c' w' o' z')
 go_ret
 exact OwnRes.mk o' zz32 zz32
def ChRes (R : Client × ByteArray × Bool × Int) (w : World) (e : Ending) (w' : World) : Prop:=∃ c,e = .returned (.tuple #[.agg c.toArray, .string R.2.1, .bool R.2.2.1, .int .i64 R.2.2.2]) ∧ rd true w' c R.1 (rng w.heap.size w'.heap.size) ∧ Below w.heap.size w w'
theorem ChRes.mk {R : Client × ByteArray × Bool × Int} {hs : Int} {L : List Head} {s : ByteArray} {b : Bool} {k : Int} {w w' : World} {A : Option Addr} {c n : Nat} (hR : R = (⟨hs,L⟩,s,b,k)) (hn : n = L.length) (hi : I64 hs) (own : Own w w' A c L) :
  ChRes R w (.returned (.tuple #[.agg #[.int .i64 hs, .slice A n c], .string s, .bool b, .int .i64 k])) w':=by
 subst hR; subst hn
 exact ⟨[.int .i64 hs, .slice A L.length c],rfl,Client.mk' (x:=⟨hs,L⟩) (S0:=rng w.heap.size w'.heap.size) hi own.le own.cm own.rng (fun _ h => h),own.bl⟩
end Go.Proofs.YtgllafgpmenjjaaGreatDoor
namespace Go.Proofs.YtgllafgpmenjjaaGreatDoor
open Go.RowKit Lay Mk
theorem impl_compress (w : World) (s : S8) (hs : s.Ok) (blk : ByteArray) (hb : blk.size = 64) (hT : Tabs w) : Calls Tryz.prog 187 #[.agg (arr s.l), .string blk] w fun e w' => e = .returned (.agg (arr (comp s blk).l)) ∧ Below w.heap.size w w':=by
 have hbl : 64 ≤ blk.size:=zz8
 have HB:=zd hb; clear hb
 obtain ⟨hs0,hs1,hs2,hs3,hs4,hs5,hs6,hs7⟩:=hs
 rw [S8.arr]
 go_enter Tryz.func187,Tryz.ntmps187
 go_wp2
 generalize hW : ((w.alloc (.cells #[_,_,_,_,_,_,_,_] _)).alloc (.cells #[_,_,_,_,_,_,_,_] _)).alloc _ = W
 have hWs : W.heap.size = w.heap.size + 1 + 1 + 1:=by rw [← hW]; simp
 have A2 : Arr W w.heap.size 218 s.l:=by
  rw [← hW]
  exact Arr.alloc (Arr.alloc (arr_new (l:=s.l) rfl rfl) _) _
 have A4 : Arr W (w.heap.size + 1) 218 (List.replicate 8 0):=by
  rw [← hW]
  exact Arr.alloc (arr_new (l:=List.replicate 8 0) (World.size_alloc _ _).symm rfl) _
 have A5 : Arr W (w.heap.size + 1 + 1) 220 (padz (sch blk 0) 64):=by
  rw [← hW]
  exact arr_new (l:=padz (sch blk 0) 64) (by rw [World.size_alloc,World.size_alloc]) rfl
 have hWB : Below w.heap.size w W:=by
  rw [← hW]
  exact (((Below.refl _ _).alloc (Nat.le_refl _) _).alloc zz32 _).alloc zz35 _
 have hWs2 : w.heap.size + 1 + 1 + 1 ≤ W.heap.size:=zz8
 clear hW hWs
 go_loopw [18] (fun i wr => ∃ k : Nat,k ≤ 16 ∧ i = .int .i64 k ∧ Arr wr w.heap.size 218 s.l ∧ Arr wr (w.heap.size + 1) 218 (List.replicate 8 0) ∧ Arr wr (w.heap.size + 1 + 1) 220 (padz (sch blk k) 64) ∧ Below w.heap.size w wr) (fun i _ => 16 - (intOf i).toNat)
 case atStart => exact ⟨0,zz8,rfl,A2,A4,A5,hWB⟩
 case round =>
  clear A2 A4 A5 hWB
  obtain ⟨k,hk,rfl,A2,A4,A5,hB⟩:=hrel
  by_cases hlt : k < 16
  ·have e0 : IntKind.i64.wrap (4 * (k : Int)) = 4 * (k : Int):=IntWalk.i64_in _ zz8
   have e1 : IntKind.i64.wrap (4 * (k : Int) + 1) = 4 * (k : Int) + 1:=IntWalk.i64_in _ zz8
   have e2 : IntKind.i64.wrap (4 * (k : Int) + 2) = 4 * (k : Int) + 2:=IntWalk.i64_in _ zz8
   have e3 : IntKind.i64.wrap (4 * (k : Int) + 3) = 4 * (k : Int) + 3:=IntWalk.i64_in _ zz8
   have n0 : (4 * (k : Int)).toNat = 4 * k:=zz8
   have n1 : (4 * (k : Int) + 1).toNat = 4 * k + 1:=zz8
   have n2 : (4 * (k : Int) + 2).toNat = 4 * k + 2:=zz8
   have n3 : (4 * (k : Int) + 3).toNat = 4 * k + 3:=zz8
   have l0 : 4 * (k : Int) < blk.size:=zz8
   have l1 : 4 * (k : Int) + 1 < blk.size:=zz8
   have l2 : 4 * (k : Int) + 2 < blk.size:=zz8
   have l3 : 4 * (k : Int) + 3 < blk.size:=zz8
   have m0 : 0 ≤ 4 * (k : Int):=zz8
   have m1 : 0 ≤ 4 * (k : Int) + 1:=zz8
   have m2 : 0 ≤ 4 * (k : Int) + 2:=zz8
   have m3 : 0 ≤ 4 * (k : Int) + 3:=zz8
   go_wp2
   refine still_tail 30 (by kernel_rfl) (by kernel_rfl) ?_
   simp only [List.take_succ_cons,List.take_zero,List.drop_succ_cons,List.drop_zero]
   repeat still_step
   refine wpStill_nil ?_
   clear e0 e1 e2 e3
   have hc:=A5.cell (i:=k) (by rw [padz_len (by rw [sch_len]; omega)]; omega)
   have hf:=A5.frozen k
   have hl : k < 64:=zz8
   go_wp2
   go_roundw
   case rel =>
    refine ⟨k + 1,zz8,by go_num,((A2.setO (show w.heap.size ≠ w.heap.size + 1 + 1 by omega) _).drew),((A4.setO (show w.heap.size + 1 ≠ w.heap.size + 1 + 1 by omega) _).drew),?_,?_⟩
    ·rw [sch_low blk hlt, ← sch_put blk hl, ← word_at zz8]
     exact (A5.set k _).drew
    ·exact (hB.setCell (show w.heap.size ≤ w.heap.size + 1 + 1 by omega) _).drew
   case measure => simp [intOf]; omega
  ·have hke : k = 16:=by omega
   subst hke
   clear hlt hk
   go_wp2
   go_loopw [8] (fun i wr => ∃ k : Nat,16 ≤ k ∧ k ≤ 64 ∧ i = .int .i64 k ∧ Arr wr w.heap.size 218 s.l ∧ Arr wr (w.heap.size + 1) 218 (List.replicate 8 0) ∧ Arr wr (w.heap.size + 1 + 1) 220 (padz (sch blk k) 64) ∧ Below w.heap.size w wr) (fun i _ => 64 - (intOf i).toNat)
   case atStart => exact ⟨16,zz8,zz8,rfl,A2,A4,A5,hB⟩
   case round =>
    clear A2 A4 A5 hB
    obtain ⟨k,hk0,hk,rfl,A2,A4,A5,hB⟩:=hrel
    by_cases hlt : k < 64
    ·obtain ⟨x16,X16,hx16,c16⟩:=A5.word (i:=k - 16) zz8 zz8
     obtain ⟨x15,X15,hx15,c15⟩:=A5.word (i:=k - 15) zz8 zz8
     obtain ⟨x7,X7,hx7,c7⟩:=A5.word (i:=k - 7) zz8 zz8
     obtain ⟨x2,X2,hx2,c2⟩:=A5.word (i:=k - 2) zz8 zz8
     have HS : Hid (sch blk (k + 1) = sch blk k ++ [wsum x16 (sg0 x15) x7 (sg1 x2)]):=zd (by rw [sch_high blk zz8]; simp only [wnext,X16,X15,X7,X2])
     clear X16 X15 X7 X2
     have e16 : IntKind.i64.wrap ((k : Int) - 16) = (k : Int) - 16:=IntWalk.i64_in _ zz8
     have e15 : IntKind.i64.wrap ((k : Int) - 15) = (k : Int) - 15:=IntWalk.i64_in _ zz8
     have e7 : IntKind.i64.wrap ((k : Int) - 7) = (k : Int) - 7:=IntWalk.i64_in _ zz8
     have e2 : IntKind.i64.wrap ((k : Int) - 2) = (k : Int) - 2:=IntWalk.i64_in _ zz8
     have n16 : ((k : Int) - 16).toNat = k - 16:=zz8
     have n15 : ((k : Int) - 15).toNat = k - 15:=zz8
     have n7 : ((k : Int) - 7).toNat = k - 7:=zz8
     have n2 : ((k : Int) - 2).toNat = k - 2:=zz8
     have m16 : 0 ≤ (k : Int) - 16:=zz8
     have m15 : 0 ≤ (k : Int) - 15:=zz8
     have m7 : 0 ≤ (k : Int) - 7:=zz8
     have m2 : 0 ≤ (k : Int) - 2:=zz8
     have p16 : (16 : Int) ≤ k:=zz8
     have p15 : (15 : Int) ≤ k:=zz8
     have p7 : (7 : Int) ≤ k:=zz8
     have p2 : (2 : Int) ≤ k:=zz8
     have l16 : (k : Int) - 16 < 64:=zz8
     have l15 : (k : Int) - 15 < 64:=zz8
     have l7 : (k : Int) - 7 < 64:=zz8
     have l2 : (k : Int) - 2 < 64:=zz8
     obtain ⟨hx15a,hx15b⟩:=hx15
     obtain ⟨hx2a,hx2b⟩:=hx2
     go_wp2
     go_quiet (fail)
     go_wp2
     refine still_tail 32 (by kernel_rfl) (by kernel_rfl) ?_
     simp only [List.take_succ_cons,List.take_zero,List.drop_succ_cons,List.drop_zero]
     repeat still_step
     still_call (still_of (impl_turn 7 _ _ zz69 hx15a hx15b))
     repeat still_step
     still_call (still_of (impl_turn 18 _ _ zz69 hx15a hx15b))
     repeat still_step
     still_call (still_of (impl_turn 17 _ _ zz69 hx2a hx2b))
     repeat still_step
     still_call (still_of (impl_turn 19 _ _ zz69 hx2a hx2b))
     repeat still_step
     refine wpStill_nil ?_
     have hc:=A5.cell (i:=k) (by rw [padz_len (by rw [sch_len]; omega)]; omega)
     have hf:=A5.frozen k
     clear e16 e15 e7 e2 c16 c15 c7 c2 n16 n15 n7 n2 m16 m15 m7 m2 l16 l15 l7 l2 p16 p15 p7 p2
     go_wp2
     go_roundw
     case rel =>
      (repeat apply Exists.intro)
      refine ⟨⟨k + 1,zz8,zz8,by go_num,A2.setO (show w.heap.size ≠ w.heap.size + 1 + 1 by omega) _,A4.setO (show w.heap.size + 1 ≠ w.heap.size + 1 + 1 by omega) _,?_,?_⟩,rfl⟩
      ·rw [HS.out, ← sch_put blk hlt]
       simp only [wsum,sg0,sg1,xr]
       exact A5.set k _
      ·exact ((Below.drewN hB _).setCell (show w.heap.size ≤ w.heap.size + 1 + 1 by omega) _)
     case measure => simp [intOf]; omega
    ·have hke : k = 64:=by omega
     subst hke
     clear hlt hk hk0
     rw [show padz (sch blk 64) 64 = sch blk 64 from by unfold padz; rw [sch_len]; simp] at A5
     have hsz2:=hB.size
     have A5lt:=A5.lt
     go_wp2_with (refine wpList_load_row rfl 218 _ rfl w.heap.size rfl 218 #[.int .u32 s.a, .int .u32 s.b, .int .u32 s.c, .int .u32 s.d, .int .u32 s.e, .int .u32 s.f, .int .u32 s.g, .int .u32 s.h] (0,0) _ A2 Tryz.underlying218 rfl (by kernel_rfl) ?_)
     obtain ⟨V,hV⟩ : ∃ V,wr.heap.size = V:=⟨_,rfl⟩
     have AV : Arr (wr.alloc (.cells #[.int .u32 s.a, .int .u32 s.b, .int .u32 s.c, .int .u32 s.d, .int .u32 s.e, .int .u32 s.f, .int .u32 s.g, .int .u32 s.h] 218)) V 218 (rounds s (sch blk 64) 0).l:=arr_new hV.symm rfl
     replace A2:=A2.alloc (.cells #[.int .u32 s.a, .int .u32 s.b, .int .u32 s.c, .int .u32 s.d, .int .u32 s.e, .int .u32 s.f, .int .u32 s.g, .int .u32 s.h] 218)
     replace A4:=A4.alloc (.cells #[.int .u32 s.a, .int .u32 s.b, .int .u32 s.c, .int .u32 s.d, .int .u32 s.e, .int .u32 s.f, .int .u32 s.g, .int .u32 s.h] 218)
     replace A5:=A5.alloc (.cells #[.int .u32 s.a, .int .u32 s.b, .int .u32 s.c, .int .u32 s.d, .int .u32 s.e, .int .u32 s.f, .int .u32 s.g, .int .u32 s.h] 218)
     replace hB:=hB.alloc hsz2 (.cells #[.int .u32 s.a, .int .u32 s.b, .int .u32 s.c, .int .u32 s.d, .int .u32 s.e, .int .u32 s.f, .int .u32 s.g, .int .u32 s.h] 218)
     have hV3 : w.heap.size + 1 + 1 < V:=by rw [← hV]; exact A5lt
     rw [hV]
     replace hV:=zd hV
     generalize wr.alloc _ = W2 at A2 A4 A5 hB AV ⊢
     have HT2:=zd (hT.later hB)
     go_loopw [99] (fun i wr => ∃ k : Nat,k ≤ 64 ∧ i = .int .i64 k ∧ Arr wr w.heap.size 218 s.l ∧ Arr wr (w.heap.size + 1) 218 (List.replicate 8 0) ∧ Arr wr (w.heap.size + 1 + 1) 220 (sch blk 64) ∧ Arr wr V 218 (rounds s (sch blk 64) k).l ∧ Below w.heap.size w wr) (fun i _ => 64 - (intOf i).toNat)
     case atStart => exact ⟨0,zz8,rfl,A2,A4,A5,AV,hB⟩
     case round =>
      clear A2 A4 A5 hB AV HT2
      obtain ⟨k,hk,rfl,A2,A4,A5,AV,hB⟩:=hrel
      by_cases hlt : k < 64
      ·obtain ⟨hw,hwx,hww,cw⟩ : ∃ x,(sch blk 64).getD k 0 = x ∧ W32 x ∧ wr.cell? ⟨w.heap.size + 1 + 1,k,none⟩ = some (.int .u32 x):=⟨_,rfl,sch_w blk hlt,A5.at_ (by rw [sch_len]; exact hlt)⟩
       obtain ⟨kk,hkk,hkw,ck⟩ : ∃ x,shaKeys.getD k 0 = x ∧ W32 x ∧ wr.cell? ⟨1,k,none⟩ = some (.int .u32 x):=⟨_,rfl,keys_lt k hlt,(hT.later hB).1 k hlt⟩
       have HR : Hid (rounds s (sch blk 64) (k + 1) = rnd (rounds s (sch blk 64) k) kk hw):=zd (by simp only [rounds,hwx,hkk])
       clear hwx hkk
       have hro:=rounds_ok ⟨hs0,hs1,hs2,hs3,hs4,hs5,hs6,hs7⟩ (sch blk 64) k
       obtain ⟨r,hr⟩ : ∃ r,rounds s (sch blk 64) k = r:=⟨_,rfl⟩
       rw [hr] at AV HR hro
       clear hr
       obtain ⟨ra,rb,rc,rd_,re,rf,rg,rh⟩:=r
       obtain ⟨ha,hb_,hc_,hd,he,hf_,hg,hh⟩:=hro
       have v0:=AV.cell (i:=0) zz71
       have v1:=AV.cell (i:=1) zz71
       have v2:=AV.cell (i:=2) zz71
       have v3:=AV.cell (i:=3) zz71
       have v4:=AV.cell (i:=4) zz71
       have v5:=AV.cell (i:=5) zz71
       have v6:=AV.cell (i:=6) zz71
       have v7:=AV.cell (i:=7) zz71
       simp only [S8.l,List.getElem_cons_zero,List.getElem_cons_succ] at v0 v1 v2 v3 v4 v5 v6 v7
       change W32 ra at ha
       change W32 re at he
       obtain ⟨haa,hab⟩:=ha
       obtain ⟨hea,heb⟩:=he
       have hk64 : (k : Int) < 64:=zz8
       go_wp2
       go_quiet (fail)
       go_wp2
       go_quiet ((go_at_call 202; exact quiet_add_left (impl_turn _ _ _ zz69 hea heb)))
       go_wp2
       go_quiet ((go_at_call 202; exact quiet_add_left (impl_turn _ _ _ zz69 haa hab)))
       have hfz:=fun o => AV.frozen o
       go_wp2
       go_roundw
       case rel =>
        first | refine ⟨k + 1,zz8,by go_num,Arr.setO8 (A2.drewN _) zz8 _ _ _ _ _ _ _ _,Arr.setO8 (A4.drewN _) zz8 _ _ _ _ _ _ _ _,Arr.setO8 (A5.drewN _) zz8 _ _ _ _ _ _ _ _,?_,Below.set8 (Below.drewN hB _) zz8 _ _ _ _ _ _ _ _⟩ | ((repeat apply Exists.intro); refine ⟨⟨k + 1,zz8,by go_num,Arr.setO8 (A2.drewN _) zz8 _ _ _ _ _ _ _ _,Arr.setO8 (A4.drewN _) zz8 _ _ _ _ _ _ _ _,Arr.setO8 (A5.drewN _) zz8 _ _ _ _ _ _ _ _,?_,Below.set8 (Below.drewN hB _) zz8 _ _ _ _ _ _ _ _⟩,rfl⟩)
        rw [HR.out]
        simp only [rnd,tmpT,tmpU,up0,up1,chs,maj,xr,an, ← max32]
        exact Arr.set8 (AV.drewN _) _ _ _ _ _ _ _ _
       case measure => simp [intOf]; omega
      ·have hke : k = 64:=by omega
       subst hke
       clear hlt hk
       obtain ⟨r,hr⟩ : ∃ r,rounds s (sch blk 64) 64 = r:=⟨_,rfl⟩
       have HC : Hid (comp s blk = adds s r):=zd (by unfold comp; rw [hr])
       rw [hr] at AV
       clear hr
       have hsz3:=hB.size
       go_wp2
       have B2 : Arr wr w.heap.size 218 (addk s r 0):=A2
       clear A2
       go_loopw [185] (fun i wr => ∃ k : Nat,k ≤ 8 ∧ i = .int .i64 k ∧ Arr wr w.heap.size 218 (addk s r k) ∧ Arr wr (w.heap.size + 1) 218 (List.replicate 8 0) ∧ Arr wr V 218 r.l ∧ Below w.heap.size w wr) (fun i _ => 8 - (intOf i).toNat)
       case atStart => exact ⟨0,zz8,rfl,B2,A4,AV,hB⟩
       case round =>
        clear B2 A4 A5 AV hB hsz3
        obtain ⟨k,hk,rfl,A2,A4,AV,hB⟩:=hrel
        by_cases hlt : k < 8
        ·have c0 : wr.cell? ⟨w.heap.size,k,none⟩ = some (.int .u32 (s.l.getD k 0)):=by rw [← addk_get hlt]; exact A2.at_ (by rw [addk_len]; exact hlt)
         have c1 : wr.cell? ⟨V,k,none⟩ = some (.int .u32 (r.l.getD k 0)):=AV.at_ hlt
         have f0:=A2.frozen k
         have hs8:=zd (addk_set (s:=s) (r:=r) hlt)
         obtain ⟨x,hx⟩ : ∃ x,s.l.getD k 0 = x:=⟨_,rfl⟩
         obtain ⟨y,hy⟩ : ∃ y,r.l.getD k 0 = y:=⟨_,rfl⟩
         rw [hx] at c0 hs8
         rw [hy] at c1 hs8
         clear hx hy
         have hk8 : (k : Int) < 8:=zz8
         go_wp2
         refine still_tail 7 (by kernel_rfl) (by kernel_rfl) ?_
         simp only [List.take_succ_cons,List.take_zero,List.drop_succ_cons,List.drop_zero]
         repeat still_step
         refine wpStill_nil ?_
         go_wp2
         go_roundw
         case rel =>
          first | refine ⟨k + 1,zz8,by go_num,?_,A4.setO (show w.heap.size + 1 ≠ w.heap.size by omega) _,AV.setO (show V ≠ w.heap.size by omega) _,(hB.drew.setCell (Nat.le_refl _) _)⟩ | ((repeat apply Exists.intro); refine ⟨⟨k + 1,zz8,by go_num,?_,A4.setO (show w.heap.size + 1 ≠ w.heap.size by omega) _,AV.setO (show V ≠ w.heap.size by omega) _,(hB.drew.setCell (Nat.le_refl _) _)⟩,rfl⟩)
          rw [← hs8.out]
          exact A2.set k _
         case measure => simp [intOf]; omega
        ·have hke : k = 8:=by omega
         subst hke
         clear hlt hk
         rw [addk_all] at A2
         rw [← HC.out] at A2
         obtain ⟨⟨qa,qb,qc,qd,qe,qf,qg,qh⟩,hq⟩ : ∃ q,comp s blk = q:=⟨_,rfl⟩
         rw [hq] at A2
         have HQ:=zd hq
         clear hq
         have z0:=A4.cell (i:=0) zz32
         have z1:=A4.cell (i:=1) zz32
         have z2:=A4.cell (i:=2) zz32
         have z3:=A4.cell (i:=3) zz32
         have z4:=A4.cell (i:=4) zz32
         have z5:=A4.cell (i:=5) zz32
         have z6:=A4.cell (i:=6) zz32
         have z7:=A4.cell (i:=7) zz32
         simp only [List.getElem_replicate] at z0 z1 z2 z3 z4 z5 z6 z7
         have hfz:=fun o => A4.frozen o
         go_wp2_with (refine wpList_load_row rfl 218 _ rfl w.heap.size rfl 218 #[.int .u32 qa, .int .u32 qb, .int .u32 qc, .int .u32 qd, .int .u32 qe, .int .u32 qf, .int .u32 qg, .int .u32 qh] (0,0) _ A2 Tryz.underlying218 rfl (by kernel_rfl) ?_)
         refine bodyPost_ret (v:=.agg #[.int .u32 qa, .int .u32 qb, .int .u32 qc, .int .u32 qd, .int .u32 qe, .int .u32 qf, .int .u32 qg, .int .u32 qh]) ?_ rfl ⟨by rw [HQ.out]; rfl,Below.set8 hB zz8 _ _ _ _ _ _ _ _⟩
         exact results_cell_row rfl _ _ (w.heap.size + 1) 218 _ (0,0) _ rfl (Arr.set8 A4 qa qb qc qd qe qf qg qh) Tryz.underlying218 rfl (by kernel_rfl)
end Go.Proofs.YtgllafgpmenjjaaGreatDoor
namespace Go.Proofs.YtgllafgpmenjjaaGreatDoor
open Go.RowKit Lay Mk
theorem spec_l03Block (w : World) (s : S8) (hs : s.Ok) (blk : ByteArray) (hb : blk.size = 64)  : Calls Tryz.prog 177 #[.agg (arr s.l), .string blk, .agg (arr shaKeys)] w fun e w' => e = .returned (.agg (arr (comp s blk).l)) ∧ Below w.heap.size w w':=by
 have hbl : 64 ≤ blk.size:=zz8
 have HB:=zd hb; clear hb
 obtain ⟨hs0,hs1,hs2,hs3,hs4,hs5,hs6,hs7⟩:=hs
 rw [S8.arr]
 obtain ⟨KS,hKS⟩ : ∃ K,arr shaKeys = K:=⟨_,rfl⟩
 rw [hKS]
 replace hKS:=zd hKS
 go_enter Tryz.func177,Tryz.ntmps177
 go_wp2_with (first | (refine wpList_box rfl _ _ rfl rfl ?_) | (refine wpList_storeNew (cs:=arr (List.replicate 64 0)) rfl 220 _ _ rfl rfl rfl zz32 (by kernel_rfl) rfl (arr_one _) ?_))
 generalize hW : (((w.alloc (.cells #[_,_,_,_,_,_,_,_] _)).alloc (.cells KS _)).alloc (.cells #[_,_,_,_,_,_,_,_] _)).alloc _ = W
 have hWs : W.heap.size = w.heap.size + 1 + 1 + 1 + 1:=by rw [← hW]; simp
 have A2 : Arr W w.heap.size 218 s.l:=by
  rw [← hW]
  exact Arr.alloc (Arr.alloc (Arr.alloc (arr_new (l:=s.l) rfl rfl) _) _) _
 have AK : Arr W (w.heap.size + 1) 220 shaKeys:=by
  rw [← hW]
  exact Arr.alloc (Arr.alloc (arr_new (l:=shaKeys) (World.size_alloc _ _).symm hKS.out.symm) _) _
 have A4 : Arr W (w.heap.size + 1 + 1) 218 (List.replicate 8 0):=by
  rw [← hW]
  exact Arr.alloc (arr_new (l:=List.replicate 8 0) (by rw [World.size_alloc,World.size_alloc]) rfl) _
 have A5 : Arr W (w.heap.size + 1 + 1 + 1) 220 (padz (sch blk 0) 64):=by
  rw [← hW]
  exact arr_new (l:=padz (sch blk 0) 64) (by rw [World.size_alloc,World.size_alloc,World.size_alloc]) rfl
 have hWB : Below w.heap.size w W:=by
  rw [← hW]
  exact ((((Below.refl _ _).alloc (Nat.le_refl _) _).alloc zz32 _).alloc zz35 _).alloc zz35 _
 have hWs2 : w.heap.size + 1 + 1 + 1 + 1 ≤ W.heap.size:=zz8
 clear hW hWs
 go_loopw [8] (fun i wr => ∃ k : Nat,k ≤ 16 ∧ i = .int .i64 k ∧ Arr wr w.heap.size 218 s.l ∧ Arr wr (w.heap.size + 1) 220 shaKeys ∧ Arr wr (w.heap.size + 1 + 1) 218 (List.replicate 8 0) ∧ Arr wr (w.heap.size + 1 + 1 + 1) 220 (padz (sch blk k) 64) ∧ Below w.heap.size w wr) (fun i _ => 16 - (intOf i).toNat)
 case atStart => exact ⟨0,zz8,rfl,A2,AK,A4,A5,hWB⟩
 case round =>
  clear A2 AK A4 A5 hWB
  obtain ⟨k,hk,rfl,A2,AK,A4,A5,hB⟩:=hrel
  by_cases hlt : k < 16
  ·have e0 : IntKind.i64.wrap (4 * (k : Int)) = 4 * (k : Int):=IntWalk.i64_in _ zz8
   have e1 : IntKind.i64.wrap (4 * (k : Int) + 1) = 4 * (k : Int) + 1:=IntWalk.i64_in _ zz8
   have e2 : IntKind.i64.wrap (4 * (k : Int) + 2) = 4 * (k : Int) + 2:=IntWalk.i64_in _ zz8
   have e3 : IntKind.i64.wrap (4 * (k : Int) + 3) = 4 * (k : Int) + 3:=IntWalk.i64_in _ zz8
   have n0 : (4 * (k : Int)).toNat = 4 * k:=zz8
   have n1 : (4 * (k : Int) + 1).toNat = 4 * k + 1:=zz8
   have n2 : (4 * (k : Int) + 2).toNat = 4 * k + 2:=zz8
   have n3 : (4 * (k : Int) + 3).toNat = 4 * k + 3:=zz8
   have l0 : 4 * (k : Int) < blk.size:=zz8
   have l1 : 4 * (k : Int) + 1 < blk.size:=zz8
   have l2 : 4 * (k : Int) + 2 < blk.size:=zz8
   have l3 : 4 * (k : Int) + 3 < blk.size:=zz8
   have m0 : 0 ≤ 4 * (k : Int):=zz8
   have m1 : 0 ≤ 4 * (k : Int) + 1:=zz8
   have m2 : 0 ≤ 4 * (k : Int) + 2:=zz8
   have m3 : 0 ≤ 4 * (k : Int) + 3:=zz8
   go_wp2
   refine still_tail 30 (by kernel_rfl) (by kernel_rfl) ?_
   simp only [List.take_succ_cons,List.take_zero,List.drop_succ_cons,List.drop_zero]
   repeat still_step
   refine wpStill_nil ?_
   clear e0 e1 e2 e3
   have hc:=A5.cell (i:=k) (by rw [padz_len (by rw [sch_len]; omega)]; omega)
   have hf:=A5.frozen k
   have hl : k < 64:=zz8
   go_wp2
   go_roundw
   case rel =>
    refine ⟨k + 1,zz8,by go_num,((A2.setO (show w.heap.size ≠ w.heap.size + 1 + 1 + 1 by omega) _).drew),((AK.setO (show w.heap.size + 1 ≠ w.heap.size + 1 + 1 + 1 by omega) _).drew),((A4.setO (show w.heap.size + 1 + 1 ≠ w.heap.size + 1 + 1 + 1 by omega) _).drew),?_,?_⟩
    ·rw [sch_low blk hlt, ← sch_put blk hl, ← word_at zz8]
     exact (A5.set k _).drew
    ·exact (hB.setCell (show w.heap.size ≤ w.heap.size + 1 + 1 + 1 by omega) _).drew
   case measure => simp [intOf]; omega
  ·have hke : k = 16:=by omega
   subst hke
   clear hlt hk
   go_wp2
   go_loopw [9] (fun i wr => ∃ k : Nat,16 ≤ k ∧ k ≤ 64 ∧ i = .int .i64 k ∧ Arr wr w.heap.size 218 s.l ∧ Arr wr (w.heap.size + 1) 220 shaKeys ∧ Arr wr (w.heap.size + 1 + 1) 218 (List.replicate 8 0) ∧ Arr wr (w.heap.size + 1 + 1 + 1) 220 (padz (sch blk k) 64) ∧ Below w.heap.size w wr) (fun i _ => 64 - (intOf i).toNat)
   case atStart => exact ⟨16,zz8,zz8,rfl,A2,AK,A4,A5,hB⟩
   case round =>
    clear A2 AK A4 A5 hB
    obtain ⟨k,hk0,hk,rfl,A2,AK,A4,A5,hB⟩:=hrel
    by_cases hlt : k < 64
    ·obtain ⟨x16,X16,hx16,c16⟩:=A5.word (i:=k - 16) zz8 zz8
     obtain ⟨x15,X15,hx15,c15⟩:=A5.word (i:=k - 15) zz8 zz8
     obtain ⟨x7,X7,hx7,c7⟩:=A5.word (i:=k - 7) zz8 zz8
     obtain ⟨x2,X2,hx2,c2⟩:=A5.word (i:=k - 2) zz8 zz8
     have HS : Hid (sch blk (k + 1) = sch blk k ++ [wsum x16 (sg0 x15) x7 (sg1 x2)]):=zd (by rw [sch_high blk zz8]; simp only [wnext,X16,X15,X7,X2])
     clear X16 X15 X7 X2
     have e16 : IntKind.i64.wrap ((k : Int) - 16) = (k : Int) - 16:=IntWalk.i64_in _ zz8
     have e15 : IntKind.i64.wrap ((k : Int) - 15) = (k : Int) - 15:=IntWalk.i64_in _ zz8
     have e7 : IntKind.i64.wrap ((k : Int) - 7) = (k : Int) - 7:=IntWalk.i64_in _ zz8
     have e2 : IntKind.i64.wrap ((k : Int) - 2) = (k : Int) - 2:=IntWalk.i64_in _ zz8
     have n16 : ((k : Int) - 16).toNat = k - 16:=zz8
     have n15 : ((k : Int) - 15).toNat = k - 15:=zz8
     have n7 : ((k : Int) - 7).toNat = k - 7:=zz8
     have n2 : ((k : Int) - 2).toNat = k - 2:=zz8
     have m16 : 0 ≤ (k : Int) - 16:=zz8
     have m15 : 0 ≤ (k : Int) - 15:=zz8
     have m7 : 0 ≤ (k : Int) - 7:=zz8
     have m2 : 0 ≤ (k : Int) - 2:=zz8
     have p16 : (16 : Int) ≤ k:=zz8
     have p15 : (15 : Int) ≤ k:=zz8
     have p7 : (7 : Int) ≤ k:=zz8
     have p2 : (2 : Int) ≤ k:=zz8
     have l16 : (k : Int) - 16 < 64:=zz8
     have l15 : (k : Int) - 15 < 64:=zz8
     have l7 : (k : Int) - 7 < 64:=zz8
     have l2 : (k : Int) - 2 < 64:=zz8
     obtain ⟨hx15a,hx15b⟩:=hx15
     obtain ⟨hx2a,hx2b⟩:=hx2
     go_wp2
     go_quiet ((go_at_call 199; exact quiet_w (spec_turn _ _ _ zz69 hx15a hx15b)))
     go_wp2
     go_quiet ((go_at_call 199; exact quiet_add_left (spec_turn _ _ _ zz69 hx2a hx2b)))
     go_wp2
     refine still_tail 14 (by kernel_rfl) (by kernel_rfl) ?_
     simp only [List.take_succ_cons,List.take_zero,List.drop_succ_cons,List.drop_zero]
     repeat still_step
     refine wpStill_nil ?_
     have hc:=A5.cell (i:=k) (by rw [padz_len (by rw [sch_len]; omega)]; omega)
     have hf:=A5.frozen k
     clear e16 e15 e7 e2 c16 c15 c7 c2 n16 n15 n7 n2 m16 m15 m7 m2 l16 l15 l7 l2 p16 p15 p7 p2
     go_wp2
     go_roundw
     case rel =>
      (repeat apply Exists.intro)
      refine ⟨⟨k + 1,zz8,zz8,by go_num,A2.setO (show w.heap.size ≠ w.heap.size + 1 + 1 + 1 by omega) _,AK.setO (show w.heap.size + 1 ≠ w.heap.size + 1 + 1 + 1 by omega) _,A4.setO (show w.heap.size + 1 + 1 ≠ w.heap.size + 1 + 1 + 1 by omega) _,?_,?_⟩,rfl⟩
      ·rw [HS.out, ← sch_put blk hlt]
       simp only [wsum,sg0,sg1,xr]
       exact A5.set k _
      ·exact ((Below.drewN hB _).setCell (show w.heap.size ≤ w.heap.size + 1 + 1 + 1 by omega) _)
     case measure => simp [intOf]; omega
    ·have hke : k = 64:=by omega
     subst hke
     clear hlt hk hk0
     rw [show padz (sch blk 64) 64 = sch blk 64 from by unfold padz; rw [sch_len]; simp] at A5
     have hsz2:=hB.size
     have A5lt:=A5.lt
     go_wp2_with (refine wpList_load_row rfl 218 _ rfl w.heap.size rfl 218 #[.int .u32 s.a, .int .u32 s.b, .int .u32 s.c, .int .u32 s.d, .int .u32 s.e, .int .u32 s.f, .int .u32 s.g, .int .u32 s.h] (0,0) _ A2 Tryz.underlying218 rfl (by kernel_rfl) ?_)
     obtain ⟨V,hV⟩ : ∃ V,wr.heap.size = V:=⟨_,rfl⟩
     have AV : Arr (wr.alloc (.cells #[.int .u32 s.a, .int .u32 s.b, .int .u32 s.c, .int .u32 s.d, .int .u32 s.e, .int .u32 s.f, .int .u32 s.g, .int .u32 s.h] 218)) V 218 (rounds s (sch blk 64) 0).l:=arr_new hV.symm rfl
     replace A2:=A2.alloc (.cells #[.int .u32 s.a, .int .u32 s.b, .int .u32 s.c, .int .u32 s.d, .int .u32 s.e, .int .u32 s.f, .int .u32 s.g, .int .u32 s.h] 218)
     replace AK:=AK.alloc (.cells #[.int .u32 s.a, .int .u32 s.b, .int .u32 s.c, .int .u32 s.d, .int .u32 s.e, .int .u32 s.f, .int .u32 s.g, .int .u32 s.h] 218)
     replace A4:=A4.alloc (.cells #[.int .u32 s.a, .int .u32 s.b, .int .u32 s.c, .int .u32 s.d, .int .u32 s.e, .int .u32 s.f, .int .u32 s.g, .int .u32 s.h] 218)
     replace A5:=A5.alloc (.cells #[.int .u32 s.a, .int .u32 s.b, .int .u32 s.c, .int .u32 s.d, .int .u32 s.e, .int .u32 s.f, .int .u32 s.g, .int .u32 s.h] 218)
     replace hB:=hB.alloc hsz2 (.cells #[.int .u32 s.a, .int .u32 s.b, .int .u32 s.c, .int .u32 s.d, .int .u32 s.e, .int .u32 s.f, .int .u32 s.g, .int .u32 s.h] 218)
     have hV3 : w.heap.size + 1 + 1 + 1 < V:=by rw [← hV]; exact A5lt
     rw [hV]
     replace hV:=zd hV
     generalize wr.alloc _ = W2 at A2 AK A4 A5 hB AV ⊢
     go_loopw [13] (fun i wr => ∃ k : Nat,k ≤ 64 ∧ i = .int .i64 k ∧ Arr wr w.heap.size 218 s.l ∧ Arr wr (w.heap.size + 1) 220 shaKeys ∧ Arr wr (w.heap.size + 1 + 1) 218 (List.replicate 8 0) ∧ Arr wr (w.heap.size + 1 + 1 + 1) 220 (sch blk 64) ∧ Arr wr V 218 (rounds s (sch blk 64) k).l ∧ Below w.heap.size w wr) (fun i _ => 64 - (intOf i).toNat)
     case atStart => exact ⟨0,zz8,rfl,A2,AK,A4,A5,AV,hB⟩
     case round =>
      clear A2 AK A4 A5 hB AV
      obtain ⟨k,hk,rfl,A2,AK,A4,A5,AV,hB⟩:=hrel
      by_cases hlt : k < 64
      ·obtain ⟨hw,hwx,hww,cw⟩ : ∃ x,(sch blk 64).getD k 0 = x ∧ W32 x ∧ wr.cell? ⟨w.heap.size + 1 + 1 + 1,k,none⟩ = some (.int .u32 x):=⟨_,rfl,sch_w blk hlt,A5.at_ (by rw [sch_len]; exact hlt)⟩
       obtain ⟨kk,hkk,hkw,ck⟩ : ∃ x,shaKeys.getD k 0 = x ∧ W32 x ∧ wr.cell? ⟨w.heap.size + 1,k,none⟩ = some (.int .u32 x):=⟨_,rfl,keys_lt k hlt,AK.at_ hlt⟩
       have HR : Hid (rounds s (sch blk 64) (k + 1) = rnd (rounds s (sch blk 64) k) kk hw):=zd (by simp only [rounds,hwx,hkk])
       clear hwx hkk
       have hro:=rounds_ok ⟨hs0,hs1,hs2,hs3,hs4,hs5,hs6,hs7⟩ (sch blk 64) k
       obtain ⟨r,hr⟩ : ∃ r,rounds s (sch blk 64) k = r:=⟨_,rfl⟩
       rw [hr] at AV HR hro
       clear hr
       obtain ⟨ra,rb,rc,rd_,re,rf,rg,rh⟩:=r
       obtain ⟨ha,hb_,hc_,hd,he,hf_,hg,hh⟩:=hro
       have v0:=AV.cell (i:=0) zz71
       have v1:=AV.cell (i:=1) zz71
       have v2:=AV.cell (i:=2) zz71
       have v3:=AV.cell (i:=3) zz71
       have v4:=AV.cell (i:=4) zz71
       have v5:=AV.cell (i:=5) zz71
       have v6:=AV.cell (i:=6) zz71
       have v7:=AV.cell (i:=7) zz71
       simp only [S8.l,List.getElem_cons_zero,List.getElem_cons_succ] at v0 v1 v2 v3 v4 v5 v6 v7
       change W32 ra at ha
       change W32 re at he
       obtain ⟨haa,hab⟩:=ha
       obtain ⟨hea,heb⟩:=he
       have hk64 : (k : Int) < 64:=zz8
       have hfz:=fun o => AV.frozen o
       go_wp2
       go_quiet ((go_at_call 199; exact quiet_w (spec_turn _ _ _ zz69 hea heb)))
       go_wp2
       go_quiet (fail)
       go_wp2
       go_quiet ((go_at_call 199; exact quiet_add_left (spec_turn _ _ _ zz69 haa hab)))
       go_wp2
       go_roundw
       case rel =>
        first | refine ⟨k + 1,zz8,by go_num,Arr.setO8r (A2.drewN _) zz8 _ _ _ _ _ _ _ _,Arr.setO8r (AK.drewN _) zz8 _ _ _ _ _ _ _ _,Arr.setO8r (A4.drewN _) zz8 _ _ _ _ _ _ _ _,Arr.setO8r (A5.drewN _) zz8 _ _ _ _ _ _ _ _,?_,Below.set8r (Below.drewN hB _) zz8 _ _ _ _ _ _ _ _⟩ | ((repeat apply Exists.intro); refine ⟨⟨k + 1,zz8,by go_num,Arr.setO8r (A2.drewN _) zz8 _ _ _ _ _ _ _ _,Arr.setO8r (AK.drewN _) zz8 _ _ _ _ _ _ _ _,Arr.setO8r (A4.drewN _) zz8 _ _ _ _ _ _ _ _,Arr.setO8r (A5.drewN _) zz8 _ _ _ _ _ _ _ _,?_,Below.set8r (Below.drewN hB _) zz8 _ _ _ _ _ _ _ _⟩,rfl⟩)
        rw [HR.out]
        simp only [rnd,tmpT,tmpU,up0,up1,chs,maj,xr,an]
        exact Arr.set8r (AV.drewN _) _ _ _ _ _ _ _ _
       case measure => simp [intOf]; omega
      ·have hke : k = 64:=by omega
       subst hke
       clear hlt hk
       obtain ⟨r,hr⟩ : ∃ r,rounds s (sch blk 64) 64 = r:=⟨_,rfl⟩
       have HC : Hid (comp s blk = adds s r):=zd (by unfold comp; rw [hr])
       rw [hr] at AV
       clear hr
       have hsz3:=hB.size
       go_wp2
       have B2 : Arr wr w.heap.size 218 (addk s r 0):=A2
       clear A2
       go_loopw [20] (fun i wr => ∃ k : Nat,k ≤ 8 ∧ i = .int .i64 k ∧ Arr wr w.heap.size 218 (addk s r k) ∧ Arr wr (w.heap.size + 1 + 1) 218 (List.replicate 8 0) ∧ Arr wr V 218 r.l ∧ Below w.heap.size w wr) (fun i _ => 8 - (intOf i).toNat)
       case atStart => exact ⟨0,zz8,rfl,B2,A4,AV,hB⟩
       case round =>
        clear B2 A4 A5 AV hB hsz3
        obtain ⟨k,hk,rfl,A2,A4,AV,hB⟩:=hrel
        by_cases hlt : k < 8
        ·have c0 : wr.cell? ⟨w.heap.size,k,none⟩ = some (.int .u32 (s.l.getD k 0)):=by rw [← addk_get hlt]; exact A2.at_ (by rw [addk_len]; exact hlt)
         have c1 : wr.cell? ⟨V,k,none⟩ = some (.int .u32 (r.l.getD k 0)):=AV.at_ hlt
         have f0:=A2.frozen k
         have hs8:=zd (addk_set (s:=s) (r:=r) hlt)
         obtain ⟨x,hx⟩ : ∃ x,s.l.getD k 0 = x:=⟨_,rfl⟩
         obtain ⟨y,hy⟩ : ∃ y,r.l.getD k 0 = y:=⟨_,rfl⟩
         rw [hx] at c0 hs8
         rw [hy] at c1 hs8
         clear hx hy
         have hk8 : (k : Int) < 8:=zz8
         go_wp2
         refine still_tail 8 (by kernel_rfl) (by kernel_rfl) ?_
         simp only [List.take_succ_cons,List.take_zero,List.drop_succ_cons,List.drop_zero]
         repeat still_step
         refine wpStill_nil ?_
         go_wp2
         go_roundw
         case rel =>
          first | refine ⟨k + 1,zz8,by go_num,?_,A4.setO (show w.heap.size + 1 + 1 ≠ w.heap.size by omega) _,AV.setO (show V ≠ w.heap.size by omega) _,(hB.drew.setCell (Nat.le_refl _) _)⟩ | ((repeat apply Exists.intro); refine ⟨⟨k + 1,zz8,by go_num,?_,A4.setO (show w.heap.size + 1 + 1 ≠ w.heap.size by omega) _,AV.setO (show V ≠ w.heap.size by omega) _,(hB.drew.setCell (Nat.le_refl _) _)⟩,rfl⟩)
          rw [← hs8.out]
          exact A2.set k _
         case measure => simp [intOf]; omega
        ·have hke : k = 8:=by omega
         subst hke
         clear hlt hk
         rw [addk_all] at A2
         rw [← HC.out] at A2
         obtain ⟨⟨qa,qb,qc,qd,qe,qf,qg,qh⟩,hq⟩ : ∃ q,comp s blk = q:=⟨_,rfl⟩
         rw [hq] at A2
         have HQ:=zd hq
         clear hq
         have z0:=A4.cell (i:=0) zz32
         have z1:=A4.cell (i:=1) zz32
         have z2:=A4.cell (i:=2) zz32
         have z3:=A4.cell (i:=3) zz32
         have z4:=A4.cell (i:=4) zz32
         have z5:=A4.cell (i:=5) zz32
         have z6:=A4.cell (i:=6) zz32
         have z7:=A4.cell (i:=7) zz32
         simp only [List.getElem_replicate] at z0 z1 z2 z3 z4 z5 z6 z7
         have hfz:=fun o => A4.frozen o
         go_wp2_with (refine wpList_load_row rfl 218 _ rfl w.heap.size rfl 218 #[.int .u32 qa, .int .u32 qb, .int .u32 qc, .int .u32 qd, .int .u32 qe, .int .u32 qf, .int .u32 qg, .int .u32 qh] (0,0) _ A2 Tryz.underlying218 rfl (by kernel_rfl) ?_)
         refine bodyPost_ret (v:=.agg #[.int .u32 qa, .int .u32 qb, .int .u32 qc, .int .u32 qd, .int .u32 qe, .int .u32 qf, .int .u32 qg, .int .u32 qh]) ?_ rfl ⟨by rw [HQ.out]; rfl,Below.set8 hB zz8 _ _ _ _ _ _ _ _⟩
         exact results_cell_row rfl _ _ (w.heap.size + 1 + 1) 218 _ (0,0) _ rfl (Arr.set8 A4 qa qb qc qd qe qf qg qh) Tryz.underlying218 rfl (by kernel_rfl)
end Go.Proofs.YtgllafgpmenjjaaGreatDoor
