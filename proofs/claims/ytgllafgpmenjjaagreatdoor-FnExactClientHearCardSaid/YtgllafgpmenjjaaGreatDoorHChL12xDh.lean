/- A part of the proof. -/
import Derived.Deep.LoopGhost
import Derived.Test.YtgllafgpmenjjaaGreatDoorHChL11xDp
set_option linter.unusedVariables false
set_option linter.unusedSimpArgs false
set_option maxRecDepth 20000
set_option maxHeartbeats 4000000
namespace Go.Proofs.YtgllafgpmenjjaaGreatDoor
open Go.RowKit Lay Mk
def Tabs (w : World) : Prop:=(∀ i,i < 64 → w.cell? ⟨1,i,none⟩ = some (.int .u32 (shaKeys.getD i 0))) ∧ (∀ i,i < 8 → w.cell? ⟨0,i,none⟩ = some (.int .u32 (shaFirst.l.getD i 0)))
theorem quiet_add_left {P : Program} {f : FuncId} {args : Array Value} {w : World} {a n : Nat} {v : Value}
  (h : Calls P f args (w.drewN (a + n)) fun e w' => e = .returned v ∧ w.drewN (a + n) = w') :
  Calls P f args (w.drewN (a + n)) fun e w'' => e = .returned v ∧ ∃ m,w'' = w.drewN (a + m) :=
 h.mono fun _ _ ⟨he,hm⟩ => ⟨he,n,hm.symm⟩
theorem Arr.setO8 {w : World} {b V t : Nat} {l : List Int} (h : Arr w b t l) (hb : b ≠ V) (x0 x1 x2 x3 x4 x5 x6 x7 : Value) : Arr ((((((((w.setCell ⟨V,0,none⟩ x0).setCell ⟨V,1,none⟩ x1).setCell ⟨V,2,none⟩ x2).setCell ⟨V,3,none⟩ x3).setCell ⟨V,4,none⟩ x4).setCell ⟨V,5,none⟩ x5).setCell ⟨V,6,none⟩ x6).setCell ⟨V,7,none⟩ x7) b t l :=
 Arr.setO (Arr.setO (Arr.setO (Arr.setO (Arr.setO (Arr.setO (Arr.setO (Arr.setO h hb _) hb _) hb _) hb _) hb _) hb _) hb _) hb _
theorem Arr.set8 {w : World} {V t : Nat} {a b c d e f g h : Int} (H : Arr w V t [a,b,c,d,e,f,g,h]) (x0 x1 x2 x3 x4 x5 x6 x7 : Int) : Arr ((((((((w.setCell ⟨V,0,none⟩ (.int .u32 x0)).setCell ⟨V,1,none⟩ (.int .u32 x1)).setCell ⟨V,2,none⟩ (.int .u32 x2)).setCell ⟨V,3,none⟩ (.int .u32 x3)).setCell ⟨V,4,none⟩ (.int .u32 x4)).setCell ⟨V,5,none⟩ (.int .u32 x5)).setCell ⟨V,6,none⟩ (.int .u32 x6)).setCell ⟨V,7,none⟩ (.int .u32 x7)) V t [x0,x1,x2,x3,x4,x5,x6,x7] :=
 ((((((((H.set 0 x0).set 1 x1).set 2 x2).set 3 x3).set 4 x4).set 5 x5).set 6 x6).set 7 x7)
theorem Below.set8 {a w : World} {B V : Nat} (h : Below B a w) (hb : B ≤ V) (x0 x1 x2 x3 x4 x5 x6 x7 : Value) : Below B a ((((((((w.setCell ⟨V,0,none⟩ x0).setCell ⟨V,1,none⟩ x1).setCell ⟨V,2,none⟩ x2).setCell ⟨V,3,none⟩ x3).setCell ⟨V,4,none⟩ x4).setCell ⟨V,5,none⟩ x5).setCell ⟨V,6,none⟩ x6).setCell ⟨V,7,none⟩ x7) :=
 (((((((h.setCell hb _).setCell hb _).setCell hb _).setCell hb _).setCell hb _).setCell hb _).setCell hb _).setCell hb _
theorem max32 (x : Int) : bits .xor .u32 IntKind.u32.max x = bits .xor .u32 x 4294967295:=by
 show bits .xor .u32 4294967295 x = _
 unfold bits; simp only [BitVec.xor_comm]
theorem still_of {P : Program} {f : FuncId} {args : Array Value} {w : World} {v : Value} (h : Calls P f args w fun e w' => e = .returned v ∧ w = w') : Calls P f args w fun e w'' => e = .returned v ∧ w'' = w:=h.mono fun _ _ ⟨he,hm⟩ => ⟨he,hm.symm⟩
theorem Tabs.later {w w' : World} (h : Tabs w) (hb : Below w.heap.size w w') : Tabs w' :=
 ⟨fun i hi => (hb.cell (p:=⟨_,i,none⟩) (block_lt_of_cell (a:=⟨_,i,none⟩) (h.1 i hi))).trans (h.1 i hi),fun i hi => (hb.cell (p:=⟨_,i,none⟩) (block_lt_of_cell (a:=⟨_,i,none⟩) (h.2 i hi))).trans (h.2 i hi)⟩
theorem Arr.at_ {w : World} {b t : Nat} {l : List Int} (h : Arr w b t l) {i : Nat} (hi : i < l.length) : w.cell? ⟨b,i,none⟩ = some (.int .u32 (l.getD i 0)):=by rw [← getD_get hi]; exact h.cell hi
theorem sch_w (b : ByteArray) {k i : Nat} (h : i < k) : W32 ((sch b k).getD i 0):=by
 rw [← getD_get (by rw [sch_len]; exact h)]
 exact sch_lt b k _ (List.getElem_mem _)
theorem Arr.word {w : World} {b t k i : Nat} {blk : ByteArray} (h : Arr w b t (padz (sch blk k) 64)) (hk : k ≤ 64) (hi : i < k) : ∃ x,(sch blk k).getD i 0 = x ∧ W32 x ∧ w.cell? ⟨b,i,none⟩ = some (.int .u32 x):=by
 refine ⟨_,rfl,sch_w blk hi,?_⟩
 have:=h.at_ (i:=i) (by rw [padz_len (by rw [sch_len]; omega)]; omega)
 rw [padz_get (by rw [sch_len]; exact hi)] at this
 exact this
theorem S8.arr (s : S8) : arr s.l = #[.int .u32 s.a, .int .u32 s.b, .int .u32 s.c, .int .u32 s.d, .int .u32 s.e, .int .u32 s.f, .int .u32 s.g, .int .u32 s.h]:=rfl
theorem Arr.set8r {w : World} {V t : Nat} {a b c d e f g h : Int} (H : Arr w V t [a,b,c,d,e,f,g,h]) (x0 x1 x2 x3 x4 x5 x6 x7 : Int) : Arr ((((((((w.setCell ⟨V,7,none⟩ (.int .u32 x7)).setCell ⟨V,6,none⟩ (.int .u32 x6)).setCell ⟨V,5,none⟩ (.int .u32 x5)).setCell ⟨V,4,none⟩ (.int .u32 x4)).setCell ⟨V,3,none⟩ (.int .u32 x3)).setCell ⟨V,2,none⟩ (.int .u32 x2)).setCell ⟨V,1,none⟩ (.int .u32 x1)).setCell ⟨V,0,none⟩ (.int .u32 x0)) V t [x0,x1,x2,x3,x4,x5,x6,x7] :=
 ((((((((H.set 7 x7).set 6 x6).set 5 x5).set 4 x4).set 3 x3).set 2 x2).set 1 x1).set 0 x0)
theorem Arr.setO8r {w : World} {b V t : Nat} {l : List Int} (h : Arr w b t l) (hb : b ≠ V) (x0 x1 x2 x3 x4 x5 x6 x7 : Value) : Arr ((((((((w.setCell ⟨V,7,none⟩ x7).setCell ⟨V,6,none⟩ x6).setCell ⟨V,5,none⟩ x5).setCell ⟨V,4,none⟩ x4).setCell ⟨V,3,none⟩ x3).setCell ⟨V,2,none⟩ x2).setCell ⟨V,1,none⟩ x1).setCell ⟨V,0,none⟩ x0) b t l :=
 Arr.setO (Arr.setO (Arr.setO (Arr.setO (Arr.setO (Arr.setO (Arr.setO (Arr.setO h hb _) hb _) hb _) hb _) hb _) hb _) hb _) hb _
theorem Below.set8r {a w : World} {B V : Nat} (h : Below B a w) (hb : B ≤ V) (x0 x1 x2 x3 x4 x5 x6 x7 : Value) : Below B a ((((((((w.setCell ⟨V,7,none⟩ x7).setCell ⟨V,6,none⟩ x6).setCell ⟨V,5,none⟩ x5).setCell ⟨V,4,none⟩ x4).setCell ⟨V,3,none⟩ x3).setCell ⟨V,2,none⟩ x2).setCell ⟨V,1,none⟩ x1).setCell ⟨V,0,none⟩ x0) :=
 (((((((h.setCell hb _).setCell hb _).setCell hb _).setCell hb _).setCell hb _).setCell hb _).setCell hb _).setCell hb _
end Go.Proofs.YtgllafgpmenjjaaGreatDoor
namespace Go.Proofs.YtgllafgpmenjjaaGreatDoor
open Go.RowKit Lay Mk
theorem mapT_snoc {α β : Type} (g : α → β) {l : List α} {k : Nat} (h : k < l.length) : (l.take (k + 1)).map g = (l.take k).map g ++ [g l[k]]:=by
 rw [List.take_succ_eq_append_getElem h,List.map_append]; rfl
def headL (xs : List Seal) : List Head:=xs.map (fun s => s.head)
theorem impl_headsOf (w : World) (xs : List Seal) (A : Option Addr) (cap : Nat) (S : Blks) (hx : Row false w A cap xs S) (hl : xs.length ≤ 1048576) : Calls Tryz.prog 55 #[.slice A xs.length cap] w (OwnRes (headL xs) w):=by
 go_enter Tryz.func55,Tryz.ntmps55
 go_wp2
 have HO:=zd (Own.start (α:=Head) (Below.refl w.heap.size w))
 go_loopw [3,8] (fun u i wr => ∃ (k : Nat) (L : List Head) (A2 : Option Addr) (c : Nat),k ≤ xs.length ∧ i = .int .i64 k ∧ u = .slice A2 L.length c ∧ Hid (L = (xs.take k).map (fun s => s.head)) ∧ L.length ≤ k ∧ Own w wr A2 c L) (fun _ i _ => xs.length - (intOf i).toNat)
 case atStart => exact ⟨0, [],none,0,zz8,rfl,rfl,zd rfl,zz32,HO.out⟩
 case round =>
  clear HO
  obtain ⟨k,L,A2,c,hk,rfl,rfl,HL,hLk,hown⟩:=hrel
  have hb:=hown.bl
  have HOW:=zd hown
  by_cases hlt : k < xs.length
  ·obtain ⟨b1,o1,cc,T1,rfl,hl1,ha,hr,_,_⟩:=Row.at_ hx hlt
   replace ha:=ha.keep (hb.block b1 hl1)
   have HN : Hid ((xs.take (k + 1)).map (fun s => s.head) = L ++ [(xs[k]).head]):=zd (by rw [mapT_snoc _ hlt,HL.out])
   obtain ⟨s,hs⟩ : ∃ s,xs[k] = s:=⟨_,rfl⟩
   rw [hs] at hr HN
   clear hs
   obtain ⟨D0,m0,U0,D1,m1,U1,D2,m2,U2,rfl,f0,f1,f2,f3, -⟩:=Seal.open hr
   have hok : Flat.ok s.head:=(⟨f0,f1,f2,f3⟩ : I64 s.head.house ∧ I64 s.head.epoch ∧ s.head.root.size ≤ maxLen ∧ s.head.prev.size ≤ maxLen)
   clear hr
   rw [show Lay.n Seal = 8 from rfl] at ha
   have e0:=ha 0 _ rfl
   have e1:=ha 1 _ rfl
   have e2:=ha 2 _ rfl
   have e3:=ha 3 _ rfl
   have e4:=ha 4 _ rfl
   have e5:=ha 5 _ rfl
   have e6:=ha 6 _ rfl
   have e7:=ha 7 _ rfl
   simp only [Nat.add_zero] at e0
   have hl3 : b1 < wr.heap.size:=Nat.lt_of_lt_of_le hl1 hb.size
   clear ha hown hb f0 f1 f2 f3
   go_wp2_with (at_builtin; refine wpList_push (α:=Head) rfl _ _ rfl rfl rfl ((HOW.out.alloc _).alloc _) rfl rfl (src1 hok zz66 rfl) zz8 ?_; intro A6 c6 w6 o6 z6)
   go_roundw
   case rel => exact ⟨k + 1,L ++ [s.head],A6,c6,hlt,by go_num,zz32,zd HN.out.symm,zz35,o6⟩
   case measure => simp [intOf]; omega
  ·have HE : Hid (headL xs = L):=zd (by unfold headL; rw [HL.out,List.take_of_length_le zz8])
   clear hown hb
   go_wp2
   go_ret
   exact OwnRes.mk HOW.out HE.out rfl
end Go.Proofs.YtgllafgpmenjjaaGreatDoor
