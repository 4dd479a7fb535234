/- A part of the proof. -/
import Derived.Deep.LoopGhost
import Derived.Test.YtlfnmbcnehaikaaGreatDoorHApL11xDp
set_option linter.unusedVariables false
set_option linter.unusedSimpArgs false
set_option maxRecDepth 20000
set_option maxHeartbeats 8000000
namespace Go.Proofs.YtlfnmbcnehaikaaGreatDoor
open Go.RowKit Lay Mk
def Tabs (w : World) : Prop:=(∀ i,i < 64 → w.cell? ⟨1,i,none⟩ = some (.int .u32 (shaKeys.getD i 0))) ∧ (∀ i,i < 8 → w.cell? ⟨0,i,none⟩ = some (.int .u32 (shaFirst.l.getD i 0)))
theorem quiet_add_left {P : Program} {f : FuncId} {args : Array Value} {w : World} {a n : Nat} {v : Value}
  (h : Calls P f args (w.drewN (a + n)) fun e w' => e = .returned v ∧ w.drewN (a + n) = w') :
  Calls P f args (w.drewN (a + n)) fun e w'' => e = .returned v ∧ ∃ m,w'' = w.drewN (a + m) :=
 h.mono fun _ _ ⟨he,hm⟩ => ⟨he,n,hm.symm⟩
theorem Arr.setO8 {w : World} {b V t : Nat} {l : List Int} (h : Arr w b t l) (hb : b ≠ V) (x0 x1 x2 x3 x4 x5 x6 x7 : Value) : Arr ((((((((w.setCell ⟨V,0,none⟩ x0).setCell ⟨V,1,none⟩ x1).setCell ⟨V,2,none⟩ x2).setCell ⟨V,3,none⟩ x3).setCell ⟨V,4,none⟩ x4).setCell ⟨V,5,none⟩ x5).setCell ⟨V,6,none⟩ x6).setCell ⟨V,7,none⟩ x7) b t l :=
 Arr.setO (Arr.setO (Arr.setO (Arr.setO (Arr.setO (Arr.setO (Arr.setO (Arr.setO h hb _) hb _) hb _) hb _) hb _) hb _) hb _) hb _
theorem Arr.set8 {w : World} {V t : Nat} {a b c d e f g h : Int} (H : Arr w V t [a,b,c,d,e,f,g,h]) (x0 x1 x2 x3 x4 x5 x6 x7 : Int) : Arr ((((((((w.setCell ⟨V,0,none⟩ (.int .u32 x0)).setCell ⟨V,1,none⟩ (.int .u32 x1)).setCell ⟨V,2,none⟩ (.int .u32 x2)).setCell ⟨V,3,none⟩ (.int .u32 x3)).setCell ⟨V,4,none⟩ (.int .u32 x4)).setCell ⟨V,5,none⟩ (.int .u32 x5)).setCell ⟨V,6,none⟩ (.int .u32 x6)).setCell ⟨V,7,none⟩ (.int .u32 x7)) V t [x0,x1,x2,x3,x4,x5,x6,x7] :=
 ((((((((H.set 0 x0).set 1 x1).set 2 x2).set 3 x3).set 4 x4).set 5 x5).set 6 x6).set 7 x7)
theorem Below.set8 {a w : World} {B V : Nat} (h : Below B a w) (hb : B ≤ V) (x0 x1 x2 x3 x4 x5 x6 x7 : Value) : Below B a ((((((((w.setCell ⟨V,0,none⟩ x0).setCell ⟨V,1,none⟩ x1).setCell ⟨V,2,none⟩ x2).setCell ⟨V,3,none⟩ x3).setCell ⟨V,4,none⟩ x4).setCell ⟨V,5,none⟩ x5).setCell ⟨V,6,none⟩ x6).setCell ⟨V,7,none⟩ x7) :=
 (((((((h.setCell hb _).setCell hb _).setCell hb _).setCell hb _).setCell hb _).setCell hb _).setCell hb _).setCell hb _
theorem max32 (x : Int) : bits .xor .u32 IntKind.u32.max x = bits .xor .u32 x 4294967295:=by
 show bits .xor .u32 4294967295 x = _
 unfold bits; simp only [BitVec.xor_comm]
theorem still_of {P : Program} {f : FuncId} {args : Array Value} {w : World} {v : Value} (h : Calls P f args w fun e w' => e = .returned v ∧ w = w') : Calls P f args w fun e w'' => e = .returned v ∧ w'' = w:=h.mono fun _ _ ⟨he,hm⟩ => ⟨he,hm.symm⟩
theorem Tabs.later {w w' : World} (h : Tabs w) (hb : Below w.heap.size w w') : Tabs w' :=
 ⟨fun i hi => (hb.cell (p:=⟨_,i,none⟩) (block_lt_of_cell (a:=⟨_,i,none⟩) (h.1 i hi))).trans (h.1 i hi),fun i hi => (hb.cell (p:=⟨_,i,none⟩) (block_lt_of_cell (a:=⟨_,i,none⟩) (h.2 i hi))).trans (h.2 i hi)⟩
theorem Arr.at_ {w : World} {b t : Nat} {l : List Int} (h : Arr w b t l) {i : Nat} (hi : i < l.length) : w.cell? ⟨b,i,none⟩ = some (.int .u32 (l.getD i 0)):=by rw [← getD_get hi]; exact h.cell hi
theorem sch_w (b : ByteArray) {k i : Nat} (h : i < k) : W32 ((sch b k).getD i 0):=by
 rw [← getD_get (by rw [sch_len]; exact h)]
 exact sch_lt b k _ (List.getElem_mem _)
theorem Arr.word {w : World} {b t k i : Nat} {blk : ByteArray} (h : Arr w b t (padz (sch blk k) 64)) (hk : k ≤ 64) (hi : i < k) : ∃ x,(sch blk k).getD i 0 = x ∧ W32 x ∧ w.cell? ⟨b,i,none⟩ = some (.int .u32 x):=by
 refine ⟨_,rfl,sch_w blk hi,?_⟩
 have:=h.at_ (i:=i) (by rw [padz_len (by rw [sch_len]; omega)]; omega)
 rw [padz_get (by rw [sch_len]; exact hi)] at this
 exact this
theorem S8.arr (s : S8) : arr s.l = #[.int .u32 s.a, .int .u32 s.b, .int .u32 s.c, .int .u32 s.d, .int .u32 s.e, .int .u32 s.f, .int .u32 s.g, .int .u32 s.h]:=rfl
theorem Arr.set8r {w : World} {V t : Nat} {a b c d e f g h : Int} (H : Arr w V t [a,b,c,d,e,f,g,h]) (x0 x1 x2 x3 x4 x5 x6 x7 : Int) : Arr ((((((((w.setCell ⟨V,7,none⟩ (.int .u32 x7)).setCell ⟨V,6,none⟩ (.int .u32 x6)).setCell ⟨V,5,none⟩ (.int .u32 x5)).setCell ⟨V,4,none⟩ (.int .u32 x4)).setCell ⟨V,3,none⟩ (.int .u32 x3)).setCell ⟨V,2,none⟩ (.int .u32 x2)).setCell ⟨V,1,none⟩ (.int .u32 x1)).setCell ⟨V,0,none⟩ (.int .u32 x0)) V t [x0,x1,x2,x3,x4,x5,x6,x7] :=
 ((((((((H.set 7 x7).set 6 x6).set 5 x5).set 4 x4).set 3 x3).set 2 x2).set 1 x1).set 0 x0)
theorem Arr.setO8r {w : World} {b V t : Nat} {l : List Int} (h : Arr w b t l) (hb : b ≠ V) (x0 x1 x2 x3 x4 x5 x6 x7 : Value) : Arr ((((((((w.setCell ⟨V,7,none⟩ x7).setCell ⟨V,6,none⟩ x6).setCell ⟨V,5,none⟩ x5).setCell ⟨V,4,none⟩ x4).setCell ⟨V,3,none⟩ x3).setCell ⟨V,2,none⟩ x2).setCell ⟨V,1,none⟩ x1).setCell ⟨V,0,none⟩ x0) b t l :=
 Arr.setO (Arr.setO (Arr.setO (Arr.setO (Arr.setO (Arr.setO (Arr.setO (Arr.setO h hb _) hb _) hb _) hb _) hb _) hb _) hb _) hb _
theorem Below.set8r {a w : World} {B V : Nat} (h : Below B a w) (hb : B ≤ V) (x0 x1 x2 x3 x4 x5 x6 x7 : Value) : Below B a ((((((((w.setCell ⟨V,7,none⟩ x7).setCell ⟨V,6,none⟩ x6).setCell ⟨V,5,none⟩ x5).setCell ⟨V,4,none⟩ x4).setCell ⟨V,3,none⟩ x3).setCell ⟨V,2,none⟩ x2).setCell ⟨V,1,none⟩ x1).setCell ⟨V,0,none⟩ x0) :=
 (((((((h.setCell hb _).setCell hb _).setCell hb _).setCell hb _).setCell hb _).setCell hb _).setCell hb _).setCell hb _
end Go.Proofs.YtlfnmbcnehaikaaGreatDoor
namespace Go.Proofs.YtlfnmbcnehaikaaGreatDoor
open Go.RowKit Lay Mk
theorem spec_ReadVar (w : World) (t : ByteArray) (ht : t.size ≤ 1048576) (a : Nat) (ha : a ≤ t.size) : Calls Tryz.prog 172 #[.string t, .int .i64 a] w fun e w' => e = .returned (rvV (rdVar t a)) ∧ Below w.heap.size w w':=by
 have hin : inB a 0 t.size = true:=by unfold inB; rw [decide_eq_true_iff]; omega
 have H0 : Hid (rdVar t a = rdGo t a 5 0 0):=zd rfl
 obtain ⟨R,hR⟩ : ∃ R,rdVar t a = R:=⟨_,rfl⟩
 rw [hR] at H0 ⊢
 clear hR
 have hw5 : IntKind.i64.wrap ((a : Int) + 5) = (a : Int) + 5:=zz16
 go_enter Tryz.func172,Tryz.ntmps172
 go_wp2_with (go_at_call 48; refine (spec_in _ _ _ _).mono ?_; rintro e w' ⟨rfl,rfl⟩)
 clear hin
 go_loopw [7,8,9] (fun n c i wr => ∃ k m : Nat,k ≤ 5 ∧ a + k ≤ t.size ∧ n = .int .i64 m ∧ c = .int .i64 ((128 ^ k : Nat) : Int) ∧ i = .int .i64 ((a + k : Nat) : Int) ∧ Hid (Pre t a k m) ∧ Hid (R = rdGo t a (5 - k) k m) ∧ Below w.heap.size w wr) (fun _ _ i _ => 5 + a - (intOf i).toNat)
 case atStart => exact ⟨0,0,zz4,zz4,rfl,rfl,rfl,zd (Pre.start ha),H0,Below.refl _ _⟩
 case round =>
  obtain ⟨k,m,hk,hak,rfl,rfl,rfl,HP,hR,hB⟩:=hrel
  have hz:=hB.size
  clear H0
  rcases (show k = 5 ∨ k = 4 ∨ k = 3 ∨ k = 2 ∨ k = 1 ∨ k = 0 by omega) with rfl | rfl | rfl | rfl | rfl | rfl
  ·have HE : Hid (R = none):=zd (hR.out.trans (rdGo_end _ _ _ _))
   clear hR
   simp only [Int.natCast_add] at *
   by_cases h5 : a + 5 < t.size
   ·have hlz : (a : Int) + 5 < (t.size : Int):=by omega
    go_wp2
    refine bodyPost_ret (v:=.tuple #[.int .i64 0, .int .i64 0, .bool false]) (by simp [results,Tryz.results172,go_sem, *]) rfl ?_
    exact ⟨zz40,hB⟩
   ·have hlz : ¬ (a : Int) + 5 < (t.size : Int):=by omega
    go_wp2
    refine bodyPost_ret (v:=.tuple #[.int .i64 0, .int .i64 0, .bool false]) (by simp [results,Tryz.results172,go_sem, *]) rfl ?_
    exact ⟨zz40,hB⟩
  ·have hm : m < 268435456:=HP.out.lt
   have hwk : IntKind.i64.wrap ((a : Int) + 4) = (a : Int) + 4:=zz16
   have hwl : IntKind.i64.wrap ((a : Int) + 4 + 1) = (a : Int) + 4 + 1:=zz16
   have hei : (((a + 4 : Nat) : Nat) : Int) = (a : Int) + 4:=zz4
   have hep : ((128 ^ 4 : Nat) : Int) = 268435456:=zz44
   rw [hei,hep]
   clear hei hep
   by_cases hlt : a + 4 < t.size
   rotate_left
   ·have HE : Hid (R = none):=zd (hR.out.trans (rdGo_out hlt))
    clear hR
    go_wp2
    refine bodyPost_ret (v:=.tuple #[.int .i64 0, .int .i64 0, .bool false]) (by simp [results,Tryz.results172,go_sem, *]) rfl ?_
    exact ⟨zz40,hB⟩
   have HM:=zd (fun h => hR.out.trans (rdGo_more (f:=0) (n:=m) hlt h))
   have HB:=zd (fun h1 h2 => hR.out.trans (rdGo_bad (f:=0) (n:=m) hlt h1 h2))
   have HG:=zd (fun h1 h2 => hR.out.trans (rdGo_good (f:=0) (n:=m) hlt h1 h2))
   have HS:=zd (fun h => HP.out.step hlt h)
   have HL:=zd (fun h => HP.out.last hlt h)
   have hb : t[a + 4].toNat < 256:=t[a + 4].toNat_lt
   have hlz : (a : Int) + 4 < (t.size : Int):=zz4
   have hl5 : (a : Int) + 4 < (a : Int) + 5:=zz4
   clear hR HP
   by_cases h128 : t[a + 4].toNat < 128
   rotate_left
   ·have HE:=zd (HM.out h128)
    have HP2:=zd (HS.out h128)
    clear HM HB HG HS HL
    go_wp2
    go_roundw
    case rel => exact ⟨5,m + t[a + 4].toNat % 128 * 268435456,zz4,zz4,congrArg (Value.int .i64) zz4,congrArg (Value.int .i64) zz44,congrArg (Value.int .i64) zz4,zd HP2.out,zd HE.out,hB⟩
    case measure => first | (simp [intOf]; done) | (simp [intOf]; omega)
   clear HM HS
   go_wp2_with (fail)
   obtain ⟨M,hM⟩ : ∃ M : Nat,M = m + t[a + 4].toNat % 128 * 268435456:=⟨_,rfl⟩
   have hMi : (m : Int) + (t[a + 4].toNat : Int) % 128 * 268435456 = (M : Int):=zz4
   rw [hMi]
   clear hMi
   have HMM:=zd hM
   have hs1 : (a : Int) ≤ (a : Int) + 4 + 1:=zz4
   have hs2 : (a : Int) + 4 + 1 ≤ (t.size : Int):=zz4
   clear hM
   by_cases hn : 1000000000 < M
   ·have HE : Hid (R = none):=zd (HB.out h128 (.inr (by rw [← show M = m + t[a + 4].toNat % 128 * 128 ^ 4 from HMM.out]; exact hn)))
    clear HB HG HL
    have dn : decide ((1000000000 : Int) < (M : Int)) = true:=zz47
    refine ya0 (by kernel_rfl) (by kernel_rfl) ?_
    repeat (go_big_quiet_step (first | fail))
    refine wpQuiet_nil ?_
    intro w7 hw_
    have hB7:=ya5 hw_
    clear hw_
    go_wp2
    refine bodyPost_ret (v:=.tuple #[.int .i64 0, .int .i64 0, .bool false]) (by simp [results,Tryz.results172,go_sem, *]) rfl ?_
    exact ⟨zz40,hB.trans (hB7.mono hz)⟩
   have dn : decide ((1000000000 : Int) < (M : Int)) = false:=zz21
   have HV:=zd (fun W => spec_l01Var M W zz4)
   have HL2 : Hid (varT M = t.extract a (a + 4 + 1) ↔ ¬ (t[a + 4].toNat = 0 ∧ 0 < 4)):=zd (by rw [HMM.out]; exact HL.out h128)
   obtain ⟨E,hE⟩ : ∃ E,t.extract a (a + 4 + 1) = E:=⟨_,rfl⟩
   obtain ⟨V,hV⟩ : ∃ V,varT M = V:=⟨_,rfl⟩
   rw [hE,hV] at HL2
   rw [hV] at HV
   have HQ:=zd (str_dec V E)
   clear hV HL
   by_cases h0 : t[a + 4].toNat = 0 ∧ 0 < 4
   ·have HE : Hid (R = none):=zd (HB.out h128 (.inl h0))
    have hcmp : (V.toList == E.toList) = false:=by rw [HQ.out]; exact decide_eq_false (fun e => HL2.out.1 e h0)
    clear HB HG
    refine ya0 (by kernel_rfl) (by kernel_rfl) ?_
    repeat (go_big_quiet_step (first | (go_at_call 109; with_reducible exact ya4 (HV.out _))))
    refine wpQuiet_nil ?_
    intro w7 hw_
    have hB7:=ya5 hw_
    clear hw_
    go_wp2
    refine bodyPost_ret (v:=.tuple #[.int .i64 0, .int .i64 0, .bool false]) (by simp [results,Tryz.results172,go_sem, *]) rfl ?_
    exact ⟨zz40,hB.trans (hB7.mono hz)⟩
   ·have HE:=zd (HG.out h128 (by rintro (hh | hh); exact h0 hh; exact hn (by rw [show M = m + t[a + 4].toNat % 128 * 128 ^ 4 from HMM.out]; exact hh)))
    have hcmp : (V.toList == E.toList) = true:=by rw [HQ.out]; exact decide_eq_true (HL2.out.2 h0)
    clear HB HG
    refine ya0 (by kernel_rfl) (by kernel_rfl) ?_
    repeat (go_big_quiet_step (first | (go_at_call 109; with_reducible exact ya4 (HV.out _))))
    refine wpQuiet_nil ?_
    intro w7 hw_
    have hB7:=ya5 hw_
    clear hw_
    go_wp2
    refine bodyPost_ret (v:=.tuple #[.int .i64 (M : Int), .int .i64 ((a : Int) + 4 + 1), .bool true]) (by simp [results,Tryz.results172,go_sem, *]) rfl ?_
    exact ⟨zz51,hB.trans (hB7.mono hz)⟩
  ·have hm : m < 2097152:=HP.out.lt
   have hwk : IntKind.i64.wrap ((a : Int) + 3) = (a : Int) + 3:=zz16
   have hwl : IntKind.i64.wrap ((a : Int) + 3 + 1) = (a : Int) + 3 + 1:=zz16
   have hei : (((a + 3 : Nat) : Nat) : Int) = (a : Int) + 3:=zz4
   have hep : ((128 ^ 3 : Nat) : Int) = 2097152:=zz44
   rw [hei,hep]
   clear hei hep
   by_cases hlt : a + 3 < t.size
   rotate_left
   ·have HE : Hid (R = none):=zd (hR.out.trans (rdGo_out hlt))
    clear hR
    go_wp2
    refine bodyPost_ret (v:=.tuple #[.int .i64 0, .int .i64 0, .bool false]) (by simp [results,Tryz.results172,go_sem, *]) rfl ?_
    exact ⟨zz40,hB⟩
   have HM:=zd (fun h => hR.out.trans (rdGo_more (f:=1) (n:=m) hlt h))
   have HB:=zd (fun h1 h2 => hR.out.trans (rdGo_bad (f:=1) (n:=m) hlt h1 h2))
   have HG:=zd (fun h1 h2 => hR.out.trans (rdGo_good (f:=1) (n:=m) hlt h1 h2))
   have HS:=zd (fun h => HP.out.step hlt h)
   have HL:=zd (fun h => HP.out.last hlt h)
   have hb : t[a + 3].toNat < 256:=t[a + 3].toNat_lt
   have hlz : (a : Int) + 3 < (t.size : Int):=zz4
   have hl5 : (a : Int) + 3 < (a : Int) + 5:=zz4
   clear hR HP
   by_cases h128 : t[a + 3].toNat < 128
   rotate_left
   ·have HE:=zd (HM.out h128)
    have HP2:=zd (HS.out h128)
    clear HM HB HG HS HL
    go_wp2
    go_roundw
    case rel => exact ⟨4,m + t[a + 3].toNat % 128 * 2097152,zz4,zz4,congrArg (Value.int .i64) zz4,congrArg (Value.int .i64) zz44,congrArg (Value.int .i64) zz4,zd HP2.out,zd HE.out,hB⟩
    case measure => first | (simp [intOf]; done) | (simp [intOf]; omega)
   clear HM HS
   go_wp2_with (fail)
   obtain ⟨M,hM⟩ : ∃ M : Nat,M = m + t[a + 3].toNat % 128 * 2097152:=⟨_,rfl⟩
   have hMi : (m : Int) + (t[a + 3].toNat : Int) % 128 * 2097152 = (M : Int):=zz4
   rw [hMi]
   clear hMi
   have HMM:=zd hM
   have hs1 : (a : Int) ≤ (a : Int) + 3 + 1:=zz4
   have hs2 : (a : Int) + 3 + 1 ≤ (t.size : Int):=zz4
   clear hM
   by_cases hn : 1000000000 < M
   ·have HE : Hid (R = none):=zd (HB.out h128 (.inr (by rw [← show M = m + t[a + 3].toNat % 128 * 128 ^ 3 from HMM.out]; exact hn)))
    clear HB HG HL
    have dn : decide ((1000000000 : Int) < (M : Int)) = true:=zz47
    refine ya0 (by kernel_rfl) (by kernel_rfl) ?_
    repeat (go_big_quiet_step (first | fail))
    refine wpQuiet_nil ?_
    intro w7 hw_
    have hB7:=ya5 hw_
    clear hw_
    go_wp2
    refine bodyPost_ret (v:=.tuple #[.int .i64 0, .int .i64 0, .bool false]) (by simp [results,Tryz.results172,go_sem, *]) rfl ?_
    exact ⟨zz40,hB.trans (hB7.mono hz)⟩
   have dn : decide ((1000000000 : Int) < (M : Int)) = false:=zz21
   have HV:=zd (fun W => spec_l01Var M W zz4)
   have HL2 : Hid (varT M = t.extract a (a + 3 + 1) ↔ ¬ (t[a + 3].toNat = 0 ∧ 0 < 3)):=zd (by rw [HMM.out]; exact HL.out h128)
   obtain ⟨E,hE⟩ : ∃ E,t.extract a (a + 3 + 1) = E:=⟨_,rfl⟩
   obtain ⟨V,hV⟩ : ∃ V,varT M = V:=⟨_,rfl⟩
   rw [hE,hV] at HL2
   rw [hV] at HV
   have HQ:=zd (str_dec V E)
   clear hV HL
   by_cases h0 : t[a + 3].toNat = 0 ∧ 0 < 3
   ·have HE : Hid (R = none):=zd (HB.out h128 (.inl h0))
    have hcmp : (V.toList == E.toList) = false:=by rw [HQ.out]; exact decide_eq_false (fun e => HL2.out.1 e h0)
    clear HB HG
    refine ya0 (by kernel_rfl) (by kernel_rfl) ?_
    repeat (go_big_quiet_step (first | (go_at_call 109; with_reducible exact ya4 (HV.out _))))
    refine wpQuiet_nil ?_
    intro w7 hw_
    have hB7:=ya5 hw_
    clear hw_
    go_wp2
    refine bodyPost_ret (v:=.tuple #[.int .i64 0, .int .i64 0, .bool false]) (by simp [results,Tryz.results172,go_sem, *]) rfl ?_
    exact ⟨zz40,hB.trans (hB7.mono hz)⟩
   ·have HE:=zd (HG.out h128 (by rintro (hh | hh); exact h0 hh; exact hn (by rw [show M = m + t[a + 3].toNat % 128 * 128 ^ 3 from HMM.out]; exact hh)))
    have hcmp : (V.toList == E.toList) = true:=by rw [HQ.out]; exact decide_eq_true (HL2.out.2 h0)
    clear HB HG
    refine ya0 (by kernel_rfl) (by kernel_rfl) ?_
    repeat (go_big_quiet_step (first | (go_at_call 109; with_reducible exact ya4 (HV.out _))))
    refine wpQuiet_nil ?_
    intro w7 hw_
    have hB7:=ya5 hw_
    clear hw_
    go_wp2
    refine bodyPost_ret (v:=.tuple #[.int .i64 (M : Int), .int .i64 ((a : Int) + 3 + 1), .bool true]) (by simp [results,Tryz.results172,go_sem, *]) rfl ?_
    exact ⟨zz51,hB.trans (hB7.mono hz)⟩
  ·have hm : m < 16384:=HP.out.lt
   have hwk : IntKind.i64.wrap ((a : Int) + 2) = (a : Int) + 2:=zz16
   have hwl : IntKind.i64.wrap ((a : Int) + 2 + 1) = (a : Int) + 2 + 1:=zz16
   have hei : (((a + 2 : Nat) : Nat) : Int) = (a : Int) + 2:=zz4
   have hep : ((128 ^ 2 : Nat) : Int) = 16384:=zz44
   rw [hei,hep]
   clear hei hep
   by_cases hlt : a + 2 < t.size
   rotate_left
   ·have HE : Hid (R = none):=zd (hR.out.trans (rdGo_out hlt))
    clear hR
    go_wp2
    refine bodyPost_ret (v:=.tuple #[.int .i64 0, .int .i64 0, .bool false]) (by simp [results,Tryz.results172,go_sem, *]) rfl ?_
    exact ⟨zz40,hB⟩
   have HM:=zd (fun h => hR.out.trans (rdGo_more (f:=2) (n:=m) hlt h))
   have HB:=zd (fun h1 h2 => hR.out.trans (rdGo_bad (f:=2) (n:=m) hlt h1 h2))
   have HG:=zd (fun h1 h2 => hR.out.trans (rdGo_good (f:=2) (n:=m) hlt h1 h2))
   have HS:=zd (fun h => HP.out.step hlt h)
   have HL:=zd (fun h => HP.out.last hlt h)
   have hb : t[a + 2].toNat < 256:=t[a + 2].toNat_lt
   have hlz : (a : Int) + 2 < (t.size : Int):=zz4
   have hl5 : (a : Int) + 2 < (a : Int) + 5:=zz4
   clear hR HP
   by_cases h128 : t[a + 2].toNat < 128
   rotate_left
   ·have HE:=zd (HM.out h128)
    have HP2:=zd (HS.out h128)
    clear HM HB HG HS HL
    go_wp2
    go_roundw
    case rel => exact ⟨3,m + t[a + 2].toNat % 128 * 16384,zz4,zz4,congrArg (Value.int .i64) zz4,congrArg (Value.int .i64) zz44,congrArg (Value.int .i64) zz4,zd HP2.out,zd HE.out,hB⟩
    case measure => first | (simp [intOf]; done) | (simp [intOf]; omega)
   clear HM HS
   go_wp2_with (fail)
   obtain ⟨M,hM⟩ : ∃ M : Nat,M = m + t[a + 2].toNat % 128 * 16384:=⟨_,rfl⟩
   have hMi : (m : Int) + (t[a + 2].toNat : Int) % 128 * 16384 = (M : Int):=zz4
   rw [hMi]
   clear hMi
   have HMM:=zd hM
   have hs1 : (a : Int) ≤ (a : Int) + 2 + 1:=zz4
   have hs2 : (a : Int) + 2 + 1 ≤ (t.size : Int):=zz4
   clear hM
   by_cases hn : 1000000000 < M
   ·have HE : Hid (R = none):=zd (HB.out h128 (.inr (by rw [← show M = m + t[a + 2].toNat % 128 * 128 ^ 2 from HMM.out]; exact hn)))
    clear HB HG HL
    have dn : decide ((1000000000 : Int) < (M : Int)) = true:=zz47
    refine ya0 (by kernel_rfl) (by kernel_rfl) ?_
    repeat (go_big_quiet_step (first | fail))
    refine wpQuiet_nil ?_
    intro w7 hw_
    have hB7:=ya5 hw_
    clear hw_
    go_wp2
    refine bodyPost_ret (v:=.tuple #[.int .i64 0, .int .i64 0, .bool false]) (by simp [results,Tryz.results172,go_sem, *]) rfl ?_
    exact ⟨zz40,hB.trans (hB7.mono hz)⟩
   have dn : decide ((1000000000 : Int) < (M : Int)) = false:=zz21
   have HV:=zd (fun W => spec_l01Var M W zz4)
   have HL2 : Hid (varT M = t.extract a (a + 2 + 1) ↔ ¬ (t[a + 2].toNat = 0 ∧ 0 < 2)):=zd (by rw [HMM.out]; exact HL.out h128)
   obtain ⟨E,hE⟩ : ∃ E,t.extract a (a + 2 + 1) = E:=⟨_,rfl⟩
   obtain ⟨V,hV⟩ : ∃ V,varT M = V:=⟨_,rfl⟩
   rw [hE,hV] at HL2
   rw [hV] at HV
   have HQ:=zd (str_dec V E)
   clear hV HL
   by_cases h0 : t[a + 2].toNat = 0 ∧ 0 < 2
   ·have HE : Hid (R = none):=zd (HB.out h128 (.inl h0))
    have hcmp : (V.toList == E.toList) = false:=by rw [HQ.out]; exact decide_eq_false (fun e => HL2.out.1 e h0)
    clear HB HG
    refine ya0 (by kernel_rfl) (by kernel_rfl) ?_
    repeat (go_big_quiet_step (first | (go_at_call 109; with_reducible exact ya4 (HV.out _))))
    refine wpQuiet_nil ?_
    intro w7 hw_
    have hB7:=ya5 hw_
    clear hw_
    go_wp2
    refine bodyPost_ret (v:=.tuple #[.int .i64 0, .int .i64 0, .bool false]) (by simp [results,Tryz.results172,go_sem, *]) rfl ?_
    exact ⟨zz40,hB.trans (hB7.mono hz)⟩
   ·have HE:=zd (HG.out h128 (by rintro (hh | hh); exact h0 hh; exact hn (by rw [show M = m + t[a + 2].toNat % 128 * 128 ^ 2 from HMM.out]; exact hh)))
    have hcmp : (V.toList == E.toList) = true:=by rw [HQ.out]; exact decide_eq_true (HL2.out.2 h0)
    clear HB HG
    refine ya0 (by kernel_rfl) (by kernel_rfl) ?_
    repeat (go_big_quiet_step (first | (go_at_call 109; with_reducible exact ya4 (HV.out _))))
    refine wpQuiet_nil ?_
    intro w7 hw_
    have hB7:=ya5 hw_
    clear hw_
    go_wp2
    refine bodyPost_ret (v:=.tuple #[.int .i64 (M : Int), .int .i64 ((a : Int) + 2 + 1), .bool true]) (by simp [results,Tryz.results172,go_sem, *]) rfl ?_
    exact ⟨zz51,hB.trans (hB7.mono hz)⟩
  ·have hm : m < 128:=HP.out.lt
   have hwk : IntKind.i64.wrap ((a : Int) + 1) = (a : Int) + 1:=zz16
   have hwl : IntKind.i64.wrap ((a : Int) + 1 + 1) = (a : Int) + 1 + 1:=zz16
   have hei : (((a + 1 : Nat) : Nat) : Int) = (a : Int) + 1:=zz4
   have hep : ((128 ^ 1 : Nat) : Int) = 128:=zz44
   rw [hei,hep]
   clear hei hep
   by_cases hlt : a + 1 < t.size
   rotate_left
   ·have HE : Hid (R = none):=zd (hR.out.trans (rdGo_out hlt))
    clear hR
    go_wp2
    refine bodyPost_ret (v:=.tuple #[.int .i64 0, .int .i64 0, .bool false]) (by simp [results,Tryz.results172,go_sem, *]) rfl ?_
    exact ⟨zz40,hB⟩
   have HM:=zd (fun h => hR.out.trans (rdGo_more (f:=3) (n:=m) hlt h))
   have HB:=zd (fun h1 h2 => hR.out.trans (rdGo_bad (f:=3) (n:=m) hlt h1 h2))
   have HG:=zd (fun h1 h2 => hR.out.trans (rdGo_good (f:=3) (n:=m) hlt h1 h2))
   have HS:=zd (fun h => HP.out.step hlt h)
   have HL:=zd (fun h => HP.out.last hlt h)
   have hb : t[a + 1].toNat < 256:=t[a + 1].toNat_lt
   have hlz : (a : Int) + 1 < (t.size : Int):=zz4
   have hl5 : (a : Int) + 1 < (a : Int) + 5:=zz4
   clear hR HP
   by_cases h128 : t[a + 1].toNat < 128
   rotate_left
   ·have HE:=zd (HM.out h128)
    have HP2:=zd (HS.out h128)
    clear HM HB HG HS HL
    go_wp2
    go_roundw
    case rel => exact ⟨2,m + t[a + 1].toNat % 128 * 128,zz4,zz4,congrArg (Value.int .i64) zz4,congrArg (Value.int .i64) zz44,congrArg (Value.int .i64) zz4,zd HP2.out,zd HE.out,hB⟩
    case measure => first | (simp [intOf]; done) | (simp [intOf]; omega)
   clear HM HS
   go_wp2_with (fail)
   obtain ⟨M,hM⟩ : ∃ M : Nat,M = m + t[a + 1].toNat % 128 * 128:=⟨_,rfl⟩
   have hMi : (m : Int) + (t[a + 1].toNat : Int) % 128 * 128 = (M : Int):=zz4
   rw [hMi]
   clear hMi
   have HMM:=zd hM
   have hs1 : (a : Int) ≤ (a : Int) + 1 + 1:=zz4
   have hs2 : (a : Int) + 1 + 1 ≤ (t.size : Int):=zz4
   clear hM
   by_cases hn : 1000000000 < M
   ·have HE : Hid (R = none):=zd (HB.out h128 (.inr (by rw [← show M = m + t[a + 1].toNat % 128 * 128 ^ 1 from HMM.out]; exact hn)))
    clear HB HG HL
    have dn : decide ((1000000000 : Int) < (M : Int)) = true:=zz47
    refine ya0 (by kernel_rfl) (by kernel_rfl) ?_
    repeat (go_big_quiet_step (first | fail))
    refine wpQuiet_nil ?_
    intro w7 hw_
    have hB7:=ya5 hw_
    clear hw_
    go_wp2
    refine bodyPost_ret (v:=.tuple #[.int .i64 0, .int .i64 0, .bool false]) (by simp [results,Tryz.results172,go_sem, *]) rfl ?_
    exact ⟨zz40,hB.trans (hB7.mono hz)⟩
   have dn : decide ((1000000000 : Int) < (M : Int)) = false:=zz21
   have HV:=zd (fun W => spec_l01Var M W zz4)
   have HL2 : Hid (varT M = t.extract a (a + 1 + 1) ↔ ¬ (t[a + 1].toNat = 0 ∧ 0 < 1)):=zd (by rw [HMM.out]; exact HL.out h128)
   obtain ⟨E,hE⟩ : ∃ E,t.extract a (a + 1 + 1) = E:=⟨_,rfl⟩
   obtain ⟨V,hV⟩ : ∃ V,varT M = V:=⟨_,rfl⟩
   rw [hE,hV] at HL2
   rw [hV] at HV
   have HQ:=zd (str_dec V E)
   clear hV HL
   by_cases h0 : t[a + 1].toNat = 0 ∧ 0 < 1
   ·have HE : Hid (R = none):=zd (HB.out h128 (.inl h0))
    have hcmp : (V.toList == E.toList) = false:=by rw [HQ.out]; exact decide_eq_false (fun e => HL2.out.1 e h0)
    clear HB HG
    refine ya0 (by kernel_rfl) (by kernel_rfl) ?_
    repeat (go_big_quiet_step (first | (go_at_call 109; with_reducible exact ya4 (HV.out _))))
    refine wpQuiet_nil ?_
    intro w7 hw_
    have hB7:=ya5 hw_
    clear hw_
    go_wp2
    refine bodyPost_ret (v:=.tuple #[.int .i64 0, .int .i64 0, .bool false]) (by simp [results,Tryz.results172,go_sem, *]) rfl ?_
    exact ⟨zz40,hB.trans (hB7.mono hz)⟩
   ·have HE:=zd (HG.out h128 (by rintro (hh | hh); exact h0 hh; exact hn (by rw [show M = m + t[a + 1].toNat % 128 * 128 ^ 1 from HMM.out]; exact hh)))
    have hcmp : (V.toList == E.toList) = true:=by rw [HQ.out]; exact decide_eq_true (HL2.out.2 h0)
    clear HB HG
    refine ya0 (by kernel_rfl) (by kernel_rfl) ?_
    repeat (go_big_quiet_step (first | (go_at_call 109; with_reducible exact ya4 (HV.out _))))
    refine wpQuiet_nil ?_
    intro w7 hw_
    have hB7:=ya5 hw_
    clear hw_
    go_wp2
    refine bodyPost_ret (v:=.tuple #[.int .i64 (M : Int), .int .i64 ((a : Int) + 1 + 1), .bool true]) (by simp [results,Tryz.results172,go_sem, *]) rfl ?_
    exact ⟨zz51,hB.trans (hB7.mono hz)⟩
  ·obtain rfl : m = 0:=by have h9 : m < 1:=HP.out.lt; omega
   have hwl : IntKind.i64.wrap ((a : Int) + 1) = (a : Int) + 1:=zz16
   have hei : (((a + 0 : Nat) : Nat) : Int) = (a : Int):=zz4
   have hep : ((128 ^ 0 : Nat) : Int) = 1:=zz44
   rw [hei,hep]
   clear hei hep
   by_cases hlt : a < t.size
   rotate_left
   ·have HE : Hid (R = none):=zd (hR.out.trans (rdGo_out hlt))
    clear hR
    go_wp2
    refine bodyPost_ret (v:=.tuple #[.int .i64 0, .int .i64 0, .bool false]) (by simp [results,Tryz.results172,go_sem, *]) rfl ?_
    exact ⟨zz40,hB⟩
   have HM:=zd (fun (h : ¬ t[a].toNat < 128) => hR.out.trans (rdGo_more (f:=4) (k:=0) (n:=0) hlt h))
   have HB:=zd (fun (h1 : t[a].toNat < 128) (h2 : (t[a].toNat = 0 ∧ 0 < 0) ∨ 1000000000 < 0 + t[a].toNat % 128 * 1) => hR.out.trans (rdGo_bad (f:=4) (k:=0) (n:=0) hlt h1 h2))
   have HG:=zd (fun (h1 : t[a].toNat < 128) (h2 : ¬ ((t[a].toNat = 0 ∧ 0 < 0) ∨ 1000000000 < 0 + t[a].toNat % 128 * 1)) => hR.out.trans (rdGo_good (f:=4) (k:=0) (n:=0) hlt h1 h2))
   have HS:=zd (fun (h : ¬ t[a].toNat < 128) => HP.out.step (k:=0) hlt h)
   have HL:=zd (fun (h : t[a].toNat < 128) => HP.out.last (k:=0) hlt h)
   have hb : t[a].toNat < 256:=t[a].toNat_lt
   have hlz : (a : Int) < (t.size : Int):=zz4
   have hl5 : (a : Int) < (a : Int) + 5:=zz4
   clear hR HP
   by_cases h128 : t[a].toNat < 128
   rotate_left
   ·have HE:=zd (HM.out h128)
    have HP2:=zd (HS.out h128)
    clear HM HB HG HS HL
    go_wp2
    go_roundw
    case rel => exact ⟨1,0 + t[a].toNat % 128 * 1,zz4,zz4,congrArg (Value.int .i64) zz4,congrArg (Value.int .i64) zz44,congrArg (Value.int .i64) zz4,zd HP2.out,zd HE.out,hB⟩
    case measure => first | (simp [intOf]; done) | (simp [intOf]; omega)
   clear HM HS
   go_wp2_with (fail)
   obtain ⟨M,hM⟩ : ∃ M : Nat,M = 0 + t[a].toNat % 128 * 1:=⟨_,rfl⟩
   have hMi : (t[a].toNat : Int) % 128 = (M : Int):=zz4
   rw [hMi]
   clear hMi
   have HMM:=zd hM
   have hs1 : (a : Int) ≤ (a : Int) + 1:=zz4
   have hs2 : (a : Int) + 1 ≤ (t.size : Int):=zz4
   clear hM
   by_cases hn : 1000000000 < M
   ·have HE : Hid (R = none):=zd (HB.out h128 (.inr (by rw [← show M = 0 + t[a].toNat % 128 * 1 from HMM.out]; exact hn)))
    clear HB HG HL
    have dn : decide ((1000000000 : Int) < (M : Int)) = true:=zz47
    refine ya0 (by kernel_rfl) (by kernel_rfl) ?_
    repeat (go_big_quiet_step (first | fail))
    refine wpQuiet_nil ?_
    intro w7 hw_
    have hB7:=ya5 hw_
    clear hw_
    go_wp2
    refine bodyPost_ret (v:=.tuple #[.int .i64 0, .int .i64 0, .bool false]) (by simp [results,Tryz.results172,go_sem, *]) rfl ?_
    exact ⟨zz40,hB.trans (hB7.mono hz)⟩
   have dn : decide ((1000000000 : Int) < (M : Int)) = false:=zz21
   have HV:=zd (fun W => spec_l01Var M W zz4)
   have HL2 : Hid (varT M = t.extract a (a + 1) ↔ ¬ (t[a].toNat = 0 ∧ 0 < 0)):=zd (by rw [HMM.out]; exact HL.out h128)
   obtain ⟨E,hE⟩ : ∃ E,t.extract a (a + 1) = E:=⟨_,rfl⟩
   obtain ⟨V,hV⟩ : ∃ V,varT M = V:=⟨_,rfl⟩
   rw [hE,hV] at HL2
   rw [hV] at HV
   have HQ:=zd (str_dec V E)
   clear hV HL
   by_cases h0 : t[a].toNat = 0 ∧ 0 < 0
   ·have HE : Hid (R = none):=zd (HB.out h128 (.inl h0))
    have hcmp : (V.toList == E.toList) = false:=by rw [HQ.out]; exact decide_eq_false (fun e => HL2.out.1 e h0)
    clear HB HG
    refine ya0 (by kernel_rfl) (by kernel_rfl) ?_
    repeat (go_big_quiet_step (first | (go_at_call 109; with_reducible exact ya4 (HV.out _))))
    refine wpQuiet_nil ?_
    intro w7 hw_
    have hB7:=ya5 hw_
    clear hw_
    go_wp2
    refine bodyPost_ret (v:=.tuple #[.int .i64 0, .int .i64 0, .bool false]) (by simp [results,Tryz.results172,go_sem, *]) rfl ?_
    exact ⟨zz40,hB.trans (hB7.mono hz)⟩
   ·have HE:=zd (HG.out h128 (by rintro (hh | hh); exact h0 hh; exact hn (by rw [show M = 0 + t[a].toNat % 128 * 1 from HMM.out]; exact hh)))
    have hcmp : (V.toList == E.toList) = true:=by rw [HQ.out]; exact decide_eq_true (HL2.out.2 h0)
    clear HB HG
    refine ya0 (by kernel_rfl) (by kernel_rfl) ?_
    repeat (go_big_quiet_step (first | (go_at_call 109; with_reducible exact ya4 (HV.out _))))
    refine wpQuiet_nil ?_
    intro w7 hw_
    have hB7:=ya5 hw_
    clear hw_
    go_wp2
    refine bodyPost_ret (v:=.tuple #[.int .i64 (M : Int), .int .i64 ((a : Int) + 1), .bool true]) (by simp [results,Tryz.results172,go_sem, *]) rfl ?_
    exact ⟨zz51,hB.trans (hB7.mono hz)⟩
end Go.Proofs.YtlfnmbcnehaikaaGreatDoor
namespace Go.Proofs.YtlfnmbcnehaikaaGreatDoor
open Go.RowKit Lay Mk
theorem pair_rd {w : World} {s t : Seal} {c1 c2 : List Value} {S1 S2 S : Blks} (h1 : rd true w c1 s S1) (h2 : rd true w c2 t S2) (s1 : sub S1 S) (s2 : sub S2 S) (d : disj S1 S2) : rd true w (c1 ++ c2) (⟨s,t⟩ : Pair) S:=⟨c1,c2,S1,S2,rfl,s1,s2,fun _ => d,h1,h2⟩
end Go.Proofs.YtlfnmbcnehaikaaGreatDoor
namespace Go.Proofs.YtlfnmbcnehaikaaGreatDoor
open Go.RowKit Lay Mk
def Bor (α : Type) : Type:=α
instance instBor {α : Type} [Lay α] : Lay (Bor α) where
 ty:=ty α
 n:=n α
 rd _ w cs a S:=rd (α:=α) false w cs a S
 pos:=pos (α:=α)
 len h:=Lay.len (α:=α) h
 keep h k:=Lay.keep (α:=α) h k
 mono h k:=Lay.mono (α:=α) h k
 weak h:=h
 tight h:=Lay.tight (α:=α) h
 one h:=Lay.one (α:=α) h
instance slBor {α : Type} [Lay α] [SlTy α] : SlTy (Bor α):=⟨SlTy.st α⟩
instance infBor {α : Type} [Lay α] [SlTy α] [Inf α] : Inf (Bor α):=⟨Inf.ex (α:=α),Inf.st (α:=α)⟩
end Go.Proofs.YtlfnmbcnehaikaaGreatDoor
