/- A part of the proof. -/
import Derived.Test.YtlfnmbcnehaikaaGreatDoorHApUi
import Derived.Test.YtlfnmbcnehaikaaGreatDoorHApEl
import Derived.Test.YtlfnmbcnehaikaaGreatDoorHApL26xRu
set_option linter.unusedVariables false
set_option linter.unusedSimpArgs false
set_option maxRecDepth 100000
set_option maxHeartbeats 16000000
namespace Go.Proofs.YtlfnmbcnehaikaaGreatDoor
open Go.RowKit Lay Mk
def otherH (own : Int) (n : Nat) (h : Int) : Bool:=!decide (h = own) && inB h 0 ((n : Int) - 1)
def pinFit (x : Auditor) (roots : List ByteArray) (k : Nat) : Bool:=match x.pins[k]? with
 | none => false
 | some s => otherH x.house roots.length s.head.house && sealOk (roots.getD s.head.house.toNat ⟨#[]⟩) s
def pairFit (x : Auditor) (roots : List ByteArray) (k : Nat) : Bool:=match x.pairs[k]? with
 | none => false
 | some p => otherH x.house roots.length p.a.head.house && evidenceOk (roots.getD p.a.head.house.toNat ⟨#[]⟩) p
def chainFit (x : Auditor) (k : Nat) : Bool:=chainOk (pinsOf x (k : Int)) (k : Int)
def sameNew (x y : Auditor) : Bool:=decide (x.pool = y.pool) && decide (x.pins = y.pins) && decide (x.pairs = y.pairs)
def auditorOk (x : Auditor) (roots : List ByteArray) : Bool:=inB x.house 0 2 && sameNew x (auditorNew x.house x.disk) && allN x.pins.length (pinFit x roots) && allN x.pairs.length (pairFit x roots) && allN (min roots.length 3) (chainFit x)
theorem aok_house {x : Auditor} {roots : List ByteArray} (h : inB x.house 0 2 = false) : auditorOk x roots = false:=by unfold auditorOk; rw [h]; rfl
theorem aok_new {x : Auditor} {roots : List ByteArray} (h : sameNew x (auditorNew x.house x.disk) = false) : auditorOk x roots = false:=by unfold auditorOk; rw [h]; simp
theorem aok_pin {x : Auditor} {roots : List ByteArray} {k : Nat} (hk : k < x.pins.length) (h : pinFit x roots k = false) : auditorOk x roots = false:=by unfold auditorOk; rw [allN_bad hk h]; simp
theorem aok_pair {x : Auditor} {roots : List ByteArray} {k : Nat} (hk : k < x.pairs.length) (h : pairFit x roots k = false) : auditorOk x roots = false:=by unfold auditorOk; rw [allN_bad hk h]; simp
theorem aok_chain {x : Auditor} {roots : List ByteArray} {k : Nat} (hk : k < roots.length) (hk2 : k < 3) (h : chainFit x k = false) : auditorOk x roots = false:=by unfold auditorOk; rw [allN_bad (show k < min roots.length 3 by omega) h]; simp
theorem aok_yes {x : Auditor} {roots : List ByteArray} (h0 : inB x.house 0 2 = true) (h1 : sameNew x (auditorNew x.house x.disk) = true) (h2 : ∀ k,k < x.pins.length → pinFit x roots k = true) (h3 : ∀ k,k < x.pairs.length → pairFit x roots k = true) (h4 : ∀ k,k < min roots.length 3 → chainFit x k = true) : auditorOk x roots = true:=by
 unfold auditorOk; rw [h0,h1,allN_end h2,allN_end h3,allN_end h4]; rfl
theorem pinFit_at {x : Auditor} {roots : List ByteArray} {k : Nat} (h : k < x.pins.length) : pinFit x roots k = (otherH x.house roots.length (x.pins[k]).head.house && sealOk (roots.getD (x.pins[k]).head.house.toNat ⟨#[]⟩) x.pins[k]):=by unfold pinFit; rw [List.getElem?_eq_getElem h]
theorem pairFit_at {x : Auditor} {roots : List ByteArray} {k : Nat} (h : k < x.pairs.length) : pairFit x roots k = (otherH x.house roots.length (x.pairs[k]).a.head.house && evidenceOk (roots.getD (x.pairs[k]).a.head.house.toNat ⟨#[]⟩) x.pairs[k]):=by unfold pairFit; rw [List.getElem?_eq_getElem h]
theorem other_idx {own h : Int} {n : Nat} (e : otherH own n h = true) : ¬ h = own ∧ ∃ j : Nat,h = j ∧ j < n:=by
 unfold otherH at e
 simp only [Bool.and_eq_true,Bool.not_eq_true',decide_eq_false_iff_not] at e
 have h1 : 0 ≤ h ∧ h ≤ (n : Int) - 1:=by simpa [inB] using e.2
 exact ⟨e.1,h.toNat,zz4,zz4⟩
theorem roots_at {roots : List ByteArray} {h : Int} {j : Nat} (e : h = j) (hj : j < roots.length) : roots.getD h.toNat ⟨#[]⟩ = roots[j]:=by
 subst e
 rw [Int.toNat_natCast,List.getD_eq_getElem?_getD,List.getElem?_eq_getElem hj]; rfl
theorem pinsOf_len (x : Auditor) (h : Int) : (pinsOf x h).length ≤ x.pins.length:=by
 rw [← pinsOf_all]; exact gathT_len _ _ _ _
theorem auditorNew_good (house : Int) (d : Disk) : (∀ s ∈ (auditorNew house d).pins,GoodS s) ∧ (∀ p ∈ (auditorNew house d).pairs,GoodP p):=by
 have h1:=recsAt_good (logTexts d.files pinsName) ([], []) (fun s hs => by cases hs) (fun s hs => by cases hs)
 exact ⟨h1.1,h1.2.1⟩
end Go.Proofs.YtlfnmbcnehaikaaGreatDoor
namespace Go.Proofs.YtlfnmbcnehaikaaGreatDoor
open Go.RowKit Lay Mk
theorem Bx.all {w : World} {r : Nat} {cs : List Value} {ty : TypeId} (h : Bx w r cs.toArray ty) : At w r 0 cs:=fun j v hj => by rw [Nat.zero_add]; exact h.at_ (by simpa using hj)
structure SealCut (V wx : World) (g ob : Nat) (t : ByteArray) (a1 : Nat) (b1 : Bool) (h : Head) (A2 : Option Addr) (c2 : Nat) (A3 : Option Addr) (c3 : Nat) (A4 : Option Addr) (c4 : Nat) (x : Sig) (a2 : Nat) (b2 : Bool) : Prop where
 fld : Fld 151 wx g t a2 b2
 chg : Chg (fun b => b = g ∨ V.heap.size ≤ b) V wx
 box : Bx wx ob #[.int .i64 h.house, .int .i64 h.epoch, .string h.root, .string h.prev, .int .i64 x.at_, .slice A2 x.open_.length c2, .slice A3 x.shut.length c3, .slice A4 x.sides.length c4] 76
 ob0 : V.heap.size ≤ ob
 al : a2 ≤ t.size
 good : b2 = false → b1 = false ∧ a2 = a1 + 321 ∧ ∀ h : a1 < t.size,x = sigAt t a1 h
 back : b2 = true → b1 = true ∨ t.size < a1 + 321
 rdx : ∃ S,rd true wx (Sig.cs x A2 c2 A3 c3 A4 c4) x S ∧ sub S (nw V.heap.size) ∧ ¬ S ob
theorem bx8 {w : World} {r : Nat} {a0 a1 a2 a3 a4 a5 a6 a7 b0 b1 b2 b3 b4 b5 b6 b7 : Value} {ty : TypeId} (h : Bx w r #[a0,a1,a2,a3,a4,a5,a6,a7] ty) : Bx ((((((((w.setCell ⟨r,0,none⟩ b0).setCell ⟨r,1,none⟩ b1).setCell ⟨r,2,none⟩ b2).setCell ⟨r,3,none⟩ b3).setCell ⟨r,4,none⟩ b4).setCell ⟨r,5,none⟩ b5).setCell ⟨r,6,none⟩ b6).setCell ⟨r,7,none⟩ b7) r #[b0,b1,b2,b3,b4,b5,b6,b7] ty:=by
 have s0 : Bx (w.setCell ⟨r,0,none⟩ b0) r #[b0,a1,a2,a3,a4,a5,a6,a7] ty:=h.set rfl
 have s1:=Bx.set (i:=1) (v:=b1) (cs':=#[b0,b1,a2,a3,a4,a5,a6,a7]) s0 rfl
 have s2:=Bx.set (i:=2) (v:=b2) (cs':=#[b0,b1,b2,a3,a4,a5,a6,a7]) s1 rfl
 have s3:=Bx.set (i:=3) (v:=b3) (cs':=#[b0,b1,b2,b3,a4,a5,a6,a7]) s2 rfl
 have s4:=Bx.set (i:=4) (v:=b4) (cs':=#[b0,b1,b2,b3,b4,a5,a6,a7]) s3 rfl
 have s5:=Bx.set (i:=5) (v:=b5) (cs':=#[b0,b1,b2,b3,b4,b5,a6,a7]) s4 rfl
 have s6:=Bx.set (i:=6) (v:=b6) (cs':=#[b0,b1,b2,b3,b4,b5,b6,a7]) s5 rfl
 have s7:=Bx.set (i:=7) (v:=b7) (cs':=#[b0,b1,b2,b3,b4,b5,b6,b7]) s6 rfl
 exact s7
theorem set8 {S : Blks} {a w : World} {r : Nat} (h : Chg S a w) (hr : S r ∨ a.heap.size ≤ r) (b0 b1 b2 b3 b4 b5 b6 b7 : Value) : Chg S a ((((((((w.setCell ⟨r,0,none⟩ b0).setCell ⟨r,1,none⟩ b1).setCell ⟨r,2,none⟩ b2).setCell ⟨r,3,none⟩ b3).setCell ⟨r,4,none⟩ b4).setCell ⟨r,5,none⟩ b5).setCell ⟨r,6,none⟩ b6).setCell ⟨r,7,none⟩ b7) :=
 (((((((h.setCell (p:=⟨r,0,none⟩) hr _).setCell (p:=⟨r,1,none⟩) hr _).setCell (p:=⟨r,2,none⟩) hr _).setCell (p:=⟨r,3,none⟩) hr _).setCell (p:=⟨r,4,none⟩) hr _).setCell (p:=⟨r,5,none⟩) hr _).setCell (p:=⟨r,6,none⟩) hr _).setCell (p:=⟨r,7,none⟩) hr _
theorem set8R (w : World) (r : Nat) (b0 b1 b2 b3 b4 b5 b6 b7 : Value) : Chg (fun b => b = r) w ((((((((w.setCell ⟨r,0,none⟩ b0).setCell ⟨r,1,none⟩ b1).setCell ⟨r,2,none⟩ b2).setCell ⟨r,3,none⟩ b3).setCell ⟨r,4,none⟩ b4).setCell ⟨r,5,none⟩ b5).setCell ⟨r,6,none⟩ b6).setCell ⟨r,7,none⟩ b7):=set8 (S:=fun b => b = r) (Chg.refl _ _) (.inl rfl) _ _ _ _ _ _ _ _
theorem Chg.block_ne {w w' : World} {r b : Nat} (h : Chg (fun b => b = r) w w') (hb : b ≠ r) (hl : b < w.heap.size:=by first | assumption | omega) : w'.heap[b]? = w.heap[b]?:=h.block _ hl hb
theorem Fld.chg {ty : TypeId} {w w' : World} {g : Nat} {t : ByteArray} {a : Nat} {b : Bool} {S : Blks} (h : Fld ty w g t a b) (hc : Chg S w w') (hs : ¬ S g) : Fld ty w' g t a b:=h.keep (hc.block _ h.lt hs)
theorem impl_seal (w : World) (g : Nat) (t : ByteArray) (hF : Fld 151 w g t 0 false) (ht : t.size ≤ 1048576) : Calls Tryz.prog 162 #[.pointer (some ⟨g,0,none⟩)] w fun e w' => ∃ cs x a' b',e = .returned (.agg cs.toArray) ∧ rd true w' cs x (nw w.heap.size) ∧ Fld 151 w' g t a' b' ∧ Chg (fun b => b = g ∨ w.heap.size ≤ b) w w' ∧ a' ≤ t.size ∧ (b' = false → a' = t.size → rdSeal t = some x) ∧ (∀ y,rdSeal t = some y → b' = false ∧ a' = t.size):=by
 have hgl:=hF.lt
 have k_hd : (Tryz.prog.info? 72).map (·.size) = some 4:=by kernel_rfl
 go_enter Tryz.func162,Tryz.ntmps162
 go_wp2_with (fail)
 obtain ⟨W,hW⟩ : ∃ W,w.alloc (.cells #[.int .i64 0, .int .i64 0, .string ⟨#[]⟩, .string ⟨#[]⟩, .int .i64 0, .slice none 0 0, .slice none 0 0, .slice none 0 0] 76) = W:=⟨_,rfl⟩
 have hWf : Below w.heap.size w W ∧ w.heap.size < W.heap.size ∧ Bx W w.heap.size #[.int .i64 0, .int .i64 0, .string ⟨#[]⟩, .string ⟨#[]⟩, .int .i64 0, .slice none 0 0, .slice none 0 0, .slice none 0 0] 76 ∧ Fld 151 W g t 0 false:=by
  rw [← hW]
  exact ⟨(Below.refl _ _).alloc (Nat.le_refl _) _,zz17,Bx.new _ _ _,hF.keep (Below.heap_alloc _ _ _ hgl)⟩
 rw [hW]
 clear hW hF
 obtain ⟨bW,sW,xW,hF⟩:=hWf
 have hSH : ∃ (s : ByteArray) (a1 : Nat) (b1 : Bool),Hid (Calls Tryz.prog 132 #[.pointer (some ⟨g,0,none⟩)] W fun e w' => e = .returned (.string s) ∧ Fld 151 w' g t a1 b1 ∧ Chg (fun b => b = g) W w') ∧ a1 ≤ t.size ∧ s.size ≤ 1048576 ∧ Hid ((b1 = false → rdShort t 0 = some (s,a1)) ∧ (b1 = true → rdShort t 0 = none)):=by
  cases hs : rdShort t 0 with
  | none => exact ⟨_,_,_,zd (impl_short_no W g t 0 false hF ht (Nat.zero_le _) hs),Nat.zero_le _,zz44,zd ⟨fun h => (by cases h),fun _ => rfl⟩⟩
  | some q =>
   obtain ⟨s,x⟩:=q
   have h1:=rdShort_some hs
   exact ⟨_,_,_,zd (impl_short_yes W g t 0 false hF ht (Nat.zero_le _) hs),h1.2.1,zz4,zd ⟨fun _ => rfl,fun h => (by cases h)⟩⟩
 clear hF
 obtain ⟨s,a1,b1,HV1,ha1,hsz,H1⟩:=hSH
 refine HV1.out.mono ?_
 rintro e1 w1 ⟨rfl,hF1,hc1⟩
 have hs1:=hc1.size
 have x1:=xW.keep (hc1.block _ sW zz4)
 have HC1:=zd (Chg.trans ((Chg.refl (fun b => b = g ∨ w.heap.size ≤ b) w).below bW (Nat.le_refl _)) (hc1.mono (T:=fun b => b = g ∨ w.heap.size ≤ b) (fun b _ h => .inl h)))
 clear hc1 HV1 xW
 have hRH : ∃ (h : Head) (ok : Bool),Hid (Calls Tryz.prog 198 #[.string s] w1 fun e w' => e = .returned (.tuple #[.agg #[.int .i64 h.house, .int .i64 h.epoch, .string h.root, .string h.prev], .bool ok]) ∧ Below w1.heap.size w1 w') ∧ Hid ((ok = true → rdHead s = some h) ∧ (ok = false → rdHead s = none)) ∧ I64 h.house ∧ I64 h.epoch ∧ h.root.size ≤ 16 ∧ h.prev.size ≤ 16:=by
  have h9:=impl_ReadHead w1 s hsz
  cases hh : rdHead s with
  | none =>
   rw [hh] at h9
   exact ⟨⟨0,0,⟨#[]⟩,⟨#[]⟩⟩,false,zd h9,zd ⟨fun h => (by cases h),fun _ => rfl⟩,(by show I64 0; unfold I64; omega),(by show I64 0; unfold I64; omega),Nat.zero_le _,Nat.zero_le _⟩
  | some h =>
   rw [hh] at h9
   obtain ⟨p1,p2,p3,p4⟩:=headOk_b (rdHead_some hh).1
   exact ⟨h,true,zd h9,zd ⟨fun _ => rfl,fun h => (by cases h)⟩,zz30,zz30,zz4,zz4⟩
 obtain ⟨h,ok,HV2,H2,ih,ie,zr,zp⟩:=hRH
 go_wp2_with (fail)
 refine HV2.out.mono ?_
 rintro e2 w2 ⟨rfl,hb2⟩
 have hs2:=hb2.size
 have x2:=x1.keep (hb2.block _ x1.lt)
 have hF2:=hF1.below hb2 hF1.lt
 have HC2:=zd (HC1.out.below hb2 HC1.out.size)
 clear hb2 HV2 x1 hF1
 go_wp2_with (fail)
 obtain ⟨V,hV⟩ : ∃ V,w2.alloc (.cells #[.int .i64 h.house, .int .i64 h.epoch, .string h.root, .string h.prev] 72) = V:=⟨_,rfl⟩
 have hVf : Below w2.heap.size w2 V ∧ w2.heap.size < V.heap.size ∧ Bx V w2.heap.size #[.int .i64 h.house, .int .i64 h.epoch, .string h.root, .string h.prev] 72:=by
  rw [← hV]
  exact ⟨(Below.refl _ _).alloc (Nat.le_refl _) _,zz17,Bx.new _ _ _⟩
 rw [hV]
 clear hV
 obtain ⟨bV,sV,xh⟩:=hVf
 have XR:=zd (x2.keep (bV.block _ x2.lt))
 have HFV:=zd (hF2.below bV hF2.lt)
 have HCV:=zd (HC2.out.below bV HC2.out.size)
 have hgw : g < w2.heap.size:=hF2.lt
 have hrw : w.heap.size < w2.heap.size:=x2.lt
 clear x2 hF2 bV
 have HS:=zd (fun (W' : World) (k : Chg (fun b => b = g ∨ V.heap.size ≤ b) V W') => (Bx.all (cs:=[.int .i64 h.house, .int .i64 h.epoch, .string h.root, .string h.prev]) (xh.keep (k.block _ sV zz4))))
 go_cut [5] (fun s5 wx => ∃ (ob : Nat) (x : Sig) (A2 : Option Addr) (c2 : Nat) (A3 : Option Addr) (c3 : Nat) (A4 : Option Addr) (c4 : Nat) (a2 : Nat) (b2 : Bool),s5 = .pointer (some ⟨ob,0,none⟩) ∧ Hid (SealCut V wx g ob t a1 b1 h A2 c2 A3 c3 A4 c4 x a2 b2))
 case first =>
  refine wp_region_held_drew (S:=fun W' => At W' w2.heap.size 0 [.int .i64 h.house, .int .i64 h.epoch, .string h.root, .string h.prev]) (by kernel_rfl) (HS.out _ ((Chg.refl _ _).drew)) (fun hS => ?_)
  refine wpAnyH_take (i:=0) (v:=.agg #[.int .i64 h.house, .int .i64 h.epoch, .string h.root, .string h.prev]) rfl (by as_aux_lemma => kernel_rfl) (by as_aux_lemma => kernel_rfl) (by as_aux_lemma => kernel_rfl) (fun _ _ _ h => h) (ya7 zz22 _ _ rfl rfl (fun _ h => h) Tryz.underlying72 k_hd rfl) hS ?_
  (try simp only [Act.put,List.getElem_toArray,List.getElem_cons_succ,List.getElem_cons_zero,List.setIfInBounds_toArray,List.set_cons_zero,List.set_cons_succ])
  refine wpAnyH_take (i:=1) (v:=.pointer (some ⟨g,0,none⟩)) rfl (by as_aux_lemma => kernel_rfl) (by as_aux_lemma => kernel_rfl) (by as_aux_lemma => kernel_rfl) (fun _ _ _ h => h) (ya3 zz22 _ rfl zz22) hS ?_
  (try simp only [Act.put,List.getElem_toArray,List.getElem_cons_succ,List.getElem_cons_zero,List.setIfInBounds_toArray,List.set_cons_zero,List.set_cons_succ])
  have HD0 : Hid (Fld 151 V.drew g t a1 b1):=zd (HFV.out.keep rfl)
  have HCD : Hid (Chg (fun b => b = g ∨ V.heap.size ≤ b) V V.drew):=zd ((Chg.refl _ _).drew)
  have hvd : V.drew.heap.size = V.heap.size:=rfl
  refine wpAnyH_ready (rs:=[2,4]) (by as_aux_lemma => kernel_rfl) zz17 (AllReadyH.cons rfl (fun K hK => ?_) (AllReadyH.cons rfl (fun K hK => ?_) AllReadyH.nil))
  rotate_left
  ·as_aux_lemma =>
    (try rw [if_pos zz22])
    clear hS
    go_simp
    obtain ⟨Va,hVa⟩ : ∃ Z,(V.alloc (.cells #[.int .i64 0, .int .i64 0, .string ⟨#[]⟩, .string ⟨#[]⟩, .int .i64 0, .slice none 0 0, .slice none 0 0, .slice none 0 0] 76)).drew = Z:=⟨_,rfl⟩
    have hVaf : Chg (fun b => b = g ∨ V.heap.size ≤ b) V Va ∧ V.heap.size < Va.heap.size ∧ Bx Va V.heap.size #[.int .i64 0, .int .i64 0, .string ⟨#[]⟩, .string ⟨#[]⟩, .int .i64 0, .slice none 0 0, .slice none 0 0, .slice none 0 0] 76 ∧ Fld 151 Va g t a1 b1:=by
     rw [← hVa]
     exact ⟨((Chg.refl _ _).alloc _).drew,Nat.lt_of_lt_of_eq (Nat.lt_succ_self _) (World.size_alloc V _).symm,(Bx.new _ _ _).keep rfl,(HFV.out.keep (Below.heap_alloc _ _ _ zz4)).keep rfl⟩
    rw [hVa]
    clear hVa
    obtain ⟨hca,hla,hxa,hfa⟩:=hVaf
    have HCA:=zd hca; have HXA:=zd hxa; have HFA:=zd hfa; clear hca hxa hfa
    refine hK.out _ _ (HS.out _ HCA.out) (fun hS => ?_)
    clear hK K
    (try simp only [Act.put,List.getElem_toArray,List.getElem_cons_succ,List.getElem_cons_zero,List.setIfInBounds_toArray,List.set_cons_zero,List.set_cons_succ])
    refine wpAnyH_ready (rs:=[2]) (by as_aux_lemma => kernel_rfl) zz17 (AllReadyH.cons rfl (fun K hK => ?_) AllReadyH.nil)
    (try rw [if_pos zz22])
    clear hS
    go_simp
    refine (impl_sig Va g t a1 b1 HFA.out ht ha1).mono ?_
    rintro e_ wc ⟨cs,x,a2,b2,rfl,hr⟩
    have HX:=zd hr
    obtain ⟨A2,c2,S2,A3,c3,S3,A4,c4,S4,rfl, -⟩:=Sig.open hr.rdx
    have HCC:=zd (Chg.trans HCA.out (hr.chg.mono (T:=fun b => b = g ∨ V.heap.size ≤ b) (fun b _ k => k.imp id (fun k => zz4))))
    simp only [Sig.cs]
    clear hr
    refine hK.out _ _ (HS.out _ HCC.out) (fun hS => ?_)
    clear hK K
    (try simp only [Act.put,List.getElem_toArray,List.getElem_cons_succ,List.getElem_cons_zero,List.setIfInBounds_toArray,List.set_cons_zero,List.set_cons_succ])
    refine wpAnyH_take (i:=3) (v:=.agg #[.int .i64 h.house, .int .i64 h.epoch, .string h.root, .string h.prev, .int .i64 x.at_, .slice A2 x.open_.length c2, .slice A3 x.shut.length c3, .slice A4 x.sides.length c4]) rfl (by as_aux_lemma => kernel_rfl) (by as_aux_lemma => kernel_rfl) (by as_aux_lemma => kernel_rfl) (fun _ _ _ h => h) (yieldsIf_seal zz22 _ _ rfl zz22 zz22) hS ?_
    (try simp only [Act.put,List.getElem_toArray,List.getElem_cons_succ,List.getElem_cons_zero,List.setIfInBounds_toArray,List.set_cons_zero,List.set_cons_succ])
    have hlc:=HX.out.chg.size
    refine wpAnyH_ready (rs:=[5]) (by as_aux_lemma => kernel_rfl) zz17 (AllReadyH.cons rfl (fun K hK => ?_) AllReadyH.nil)
    have xb:=HXA.out.keep (HX.out.chg.block _ hla zz4)
    have XB:=zd xb; clear xb
    (try rw [if_pos zz22])
    clear hS
    refine wp_store_seal _ _ rfl zz22 zz22 XB.out ?_
    refine hK.out _ _ (HS.out _ (set8 HCC.out (.inr zz4) _ _ _ _ _ _ _ _)) (fun hS => ?_)
    clear hK K
    (try simp only [Act.put,List.getElem_toArray,List.getElem_cons_succ,List.getElem_cons_zero,List.setIfInBounds_toArray,List.set_cons_zero,List.set_cons_succ])
    refine wpAnyH_done (by as_aux_lemma => kernel_rfl) ?_ _
    clear hS
    (try go_wp2_with (fail))
    go_meet
    exact ⟨V.heap.size,x,A2,c2,A3,c3,A4,c4,a2,b2,rfl,zd ⟨HX.out.fld.chg (set8R _ _ _ _ _ _ _ _ _ _) (by show ¬ g = _; omega),set8 HCC.out (.inr zz4) _ _ _ _ _ _ _ _,bx8 XB.out,zz4,HX.out.al,HX.out.good,HX.out.back,⟨_,Lay.keep (Lay.tight HX.out.rdx) (fun b k => (set8R _ _ _ _ _ _ _ _ _ _).block_ne (by have k1 : Va.heap.size ≤ b:=k.1; omega) k.2),fun b k => by have k1 : Va.heap.size ≤ b:=k.1; show V.heap.size ≤ b; omega,fun k => by have k1 : Va.heap.size ≤ V.heap.size:=k.1; omega⟩⟩⟩
  as_aux_lemma =>
   (try rw [if_pos zz22])
   clear hS
   go_simp
   refine (impl_sig V.drew g t a1 b1 HD0.out ht ha1).mono ?_
   rintro e_ wc ⟨cs,x,a2,b2,rfl,hr⟩
   have HX:=zd hr
   obtain ⟨A2,c2,S2,A3,c3,S3,A4,c4,S4,rfl, -⟩:=Sig.open hr.rdx
   have HCC:=zd (Chg.trans HCD.out (hr.chg.mono (T:=fun b => b = g ∨ V.heap.size ≤ b) (fun b _ k => k.imp id (fun k => zz4))))
   simp only [Sig.cs]
   clear hr
   refine hK.out _ _ (HS.out _ HCC.out) (fun hS => ?_)
   clear hK K
   (try simp only [Act.put,List.getElem_toArray,List.getElem_cons_succ,List.getElem_cons_zero,List.setIfInBounds_toArray,List.set_cons_zero,List.set_cons_succ])
   refine wpAnyH_take (i:=3) (v:=.agg #[.int .i64 h.house, .int .i64 h.epoch, .string h.root, .string h.prev, .int .i64 x.at_, .slice A2 x.open_.length c2, .slice A3 x.shut.length c3, .slice A4 x.sides.length c4]) rfl (by as_aux_lemma => kernel_rfl) (by as_aux_lemma => kernel_rfl) (by as_aux_lemma => kernel_rfl) (fun _ _ _ h => h) (yieldsIf_seal zz22 _ _ rfl zz22 zz22) hS ?_
   (try simp only [Act.put,List.getElem_toArray,List.getElem_cons_succ,List.getElem_cons_zero,List.setIfInBounds_toArray,List.set_cons_zero,List.set_cons_succ])
   have hlc:=HX.out.chg.size
   refine wpAnyH_ready (rs:=[4]) (by as_aux_lemma => kernel_rfl) zz17 (AllReadyH.cons rfl (fun K hK => ?_) AllReadyH.nil)
   (try rw [if_pos zz22])
   clear hS
   go_simp
   obtain ⟨Vb,hVb⟩ : ∃ Z,wc.alloc (.cells #[.int .i64 0, .int .i64 0, .string ⟨#[]⟩, .string ⟨#[]⟩, .int .i64 0, .slice none 0 0, .slice none 0 0, .slice none 0 0] 76) = Z:=⟨_,rfl⟩
   have hVbf : Below wc.heap.size wc Vb ∧ wc.heap.size < Vb.heap.size ∧ Bx Vb wc.heap.size #[.int .i64 0, .int .i64 0, .string ⟨#[]⟩, .string ⟨#[]⟩, .int .i64 0, .slice none 0 0, .slice none 0 0, .slice none 0 0] 76:=by
    rw [← hVb]
    exact ⟨(Below.refl _ _).alloc (Nat.le_refl _) _,zz17,Bx.new _ _ _⟩
   rw [hVb]
   clear hVb
   obtain ⟨hcb,hlb,hxb⟩:=hVbf
   have HCB:=zd (HCC.out.below hcb HCC.out.size); have HXB:=zd hxb; have HBB:=zd hcb; clear hcb hxb
   refine hK.out _ _ (HS.out _ HCB.out) (fun hS => ?_)
   clear hK K
   (try simp only [Act.put,List.getElem_toArray,List.getElem_cons_succ,List.getElem_cons_zero,List.setIfInBounds_toArray,List.set_cons_zero,List.set_cons_succ])
   refine wpAnyH_ready (rs:=[5]) (by as_aux_lemma => kernel_rfl) zz17 (AllReadyH.cons rfl (fun K hK => ?_) AllReadyH.nil)
   have xb:=HXB.out
   have XB:=zd xb; clear xb
   (try rw [if_pos zz22])
   clear hS
   refine wp_store_seal _ _ rfl zz22 zz22 XB.out ?_
   refine hK.out _ _ (HS.out _ (set8 HCB.out (.inr zz4) _ _ _ _ _ _ _ _)) (fun hS => ?_)
   clear hK K
   (try simp only [Act.put,List.getElem_toArray,List.getElem_cons_succ,List.getElem_cons_zero,List.setIfInBounds_toArray,List.set_cons_zero,List.set_cons_succ])
   refine wpAnyH_done (by as_aux_lemma => kernel_rfl) ?_ _
   clear hS
   (try go_wp2_with (fail))
   go_meet
   exact ⟨wc.heap.size,x,A2,c2,A3,c3,A4,c4,a2,b2,rfl,zd ⟨(HX.out.fld.below HBB.out HX.out.fld.lt).chg (set8R _ _ _ _ _ _ _ _ _ _) (by show ¬ g = _; omega),set8 HCB.out (.inr zz4) _ _ _ _ _ _ _ _,bx8 XB.out,zz4,HX.out.al,HX.out.good,HX.out.back,⟨_,Lay.keep (Lay.later (Lay.tight HX.out.rdx) HBB.out) (fun b k => (set8R _ _ _ _ _ _ _ _ _ _).block_ne (by have k1 : b < wc.heap.size:=k.2; omega) (by have k1 : b < wc.heap.size:=k.2; omega)),fun b k => k.1,fun k => by have k : wc.heap.size < wc.heap.size:=k.2; omega⟩⟩⟩
 case rest =>
 rename World => U
 obtain ⟨ob,x,A2,c2,A3,c3,A4,c4,a2,b2,rfl,HK⟩:=hcut
 have xR:=XR.out.keep (HK.out.chg.block _ zz4 zz4)
 have HCU:=zd (Chg.trans HCV.out (HK.out.chg.mono (T:=fun b => b = g ∨ w.heap.size ≤ b) (fun b _ k => k.imp id (fun k => zz4))))
 have hrU : w.heap.size < U.heap.size:=xR.lt
 have XRU:=zd xR
 have hob:=HK.out.ob0
 have hobl:=HK.out.box.lt
 clear xR HCV HS HFV XR
 obtain ⟨Sx,hrx,hsx,hnx⟩:=HK.out.rdx
 have HFM:=zd (impl_form U x _ Sx (Lay.weak hrx))
 simp only [Sig.cs] at HFM
 have HRX:=zd (show rd true U (Sig.cs x A2 c2 A3 c3 A4 c4) x (fun b => Sx b ∧ b < U.heap.size) from Lay.tight hrx)
 have HSX:=zd hsx; have HNX:=zd hnx
 clear hrx hsx hnx
 have c0:=HK.out.fld.c0
 have c1:=HK.out.fld.c1
 have c2_:=HK.out.fld.c2
 have cf:=HK.out.fld.cf
 have z4:=HK.out.box.at_ (i:=4) rfl
 have z5:=HK.out.box.at_ (i:=5) rfl
 have z6:=HK.out.box.at_ (i:=6) rfl
 have z7:=HK.out.box.at_ (i:=7) rfl
 go_upto_region 3 with (fail)
 go_cut [5] (fun s5 wx => ∃ r : Bool,s5 = .pointer (some ⟨ob,0,none⟩) ∧ Hid (r = (b2 || !ok || !sigForm x)) ∧ Hid (Fld 151 wx g t a2 r ∧ Chg (fun b => b = g ∨ U.heap.size ≤ b) U wx))
 case first =>
  cases eb : b2
  ·subst eb
   cases ek : ok
   ·subst ek
    go_wp2_with (fail)
    go_meet
    exact ⟨true,rfl,zd rfl,zd ⟨HK.out.fld.bad true,Chg.setCell (Chg.refl _ _) (.inl (.inl rfl)) _⟩⟩
   ·subst ek
    obtain ⟨fm,hfm⟩ : ∃ b,sigForm x = b:=⟨_,rfl⟩
    rw [hfm] at HFM
    have HFM2:=zd hfm; clear hfm
    go_wp2_with (go_at_call 159; refine HFM.out.mono ?_; rintro e6 w6 ⟨rfl,hb6⟩; have cg:=HK.out.fld.below hb6 HK.out.fld.lt; have d2_:=cg.c2; have df:=cg.cf)
    go_meet
    exact ⟨!fm,rfl,zd (by rw [HFM2.out]; simp),zd ⟨cg.bad _,Chg.setCell ((Chg.refl _ _).below hb6 (Nat.le_refl _)) (.inl (.inl rfl)) _⟩⟩
  ·subst eb
   go_wp2_with (fail)
   go_meet
   exact ⟨true,rfl,zd rfl,zd ⟨HK.out.fld.bad true,Chg.setCell (Chg.refl _ _) (.inl (.inl rfl)) _⟩⟩
 case rest =>
 rename World => Y
 obtain ⟨r,rfl,HR,HY⟩:=hcut
 clear c0 c1 c2_ cf z4 z5 z6 z7 HFM
 have hYs:=HY.out.2.size
 have xo:=HK.out.box.keep (HY.out.2.block _ hobl zz4)
 have xr:=XRU.out.keep (HY.out.2.block _ hrU zz4)
 have z0:=xo.at_ (i:=0) rfl
 have z1:=xo.at_ (i:=1) rfl
 have z2:=xo.at_ (i:=2) rfl
 have z3:=xo.at_ (i:=3) rfl
 have z4:=xo.at_ (i:=4) rfl
 have z5:=xo.at_ (i:=5) rfl
 have z6:=xo.at_ (i:=6) rfl
 have z7:=xo.at_ (i:=7) rfl
 have y0:=xr.at_ (i:=0) rfl
 have y1:=xr.at_ (i:=1) rfl
 have y2:=xr.at_ (i:=2) rfl
 have y3:=xr.at_ (i:=3) rfl
 have y4:=xr.at_ (i:=4) rfl
 have y5:=xr.at_ (i:=5) rfl
 have y6:=xr.at_ (i:=6) rfl
 have y7:=xr.at_ (i:=7) rfl
 have yf:=xr.fz
 clear xo xr XRU
 go_wp2_with (fail)
 refine bodyPost_ret (v:=.agg #[.int .i64 h.house, .int .i64 h.epoch, .string h.root, .string h.prev, .int .i64 x.at_, .slice A2 x.open_.length c2, .slice A3 x.shut.length c3, .slice A4 x.sides.length c4]) (by simp [results,Tryz.results162,go_sem, *]) rfl ?_
 clear z0 z1 z2 z3 z4 z5 z6 z7 y0 y1 y2 y3 y4 y5 y6 y7 yf
 have hYU : w.heap.size < Y.heap.size:=zz4
 obtain ⟨F,hF⟩ : ∃ F,((((((((Y.setCell ⟨w.heap.size,0,none⟩ (.int .i64 h.house)).setCell ⟨w.heap.size,1,none⟩ (.int .i64 h.epoch)).setCell ⟨w.heap.size,2,none⟩ (.string h.root)).setCell ⟨w.heap.size,3,none⟩ (.string h.prev)).setCell ⟨w.heap.size,4,none⟩ (.int .i64 x.at_)).setCell ⟨w.heap.size,5,none⟩ (.slice A2 x.open_.length c2)).setCell ⟨w.heap.size,6,none⟩ (.slice A3 x.shut.length c3)).setCell ⟨w.heap.size,7,none⟩ (.slice A4 x.sides.length c4)) = F:=⟨_,rfl⟩
 have hFc : Chg (fun b => b = w.heap.size) Y F:=by rw [← hF]; exact set8R _ _ _ _ _ _ _ _ _ _
 rw [hF]
 clear hF
 have hf : rd true F (Sig.cs x A2 c2 A3 c3 A4 c4) x (fun b => Sx b ∧ b < U.heap.size):=Lay.keep HRX.out (fun b k => by
  have k1 : V.heap.size ≤ b:=HSX.out b k.1
  have k2:=k.2
  exact (hFc.block_ne zz4 zz4).trans (HY.out.2.block b k2 zz4))
 obtain ⟨B0,k0,S0,B1,k1,S1,B2,k2,S2,hcs,iat,l0,m0,r0,s0,l1,m1,r1,s1,l2,m2,r2,s2,pw⟩:=Sig.open hf
 simp only [Sig.cs,List.cons.injEq,Value.slice.injEq,and_true,true_and] at hcs
 obtain ⟨⟨e1,e2⟩,⟨e3,e4⟩,⟨e5,e6⟩⟩:=hcs
 subst e1; subst e2; subst e3; subst e4; subst e5; subst e6
 have hsub : ∀ T : Blks,sub T (fun b => Sx b ∧ b < U.heap.size) → sub T (nw w.heap.size):=fun T kt b kb => by
  have k1 : V.heap.size ≤ b:=HSX.out b (kt b kb).1
  show w.heap.size ≤ b
  omega
 have HD:=Seal.mk' (m:=true) (x:=⟨h,x⟩) (S:=nw w.heap.size) ih ie (by show h.root.size ≤ maxLen; unfold maxLen; omega) (by show h.prev.size ≤ maxLen; unfold maxLen; omega) iat l0 m0 r0 (hsub _ s0) l1 m1 r1 (hsub _ s1) l2 m2 r2 (hsub _ s2) pw
 simp only [Seal.cs] at HD
 refine ⟨_,⟨h,x⟩,a2,r,rfl,HD,HY.out.1.keep (hFc.block_ne zz4 (by have:=HY.out.1.lt; omega)),Chg.trans (HCU.out.trans (HY.out.2.mono (fun b _ k => k.imp id (fun k => zz4)))) (hFc.mono (fun b _ k => .inr (by have k : b = w.heap.size:=k; omega))),HK.out.al,?_,?_⟩
 ·intro hr ha
  rw [HR.out] at hr
  have hb2 : b2 = false:=by cases b2 <;> simp at hr ⊢
  have hok : ok = true:=by cases ok <;> simp at hr ⊢
  have hfm : sigForm x = true:=by cases hx : sigForm x <;> simp [hx] at hr ⊢
  obtain ⟨g1,g2,g3⟩:=HK.out.good hb2
  have h5:=rdSeal_at (H1.out.1 g1) (H2.out.1 hok) zz4
  have h6:=g3 zz4
  rw [h5, ← h6,hfm,if_pos rfl]
 ·intro y hy
  cases e1 : b1
  ·have hs:=H1.out.1 e1
   cases e2 : ok
   ·rw [rdSeal_no2 hs (H2.out.2 e2)] at hy; cases hy
   ·by_cases hz : t.size = a1 + 321
    ·have h5:=rdSeal_at hs (H2.out.1 e2) hz
     cases e3 : b2
     ·obtain ⟨g1,g2,g3⟩:=HK.out.good e3
      have h6:=g3 zz4
      rw [h5, ← h6] at hy
      cases hx : sigForm x
      ·rw [hx] at hy; simp at hy
      ·exact ⟨by rw [HR.out,e3,e2,hx]; rfl,zz4⟩
     ·rcases HK.out.back e3 with k | k
      ·rw [e1] at k; cases k
      ·omega
    ·rw [rdSeal_no3 hs hz] at hy; cases hy
  ·rw [rdSeal_no1 (H1.out.2 e1)] at hy; cases hy
end Go.Proofs.YtlfnmbcnehaikaaGreatDoor
