/- A part of the proof. -/
import Derived.Test.YtlfnmbcnehaikaaGreatDoorHApL22xRj
import Derived.Test.YtlfnmbcnehaikaaGreatDoorHApSn
set_option linter.unusedVariables false
set_option linter.unusedSimpArgs false
set_option maxRecDepth 20000
set_option maxHeartbeats 16000000
namespace Go.Proofs.YtlfnmbcnehaikaaGreatDoor
open Go.RowKit Lay Mk
def Fld (ty : TypeId) (w : World) (g : Nat) (t : ByteArray) (a : Nat) (b : Bool) : Prop:=w.heap[g]? = some (.cells #[.string t, .int .i64 a, .bool b] ty (0,0))
section
variable {ty : TypeId} {w w' : World} {g : Nat} {t : ByteArray} {a : Nat} {b : Bool}
theorem Fld.lt (h : Fld ty w g t a b) : g < w.heap.size:=(Array.getElem?_eq_some_iff.1 h).1
theorem Fld.c0 (h : Fld ty w g t a b) : w.cell? ⟨g,0,none⟩ = some (.string t):=by have:=cell_of_row w g 0 _ _ _ h; simpa using this
theorem Fld.c1 (h : Fld ty w g t a b) : w.cell? ⟨g,1,none⟩ = some (.int .i64 a):=by have:=cell_of_row w g 1 _ _ _ h; simpa using this
theorem Fld.c2 (h : Fld ty w g t a b) : w.cell? ⟨g,2,none⟩ = some (.bool b):=by have:=cell_of_row w g 2 _ _ _ h; simpa using this
theorem Fld.cf (h : Fld ty w g t a b) : ∀ o,w.frozen? ⟨g,o,none⟩ = false:=fun o => frozen_of_row _ _ o _ _ h
theorem Fld.keep (h : Fld ty w g t a b) (e : w'.heap[g]? = w.heap[g]?) : Fld ty w' g t a b:=e.trans h
theorem Fld.bad (h : Fld ty w g t a b) (c : Bool) : Fld ty (w.setCell ⟨g,2,none⟩ (.bool c)) g t a c:=by
 unfold Fld at *
 simp only [World.setCell,Array.getElem?_modify,h]
 simp
theorem Fld.to (h : Fld ty w g t a b) (x : Int) (y : Nat) (e : x = y) : Fld ty (w.setCell ⟨g,1,none⟩ (.int .i64 x)) g t y b:=by
 subst e
 unfold Fld at *
 simp only [World.setCell,Array.getElem?_modify,h]
 simp
theorem Fld.below {B : Nat} (h : Fld ty w g t a b) (hb : Below B w w') (hl : g < B) : Fld ty w' g t a b:=h.keep (hb.block _ hl)
theorem Fld.new (w : World) (ty : TypeId) (t : ByteArray) : Fld ty (w.alloc (.cells #[.string t, .int .i64 0, .bool false] ty)) w.heap.size t 0 false:=heap_alloc_new w _
theorem chg_one {o : Nat} {v : Value} : Chg (fun b => b = g) w (w.setCell ⟨g,o,none⟩ v):=Chg.setCell (S:=fun b => b = g) (p:=⟨g,o,none⟩) (Chg.refl _ _) (Or.inl (show (fun b => b = g) g from rfl)) _
theorem chg_drew {v : World} {S : Blks} (h : Chg S w v) (n : Nat) : Chg S w (v.drewN n):=by
 obtain ⟨a,b,c,d,e⟩:=h
 exact ⟨a,b,c,d,e⟩
end
theorem impl_short_no (w : World) (g : Nat) (t : ByteArray) (a : Nat) (b : Bool) (hF : Fld 151 w g t a b) (ht : t.size ≤ 1048576) (ha : a ≤ t.size) (h : rdShort t a = none) : Calls Tryz.prog 132 #[.pointer (some ⟨g,0,none⟩)] w fun e w' => e = .returned (.string ⟨#[]⟩) ∧ Fld 151 w' g t a true ∧ Chg (fun b => b = g) w w':=by
 have c0:=hF.c0
 have c1:=hF.c1
 have c2:=hF.c2
 have cf:=hF.cf
 have HF:=zd hF
 clear hF
 have HV : Hid (∀ W,Calls Tryz.prog 181 #[.string t, .int .i64 a] W fun e w' => e = .returned (.tuple #[.string ⟨#[]⟩, .int .i64 0, .bool false]) ∧ W = w'):=zd (fun W => by
  have h1:=impl_ReadShort W t ht a ha
  rw [h] at h1
  exact h1)
 clear h
 go_enter Tryz.func132,Tryz.ntmps132
 go_wp2
 go_quiet ((go_at_call 181; exact quiet_w (HV.out _)))
 go_wp2
 go_ret
 exact ⟨rfl,(HF.out.keep (w':=w.drewN _) rfl).bad true,chg_one (w:=w.drewN _) |> fun h => (chg_drew (Chg.refl _ _) _).trans h⟩
theorem impl_short_yes (w : World) (g : Nat) (t : ByteArray) (a : Nat) (b : Bool) (hF : Fld 151 w g t a b) (ht : t.size ≤ 1048576) (ha : a ≤ t.size) {s : ByteArray} {x : Nat} (h : rdShort t a = some (s,x)) : Calls Tryz.prog 132 #[.pointer (some ⟨g,0,none⟩)] w fun e w' => e = .returned (.string s) ∧ Fld 151 w' g t x b ∧ Chg (fun b => b = g) w w':=by
 have c0:=hF.c0
 have c1:=hF.c1
 have c2:=hF.c2
 have cf:=hF.cf
 have HF:=zd hF
 clear hF
 have HV : Hid (∀ W,Calls Tryz.prog 181 #[.string t, .int .i64 a] W fun e w' => e = .returned (.tuple #[.string s, .int .i64 x, .bool true]) ∧ W = w'):=zd (fun W => by
  have h1:=impl_ReadShort W t ht a ha
  rw [h] at h1
  exact h1)
 clear h
 go_enter Tryz.func132,Tryz.ntmps132
 go_wp2
 go_quiet ((go_at_call 181; exact quiet_w (HV.out _)))
 go_wp2
 go_ret
 exact ⟨rfl,(HF.out.keep (w':=w.drewN _) rfl).to _ _ rfl,chg_one (w:=w.drewN _) |> fun h => (chg_drew (Chg.refl _ _) _).trans h⟩
theorem impl_bytes_yes (w : World) (g : Nat) (t : ByteArray) (a : Nat) (b : Bool) (hF : Fld 151 w g t a b) (ht : t.size ≤ 1048576) (ha : a ≤ t.size) (n : Nat) (hn : n ≤ 16) (hb : b = false) (hl : a + n ≤ t.size) : Calls Tryz.prog 214 #[.pointer (some ⟨g,0,none⟩), .int .i64 n] w fun e w' => e = .returned (.string (t.extract a (a + n))) ∧ Fld 151 w' g t (a + n) false ∧ Chg (fun b => b = g) w w':=by
 subst hb
 have c0:=hF.c0
 have c1:=hF.c1
 have c2:=hF.c2
 have cf:=hF.cf
 have HF:=zd hF
 clear hF
 have d0 : decide ((n : Int) < 0) = false:=zz21
 have d1 : decide ((t.size : Int) - (a : Int) < (n : Int)) = false:=zz21
 have hw1 : IntKind.i64.wrap ((t.size : Int) - a) = (t.size : Int) - a:=zz16
 have hw2 : IntKind.i64.wrap ((a : Int) + n) = (a : Int) + n:=zz16
 have hw3 : IntKind.i64.wrap ((a : Int) + n - n) = (a : Int):=zz16
 have b1 : (a : Int) ≤ (a : Int) + n:=zz4
 have b2 : (a : Int) + n ≤ (t.size : Int):=zz4
 go_enter Tryz.func214,Tryz.ntmps214
 go_wp2
 go_quiet (fail)
 go_wp2
 go_quiet (fail)
 go_wp2
 go_ret
 exact ⟨rfl,((HF.out.keep (w':=w.drewN _) rfl).to _ _ zz4).keep rfl,chg_drew ((chg_drew (Chg.refl _ _) _).trans chg_one) _⟩
theorem impl_bytes_no (w : World) (g : Nat) (t : ByteArray) (a : Nat) (b : Bool) (hF : Fld 151 w g t a b) (ht : t.size ≤ 1048576) (ha : a ≤ t.size) (n : Nat) (hn : n ≤ 16) (hb : b = true ∨ t.size < a + n) : Calls Tryz.prog 214 #[.pointer (some ⟨g,0,none⟩), .int .i64 n] w fun e w' => e = .returned (.string ⟨#[]⟩) ∧ Fld 151 w' g t a true ∧ Chg (fun b => b = g) w w':=by
 have c0:=hF.c0
 have c1:=hF.c1
 have c2:=hF.c2
 have cf:=hF.cf
 have HF:=zd hF
 clear hF
 have d0 : decide ((n : Int) < 0) = false:=zz21
 have hw1 : IntKind.i64.wrap ((t.size : Int) - a) = (t.size : Int) - a:=zz16
 cases b
 ·have d1 : decide ((t.size : Int) - (a : Int) < (n : Int)) = true:=by
   rw [decide_eq_true_iff]
   rcases hb with hb | hb
   ·cases hb
   ·omega
  clear hb
  go_enter Tryz.func214,Tryz.ntmps214
  go_wp2
  go_quiet (fail)
  go_wp2
  go_ret
  exact ⟨rfl,(HF.out.keep (w':=w.drewN _) rfl).bad true,chg_one (w:=w.drewN _) |> fun h => (chg_drew (Chg.refl _ _) _).trans h⟩
 ·clear hb
  go_enter Tryz.func214,Tryz.ntmps214
  go_wp2
  go_quiet (fail)
  go_wp2
  go_ret
  exact ⟨rfl,(HF.out.keep (w':=w.drewN _) rfl).bad true,chg_one (w:=w.drewN _) |> fun h => (chg_drew (Chg.refl _ _) _).trans h⟩
theorem impl_one_yes (w : World) (g : Nat) (t : ByteArray) (a : Nat) (b : Bool) (hF : Fld 151 w g t a b) (ht : t.size ≤ 1048576) (ha : a ≤ t.size) (hb : b = false) (hl : a < t.size) : Calls Tryz.prog 213 #[.pointer (some ⟨g,0,none⟩)] w fun e w' => e = .returned (.int .i64 (t[a].toNat : Int)) ∧ Fld 151 w' g t (a + 1) false ∧ Chg (fun b => b = g) w w':=by
 have HV:=zd (impl_bytes_yes w g t a b hF ht ha 1 zz4 hb zz4)
 have hz : (t.extract a (a + 1)).size = 1:=zz52
 have hx : (t.extract a (a + 1))[0]'zz4 = t[a]:=by rw [ByteArray.getElem_extract]; rfl
 obtain ⟨E,hE⟩ : ∃ E,t.extract a (a + 1) = E:=⟨_,rfl⟩
 rw [hE] at HV hz
 have HX : Hid (∀ h,(E[0]'h).toNat = t[a].toNat):=zd (fun h => by subst hE; rw [hx])
 have hem : (E.toList == ([] : List UInt8)) = false:=by rw [empty_eq]; exact decide_eq_false (fun e => by rw [e] at hz; exact absurd hz zz44)
 clear hE hx hF
 have hz0 : (0 : Int) < (E.size : Int):=zz4
 have hbt:=t[a].toNat_lt
 go_enter Tryz.func213,Tryz.ntmps213
 go_wp2_with (go_at_call 214; refine HV.out.mono ?_; rintro e0 w1 ⟨rfl,hF1,hc1⟩)
 go_ret
 exact ⟨ret_int (by rw [HX.out]; exact IntWalk.wrap64_in _ zz4),hF1,hc1⟩
theorem impl_one_no (w : World) (g : Nat) (t : ByteArray) (a : Nat) (b : Bool) (hF : Fld 151 w g t a b) (ht : t.size ≤ 1048576) (ha : a ≤ t.size) (hb : b = true ∨ t.size ≤ a) : Calls Tryz.prog 213 #[.pointer (some ⟨g,0,none⟩)] w fun e w' => e = .returned (.int .i64 0) ∧ Fld 151 w' g t a true ∧ Chg (fun b => b = g) w w':=by
 have HV:=zd (impl_bytes_no w g t a b hF ht ha 1 zz4 (hb.imp id (fun h => zz4)))
 clear hF hb
 go_enter Tryz.func213,Tryz.ntmps213
 go_wp2_with (go_at_call 214; refine HV.out.mono ?_; rintro e0 w1 ⟨rfl,hF1,hc1⟩)
 go_ret
 exact ⟨rfl,hF1,hc1⟩
structure HsRes (ty : TypeId) (w : World) (g : Nat) (t : ByteArray) (a n : Nat) (b : Bool) (w' : World) (A : Option Addr) (c : Nat) (L : List ByteArray) (a' : Nat) (b' : Bool) : Prop where
 len : L.length = n
 sm : ∀ s ∈ L,s.size ≤ 16
 le : L.length ≤ c
 cm : c ≤ maxLen
 row : Row true w' A c L (nw w.heap.size)
 fld : Fld ty w' g t a' b'
 chg : Chg (fun b => b = g ∨ w.heap.size ≤ b) w w'
 al : a' ≤ t.size
 ag : a ≤ a'
 good : b' = false → b = false ∧ L = cuts t a n ∧ a' = a + 16 * n
 back : b' = true → b = true ∨ t.size < a + 16 * n
theorem impl_hashes (w : World) (g : Nat) (t : ByteArray) (a : Nat) (b : Bool) (hF : Fld 151 w g t a b) (ht : t.size ≤ 1048576) (ha : a ≤ t.size) (n : Nat) (hn : n ≤ 8) : Calls Tryz.prog 215 #[.pointer (some ⟨g,0,none⟩), .int .i64 n, .int .i64 16] w fun e w' => ∃ A c L a' b',e = .returned (.slice A L.length c) ∧ HsRes 151 w g t a n b w' A c L a' b':=by
 have HF0:=zd hF
 clear hF
 go_enter Tryz.func215,Tryz.ntmps215
 go_wp2
 go_loopw [7,9] (fun u i wr => ∃ (k : Nat) (L : List ByteArray) (A : Option Addr) (c a' : Nat) (b' : Bool),k ≤ n ∧ i = .int .i64 k ∧ u = .slice A L.length c ∧ Hid (HsRes 151 w g t a k b wr A c L a' b')) (fun _ i _ => n - (intOf i).toNat)
 case atStart => exact ⟨0, [],none,0,a,b,Nat.zero_le _,rfl,rfl,zd ⟨rfl,zz17,zz17,zz44,row_nil _ _,HF0.out,Chg.refl _ _,ha,Nat.le_refl _,fun h => ⟨h,rfl,zz4⟩,fun h => .inl h⟩⟩
 case round =>
  obtain ⟨k,L,A,c,a',b',hk,rfl,rfl,HR⟩:=hrel
  have hLb : L.length ≤ 8:=by rw [HR.out.len]; omega
  have hal:=HR.out.al
  have hsz:=HR.out.chg.size
  by_cases hlt : k < n
  ·have hgl : g < w.heap.size:=HF0.out.lt
   by_cases hgood : b' = false ∧ a' + 16 ≤ t.size
   ·have HV:=zd (impl_bytes_yes wr g t a' b' HR.out.fld ht hal 16 (Nat.le_refl _) hgood.1 hgood.2)
    obtain ⟨E,hE⟩ : ∃ E,t.extract a' (a' + 16) = E:=⟨_,rfl⟩
    have HE:=zd hE
    have hez : E.size = 16:=by rw [← hE,ByteArray.size_extract]; omega
    have HOK : Hid (Flat.ok (α:=ByteArray) E):=zd (show E.size ≤ maxLen by unfold maxLen; omega)
    rw [hE] at HV
    clear hE
    go_wp2_with (fail)
    refine HV.out.mono ?_
    rintro e1 w1 ⟨rfl,hF1,hc1⟩
    have hz1:=hc1.size
    have HRW : Hid (Row true w1 A c L (nw w.heap.size)):=zd (Row.chg HR.out.row hc1 (fun q h1 h2 => by unfold nw at h1; omega))
    have HCH : Hid (Chg (fun b => b = g ∨ w.heap.size ≤ b) w w1):=zd (HR.out.chg.trans (hc1.mono (fun b _ h => .inl h)))
    have HF1:=zd hF1
    clear hF1 hc1
    have hle:=HR.out.le
    have hcm:=HR.out.cm
    go_wp2_with (at_builtin; refine wpList_app (α:=ByteArray) rfl _ _ rfl rfl rfl (HRW.out.allocC _) hle hcm rfl rfl (src1 HOK.out rfl rfl) (disj_none_ _) zz4 ?_; intro A' cap' w4 h1 h2 h3 h4)
    go_roundw
    case rel => exact ⟨k + 1,L ++ [E],A',cap',a' + 16,false,hlt,by go_num,zz17,zd ⟨by rw [List.length_append,HR.out.len]; rfl,by intro s hs; rcases List.mem_append.1 hs with hs | hs; exact HR.out.sm s hs; rw [List.mem_singleton.1 hs]; omega,by simpa using h1,h2,row_og h3 (fun b hb => by unfold nw; simp at hb; omega),(HF1.out.keep (Below.heap_alloc w1 _ _ zz4)).keep (h4.block _ zz23 (by unfold nw; omega)),(HCH.out.alloc _).trans (h4.mono (fun b _ h => .inr h)),hgood.2,by have:=HR.out.ag; omega,fun _ => by
     obtain ⟨q1,q2,q3⟩:=HR.out.good hgood.1
     exact ⟨q1,by rw [cuts, ← q2, ← HE.out,q3],zz4⟩,fun h => by cases h⟩⟩
    case measure => simp [intOf]; omega
   ·have hbad : b' = true ∨ t.size < a' + 16:=by
     cases b'
     ·exact .inr (Nat.lt_of_not_le (fun h => hgood ⟨rfl,h⟩))
     ·exact .inl rfl
    have HV:=zd (impl_bytes_no wr g t a' b' HR.out.fld ht hal 16 (Nat.le_refl _) hbad)
    have HBK : Hid (b = true ∨ t.size < a + 16 * (k + 1)):=zd (by
     rcases hbad with h | h
     ·exact (HR.out.back h).imp id (fun h => zz4)
     ·cases hb' : b'
      ·have:=HR.out.good hb'; right; omega
      ·exact (HR.out.back hb').imp id (fun h => zz4))
    clear hgood hbad
    go_wp2_with (fail)
    refine HV.out.mono ?_
    rintro e1 w1 ⟨rfl,hF1,hc1⟩
    have hz1:=hc1.size
    have HRW : Hid (Row true w1 A c L (nw w.heap.size)):=zd (Row.chg HR.out.row hc1 (fun q h1 h2 => by unfold nw at h1; omega))
    have HCH : Hid (Chg (fun b => b = g ∨ w.heap.size ≤ b) w w1):=zd (HR.out.chg.trans (hc1.mono (fun b _ h => .inl h)))
    have HF1:=zd hF1
    clear hF1 hc1
    have hle:=HR.out.le
    have hcm:=HR.out.cm
    have HOK : Hid (Flat.ok (α:=ByteArray) ⟨#[]⟩):=zd (Nat.zero_le _)
    go_wp2_with (at_builtin; refine wpList_app (α:=ByteArray) rfl _ _ rfl rfl rfl (HRW.out.allocC _) hle hcm rfl rfl (src1 HOK.out rfl rfl) (disj_none_ _) zz4 ?_; intro A' cap' w4 h1 h2 h3 h4)
    go_roundw
    case rel => exact ⟨k + 1,L ++ [⟨#[]⟩],A',cap',a',true,hlt,by go_num,zz17,zd ⟨by rw [List.length_append,HR.out.len]; rfl,by intro s hs; rcases List.mem_append.1 hs with hs | hs; exact HR.out.sm s hs; rw [List.mem_singleton.1 hs]; exact Nat.zero_le _,by simpa using h1,h2,row_og h3 (fun b hb => by unfold nw; simp at hb; omega),(HF1.out.keep (Below.heap_alloc w1 _ _ zz4)).keep (h4.block _ zz23 (by unfold nw; omega)),(HCH.out.alloc _).trans (h4.mono (fun b _ h => .inr h)),hal,HR.out.ag,fun h => (by cases h),fun _ => HBK.out⟩⟩
    case measure => simp [intOf]; omega
  ·have hke : k = n:=by omega
   subst hke
   go_wp2
   go_ret
   exact ⟨A,c,L,a',b',rfl,HR.out⟩
end Go.Proofs.YtlfnmbcnehaikaaGreatDoor
namespace Go.Proofs.YtlfnmbcnehaikaaGreatDoor
open Go.RowKit Lay Mk
theorem spec_LockOf (w : World) (s : ByteArray) (hs : s.size ≤ 200) : Calls Tryz.prog 126 #[.string s] w fun e w' => e = .returned (.string (lockOf s)) ∧ Below w.heap.size w w':=by
 go_enter Tryz.func126,Tryz.ntmps126
 go_wp2_with (fail)
 refine (spec_TagHash _ 6 zz30 [s] _ _ _ (row_one w s (ml hs zz4) _) zz17 16 zz30).mono ?_
 rintro e5 w5 ⟨rfl,hb5⟩
 go_wp2
 go_ret
 exact ⟨rfl,Below.via hb5⟩
theorem spec_SigOk (w : World) (root t : ByteArray) (x : Sig) (cs : List Value) (S : Blks) (hx : rd false w cs x S) : Calls Tryz.prog 94 #[.string root, .string t, .agg cs.toArray] w fun e w' => e = .returned (.bool (sigOk root t x)) ∧ Below w.heap.size w w':=by
 have HForm:=zd (fun W h => spec_form W x cs S (Lay.later hx h))
 have HOK : Hid (sigOk root t x = ((sigForm x && decide (t.size ≤ 200)) && decide (sigRoot t x = root))):=zd rfl
 obtain ⟨A0,k0,S0,A1,k1,S1,A2,k2,S2,rfl,ha,l0,m0,r0,_,l1,m1,r1,_,l2,m2,r2,_⟩:=Sig.open hx
 clear hx
 cases hok : (sigForm x && decide (t.size ≤ 200))
 ·rw [hok] at HOK
  cases hf : sigForm x
  ·rw [hf] at HForm
   simp only [Sig.cs]
   simp only [Sig.cs] at HForm
   go_enter Tryz.func94,Tryz.ntmps94
   go_wp2_with (fail)
   refine (HForm.out _ ((Below.refl _ _).alloc (Nat.le_refl _) _)).mono ?_
   rintro e1 w1 ⟨rfl,hb1⟩
   go_wp2
   go_ret
   exact ⟨ya1 (by rw [HOK.out]; rfl),Below.via hb1⟩
  ·rw [hf] at HForm hok
   have h200 : 200 < t.size:=by simpa using hok
   simp only [Sig.cs]
   simp only [Sig.cs] at HForm
   go_enter Tryz.func94,Tryz.ntmps94
   go_wp2_with (fail)
   refine (HForm.out _ ((Below.refl _ _).alloc (Nat.le_refl _) _)).mono ?_
   rintro e1 w1 ⟨rfl,hb1⟩
   go_wp2
   go_ret
   exact ⟨ya1 (by rw [HOK.out]; rfl),Below.via hb1⟩
 rw [hok] at HOK
 have hf : sigForm x = true:=by rw [Bool.and_eq_true] at hok; exact hok.1
 have h200 : t.size ≤ 200:=by rw [Bool.and_eq_true] at hok; simpa using hok.2
 rw [hf] at HForm
 obtain ⟨⟨ha0,ha1⟩,hw0,hw1,hw2⟩:=form_parts hf
 obtain ⟨n0,z0⟩:=wide_at hw0
 obtain ⟨n1,z1⟩:=wide_at hw1
 obtain ⟨n2,z2⟩:=wide_at hw2
 have HRoot : Hid (sigRoot t x = climb (tagHash 6 (locksTo (signBits t) x 8) 16) x.at_.toNat x.sides):=zd rfl
 have hbl:=signBits_lt t
 obtain ⟨at_,op,sh,si⟩:=x
 obtain ⟨a,rfl⟩ : ∃ a : Nat,at_ = a:=⟨at_.toNat,by simp only at ha0; omega⟩
 simp only at ha l0 m0 r0 l1 m1 r1 l2 m2 r2 ha0 ha1 hw0 hw1 hw2 n0 z0 n1 z1 n2 z2
 simp only [Sig.cs]
 simp only [Sig.cs] at HForm
 rw [n0,n1,n2] at HForm
 rw [n0,n1,n2]
 go_enter Tryz.func94,Tryz.ntmps94
 have hV : ∀ v,v = w.alloc (.cells #[.int .i64 (a : Int), .slice A0 8 k0, .slice A1 8 k1, .slice A2 4 k2] 74) → Below w.heap.size w v ∧ v.cell? ⟨w.heap.size,0,none⟩ = some (.int .i64 (a : Int)) ∧ v.cell? ⟨w.heap.size,1,none⟩ = some (.slice A0 8 k0) ∧ v.cell? ⟨w.heap.size,2,none⟩ = some (.slice A1 8 k1) ∧ v.cell? ⟨w.heap.size,3,none⟩ = some (.slice A2 4 k2) ∧ w.heap.size < v.heap.size:=by
  rintro v rfl
  exact ⟨(Below.refl _ _).alloc (Nat.le_refl _) _,ya2 _ _ _ _ _ rfl,ya2 _ _ _ _ _ rfl,ya2 _ _ _ _ _ rfl,ya2 _ _ _ _ _ rfl,zz17⟩
 go_wp2_with (fail)
 refine (HForm.out _ ((Below.refl _ _).alloc (Nat.le_refl _) _)).mono ?_
 rintro e1 w1 ⟨rfl,hb1⟩
 obtain ⟨hBv,c0,c1,c2,c3,hsz⟩:=hV _ rfl
 obtain ⟨v,hv⟩ : ∃ v,w.alloc (.cells #[.int .i64 (a : Int), .slice A0 8 k0, .slice A1 8 k1, .slice A2 4 k2] 74) = v:=⟨_,rfl⟩
 rw [hv] at hBv c0 c1 c2 c3 hsz hb1
 clear hv hV HForm
 replace c0:=(hb1.cell (p:=⟨w.heap.size,0,none⟩) hsz).trans c0
 replace c1:=(hb1.cell (p:=⟨w.heap.size,1,none⟩) hsz).trans c1
 replace c2:=(hb1.cell (p:=⟨w.heap.size,2,none⟩) hsz).trans c2
 replace c3:=(hb1.cell (p:=⟨w.heap.size,3,none⟩) hsz).trans c3
 have hB1 : Below w.heap.size w w1:=hBv.trans (hb1.mono (Nat.le_of_lt hsz))
 have hs1 : w.heap.size < w1.heap.size:=Nat.lt_of_lt_of_le hsz hb1.size
 clear hBv hb1 hsz
 have q0 : Row false w1 A0 k0 op S0:=Row.later r0 hB1
 have q1 : Row false w1 A1 k1 sh S1:=Row.later r1 hB1
 have q2 : Row false w1 A2 k2 si S2:=Row.later r2 hB1
 clear r0 r1 r2 l0 l1 l2 m0 m1 m2 hw0 hw1 hw2
 go_wp2_with (fail)
 refine (spec_SignBitsOf _ t h200).mono ?_
 rintro e2 w2 ⟨rfl,hb2⟩
 obtain ⟨bits,hbits⟩ : ∃ b,signBits t = b:=⟨_,rfl⟩
 rw [hbits] at hbl HRoot ⊢
 clear hbits
 have hz2:=hb2.size
 obtain ⟨g,hg⟩ : ∃ g,w1.heap.size = g:=⟨_,rfl⟩
 simp only [hg] at hb2 hz2 hs1 ⊢
 have H2:=zd (hb2.alloc hz2 (.cells #[] 9)); have H1:=zd hB1; have HG:=zd hg
 have hr0:=zd (row_lit0 (α:=ByteArray) w2 9 (fun b => g ≤ b) rfl hz2)
 have hgw : w.heap.size ≤ g:=Nat.le_of_lt hs1
 clear hb2 hB1 hg
 go_wp2
 go_loopw [8,9] (fun u i wr => ∃ (k : Nat) (L : List ByteArray) (A : Option Addr) (c : Nat),k ≤ 8 ∧ i = .int .i64 k ∧ u = .slice A L.length c ∧ Hid (L = locksTo bits ⟨(a : Int),op,sh,si⟩ k) ∧ L.length ≤ 2 * k ∧ L.length ≤ c ∧ c ≤ maxLen ∧ Hid (Row true wr A c L (fun b => g ≤ b)) ∧ Hid (Below g w1 wr) ∧ g ≤ wr.heap.size) (fun _ i _ => 8 - (intOf i).toNat)
 case atStart => exact ⟨0, [],some ⟨w2.heap.size,0,none⟩,0,zz4,rfl,rfl,zd rfl,zz17,zz17,zz44,hr0,H2,zz23⟩
 case round =>
  clear hr0 H2 hz2
  obtain ⟨k,L,A,c,hk,rfl,rfl,HL,hLk,hLc,hcm,HRa,HB,hgz⟩:=hrel
  by_cases hlt : k < 8
  ·obtain ⟨b1,o1,rfl,hl1,f0,s0⟩:=Row.str q0 (i:=k) (by rw [n0]; exact hlt)
   obtain ⟨b2,o2,rfl,hl2,f1,s1⟩:=Row.str q1 (i:=k) (by rw [n1]; exact hlt)
   have g0:=HB.out.cell (p:=⟨b1,o1 + k,none⟩) (by rw [← HG.out]; exact hl1)
   have g1:=HB.out.cell (p:=⟨w.heap.size,1,none⟩) hs1
   rw [f0] at g0
   rw [c1] at g1
   have hosz:=z0 _ (List.getElem_mem (show k < op.length by rw [n0]; exact hlt))
   have hssz:=z1 _ (List.getElem_mem (show k < sh.length by rw [n1]; exact hlt))
   have HP0 : Hid (bitOf bits k = 0 → locksTo bits ⟨(a : Int),op,sh,si⟩ (k + 1) = L ++ [lockOf (op[k]'(show k < op.length by rw [n0]; exact hlt)),sh[k]'(show k < sh.length by rw [n1]; exact hlt)]):=zd (fun e => by rw [locksTo, ← HL.out,pair_zero e,getD_at (show k < op.length by rw [n0]; exact hlt),getD_at (show k < sh.length by rw [n1]; exact hlt)])
   have HP1 : Hid (bitOf bits k ≠ 0 → locksTo bits ⟨(a : Int),op,sh,si⟩ (k + 1) = L ++ [sh[k]'(show k < sh.length by rw [n1]; exact hlt),lockOf (op[k]'(show k < op.length by rw [n0]; exact hlt))]):=zd (fun e => by rw [locksTo, ← HL.out,pair_one e,getD_at (show k < op.length by rw [n0]; exact hlt),getD_at (show k < sh.length by rw [n1]; exact hlt)])
   obtain ⟨y,hy⟩ : ∃ y,op[k]'(show k < op.length by rw [n0]; exact hlt) = y:=⟨_,rfl⟩
   obtain ⟨z,hz⟩ : ∃ z,sh[k]'(show k < sh.length by rw [n1]; exact hlt) = z:=⟨_,rfl⟩
   rw [hy] at hosz HP0 HP1
   simp only [hy] at g0
   rw [hz] at hssz HP0 HP1
   simp only [hz] at f1
   have HF1:=zd f1
   clear hy hz f0 f1 s0 s1 hl1
   have hym : y.size ≤ maxLen:=ml (Nat.le_of_eq hosz) zz4
   have hzm : z.size ≤ maxLen:=ml (Nat.le_of_eq hssz) zz4
   have hlk : (lockOf y).size = 16:=lockOf_size zz4
   go_wp2_with (fail)
   refine (spec_LockOf _ y zz4).mono ?_
   rintro e5 w5 ⟨rfl,hb5⟩
   obtain ⟨lk,hlkk⟩ : ∃ l,lockOf y = l:=⟨_,rfl⟩
   rw [hlkk] at HP0 HP1 hlk ⊢
   have hlm : lk.size ≤ maxLen:=ml (Nat.le_of_eq hlk) zz4
   clear hlkk g0 g1
   have hz5:=hb5.size
   have HR5:=zd (Row.later HRa.out hb5)
   have HB5:=zd (HB.out.trans (hb5.mono zz48))
   have d1:=HB5.out.cell (p:=⟨w.heap.size,2,none⟩) hs1
   rw [c2] at d1
   have d2:=(HB5.out.cell (p:=⟨b2,o2 + k,none⟩) (by rw [← HG.out]; exact hl2)).trans HF1.out
   clear hb5 HF1
   by_cases hbit : bitOf bits k = 0
   ·have hbz : ((bitOf bits k : Int) == 0) = true:=by rw [beq_iff_eq]; omega
    have HN:=zd (HP0.out hbit)
    go_wp2_with (first | (go_at_call 143; refine (spec_BitOf _ bits hbl k hlt).mono ?_; rintro e9 w9 ⟨rfl,rfl⟩) | (at_builtin; refine wpList_app (α:=ByteArray) (xs:=L) rfl _ _ rfl rfl rfl (Row.allocC HR5.out _) hLc hcm rfl rfl (Src.flat (row_pair w5 lk z hlm hzm _)) (disj_none_ _) zz4 ?_; intro A6 c6 w6 p1 p2 p3 p4))
    have hz6:=p4.size
    rw [World.size_alloc] at hz6
    go_roundw
    case rel =>
     exact ⟨k + 1,L ++ [lk,z],A6,c6,zz4,by go_num,by rw [List.length_append]; rfl,zd HN.out.symm,zz37,by rw [List.length_append]; exact p1,p2,zd (p3.mono (fun b hb => by
      rw [World.size_alloc] at hb
      rcases hb with hb | hb | hb
      ·exact hb
      ·exact hb.elim
      ·show g ≤ b; omega)),zd ((HB5.out.alloc (by rw [← HG.out]; exact HB5.out.size) _).trans (p4.to_below zz55 (fun b hb => hb))),zz4⟩
    case measure => simp [intOf]; omega
   ·have hbz : ((bitOf bits k : Int) == 0) = false:=by rw [beq_eq_false_iff_ne]; omega
    have HN:=zd (HP1.out hbit)
    go_wp2_with (first | (go_at_call 143; refine (spec_BitOf _ bits hbl k hlt).mono ?_; rintro e9 w9 ⟨rfl,rfl⟩) | (at_builtin; refine wpList_app (α:=ByteArray) (xs:=L) rfl _ _ rfl rfl rfl (Row.allocC HR5.out _) hLc hcm rfl rfl (Src.flat (row_pair w5 z lk hzm hlm _)) (disj_none_ _) zz4 ?_; intro A6 c6 w6 p1 p2 p3 p4))
    have hz6:=p4.size
    rw [World.size_alloc] at hz6
    go_roundw
    case rel =>
     exact ⟨k + 1,L ++ [z,lk],A6,c6,zz4,by go_num,by rw [List.length_append]; rfl,zd HN.out.symm,zz37,by rw [List.length_append]; exact p1,p2,zd (p3.mono (fun b hb => by
      rw [World.size_alloc] at hb
      rcases hb with hb | hb | hb
      ·exact hb
      ·exact hb.elim
      ·show g ≤ b; omega)),zd ((HB5.out.alloc (by rw [← HG.out]; exact HB5.out.size) _).trans (p4.to_below zz55 (fun b hb => hb))),zz4⟩
    case measure => simp [intOf]; omega
  ·have hke : k = 8:=by omega
   subst hke
   have HR2 : Hid (sigRoot t ⟨(a : Int),op,sh,si⟩ = climb (tagHash 6 L 16) a si):=zd (by rw [HRoot.out,HL.out]; rfl)
   have HTk : Hid (tagOk 6 L = true):=zd (by rw [HL.out]; exact locks_ok hf)
   have hh:=tagHash_size HTk.out
   go_wp2_with (fail)
   refine (spec_TagHash _ 6 zz30 L A c _ (HRa.out.weak) zz4 16 zz30).mono ?_
   rintro e5 w5 ⟨rfl,hb5⟩
   obtain ⟨h,hhe⟩ : ∃ h,tagHash 6 L 16 = h:=⟨_,rfl⟩
   rw [hhe] at HR2 hh ⊢
   have HB5:=zd (HB.out.trans (hb5.mono zz48))
   have g1:=HB5.out.cell (p:=⟨w.heap.size,0,none⟩) hs1
   rw [c0] at g1
   clear hhe hb5 HTk
   go_wp2
   go_loopw [11,12,13] (fun u v i wr => ∃ (k a' : Nat) (h : ByteArray),k ≤ 4 ∧ i = .int .i64 k ∧ u = .string h ∧ v = .int .i64 a' ∧ a' ≤ 15 ∧ h.size = 16 ∧ Hid (sigRoot t ⟨(a : Int),op,sh,si⟩ = climb h a' (si.drop k)) ∧ Hid (Below g w1 wr)) (fun _ _ i _ => 4 - (intOf i).toNat)
   case atStart => exact ⟨0,a,h,zz4,rfl,rfl,rfl,zz4,hh,zd (by rw [HR2.out]; simp),HB5⟩
   case round =>
    clear HR2 HB5 g1 HRa HB hh
    obtain ⟨k,a',h,hk,rfl,rfl,rfl,ha',hh,HR2,HB⟩:=hrel
    have d3:=HB.out.cell (p:=⟨w.heap.size,3,none⟩) hs1
    rw [c3] at d3
    by_cases hlt : k < 4
    ·obtain ⟨b1,o1,rfl,hl1,f0,s0⟩:=Row.str q2 (i:=k) (by rw [n2]; exact hlt)
     have g0:=HB.out.cell (p:=⟨b1,o1 + k,none⟩) (by rw [← HG.out]; exact hl1)
     rw [f0] at g0
     have hsz:=z2 _ (List.getElem_mem (show k < si.length by rw [n2]; exact hlt))
     have HD : Hid (si.drop k = si[k]'(show k < si.length by rw [n2]; exact hlt) :: si.drop (k + 1)):=zd (List.drop_eq_getElem_cons (show k < si.length by rw [n2]; exact hlt))
     obtain ⟨y,hy⟩ : ∃ y,si[k]'(show k < si.length by rw [n2]; exact hlt) = y:=⟨_,rfl⟩
     rw [hy] at hsz HD
     simp only [hy] at g0
     clear hy f0 s0
     have hym : y.size ≤ maxLen:=ml (Nat.le_of_eq hsz) zz4
     have hhm : h.size ≤ maxLen:=ml (Nat.le_of_eq hh) zz4
     by_cases hpar : a' % 2 = 0
     ·have HTok:=zd (tag_two (kind:=3) (s:=h) (t:=y) zz44 zz4 zz4)
      have hh2s:=tagHash_size HTok.out
      have HR3 : Hid (sigRoot t ⟨(a : Int),op,sh,si⟩ = climb (tagHash 3 [h,y] 16) (a' / 2) (si.drop (k + 1))):=zd (by rw [HR2.out,HD.out,climb_even hpar])
      have hp1 : ((a' : Int) % 2 == 0) = true:=by rw [beq_iff_eq]; omega
      have hp2 : ((a' : Int).tmod 2 == 0) = true:=by rw [Int.tmod_eq_emod_of_nonneg zz4]; exact hp1
      have hdv : (a' : Int).tdiv 2 = (a' : Int) / 2:=Int.tdiv_eq_ediv_of_nonneg zz4
      clear HR2 HD hpar
      go_wp2_with (fail)
      refine (spec_TagHash _ 3 zz30 [h,y] _ _ _ (row_pair wr h y hhm hym _) zz17 16 zz30).mono ?_
      rintro e5 w5 ⟨rfl,hb5⟩
      obtain ⟨h2,hh2⟩ : ∃ h2,tagHash 3 [h,y] 16 = h2:=⟨_,rfl⟩
      rw [hh2] at hh2s HR3 ⊢
      have HB5:=zd (HB.out.trans ((Below.via hb5).mono zz48))
      clear hh2 hb5
      go_wp2
      go_roundw
      case rel => exact ⟨k + 1,a' / 2,h2,zz4,by go_num,rfl,by first | (congr 1; omega) | (simp; done),zz4,hh2s,HR3,HB5⟩
      case measure => simp [intOf]; omega
     ·have HTok:=zd (tag_two (kind:=3) (s:=y) (t:=h) zz44 zz4 zz4)
      have hh2s:=tagHash_size HTok.out
      have HR3 : Hid (sigRoot t ⟨(a : Int),op,sh,si⟩ = climb (tagHash 3 [y,h] 16) (a' / 2) (si.drop (k + 1))):=zd (by rw [HR2.out,HD.out,climb_odd hpar])
      have hp1 : ((a' : Int) % 2 == 0) = false:=by rw [beq_eq_false_iff_ne]; omega
      have hp2 : ((a' : Int).tmod 2 == 0) = false:=by rw [Int.tmod_eq_emod_of_nonneg zz4]; exact hp1
      have hdv : (a' : Int).tdiv 2 = (a' : Int) / 2:=Int.tdiv_eq_ediv_of_nonneg zz4
      clear HR2 HD hpar
      go_wp2_with (fail)
      refine (spec_TagHash _ 3 zz30 [y,h] _ _ _ (row_pair wr y h hym hhm _) zz17 16 zz30).mono ?_
      rintro e5 w5 ⟨rfl,hb5⟩
      obtain ⟨h2,hh2⟩ : ∃ h2,tagHash 3 [y,h] 16 = h2:=⟨_,rfl⟩
      rw [hh2] at hh2s HR3 ⊢
      have HB5:=zd (HB.out.trans ((Below.via hb5).mono zz48))
      clear hh2 hb5
      go_wp2
      go_roundw
      case rel => exact ⟨k + 1,a' / 2,h2,zz4,by go_num,rfl,by first | (congr 1; omega) | (simp; done),zz4,hh2s,HR3,HB5⟩
      case measure => simp [intOf]; omega
    ·have hke : k = 4:=by omega
     subst hke
     have HE : Hid (sigRoot t ⟨(a : Int),op,sh,si⟩ = h):=zd (by rw [HR2.out,List.drop_of_length_le zz4]; rfl)
     have HW0:=zd ((H1.out.trans (HB.out.mono hgw)))
     by_cases hroot : h = root
     ·have hse:=str_eq hroot
      rw [HE.out,decide_eq_true hroot] at HOK
      clear hroot
      go_wp2
      go_ret
      exact ⟨ya1 (by rw [HOK.out]; rfl),HW0.out⟩
     ·have hse:=str_ne hroot
      rw [HE.out,decide_eq_false hroot] at HOK
      clear hroot
      go_wp2
      go_ret
      exact ⟨ya1 (by rw [HOK.out]; rfl),HW0.out⟩
end Go.Proofs.YtlfnmbcnehaikaaGreatDoor
namespace Go.Proofs.YtlfnmbcnehaikaaGreatDoor
open Go.RowKit Lay Mk
theorem impl_SigOk (w : World) (root t : ByteArray) (x : Sig) (cs : List Value) (S : Blks) (hx : rd false w cs x S) (hT : Tabs w) : Calls Tryz.prog 101 #[.string root, .string t, .agg cs.toArray] w fun e w' => e = .returned (.bool (sigOk root t x)) ∧ Below w.heap.size w w':=by
 have HTx:=zd (fun W h h2 => impl_SigTexts W t x cs S (Lay.later hx h) h2)
 have HT:=zd hT; clear hT
 have HOK : Hid (sigOk root t x = ((sigForm x && decide (t.size ≤ 200)) && decide (sigRoot t x = root))):=zd rfl
 obtain ⟨A0,k0,S0,A1,k1,S1,A2,k2,S2,rfl, -⟩:=Sig.open hx
 clear hx
 simp only [Sig.cs] at HTx ⊢
 go_enter Tryz.func101,Tryz.ntmps101
 go_wp2_with (fail)
 refine (HTx.out _ ((Below.refl _ _).alloc (Nat.le_refl _) _) (HT.out.later ((Below.refl _ _).alloc (Nat.le_refl _) _))).mono ?_
 rintro e1 w1 ⟨A,c,l,S',rfl,hlen,hr,hN,hY,hb⟩
 have HB : Hid (Below w.heap.size w w1):=zd (Below.via hb)
 cases hok : (sigForm x && decide (t.size ≤ 200))
 ·have hl:=hN hok
  subst hl
  rw [hok] at HOK
  clear hN hY hr hb
  go_wp2
  go_ret
  exact ⟨ya1 (by rw [HOK.out]; rfl),HB.out⟩
 ·obtain ⟨pre,tl,rfl,htl,hcut⟩:=hY hok
  rw [hok] at HOK
  clear hN hY
  obtain ⟨b1,o1,rfl,hl1,f0,s0⟩:=Row.str hr (i:=pre.length) zz17
  rw [List.getElem_concat_length (rfl)] at f0
  have hln : (pre ++ [tl]).length = pre.length + 1:=zz17
  obtain ⟨n,hn⟩ : ∃ n,pre.length = n:=⟨_,rfl⟩
  rw [hn] at hln f0
  rw [hln] at hlen ⊢
  have hw1 : IntKind.i64.wrap (((n + 1 : Nat) : Int) - 1) = (n : Int):=by rw [IntWalk.i64_in _ zz4]; omega
  have hp : (0 : Int) < ((n + 1 : Nat) : Int):=zz4
  have hq : ((n + 1 : Nat) : Int) - 1 = (n : Int):=zz4
  have hpp : (0 : Int) < (n : Int) + 1:=zz4
  have hlt2 : (n : Int) < ((n + 1 : Nat) : Int):=zz4
  have hlt3 : (n : Int) < (n : Int) + 1:=zz4
  have hqq : (n : Int) + 1 - 1 = (n : Int):=zz4
  have hw2 : IntKind.i64.wrap (n : Int) = (n : Int):=IntWalk.i64_in _ zz4
  have HC:=zd hcut
  clear hb hr hln hcut hn s0
  go_wp2_with (fail)
  refine (impl_CutDigest _ tl zz4 16 zz30 (HT.out.later HB.out)).mono ?_
  rintro e2 w2 ⟨rfl,hb2⟩
  rw [HC.out]
  have HB2:=zd (HB.out.trans (hb2.mono HB.out.size))
  clear hb2
  by_cases hroot : sigRoot t x = root
  ·have hse:=str_eq hroot
   rw [decide_eq_true hroot] at HOK
   clear hroot
   go_wp2
   go_ret
   exact ⟨ya1 (by rw [HOK.out]; rfl),HB2.out⟩
  ·have hse:=str_ne hroot
   rw [decide_eq_false hroot] at HOK
   clear hroot
   go_wp2
   go_ret
   exact ⟨ya1 (by rw [HOK.out]; rfl),HB2.out⟩
end Go.Proofs.YtlfnmbcnehaikaaGreatDoor
namespace Go.Proofs.YtlfnmbcnehaikaaGreatDoor
open Go.RowKit Lay Mk
theorem unframe_long {t : ByteArray} (h : 20000 < t.size) : unframe t = []:=by unfold unframe; rw [if_neg zz4]
theorem unframe_go {t : ByteArray} (h : t.size ≤ 20000) : unframe t = [] ++ unfrGo t (t.size + 1) 0:=by unfold unframe; rw [if_pos h]; rfl
def UfRes (L : List ByteArray) (w : World) (e : Ending) (w' : World) : Prop:=∃ (A : Option Addr) (c : Nat) (y : Int),e = .returned (.tuple #[.slice A L.length c, .int .i64 y]) ∧ Own w w' A c L
theorem UfRes.mk {L M : List ByteArray} {w w' : World} {A : Option Addr} {c n : Nat} {y : Int} (h : Own w w' A c M) (e : L = M) (hn : n = M.length) : UfRes L w (.returned (.tuple #[.slice A n c, .int .i64 y])) w':=by subst e; subst hn; exact ⟨A,c,y,rfl,h⟩
theorem impl_Unframe (w : World) (t : ByteArray) (ht : t.size ≤ 1048576) : Calls Tryz.prog 131 #[.string t] w (UfRes (unframe t) w):=by
 by_cases hbig : t.size ≤ 20000
 rotate_left
 ·have d1 : decide ((20000 : Int) < (t.size : Int)) = true:=by rw [decide_eq_true_iff]; omega
  have HE:=zd (unframe_long (t:=t) zz4)
  go_enter Tryz.func131,Tryz.ntmps131
  go_wp2
  refine bodyPost_ret (v:=.tuple #[.slice none 0 0, .int .i64 0]) (by simp [results,Tryz.results131,go_sem, *]) rfl ?_
  exact UfRes.mk (Own.start (Below.refl _ _)) HE.out rfl
 have d1 : decide ((20000 : Int) < (t.size : Int)) = false:=zz21
 have HG:=zd (unframe_go hbig)
 obtain ⟨R,hR⟩ : ∃ R,unframe t = R:=⟨_,rfl⟩
 rw [hR] at HG ⊢
 clear hR
 go_enter Tryz.func131,Tryz.ntmps131
 go_wp2
 go_loopw [4,5] (fun u i wr => ∃ (L : List ByteArray) (A : Option Addr) (c a f : Nat),u = .slice A L.length c ∧ i = .int .i64 a ∧ a ≤ t.size ∧ t.size < a + f ∧ L.length ≤ a ∧ Hid (R = L ++ unfrGo t f a) ∧ Hid (Own w wr A c L)) (fun _ i _ => t.size - (intOf i).toNat)
 case atStart => exact ⟨[],_,_,0,t.size + 1,rfl,rfl,Nat.zero_le _,zz4,Nat.le_refl _,HG,zd ((Own.start (Below.refl _ _)))⟩
 case round =>
  obtain ⟨L,A,c,a,f,rfl,rfl,ha,hf,hL,HR,HO⟩:=hrel
  clear HG
  have hz:=HO.out.size
  have h0:=impl_ReadVar wr t ht a ha
  cases hv : rdVar t a with
  | none =>
   have HE : Hid (R = L):=zd (by rw [HR.out,unfr_end (rdFrame_bad (fun n x e => by rw [hv] at e; cases e)),List.append_nil])
   rw [hv] at h0
   have HV : Hid (Calls Tryz.prog 178 #[.string t, .int .i64 a] wr fun e w' => e = .returned (.tuple #[.int .i64 0, .int .i64 0, .bool false]) ∧ wr = w'):=zd h0
   clear h0 hv HR
   go_wp2_with (go_at_call 178; refine HV.out.mono ?_; rintro e w2 ⟨rfl,rfl⟩)
   refine bodyPost_ret (v:=.tuple #[.slice A L.length c, .int .i64 a]) (by simp [results,Tryz.results131,go_sem, *]) rfl ?_
   exact UfRes.mk HO.out HE.out rfl
  | some q =>
   obtain ⟨n,x⟩:=q
   have h1:=rdVar_some hv
   rw [hv] at h0
   have HV : Hid (Calls Tryz.prog 178 #[.string t, .int .i64 a] wr fun e w' => e = .returned (.tuple #[.int .i64 n, .int .i64 x, .bool true]) ∧ wr = w'):=zd h0
   clear h0
   have HNO:=zd (fun (h : ¬ (1 ≤ n ∧ n ≤ 9000 ∧ n + 4 ≤ t.size - x)) => rdFrame_bad (t:=t) (a:=a) (fun n' x' e => by rw [hv] at e; injection e with e; injection e with e1 e2; subst e1; subst e2; exact h))
   have HSUM:=zd (fun h1 h2 h3 => rdFrame_sum hv h1 h2 h3)
   have HSAME:=zd (fun h3 => frame_same ha hv h3)
   clear hv
   have hws : IntKind.i64.wrap ((t.size : Int) - x) = (t.size : Int) - x:=zz16
   have hw4 : IntKind.i64.wrap ((n : Int) + 4) = (n : Int) + 4:=zz16
   have hws4 : IntKind.i64.wrap ((t.size : Int) - x - 4) = (t.size : Int) - x - 4:=zz16
   cases hin : inB (n : Int) 1 9000
   ·have hnn : ¬ (1 ≤ n ∧ n ≤ 9000):=by
     intro hh; unfold inB at hin; rw [decide_eq_false_iff_not] at hin; omega
    have HE : Hid (R = L):=zd (by rw [HR.out,unfr_end (HNO.out (fun h => hnn ⟨h.1,h.2.1⟩)),List.append_nil])
    clear HR HNO HSUM HSAME
    clear hnn
    go_wp2_with (first | (go_at_call 178; refine HV.out.mono ?_; rintro e w2 ⟨rfl,rfl⟩) | (go_at_call 62; refine (impl_in _ _ _ _).mono ?_; rintro e3 w3 ⟨rfl,rfl⟩))
    refine bodyPost_ret (v:=.tuple #[.slice A L.length c, .int .i64 a]) (by simp [results,Tryz.results131,go_sem, *]) rfl ?_
    exact UfRes.mk HO.out HE.out rfl
   have hnn : 1 ≤ n ∧ n ≤ 9000:=by unfold inB at hin; rw [decide_eq_true_iff] at hin; omega
   by_cases h4 : n + 4 ≤ t.size - x
   rotate_left
   ·have d2 : decide ((t.size : Int) - (x : Int) < (n : Int) + 4) = true:=by rw [decide_eq_true_iff]; omega
    have HE : Hid (R = L):=zd (by rw [HR.out,unfr_end (HNO.out (fun h => h4 h.2.2)),List.append_nil])
    clear HR HNO HSUM HSAME
    go_wp2_with (first | (go_at_call 178; refine HV.out.mono ?_; rintro e w2 ⟨rfl,rfl⟩) | (go_at_call 62; refine (impl_in _ _ _ _).mono ?_; rintro e3 w3 ⟨rfl,rfl⟩))
    refine bodyPost_ret (v:=.tuple #[.slice A L.length c, .int .i64 a]) (by simp [results,Tryz.results131,go_sem, *]) rfl ?_
    exact UfRes.mk HO.out HE.out rfl
   have d2 : decide ((t.size : Int) - (x : Int) < (n : Int) + 4) = false:=zz21
   have hwx : IntKind.i64.wrap ((x : Int) + 4) = (x : Int) + 4:=zz16
   have hwn : IntKind.i64.wrap ((x : Int) + 4 + n) = (x : Int) + 4 + n:=zz16
   have b1 : (x : Int) + 4 ≤ (x : Int) + 4 + n:=zz4
   have b2 : (x : Int) + 4 + n ≤ (t.size : Int):=zz4
   have b3 : (x : Int) ≤ (x : Int) + 4:=zz4
   have b4 : (x : Int) + 4 ≤ (t.size : Int):=zz4
   have b5 : (a : Int) ≤ (x : Int) + 4 + n:=zz4
   obtain ⟨T,hT⟩ : ∃ T,t.extract (x + 4) (x + 4 + n) = T:=⟨_,rfl⟩
   have hTz : T.size = n:=by rw [← hT,ByteArray.size_extract]; omega
   have HTm : Hid (Flat.ok (α:=ByteArray) T):=zd (show T.size ≤ maxLen by unfold maxLen; omega)
   rw [hT] at HSUM HSAME
   obtain ⟨S4,hS4⟩ : ∃ S,t.extract x (x + 4) = S:=⟨_,rfl⟩
   have HVf:=zd (fun W => impl_fourBytes W (sumOf T) (sumOf_lt T))
   obtain ⟨Q4,hQ4⟩ : ∃ Q,fourB (sumOf T) = Q:=⟨_,rfl⟩
   rw [hS4,hQ4] at HSUM
   rw [hQ4] at HVf
   have HQ:=zd (str_dec S4 Q4)
   have HF0:=zd (HSUM.out hnn.1 hnn.2 h4)
   clear hQ4 HSUM HSAME HNO
   by_cases hq : S4 = Q4
   rotate_left
   ·have HE : Hid (R = L):=zd (by rw [HR.out,unfr_end (by rw [HF0.out,if_neg hq]),List.append_nil])
    have hcmp : (S4.toList == Q4.toList) = false:=by rw [HQ.out]; exact decide_eq_false hq
    clear HR HF0
    have hq:=hcmp
    go_wp2_with (first | (go_at_call 178; refine HV.out.mono ?_; rintro e w2 ⟨rfl,rfl⟩) | (go_at_call 62; refine (impl_in _ _ _ _).mono ?_; rintro e3 w3 ⟨rfl,rfl⟩))
    refine ya0 (by kernel_rfl) (by kernel_rfl) ?_
    repeat (go_big_quiet_step (first | (go_at_call 180; with_reducible exact grown_same (impl_SumOf _ T zz4)) | (go_at_call 179; with_reducible exact ya4 (HVf.out _))))
    refine wpQuiet_nil ?_
    intro w7 hw_
    have hB7:=ya5 hw_
    clear hw_
    go_wp2
    refine bodyPost_ret (v:=.tuple #[.slice A L.length c, .int .i64 a]) (by simp [results,Tryz.results131,go_sem, *]) rfl ?_
    exact UfRes.mk (HO.out.later hB7) HE.out rfl
   ·have HF : Hid (rdFrame t a = some (T,x + 4 + n)):=zd (by rw [HF0.out,if_pos hq])
    have hcmp : (S4.toList == Q4.toList) = true:=by rw [HQ.out]; exact decide_eq_true hq
    have HN : Hid (R = (L ++ [T]) ++ unfrGo t (f - 1) (x + 4 + n)):=zd (by
     obtain ⟨f',rfl⟩ : ∃ f',f = f' + 1:=⟨f - 1,zz4⟩
     rw [HR.out,unfr_more HF.out,List.append_assoc]; rfl)
    clear HR HF0 HF hq
    go_wp2_with (first | (go_at_call 178; refine HV.out.mono ?_; rintro e w2 ⟨rfl,rfl⟩) | (go_at_call 62; refine (impl_in _ _ _ _).mono ?_; rintro e3 w3 ⟨rfl,rfl⟩))
    refine ya0 (by kernel_rfl) (by kernel_rfl) ?_
    repeat (go_big_quiet_step (first | (go_at_call 180; with_reducible exact grown_same (impl_SumOf _ T zz4)) | (go_at_call 179; with_reducible exact ya4 (HVf.out _))))
    refine wpQuiet_nil ?_
    intro w7 hw_
    have hB7:=ya5 hw_
    clear hw_
    have HO7:=zd (HO.out.later hB7)
    go_wp2_with (at_builtin; refine wpList_push (α:=ByteArray) rfl _ _ rfl rfl rfl (HO7.out.alloc _) rfl rfl (src1 HTm.out rfl rfl) zz4 ?_; intro A6 c6 w6 o6 z6)
    go_roundw
    case rel => exact ⟨L ++ [T],A6,c6,x + 4 + n,f - 1,zz17,congrArg (Value.int .i64) zz4,zz4,zz4,zz23,HN,zd o6⟩
    case measure => simp [intOf]; omega
theorem spec_Unframe (w : World) (t : ByteArray) (ht : t.size ≤ 1048576) : Calls Tryz.prog 123 #[.string t] w (UfRes (unframe t) w):=by
 by_cases hbig : t.size ≤ 20000
 rotate_left
 ·have d1 : decide ((20000 : Int) < (t.size : Int)) = true:=by rw [decide_eq_true_iff]; omega
  have HE:=zd (unframe_long (t:=t) zz4)
  go_enter Tryz.func123,Tryz.ntmps123
  go_wp2
  refine bodyPost_ret (v:=.tuple #[.slice (some ⟨w.heap.size,0,none⟩) 0 0, .int .i64 0]) (by simp [results,Tryz.results123,go_sem, *]) rfl ?_
  exact UfRes.mk (Own.lit (Below.refl _ _) 9 rfl) HE.out rfl
 have d1 : decide ((20000 : Int) < (t.size : Int)) = false:=zz21
 have HG:=zd (unframe_go hbig)
 obtain ⟨R,hR⟩ : ∃ R,unframe t = R:=⟨_,rfl⟩
 rw [hR] at HG ⊢
 clear hR
 go_enter Tryz.func123,Tryz.ntmps123
 go_wp2
 go_loopw [4,5] (fun u i wr => ∃ (L : List ByteArray) (A : Option Addr) (c a f : Nat),u = .slice A L.length c ∧ i = .int .i64 a ∧ a ≤ t.size ∧ t.size < a + f ∧ L.length ≤ a ∧ Hid (R = L ++ unfrGo t f a) ∧ Hid (Own w wr A c L)) (fun _ i _ => t.size - (intOf i).toNat)
 case atStart => exact ⟨[],_,_,0,t.size + 1,rfl,rfl,Nat.zero_le _,zz4,Nat.le_refl _,HG,zd ((Own.lit (Below.refl _ _) 9 rfl))⟩
 case round =>
  obtain ⟨L,A,c,a,f,rfl,rfl,ha,hf,hL,HR,HO⟩:=hrel
  clear HG
  have hz:=HO.out.size
  by_cases hlt : a < t.size
  rotate_left
  ·have HE : Hid (R = L):=zd (by rw [HR.out,unfr_end (rdFrame_no zz4),List.append_nil])
   clear HR
   go_wp2
   refine bodyPost_ret (v:=.tuple #[.slice A L.length c, .int .i64 a]) (by simp [results,Tryz.results123,go_sem, *]) rfl ?_
   exact UfRes.mk HO.out HE.out rfl
  have h0:=spec_ReadVar wr t ht a ha
  cases hv : rdVar t a with
  | none =>
   have HE : Hid (R = L):=zd (by rw [HR.out,unfr_end (rdFrame_bad (fun n x e => by rw [hv] at e; cases e)),List.append_nil])
   rw [hv] at h0
   have HV : Hid (Calls Tryz.prog 172 #[.string t, .int .i64 a] wr fun e w' => e = .returned (.tuple #[.int .i64 0, .int .i64 0, .bool false]) ∧ Below wr.heap.size wr w'):=zd h0
   clear h0 hv HR
   go_wp2_with (go_at_call 172; refine HV.out.mono ?_; rintro e w2 ⟨rfl,hb2⟩)
   refine bodyPost_ret (v:=.tuple #[.slice A L.length c, .int .i64 a]) (by simp [results,Tryz.results123,go_sem, *]) rfl ?_
   exact UfRes.mk (HO.out.later hb2) HE.out rfl
  | some q =>
   obtain ⟨n,x⟩:=q
   have h1:=rdVar_some hv
   rw [hv] at h0
   have HV : Hid (Calls Tryz.prog 172 #[.string t, .int .i64 a] wr fun e w' => e = .returned (.tuple #[.int .i64 n, .int .i64 x, .bool true]) ∧ Below wr.heap.size wr w'):=zd h0
   clear h0
   have HNO:=zd (fun (h : ¬ (1 ≤ n ∧ n ≤ 9000 ∧ n + 4 ≤ t.size - x)) => rdFrame_bad (t:=t) (a:=a) (fun n' x' e => by rw [hv] at e; injection e with e; injection e with e1 e2; subst e1; subst e2; exact h))
   have HSUM:=zd (fun h1 h2 h3 => rdFrame_sum hv h1 h2 h3)
   have HSAME:=zd (fun h3 => frame_same ha hv h3)
   clear hv
   have hws : IntKind.i64.wrap ((t.size : Int) - x) = (t.size : Int) - x:=zz16
   have hw4 : IntKind.i64.wrap ((n : Int) + 4) = (n : Int) + 4:=zz16
   have hws4 : IntKind.i64.wrap ((t.size : Int) - x - 4) = (t.size : Int) - x - 4:=zz16
   by_cases h4 : n + 4 ≤ t.size - x
   rotate_left
   ·have d2 : decide ((t.size : Int) - (x : Int) - 4 < (n : Int)) = true:=by rw [decide_eq_true_iff]; omega
    have HE : Hid (R = L):=zd (by rw [HR.out,unfr_end (HNO.out (fun h => h4 h.2.2)),List.append_nil])
    clear HR HNO HSUM HSAME
    go_wp2_with (first | (go_at_call 172; refine HV.out.mono ?_; rintro e w2 ⟨rfl,hb2⟩) | (go_at_call 48; refine (spec_in _ _ _ _).mono ?_; rintro e3 w3 ⟨rfl,rfl⟩))
    refine bodyPost_ret (v:=.tuple #[.slice A L.length c, .int .i64 a]) (by simp [results,Tryz.results123,go_sem, *]) rfl ?_
    exact UfRes.mk (HO.out.later hb2) HE.out rfl
   have d2 : decide ((t.size : Int) - (x : Int) - 4 < (n : Int)) = false:=zz21
   have hwx : IntKind.i64.wrap ((x : Int) + 4) = (x : Int) + 4:=zz16
   have hwn : IntKind.i64.wrap ((x : Int) + 4 + n) = (x : Int) + 4 + n:=zz16
   have b1 : (x : Int) + 4 ≤ (x : Int) + 4 + n:=zz4
   have b2 : (x : Int) + 4 + n ≤ (t.size : Int):=zz4
   have b3 : (x : Int) ≤ (x : Int) + 4:=zz4
   have b4 : (x : Int) + 4 ≤ (t.size : Int):=zz4
   have b5 : (a : Int) ≤ (x : Int) + 4 + n:=zz4
   obtain ⟨T,hT⟩ : ∃ T,t.extract (x + 4) (x + 4 + n) = T:=⟨_,rfl⟩
   have hTz : T.size = n:=by rw [← hT,ByteArray.size_extract]; omega
   have HTm : Hid (Flat.ok (α:=ByteArray) T):=zd (show T.size ≤ maxLen by unfold maxLen; omega)
   rw [hT] at HSUM HSAME
   obtain ⟨E4,hE4⟩ : ∃ E,t.extract a (x + 4 + n) = E:=⟨_,rfl⟩
   have HFr:=zd (fun W => spec_Frame W T zz4)
   obtain ⟨Q4,hQ4⟩ : ∃ Q,frameT T = Q:=⟨_,rfl⟩
   have HSM : Hid (Q4 = E4 ↔ t.extract x (x + 4) = fourB (sumOf T)):=zd (by rw [← hQ4, ← hE4]; exact HSAME.out h4)
   rw [hQ4] at HFr
   have HQ:=zd (str_dec Q4 E4)
   have hTi : inB (T.size : Int) 1 9000 = inB (n : Int) 1 9000:=by rw [hTz]
   cases hin : inB (n : Int) 1 9000
   ·have hnn : ¬ (1 ≤ n ∧ n ≤ 9000):=by
     intro hh; unfold inB at hin; rw [decide_eq_false_iff_not] at hin; omega
    have HE : Hid (R = L):=zd (by rw [HR.out,unfr_end (HNO.out (fun h => hnn ⟨h.1,h.2.1⟩)),List.append_nil])
    rw [hTi,hin] at HFr
    have HFr2 : Hid (∀ W,Calls Tryz.prog 173 #[.string T] W fun e w' => e = .returned (.tuple #[.string ⟨#[]⟩, .bool false]) ∧ Below W.heap.size W w'):=zd (fun W => HFr.out W)
    clear HR HNO HSUM HSAME HSM hQ4 HFr hnn hTi
    go_wp2_with (first | (go_at_call 172; refine HV.out.mono ?_; rintro e w2 ⟨rfl,hb2⟩) | (go_at_call 173; refine (HFr2.out _).mono ?_; rintro e3 w3 ⟨rfl,hb3⟩))
    refine bodyPost_ret (v:=.tuple #[.slice A L.length c, .int .i64 a]) (by simp [results,Tryz.results123,go_sem, *]) rfl ?_
    exact UfRes.mk ((HO.out.later hb2).later hb3) HE.out rfl
   have hnn : 1 ≤ n ∧ n ≤ 9000:=by unfold inB at hin; rw [decide_eq_true_iff] at hin; omega
   rw [hTi,hin] at HFr
   have HFr2 : Hid (∀ W,Calls Tryz.prog 173 #[.string T] W fun e w' => e = .returned (.tuple #[.string Q4, .bool true]) ∧ Below W.heap.size W w'):=zd (fun W => HFr.out W)
   have HF0:=zd (HSUM.out hnn.1 hnn.2 h4)
   clear HSUM HSAME HNO hQ4 HFr hTi hin
   by_cases hq : Q4 = E4
   rotate_left
   ·have HE : Hid (R = L):=zd (by rw [HR.out,unfr_end (by rw [HF0.out,if_neg (fun hh => hq (HSM.out.2 hh))]),List.append_nil])
    have hcmp : (Q4.toList == E4.toList) = false:=by rw [HQ.out]; exact decide_eq_false hq
    clear HR HF0 HSM
    have hq:=hcmp
    go_wp2_with (first | (go_at_call 172; refine HV.out.mono ?_; rintro e w2 ⟨rfl,hb2⟩) | (go_at_call 173; refine (HFr2.out _).mono ?_; rintro e3 w3 ⟨rfl,hb3⟩))
    refine bodyPost_ret (v:=.tuple #[.slice A L.length c, .int .i64 a]) (by simp [results,Tryz.results123,go_sem, *]) rfl ?_
    exact UfRes.mk ((HO.out.later hb2).later hb3) HE.out rfl
   ·have HF : Hid (rdFrame t a = some (T,x + 4 + n)):=zd (by rw [HF0.out,if_pos (HSM.out.1 hq)])
    have hcmp : (Q4.toList == E4.toList) = true:=by rw [HQ.out]; exact decide_eq_true hq
    have HN : Hid (R = (L ++ [T]) ++ unfrGo t (f - 1) (x + 4 + n)):=zd (by
     obtain ⟨f',rfl⟩ : ∃ f',f = f' + 1:=⟨f - 1,zz4⟩
     rw [HR.out,unfr_more HF.out,List.append_assoc]; rfl)
    clear HR HF0 HF hq HSM
    go_wp2_with (first | (go_at_call 172; refine HV.out.mono ?_; rintro e w2 ⟨rfl,hb2⟩) | (go_at_call 173; refine (HFr2.out _).mono ?_; rintro e3 w3 ⟨rfl,hb3⟩) | (at_builtin; refine wpList_push (α:=ByteArray) rfl _ _ rfl rfl rfl (((HO.out.later hb2).later hb3).alloc _) rfl rfl (src1 HTm.out rfl rfl) zz4 ?_; intro A6 c6 w6 o6 z6))
    go_roundw
    case rel => exact ⟨L ++ [T],A6,c6,x + 4 + n,f - 1,zz17,congrArg (Value.int .i64) zz4,zz4,zz4,zz23,HN,zd o6⟩
    case measure => simp [intOf]; omega
end Go.Proofs.YtlfnmbcnehaikaaGreatDoor
