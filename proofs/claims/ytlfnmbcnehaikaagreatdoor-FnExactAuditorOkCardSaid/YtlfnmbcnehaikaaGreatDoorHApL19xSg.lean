/- A part of the proof. -/
import Derived.Test.YtlfnmbcnehaikaaGreatDoorHApHo
set_option linter.unusedVariables false
set_option linter.unusedSimpArgs false
set_option maxRecDepth 20000
set_option maxHeartbeats 8000000
namespace Go.Proofs.YtlfnmbcnehaikaaGreatDoor
open Go.RowKit Lay Mk
def wideOk (l : List ByteArray) (n : Nat) : Bool:=l.all (fun s => decide (s.size = 16)) && decide (l.length = n)
def sigForm (x : Sig) : Bool:=inB x.at_ 0 15 && wideOk x.open_ 8 && wideOk x.shut 8 && wideOk x.sides 4
def signBits (t : ByteArray) : Nat:=if h : 0 < (tagHash 7 [t] 16).size then ((tagHash 7 [t] 16)[0]'h).toNat else 0
def bitOf (n k : Nat) : Nat:=n / 2 ^ (7 - k) % 2
def lockOf (s : ByteArray) : ByteArray:=tagHash 6 [s] 16
def lockPair (bits : Nat) (x : Sig) (k : Nat) : List ByteArray:=if bitOf bits k = 0 then [lockOf (x.open_.getD k ⟨#[]⟩),x.shut.getD k ⟨#[]⟩] else [x.shut.getD k ⟨#[]⟩,lockOf (x.open_.getD k ⟨#[]⟩)]
def locksTo (bits : Nat) (x : Sig) : Nat → List ByteArray
 | 0 => []
 | k + 1 => locksTo bits x k ++ lockPair bits x k
def climb : ByteArray → Nat → List ByteArray → ByteArray
 | h,_, [] => h
 | h,a,s :: r => climb (tagHash 3 (if a % 2 = 0 then [h,s] else [s,h]) 16) (a / 2) r
def sigRoot (t : ByteArray) (x : Sig) : ByteArray:=climb (tagHash 6 (locksTo (signBits t) x 8) 16) x.at_.toNat x.sides
def sigOk (root t : ByteArray) (x : Sig) : Bool:=sigForm x && decide (t.size ≤ 200) && decide (sigRoot t x = root)
theorem i64_and1 (n : Int) : bits .and .i64 n 1 = n % 2:=by
 have h1 : (BitVec.ofInt 64 1).toNat = 2 ^ 1 - 1:=zz44
 have key : (BitVec.ofInt 64 n &&& BitVec.ofInt 64 1).toNat = (n % ((2 ^ 64 : Nat) : Int)).toNat % 2 ^ 1:=by
  rw [BitVec.toNat_and,BitVec.toNat_ofInt,h1,Nat.and_two_pow_sub_one_eq_mod]
 show IntKind.i64.wrap ((BitVec.ofInt 64 n &&& BitVec.ofInt 64 1).toNat : Nat) = n % 2
 rw [key,IntKind.wrap_i64]
 omega
theorem signBits_lt (t : ByteArray) : signBits t < 256:=by
 unfold signBits; split
 ·exact UInt8.toNat_lt _
 ·omega
theorem tagOk_of {kind : Int} {xs : List ByteArray} (hk : inB kind 1 8 = true) (hl : xs.length ≤ 60) (hp : ∀ x ∈ xs,x.size ≤ 200) : tagOk kind xs = true:=by
 unfold tagOk; rw [hk,decide_eq_true hl]
 rw [parts_good (fun j h => hp _ (List.getElem_mem h))]; rfl
theorem tagHash_size {kind : Int} {xs : List ByteArray} (h : tagOk kind xs = true) : (tagHash kind xs 16).size = 16:=by
 unfold tagHash; rw [if_pos h,cutDigest_size zz4]; rfl
theorem tagHash_cut {kind : Int} {xs : List ByteArray} (h : tagOk kind xs = true) : cutDigest (tagText kind xs) 16 = tagHash kind xs 16:=by
 unfold tagHash; rw [if_pos h]
theorem signBits_at {t : ByteArray} (h : 0 < (tagHash 7 [t] 16).size) : signBits t = ((tagHash 7 [t] 16)[0]'h).toNat:=by unfold signBits; rw [dif_pos h]
theorem tag_one {kind : Int} {s : ByteArray} (hk : inB kind 1 8 = true) (h : s.size ≤ 200) : tagOk kind [s] = true:=tagOk_of hk zz17 (fun x hx => by simp at hx; subst hx; exact h)
theorem tag_two {kind : Int} {s t : ByteArray} (hk : inB kind 1 8 = true) (h : s.size ≤ 200) (h2 : t.size ≤ 200) : tagOk kind [s,t] = true:=tagOk_of hk zz17 (fun x hx => by simp at hx; rcases hx with rfl | rfl <;> assumption)
theorem wide_bad {l : List ByteArray} {n k : Nat} (hk : k < l.length) (h : l[k].size ≠ 16) : wideOk l n = false:=by
 unfold wideOk; rw [Bool.and_eq_false_iff]; left; rw [List.all_eq_false]; exact ⟨_,List.getElem_mem hk,by simp [h]⟩
theorem wide_end {l : List ByteArray} {n : Nat} (h : ∀ k (hk : k < l.length),l[k].size = 16) : wideOk l n = decide (l.length = n):=by
 unfold wideOk
 have : l.all (fun s => decide (s.size = 16)) = true:=by
  rw [List.all_eq_true]; intro s hs
  obtain ⟨k,hk,rfl⟩:=List.getElem_of_mem hs
  simp [h k hk]
 rw [this]; simp
theorem wide_at {l : List ByteArray} {n : Nat} (h : wideOk l n = true) : l.length = n ∧ ∀ s ∈ l,s.size = 16:=by
 unfold wideOk at h
 rw [Bool.and_eq_true,List.all_eq_true] at h
 exact ⟨by simpa using h.2,fun s hs => by simpa using h.1 s hs⟩
theorem form_parts {x : Sig} (h : sigForm x = true) : (0 ≤ x.at_ ∧ x.at_ ≤ 15) ∧ wideOk x.open_ 8 = true ∧ wideOk x.shut 8 = true ∧ wideOk x.sides 4 = true:=by
 unfold sigForm at h
 simp only [Bool.and_eq_true] at h
 obtain ⟨⟨⟨h1,h2⟩,h3⟩,h4⟩:=h
 exact ⟨by simpa [inB] using h1,h2,h3,h4⟩
theorem lockOf_size {s : ByteArray} (h : s.size ≤ 200) : (lockOf s).size = 16:=tagHash_size (tag_one zz44 h)
theorem getD_wide {l : List ByteArray} {n : Nat} (h : wideOk l n = true) {k : Nat} (hk : k < n) : (l.getD k ⟨#[]⟩).size = 16:=by
 obtain ⟨h1,h2⟩:=wide_at h
 rw [List.getD_eq_getElem?_getD,List.getElem?_eq_getElem zz4,Option.getD_some]
 exact h2 _ (List.getElem_mem _)
theorem lockPair_size {bits : Nat} {x : Sig} (h1 : wideOk x.open_ 8 = true) (h2 : wideOk x.shut 8 = true) {k : Nat} (hk : k < 8) : ∀ s ∈ lockPair bits x k,s.size = 16:=by
 have a:=lockOf_size (s:=x.open_.getD k ⟨#[]⟩) (by rw [getD_wide h1 hk]; omega)
 have b:=getD_wide h2 hk
 intro s hs
 unfold lockPair at hs
 split at hs <;> (simp at hs; rcases hs with rfl | rfl <;> first | (simpa using a) | (simpa using b))
theorem lockPair_len (bits : Nat) (x : Sig) (k : Nat) : (lockPair bits x k).length = 2:=by unfold lockPair; split <;> rfl
theorem locksTo_len (bits : Nat) (x : Sig) : ∀ k,(locksTo bits x k).length = 2 * k
 | 0 => rfl
 | k + 1 => by unfold locksTo; rw [List.length_append,locksTo_len bits x k,lockPair_len]; omega
theorem locksTo_size {bits : Nat} {x : Sig} (h1 : wideOk x.open_ 8 = true) (h2 : wideOk x.shut 8 = true) : ∀ k,k ≤ 8 → ∀ s ∈ locksTo bits x k,s.size = 16
 | 0,_ => fun s hs => by cases hs
 | k + 1,hk => fun s hs => by
  unfold locksTo at hs
  rcases List.mem_append.1 hs with h | h
  ·exact locksTo_size h1 h2 k zz4 s h
  ·exact lockPair_size h1 h2 zz4 s h
theorem locks_ok {bits : Nat} {x : Sig} (h : sigForm x = true) : tagOk 6 (locksTo bits x 8) = true:=by
 obtain ⟨_,h1,h2,_⟩:=form_parts h
 exact tagOk_of zz44 (by rw [locksTo_len]; omega) (fun s hs => by rw [locksTo_size h1 h2 8 zz4 s hs]; omega)
theorem impl_wide (w : World) (l : List ByteArray) (A : Option Addr) (cap : Nat) (S : Blks) (hx : Row false w A cap l S) (hl0 : l.length ≤ maxLen) (n : Nat) (hn : n ≤ 100) : Calls Tryz.prog 197 #[.slice A l.length cap, .int .i64 n, .int .i64 16] w fun e w' => e = .returned (.bool (wideOk l n)) ∧ w = w':=by
 have hl : l.length ≤ 9223372036854775807:=hl0
 clear hl0
 have HB:=zd (fun (k : Nat) hk h => wide_bad (l:=l) (n:=n) (k:=k) hk h)
 have HE:=zd (fun h => wide_end (l:=l) (n:=n) h)
 go_enter Tryz.func197,Tryz.ntmps197
 go_wp2
 go_loopw [11] (fun i wr => ∃ k : Nat,k ≤ l.length ∧ i = .int .i64 k ∧ Hid (∀ j (h : j < l.length),j < k → l[j].size = 16) ∧ w = wr) (fun i _ => l.length - (intOf i).toNat)
 case atStart => exact ⟨0,Nat.zero_le _,rfl,zd (fun j _ h => absurd h zz4),rfl⟩
 case round =>
  obtain ⟨k,hk,rfl,HS,rfl⟩:=hrel
  by_cases hlt : k < l.length
  ·obtain ⟨b1,o1,rfl,hl1,f0,s0⟩:=Row.str hx hlt
   have HBk:=zd (HB.out k hlt)
   have HN : Hid (l[k].size = 16 → ∀ j (h : j < l.length),j < k + 1 → l[j].size = 16):=zd (fun h0 j h hj => by rcases Nat.lt_succ_iff_lt_or_eq.1 hj with h1 | h1; exact HS.out j h h1; subst h1; exact h0)
   obtain ⟨x,hxx⟩ : ∃ x,l[k] = x:=⟨_,rfl⟩
   rw [hxx] at f0 HBk HN s0
   clear hxx
   by_cases h16 : x.size = 16
   ·have HNx:=zd (HN.out h16)
    have hq : ((x.size : Int) != 16) = false:=by rw [bne_eq_false_iff_eq]; omega
    clear HB HE HBk HN h16
    go_wp2
    go_roundw
    case rel => exact ⟨k + 1,zz4,by go_num,HNx,trivial⟩
    case measure => simp [intOf]; omega
   ·have HF:=zd (HBk.out h16)
    have hq : ((x.size : Int) != 16) = true:=by rw [bne_iff_ne]; omega
    clear HB HE HBk HN h16
    go_wp2
    go_ret
    exact ⟨by rw [HF.out]; rfl,rfl⟩
  ·have hke : k = l.length:=by omega
   subst hke
   have HF:=zd (HE.out (fun k hk => HS.out k hk hk))
   have hc : ((l.length : Int) == (n : Int)) = decide (l.length = n):=by rw [Bool.eq_iff_iff,beq_iff_eq,decide_eq_true_iff]; omega
   have HC:=zd hc
   clear hc HB HE HS
   go_wp2
   go_ret
   exact ⟨ya1 (by rw [HF.out, ← HC.out]),rfl⟩
theorem spec_wide (w : World) (l : List ByteArray) (A : Option Addr) (cap : Nat) (S : Blks) (hx : Row false w A cap l S) (hl0 : l.length ≤ maxLen) (n : Nat) (hn : n ≤ 100) : Calls Tryz.prog 184 #[.slice A l.length cap, .int .i64 n] w fun e w' => e = .returned (.bool (wideOk l n)) ∧ w = w':=by
 have hl : l.length ≤ 9223372036854775807:=hl0
 clear hl0
 have HB:=zd (fun (k : Nat) hk h => wide_bad (l:=l) (n:=n) (k:=k) hk h)
 have HE:=zd (fun h => wide_end (l:=l) (n:=n) h)
 go_enter Tryz.func184,Tryz.ntmps184
 go_wp2
 go_loopw [5] (fun i wr => ∃ k : Nat,k ≤ l.length ∧ i = .int .i64 k ∧ Hid (∀ j (h : j < l.length),j < k → l[j].size = 16) ∧ w = wr) (fun i _ => l.length - (intOf i).toNat)
 case atStart => exact ⟨0,Nat.zero_le _,rfl,zd (fun j _ h => absurd h zz4),rfl⟩
 case round =>
  obtain ⟨k,hk,rfl,HS,rfl⟩:=hrel
  by_cases hlt : k < l.length
  ·obtain ⟨b1,o1,rfl,hl1,f0,s0⟩:=Row.str hx hlt
   have HBk:=zd (HB.out k hlt)
   have HN : Hid (l[k].size = 16 → ∀ j (h : j < l.length),j < k + 1 → l[j].size = 16):=zd (fun h0 j h hj => by rcases Nat.lt_succ_iff_lt_or_eq.1 hj with h1 | h1; exact HS.out j h h1; subst h1; exact h0)
   obtain ⟨x,hxx⟩ : ∃ x,l[k] = x:=⟨_,rfl⟩
   rw [hxx] at f0 HBk HN s0
   clear hxx
   by_cases h16 : x.size = 16
   ·have HNx:=zd (HN.out h16)
    have hq : ((x.size : Int) != 16) = false:=by rw [bne_eq_false_iff_eq]; omega
    clear HB HE HBk HN h16
    go_wp2
    go_roundw
    case rel => exact ⟨k + 1,zz4,by go_num,HNx,trivial⟩
    case measure => simp [intOf]; omega
   ·have HF:=zd (HBk.out h16)
    have hq : ((x.size : Int) != 16) = true:=by rw [bne_iff_ne]; omega
    clear HB HE HBk HN h16
    go_wp2
    go_ret
    exact ⟨by rw [HF.out]; rfl,rfl⟩
  ·have hke : k = l.length:=by omega
   subst hke
   have HF:=zd (HE.out (fun k hk => HS.out k hk hk))
   have hc : ((l.length : Int) == (n : Int)) = decide (l.length = n):=by rw [Bool.eq_iff_iff,beq_iff_eq,decide_eq_true_iff]; omega
   have HC:=zd hc
   clear hc HB HE HS
   go_wp2
   go_ret
   exact ⟨ya1 (by rw [HF.out, ← HC.out]),rfl⟩
theorem impl_form (w : World) (x : Sig) (cs : List Value) (S : Blks) (hx : rd false w cs x S) : Calls Tryz.prog 159 #[.agg cs.toArray] w fun e w' => e = .returned (.bool (sigForm x)) ∧ Below w.heap.size w w':=by
 obtain ⟨A0,k0,S0,A1,k1,S1,A2,k2,S2,rfl,ha,l0,m0,r0,_,l1,m1,r1,_,l2,m2,r2,_⟩:=Sig.open hx
 clear hx
 obtain ⟨at_,op,sh,si⟩:=x
 simp only [Sig.cs]
 simp only at ha l0 m0 r0 l1 m1 r1 l2 m2 r2
 have R0:=fun W hb => impl_wide W op A0 k0 S0 (r0.later hb) (by exact Nat.le_trans l0 m0) 8 zz4
 have R1:=fun W hb => impl_wide W sh A1 k1 S1 (r1.later hb) (by exact Nat.le_trans l1 m1) 8 zz4
 have R2:=fun W hb => impl_wide W si A2 k2 S2 (r2.later hb) (by exact Nat.le_trans l2 m2) 4 zz4
 have HR0:=zd R0
 have HR1:=zd R1
 have HR2:=zd R2
 clear R0 R1 R2 r0 r1 r2
 have HF : Hid (sigForm ⟨at_,op,sh,si⟩ = (inB at_ 0 15 && wideOk op 8 && wideOk sh 8 && wideOk si 4)):=zd rfl
 have HA:=fun W => (Below.refl W.heap.size W).alloc (Nat.le_refl _)
 cases hin : inB at_ 0 15
 ·rw [hin] at HF
  go_enter Tryz.func159,Tryz.ntmps159
  go_wp2_with (go_at_call 62; refine (impl_in _ _ _ _).mono ?_; rintro e w2 ⟨rfl,rfl⟩)
  go_ret; exact ⟨ya1 (by rw [HF.out]; rfl),HA _ _⟩
 cases h0 : wideOk op 8
 ·rw [hin,h0] at HF
  go_enter Tryz.func159,Tryz.ntmps159
  go_wp2_with (go_at_call 62; refine (impl_in _ _ _ _).mono ?_; rintro e w2 ⟨rfl,rfl⟩)
  refine (HR0.out _ (HA _ _)).mono ?_
  rintro e w2 ⟨rfl,rfl⟩
  rw [h0]
  go_wp2_with (fail)
  go_ret; exact ⟨ya1 (by rw [HF.out]; rfl),HA _ _⟩
 cases h1 : wideOk sh 8
 ·rw [hin,h0,h1] at HF
  go_enter Tryz.func159,Tryz.ntmps159
  go_wp2_with (go_at_call 62; refine (impl_in _ _ _ _).mono ?_; rintro e w2 ⟨rfl,rfl⟩)
  refine (HR0.out _ (HA _ _)).mono ?_
  rintro e w2 ⟨rfl,rfl⟩
  rw [h0]
  go_wp2_with (fail)
  refine (HR1.out _ (HA _ _)).mono ?_
  rintro e w2 ⟨rfl,rfl⟩
  rw [h1]
  go_wp2_with (fail)
  go_ret; exact ⟨ya1 (by rw [HF.out]; rfl),HA _ _⟩
 ·rw [hin,h0,h1] at HF
  go_enter Tryz.func159,Tryz.ntmps159
  go_wp2_with (go_at_call 62; refine (impl_in _ _ _ _).mono ?_; rintro e w2 ⟨rfl,rfl⟩)
  refine (HR0.out _ (HA _ _)).mono ?_
  rintro e w2 ⟨rfl,rfl⟩
  rw [h0]
  go_wp2_with (fail)
  refine (HR1.out _ (HA _ _)).mono ?_
  rintro e w2 ⟨rfl,rfl⟩
  rw [h1]
  go_wp2_with (fail)
  refine (HR2.out _ (HA _ _)).mono ?_
  rintro e w2 ⟨rfl,rfl⟩
  obtain ⟨b,hb⟩ : ∃ b,wideOk si 4 = b:=⟨_,rfl⟩
  rw [hb] at HF ⊢
  go_wp2_with (fail)
  go_ret; exact ⟨ya1 (by rw [HF.out]; rfl),HA _ _⟩
theorem spec_form (w : World) (x : Sig) (cs : List Value) (S : Blks) (hx : rd false w cs x S) : Calls Tryz.prog 141 #[.agg cs.toArray] w fun e w' => e = .returned (.bool (sigForm x)) ∧ Below w.heap.size w w':=by
 obtain ⟨A0,k0,S0,A1,k1,S1,A2,k2,S2,rfl,ha,l0,m0,r0,_,l1,m1,r1,_,l2,m2,r2,_⟩:=Sig.open hx
 clear hx
 obtain ⟨at_,op,sh,si⟩:=x
 simp only [Sig.cs]
 simp only at ha l0 m0 r0 l1 m1 r1 l2 m2 r2
 have R0:=fun W hb => spec_wide W op A0 k0 S0 (r0.later hb) (by exact Nat.le_trans l0 m0) 8 zz4
 have R1:=fun W hb => spec_wide W sh A1 k1 S1 (r1.later hb) (by exact Nat.le_trans l1 m1) 8 zz4
 have R2:=fun W hb => spec_wide W si A2 k2 S2 (r2.later hb) (by exact Nat.le_trans l2 m2) 4 zz4
 have HR0:=zd R0
 have HR1:=zd R1
 have HR2:=zd R2
 clear R0 R1 R2 r0 r1 r2
 have HF : Hid (sigForm ⟨at_,op,sh,si⟩ = (inB at_ 0 15 && wideOk op 8 && wideOk sh 8 && wideOk si 4)):=zd rfl
 have HA:=fun W => (Below.refl W.heap.size W).alloc (Nat.le_refl _)
 cases hin : inB at_ 0 15
 ·rw [hin] at HF
  go_enter Tryz.func141,Tryz.ntmps141
  go_wp2_with (go_at_call 48; refine (spec_in _ _ _ _).mono ?_; rintro e w2 ⟨rfl,rfl⟩)
  go_ret; exact ⟨ya1 (by rw [HF.out]; rfl),HA _ _⟩
 cases h0 : wideOk op 8
 ·rw [hin,h0] at HF
  go_enter Tryz.func141,Tryz.ntmps141
  go_wp2_with (go_at_call 48; refine (spec_in _ _ _ _).mono ?_; rintro e w2 ⟨rfl,rfl⟩)
  refine (HR0.out _ (HA _ _)).mono ?_
  rintro e w2 ⟨rfl,rfl⟩
  rw [h0]
  go_wp2_with (fail)
  go_ret; exact ⟨ya1 (by rw [HF.out]; rfl),HA _ _⟩
 cases h1 : wideOk sh 8
 ·rw [hin,h0,h1] at HF
  go_enter Tryz.func141,Tryz.ntmps141
  go_wp2_with (go_at_call 48; refine (spec_in _ _ _ _).mono ?_; rintro e w2 ⟨rfl,rfl⟩)
  refine (HR0.out _ (HA _ _)).mono ?_
  rintro e w2 ⟨rfl,rfl⟩
  rw [h0]
  go_wp2_with (fail)
  refine (HR1.out _ (HA _ _)).mono ?_
  rintro e w2 ⟨rfl,rfl⟩
  rw [h1]
  go_wp2_with (fail)
  go_ret; exact ⟨ya1 (by rw [HF.out]; rfl),HA _ _⟩
 ·rw [hin,h0,h1] at HF
  go_enter Tryz.func141,Tryz.ntmps141
  go_wp2_with (go_at_call 48; refine (spec_in _ _ _ _).mono ?_; rintro e w2 ⟨rfl,rfl⟩)
  refine (HR0.out _ (HA _ _)).mono ?_
  rintro e w2 ⟨rfl,rfl⟩
  rw [h0]
  go_wp2_with (fail)
  refine (HR1.out _ (HA _ _)).mono ?_
  rintro e w2 ⟨rfl,rfl⟩
  rw [h1]
  go_wp2_with (fail)
  refine (HR2.out _ (HA _ _)).mono ?_
  rintro e w2 ⟨rfl,rfl⟩
  obtain ⟨b,hb⟩ : ∃ b,wideOk si 4 = b:=⟨_,rfl⟩
  rw [hb] at HF ⊢
  go_wp2_with (fail)
  go_ret; exact ⟨ya1 (by rw [HF.out]; rfl),HA _ _⟩
theorem impl_BitOf (w : World) (n : Nat) (hn : n < 256) (k : Nat) (hk : k < 8) : Calls Tryz.prog 187 #[.int .i64 n, .int .i64 k] w fun e w' => e = .returned (.int .i64 (bitOf n k)) ∧ w = w':=by
 rcases (show k = 0 ∨ k = 1 ∨ k = 2 ∨ k = 3 ∨ k = 4 ∨ k = 5 ∨ k = 6 ∨ k = 7 by omega) with rfl | rfl | rfl | rfl | rfl | rfl | rfl | rfl
 ·have hi : inB 0 0 7 = true:=by decide
  have hb : bitOf n 0 = n / 128 % 2:=rfl
  have HB:=zd hb
  clear hb
  go_enter Tryz.func187,Tryz.ntmps187
  go_wp2_with (go_at_call 62; refine (impl_in _ _ _ _).mono ?_; rintro e w2 ⟨rfl,rfl⟩)
  go_ret
  exact ⟨zz27,rfl⟩
 ·have hi : inB 1 0 7 = true:=by decide
  have hb : bitOf n 1 = n / 64 % 2:=rfl
  have HB:=zd hb
  clear hb
  go_enter Tryz.func187,Tryz.ntmps187
  go_wp2_with (go_at_call 62; refine (impl_in _ _ _ _).mono ?_; rintro e w2 ⟨rfl,rfl⟩)
  go_ret
  exact ⟨zz27,rfl⟩
 ·have hi : inB 2 0 7 = true:=by decide
  have hb : bitOf n 2 = n / 32 % 2:=rfl
  have HB:=zd hb
  clear hb
  go_enter Tryz.func187,Tryz.ntmps187
  go_wp2_with (go_at_call 62; refine (impl_in _ _ _ _).mono ?_; rintro e w2 ⟨rfl,rfl⟩)
  go_ret
  exact ⟨zz27,rfl⟩
 ·have hi : inB 3 0 7 = true:=by decide
  have hb : bitOf n 3 = n / 16 % 2:=rfl
  have HB:=zd hb
  clear hb
  go_enter Tryz.func187,Tryz.ntmps187
  go_wp2_with (go_at_call 62; refine (impl_in _ _ _ _).mono ?_; rintro e w2 ⟨rfl,rfl⟩)
  go_ret
  exact ⟨zz27,rfl⟩
 ·have hi : inB 4 0 7 = true:=by decide
  have hb : bitOf n 4 = n / 8 % 2:=rfl
  have HB:=zd hb
  clear hb
  go_enter Tryz.func187,Tryz.ntmps187
  go_wp2_with (go_at_call 62; refine (impl_in _ _ _ _).mono ?_; rintro e w2 ⟨rfl,rfl⟩)
  go_ret
  exact ⟨zz27,rfl⟩
 ·have hi : inB 5 0 7 = true:=by decide
  have hb : bitOf n 5 = n / 4 % 2:=rfl
  have HB:=zd hb
  clear hb
  go_enter Tryz.func187,Tryz.ntmps187
  go_wp2_with (go_at_call 62; refine (impl_in _ _ _ _).mono ?_; rintro e w2 ⟨rfl,rfl⟩)
  go_ret
  exact ⟨zz27,rfl⟩
 ·have hi : inB 6 0 7 = true:=by decide
  have hb : bitOf n 6 = n / 2 % 2:=rfl
  have HB:=zd hb
  clear hb
  go_enter Tryz.func187,Tryz.ntmps187
  go_wp2_with (go_at_call 62; refine (impl_in _ _ _ _).mono ?_; rintro e w2 ⟨rfl,rfl⟩)
  go_ret
  exact ⟨zz27,rfl⟩
 ·have hi : inB 7 0 7 = true:=by decide
  have hb : bitOf n 7 = n / 1 % 2:=rfl
  have HB:=zd hb
  clear hb
  go_enter Tryz.func187,Tryz.ntmps187
  go_wp2_with (go_at_call 62; refine (impl_in _ _ _ _).mono ?_; rintro e w2 ⟨rfl,rfl⟩)
  go_ret
  exact ⟨zz27,rfl⟩
theorem spec_BitOf (w : World) (n : Nat) (hn : n < 256) (k : Nat) (hk : k < 8) : Calls Tryz.prog 143 #[.int .i64 n, .int .i64 k] w fun e w' => e = .returned (.int .i64 (bitOf n k)) ∧ w = w':=by
 rcases (show k = 0 ∨ k = 1 ∨ k = 2 ∨ k = 3 ∨ k = 4 ∨ k = 5 ∨ k = 6 ∨ k = 7 by omega) with rfl | rfl | rfl | rfl | rfl | rfl | rfl | rfl
 ·have hi : inB 0 0 7 = true:=by decide
  have hb : bitOf n 0 = n / 128 % 2:=rfl
  have HB:=zd hb
  clear hb
  go_enter Tryz.func143,Tryz.ntmps143
  go_wp2_with (go_at_call 48; refine (spec_in _ _ _ _).mono ?_; rintro e w2 ⟨rfl,rfl⟩)
  go_ret
  exact ⟨zz27,rfl⟩
 ·have hi : inB 1 0 7 = true:=by decide
  have hb : bitOf n 1 = n / 64 % 2:=rfl
  have HB:=zd hb
  clear hb
  go_enter Tryz.func143,Tryz.ntmps143
  go_wp2_with (go_at_call 48; refine (spec_in _ _ _ _).mono ?_; rintro e w2 ⟨rfl,rfl⟩)
  go_ret
  exact ⟨zz27,rfl⟩
 ·have hi : inB 2 0 7 = true:=by decide
  have hb : bitOf n 2 = n / 32 % 2:=rfl
  have HB:=zd hb
  clear hb
  go_enter Tryz.func143,Tryz.ntmps143
  go_wp2_with (go_at_call 48; refine (spec_in _ _ _ _).mono ?_; rintro e w2 ⟨rfl,rfl⟩)
  go_ret
  exact ⟨zz27,rfl⟩
 ·have hi : inB 3 0 7 = true:=by decide
  have hb : bitOf n 3 = n / 16 % 2:=rfl
  have HB:=zd hb
  clear hb
  go_enter Tryz.func143,Tryz.ntmps143
  go_wp2_with (go_at_call 48; refine (spec_in _ _ _ _).mono ?_; rintro e w2 ⟨rfl,rfl⟩)
  go_ret
  exact ⟨zz27,rfl⟩
 ·have hi : inB 4 0 7 = true:=by decide
  have hb : bitOf n 4 = n / 8 % 2:=rfl
  have HB:=zd hb
  clear hb
  go_enter Tryz.func143,Tryz.ntmps143
  go_wp2_with (go_at_call 48; refine (spec_in _ _ _ _).mono ?_; rintro e w2 ⟨rfl,rfl⟩)
  go_ret
  exact ⟨zz27,rfl⟩
 ·have hi : inB 5 0 7 = true:=by decide
  have hb : bitOf n 5 = n / 4 % 2:=rfl
  have HB:=zd hb
  clear hb
  go_enter Tryz.func143,Tryz.ntmps143
  go_wp2_with (go_at_call 48; refine (spec_in _ _ _ _).mono ?_; rintro e w2 ⟨rfl,rfl⟩)
  go_ret
  exact ⟨zz27,rfl⟩
 ·have hi : inB 6 0 7 = true:=by decide
  have hb : bitOf n 6 = n / 2 % 2:=rfl
  have HB:=zd hb
  clear hb
  go_enter Tryz.func143,Tryz.ntmps143
  go_wp2_with (go_at_call 48; refine (spec_in _ _ _ _).mono ?_; rintro e w2 ⟨rfl,rfl⟩)
  go_ret
  exact ⟨zz27,rfl⟩
 ·have hi : inB 7 0 7 = true:=by decide
  have hb : bitOf n 7 = n / 1 % 2:=rfl
  have HB:=zd hb
  clear hb
  go_enter Tryz.func143,Tryz.ntmps143
  go_wp2_with (go_at_call 48; refine (spec_in _ _ _ _).mono ?_; rintro e w2 ⟨rfl,rfl⟩)
  go_ret
  exact ⟨zz27,rfl⟩
end Go.Proofs.YtlfnmbcnehaikaaGreatDoor
namespace Go.Proofs.YtlfnmbcnehaikaaGreatDoor
open Go.RowKit Lay Mk
def figT (v : Nat) : ByteArray:=⟨#[UInt8.ofNat (48 + v)]⟩
def seedOf (n : Int) : ByteArray:=if inB n 0 2 then ⟨#[104,111,117,115,101]⟩ ++ figT n.toNat else ⟨#[]⟩
theorem dec_small {v : Nat} (h : v < 10) : (⟨(Go.Lib.decDigits v).toArray⟩ : ByteArray) = figT v:=by
 unfold Go.Lib.decDigits; simp [h,figT]
theorem impl_Decimal (v : Nat) (h : v < 10) (w : World) : Calls Tryz.prog 85 #[.int .i64 v] w fun e w' => e = .returned (.string (figT v)) ∧ Below w.heap.size w w':=by
 have hd:=dec_small h
 go_enter Tryz.func85,Tryz.ntmps85
 go_wp2_with (fail)
 refine (Tryz.strconv_Itoa_small v zz4 _).mono ?_
 rintro e0 w1 ⟨rfl,hw⟩
 subst hw
 rw [hd]
 go_wp2
 go_ret
 exact ⟨rfl,Below.refl _ _⟩
theorem spec_Decimal0 (w : World) : Calls Tryz.prog 78 #[.int .i64 0] w fun e w' => e = .returned (.string (figT 0)) ∧ Below w.heap.size w w':=by
 go_enter Tryz.func78,Tryz.ntmps78
 go_wp2
 go_ret
 exact ⟨rfl,Below.refl _ _⟩
theorem spec_Decimal1 (w : World) : Calls Tryz.prog 78 #[.int .i64 1] w fun e w' => e = .returned (.string (figT 1)) ∧ Below w.heap.size w w':=by
 go_enter Tryz.func78,Tryz.ntmps78
 go_wp2
 go_loopw [0,4] (fun n s wr => ∃ b : Bool,n = .int .i64 (if b then 0 else 1) ∧ s = .string (if b then figT 1 else ⟨#[]⟩) ∧ Below w.heap.size w wr) (fun n _ _ => (intOf n).toNat)
 case atStart => exact ⟨false,rfl,rfl,Below.refl _ _⟩
 case round =>
  obtain ⟨b,rfl,rfl,hB⟩:=hrel
  have hz:=hB.size
  cases b
  ·simp only [Bool.false_eq_true,if_false]
   go_wp2_with (first | (refine wpList_strB rfl _ rfl Tryz.underlying5 Tryz.underlying9 rfl rfl (br_lit _ _ _ [49] rfl) ?_) | go_in)
   go_roundw
   case rel => exact ⟨true,rfl,zz22,hB.alloc hz _⟩
   case measure => simp [intOf]
  ·simp only [if_true]
   go_wp2
   go_ret
   exact ⟨rfl,hB⟩
theorem spec_Decimal2 (w : World) : Calls Tryz.prog 78 #[.int .i64 2] w fun e w' => e = .returned (.string (figT 2)) ∧ Below w.heap.size w w':=by
 go_enter Tryz.func78,Tryz.ntmps78
 go_wp2
 go_loopw [0,4] (fun n s wr => ∃ b : Bool,n = .int .i64 (if b then 0 else 2) ∧ s = .string (if b then figT 2 else ⟨#[]⟩) ∧ Below w.heap.size w wr) (fun n _ _ => (intOf n).toNat)
 case atStart => exact ⟨false,rfl,rfl,Below.refl _ _⟩
 case round =>
  obtain ⟨b,rfl,rfl,hB⟩:=hrel
  have hz:=hB.size
  cases b
  ·simp only [Bool.false_eq_true,if_false]
   go_wp2_with (first | (refine wpList_strB rfl _ rfl Tryz.underlying5 Tryz.underlying9 rfl rfl (br_lit _ _ _ [50] rfl) ?_) | go_in)
   go_roundw
   case rel => exact ⟨true,rfl,zz22,hB.alloc hz _⟩
   case measure => simp [intOf]
  ·simp only [if_true]
   go_wp2
   go_ret
   exact ⟨rfl,hB⟩
theorem impl_SeedOf (w : World) (n : Int) (_hn : I64 n) : Calls Tryz.prog 35 #[.int .i64 n] w fun e w' => e = .returned (.string (seedOf n)) ∧ Below w.heap.size w w':=by
 cases hi : inB n 0 2
 ·have HS : Hid (seedOf n = ⟨#[]⟩):=zd (by unfold seedOf; rw [hi]; rfl)
  go_enter Tryz.func35,Tryz.ntmps35
  go_wp2_with (go_at_call 57; refine (house_in _ _).mono ?_; rintro e w2 ⟨rfl,rfl⟩)
  go_ret
  exact ⟨by rw [HS.out]; rfl,Below.refl _ _⟩
 ·have HS : Hid (seedOf n = ⟨#[104,111,117,115,101]⟩ ++ figT n.toNat):=zd (by unfold seedOf; rw [hi]; rfl)
  have hb : n = 0 ∨ n = 1 ∨ n = 2:=by simp [inB] at hi; omega
  have hD : ∀ W,Calls Tryz.prog 85 #[.int .i64 n] W fun e w' => e = .returned (.string (figT n.toNat)) ∧ Below W.heap.size W w':=fun W => by
   rcases hb with rfl | rfl | rfl
   ·exact impl_Decimal 0 zz44 W
   ·exact impl_Decimal 1 zz44 W
   ·exact impl_Decimal 2 zz44 W
  have hsz : (figT n.toNat).size = 1:=rfl
  obtain ⟨f,hf⟩ : ∃ f,figT n.toNat = f:=⟨_,rfl⟩
  rw [hf] at HS hD hsz
  clear hf hb
  go_enter Tryz.func35,Tryz.ntmps35
  go_wp2_with (go_at_call 57; refine (house_in _ _).mono ?_; rintro e w2 ⟨rfl,rfl⟩)
  refine (hD _).mono ?_
  rintro e0 w1 ⟨rfl,hb⟩
  have hc : ¬ 9223372036854775807 < (⟨#[104,111,117,115,101]⟩ : ByteArray).size + f.size:=by rw [hsz]; decide
  go_wp2
  go_ret
  exact ⟨by rw [HS.out]; rfl,hb⟩
theorem spec_SeedOf (w : World) (n : Int) (_hn : I64 n) : Calls Tryz.prog 31 #[.int .i64 n] w fun e w' => e = .returned (.string (seedOf n)) ∧ Below w.heap.size w w':=by
 cases hi : inB n 0 2
 ·have HS : Hid (seedOf n = ⟨#[]⟩):=zd (by unfold seedOf; rw [hi]; rfl)
  go_enter Tryz.func31,Tryz.ntmps31
  go_wp2_with (go_at_call 48; refine (spec_in _ _ _ _).mono ?_; rintro e w2 ⟨rfl,rfl⟩)
  go_ret
  exact ⟨by rw [HS.out]; rfl,Below.refl _ _⟩
 ·have HS : Hid (seedOf n = ⟨#[104,111,117,115,101]⟩ ++ figT n.toNat):=zd (by unfold seedOf; rw [hi]; rfl)
  have hb : n = 0 ∨ n = 1 ∨ n = 2:=by simp [inB] at hi; omega
  have hD : ∀ W,Calls Tryz.prog 78 #[.int .i64 n] W fun e w' => e = .returned (.string (figT n.toNat)) ∧ Below W.heap.size W w':=fun W => by
   rcases hb with rfl | rfl | rfl
   ·exact spec_Decimal0 W
   ·exact spec_Decimal1 W
   ·exact spec_Decimal2 W
  have hsz : (figT n.toNat).size = 1:=rfl
  obtain ⟨f,hf⟩ : ∃ f,figT n.toNat = f:=⟨_,rfl⟩
  rw [hf] at HS hD hsz
  clear hf hb
  go_enter Tryz.func31,Tryz.ntmps31
  go_wp2_with (go_at_call 48; refine (spec_in _ _ _ _).mono ?_; rintro e w2 ⟨rfl,rfl⟩)
  refine (hD _).mono ?_
  rintro e0 w1 ⟨rfl,hb⟩
  have hc : ¬ 9223372036854775807 < (⟨#[104,111,117,115,101]⟩ : ByteArray).size + f.size:=by rw [hsz]; decide
  go_wp2
  go_ret
  exact ⟨by rw [HS.out]; rfl,hb⟩
end Go.Proofs.YtlfnmbcnehaikaaGreatDoor
namespace Go.Proofs.YtlfnmbcnehaikaaGreatDoor
open Go.RowKit Lay Mk
theorem row_pre {α : Type} [Lay α] {w : World} {A : Option Addr} {cap : Nat} {xs : List α} {S : Blks} (h : Row false w A cap xs S) (cap' k : Nat) : Row false w A cap' (xs.take k) S:=by
 intro hne
 have h0 : xs ≠ []:=by rintro rfl; simp at hne
 obtain ⟨b,off,e,hb,T,h1,h2,h3⟩:=h h0
 refine ⟨b,off,e,hb,T,h1,h2,fun i hi => ?_⟩
 have hi' : i < xs.length:=by rw [List.length_take] at hi; omega
 obtain ⟨cs,h4,h5⟩:=h3 i hi'
 exact ⟨cs,h4,by rw [List.getElem_take]; exact h5⟩
def lastHash (ys : List Head) : ByteArray:=match ys.getLast? with
 | none => ⟨#[]⟩
 | some y => headHash y
def nextHead (ys : List Head) (house : Int) (root : ByteArray) : Head:=⟨house,ys.length + 1,root,lastHash ys⟩
theorem lastHash_at {ys : List Head} {k : Nat} (h : ys.length = k + 1) : lastHash ys = headHash (ys[k]'zz4):=by
 have : ys.getLast? = some (ys[k]'zz4):=by
  rw [List.getLast?_eq_getElem?,show ys.length - 1 = k by omega,List.getElem?_eq_getElem zz4]
 unfold lastHash; rw [this]
theorem lastHash_nil {ys : List Head} (h : ys.length = 0) : lastHash ys = ⟨#[]⟩:=by
 have : ys = []:=List.eq_nil_of_length_eq_zero h
 subst this; rfl
def chainP (xs : List Head) (house : Int) (k : Nat) : Bool:=match xs[k]? with
 | none => false
 | some x => headOk x && decide (x.house = house) && decide (x.epoch = k + 1) && decide (x.prev = lastHash (xs.take k))
def chainOk (xs : List Head) (house : Int) : Bool:=allN xs.length (chainP xs house)
theorem chainP_at {xs : List Head} {house : Int} {k : Nat} (h : k < xs.length) : chainP xs house k = (headOk xs[k] && decide (xs[k].house = house) && decide (xs[k].epoch = k + 1) && decide (xs[k].prev = lastHash (xs.take k))):=by
 unfold chainP; rw [List.getElem?_eq_getElem h]
theorem chainOk_bad {xs : List Head} {house : Int} {k : Nat} (h : k < xs.length) (hp : chainP xs house k = false) : chainOk xs house = false:=allN_bad h hp
theorem chainOk_end {xs : List Head} {house : Int} (h : ∀ k,k < xs.length → chainP xs house k = true) : chainOk xs house = true:=allN_end h
theorem chain_prev0 {x : Head} (h : headOk x = true) (he : x.epoch = 1) : x.prev = ⟨#[]⟩:=by
 simp only [headOk,Bool.and_eq_true] at h
 obtain ⟨_,h4⟩:=h
 rw [if_pos he] at h4
 simpa using h4
theorem last_take {xs : List Head} {k : Nat} (h : k < xs.length) : lastHash (xs.take (k + 1)) = headHash xs[k]:=by
 rw [lastHash_at (k:=k) (by rw [List.length_take]; omega),List.getElem_take]
theorem impl_nextHead (w : World) (ys : List Head) (A : Option Addr) (cap : Nat) (S : Blks) (hx : Row false w A cap ys S) (hl : ys.length ≤ 4000000000) (house : Int) (root : ByteArray) (hT : Tabs w) : Calls Tryz.prog 103 #[.slice A ys.length cap, .int .i64 house, .string root] w fun e w' => e = .returned (.agg (Head.cs (nextHead ys house root)).toArray) ∧ Below w.heap.size w w':=by
 rcases Nat.eq_zero_or_pos ys.length with h0 | h0
 ·have HL:=zd (lastHash_nil h0)
  have HN : Hid (nextHead ys house root = ⟨house,1,root,⟨#[]⟩⟩):=zd (by unfold nextHead; rw [HL.out,h0]; rfl)
  rw [h0]
  clear hx
  go_enter Tryz.func103,Tryz.ntmps103
  go_wp2
  refine bodyPost_ret (v:=.agg #[.int .i64 house, .int .i64 1, .string root, .string ⟨#[]⟩]) (by simp [results,Tryz.results103,go_sem]) rfl ⟨by rw [HN.out]; rfl,by ((repeat (first | with_reducible exact Below.refl _ _ | with_reducible apply Below.drew | with_reducible refine Below.alloc ?_ ?_ _ | with_reducible refine Below.setCell ?_ ?_ _)); all_goals (simp))⟩
 ·obtain ⟨k,hk⟩ : ∃ k,ys.length = k + 1:=⟨ys.length - 1,zz4⟩
  have hkl : k < ys.length:=zz4
  have HN : Hid (nextHead ys house root = ⟨house,(k : Int) + 1 + 1,root,headHash ys[k]⟩):=zd (by unfold nextHead; rw [lastHash_at hk]; congr 1; omega)
  obtain ⟨b1,o1,rfl,hl1,f0,f1,f2,f3, -, -, -, -⟩:=Row.atHead hx hkl
  obtain ⟨y,hy⟩ : ∃ y,ys[k] = y:=⟨_,rfl⟩
  rw [hy] at f0 f1 f2 f3 HN
  clear hy hx h0
  rw [hk]
  have hk2 : IntKind.i64.wrap ((k : Int) + 1 - 1) = k:=zz16
  have hk3 : (k : Int) + 1 - 1 = k:=zz4
  go_enter Tryz.func103,Tryz.ntmps103
  go_wp2_with (fail)
  generalize hW : (w.alloc (.cells #[.int .i64 0, .int .i64 0, .string ⟨#[]⟩, .string ⟨#[]⟩] 72)).alloc (.cells #[.int .i64 house, .int .i64 ((k : Int) + 1 + 1), .string root, .string ⟨#[]⟩] 72) = W
  have hWB : Below w.heap.size w W:=by rw [← hW]; exact ((Below.refl _ _).alloc (Nat.le_refl _) _).alloc zz17 _
  have hWz : W.heap.size = w.heap.size + 1 + 1:=by rw [← hW]; simp
  have e0 : W.heap[w.heap.size]? = some (.cells #[.int .i64 0, .int .i64 0, .string ⟨#[]⟩, .string ⟨#[]⟩] 72):=by
   rw [← hW,((Below.refl (w.heap.size + 1) _).alloc zz17 _).block w.heap.size zz4]; exact heap_alloc_new w _
  have e1 : W.heap[w.heap.size + 1]? = some (.cells #[.int .i64 house, .int .i64 ((k : Int) + 1 + 1), .string root, .string ⟨#[]⟩] 72):=by
   rw [← hW]; have:=heap_alloc_new (w.alloc (.cells #[.int .i64 0, .int .i64 0, .string ⟨#[]⟩, .string ⟨#[]⟩] 72)) (.cells #[.int .i64 house, .int .i64 ((k : Int) + 1 + 1), .string root, .string ⟨#[]⟩] 72); simpa using this
  clear hW
  refine (impl_HeadHash y W (hT.later hWB)).mono ?_
  rintro e2 w1 ⟨rfl,hb⟩
  rw [← hb.block _ zz4] at e0 e1
  have hB1:=hWB.trans (hb.mono zz4)
  have hz1:=hb.size
  obtain ⟨hh,hhe⟩ : ∃ h,headHash y = h:=⟨_,rfl⟩
  rw [hhe] at HN ⊢
  clear hhe hb hWB hWz f0 f1 f2 f3 hT
  have c0:=cell_of_row w1 w.heap.size 0 _ _ _ e0
  have c1:=cell_of_row w1 w.heap.size 1 _ _ _ e0
  have c2:=cell_of_row w1 w.heap.size 2 _ _ _ e0
  have c3:=cell_of_row w1 w.heap.size 3 _ _ _ e0
  have d0:=cell_of_row w1 (w.heap.size + 1) 0 _ _ _ e1
  have d1:=cell_of_row w1 (w.heap.size + 1) 1 _ _ _ e1
  have d2:=cell_of_row w1 (w.heap.size + 1) 2 _ _ _ e1
  have d3:=cell_of_row w1 (w.heap.size + 1) 3 _ _ _ e1
  have hf0 : ∀ o,w1.frozen? ⟨w.heap.size,o,none⟩ = false:=fun o => frozen_of_row _ _ o _ _ e0
  have hf1 : ∀ o,w1.frozen? ⟨w.heap.size + 1,o,none⟩ = false:=fun o => frozen_of_row _ _ o _ _ e1
  clear e0 e1
  simp at c0 c1 c2 c3 d0 d1 d2 d3
  go_wp2
  refine bodyPost_ret (v:=.agg #[.int .i64 house, .int .i64 ((k : Int) + 1 + 1), .string root, .string hh]) (by simp [results,Tryz.results103,go_sem, *]) rfl ⟨by rw [HN.out]; rfl,by ((repeat (first | exact hB1 | with_reducible refine Below.setCell ?_ ?_ _)); all_goals (first | with_reducible exact Nat.le_refl _ | omega | (simp; done) | (simp; omega)))⟩
theorem impl_ChainOk (w : World) (xs : List Head) (A : Option Addr) (cap : Nat) (S : Blks) (hx : Row false w A cap xs S) (hl : xs.length ≤ 4000000000) (hcap : xs.length ≤ cap) (house : Int) (hT : Tabs w) : Calls Tryz.prog 65 #[.slice A xs.length cap, .int .i64 house] w fun e w' => e = .returned (.bool (chainOk xs house)) ∧ Below w.heap.size w w':=by
 go_enter Tryz.func65,Tryz.ntmps65
 go_wp2
 go_loopw [9] (fun i wr => ∃ k : Nat,k ≤ xs.length ∧ i = .int .i64 k ∧ Hid (∀ j,j < k → chainP xs house j = true) ∧ Below w.heap.size w wr) (fun i _ => xs.length - (intOf i).toNat)
 case atStart => exact ⟨0,Nat.zero_le _,rfl,zd upto_zero,Below.refl _ _⟩
 case round =>
  obtain ⟨k,hk,rfl,hall,hB⟩:=hrel
  have hz:=hB.size
  by_cases hlt : k < xs.length
  ·obtain ⟨b1,o1,rfl,hl1,f0,f1,f2,f3, -, -, -, -⟩:=Row.atHead hx hlt
   replace f0:=(hB.cell (p:=⟨b1,o1 + k * 4,none⟩) hl1).trans f0
   replace f1:=(hB.cell (p:=⟨b1,o1 + k * 4 + 1,none⟩) hl1).trans f1
   replace f2:=(hB.cell (p:=⟨b1,o1 + k * 4 + 2,none⟩) hl1).trans f2
   replace f3:=(hB.cell (p:=⟨b1,o1 + k * 4 + 3,none⟩) hl1).trans f3
   have hl2 : b1 < wr.heap.size:=zz4
   have HP:=zd (chainP_at (house:=house) hlt)
   have HBd:=zd (chainOk_bad (house:=house) hlt)
   have HN:=zd (upto_succ (p:=chainP xs house) hall.out)
   have htk : (xs.take k).length = k:=by rw [List.length_take]; omega
   obtain ⟨x,hxx⟩ : ∃ x,xs[k] = x:=⟨_,rfl⟩
   rw [hxx] at f0 f1 f2 f3 HP
   have HNX : Hid (nextHead (xs.take k) house x.root = ⟨house,(k : Int) + 1,x.root,lastHash (xs.take k)⟩):=zd (by unfold nextHead; rw [htk])
   clear hxx
   go_wp2
   generalize hW : wr.alloc (.cells #[.int .i64 x.house, .int .i64 x.epoch, .string x.root, .string x.prev] 72) = W
   have hBW : Below w.heap.size w W:=by rw [← hW]; exact hB.alloc hz _
   obtain ⟨B,hBe⟩ : ∃ B,wr.heap.size = B:=⟨_,rfl⟩
   have hBlt : B < W.heap.size:=by rw [← hW, ← hBe]; simp
   have q0 : W.cell? ⟨B,0,none⟩ = some (.int .i64 x.house):=by rw [← hW, ← hBe]; exact ya2 _ _ _ _ _ rfl
   have q1 : W.cell? ⟨B,1,none⟩ = some (.int .i64 x.epoch):=by rw [← hW, ← hBe]; exact ya2 _ _ _ _ _ rfl
   have q2 : W.cell? ⟨B,2,none⟩ = some (.string x.root):=by rw [← hW, ← hBe]; exact ya2 _ _ _ _ _ rfl
   have q3 : W.cell? ⟨B,3,none⟩ = some (.string x.prev):=by rw [← hW, ← hBe]; exact ya2 _ _ _ _ _ rfl
   have c0:=Grown.cell q0
   have c1:=Grown.cell q1
   have c2:=Grown.cell q2
   have c3:=Grown.cell q3
   have hrow : Hid (Row false W (some ⟨b1,o1,none⟩) cap (xs.take k) S):=zd (row_pre (hx.later hBW) cap k)
   have HTb : Hid (Tabs W):=zd (hT.later hBW)
   have hBz : Hid (Below w.heap.size w W ∧ w.heap.size ≤ W.heap.size):=zd ⟨hBW,hBW.size⟩
   have hkc : k ≤ cap:=zz4
   rw [hBe]
   clear hBe hBW hW q0 q1 q2 q3 f0 f1 f2 f3 hl1 hl2 hB hz
   obtain ⟨lh,hlh⟩ : ∃ l,lastHash (xs.take k) = l:=⟨_,rfl⟩
   have HNH : Hid (∀ W',Below W.heap.size W W' → Calls Tryz.prog 103 #[.slice (some ⟨b1,o1,none⟩) k cap, .int .i64 house, .string x.root] W' fun e w' => e = .returned (.agg #[.int .i64 house, .int .i64 ((k : Int) + 1), .string x.root, .string lh]) ∧ Below W'.heap.size W' w'):=zd (fun W' h => by
    have h1:=impl_nextHead W' (xs.take k) _ cap S (hrow.out.later h) zz4 house x.root (HTb.out.later h)
    rw [htk,HNX.out,hlh] at h1
    exact h1)
   rw [hlh] at HP
   clear hlh HNX hrow HTb htk
   obtain ⟨xh,xe,xr,xp⟩:=x
   dsimp only at HP HNH c0 c1 c2 c3 ⊢
   cases hok : headOk ⟨xh,xe,xr,xp⟩
   ·have HF : Hid (chainOk xs house = false):=zd (HBd.out (by rw [HP.out,hok]; rfl))
    refine ya0 (by kernel_rfl) (by kernel_rfl) ?_
    repeat (go_big_quiet_step (first | (go_at_call 99; exact ya4 (impl_HeadOk ⟨_,_,_,_⟩ _)) | (go_at_call 103; exact ya4 (HNH.out _ (Grown.ok _)))))
    refine wpQuiet_nil ?_
    intro w2 hw2
    have hR:=ya5 hw2
    clear hw2
    go_wp2
    go_ret
    exact ⟨ya1 zz24,hBz.out.1.trans (hR.mono hBz.out.2)⟩
   ·have HG : Hid (chainP xs house k = (decide (xh = house) && decide (xe = k + 1) && decide (xp = lh))):=zd (by rw [HP.out,hok]; simp)
    have hte : (xp.toList = lh.toList) = (xp = lh):=by apply propext; exact ⟨toList_inj,fun h => by rw [h]⟩
    by_cases h1 : xh = house
    ·by_cases h2 : xe = k + 1
     ·by_cases h3 : xp = lh
      ·have HF : Hid (∀ q,q < k + 1 → chainP xs house q = true):=zd (HN.out (by rw [HG.out,decide_eq_true h1,decide_eq_true h2,decide_eq_true h3]; rfl))
       subst h1 h2 h3
       clear hte
       refine ya0 (by kernel_rfl) (by kernel_rfl) ?_
       repeat (go_big_quiet_step (first | (go_at_call 99; exact ya4 (impl_HeadOk ⟨_,_,_,_⟩ _)) | (go_at_call 103; exact ya4 (HNH.out _ (Grown.ok _)))))
       refine wpQuiet_nil ?_
       intro w2 hw2
       have hR:=ya5 hw2
       clear hw2
       go_wp2
       go_roundw
       case rel => exact ⟨k + 1,hlt,by go_num,HF,hBz.out.1.trans (hR.mono hBz.out.2)⟩
       case measure => simp [intOf]; omega
      ·have HF : Hid (chainOk xs house = false):=zd (HBd.out (by rw [HG.out,decide_eq_false h3]; simp))
       subst h1 h2
       refine ya0 (by kernel_rfl) (by kernel_rfl) ?_
       repeat (go_big_quiet_step (first | (go_at_call 99; exact ya4 (impl_HeadOk ⟨_,_,_,_⟩ _)) | (go_at_call 103; exact ya4 (HNH.out _ (Grown.ok _)))))
       refine wpQuiet_nil ?_
       intro w2 hw2
       have hR:=ya5 hw2
       clear hw2
       go_wp2
       go_ret
       exact ⟨ya1 zz24,hBz.out.1.trans (hR.mono hBz.out.2)⟩
     ·have HF : Hid (chainOk xs house = false):=zd (HBd.out (by rw [HG.out,decide_eq_false h2]; simp))
      subst h1
      refine ya0 (by kernel_rfl) (by kernel_rfl) ?_
      repeat (go_big_quiet_step (first | (go_at_call 99; exact ya4 (impl_HeadOk ⟨_,_,_,_⟩ _)) | (go_at_call 103; exact ya4 (HNH.out _ (Grown.ok _)))))
      refine wpQuiet_nil ?_
      intro w2 hw2
      have hR:=ya5 hw2
      clear hw2
      go_wp2
      go_ret
      exact ⟨ya1 zz24,hBz.out.1.trans (hR.mono hBz.out.2)⟩
    ·have HF : Hid (chainOk xs house = false):=zd (HBd.out (by rw [HG.out,decide_eq_false h1]; simp))
     refine ya0 (by kernel_rfl) (by kernel_rfl) ?_
     repeat (go_big_quiet_step (first | (go_at_call 99; exact ya4 (impl_HeadOk ⟨_,_,_,_⟩ _)) | (go_at_call 103; exact ya4 (HNH.out _ (Grown.ok _)))))
     refine wpQuiet_nil ?_
     intro w2 hw2
     have hR:=ya5 hw2
     clear hw2
     go_wp2
     go_ret
     exact ⟨ya1 zz24,hBz.out.1.trans (hR.mono hBz.out.2)⟩
  ·have hke : k = xs.length:=by omega
   subst hke
   have HE:=zd (chainOk_end hall.out)
   go_wp2
   go_ret
   exact ⟨ya1 (by rw [HE.out]),hB⟩
end Go.Proofs.YtlfnmbcnehaikaaGreatDoor
