/- A part of the proof. -/
import Derived.Test.YtlfnmbcnehaikaaGreatDoorHApL23xRo
set_option linter.unusedVariables false
set_option linter.unusedSimpArgs false
set_option maxRecDepth 20000
set_option maxHeartbeats 8000000
namespace Go.Proofs.YtlfnmbcnehaikaaGreatDoor
open Go.RowKit Lay Mk
def Bx (w : World) (r : Nat) (cs : Array Value) (ty : TypeId) : Prop:=w.heap[r]? = some (.cells cs ty (0,0))
theorem Bx.new (w : World) (cs : Array Value) (ty : TypeId) : Bx (w.alloc (.cells cs ty)) w.heap.size cs ty:=heap_alloc_new w _
theorem Bx.at_ {w : World} {r i : Nat} {cs : Array Value} {ty : TypeId} {v : Value} (h : Bx w r cs ty) (hi : cs[i]? = some v) : w.cell? ⟨r,i,none⟩ = some v:=by rw [cell_of_row w r i _ _ (0,0) h]; exact hi
theorem Bx.fz {w : World} {r : Nat} {cs : Array Value} {ty : TypeId} (h : Bx w r cs ty) (o : Nat) : w.frozen? ⟨r,o,none⟩ = false:=frozen_of_row w r o _ _ h
theorem Bx.keep {w w' : World} {r : Nat} {cs : Array Value} {ty : TypeId} (h : Bx w r cs ty) (e : w'.heap[r]? = w.heap[r]?) : Bx w' r cs ty:=e.trans h
theorem rng_dj {a b c d : Nat} (h : b ≤ c) : disj (rng a b) (rng c d):=fun x h1 h2 => by unfold rng at h1 h2; omega
theorem Bx.lt {w : World} {r : Nat} {cs : Array Value} {ty : TypeId} (h : Bx w r cs ty) : r < w.heap.size:=(Array.getElem?_eq_some_iff.1 h).1
theorem impl_done (w : World) (g : Nat) (t : ByteArray) (a : Nat) (b : Bool) (hF : Fld 151 w g t a b) (ht : t.size ≤ 1048576) (ha : a ≤ t.size) : Calls Tryz.prog 163 #[.pointer (some ⟨g,0,none⟩)] w fun e w' => e = .returned (.bool (!b && decide (a = t.size))) ∧ Fld 151 w' g t a b ∧ Chg (fun b => b = g) w w':=by
 have c0:=hF.c0
 have c1:=hF.c1
 have c2:=hF.c2
 have cf:=hF.cf
 have HF:=zd hF
 clear hF
 cases b
 ·by_cases hq : a = t.size
  ·have hd : ((a : Int) == (t.size : Int)) = true:=by rw [beq_iff_eq]; omega
   have HQ : Hid (decide (a = t.size) = true):=zd (decide_eq_true hq)
   clear hq
   go_enter Tryz.func163,Tryz.ntmps163
   go_wp2
   go_quiet (fail)
   go_wp2
   go_ret
   exact ⟨ya1 (by rw [HQ.out]; rfl),HF.out.keep rfl,chg_drew (Chg.refl _ _) _⟩
  ·have hd : ((a : Int) == (t.size : Int)) = false:=by rw [beq_eq_false_iff_ne]; omega
   have HQ : Hid (decide (a = t.size) = false):=zd (decide_eq_false hq)
   clear hq
   go_enter Tryz.func163,Tryz.ntmps163
   go_wp2
   go_quiet (fail)
   go_wp2
   go_ret
   exact ⟨ya1 (by rw [HQ.out]; rfl),HF.out.keep rfl,chg_drew (Chg.refl _ _) _⟩
 ·go_enter Tryz.func163,Tryz.ntmps163
  go_wp2
  go_quiet (fail)
  go_wp2
  go_ret
  exact ⟨ya1 rfl,HF.out.keep rfl,chg_drew (Chg.refl _ _) _⟩
structure SigRd (ty : TypeId) (w : World) (g : Nat) (t : ByteArray) (a : Nat) (b : Bool) (w' : World) (cs : List Value) (x : Sig) (a' : Nat) (b' : Bool) : Prop where
 rdx : rd true w' cs x (nw w.heap.size)
 fld : Fld ty w' g t a' b'
 chg : Chg (fun b => b = g ∨ w.heap.size ≤ b) w w'
 al : a' ≤ t.size
 good : b' = false → b = false ∧ a' = a + 321 ∧ ∀ h : a < t.size,x = sigAt t a h
 back : b' = true → b = true ∨ t.size < a + 321
 l1 : x.open_.length = 8 ∧ x.shut.length = 8 ∧ x.sides.length = 4
 sm : (∀ s ∈ x.open_,s.size ≤ 16) ∧ (∀ s ∈ x.shut,s.size ≤ 16) ∧ (∀ s ∈ x.sides,s.size ≤ 16)
theorem impl_sig (w : World) (g : Nat) (t : ByteArray) (a : Nat) (b : Bool) (hF : Fld 151 w g t a b) (ht : t.size ≤ 1048576) (ha : a ≤ t.size) : Calls Tryz.prog 199 #[.pointer (some ⟨g,0,none⟩)] w fun e w' => ∃ cs x a' b',e = .returned (.agg cs.toArray) ∧ SigRd 151 w g t a b w' cs x a' b':=by
 have hgl:=hF.lt
 have HF:=zd (hF.keep (Below.heap_alloc w (.cells #[.int .i64 0, .slice none 0 0, .slice none 0 0, .slice none 0 0] 74) g hgl))
 clear hF
 go_enter Tryz.func199,Tryz.ntmps199
 go_wp2_with (fail)
 obtain ⟨W,hW⟩ : ∃ W,w.alloc (.cells #[.int .i64 0, .slice none 0 0, .slice none 0 0, .slice none 0 0] 74) = W:=⟨_,rfl⟩
 have hWf : Below w.heap.size w W ∧ W.heap.size = w.heap.size + 1 ∧ Bx W w.heap.size #[.int .i64 0, .slice none 0 0, .slice none 0 0, .slice none 0 0] 74:=by
  rw [← hW]
  exact ⟨(Below.refl _ _).alloc (Nat.le_refl _) _,zz17,Bx.new _ _ _⟩
 rw [hW] at HF ⊢
 clear hW
 obtain ⟨bW,sW,xW⟩:=hWf
 have hONE : ∃ (v : Int) (a1 : Nat) (b1 : Bool),Hid (Calls Tryz.prog 213 #[.pointer (some ⟨g,0,none⟩)] W fun e w' => e = .returned (.int .i64 v) ∧ Fld 151 w' g t a1 b1 ∧ Chg (fun b => b = g) W w') ∧ a1 ≤ t.size ∧ (0 ≤ v ∧ v ≤ 255) ∧ Hid ((b1 = false → b = false ∧ a1 = a + 1 ∧ ∀ h : a < t.size,v = (t[a].toNat : Int)) ∧ (b1 = true → b = true ∨ t.size ≤ a)):=by
  by_cases hg : b = false ∧ a < t.size
  ·have hbt:=t[a].toNat_lt
   exact ⟨_,_,_,zd (impl_one_yes W g t a b HF.out ht ha hg.1 hg.2),hg.2,zz4,zd ⟨fun _ => ⟨hg.1,rfl,fun _ => rfl⟩,fun h => (by cases h)⟩⟩
  ·have hbad : b = true ∨ t.size ≤ a:=by
    cases b
    ·exact .inr (Nat.le_of_not_lt (fun h => hg ⟨rfl,h⟩))
    ·exact .inl rfl
   exact ⟨_,_,_,zd (impl_one_no W g t a b HF.out ht ha hbad),ha,zz4,zd ⟨fun h => (by cases h),fun _ => hbad⟩⟩
 obtain ⟨v,a1,b1,HV,ha1,hv,H1⟩:=hONE
 refine HV.out.mono ?_
 rintro e1 w1 ⟨rfl,hF1,hc1⟩
 clear HV
 have hs1:=hc1.size
 have x1:=xW.keep (hc1.block _ zz4 zz4)
 have HC1:=zd (Chg.mono hc1 (T:=fun b => b = g ∨ w.heap.size ≤ b) (fun b _ h => .inl h))
 clear hc1 xW HF
 go_wp2_with (fail)
 refine (impl_hashes w1 g t a1 b1 hF1 ht ha1 8 (Nat.le_refl _)).mono ?_
 rintro e2 w2 ⟨A2,c2,L2,a2,b2,rfl,h2⟩
 have hs2:=h2.chg.size
 have x2:=x1.keep (h2.chg.block _ x1.lt (by have:=x1.lt; omega))
 have H2:=zd h2
 have hl2:=h2.len
 clear h2 hF1 x1
 rw [hl2]
 go_wp2_with (fail)
 refine (impl_hashes w2 g t a2 b2 H2.out.fld ht H2.out.al 8 (Nat.le_refl _)).mono ?_
 rintro e3 w3 ⟨A3,c3,L3,a3,b3,rfl,h3⟩
 have hs3:=h3.chg.size
 have x3:=x2.keep (h3.chg.block _ x2.lt (by have:=x2.lt; omega))
 have H3:=zd h3
 have hl3:=h3.len
 clear h3 x2
 rw [hl3]
 go_wp2_with (fail)
 refine (impl_hashes w3 g t a3 b3 H3.out.fld ht H3.out.al 4 zz4).mono ?_
 rintro e4 w4 ⟨A4,c4,L4,a4,b4,rfl,h4⟩
 have hs4:=h4.chg.size
 have x4:=x3.keep (h4.chg.block _ x3.lt (by have:=x3.lt; omega))
 have H4:=zd h4
 have hl4:=h4.len
 clear h4 x3
 rw [hl4]
 have y0:=x4.at_ (i:=0) rfl
 have y1:=x4.at_ (i:=1) rfl
 have y2:=x4.at_ (i:=2) rfl
 have y3:=x4.at_ (i:=3) rfl
 have yf:=x4.fz
 have X4:=zd x4
 clear x4
 go_wp2_with (fail)
 refine bodyPost_ret (v:=.agg #[.int .i64 v, .slice A2 8 c2, .slice A3 8 c3, .slice A4 4 c4]) (by simp [results,Tryz.results199,go_sem, *]) rfl ?_
 have hx4:=X4.out.lt
 have hw1 : w.heap.size < w1.heap.size:=zz4
 have R2 : Row true w4 A2 c2 L2 (rng w1.heap.size w2.heap.size):=Row.chg (Row.chg (to_rng H2.out.row) H3.out.chg (fun q k1 k2 => by obtain ⟨p1,p2⟩:=k1; rcases k2 with k2 | k2 <;> omega)) H4.out.chg (fun q k1 k2 => by obtain ⟨p1,p2⟩:=k1; rcases k2 with k2 | k2 <;> omega)
 have R3 : Row true w4 A3 c3 L3 (rng w2.heap.size w3.heap.size):=Row.chg (to_rng H3.out.row) H4.out.chg (fun q k1 k2 => by obtain ⟨p1,p2⟩:=k1; rcases k2 with k2 | k2 <;> omega)
 have R4 : Row true w4 A4 c4 L4 (rng w3.heap.size w4.heap.size):=to_rng H4.out.row
 have n2 : ∀ o : Nat, ¬ rng w1.heap.size w2.heap.size (⟨w.heap.size,o,none⟩ : Addr).block:=fun o k => by have k1 : w1.heap.size ≤ w.heap.size:=k.1; omega
 have n3 : ∀ o : Nat, ¬ rng w2.heap.size w3.heap.size (⟨w.heap.size,o,none⟩ : Addr).block:=fun o k => by have k1 : w2.heap.size ≤ w.heap.size:=k.1; omega
 have n4 : ∀ o : Nat, ¬ rng w3.heap.size w4.heap.size (⟨w.heap.size,o,none⟩ : Addr).block:=fun o k => by have k1 : w3.heap.size ≤ w.heap.size:=k.1; omega
 replace R2:=(((R2.setC (n2 0) (.int .i64 v)).setC (n2 1) (.slice A2 8 c2)).setC (n2 2) (.slice A3 8 c3)).setC (n2 3) (.slice A4 4 c4)
 replace R3:=(((R3.setC (n3 0) (.int .i64 v)).setC (n3 1) (.slice A2 8 c2)).setC (n3 2) (.slice A3 8 c3)).setC (n3 3) (.slice A4 4 c4)
 replace R4:=(((R4.setC (n4 0) (.int .i64 v)).setC (n4 1) (.slice A2 8 c2)).setC (n4 2) (.slice A3 8 c3)).setC (n4 3) (.slice A4 4 c4)
 have hng : g ≠ w.heap.size:=zz4
 have sb : ∀ p q,w.heap.size ≤ p → sub (rng p q) (nw w.heap.size):=fun p q k b k2 => Nat.le_trans k k2.1
 have HD:=Sig.mk' (m:=true) (x:=⟨v,L2,L3,L4⟩) (S:=nw w.heap.size) (by show I64 v; unfold I64; omega) H2.out.le H2.out.cm R2 (sb _ _ zz4) H3.out.le H3.out.cm R3 (sb _ _ zz4) H4.out.le H4.out.cm R4 (sb _ _ zz4) (fun _ => .cons (fun b hb => by rcases List.mem_cons.1 hb with rfl | hb; exact rng_dj (Nat.le_refl _); rw [List.mem_singleton.1 hb]; exact rng_dj zz4) (.cons (fun b hb => by rw [List.mem_singleton.1 hb]; exact rng_dj (Nat.le_refl _)) (.cons (fun b hb => by cases hb) .nil)))
 simp only [Sig.cs,hl2,hl3,hl4] at HD
 have hcw : Chg (fun b => b = g ∨ w.heap.size ≤ b) w w4:=((((Chg.refl _ w).below bW (Nat.le_refl _)).trans HC1.out).trans (H2.out.chg.mono (fun b _ k => k.imp id (fun k => zz4)))).trans ((H3.out.chg.mono (fun b _ k => k.imp id (fun k => zz4))).trans (H4.out.chg.mono (fun b _ k => k.imp id (fun k => zz4))))
 have hset : ∀ (o : Nat) (u : Value) (z : World),Chg (fun b => b = g ∨ w.heap.size ≤ b) w z → Chg (fun b => b = g ∨ w.heap.size ≤ b) w (z.setCell ⟨w.heap.size,o,none⟩ u):=fun o u z k => Chg.setCell k (.inl (.inr (Nat.le_refl _))) u
 have hfs : ∀ (o : Nat) (u : Value) (z : World),Fld 151 z g t a4 b4 → Fld 151 (z.setCell ⟨w.heap.size,o,none⟩ u) g t a4 b4:=fun o u z k => k.keep (Below.heap_setCell z _ u g hng)
 refine ⟨_,⟨v,L2,L3,L4⟩,a4,b4,rfl,HD,hfs _ _ _ (hfs _ _ _ (hfs _ _ _ (hfs _ _ _ H4.out.fld))),hset _ _ _ (hset _ _ _ (hset _ _ _ (hset _ _ _ hcw))),H4.out.al,?_,?_,⟨hl2,hl3,hl4⟩,⟨H2.out.sm,H3.out.sm,H4.out.sm⟩⟩
 ·intro h4
  obtain ⟨q3,q4,q5⟩:=H4.out.good h4
  obtain ⟨q6,q7,q8⟩:=H3.out.good q3
  obtain ⟨q9,q10,q11⟩:=H2.out.good q6
  obtain ⟨q12,q13,q14⟩:=H1.out.1 q9
  refine ⟨q12,zz4,fun h => ?_⟩
  show (⟨v,L2,L3,L4⟩ : Sig) = ⟨(t[a].toNat : Int),cuts t (a + 1) 8,cuts t (a + 129) 8,cuts t (a + 257) 4⟩
  rw [q14 h,q4,q7,q10,show a1 = a + 1 from q13,show a2 = a + 129 from by omega,show a3 = a + 257 from by omega]
 ·intro h4
  cases e1 : b1
  ·obtain ⟨q12,q13,q14⟩:=H1.out.1 e1
   right
   cases e2 : b2
   ·obtain ⟨q9,q10,q11⟩:=H2.out.good e2
    cases e3 : b3
    ·obtain ⟨q6,q7,q8⟩:=H3.out.good e3
     rcases H4.out.back h4 with h | h
     ·rw [e3] at h; cases h
     ·omega
    ·rcases H3.out.back e3 with h | h
     ·rw [e2] at h; cases h
     ·omega
   ·rcases H2.out.back e2 with h | h
    ·rw [e1] at h; cases h
    ·omega
  ·rcases H1.out.2 e1 with h | h
   ·exact .inl h
   ·right; omega
end Go.Proofs.YtlfnmbcnehaikaaGreatDoor
namespace Go.Proofs.YtlfnmbcnehaikaaGreatDoor
open Go.RowKit Lay Mk
def pubIn (seed : ByteArray) (a : Int) : Bool:=decide (seed.size ≤ 100) && inB a 0 15
def pubLocks (seed : ByteArray) (a : Int) : Nat → List ByteArray
 | 0 => []
 | j + 1 => pubLocks seed a j ++ [lockOf (secretOf seed a ((j / 2 : Nat) : Int) ((j % 2 : Nat) : Int))]
def publicOf (seed : ByteArray) (a : Int) : ByteArray:=if pubIn seed a = true then tagHash 6 (pubLocks seed a 16) 16 else ⟨#[]⟩
def poolTo (seed : ByteArray) : Nat → List ByteArray
 | 0 => []
 | k + 1 => poolTo seed k ++ [publicOf seed (k : Int)]
def poolOf (seed : ByteArray) : List ByteArray:=poolTo seed 16
theorem poolTo_len (seed : ByteArray) : ∀ k,(poolTo seed k).length = k
 | 0 => rfl
 | k + 1 => by unfold poolTo; rw [List.length_append,poolTo_len seed k]; rfl
theorem secretIn_eq (seed : ByteArray) (a : Int) {b v : Nat} (hb : b < 8) (hv : v < 2) : secretIn seed a b v = pubIn seed a:=by
 have h1 : inB (b : Int) 0 7 = true:=by unfold inB; simp; omega
 have h2 : inB (v : Int) 0 1 = true:=by unfold inB; simp; omega
 unfold secretIn pubIn; rw [h1,h2]; simp
theorem secret_no {seed : ByteArray} {a : Int} {b v : Nat} (hb : b < 8) (hv : v < 2) (h : pubIn seed a = false) : secretOf seed a b v = ⟨#[]⟩:=by
 unfold secretOf; rw [secretIn_eq seed a hb hv,h]; rfl
theorem secret_yes {seed : ByteArray} {a : Int} {b v : Nat} (hb : b < 8) (hv : v < 2) (h : pubIn seed a = true) : (secretOf seed a b v).size = 16:=secretOf_size (by rw [secretIn_eq seed a hb hv,h])
theorem pubLocks_next (seed : ByteArray) (a : Int) {b v : Nat} (hv : v < 2) : pubLocks seed a (2 * b + v + 1) = pubLocks seed a (2 * b + v) ++ [lockOf (secretOf seed a b v)]:=by
 rw [pubLocks,show (2 * b + v) / 2 = b by omega,show (2 * b + v) % 2 = v by omega]
theorem publicOf_le (seed : ByteArray) (a : Int) : (publicOf seed a).size ≤ 32:=by
 unfold publicOf; split
 ·exact tagHash_le _ _ _
 ·exact Nat.zero_le _
theorem str_nonempty {s : ByteArray} {n : Nat} (h : s.size = n + 1) : ¬ s.toList = []:=by
 intro e
 rw [ByteArray.toList_eq] at e
 have : s.data.toList.length = 0:=by rw [e]; rfl
 have h2 : s.data.toList.length = s.size:=zz17
 omega
theorem impl_LockOf (w : World) (s : ByteArray) (hs : s.size ≤ 200) (hT : Tabs w) : Calls Tryz.prog 134 #[.string s] w fun e w' => e = .returned (.string (lockOf s)) ∧ Below w.heap.size w w':=by
 go_enter Tryz.func134,Tryz.ntmps134
 go_wp2_with (fail)
 refine (impl_hashOf _ 6 zz30 [s] _ _ _ (row_one w s (ml hs zz4) _) zz17 16 zz30 (hT.later ((Below.refl _ _).alloc (Nat.le_refl _) _))).mono ?_
 rintro e5 w5 ⟨rfl,hb5⟩
 go_wp2
 go_ret
 exact ⟨rfl,Below.via hb5⟩
theorem spec_PublicOf (w : World) (seed : ByteArray) (hs : seed.size ≤ maxLen) (a : Int) : Calls Tryz.prog 77 #[.string seed, .int .i64 a] w fun e w' => e = .returned (.string (publicOf seed a)) ∧ Below w.heap.size w w':=by
 have HFN : Hid (pubIn seed a = false → publicOf seed a = ⟨#[]⟩):=zd (fun h => by unfold publicOf; rw [h]; rfl)
 have HFY : Hid (pubIn seed a = true → publicOf seed a = tagHash 6 (pubLocks seed a 16) 16):=zd (fun h => by unfold publicOf; rw [if_pos h])
 go_enter Tryz.func77,Tryz.ntmps77
 go_wp2
 have HO:=zd (Own.litAt (α:=ByteArray) (Below.refl w.heap.size w) 9 rfl (b:=w.heap.size) rfl)
 go_loopw [5,6] (fun u i wr => ∃ (b : Nat) (L : List ByteArray) (n : Nat) (A : Option Addr) (c : Nat),b ≤ 8 ∧ i = .int .i64 b ∧ u = .slice A n c ∧ Hid (n = L.length) ∧ Hid (L = pubLocks seed a (2 * b)) ∧ n ≤ 2 * b ∧ Hid (0 < b → pubIn seed a = true) ∧ Own w wr A c L) (fun _ i _ => 8 - (intOf i).toNat)
 case atStart => exact ⟨0, [],0,some ⟨w.heap.size,0,none⟩,0,zz4,rfl,rfl,zd rfl,zd rfl,zz17,zd (fun h => absurd h zz4),HO.out⟩
 case round =>
  clear HO
  obtain ⟨b,L,n,A,c,hb8,rfl,rfl,HLn,HL,hLb,HP,hown⟩:=hrel
  by_cases hlt : b < 8
  ·have HOW:=zd hown
   have hltI : (b : Int) < 8:=zz4
   have HL0:=zd (show L = pubLocks seed a (2 * b + 0) from HL.out)
   have HP0:=zd (show 0 < 2 * b + 0 → pubIn seed a = true from fun h => HP.out zz4)
   clear hown HL HP
   go_wp2_with (fail)
   go_loopw [5,7] (fun u i wr => ∃ (v : Nat) (L : List ByteArray) (n : Nat) (A : Option Addr) (c : Nat),v ≤ 2 ∧ i = .int .i64 v ∧ u = .slice A n c ∧ Hid (n = L.length) ∧ Hid (L = pubLocks seed a (2 * b + v)) ∧ n ≤ 2 * b + v ∧ Hid (0 < 2 * b + v → pubIn seed a = true) ∧ Own w wr A c L) (fun _ i _ => 2 - (intOf i).toNat)
   case atStart => exact ⟨0,L,n,A,c,zz4,rfl,rfl,HLn,HL0,zz4,HP0,HOW.out⟩
   case round =>
    clear HOW HL0 HP0 hLb HLn
    obtain ⟨v,L,n,A,c,hv2,rfl,rfl,HLn,HL,hLb,HP,hown⟩:=hrel
    have HOW:=zd hown
    clear hown
    by_cases hlt2 : v < 2
    ·have HN:=zd (pubLocks_next seed a (b:=b) hlt2)
     have HSN:=zd (fun h => secret_no (seed:=seed) (a:=a) hlt hlt2 h)
     have HSY:=zd (fun h => secret_yes (seed:=seed) (a:=a) hlt hlt2 h)
     have hC:=spec_SecretOf
     have HCL:=zd (fun W (h : Below w.heap.size w W) => spec_SecretOf W seed hs a b v)
     obtain ⟨s,hss⟩ : ∃ s,secretOf seed a b v = s:=⟨_,rfl⟩
     rw [hss] at HN HCL
     simp only [hss] at HSN HSY
     clear hss hC
     go_wp2_with (fail)
     refine (HCL.out _ HOW.out.bl).mono ?_
     rintro e5 w5 ⟨rfl,hb5⟩
     have HO5:=zd (HOW.out.later hb5)
     clear hb5
     cases hp : pubIn seed a
     ·have hse:=HSN.out hp
      have HE:=zd (HFN.out hp)
      subst hse
      clear hp HSN HSY HN HCL
      go_wp2
      go_ret
      exact ⟨ret_str (by rw [HE.out]),HO5.out.bl⟩
     ·have h16:=HSY.out hp
      have hne:=str_nonempty h16
      have hne2 : (s.toList == ([] : List UInt8)) = false:=beq_eq_false_iff_ne.2 hne
      have hne3 : (!s.toList.isEmpty) = true:=by cases h : s.toList with
       | nil => exact absurd h hne
       | cons _ _ => rfl
      have HPT:=zd hp
      have hlk:=lockOf_size (s:=s) zz4
      have HLK:=zd (fun W (h : Below w.heap.size w W) => spec_LockOf W s zz4)
      obtain ⟨lk,hlkk⟩ : ∃ lk,lockOf s = lk:=⟨_,rfl⟩
      rw [hlkk] at hlk HLK HN
      have hlm : lk.size ≤ maxLen:=ml (Nat.le_of_eq hlk) zz4
      have HLKs:=zd hlk
      clear hp HSN HSY hlkk h16 HCL hlk
      go_wp2_with (fail)
      refine (HLK.out _ HO5.out.bl).mono ?_
      rintro e6 w6 ⟨rfl,hb6⟩
      go_wp2_with (at_builtin; refine wpList_push (α:=ByteArray) rfl _ _ rfl rfl HLn.out ((HO5.out.later hb6).alloc _) rfl rfl (src1 hlm rfl rfl) zz4 ?_; intro A7 c7 w7 o7 z7)
      go_roundw
      case rel => first | exact ⟨v + 1,L ++ [lk],n + 1,A7,c7,zz4,by go_num,rfl,zd (by rw [List.length_append,HLn.out]; rfl),zd (by rw [show 2 * b + (v + 1) = 2 * b + v + 1 by omega,HN.out,HL.out]),zz4,zd (fun _ => HPT.out),o7⟩ | ((repeat apply Exists.intro); exact ⟨⟨v + 1,L ++ [lk],n + 1,A7,c7,zz4,by go_num,rfl,zd (by rw [List.length_append,HLn.out]; rfl),zd (by rw [show 2 * b + (v + 1) = 2 * b + v + 1 by omega,HN.out,HL.out]),zz4,zd (fun _ => HPT.out),o7⟩,rfl⟩)
      case measure => simp [intOf]; omega
    ·have hve : v = 2:=by omega
     subst hve
     have HL2 : Hid (L = pubLocks seed a (2 * (b + 1))):=zd (by rw [HL.out]; congr 1)
     have HP2 : Hid (0 < b + 1 → pubIn seed a = true):=zd (fun _ => HP.out zz4)
     go_wp2
     go_roundw
     case rel => first | exact ⟨b + 1,L,n,A,c,zz4,by go_num,rfl,HLn,HL2,zz4,HP2,HOW.out⟩ | ((repeat apply Exists.intro); exact ⟨⟨b + 1,L,n,A,c,zz4,by go_num,rfl,HLn,HL2,zz4,HP2,HOW.out⟩,rfl⟩)
     case measure => simp [intOf]; omega
  ·have hbe : b = 8:=by omega
   subst hbe
   have hpt:=HP.out zz4
   have HE : Hid (publicOf seed a = tagHash 6 L 16):=zd (by rw [HFY.out hpt,HL.out])
   have HOW:=zd hown
   clear hpt hown
   go_wp2_with (fail)
   rw [HLn.out]
   have hLb2 : L.length ≤ 16:=by rw [← HLn.out]; omega
   refine (spec_TagHash _ 6 zz30 L A c _ HOW.out.weak zz4 16 zz30).mono ?_
   rintro e5 w5 ⟨rfl,hb5⟩
   go_wp2
   go_ret
   exact ⟨ret_str (by rw [HE.out]),HOW.out.bl.trans (hb5.mono HOW.out.size)⟩
theorem spec_PoolOf (w : World) (seed : ByteArray) (hs : seed.size ≤ maxLen) : Calls Tryz.prog 30 #[.string seed] w (OwnRes (poolOf seed) w):=by
 go_enter Tryz.func30,Tryz.ntmps30
 go_wp2
 have HO:=zd (Own.litAt (α:=ByteArray) (Below.refl w.heap.size w) 9 rfl (b:=w.heap.size) rfl)
 go_loopw [3,4] (fun u i wr => ∃ (k : Nat) (L : List ByteArray) (A : Option Addr) (c : Nat),k ≤ 16 ∧ i = .int .i64 k ∧ u = .slice A L.length c ∧ Hid (L = poolTo seed k) ∧ L.length ≤ k ∧ Own w wr A c L) (fun _ i _ => 16 - (intOf i).toNat)
 case atStart => exact ⟨0, [],some ⟨w.heap.size,0,none⟩,0,zz4,rfl,rfl,zd rfl,zz17,HO.out⟩
 case round =>
  clear HO
  obtain ⟨k,L,A,c,hk,rfl,rfl,HL,hLk,hown⟩:=hrel
  have HOW:=zd hown
  clear hown
  by_cases hlt : k < 16
  ·have HN : Hid (poolTo seed (k + 1) = L ++ [publicOf seed (k : Int)]):=zd (by rw [poolTo,HL.out])
   have HCL:=zd (fun W (h : Below w.heap.size w W) => spec_PublicOf W seed hs (k : Int))
   have hpm : (publicOf seed (k : Int)).size ≤ maxLen:=ml (publicOf_le seed k) zz4
   obtain ⟨p,hp⟩ : ∃ p,publicOf seed (k : Int) = p:=⟨_,rfl⟩
   rw [hp] at HN HCL hpm
   clear hp
   go_wp2_with (fail)
   refine (HCL.out _ HOW.out.bl).mono ?_
   rintro e6 w6 ⟨rfl,hb6⟩
   go_wp2_with (at_builtin; refine wpList_push (α:=ByteArray) rfl _ _ rfl rfl rfl ((HOW.out.later hb6).alloc _) rfl rfl (src1 hpm rfl rfl) zz4 ?_; intro A7 c7 w7 o7 z7)
   go_roundw
   case rel => first | exact ⟨k + 1,L ++ [p],A7,c7,zz4,by go_num,zz17,zd HN.out.symm,zz23,o7⟩ | ((repeat apply Exists.intro); exact ⟨⟨k + 1,L ++ [p],A7,c7,zz4,by go_num,zz17,zd HN.out.symm,zz23,o7⟩,rfl⟩)
   case measure => simp [intOf]; omega
  ·have hke : k = 16:=by omega
   subst hke
   have HE : Hid (poolOf seed = L):=zd (by rw [HL.out]; rfl)
   go_wp2
   go_ret
   exact OwnRes.mk HOW.out HE.out rfl
theorem impl_PublicOf (w : World) (seed : ByteArray) (hs : seed.size ≤ maxLen) (a : Int) (hT : Tabs w) : Calls Tryz.prog 84 #[.string seed, .int .i64 a] w fun e w' => e = .returned (.string (publicOf seed a)) ∧ Below w.heap.size w w':=by
 have HT:=zd hT
 clear hT
 have HFN : Hid (pubIn seed a = false → publicOf seed a = ⟨#[]⟩):=zd (fun h => by unfold publicOf; rw [h]; rfl)
 have HFY : Hid (pubIn seed a = true → publicOf seed a = tagHash 6 (pubLocks seed a 16) 16):=zd (fun h => by unfold publicOf; rw [if_pos h])
 go_enter Tryz.func84,Tryz.ntmps84
 go_wp2
 have HO:=zd (Own.start (α:=ByteArray) (Below.refl w.heap.size w))
 go_loopw [5,9] (fun u i wr => ∃ (b : Nat) (L : List ByteArray) (n : Nat) (A : Option Addr) (c : Nat),b ≤ 8 ∧ i = .int .i64 b ∧ u = .slice A n c ∧ Hid (n = L.length) ∧ Hid (L = pubLocks seed a (2 * b)) ∧ n ≤ 2 * b ∧ Hid (0 < b → pubIn seed a = true) ∧ Own w wr A c L) (fun _ i _ => 8 - (intOf i).toNat)
 case atStart => exact ⟨0, [],0,none,0,zz4,rfl,rfl,zd rfl,zd rfl,zz17,zd (fun h => absurd h zz4),HO.out⟩
 case round =>
  clear HO
  obtain ⟨b,L,n,A,c,hb8,rfl,rfl,HLn,HL,hLb,HP,hown⟩:=hrel
  by_cases hlt : b < 8
  ·have HOW:=zd hown
   have hltI : (b : Int) < 8:=zz4
   have HL0:=zd (show L = pubLocks seed a (2 * b + 0) from HL.out)
   have HP0:=zd (show 0 < 2 * b + 0 → pubIn seed a = true from fun h => HP.out zz4)
   clear hown HL HP
   go_wp2_with (fail)
   go_loopw [5,12] (fun u i wr => ∃ (v : Nat) (L : List ByteArray) (n : Nat) (A : Option Addr) (c : Nat),v ≤ 2 ∧ i = .int .i64 v ∧ u = .slice A n c ∧ Hid (n = L.length) ∧ Hid (L = pubLocks seed a (2 * b + v)) ∧ n ≤ 2 * b + v ∧ Hid (0 < 2 * b + v → pubIn seed a = true) ∧ Own w wr A c L) (fun _ i _ => 2 - (intOf i).toNat)
   case atStart => exact ⟨0,L,n,A,c,zz4,rfl,rfl,HLn,HL0,zz4,HP0,HOW.out⟩
   case round =>
    clear HOW HL0 HP0 hLb HLn
    obtain ⟨v,L,n,A,c,hv2,rfl,rfl,HLn,HL,hLb,HP,hown⟩:=hrel
    have HOW:=zd hown
    clear hown
    by_cases hlt2 : v < 2
    ·have HN:=zd (pubLocks_next seed a (b:=b) hlt2)
     have HSN:=zd (fun h => secret_no (seed:=seed) (a:=a) hlt hlt2 h)
     have HSY:=zd (fun h => secret_yes (seed:=seed) (a:=a) hlt hlt2 h)
     have hC:=impl_SecretOf
     have HCL:=zd (fun W (h : Below w.heap.size w W) => impl_SecretOf W seed hs a b v (HT.out.later h))
     obtain ⟨s,hss⟩ : ∃ s,secretOf seed a b v = s:=⟨_,rfl⟩
     rw [hss] at HN HCL
     simp only [hss] at HSN HSY
     clear hss hC
     go_wp2_with (fail)
     refine (HCL.out _ HOW.out.bl).mono ?_
     rintro e5 w5 ⟨rfl,hb5⟩
     have HO5:=zd (HOW.out.later hb5)
     clear hb5
     cases hp : pubIn seed a
     ·have hse:=HSN.out hp
      have HE:=zd (HFN.out hp)
      subst hse
      clear hp HSN HSY HN HCL
      go_wp2
      go_ret
      exact ⟨ret_str (by rw [HE.out]),HO5.out.bl⟩
     ·have h16:=HSY.out hp
      have hne:=str_nonempty h16
      have hne2 : (s.toList == ([] : List UInt8)) = false:=beq_eq_false_iff_ne.2 hne
      have hne3 : (!s.toList.isEmpty) = true:=by cases h : s.toList with
       | nil => exact absurd h hne
       | cons _ _ => rfl
      have HPT:=zd hp
      have hlk:=lockOf_size (s:=s) zz4
      have HLK:=zd (fun W (h : Below w.heap.size w W) => impl_LockOf W s zz4 (HT.out.later h))
      obtain ⟨lk,hlkk⟩ : ∃ lk,lockOf s = lk:=⟨_,rfl⟩
      rw [hlkk] at hlk HLK HN
      have hlm : lk.size ≤ maxLen:=ml (Nat.le_of_eq hlk) zz4
      have HLKs:=zd hlk
      clear hp HSN HSY hlkk h16 HCL hlk
      go_wp2_with (fail)
      refine (HLK.out _ HO5.out.bl).mono ?_
      rintro e6 w6 ⟨rfl,hb6⟩
      go_wp2_with (at_builtin; refine wpList_push (α:=ByteArray) rfl _ _ rfl rfl HLn.out ((HO5.out.later hb6).alloc _) rfl rfl (src1 hlm rfl rfl) zz4 ?_; intro A7 c7 w7 o7 z7)
      go_roundw
      case rel => first | exact ⟨v + 1,L ++ [lk],n + 1,A7,c7,zz4,by go_num,rfl,zd (by rw [List.length_append,HLn.out]; rfl),zd (by rw [show 2 * b + (v + 1) = 2 * b + v + 1 by omega,HN.out,HL.out]),zz4,zd (fun _ => HPT.out),o7⟩ | ((repeat apply Exists.intro); exact ⟨⟨v + 1,L ++ [lk],n + 1,A7,c7,zz4,by go_num,rfl,zd (by rw [List.length_append,HLn.out]; rfl),zd (by rw [show 2 * b + (v + 1) = 2 * b + v + 1 by omega,HN.out,HL.out]),zz4,zd (fun _ => HPT.out),o7⟩,rfl⟩)
      case measure => simp [intOf]; omega
    ·have hve : v = 2:=by omega
     subst hve
     have HL2 : Hid (L = pubLocks seed a (2 * (b + 1))):=zd (by rw [HL.out]; congr 1)
     have HP2 : Hid (0 < b + 1 → pubIn seed a = true):=zd (fun _ => HP.out zz4)
     go_wp2
     go_roundw
     case rel => first | exact ⟨b + 1,L,n,A,c,zz4,by go_num,rfl,HLn,HL2,zz4,HP2,HOW.out⟩ | ((repeat apply Exists.intro); exact ⟨⟨b + 1,L,n,A,c,zz4,by go_num,rfl,HLn,HL2,zz4,HP2,HOW.out⟩,rfl⟩)
     case measure => simp [intOf]; omega
  ·have hbe : b = 8:=by omega
   subst hbe
   have hpt:=HP.out zz4
   have HE : Hid (publicOf seed a = tagHash 6 L 16):=zd (by rw [HFY.out hpt,HL.out])
   have HOW:=zd hown
   clear hpt hown
   go_wp2_with (fail)
   rw [HLn.out]
   have hLb2 : L.length ≤ 16:=by rw [← HLn.out]; omega
   refine (impl_TagHash _ 6 zz30 L A c _ HOW.out.weak zz4 16 zz30 (HT.out.later HOW.out.bl)).mono ?_
   rintro e5 w5 ⟨rfl,hb5⟩
   go_wp2
   go_ret
   exact ⟨ret_str (by rw [HE.out]),HOW.out.bl.trans (hb5.mono HOW.out.size)⟩
theorem impl_PoolOf (w : World) (seed : ByteArray) (hs : seed.size ≤ maxLen) (hT : Tabs w) : Calls Tryz.prog 34 #[.string seed] w (OwnRes (poolOf seed) w):=by
 have HT:=zd hT
 clear hT
 go_enter Tryz.func34,Tryz.ntmps34
 go_wp2
 have HO:=zd (Own.start (α:=ByteArray) (Below.refl w.heap.size w))
 go_loopw [3,5] (fun u i wr => ∃ (k : Nat) (L : List ByteArray) (A : Option Addr) (c : Nat),k ≤ 16 ∧ i = .int .i64 k ∧ u = .slice A L.length c ∧ Hid (L = poolTo seed k) ∧ L.length ≤ k ∧ Own w wr A c L) (fun _ i _ => 16 - (intOf i).toNat)
 case atStart => exact ⟨0, [],none,0,zz4,rfl,rfl,zd rfl,zz17,HO.out⟩
 case round =>
  clear HO
  obtain ⟨k,L,A,c,hk,rfl,rfl,HL,hLk,hown⟩:=hrel
  have HOW:=zd hown
  clear hown
  by_cases hlt : k < 16
  ·have HN : Hid (poolTo seed (k + 1) = L ++ [publicOf seed (k : Int)]):=zd (by rw [poolTo,HL.out])
   have HCL:=zd (fun W (h : Below w.heap.size w W) => impl_PublicOf W seed hs (k : Int) (HT.out.later h))
   have hpm : (publicOf seed (k : Int)).size ≤ maxLen:=ml (publicOf_le seed k) zz4
   obtain ⟨p,hp⟩ : ∃ p,publicOf seed (k : Int) = p:=⟨_,rfl⟩
   rw [hp] at HN HCL hpm
   clear hp
   go_wp2_with (fail)
   refine (HCL.out _ HOW.out.bl).mono ?_
   rintro e6 w6 ⟨rfl,hb6⟩
   go_wp2_with (at_builtin; refine wpList_push (α:=ByteArray) rfl _ _ rfl rfl rfl ((HOW.out.later hb6).alloc _) rfl rfl (src1 hpm rfl rfl) zz4 ?_; intro A7 c7 w7 o7 z7)
   go_roundw
   case rel => first | exact ⟨k + 1,L ++ [p],A7,c7,zz4,by go_num,zz17,zd HN.out.symm,zz23,o7⟩ | ((repeat apply Exists.intro); exact ⟨⟨k + 1,L ++ [p],A7,c7,zz4,by go_num,zz17,zd HN.out.symm,zz23,o7⟩,rfl⟩)
   case measure => simp [intOf]; omega
  ·have hke : k = 16:=by omega
   subst hke
   have HE : Hid (poolOf seed = L):=zd (by rw [HL.out]; rfl)
   go_wp2
   go_ret
   exact OwnRes.mk HOW.out HE.out rfl
end Go.Proofs.YtlfnmbcnehaikaaGreatDoor
namespace Go.Proofs.YtlfnmbcnehaikaaGreatDoor
open Go.RowKit Lay Mk
def sealAt (e : Int) : Int:=if inB e 1 4 = true then e - 1 else -1
def sealOk (root : ByteArray) (s : Seal) : Bool:=headOk s.head && decide (s.sig.at_ = sealAt s.head.epoch) && sigOk root (headHash s.head) s.sig
def sameHd (a b : Head) : Bool:=decide (a.house = b.house) && decide (a.epoch = b.epoch) && decide (a.root = b.root) && decide (a.prev = b.prev)
def evidenceOk (root : ByteArray) (p : Pair) : Bool:=sealOk root p.a && sealOk root p.b && decide (p.a.head.house = p.b.head.house) && decide (p.a.head.epoch = p.b.head.epoch) && !sameHd p.a.head p.b.head
theorem inB_14 {e : Int} (h : inB e 1 4 = true) : 1 ≤ e ∧ e ≤ 4:=by simpa [inB] using h
theorem impl_SealAt (e : Int) (w : World) : Calls Tryz.prog 100 #[.int .i64 e] w fun r w' => r = .returned (.int .i64 (sealAt e)) ∧ w = w':=by
 cases hi : inB e 1 4
 ·have HC : Hid (sealAt e = -1):=zd (by unfold sealAt; rw [hi]; rfl)
  go_enter Tryz.func100,Tryz.ntmps100
  go_wp2_with (go_at_call 147; refine (epoch_in _ _).mono ?_; rintro e0 w2 ⟨rfl,rfl⟩)
  go_ret
  exact ⟨by rw [HC.out]; rfl,rfl⟩
 ·have HC : Hid (sealAt e = e - 1):=zd (by unfold sealAt; rw [hi]; rfl)
  obtain ⟨h1,h2⟩:=inB_14 hi
  go_enter Tryz.func100,Tryz.ntmps100
  go_wp2_with (go_at_call 147; refine (epoch_in _ _).mono ?_; rintro e0 w2 ⟨rfl,rfl⟩)
  go_ret
  exact ⟨by rw [HC.out]; rfl,rfl⟩
theorem spec_SealAt (e : Int) (w : World) : Calls Tryz.prog 93 #[.int .i64 e] w fun r w' => r = .returned (.int .i64 (sealAt e)) ∧ w = w':=by
 cases hi : inB e 1 4
 ·have HC : Hid (sealAt e = -1):=zd (by unfold sealAt; rw [hi]; rfl)
  go_enter Tryz.func93,Tryz.ntmps93
  go_wp2_with (go_at_call 48; refine (spec_in _ _ _ _).mono ?_; rintro e0 w2 ⟨rfl,rfl⟩)
  go_ret
  exact ⟨by rw [HC.out]; rfl,rfl⟩
 ·have HC : Hid (sealAt e = e - 1):=zd (by unfold sealAt; rw [hi]; rfl)
  obtain ⟨h1,h2⟩:=inB_14 hi
  go_enter Tryz.func93,Tryz.ntmps93
  go_wp2_with (go_at_call 48; refine (spec_in _ _ _ _).mono ?_; rintro e0 w2 ⟨rfl,rfl⟩)
  go_ret
  exact ⟨by rw [HC.out]; rfl,rfl⟩
theorem impl_SealOk (w : World) (root : ByteArray) (x : Seal) (cs : List Value) (S : Blks) (hx : rd false w cs x S) (hT : Tabs w) : Calls Tryz.prog 63 #[.string root, .agg cs.toArray] w fun e w' => e = .returned (.bool (sealOk root x)) ∧ Below w.heap.size w w':=by
 obtain ⟨A0,k0,S0,A1,k1,S1,A2,k2,S2,rfl,f0,f1,f2,f3,f4,a0,b0,r0,s0,a1,b1,r1,s1,a2,b2,r2,s2,pw⟩:=Seal.open hx
 clear hx
 obtain ⟨⟨hh,he,hr,hp⟩,⟨a,so,ss,sd⟩⟩:=x
 simp only at f0 f1 f2 f3 f4 a0 b0 r0 a1 b1 r1 a2 b2 r2
 have HSig:=zd (fun W (h : Below w.heap.size w W) => impl_SigOk W root (headHash ⟨hh,he,hr,hp⟩) ⟨a,so,ss,sd⟩ _ S (Lay.later (Sig.mk' (x:=⟨a,so,ss,sd⟩) f4 a0 b0 r0 s0 a1 b1 r1 s1 a2 b2 r2 s2 (fun h => by simp at h)) h) (hT.later h))
 have HOK : Hid (sealOk root ⟨⟨hh,he,hr,hp⟩,⟨a,so,ss,sd⟩⟩ = (headOk ⟨hh,he,hr,hp⟩ && decide (a = sealAt he) && sigOk root (headHash ⟨hh,he,hr,hp⟩) ⟨a,so,ss,sd⟩)):=zd rfl
 have HT:=zd hT
 clear hT
 clear pw r0 r1 r2
 simp only [Seal.cs]
 simp only [Sig.cs] at HSig
 have HSA:=zd (fun W => impl_SealAt he W)
 have HHO:=zd (fun W => impl_HeadOk ⟨hh,he,hr,hp⟩ W)
 obtain ⟨v,hv⟩ : ∃ v,sealAt he = v:=⟨_,rfl⟩
 rw [hv] at HOK HSA
 clear hv
 cases hok : headOk ⟨hh,he,hr,hp⟩ <;> rw [hok] at HHO
 ·have HF : Hid (sealOk root ⟨⟨hh,he,hr,hp⟩,⟨a,so,ss,sd⟩⟩ = false):=zd (by rw [HOK.out,hok]; rfl)
  go_enter Tryz.func63,Tryz.ntmps63
  go_wp2
  generalize hW : w.alloc (.cells #[.int .i64 hh, .int .i64 he, .string hr, .string hp, .int .i64 a, .slice A0 so.length k0, .slice A1 ss.length k1, .slice A2 sd.length k2] 76) = W
  have HBW : Hid (Below w.heap.size w W):=zz49
  obtain ⟨B,hBe⟩ : ∃ B,w.heap.size = B:=⟨_,rfl⟩
  have hBlt : B < W.heap.size:=by rw [← hW, ← hBe]; simp
  have c0:=Grown.cell (show W.cell? ⟨B,0,none⟩ = some (.int .i64 hh) by rw [← hW, ← hBe]; exact ya2 _ _ _ _ _ rfl)
  have c1:=Grown.cell (show W.cell? ⟨B,1,none⟩ = some (.int .i64 he) by rw [← hW, ← hBe]; exact ya2 _ _ _ _ _ rfl)
  have c2:=Grown.cell (show W.cell? ⟨B,2,none⟩ = some (.string hr) by rw [← hW, ← hBe]; exact ya2 _ _ _ _ _ rfl)
  have c3:=Grown.cell (show W.cell? ⟨B,3,none⟩ = some (.string hp) by rw [← hW, ← hBe]; exact ya2 _ _ _ _ _ rfl)
  have c4:=Grown.cell (show W.cell? ⟨B,4,none⟩ = some (.int .i64 a) by rw [← hW, ← hBe]; exact ya2 _ _ _ _ _ rfl)
  have c5:=Grown.cell (show W.cell? ⟨B,5,none⟩ = some (.slice A0 so.length k0) by rw [← hW, ← hBe]; exact ya2 _ _ _ _ _ rfl)
  have c6:=Grown.cell (show W.cell? ⟨B,6,none⟩ = some (.slice A1 ss.length k1) by rw [← hW, ← hBe]; exact ya2 _ _ _ _ _ rfl)
  have c7:=Grown.cell (show W.cell? ⟨B,7,none⟩ = some (.slice A2 sd.length k2) by rw [← hW, ← hBe]; exact ya2 _ _ _ _ _ rfl)
  have HBE:=zd hBe
  rw [hBe]
  clear hW hBe
  refine ya0 (by kernel_rfl) (by kernel_rfl) ?_
  repeat (go_big_quiet_step (first | (go_at_call 99; exact ya4 (HHO.out _)) | (go_at_call 100; exact grown_same (HSA.out _)) | (go_at_call 102; exact ya4 (impl_HeadHash ⟨hh,he,hr,hp⟩ _ (HT.out.later (HBW.out.trans ((Grown.ok _).mono HBW.out.size))))) | (go_at_call 101; exact ya4 (HSig.out _ (HBW.out.trans ((Grown.ok _).mono HBW.out.size))))))
  refine wpQuiet_nil ?_
  intro w2 hw2
  have hR:=zd (ya5 hw2)
  clear hw2
  go_wp2
  go_ret
  exact ⟨ya1 zz24,(HBW.out).trans (hR.out.mono HBW.out.size)⟩
 ·by_cases hav : a = v
  ·have HF : Hid (sealOk root ⟨⟨hh,he,hr,hp⟩,⟨a,so,ss,sd⟩⟩ = sigOk root (headHash ⟨hh,he,hr,hp⟩) ⟨a,so,ss,sd⟩):=zd (by rw [HOK.out,hok,decide_eq_true hav]; rfl)
   subst hav
   obtain ⟨z,hz⟩ : ∃ z,sigOk root (headHash ⟨hh,he,hr,hp⟩) ⟨a,so,ss,sd⟩ = z:=⟨_,rfl⟩
   rw [hz] at HSig HF
   clear hz
   go_enter Tryz.func63,Tryz.ntmps63
   go_wp2
   generalize hW : w.alloc (.cells #[.int .i64 hh, .int .i64 he, .string hr, .string hp, .int .i64 a, .slice A0 so.length k0, .slice A1 ss.length k1, .slice A2 sd.length k2] 76) = W
   have HBW : Hid (Below w.heap.size w W):=zz49
   obtain ⟨B,hBe⟩ : ∃ B,w.heap.size = B:=⟨_,rfl⟩
   have hBlt : B < W.heap.size:=by rw [← hW, ← hBe]; simp
   have c0:=Grown.cell (show W.cell? ⟨B,0,none⟩ = some (.int .i64 hh) by rw [← hW, ← hBe]; exact ya2 _ _ _ _ _ rfl)
   have c1:=Grown.cell (show W.cell? ⟨B,1,none⟩ = some (.int .i64 he) by rw [← hW, ← hBe]; exact ya2 _ _ _ _ _ rfl)
   have c2:=Grown.cell (show W.cell? ⟨B,2,none⟩ = some (.string hr) by rw [← hW, ← hBe]; exact ya2 _ _ _ _ _ rfl)
   have c3:=Grown.cell (show W.cell? ⟨B,3,none⟩ = some (.string hp) by rw [← hW, ← hBe]; exact ya2 _ _ _ _ _ rfl)
   have c4:=Grown.cell (show W.cell? ⟨B,4,none⟩ = some (.int .i64 a) by rw [← hW, ← hBe]; exact ya2 _ _ _ _ _ rfl)
   have c5:=Grown.cell (show W.cell? ⟨B,5,none⟩ = some (.slice A0 so.length k0) by rw [← hW, ← hBe]; exact ya2 _ _ _ _ _ rfl)
   have c6:=Grown.cell (show W.cell? ⟨B,6,none⟩ = some (.slice A1 ss.length k1) by rw [← hW, ← hBe]; exact ya2 _ _ _ _ _ rfl)
   have c7:=Grown.cell (show W.cell? ⟨B,7,none⟩ = some (.slice A2 sd.length k2) by rw [← hW, ← hBe]; exact ya2 _ _ _ _ _ rfl)
   have HBE:=zd hBe
   rw [hBe]
   clear hW hBe
   refine ya0 (by kernel_rfl) (by kernel_rfl) ?_
   repeat (go_big_quiet_step (first | (go_at_call 99; exact ya4 (HHO.out _)) | (go_at_call 100; exact grown_same (HSA.out _)) | (go_at_call 102; exact ya4 (impl_HeadHash ⟨hh,he,hr,hp⟩ _ (HT.out.later (HBW.out.trans ((Grown.ok _).mono HBW.out.size))))) | (go_at_call 101; exact ya4 (HSig.out _ (HBW.out.trans ((Grown.ok _).mono HBW.out.size))))))
   refine wpQuiet_nil ?_
   intro w2 hw2
   have hR:=zd (ya5 hw2)
   clear hw2
   go_wp2
   go_ret
   exact ⟨ya1 zz24,(HBW.out).trans (hR.out.mono HBW.out.size)⟩
  ·have HF : Hid (sealOk root ⟨⟨hh,he,hr,hp⟩,⟨a,so,ss,sd⟩⟩ = false):=zd (by rw [HOK.out,hok,decide_eq_false hav]; rfl)
   have hq1 : (a == v) = false:=beq_eq_false_iff_ne.2 hav
   have hq2 : decide (a = v) = false:=decide_eq_false hav
   go_enter Tryz.func63,Tryz.ntmps63
   go_wp2
   generalize hW : w.alloc (.cells #[.int .i64 hh, .int .i64 he, .string hr, .string hp, .int .i64 a, .slice A0 so.length k0, .slice A1 ss.length k1, .slice A2 sd.length k2] 76) = W
   have HBW : Hid (Below w.heap.size w W):=zz49
   obtain ⟨B,hBe⟩ : ∃ B,w.heap.size = B:=⟨_,rfl⟩
   have hBlt : B < W.heap.size:=by rw [← hW, ← hBe]; simp
   have c0:=Grown.cell (show W.cell? ⟨B,0,none⟩ = some (.int .i64 hh) by rw [← hW, ← hBe]; exact ya2 _ _ _ _ _ rfl)
   have c1:=Grown.cell (show W.cell? ⟨B,1,none⟩ = some (.int .i64 he) by rw [← hW, ← hBe]; exact ya2 _ _ _ _ _ rfl)
   have c2:=Grown.cell (show W.cell? ⟨B,2,none⟩ = some (.string hr) by rw [← hW, ← hBe]; exact ya2 _ _ _ _ _ rfl)
   have c3:=Grown.cell (show W.cell? ⟨B,3,none⟩ = some (.string hp) by rw [← hW, ← hBe]; exact ya2 _ _ _ _ _ rfl)
   have c4:=Grown.cell (show W.cell? ⟨B,4,none⟩ = some (.int .i64 a) by rw [← hW, ← hBe]; exact ya2 _ _ _ _ _ rfl)
   have c5:=Grown.cell (show W.cell? ⟨B,5,none⟩ = some (.slice A0 so.length k0) by rw [← hW, ← hBe]; exact ya2 _ _ _ _ _ rfl)
   have c6:=Grown.cell (show W.cell? ⟨B,6,none⟩ = some (.slice A1 ss.length k1) by rw [← hW, ← hBe]; exact ya2 _ _ _ _ _ rfl)
   have c7:=Grown.cell (show W.cell? ⟨B,7,none⟩ = some (.slice A2 sd.length k2) by rw [← hW, ← hBe]; exact ya2 _ _ _ _ _ rfl)
   have HBE:=zd hBe
   rw [hBe]
   clear hW hBe
   refine ya0 (by kernel_rfl) (by kernel_rfl) ?_
   repeat (go_big_quiet_step (first | (go_at_call 99; exact ya4 (HHO.out _)) | (go_at_call 100; exact grown_same (HSA.out _)) | (go_at_call 102; exact ya4 (impl_HeadHash ⟨hh,he,hr,hp⟩ _ (HT.out.later (HBW.out.trans ((Grown.ok _).mono HBW.out.size))))) | (go_at_call 101; exact ya4 (HSig.out _ (HBW.out.trans ((Grown.ok _).mono HBW.out.size))))))
   refine wpQuiet_nil ?_
   intro w2 hw2
   have hR:=zd (ya5 hw2)
   clear hw2
   go_wp2
   go_ret
   exact ⟨ya1 zz24,(HBW.out).trans (hR.out.mono HBW.out.size)⟩
theorem spec_SealOk (w : World) (root : ByteArray) (x : Seal) (cs : List Value) (S : Blks) (hx : rd false w cs x S) : Calls Tryz.prog 51 #[.string root, .agg cs.toArray] w fun e w' => e = .returned (.bool (sealOk root x)) ∧ Below w.heap.size w w':=by
 obtain ⟨A0,k0,S0,A1,k1,S1,A2,k2,S2,rfl,f0,f1,f2,f3,f4,a0,b0,r0,s0,a1,b1,r1,s1,a2,b2,r2,s2,pw⟩:=Seal.open hx
 clear hx
 obtain ⟨⟨hh,he,hr,hp⟩,⟨a,so,ss,sd⟩⟩:=x
 simp only at f0 f1 f2 f3 f4 a0 b0 r0 a1 b1 r1 a2 b2 r2
 have HSig:=zd (fun W (h : Below w.heap.size w W) => spec_SigOk W root (headHash ⟨hh,he,hr,hp⟩) ⟨a,so,ss,sd⟩ _ S (Lay.later (Sig.mk' (x:=⟨a,so,ss,sd⟩) f4 a0 b0 r0 s0 a1 b1 r1 s1 a2 b2 r2 s2 (fun h => by simp at h)) h))
 have HOK : Hid (sealOk root ⟨⟨hh,he,hr,hp⟩,⟨a,so,ss,sd⟩⟩ = (headOk ⟨hh,he,hr,hp⟩ && decide (a = sealAt he) && sigOk root (headHash ⟨hh,he,hr,hp⟩) ⟨a,so,ss,sd⟩)):=zd rfl
 clear pw r0 r1 r2
 simp only [Seal.cs]
 simp only [Sig.cs] at HSig
 have HSA:=zd (fun W => spec_SealAt he W)
 have HHO:=zd (fun W => spec_HeadOk ⟨hh,he,hr,hp⟩ W)
 obtain ⟨v,hv⟩ : ∃ v,sealAt he = v:=⟨_,rfl⟩
 rw [hv] at HOK HSA
 clear hv
 cases hok : headOk ⟨hh,he,hr,hp⟩ <;> rw [hok] at HHO
 ·have HF : Hid (sealOk root ⟨⟨hh,he,hr,hp⟩,⟨a,so,ss,sd⟩⟩ = false):=zd (by rw [HOK.out,hok]; rfl)
  go_enter Tryz.func51,Tryz.ntmps51
  go_wp2
  generalize hW : w.alloc (.cells #[.int .i64 hh, .int .i64 he, .string hr, .string hp, .int .i64 a, .slice A0 so.length k0, .slice A1 ss.length k1, .slice A2 sd.length k2] 76) = W
  have HBW : Hid (Below w.heap.size w W):=zz49
  obtain ⟨B,hBe⟩ : ∃ B,w.heap.size = B:=⟨_,rfl⟩
  have hBlt : B < W.heap.size:=by rw [← hW, ← hBe]; simp
  have c0:=Grown.cell (show W.cell? ⟨B,0,none⟩ = some (.int .i64 hh) by rw [← hW, ← hBe]; exact ya2 _ _ _ _ _ rfl)
  have c1:=Grown.cell (show W.cell? ⟨B,1,none⟩ = some (.int .i64 he) by rw [← hW, ← hBe]; exact ya2 _ _ _ _ _ rfl)
  have c2:=Grown.cell (show W.cell? ⟨B,2,none⟩ = some (.string hr) by rw [← hW, ← hBe]; exact ya2 _ _ _ _ _ rfl)
  have c3:=Grown.cell (show W.cell? ⟨B,3,none⟩ = some (.string hp) by rw [← hW, ← hBe]; exact ya2 _ _ _ _ _ rfl)
  have c4:=Grown.cell (show W.cell? ⟨B,4,none⟩ = some (.int .i64 a) by rw [← hW, ← hBe]; exact ya2 _ _ _ _ _ rfl)
  have c5:=Grown.cell (show W.cell? ⟨B,5,none⟩ = some (.slice A0 so.length k0) by rw [← hW, ← hBe]; exact ya2 _ _ _ _ _ rfl)
  have c6:=Grown.cell (show W.cell? ⟨B,6,none⟩ = some (.slice A1 ss.length k1) by rw [← hW, ← hBe]; exact ya2 _ _ _ _ _ rfl)
  have c7:=Grown.cell (show W.cell? ⟨B,7,none⟩ = some (.slice A2 sd.length k2) by rw [← hW, ← hBe]; exact ya2 _ _ _ _ _ rfl)
  have HBE:=zd hBe
  rw [hBe]
  clear hW hBe
  refine ya0 (by kernel_rfl) (by kernel_rfl) ?_
  repeat (go_big_quiet_step (first | (go_at_call 92; exact ya4 (HHO.out _)) | (go_at_call 93; exact grown_same (HSA.out _)) | (go_at_call 95; exact ya4 (spec_HeadHash ⟨hh,he,hr,hp⟩ _)) | (go_at_call 94; exact ya4 (HSig.out _ (HBW.out.trans ((Grown.ok _).mono HBW.out.size))))))
  refine wpQuiet_nil ?_
  intro w2 hw2
  have hR:=zd (ya5 hw2)
  clear hw2
  go_wp2
  go_ret
  exact ⟨ya1 zz24,(HBW.out).trans (hR.out.mono HBW.out.size)⟩
 ·by_cases hav : a = v
  ·have HF : Hid (sealOk root ⟨⟨hh,he,hr,hp⟩,⟨a,so,ss,sd⟩⟩ = sigOk root (headHash ⟨hh,he,hr,hp⟩) ⟨a,so,ss,sd⟩):=zd (by rw [HOK.out,hok,decide_eq_true hav]; rfl)
   subst hav
   obtain ⟨z,hz⟩ : ∃ z,sigOk root (headHash ⟨hh,he,hr,hp⟩) ⟨a,so,ss,sd⟩ = z:=⟨_,rfl⟩
   rw [hz] at HSig HF
   clear hz
   go_enter Tryz.func51,Tryz.ntmps51
   go_wp2
   generalize hW : w.alloc (.cells #[.int .i64 hh, .int .i64 he, .string hr, .string hp, .int .i64 a, .slice A0 so.length k0, .slice A1 ss.length k1, .slice A2 sd.length k2] 76) = W
   have HBW : Hid (Below w.heap.size w W):=zz49
   obtain ⟨B,hBe⟩ : ∃ B,w.heap.size = B:=⟨_,rfl⟩
   have hBlt : B < W.heap.size:=by rw [← hW, ← hBe]; simp
   have c0:=Grown.cell (show W.cell? ⟨B,0,none⟩ = some (.int .i64 hh) by rw [← hW, ← hBe]; exact ya2 _ _ _ _ _ rfl)
   have c1:=Grown.cell (show W.cell? ⟨B,1,none⟩ = some (.int .i64 he) by rw [← hW, ← hBe]; exact ya2 _ _ _ _ _ rfl)
   have c2:=Grown.cell (show W.cell? ⟨B,2,none⟩ = some (.string hr) by rw [← hW, ← hBe]; exact ya2 _ _ _ _ _ rfl)
   have c3:=Grown.cell (show W.cell? ⟨B,3,none⟩ = some (.string hp) by rw [← hW, ← hBe]; exact ya2 _ _ _ _ _ rfl)
   have c4:=Grown.cell (show W.cell? ⟨B,4,none⟩ = some (.int .i64 a) by rw [← hW, ← hBe]; exact ya2 _ _ _ _ _ rfl)
   have c5:=Grown.cell (show W.cell? ⟨B,5,none⟩ = some (.slice A0 so.length k0) by rw [← hW, ← hBe]; exact ya2 _ _ _ _ _ rfl)
   have c6:=Grown.cell (show W.cell? ⟨B,6,none⟩ = some (.slice A1 ss.length k1) by rw [← hW, ← hBe]; exact ya2 _ _ _ _ _ rfl)
   have c7:=Grown.cell (show W.cell? ⟨B,7,none⟩ = some (.slice A2 sd.length k2) by rw [← hW, ← hBe]; exact ya2 _ _ _ _ _ rfl)
   have HBE:=zd hBe
   rw [hBe]
   clear hW hBe
   refine ya0 (by kernel_rfl) (by kernel_rfl) ?_
   repeat (go_big_quiet_step (first | (go_at_call 92; exact ya4 (HHO.out _)) | (go_at_call 93; exact grown_same (HSA.out _)) | (go_at_call 95; exact ya4 (spec_HeadHash ⟨hh,he,hr,hp⟩ _)) | (go_at_call 94; exact ya4 (HSig.out _ (HBW.out.trans ((Grown.ok _).mono HBW.out.size))))))
   refine wpQuiet_nil ?_
   intro w2 hw2
   have hR:=zd (ya5 hw2)
   clear hw2
   go_wp2
   go_ret
   exact ⟨ya1 zz24,(HBW.out).trans (hR.out.mono HBW.out.size)⟩
  ·have HF : Hid (sealOk root ⟨⟨hh,he,hr,hp⟩,⟨a,so,ss,sd⟩⟩ = false):=zd (by rw [HOK.out,hok,decide_eq_false hav]; rfl)
   have hq1 : (a == v) = false:=beq_eq_false_iff_ne.2 hav
   have hq2 : decide (a = v) = false:=decide_eq_false hav
   go_enter Tryz.func51,Tryz.ntmps51
   go_wp2
   generalize hW : w.alloc (.cells #[.int .i64 hh, .int .i64 he, .string hr, .string hp, .int .i64 a, .slice A0 so.length k0, .slice A1 ss.length k1, .slice A2 sd.length k2] 76) = W
   have HBW : Hid (Below w.heap.size w W):=zz49
   obtain ⟨B,hBe⟩ : ∃ B,w.heap.size = B:=⟨_,rfl⟩
   have hBlt : B < W.heap.size:=by rw [← hW, ← hBe]; simp
   have c0:=Grown.cell (show W.cell? ⟨B,0,none⟩ = some (.int .i64 hh) by rw [← hW, ← hBe]; exact ya2 _ _ _ _ _ rfl)
   have c1:=Grown.cell (show W.cell? ⟨B,1,none⟩ = some (.int .i64 he) by rw [← hW, ← hBe]; exact ya2 _ _ _ _ _ rfl)
   have c2:=Grown.cell (show W.cell? ⟨B,2,none⟩ = some (.string hr) by rw [← hW, ← hBe]; exact ya2 _ _ _ _ _ rfl)
   have c3:=Grown.cell (show W.cell? ⟨B,3,none⟩ = some (.string hp) by rw [← hW, ← hBe]; exact ya2 _ _ _ _ _ rfl)
   have c4:=Grown.cell (show W.cell? ⟨B,4,none⟩ = some (.int .i64 a) by rw [← hW, ← hBe]; exact ya2 _ _ _ _ _ rfl)
   have c5:=Grown.cell (show W.cell? ⟨B,5,none⟩ = some (.slice A0 so.length k0) by rw [← hW, ← hBe]; exact ya2 _ _ _ _ _ rfl)
   have c6:=Grown.cell (show W.cell? ⟨B,6,none⟩ = some (.slice A1 ss.length k1) by rw [← hW, ← hBe]; exact ya2 _ _ _ _ _ rfl)
   have c7:=Grown.cell (show W.cell? ⟨B,7,none⟩ = some (.slice A2 sd.length k2) by rw [← hW, ← hBe]; exact ya2 _ _ _ _ _ rfl)
   have HBE:=zd hBe
   rw [hBe]
   clear hW hBe
   refine ya0 (by kernel_rfl) (by kernel_rfl) ?_
   repeat (go_big_quiet_step (first | (go_at_call 92; exact ya4 (HHO.out _)) | (go_at_call 93; exact grown_same (HSA.out _)) | (go_at_call 95; exact ya4 (spec_HeadHash ⟨hh,he,hr,hp⟩ _)) | (go_at_call 94; exact ya4 (HSig.out _ (HBW.out.trans ((Grown.ok _).mono HBW.out.size))))))
   refine wpQuiet_nil ?_
   intro w2 hw2
   have hR:=zd (ya5 hw2)
   clear hw2
   go_wp2
   go_ret
   exact ⟨ya1 zz24,(HBW.out).trans (hR.out.mono HBW.out.size)⟩
end Go.Proofs.YtlfnmbcnehaikaaGreatDoor
namespace Go.Proofs.YtlfnmbcnehaikaaGreatDoor
open Go.RowKit Lay Mk
theorem spec_l09Short_no (w : World) (g : Nat) (t : ByteArray) (a : Nat) (hF : Fld 167 w g t a false) (ht : t.size ≤ 1048576) (ha : a ≤ t.size) (h : rdShort t a = none) : Calls Tryz.prog 154 #[.pointer (some ⟨g,0,none⟩)] w fun e w' => e = .returned (.string ⟨#[]⟩) ∧ Fld 167 w' g t a true ∧ Chg (fun b => b = g ∨ w.heap.size ≤ b) w w':=by
 have HV : Hid (∀ W,Calls Tryz.prog 124 #[.string t, .int .i64 a] W fun e w' => e = .returned (.tuple #[.string ⟨#[]⟩, .int .i64 0, .bool false]) ∧ Below W.heap.size W w'):=zd (fun W => by
  have h1:=spec_ReadShort W t ht a ha
  rw [h] at h1
  exact h1)
 clear h
 have G0:=Grown.cell hF.c0
 have G1:=Grown.cell hF.c1
 have HF:=zd hF
 have hgl:=hF.lt
 clear hF
 go_enter Tryz.func154,Tryz.ntmps154
 go_wp2_with (fail)
 refine ya0 (by kernel_rfl) (by kernel_rfl) ?_
 repeat (go_big_quiet_step (first | (go_at_call 124; with_reducible exact ya4 (HV.out _))))
 refine wpQuiet_nil ?_
 intro w7 hw_
 have hB7:=ya5 hw_
 clear hw_ G0 G1
 have hF7:=HF.out.below hB7 hgl
 have c0:=hF7.c0
 have c1:=hF7.c1
 have c2:=hF7.c2
 have cf:=hF7.cf
 have H7:=zd hF7
 have HB7:=zd hB7
 clear hF7 hB7
 go_wp2_with (fail)
 go_ret
 exact ⟨rfl,H7.out.bad true,Chg.setCell ((Chg.refl _ _).below HB7.out (Nat.le_refl _)) (.inl (.inl rfl)) _⟩
theorem spec_l09Short_yes (w : World) (g : Nat) (t : ByteArray) (a : Nat) (hF : Fld 167 w g t a false) (ht : t.size ≤ 1048576) (ha : a ≤ t.size) {s : ByteArray} {x : Nat} (h : rdShort t a = some (s,x)) : Calls Tryz.prog 154 #[.pointer (some ⟨g,0,none⟩)] w fun e w' => e = .returned (.string s) ∧ Fld 167 w' g t x false ∧ Chg (fun b => b = g ∨ w.heap.size ≤ b) w w':=by
 have HV : Hid (∀ W,Calls Tryz.prog 124 #[.string t, .int .i64 a] W fun e w' => e = .returned (.tuple #[.string s, .int .i64 x, .bool true]) ∧ Below W.heap.size W w'):=zd (fun W => by
  have h1:=spec_ReadShort W t ht a ha
  rw [h] at h1
  exact h1)
 clear h
 have G0:=Grown.cell hF.c0
 have G1:=Grown.cell hF.c1
 have HF:=zd hF
 have hgl:=hF.lt
 clear hF
 go_enter Tryz.func154,Tryz.ntmps154
 go_wp2_with (fail)
 refine ya0 (by kernel_rfl) (by kernel_rfl) ?_
 repeat (go_big_quiet_step (first | (go_at_call 124; with_reducible exact ya4 (HV.out _))))
 refine wpQuiet_nil ?_
 intro w7 hw_
 have hB7:=ya5 hw_
 clear hw_ G0 G1
 have hF7:=HF.out.below hB7 hgl
 have c0:=hF7.c0
 have c1:=hF7.c1
 have c2:=hF7.c2
 have cf:=hF7.cf
 have H7:=zd hF7
 have HB7:=zd hB7
 clear hF7 hB7
 go_wp2_with (fail)
 go_ret
 exact ⟨rfl,H7.out.to _ _ rfl,Chg.setCell ((Chg.refl _ _).below HB7.out (Nat.le_refl _)) (.inl (.inl rfl)) _⟩
end Go.Proofs.YtlfnmbcnehaikaaGreatDoor
