/- A part of the proof. -/
import Derived.Test.YtlfnmbcnehaikaaGreatDoorHApL19xSg
set_option linter.unusedVariables false
set_option linter.unusedSimpArgs false
set_option maxRecDepth 20000
set_option maxHeartbeats 8000000
namespace Go.Proofs.YtlfnmbcnehaikaaGreatDoor
open Go.RowKit Lay Mk
theorem cutB_list (t : ByteArray) (a b : Nat) : cutB t a b = (t.data.toList.drop a).take (b - a):=by simp [cutB]
theorem cutB_app {t : ByteArray} {a b c : Nat} (h1 : a ≤ b) (h2 : b ≤ c) : cutB t a b ++ cutB t b c = cutB t a c:=by
 rw [cutB_list,cutB_list,cutB_list,show c - a = (b - a) + (c - b) from by omega,List.take_add,List.drop_drop,show a + (b - a) = b from by omega]
theorem cutB_byte {t : ByteArray} {a : Nat} (h : a < t.size) : cutB t a (a + 1) = [t[a]]:=by
 have h1:=cutB_one (t:=t) (a:=a) (k:=0) h
 simpa [cutB_nil] using h1
theorem cutB_all (t : ByteArray) : bs (cutB t 0 t.size) = t:=by
 rw [← bs_cut]; exact ByteArray.extract_zero_size
def rdHead (t : ByteArray) : Option Head :=
 if h : 18 ≤ t.size then
  (if headOk ⟨(t[0].toNat : Int),(t[1].toNat : Int),t.extract 2 18,t.extract 18 t.size⟩ then some ⟨(t[0].toNat : Int),(t[1].toNat : Int),t.extract 2 18,t.extract 18 t.size⟩ else none)
 else none
theorem rdHead_some {t : ByteArray} {h : Head} (e : rdHead t = some h) : headOk h = true ∧ headTx h = t:=by
 unfold rdHead at e
 split at e
 ·rename_i hl
  split at e
  ·rename_i hk
   injection e with e
   subst e
   refine ⟨hk,?_⟩
   unfold headTx
   simp only [Int.toNat_natCast,UInt8.ofNat_toNat]
   have e0:=cutB_byte (t:=t) (a:=0) zz4
   have e1:=cutB_byte (t:=t) (a:=1) zz4
   rw [show [t[0],t[1]] = cutB t 0 1 ++ cutB t 1 2 from by rw [e0,e1]; rfl,bs_cut t 2 18,bs_cut t 18 t.size,bs_app,bs_app,cutB_app zz4 zz4,cutB_app zz4 zz4,cutB_app zz4 hl,cutB_all]
  ·simp at e
 ·simp at e
def cuts (t : ByteArray) (a : Nat) : Nat → List ByteArray
 | 0 => []
 | n + 1 => cuts t a n ++ [t.extract (a + 16 * n) (a + 16 * n + 16)]
theorem cuts_len (t : ByteArray) (a : Nat) : ∀ n,(cuts t a n).length = n
 | 0 => rfl
 | n + 1 => by rw [cuts,List.length_append,cuts_len t a n]; rfl
theorem cuts_wide {t : ByteArray} {a : Nat} : ∀ {n : Nat},a + 16 * n ≤ t.size → wideOk (cuts t a n) n = true
 | 0,_ => rfl
 | n + 1,h => by
  have h1:=cuts_wide (t:=t) (a:=a) (n:=n) zz4
  simp only [wideOk,Bool.and_eq_true,decide_eq_true_eq,List.all_eq_true] at h1 ⊢
  refine ⟨fun x hx => ?_,cuts_len t a (n + 1)⟩
  rw [cuts,List.mem_append] at hx
  rcases hx with hx | hx
  ·exact h1.1 x hx
  ·simp only [List.mem_singleton] at hx
   rw [hx,ByteArray.size_extract]; omega
def joinT : List ByteArray → List UInt8
 | [] => []
 | s :: l => s.data.toList ++ joinT l
theorem joinT_app : ∀ (l m : List ByteArray),joinT (l ++ m) = joinT l ++ joinT m
 | [],m => rfl
 | s :: l,m => by rw [List.cons_append,joinT,joinT,joinT_app l m,List.append_assoc]
theorem joinT_cuts {t : ByteArray} {a : Nat} : ∀ {n : Nat},joinT (cuts t a n) = cutB t a (a + 16 * n)
 | 0 => by rw [cuts]; exact (cutB_nil t a).symm
 | n + 1 => by
  rw [cuts,joinT_app,joinT_cuts (n:=n)]
  show cutB t a (a + 16 * n) ++ (cutB t (a + 16 * n) (a + 16 * n + 16) ++ []) = _
  rw [List.append_nil,cutB_app zz4 zz4]
  rfl
def sigTx (x : Sig) : ByteArray:=bs (UInt8.ofNat x.at_.toNat :: joinT (x.open_ ++ x.shut ++ x.sides))
def sealTx (x : Seal) : ByteArray:=varT (headTx x.head).size ++ headTx x.head ++ sigTx x.sig
def sigAt (t : ByteArray) (a : Nat) (h : a < t.size) : Sig:=⟨(t[a].toNat : Int),cuts t (a + 1) 8,cuts t (a + 129) 8,cuts t (a + 257) 4⟩
theorem sigAt_form {t : ByteArray} {a : Nat} (h : t.size = a + 321) (hx : t[a].toNat < 16) : sigForm (sigAt t a zz4) = true:=by
 simp only [sigForm,sigAt,Bool.and_eq_true]
 refine ⟨⟨⟨?_,cuts_wide zz4⟩,cuts_wide zz4⟩,cuts_wide zz4⟩
 simp only [inB,decide_eq_true_eq]; omega
theorem sigAt_tx {t : ByteArray} {a : Nat} (h : t.size = a + 321) : sigTx (sigAt t a zz4) = t.extract a t.size:=by
 rw [bs_cut]
 simp only [sigTx,sigAt,Int.toNat_natCast,UInt8.ofNat_toNat,joinT_app,joinT_cuts]
 congr 1
 rw [show a + 1 + 16 * 8 = a + 129 from by omega,show a + 129 + 16 * 8 = a + 257 from by omega,show a + 257 + 16 * 4 = t.size from by omega,cutB_app zz4 zz4,cutB_app zz4 zz4]
 have e0:=cutB_byte (t:=t) (a:=a) zz4
 rw [show t[a] :: cutB t (a + 1) t.size = cutB t a (a + 1) ++ cutB t (a + 1) t.size from by rw [e0]; rfl,cutB_app zz4 zz4]
theorem rdShort_back {t s : ByteArray} {a x : Nat} (ha : a ≤ t.size) (h : rdShort t a = some (s,x)) : varT s.size ++ s = t.extract a x:=by
 unfold rdShort at h
 split at h
 ·simp at h
 ·rename_i n y e
  have h1:=rdVar_some e
  split at h
  ·rename_i h2
   injection h with h
   injection h with hb hc
   subst hb; subst hc
   have hz : (t.extract y (y + n)).size = n:=zz52
   rw [hz,bs_cut t y,bs_cut t a]
   have hv : varT n = bs (cutB t a y):=rdVar_back ha e
   rw [hv,bs_app,cutB_app zz4 zz4]
  ·simp at h
def rdSeal (t : ByteArray) : Option Seal :=
 match rdShort t 0 with
 | none => none
 | some (s,x) =>
  match rdHead s with
  | none => none
  | some h => if hz : t.size = x + 321 then (if t[x].toNat < 16 then some ⟨h,sigAt t x zz4⟩ else none) else none
theorem rdSeal_some {t : ByteArray} {y : Seal} (e : rdSeal t = some y) : headOk y.head = true ∧ sigForm y.sig = true ∧ sealTx y = t:=by
 unfold rdSeal at e
 split at e
 ·simp at e
 ·rename_i s x e1
  split at e
  ·simp at e
  ·rename_i h e2
   split at e
   ·rename_i hz
    split at e
    ·rename_i hx
     injection e with e
     subst e
     obtain ⟨h1,h2⟩:=rdHead_some e2
     refine ⟨h1,sigAt_form hz hx,?_⟩
     have h3:=rdShort_some e1
     unfold sealTx
     rw [h2,sigAt_tx hz,rdShort_back (Nat.zero_le _) e1,bs_cut t 0,bs_cut t x,bs_app,cutB_app zz4 zz4,cutB_all]
    ·simp at e
   ·simp at e
theorem rdSeal_no1 {t : ByteArray} (h : rdShort t 0 = none) : rdSeal t = none:=by unfold rdSeal; rw [h]
theorem rdSeal_no2 {t s : ByteArray} {x : Nat} (h : rdShort t 0 = some (s,x)) (h2 : rdHead s = none) : rdSeal t = none:=by unfold rdSeal; simp only [h,h2]
theorem rdSeal_no3 {t s : ByteArray} {x : Nat} (h : rdShort t 0 = some (s,x)) (h2 : t.size ≠ x + 321) : rdSeal t = none:=by
 unfold rdSeal; simp only [h]
 split
 ·rfl
 ·rw [dif_neg h2]
theorem rdSeal_at {t s : ByteArray} {x : Nat} {y : Head} (h : rdShort t 0 = some (s,x)) (h2 : rdHead s = some y) (h3 : t.size = x + 321) : rdSeal t = if sigForm (sigAt t x zz4) then some ⟨y,sigAt t x zz4⟩ else none:=by
 unfold rdSeal; simp only [h,h2]
 rw [dif_pos h3]
 by_cases hx : t[x].toNat < 16
 ·rw [if_pos hx,if_pos (sigAt_form h3 hx)]
 ·rw [if_neg hx,if_neg]
  intro hf
  simp only [sigForm,sigAt,Bool.and_eq_true] at hf
  have h9:=hf.1.1.1
  unfold inB at h9
  rw [decide_eq_true_iff] at h9
  omega
theorem rdHead_no {t : ByteArray} (h : t.size < 18) : rdHead t = none:=by unfold rdHead; rw [dif_neg zz4]
theorem rdHead_at {t : ByteArray} (h : 18 ≤ t.size) : rdHead t = if headOk ⟨(t[0].toNat : Int),(t[1].toNat : Int),t.extract 2 18,t.extract 18 t.size⟩ then some ⟨(t[0].toNat : Int),(t[1].toNat : Int),t.extract 2 18,t.extract 18 t.size⟩ else none:=by unfold rdHead; rw [dif_pos h]
end Go.Proofs.YtlfnmbcnehaikaaGreatDoor
namespace Go.Proofs.YtlfnmbcnehaikaaGreatDoor
open Go.RowKit Lay Mk
def One (w : World) (g : Nat) (t : TypeId) (v : Value) : Prop:=w.heap[g]? = some (.cells #[v] t (0,0))
theorem One.lt {w : World} {g : Nat} {t : TypeId} {v : Value} (h : One w g t v) : g < w.heap.size:=heap_lt h
theorem One.cell {w : World} {g : Nat} {t : TypeId} {v : Value} (h : One w g t v) : w.cell? ⟨g,0,none⟩ = some v:=by rw [cell_of_row w g 0 _ _ (0,0) h]; rfl
theorem One.frozen {w : World} {g : Nat} {t : TypeId} {v : Value} (h : One w g t v) : w.frozen? ⟨g,0,none⟩ = false:=frozen_of_row w g 0 _ _ h
theorem One.set {w : World} {g : Nat} {t : TypeId} {v : Value} (h : One w g t v) (u : Value) : One (w.setCell ⟨g,0,none⟩ u) g t u:=by
 unfold One at *
 simp only [World.setCell,Array.getElem?_modify,h]
 simp
theorem One.keep {w w' : World} {g : Nat} {t : TypeId} {v : Value} (h : One w g t v) (k : w'.heap[g]? = w.heap[g]?) : One w' g t v:=k.trans h
theorem One.below {w w' : World} {B g : Nat} {t : TypeId} {v : Value} (h : One w g t v) (hb : Below B w w') (hB : g < B) : One w' g t v:=h.keep (hb.block g hB)
theorem One.later {w w' : World} {g : Nat} {t : TypeId} {v : Value} (h : One w g t v) (hb : Below w.heap.size w w') : One w' g t v:=h.below hb h.lt
theorem One.chg {w w' : World} {S : Blks} {g : Nat} {t : TypeId} {v : Value} (h : One w g t v) (hb : Chg S w w') (hn : ¬ S g) : One w' g t v:=h.keep (hb.block g h.lt hn)
theorem One.alloc {w : World} {g : Nat} {t : TypeId} {v : Value} (h : One w g t v) (o : Obj) : One (w.alloc o) g t v:=h.keep (Below.heap_alloc w o g (heap_lt h))
theorem One.new (w : World) (t : TypeId) (v : Value) : One (w.alloc (.cells #[v] t)) w.heap.size t v:=heap_alloc_new w _
theorem row_one (w : World) (t : ByteArray) (h : t.size ≤ maxLen) (ty : TypeId) : Row false (w.alloc (.cells #[.string t] ty)) (some ⟨w.heap.size,0,none⟩) 1 [t] (fun q => q = w.heap.size):=by
 refine row_box 1 [t] ?_
 intro j hj
 have hj : j = 0:=by simpa using hj
 subst hj
 exact ⟨ya2 _ _ _ _ _ rfl,by simpa using h⟩
theorem row_pair (w : World) (s t : ByteArray) (hs : s.size ≤ maxLen) (h : t.size ≤ maxLen) (ty : TypeId) : Row false (w.alloc (.cells #[.string s, .string t] ty)) (some ⟨w.heap.size,0,none⟩) 2 [s,t] (fun q => q = w.heap.size):=by
 refine row_box 2 [s,t] ?_
 intro j hj
 have hj : j = 0 ∨ j = 1:=by simp at hj; omega
 rcases hj with rfl | rfl
 ·exact ⟨ya2 _ _ _ _ _ rfl,by simpa using hs⟩
 ·exact ⟨ya2 _ _ _ _ _ rfl,by simpa using h⟩
theorem ml {n k : Nat} (h : n ≤ k) (hk : k ≤ 1000000) : n ≤ maxLen:=by unfold maxLen; omega
theorem impl_SignBitsOf (w : World) (t : ByteArray) (ht : t.size ≤ 200) (hT : Tabs w) : Calls Tryz.prog 186 #[.string t] w fun e w' => e = .returned (.int .i64 (signBits t)) ∧ Below w.heap.size w w':=by
 have hok:=tag_one (kind:=7) (s:=t) zz44 ht
 have hs:=tagHash_size hok
 have HI : Hid (∀ h,(signBits t : Int) = ((tagHash 7 [t] 16)[0]'h).toNat):=zd (fun h => by rw [signBits_at h])
 have hne : ((tagHash 7 [t] 16).toList == ([] : List UInt8)) = false:=by
  rw [empty_eq,decide_eq_false_iff_not]; intro h; rw [h] at hs; exact absurd hs zz44
 clear hok
 go_enter Tryz.func186,Tryz.ntmps186
 go_wp2_with (fail)
 refine (impl_hashOf _ 7 zz30 [t] _ _ _ (row_one w t (ml ht zz4) _) zz17 16 zz30 (hT.later ((Below.refl _ _).alloc (Nat.le_refl _) _))).mono ?_
 rintro e1 w1 ⟨rfl,hb⟩
 have hB : Below w.heap.size w w1:=((Below.refl _ _).alloc (Nat.le_refl _) _).trans (hb.mono zz17)
 go_wp2
 go_ret
 exact ⟨by rw [HI.out (by rw [hs]; omega)]; exact ret_int (IntWalk.wrap64_in _ (by have:=((tagHash 7 [t] 16)[0]'(by rw [hs]; omega)).toNat_lt; omega)),hB⟩
theorem spec_SignBitsOf (w : World) (t : ByteArray) (ht : t.size ≤ 200) : Calls Tryz.prog 142 #[.string t] w fun e w' => e = .returned (.int .i64 (signBits t)) ∧ Below w.heap.size w w':=by
 have hok:=tag_one (kind:=7) (s:=t) zz44 ht
 have hs:=tagHash_size hok
 have HI : Hid (∀ h,(signBits t : Int) = ((tagHash 7 [t] 16)[0]'h).toNat):=zd (fun h => by rw [signBits_at h])
 have hne : ((tagHash 7 [t] 16).toList == ([] : List UInt8)) = false:=by
  rw [empty_eq,decide_eq_false_iff_not]; intro h; rw [h] at hs; exact absurd hs zz44
 clear hok
 go_enter Tryz.func142,Tryz.ntmps142
 go_wp2_with (fail)
 refine (spec_TagHash _ 7 zz30 [t] _ _ _ (row_one w t (ml ht zz4) _) zz17 16 zz30).mono ?_
 rintro e1 w1 ⟨rfl,hb⟩
 have hB : Below w.heap.size w w1:=((Below.refl _ _).alloc (Nat.le_refl _) _).trans (hb.mono zz17)
 go_wp2
 go_ret
 exact ⟨by rw [HI.out (by rw [hs]; omega)]; exact ret_int (IntWalk.wrap64_in _ (by have:=((tagHash 7 [t] 16)[0]'(by rw [hs]; omega)).toNat_lt; omega)),hB⟩
end Go.Proofs.YtlfnmbcnehaikaaGreatDoor
namespace Go.Proofs.YtlfnmbcnehaikaaGreatDoor
open Go.RowKit Lay Mk
theorem spec_ChainOk (w : World) (xs : List Head) (A : Option Addr) (cap : Nat) (S : Blks) (hx : Row false w A cap xs S) (hl : xs.length ≤ 4000000000) (house : Int) : Calls Tryz.prog 53 #[.slice A xs.length cap, .int .i64 house] w fun e w' => e = .returned (.bool (chainOk xs house)) ∧ Below w.heap.size w w':=by
 go_enter Tryz.func53,Tryz.ntmps53
 go_wp2
 go_loopw [5] (fun i wr => ∃ k : Nat,k ≤ xs.length ∧ i = .int .i64 k ∧ Hid (∀ j,j < k → chainP xs house j = true) ∧ Below w.heap.size w wr) (fun i _ => xs.length - (intOf i).toNat)
 case atStart => exact ⟨0,Nat.zero_le _,rfl,zd upto_zero,Below.refl _ _⟩
 case round =>
  obtain ⟨k,hk,rfl,hall,hB⟩:=hrel
  have hz:=hB.size
  by_cases hlt : k < xs.length
  ·obtain ⟨b1,o1,rfl,hl1,f0,f1,f2,f3, -, -, -, -⟩:=Row.atHead hx hlt
   have c0:=Grown.cell ((hB.cell (p:=⟨b1,o1 + k * 4,none⟩) hl1).trans f0)
   have c1:=Grown.cell ((hB.cell (p:=⟨b1,o1 + k * 4 + 1,none⟩) hl1).trans f1)
   have c2:=Grown.cell ((hB.cell (p:=⟨b1,o1 + k * 4 + 2,none⟩) hl1).trans f2)
   have c3:=Grown.cell ((hB.cell (p:=⟨b1,o1 + k * 4 + 3,none⟩) hl1).trans f3)
   have HP:=zd (chainP_at (house:=house) hlt)
   have HBd:=zd (chainOk_bad (house:=house) hlt)
   have HN:=zd (upto_succ (p:=chainP xs house) hall.out)
   have htk : (xs.take k).length = k:=by rw [List.length_take]; omega
   have HL : Hid (∀ j (h : j < xs.length),k = j + 1 → lastHash (xs.take k) = headHash xs[j]):=zd (fun j h e => by subst e; exact last_take h)
   have HL0 : Hid (k = 0 → lastHash (xs.take k) = ⟨#[]⟩):=zd (fun e => by subst e; rfl)
   obtain ⟨x,hxx⟩ : ∃ x,xs[k] = x:=⟨_,rfl⟩
   rw [hxx] at c0 c1 c2 c3 HP
   have HC0:=zd (chain_prev0 (x:=x))
   clear hxx f0 f1 f2 f3
   obtain ⟨lh,hlh⟩ : ∃ l,lastHash (xs.take k) = l:=⟨_,rfl⟩
   rw [hlh] at HP HL HL0
   clear hlh htk
   obtain ⟨xh,xe,xr,xp⟩:=x
   dsimp only at HP c0 c1 c2 c3 HC0
   have hBz : Hid (Below w.heap.size w wr ∧ w.heap.size ≤ wr.heap.size):=zd ⟨hB,hz⟩
   have hkx : k < xs.length:=hlt
   clear hB hz
   have HOK : Hid (∀ W',Calls Tryz.prog 92 #[.agg (Head.cs ⟨xh,xe,xr,xp⟩).toArray] W' fun e w' => e = .returned (.bool (headOk ⟨xh,xe,xr,xp⟩)) ∧ Below W'.heap.size W' w'):=zd (fun W' => spec_HeadOk ⟨xh,xe,xr,xp⟩ W')
   cases hok : headOk ⟨xh,xe,xr,xp⟩
   ·have HF : Hid (chainOk xs house = false):=zd (HBd.out (by rw [HP.out,hok]; rfl))
    rw [hok] at HOK
    go_wp2
    refine ya0 (by kernel_rfl) (by kernel_rfl) ?_
    repeat (go_big_quiet_step (first | (go_at_call 92; exact ya4 (HOK.out _)) | (go_at_call 95; exact ya4 (HHH.out _))))
    refine wpQuiet_nil ?_
    intro w2 hw2
    have hR:=ya5 hw2
    clear hw2
    go_wp2
    go_ret
    exact ⟨ya1 zz24,hBz.out.1.trans (hR.mono hBz.out.2)⟩
   rw [hok] at HOK
   have HG : Hid (chainP xs house k = (decide (xh = house) && decide (xe = k + 1) && decide (xp = lh))):=zd (by rw [HP.out,hok]; simp)
   have hte : (xp.toList = lh.toList) = (xp = lh):=by apply propext; exact ⟨toList_inj,fun h => by rw [h]⟩
   by_cases h1 : xh = house
   ·subst h1
    by_cases h2 : xe = k + 1
    ·subst h2
     rcases Nat.eq_zero_or_pos k with h0 | h0
     ·have hp0 : xp = lh:=by
       rw [HL0.out h0]; exact HC0.out hok (by rw [h0]; rfl)
      have HF : Hid (∀ q,q < k + 1 → chainP xs xh q = true):=zd (HN.out (by rw [HG.out,decide_eq_true hp0]; simp))
      subst h0
      simp only [Nat.zero_mul,Nat.add_zero] at c0 c1 c2 c3
      clear hp0 hte
      go_wp2
      refine ya0 (by kernel_rfl) (by kernel_rfl) ?_
      repeat (go_big_quiet_step (first | (go_at_call 92; exact ya4 (HOK.out _)) | (go_at_call 95; exact ya4 (HHH.out _))))
      refine wpQuiet_nil ?_
      intro w2 hw2
      have hR:=ya5 hw2
      clear hw2
      go_wp2
      go_roundw
      case rel => exact ⟨0 + 1,zz4,by go_num,HF,hBz.out.1.trans (hR.mono hBz.out.2)⟩
      case measure => simp [intOf]; omega
     ·obtain ⟨j,rfl⟩ : ∃ j,k = j + 1:=⟨k - 1,zz4⟩
      have hj : j < xs.length:=zz4
      obtain ⟨b2,o2,hbe,hl3,g0,g1,g2,g3, -, -, -, -⟩:=Row.atHead hx hj
      injection hbe with hbe
      injection hbe with hb1 hb2
      subst hb1 hb2
      have d0:=Grown.cell ((hBz.out.1.cell (p:=⟨b1,o1 + j * 4,none⟩) hl3).trans g0)
      have d1:=Grown.cell ((hBz.out.1.cell (p:=⟨b1,o1 + j * 4 + 1,none⟩) hl3).trans g1)
      have d2:=Grown.cell ((hBz.out.1.cell (p:=⟨b1,o1 + j * 4 + 2,none⟩) hl3).trans g2)
      have d3:=Grown.cell ((hBz.out.1.cell (p:=⟨b1,o1 + j * 4 + 3,none⟩) hl3).trans g3)
      obtain ⟨y,hy⟩ : ∃ y,xs[j] = y:=⟨_,rfl⟩
      have HHH : Hid (∀ W',Calls Tryz.prog 95 #[.agg (Head.cs y).toArray] W' fun e w' => e = .returned (.string lh) ∧ Below W'.heap.size W' w'):=zd (fun W' => by
       rw [HL.out j hj rfl,hy]; exact spec_HeadHash y W')
      rw [hy] at d0 d1 d2 d3
      clear hy g0 g1 g2 g3 h0
      have hjj : (((j + 1 : Nat) : Int) - 1) = j:=zz4
      by_cases h3 : xp = lh
      ·have HF : Hid (∀ q,q < j + 1 + 1 → chainP xs xh q = true):=zd (HN.out (by rw [HG.out,decide_eq_true h3]; simp))
       subst h3
       clear hte
       go_wp2
       refine ya0 (by kernel_rfl) (by kernel_rfl) ?_
       repeat (go_big_quiet_step (first | (go_at_call 92; exact ya4 (HOK.out _)) | (go_at_call 95; exact ya4 (HHH.out _))))
       refine wpQuiet_nil ?_
       intro w2 hw2
       have hR:=ya5 hw2
       clear hw2
       go_wp2
       go_roundw
       case rel => exact ⟨j + 1 + 1,zz4,by go_num,HF,hBz.out.1.trans (hR.mono hBz.out.2)⟩
       case measure => simp [intOf]; omega
      ·have HF : Hid (chainOk xs xh = false):=zd (HBd.out (by rw [HG.out,decide_eq_false h3]; simp))
       have hn:=str_ne h3
       clear hte
       go_wp2
       refine ya0 (by kernel_rfl) (by kernel_rfl) ?_
       repeat (go_big_quiet_step (first | (go_at_call 92; exact ya4 (HOK.out _)) | (go_at_call 95; exact ya4 (HHH.out _))))
       refine wpQuiet_nil ?_
       intro w2 hw2
       have hR:=ya5 hw2
       clear hw2
       go_wp2
       go_ret
       exact ⟨ya1 zz24,hBz.out.1.trans (hR.mono hBz.out.2)⟩
    ·have HF : Hid (chainOk xs xh = false):=zd (HBd.out (by rw [HG.out,decide_eq_false h2]; simp))
     have hn : (xe != (k : Int) + 1) = true:=by rw [bne_iff_ne]; exact h2
     go_wp2
     refine ya0 (by kernel_rfl) (by kernel_rfl) ?_
     repeat (go_big_quiet_step (first | (go_at_call 92; exact ya4 (HOK.out _)) | (go_at_call 95; exact ya4 (HHH.out _))))
     refine wpQuiet_nil ?_
     intro w2 hw2
     have hR:=ya5 hw2
     clear hw2
     go_wp2
     go_ret
     exact ⟨ya1 zz24,hBz.out.1.trans (hR.mono hBz.out.2)⟩
   ·have HF : Hid (chainOk xs house = false):=zd (HBd.out (by rw [HG.out,decide_eq_false h1]; simp))
    have hn : (xh != house) = true:=by rw [bne_iff_ne]; exact h1
    go_wp2
    refine ya0 (by kernel_rfl) (by kernel_rfl) ?_
    repeat (go_big_quiet_step (first | (go_at_call 92; exact ya4 (HOK.out _)) | (go_at_call 95; exact ya4 (HHH.out _))))
    refine wpQuiet_nil ?_
    intro w2 hw2
    have hR:=ya5 hw2
    clear hw2
    go_wp2
    go_ret
    exact ⟨ya1 zz24,hBz.out.1.trans (hR.mono hBz.out.2)⟩
  ·have hke : k = xs.length:=by omega
   subst hke
   have HE:=zd (chainOk_end hall.out)
   go_wp2
   go_ret
   exact ⟨ya1 (by rw [HE.out]),hB⟩
end Go.Proofs.YtlfnmbcnehaikaaGreatDoor
