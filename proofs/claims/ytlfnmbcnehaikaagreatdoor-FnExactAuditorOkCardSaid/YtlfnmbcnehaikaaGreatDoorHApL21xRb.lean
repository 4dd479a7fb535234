/- A part of the proof. -/
import Derived.Test.YtlfnmbcnehaikaaGreatDoorHApL20xRa
set_option linter.unusedVariables false
set_option linter.unusedSimpArgs false
set_option maxRecDepth 20000
set_option maxHeartbeats 8000000
namespace Go.Proofs.YtlfnmbcnehaikaaGreatDoor
open Go.RowKit Lay Mk
def frameT (s : ByteArray) : ByteArray:=varT s.size ++ fourB (sumOf s) ++ s
def rdFrame (t : ByteArray) (a : Nat) : Option (ByteArray × Nat) :=
 match rdVar t a with
 | none => none
 | some (n,x) => if 1 ≤ n ∧ n ≤ 9000 ∧ n + 4 ≤ t.size - x ∧ t.extract x (x + 4) = fourB (sumOf (t.extract (x + 4) (x + 4 + n))) then some (t.extract (x + 4) (x + 4 + n),x + 4 + n) else none
theorem rdFrame_some {t s : ByteArray} {a y : Nat} (h : rdFrame t a = some (s,y)) : 1 ≤ s.size ∧ s.size ≤ 9000 ∧ a + 5 + s.size ≤ y ∧ y ≤ t.size:=by
 unfold rdFrame at h
 split at h
 ·simp at h
 ·rename_i n x e
  have h1:=rdVar_some e
  split at h
  ·rename_i h2
   injection h with h
   injection h with ha hb
   subst ha; subst hb
   rw [ByteArray.size_extract]
   omega
  ·simp at h
def unfrGo (t : ByteArray) : Nat → Nat → List ByteArray
 | 0,_ => []
 | f + 1,a => match rdFrame t a with
  | none => []
  | some (s,y) => s :: unfrGo t f y
def unframe (t : ByteArray) : List ByteArray:=if t.size ≤ 20000 then unfrGo t (t.size + 1) 0 else []
theorem unfr_end {t : ByteArray} {a f : Nat} (h : rdFrame t a = none) : unfrGo t f a = []:=by
 cases f with
 | zero => rfl
 | succ f => simp only [unfrGo,h]
theorem unfr_more {t s : ByteArray} {a y f : Nat} (h : rdFrame t a = some (s,y)) : unfrGo t (f + 1) a = s :: unfrGo t f y:=by simp only [unfrGo,h]
theorem unfrGo_sz : ∀ {f : Nat} {t : ByteArray} {a : Nat},a ≤ t.size → (∀ s ∈ unfrGo t f a,1 ≤ s.size ∧ s.size ≤ 9000) ∧ a + 5 * (unfrGo t f a).length + ((unfrGo t f a).map ByteArray.size).sum ≤ t.size
 | 0,t,a,h => by simp [unfrGo,h]
 | f + 1,t,a,h => by
  cases e : rdFrame t a with
  | none => rw [unfr_end e]; simp [h]
  | some p =>
   obtain ⟨s,y⟩:=p
   rw [unfr_more e]
   have h1:=rdFrame_some e
   obtain ⟨h2,h3⟩:=unfrGo_sz (f:=f) (t:=t) (a:=y) h1.2.2.2
   refine ⟨fun z hz => ?_,?_⟩
   ·rcases List.mem_cons.1 hz with rfl | hz
    ·exact ⟨h1.1,h1.2.1⟩
    ·exact h2 z hz
   ·simp only [List.length_cons,List.map_cons,List.sum_cons]; omega
theorem unframe_sz (t : ByteArray) : (∀ s ∈ unframe t,1 ≤ s.size ∧ s.size ≤ 9000) ∧ 5 * (unframe t).length + ((unframe t).map ByteArray.size).sum ≤ 20000:=by
 unfold unframe
 split
 ·have:=unfrGo_sz (f:=t.size + 1) (t:=t) (a:=0) (Nat.zero_le _)
  exact ⟨this.1,zz4⟩
 ·simp
theorem rdFrame_no {t : ByteArray} {a : Nat} (h : t.size ≤ a) : rdFrame t a = none:=by
 have : rdVar t a = none:=rdGo_out zz4
 unfold rdFrame; rw [this]
theorem rdFrame_bad {t : ByteArray} {a : Nat} (h : ∀ n x,rdVar t a = some (n,x) → ¬ (1 ≤ n ∧ n ≤ 9000 ∧ n + 4 ≤ t.size - x)) : rdFrame t a = none:=by
 unfold rdFrame
 split
 ·rfl
 ·rename_i n x e
  have:=h n x e
  rw [if_neg (fun hh => this ⟨hh.1,hh.2.1,hh.2.2.1⟩)]
theorem rdFrame_sum {t : ByteArray} {a n x : Nat} (e : rdVar t a = some (n,x)) (h1 : 1 ≤ n) (h2 : n ≤ 9000) (h3 : n + 4 ≤ t.size - x) : rdFrame t a = if t.extract x (x + 4) = fourB (sumOf (t.extract (x + 4) (x + 4 + n))) then some (t.extract (x + 4) (x + 4 + n),x + 4 + n) else none:=by
 unfold rdFrame
 simp only [e,h1,h2,h3,true_and]
theorem ba_app_inj {a b c d : ByteArray} (h : a ++ b = c ++ d) (hz : a.size = c.size) : a = c ∧ b = d:=by
 have e:=congrArg (fun t => t.data.toList) h
 simp only [ByteArray.data_append,Array.toList_append] at e
 have:=List.append_inj e (by simpa using hz)
 refine ⟨ByteArray.ext (Array.ext' this.1),ByteArray.ext (Array.ext' this.2)⟩
theorem frame_same {t : ByteArray} {a n x : Nat} (ha : a ≤ t.size) (e : rdVar t a = some (n,x)) (h3 : n + 4 ≤ t.size - x) : (frameT (t.extract (x + 4) (x + 4 + n)) = t.extract a (x + 4 + n)) ↔ t.extract x (x + 4) = fourB (sumOf (t.extract (x + 4) (x + 4 + n))):=by
 have h1:=rdVar_some e
 have hz : (t.extract (x + 4) (x + 4 + n)).size = n:=zz52
 have hv:=rdVar_back ha e
 have hs : t.extract a (x + 4 + n) = varT n ++ t.extract x (x + 4) ++ t.extract (x + 4) (x + 4 + n):=by
  rw [hv,bs_cut t x,bs_cut t (x + 4),bs_cut t a,bs_app,bs_app,cutB_app zz4 zz4,cutB_app zz4 zz4]
 rw [hs]
 unfold frameT
 rw [hz]
 constructor
 ·intro h
  have:=ba_app_inj h (by rw [ByteArray.size_append,ByteArray.size_append,fourB_size,ByteArray.size_extract]; omega)
  exact (ba_app_inj this.1 rfl).2.symm
 ·intro h
  rw [h]
def recAt (t : ByteArray) (z : List Seal × List Pair) : List Seal × List Pair :=
 if h : 0 < t.size then
  if t[0].toNat = 1 then (match rdSeal (t.extract 1 t.size) with | some s => (z.1 ++ [s],z.2) | none => z)
  else if t[0].toNat = 2 then (match rdShort t 1 with
   | none => z
   | some (x,y) => match rdSeal x with
    | none => z
    | some s => match rdSeal (t.extract y t.size) with
     | none => z
     | some r => (z.1,z.2 ++ [⟨s,r⟩]))
  else z
 else z
def recsAt (l : List ByteArray) (z : List Seal × List Pair) : List Seal × List Pair:=l.foldl (fun z t => recAt t z) z
theorem recsAt_cons (t : ByteArray) (l : List ByteArray) (z : List Seal × List Pair) : recsAt (t :: l) z = recsAt l (recAt t z):=rfl
def fileGet : List File → ByteArray → Option ByteArray
 | [],_ => none
 | f :: l,n => if f.name = n then some f.text else fileGet l n
def fileFits (f : File) : Bool:=inB f.name.size 1 8 && decide (f.text.size ≤ 20000) && inB f.kept 0 f.text.size
def GoodS (s : Seal) : Prop:=headOk s.head = true ∧ sigForm s.sig = true
def GoodP (p : Pair) : Prop:=GoodS p.a ∧ GoodS p.b
theorem rdSeal_good {t : ByteArray} {y : Seal} (e : rdSeal t = some y) : GoodS y:=⟨(rdSeal_some e).1,(rdSeal_some e).2.1⟩
theorem recAt_cases (t : ByteArray) (z : List Seal × List Pair) : recAt t z = z ∨ (∃ s,GoodS s ∧ recAt t z = (z.1 ++ [s],z.2)) ∨ (∃ p,GoodP p ∧ recAt t z = (z.1,z.2 ++ [p])):=by
 unfold recAt
 split
 ·split
  ·split
   ·rename_i s e
    exact .inr (.inl ⟨s,rdSeal_good e,rfl⟩)
   ·exact .inl rfl
  ·split
   ·split
    ·exact .inl rfl
    ·split
     ·exact .inl rfl
     ·rename_i s e
      split
      ·exact .inl rfl
      ·rename_i r e2
       exact .inr (.inr ⟨⟨s,r⟩,⟨rdSeal_good e,rdSeal_good e2⟩,rfl⟩)
   ·exact .inl rfl
 ·exact .inl rfl
theorem recsAt_good : ∀ (l : List ByteArray) (z : List Seal × List Pair),(∀ s ∈ z.1,GoodS s) → (∀ p ∈ z.2,GoodP p) → (∀ s ∈ (recsAt l z).1,GoodS s) ∧ (∀ p ∈ (recsAt l z).2,GoodP p) ∧ (recsAt l z).1.length ≤ z.1.length + l.length ∧ (recsAt l z).2.length ≤ z.2.length + l.length
 | [],z,h1,h2 => ⟨h1,h2,by simp [recsAt],by simp [recsAt]⟩
 | t :: l,z,h1,h2 => by
  rw [recsAt_cons]
  rcases recAt_cases t z with e | ⟨s,hs,e⟩ | ⟨p,hp,e⟩
  ·rw [e]
   obtain ⟨a,b,c,d⟩:=recsAt_good l z h1 h2
   exact ⟨a,b,by simp only [List.length_cons]; omega,by simp only [List.length_cons]; omega⟩
  ·rw [e]
   obtain ⟨a,b,c,d⟩:=recsAt_good l (z.1 ++ [s],z.2) (by
    intro x hx
    rcases List.mem_append.1 hx with hx | hx
    ·exact h1 x hx
    ·rw [List.mem_singleton.1 hx]; exact hs) h2
   simp only [List.length_append,List.length_cons,List.length_nil] at c d ⊢
   exact ⟨a,b,zz4,zz4⟩
  ·rw [e]
   obtain ⟨a,b,c,d⟩:=recsAt_good l (z.1,z.2 ++ [p]) h1 (by
    intro x hx
    rcases List.mem_append.1 hx with hx | hx
    ·exact h2 x hx
    ·rw [List.mem_singleton.1 hx]; exact hp)
   simp only [List.length_append,List.length_cons,List.length_nil] at c d ⊢
   exact ⟨a,b,zz4,zz4⟩
def fLess (a b : ByteArray) : Bool:=Op.bytesLess a.toList b.toList
def prevFile (xs : List File) (k : Nat) (x : File) : Bool:=match k with | 0 => true | j + 1 => match xs[j]? with | some y => fLess y.name x.name | none => false
def fileP (xs : List File) (k : Nat) : Bool:=match xs[k]? with | none => false | some x => fileFits x && prevFile xs k x
def diskOk (xs : List File) : Bool:=allN xs.length (fileP xs) && decide (xs.length ≤ 30)
theorem fileP_at {xs : List File} {k : Nat} (h : k < xs.length) : fileP xs k = (fileFits xs[k] && prevFile xs k xs[k]):=by unfold fileP; rw [List.getElem?_eq_getElem h]
theorem prevFile_succ {xs : List File} {k : Nat} (h : k + 1 < xs.length) (x : File) : prevFile xs (k + 1) x = fLess xs[k].name x.name:=by simp only [prevFile]; rw [List.getElem?_eq_getElem zz4]
theorem diskOk_bad {xs : List File} {k : Nat} (h : k < xs.length) (hp : fileP xs k = false) : diskOk xs = false:=by unfold diskOk; rw [allN_bad h hp]; rfl
theorem diskOk_long {xs : List File} (h : 30 < xs.length) : diskOk xs = false:=by unfold diskOk; rw [decide_eq_false zz4]; simp
theorem diskOk_end {xs : List File} (h : ∀ k,k < xs.length → fileP xs k = true) : diskOk xs = decide (xs.length ≤ 30):=by unfold diskOk; rw [allN_end h]; rfl
def pinsName : ByteArray:=bs [112,105,110,115]
def logTexts (xs : List File) (n : ByteArray) : List ByteArray:=match fileGet xs n with | none => [] | some t => if diskOk xs then unframe t else []
def auditorFrom (house : Int) (d : Disk) (pool : List ByteArray) : Auditor:=⟨house,true,d,pool,(recsAt (logTexts d.files pinsName) ([], [])).1,(recsAt (logTexts d.files pinsName) ([], [])).2⟩
theorem joinT_inj : ∀ {l m : List ByteArray},(∀ x ∈ l,x.size = 16) → (∀ x ∈ m,x.size = 16) → l.length = m.length → joinT l = joinT m → l = m
 | [], [],_,_,_,_ => rfl
 | [],_ :: _,_,_,h,_ => by simp at h
 | _ :: _, [],_,_,h,_ => by simp at h
 | a :: l,b :: m,h1,h2,h3,h4 => by
  have ha:=h1 a zz17
  have hb:=h2 b zz17
  rw [joinT,joinT] at h4
  have h5:=List.append_inj h4 (by rw [Array.length_toList,Array.length_toList]; exact ha.trans hb.symm)
  have h6:=joinT_inj (fun x hx => h1 x (by simp [hx])) (fun x hx => h2 x (by simp [hx])) (by simpa using h3) h5.2
  rw [h6,ByteArray.ext (Array.ext' h5.1)]
theorem wide_both {l : List ByteArray} {n : Nat} (h : wideOk l n = true) : (∀ x ∈ l,x.size = 16) ∧ l.length = n:=by
 simp only [wideOk,Bool.and_eq_true,decide_eq_true_eq,List.all_eq_true] at h
 exact h
theorem sigTx_inj {a b : Sig} (ha : sigForm a = true) (hb : sigForm b = true) (h : sigTx a = sigTx b) : a = b:=by
 obtain ⟨a1,a2,a3,a4⟩:=a
 obtain ⟨b1,b2,b3,b4⟩:=b
 simp only [sigForm,Bool.and_eq_true] at ha hb
 obtain ⟨⟨⟨p1,p2⟩,p3⟩,p4⟩:=ha
 obtain ⟨⟨⟨q1,q2⟩,q3⟩,q4⟩:=hb
 obtain ⟨u2,v2⟩:=wide_both p2
 obtain ⟨u3,v3⟩:=wide_both p3
 obtain ⟨u4,v4⟩:=wide_both p4
 obtain ⟨s2,t2⟩:=wide_both q2
 obtain ⟨s3,t3⟩:=wide_both q3
 obtain ⟨s4,t4⟩:=wide_both q4
 replace v2 : a2.length = 8:=v2
 replace v3 : a3.length = 8:=v3
 replace v4 : a4.length = 4:=v4
 replace t2 : b2.length = 8:=t2
 replace t3 : b3.length = 8:=t3
 replace t4 : b4.length = 4:=t4
 have h1:=bs_inj h
 injection h1 with h2 h3
 replace h2 : UInt8.ofNat a1.toNat = UInt8.ofNat b1.toNat:=h2
 replace h3 : joinT (a2 ++ a3 ++ a4) = joinT (b2 ++ b3 ++ b4):=h3
 have h4:=joinT_inj (by
  intro x hx
  simp only [List.mem_append] at hx
  rcases hx with (hx | hx) | hx
  ·exact u2 x hx
  ·exact u3 x hx
  ·exact u4 x hx) (by
  intro x hx
  simp only [List.mem_append] at hx
  rcases hx with (hx | hx) | hx
  ·exact s2 x hx
  ·exact s3 x hx
  ·exact s4 x hx) (by simp only [List.length_append]; omega) h3
 have h5:=List.append_inj h4 (by simp only [List.length_append]; omega)
 have h6:=List.append_inj h5.1 zz4
 simp only [inB,decide_eq_true_eq] at p1 q1
 have h7:=congrArg UInt8.toNat h2
 rw [UInt8.toNat_ofNat',UInt8.toNat_ofNat',Nat.mod_eq_of_lt zz4,Nat.mod_eq_of_lt zz4] at h7
 have h8 : a1 = b1:=zz4
 rw [h8,h6.1,h6.2,h5.2]
def sealText (x : Seal) : ByteArray:=if headOk x.head && sigForm x.sig then sealTx x else ⟨#[]⟩
theorem sealTx_pos (x : Seal) : 0 < (sealTx x).size:=by
 unfold sealTx
 have h1 : 0 < (varT (headTx x.head).size).size:=by
  have h2 : (varT (headTx x.head).size).size = (varB (headTx x.head).size).length:=bs_size _
  rw [h2,varB]
  split <;> simp
 rw [ByteArray.size_append,ByteArray.size_append]; omega
theorem sealTx_head {h : Head} {a b : Sig} (e : sealTx ⟨h,a⟩ = sealTx ⟨h,b⟩) : sigTx a = sigTx b:=by
 unfold sealTx at e
 exact (ba_app_inj e rfl).2
theorem sameSeal_text {x y : Seal} (hy : headOk y.head = true) (hf : sigForm y.sig = true) : (sealText x = sealText y ∧ x.head = y.head) ↔ x = y:=by
 constructor
 ·rintro ⟨h1,h2⟩
  obtain ⟨xh,xs⟩:=x
  obtain ⟨yh,ys⟩:=y
  simp only at h2
  subst h2
  replace hy : headOk xh = true:=hy
  replace hf : sigForm ys = true:=hf
  replace h1 : (if headOk xh && sigForm xs then sealTx ⟨xh,xs⟩ else ⟨#[]⟩) = (if headOk xh && sigForm ys then sealTx ⟨xh,ys⟩ else ⟨#[]⟩):=h1
  rw [hy,hf] at h1
  simp only [Bool.true_and,if_true] at h1
  by_cases hx : sigForm xs = true
  ·rw [if_pos hx] at h1
   rw [sigTx_inj hx hf (sealTx_head h1)]
  ·rw [if_neg hx] at h1
   have h3:=sealTx_pos ⟨xh,ys⟩
   rw [← h1] at h3
   exact absurd h3 zz44
 ·rintro rfl; exact ⟨rfl,rfl⟩
end Go.Proofs.YtlfnmbcnehaikaaGreatDoor
namespace Go.Proofs.YtlfnmbcnehaikaaGreatDoor
open Go.RowKit Lay Mk
def secretIn (seed : ByteArray) (a b v : Int) : Bool:=decide (seed.size ≤ 100) && (inB a 0 15 && (inB b 0 7 && inB v 0 1))
def secretTx (a b v : Nat) : ByteArray:=bs [UInt8.ofNat a,UInt8.ofNat b,UInt8.ofNat v]
def secretOf (seed : ByteArray) (a b v : Int) : ByteArray:=if secretIn seed a b v = true then tagHash 5 [seed,secretTx a.toNat b.toNat v.toNat] 16 else ⟨#[]⟩
theorem in_nat {n lo hi : Int} (h : inB n lo hi = true) (h0 : 0 ≤ lo) : ∃ k : Nat,n = k ∧ lo ≤ k ∧ (k : Int) ≤ hi:=by
 have h1 : lo ≤ n ∧ n ≤ hi:=by simpa [inB] using h
 exact ⟨n.toNat,zz4,zz4,zz4⟩
theorem secretTx_size (a b v : Nat) : (secretTx a b v).size = 3:=by unfold secretTx; rw [bs_size]; rfl
theorem two_ok {kind : Int} {s t : ByteArray} (hk : inB kind 1 8 = true) (hs : s.size ≤ 200) (ht : t.size ≤ 200) : tagOk kind [s,t] = true:=tag_two hk hs ht
theorem secretOf_size {seed : ByteArray} {a b v : Int} (h : secretIn seed a b v = true) : (secretOf seed a b v).size = 16:=by
 have h100 : seed.size ≤ 100:=by unfold secretIn at h; rw [Bool.and_eq_true] at h; simpa using h.1
 unfold secretOf; rw [if_pos h]
 exact tagHash_size (two_ok zz44 zz4 (by rw [secretTx_size]; omega))
theorem row_two (w : World) (s t : ByteArray) (hs : s.size ≤ maxLen) (ht : t.size ≤ maxLen) (ty : TypeId) (b : Nat) (hb : b = w.heap.size) : Row false (w.alloc (.cells #[.string s, .string t] ty)) (some ⟨b,0,none⟩) 2 [s,t] (fun q => q = b):=by
 subst hb; exact row_pair w s t hs ht ty
theorem impl_SecretOf (w : World) (seed : ByteArray) (hs : seed.size ≤ maxLen) (a b v : Int) (hT : Tabs w) : Calls Tryz.prog 133 #[.string seed, .int .i64 a, .int .i64 b, .int .i64 v] w fun e w' => e = .returned (.string (secretOf seed a b v)) ∧ Below w.heap.size w w':=by
 by_cases h100 : 100 < seed.size
 ·have HC : Hid (secretOf seed a b v = ⟨#[]⟩):=zd (by unfold secretOf secretIn; rw [decide_eq_false zz4]; rfl)
  go_enter Tryz.func133,Tryz.ntmps133
  go_wp2_with (go_at_call 62; refine (impl_in _ _ _ _).mono ?_; rintro e2 w2 ⟨rfl,rfl⟩)
  go_ret
  exact ⟨by rw [HC.out]; rfl,Below.refl _ _⟩
 cases ha : inB a 0 15
 ·have HC : Hid (secretOf seed a b v = ⟨#[]⟩):=zd (by unfold secretOf secretIn; rw [ha]; simp)
  go_enter Tryz.func133,Tryz.ntmps133
  go_wp2_with (go_at_call 62; refine (impl_in _ _ _ _).mono ?_; rintro e2 w2 ⟨rfl,rfl⟩)
  go_ret
  exact ⟨by rw [HC.out]; rfl,Below.refl _ _⟩
 cases hb : inB b 0 7
 ·have HC : Hid (secretOf seed a b v = ⟨#[]⟩):=zd (by unfold secretOf secretIn; rw [hb]; simp)
  go_enter Tryz.func133,Tryz.ntmps133
  go_wp2_with (go_at_call 62; refine (impl_in _ _ _ _).mono ?_; rintro e2 w2 ⟨rfl,rfl⟩)
  go_ret
  exact ⟨by rw [HC.out]; rfl,Below.refl _ _⟩
 cases hv : inB v 0 1
 ·have HC : Hid (secretOf seed a b v = ⟨#[]⟩):=zd (by unfold secretOf secretIn; rw [hv]; simp)
  go_enter Tryz.func133,Tryz.ntmps133
  go_wp2_with (go_at_call 62; refine (impl_in _ _ _ _).mono ?_; rintro e2 w2 ⟨rfl,rfl⟩)
  go_ret
  exact ⟨by rw [HC.out]; rfl,Below.refl _ _⟩
 have HC : Hid (secretOf seed a b v = tagHash 5 [seed,secretTx a.toNat b.toNat v.toNat] 16):=zd (by unfold secretOf secretIn; rw [ha,hb,hv,decide_eq_true zz4]; rfl)
 obtain ⟨a,rfl,ha0,ha1⟩:=in_nat ha zz4
 obtain ⟨b,rfl,hb0,hb1⟩:=in_nat hb zz4
 obtain ⟨v,rfl,hv0,hv1⟩:=in_nat hv zz4
 simp only [Int.toNat_natCast] at HC
 have wa : IntKind.u8.wrap (a : Int) = a:=by rw [IntKind.wrap_u8']; omega
 have wb : IntKind.u8.wrap (b : Int) = b:=by rw [IntKind.wrap_u8']; omega
 have wv : IntKind.u8.wrap (v : Int) = v:=by rw [IntKind.wrap_u8']; omega
 have HR0:=zd (fun W : World => show BR (W.alloc (.cells #[.int .u8 (a : Int), .int .u8 (b : Int), .int .u8 (v : Int)] 5)) (some ⟨W.heap.size,0,none⟩) 3 [UInt8.ofNat a,UInt8.ofNat b,UInt8.ofNat v] (fun q => W.heap.size ≤ q) from br_lit W _ _ [UInt8.ofNat a,UInt8.ofNat b,UInt8.ofNat v] (by
  have e1 : a % 256 = a:=zz4
  have e2 : b % 256 = b:=zz4
  have e3 : v % 256 = v:=zz4
  simp [u8c,e1,e2,e3]; try omega))
 have HT:=zd hT
 clear hT
 go_enter Tryz.func133,Tryz.ntmps133
 go_wp2_with (first | (go_at_call 62; refine (impl_in _ _ _ _).mono ?_; rintro e2 w2 ⟨rfl,rfl⟩) | (go_at_call 150; fail) | (refine wpList_strB rfl _ rfl Tryz.underlying5 Tryz.underlying9 rfl rfl (HR0.out _) ?_))
 refine (impl_hashOf _ 5 zz30 [seed,secretTx a b v] _ _ _ (row_two _ seed (secretTx a b v) hs (ml (Nat.le_of_eq (secretTx_size a b v)) zz4) _ _ zz17) zz17 16 zz30 (HT.out.later (((Below.refl _ _).alloc (Nat.le_refl _) _).alloc zz17 _))).mono ?_
 rintro e5 w5 ⟨rfl,hb5⟩
 go_wp2
 go_ret
 exact ⟨by rw [HC.out]; rfl,Below.via (Below.via hb5)⟩
theorem spec_SecretOf (w : World) (seed : ByteArray) (hs : seed.size ≤ maxLen) (a b v : Int) : Calls Tryz.prog 125 #[.string seed, .int .i64 a, .int .i64 b, .int .i64 v] w fun e w' => e = .returned (.string (secretOf seed a b v)) ∧ Below w.heap.size w w':=by
 by_cases h100 : 100 < seed.size
 ·have HC : Hid (secretOf seed a b v = ⟨#[]⟩):=zd (by unfold secretOf secretIn; rw [decide_eq_false zz4]; rfl)
  go_enter Tryz.func125,Tryz.ntmps125
  go_wp2_with (go_at_call 48; refine (spec_in _ _ _ _).mono ?_; rintro e2 w2 ⟨rfl,rfl⟩)
  go_ret
  exact ⟨by rw [HC.out]; rfl,Below.refl _ _⟩
 cases ha : inB a 0 15
 ·have HC : Hid (secretOf seed a b v = ⟨#[]⟩):=zd (by unfold secretOf secretIn; rw [ha]; simp)
  go_enter Tryz.func125,Tryz.ntmps125
  go_wp2_with (go_at_call 48; refine (spec_in _ _ _ _).mono ?_; rintro e2 w2 ⟨rfl,rfl⟩)
  go_ret
  exact ⟨by rw [HC.out]; rfl,Below.refl _ _⟩
 cases hb : inB b 0 7
 ·have HC : Hid (secretOf seed a b v = ⟨#[]⟩):=zd (by unfold secretOf secretIn; rw [hb]; simp)
  go_enter Tryz.func125,Tryz.ntmps125
  go_wp2_with (go_at_call 48; refine (spec_in _ _ _ _).mono ?_; rintro e2 w2 ⟨rfl,rfl⟩)
  go_ret
  exact ⟨by rw [HC.out]; rfl,Below.refl _ _⟩
 cases hv : inB v 0 1
 ·have HC : Hid (secretOf seed a b v = ⟨#[]⟩):=zd (by unfold secretOf secretIn; rw [hv]; simp)
  go_enter Tryz.func125,Tryz.ntmps125
  go_wp2_with (go_at_call 48; refine (spec_in _ _ _ _).mono ?_; rintro e2 w2 ⟨rfl,rfl⟩)
  go_ret
  exact ⟨by rw [HC.out]; rfl,Below.refl _ _⟩
 have HC : Hid (secretOf seed a b v = tagHash 5 [seed,secretTx a.toNat b.toNat v.toNat] 16):=zd (by unfold secretOf secretIn; rw [ha,hb,hv,decide_eq_true zz4]; rfl)
 obtain ⟨a,rfl,ha0,ha1⟩:=in_nat ha zz4
 obtain ⟨b,rfl,hb0,hb1⟩:=in_nat hb zz4
 obtain ⟨v,rfl,hv0,hv1⟩:=in_nat hv zz4
 simp only [Int.toNat_natCast] at HC
 have wa : IntKind.u8.wrap (a : Int) = a:=by rw [IntKind.wrap_u8']; omega
 have wb : IntKind.u8.wrap (b : Int) = b:=by rw [IntKind.wrap_u8']; omega
 have wv : IntKind.u8.wrap (v : Int) = v:=by rw [IntKind.wrap_u8']; omega
 have HR0:=zd (fun W : World => show BR (W.alloc (.cells #[.int .u8 (a : Int), .int .u8 (b : Int), .int .u8 (v : Int)] 5)) (some ⟨W.heap.size,0,none⟩) 3 [UInt8.ofNat a,UInt8.ofNat b,UInt8.ofNat v] (fun q => W.heap.size ≤ q) from br_lit W _ _ [UInt8.ofNat a,UInt8.ofNat b,UInt8.ofNat v] (by
  have e1 : a % 256 = a:=zz4
  have e2 : b % 256 = b:=zz4
  have e3 : v % 256 = v:=zz4
  simp [u8c,e1,e2,e3]; try omega))
 go_enter Tryz.func125,Tryz.ntmps125
 go_wp2_with (first | (go_at_call 48; refine (spec_in _ _ _ _).mono ?_; rintro e2 w2 ⟨rfl,rfl⟩) | (go_at_call 127; fail) | (refine wpList_strB rfl _ rfl Tryz.underlying5 Tryz.underlying9 rfl rfl (HR0.out _) ?_))
 refine (spec_TagHash _ 5 zz30 [seed,secretTx a b v] _ _ _ (row_two _ seed (secretTx a b v) hs (ml (Nat.le_of_eq (secretTx_size a b v)) zz4) _ _ zz17) zz17 16 zz30).mono ?_
 rintro e5 w5 ⟨rfl,hb5⟩
 go_wp2
 go_ret
 exact ⟨by rw [HC.out]; rfl,Below.via (Below.via hb5)⟩
end Go.Proofs.YtlfnmbcnehaikaaGreatDoor
namespace Go.Proofs.YtlfnmbcnehaikaaGreatDoor
open Go.RowKit Lay Mk
theorem impl_SigAdd (w : World) (kind : Int) (hkind : I64 kind) (xs : List ByteArray) (A : Option Addr) (cap : Nat) (S : Blks) (hx : Row false w A cap xs S) (hl : xs.length ≤ 1000) (g : Nat) (ys : List ByteArray) (Ao : Option Addr) (co : Nat) (So : Blks) (hg : One w g 29 (.slice Ao ys.length co)) (hco : ys.length ≤ co) (hcm : co ≤ maxLen) (ho : Row true w Ao co ys So) (hSo : ∀ b,So b → g < b) (hyl : ys.length ≤ 1000) (w0 : World) (hT : Tabs w0) (h0 : Below w0.heap.size w0 w) (hg0 : w0.heap.size ≤ g) :
  Calls Tryz.prog 185 #[.int .i64 kind, .slice A xs.length cap, .pointer (some ⟨g,0,none⟩)] w fun e w' => ∃ A' c',e = .returned (.string (cutDigest (tagText kind xs) 16)) ∧ One w' g 29 (.slice A' (ys.length + 1) c') ∧ ys.length + 1 ≤ c' ∧ c' ≤ maxLen ∧ Row true w' A' c' (ys ++ [tagText kind xs]) (fun b => So b ∨ rng w.heap.size w'.heap.size b) ∧ Chg (fun b => b = g ∨ So b) w w':=by
 have htl:=tagText_le kind xs
 go_enter Tryz.func185,Tryz.ntmps185
 go_wp2_with (fail)
 refine (impl_TagText _ kind hkind xs A cap S hx zz4).mono ?_
 rintro e1 w1 ⟨rfl,hb1⟩
 have hg1:=hg.later hb1
 have ho1:=Row.later ho hb1
 have hSg : ¬ So g:=fun h => absurd (hSo g h) (Nat.lt_irrefl _)
 have hgl:=hg.lt
 have hz1:=hb1.size
 have hC1 : Chg (fun b => b = g ∨ So b) w w1:=(Chg.refl _ w).below hb1 (Nat.le_refl _)
 clear hx ho
 obtain ⟨t,ht⟩ : ∃ t,tagText kind xs = t:=⟨_,rfl⟩
 rw [ht] at htl
 simp only [ht]
 have HTX:=zd ht
 clear ht
 have c1:=hg1.cell
 have HT:=zd hT; have H0:=zd h0; have HSo:=zd hSo; have HC1:=zd hC1; have HO1:=zd ho1; have HG1:=zd hg1
 clear hT h0 hSo hC1 ho1 hg1 hg
 go_wp2_with (first | (at_builtin; refine wpList_app (α:=ByteArray) (xs:=ys) rfl _ _ rfl rfl rfl (HO1.out.allocC _) hco hcm rfl rfl (src_newb _ t (show t.size ≤ maxLen from ml htl zz4) _ _ _ (by first | rfl | simp) rfl) (disj_none_ _) zz4 ?_; intro A' cap' w4 h1 h2 h3 h4; have HG4:=zd ((HG1.out.alloc _).chg h4 hSg); have hq4:=HG4.out.cell; have hf4:=HG4.out.frozen; have H3:=zd h3; have H4:=zd h4; clear h3 h4) | (go_at_call 149; have hC4 : Chg (fun b => b = g ∨ So b) w w4:=(HC1.out.alloc _).trans (H4.out.mono (fun b _ hb => .inr hb)); have hC5:=hC4.setCell (p:=⟨g,0,none⟩) (.inl (.inl rfl)) (.slice A' (ys.length + 1) cap'); have hT5:=HT.out.later (H0.out.trans (hC5.to_below H0.out.size (fun b hb => hb.elim (fun e => e ▸ hg0) (fun e => Nat.le_trans hg0 (Nat.le_of_lt (HSo.out b e)))))); refine (impl_CutDigest _ t zz4 16 zz30 hT5).mono ?_; rintro e5 w5 ⟨rfl,hb5⟩))
 have hg5:=(HG4.out.set (.slice A' (ys.length + 1) cap')).later hb5
 have hr5:=Row.later (H3.out.setC (p:=⟨g,0,none⟩) (fun h => by
  rcases h with x | x | x
  ·exact absurd (HSo.out g x) (Nat.lt_irrefl _)
  ·exact x.elim
  ·have hx1 : _ ≤ g:=x.1; rw [World.size_alloc] at hx1; omega) (.slice A' (ys.length + 1) cap')) hb5
 have hC6:=hC5.below hb5 hC5.size
 go_ret
 rw [HTX.out]
 exact ⟨A',cap',rfl,hg5,h1,h2,hr5.mono (fun b hb => by
  rcases hb with x | x | x
  ·exact .inl x
  ·exact x.elim
  ·refine .inr ⟨?_,?_⟩
   ·have hx1:=x.1; rw [World.size_alloc] at hx1; omega
   ·have hx2:=x.2; have hx3:=hb5.size; simp only [World.size_setCell] at hx3; omega),hC6⟩
end Go.Proofs.YtlfnmbcnehaikaaGreatDoor
namespace Go.Proofs.YtlfnmbcnehaikaaGreatDoor
open Go.RowKit Lay Mk
theorem spec_l05Cut (w : World) (t : ByteArray) (ht : t.size ≤ 1048576) (a n : Nat) (hn : n ≤ 8) (h : a + 16 * n ≤ t.size) : Calls Tryz.prog 191 #[.string t, .int .i64 a, .int .i64 n] w (OwnRes (cuts t a n) w):=by
 go_enter Tryz.func191,Tryz.ntmps191
 go_wp2
 go_loopw [7,8] (fun u i wr => ∃ (k : Nat) (A : Option Addr) (c : Nat),k ≤ n ∧ i = .int .i64 k ∧ u = .slice A k c ∧ Hid (Own w wr A c (cuts t a k))) (fun _ i _ => n - (intOf i).toNat)
 case atStart => exact ⟨0,_,_,Nat.zero_le _,rfl,rfl,zd (Own.lit (Below.refl _ _) 9 rfl)⟩
 case round =>
  obtain ⟨k,A,c,hk,rfl,rfl,HO⟩:=hrel
  by_cases hlt : k < n
  ·have hw1 : IntKind.i64.wrap ((k : Int) * 16) = (k : Int) * 16:=by rw [IntWalk.i64_in] <;> omega
   have hw2 : IntKind.i64.wrap ((a : Int) + (k : Int) * 16) = (a : Int) + (k : Int) * 16:=zz16
   have hw3 : IntKind.i64.wrap (((k : Int) + 1) * 16) = ((k : Int) + 1) * 16:=zz16
   have hw4 : IntKind.i64.wrap ((a : Int) + ((k : Int) + 1) * 16) = (a : Int) + ((k : Int) + 1) * 16:=zz16
   have b1 : (a : Int) + (k : Int) * 16 ≤ (a : Int) + ((k : Int) + 1) * 16:=zz4
   have b2 : (a : Int) + ((k : Int) + 1) * 16 ≤ (t.size : Int):=zz4
   have b0 : (0 : Int) ≤ (a : Int) + (k : Int) * 16:=zz4
   have e1 : ((a : Int) + (k : Int) * 16).toNat = a + 16 * k:=zz4
   have e2 : ((a : Int) + ((k : Int) + 1) * 16).toNat = a + 16 * k + 16:=zz4
   obtain ⟨T,hT⟩ : ∃ T,t.extract (a + 16 * k) (a + 16 * k + 16) = T:=⟨_,rfl⟩
   have hTz : T.size = 16:=by rw [← hT,ByteArray.size_extract]; omega
   have HOK : Hid (Flat.ok (α:=ByteArray) T):=zd (show T.size ≤ maxLen by unfold maxLen; omega)
   have HT:=zd hT
   have hln:=cuts_len t a k
   have HLN:=zd hln
   clear hln
   go_wp2_with (at_builtin; go_loud (refine wpList_push (α:=ByteArray) (ys:=[T]) rfl _ _ rfl rfl HLN.out.symm (HO.out.alloc _) rfl rfl (src1 HOK.out rfl (by simp [Flat.cs, *])) zz4 ?_; intro A6 c6 w6 o6 z6))
   go_roundw
   case rel => exact ⟨k + 1,A6,c6,hlt,by go_num,rfl,zd (by rw [cuts,HT.out]; exact o6)⟩
   case measure => simp [intOf]; omega
  ·have hke : k = n:=by omega
   subst hke
   have HLN:=zd (cuts_len t a k)
   go_wp2
   go_ret
   exact OwnRes.mk HO.out rfl HLN.out.symm
end Go.Proofs.YtlfnmbcnehaikaaGreatDoor
namespace Go.Proofs.YtlfnmbcnehaikaaGreatDoor
open Go.RowKit Lay Mk
theorem cuts_extract {t : ByteArray} {a x : Nat} : ∀ {n : Nat},x + a + 16 * n ≤ t.size → cuts (t.extract x t.size) a n = cuts t (x + a) n
 | 0,_ => rfl
 | n + 1,h => by
  rw [cuts,cuts,cuts_extract (n:=n) zz4,ByteArray.extract_extract]
  congr 2
  congr 1 <;> omega
theorem sigAt_extract {t : ByteArray} {x : Nat} (h : t.size = x + 321) (h1 : 0 < (t.extract x t.size).size) (h2 : x < t.size) : sigAt (t.extract x t.size) 0 h1 = sigAt t x h2:=by
 have e0 : (t.extract x t.size)[0] = t[x]:=by rw [ByteArray.getElem_extract]; rfl
 show (⟨((t.extract x t.size)[0].toNat : Int),cuts (t.extract x t.size) 1 8,cuts (t.extract x t.size) 129 8,cuts (t.extract x t.size) 257 4⟩ : Sig) = ⟨(t[x].toNat : Int),cuts t (x + 1) 8,cuts t (x + 129) 8,cuts t (x + 257) 4⟩
 rw [e0,cuts_extract zz4,cuts_extract zz4,cuts_extract zz4]
theorem rest_size {t : ByteArray} {x : Nat} (h : x ≤ t.size) : (t.extract x t.size).size = t.size - x:=by rw [ByteArray.size_extract]; omega
end Go.Proofs.YtlfnmbcnehaikaaGreatDoor
