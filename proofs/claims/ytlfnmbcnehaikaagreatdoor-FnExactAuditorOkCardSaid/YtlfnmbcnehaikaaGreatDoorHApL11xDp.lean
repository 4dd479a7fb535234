/- A part of the proof. -/
import Derived.Test.YtlfnmbcnehaikaaGreatDoorHApL10xDt
set_option linter.unusedVariables false
set_option linter.unusedSimpArgs false
set_option maxRecDepth 20000
set_option maxHeartbeats 8000000
namespace Go.Proofs.YtlfnmbcnehaikaaGreatDoor
open Go.RowKit Lay Mk
structure S8 where
 (a b c d e f g h : Int)
def S8.l (s : S8) : List Int:=[s.a,s.b,s.c,s.d,s.e,s.f,s.g,s.h]
def W32 (x : Int) : Prop:=0 ≤ x ∧ x < 4294967296
structure S8.Ok (s : S8) : Prop where
 a : W32 s.a
 b : W32 s.b
 c : W32 s.c
 d : W32 s.d
 e : W32 s.e
 f : W32 s.f
 g : W32 s.g
 h : W32 s.h
def xr (a b : Int) : Int:=bits .xor .u32 a b
def an (a b : Int) : Int:=bits .and .u32 a b
def ad (a b : Int) : Int:=(a + b) % 4294967296
theorem ad_lt (a b : Int) : W32 (ad a b):=by unfold W32 ad; omega
def sg0 (x : Int) : Int:=xr (xr (rotI 7 x) (rotI 18 x)) (x / 8)
def sg1 (x : Int) : Int:=xr (xr (rotI 17 x) (rotI 19 x)) (x / 1024)
def up0 (x : Int) : Int:=xr (xr (rotI 2 x) (rotI 13 x)) (rotI 22 x)
def up1 (x : Int) : Int:=xr (xr (rotI 6 x) (rotI 11 x)) (rotI 25 x)
def chs (e f g : Int) : Int:=xr (an e f) (an (xr e 4294967295) g)
def maj (a b c : Int) : Int:=xr (xr (an a b) (an a c)) (an b c)
def b32 (b : ByteArray) (i : Nat) : Int:=(b.data.getD i 0).toNat
def wordOf (a b c d : Int) : Int:=bits .or .u32 (bits .or .u32 (bits .or .u32 (IntKind.u32.wrap (IntKind.u32.wrap a * 16777216)) (IntKind.u32.wrap (IntKind.u32.wrap b * 65536))) (IntKind.u32.wrap (IntKind.u32.wrap c * 256))) (IntKind.u32.wrap d)
def word (b : ByteArray) (i : Nat) : Int:=wordOf (b32 b (4 * i)) (b32 b (4 * i + 1)) (b32 b (4 * i + 2)) (b32 b (4 * i + 3))
def wsum (a b c d : Int) : Int:=(a + b + c + d) % 4294967296
theorem wsum_lt (a b c d : Int) : W32 (wsum a b c d):=by unfold W32 wsum; omega
def wnext (l : List Int) (i : Nat) : Int:=wsum (l.getD (i - 16) 0) (sg0 (l.getD (i - 15) 0)) (l.getD (i - 7) 0) (sg1 (l.getD (i - 2) 0))
def sch (b : ByteArray) : Nat → List Int
 | 0 => []
 | i + 1 => sch b i ++ [if i < 16 then word b i else wnext (sch b i) i]
def tmpT (s : S8) (k w : Int) : Int:=s.h + up1 s.e + chs s.e s.f s.g + k + w
def tmpU (s : S8) : Int:=up0 s.a + maj s.a s.b s.c
def rnd (s : S8) (k w : Int) : S8:=⟨ad (tmpT s k w) (tmpU s),s.a,s.b,s.c,ad s.d (tmpT s k w),s.e,s.f,s.g⟩
def shaKeys : List Int:=[1116352408,1899447441,3049323471,3921009573,961987163,1508970993,2453635748,2870763221,3624381080,310598401,607225278,1426881987,1925078388,2162078206,2614888103,3248222580,3835390401,4022224774,264347078,604807628,770255983,1249150122,1555081692,1996064986,2554220882,2821834349,2952996808,3210313671,3336571891,3584528711,113926993,338241895,666307205,773529912,1294757372,1396182291,1695183700,1986661051,2177026350,2456956037,2730485921,2820302411,3259730800,3345764771,3516065817,3600352804,4094571909,275423344,430227734,506948616,659060556,883997877,958139571,1322822218,1537002063,1747873779,1955562222,2024104815,2227730452,2361852424,2428436474,2756734187,3204031479,3329325298]
def shaFirst : S8:=⟨1779033703,3144134277,1013904242,2773480762,1359893119,2600822924,528734635,1541459225⟩
def rounds (s : S8) (ws : List Int) : Nat → S8
 | 0 => s
 | i + 1 => rnd (rounds s ws i) (shaKeys.getD i 0) (ws.getD i 0)
def adds (s t : S8) : S8:=⟨ad s.a t.a,ad s.b t.b,ad s.c t.c,ad s.d t.d,ad s.e t.e,ad s.f t.f,ad s.g t.g,ad s.h t.h⟩
def comp (s : S8) (b : ByteArray) : S8:=adds s (rounds s (sch b 64) 64)
theorem adds_ok (s t : S8) : (adds s t).Ok:=⟨ad_lt _ _,ad_lt _ _,ad_lt _ _,ad_lt _ _,ad_lt _ _,ad_lt _ _,ad_lt _ _,ad_lt _ _⟩
theorem comp_ok (s : S8) (b : ByteArray) : (comp s b).Ok:=adds_ok _ _
theorem first_ok : shaFirst.Ok:=by constructor <;> (unfold W32 shaFirst; dsimp only; omega)
theorem rnd_ok {s : S8} (h : s.Ok) (k w : Int) : (rnd s k w).Ok:=⟨ad_lt _ _,h.a,h.b,h.c,ad_lt _ _,h.e,h.f,h.g⟩
theorem rounds_ok {s : S8} (h : s.Ok) (ws : List Int) : ∀ i,(rounds s ws i).Ok
 | 0 => h
 | i + 1 => rnd_ok (rounds_ok h ws i) _ _
theorem sch_len (b : ByteArray) : ∀ i,(sch b i).length = i
 | 0 => rfl
 | i + 1 => by simp [sch,sch_len b i]
theorem wnext_lt (l : List Int) (i : Nat) : W32 (wnext l i):=wsum_lt _ _ _ _
theorem word_lt (b : ByteArray) (i : Nat) : W32 (word b i):=by unfold word wordOf; exact bits32_lt _ _ _
theorem sch_lt (b : ByteArray) : ∀ i, ∀ x ∈ sch b i,W32 x
 | 0 => by simp [sch]
 | i + 1 => by
  intro x hx
  rcases List.mem_append.1 hx with hx | hx
  ·exact sch_lt b i x hx
  ·have hx : x = if i < 16 then word b i else wnext (sch b i) i:=by simpa using hx
   subst hx
   split
   ·exact word_lt _ _
   ·exact wnext_lt _ _
theorem keys_len : shaKeys.length = 64:=rfl
theorem keys_lt : ∀ i,i < 64 → W32 (shaKeys.getD i 0):=by
 have : ∀ x ∈ shaKeys,W32 x:=by unfold shaKeys W32; simp
 intro i hi
 rw [List.getD_eq_getElem?_getD,List.getElem?_eq_getElem (by rw [keys_len]; exact hi)]
 exact this _ (List.getElem_mem _)
def padz (l : List Int) (n : Nat) : List Int:=l ++ List.replicate (n - l.length) 0
theorem padz_len {l : List Int} {n : Nat} (h : l.length ≤ n) : (padz l n).length = n:=by simp [padz]; omega
theorem padz_get {l : List Int} {n i : Nat} (h : i < l.length) : (padz l n).getD i 0 = l.getD i 0:=by
 simp [padz,List.getD_eq_getElem?_getD,List.getElem?_append_left h]
theorem padz_set {l : List Int} {n : Nat} (h : l.length < n) (x : Int) : (padz l n).set l.length x = padz (l ++ [x]) n:=by
 unfold padz
 rw [List.set_append_right _ _ (Nat.le_refl _),Nat.sub_self]
 obtain ⟨m,hm⟩ : ∃ m,n - l.length = m + 1:=⟨n - l.length - 1,zz4⟩
 rw [hm,List.replicate_succ,List.set_cons_zero]
 simp only [List.append_assoc,List.cons_append,List.nil_append,List.length_append,List.length_cons,List.length_nil]
 rw [show n - (l.length + (0 + 1)) = m by omega]
theorem sch_put (b : ByteArray) {k : Nat} (hk : k < 64) (x : Int) : (padz (sch b k) 64).set k x = padz (sch b k ++ [x]) 64:=by
 have:=padz_set (l:=sch b k) (n:=64) (by rw [sch_len]; exact hk) x
 rwa [sch_len] at this
theorem sch_low (b : ByteArray) {k : Nat} (hk : k < 16) : sch b (k + 1) = sch b k ++ [word b k]:=by simp only [sch,hk,if_true]
theorem sch_high (b : ByteArray) {k : Nat} (hk : ¬ k < 16) : sch b (k + 1) = sch b k ++ [wnext (sch b k) k]:=by simp only [sch,hk,if_false]
theorem b32_at {b : ByteArray} {i : Nat} (h : i < b.size) : (b[i].toNat : Int) = b32 b i:=by
 have : b.data.getD i 0 = b[i]:=by unfold Array.getD; rw [dif_pos (show i < b.data.size from h)]; rfl
 unfold b32; rw [this]
theorem word_at {b : ByteArray} {k : Nat} (h : 4 * k + 3 < b.size) : wordOf b[4 * k].toNat b[4 * k + 1].toNat b[4 * k + 2].toNat b[4 * k + 3].toNat = word b k:=by
 rw [b32_at,b32_at,b32_at,b32_at]; rfl
theorem getD_get {l : List Int} {i : Nat} (h : i < l.length) : l[i] = l.getD i 0:=by rw [List.getD_eq_getElem?_getD,List.getElem?_eq_getElem h]; rfl
def addk (s r : S8) (k : Nat) : List Int:=(adds s r).l.take k ++ s.l.drop k
theorem addk_len (s r : S8) (k : Nat) : (addk s r k).length = 8:=by simp [addk,S8.l]; omega
theorem addk_all (s r : S8) : addk s r 8 = (adds s r).l:=rfl
theorem addk_get {s r : S8} {k : Nat} (h : k < 8) : (addk s r k).getD k 0 = s.l.getD k 0:=by
 rcases (show k = 0 ∨ k = 1 ∨ k = 2 ∨ k = 3 ∨ k = 4 ∨ k = 5 ∨ k = 6 ∨ k = 7 by omega) with rfl | rfl | rfl | rfl | rfl | rfl | rfl | rfl <;> rfl
theorem addk_set {s r : S8} {k : Nat} (h : k < 8) : (addk s r k).set k ((s.l.getD k 0 + r.l.getD k 0) % 4294967296) = addk s r (k + 1):=by
 rcases (show k = 0 ∨ k = 1 ∨ k = 2 ∨ k = 3 ∨ k = 4 ∨ k = 5 ∨ k = 6 ∨ k = 7 by omega) with rfl | rfl | rfl | rfl | rfl | rfl | rfl | rfl <;> rfl
end Go.Proofs.YtlfnmbcnehaikaaGreatDoor
namespace Go.Proofs.YtlfnmbcnehaikaaGreatDoor
open Go.RowKit Lay Mk
structure Own {α : Type} [Lay α] (w0 w : World) (A : Option Addr) (c : Nat) (L : List α) : Prop where
 row : Row true w A c L (nw w0.heap.size)
 le : L.length ≤ c
 cm : c ≤ maxLen
 bl : Below w0.heap.size w0 w
theorem Own.size {α : Type} [Lay α] {w0 w : World} {A : Option Addr} {c : Nat} {L : List α} (h : Own w0 w A c L) : w0.heap.size ≤ w.heap.size:=h.bl.size
theorem Own.start {α : Type} [Lay α] {w0 w : World} (h : Below w0.heap.size w0 w) : Own (α:=α) w0 w none 0 []:=⟨row_nil _ _,zz17,zz44,h⟩
theorem Own.lit {α : Type} [Lay α] {w0 w : World} (h : Below w0.heap.size w0 w) (t : TypeId) (ht : t = ty α) : Own (α:=α) w0 (w.alloc (.cells #[] t)) (some ⟨w.heap.size,0,none⟩) 0 [] :=
 ⟨row_lit0 w t _ ht h.size,zz17,zz44,h.alloc h.size _⟩
theorem Own.litAt {α : Type} [Lay α] {w0 w : World} (h : Below w0.heap.size w0 w) (t : TypeId) (ht : t = ty α) {b : Nat} (hb : b = w.heap.size) : Own (α:=α) w0 (w.alloc (.cells #[] t)) (some ⟨b,0,none⟩) 0 []:=by subst hb; exact Own.lit h t ht
theorem Own.later {α : Type} [Lay α] {w0 w w' : World} {A : Option Addr} {c : Nat} {L : List α} (h : Own w0 w A c L) (hb : Below w.heap.size w w') : Own w0 w' A c L :=
 ⟨Row.later h.row hb,h.le,h.cm,h.bl.trans (hb.mono h.bl.size)⟩
theorem Own.alloc {α : Type} [Lay α] {w0 w : World} {A : Option Addr} {c : Nat} {L : List α} (h : Own w0 w A c L) (o : Obj) : Own w0 (w.alloc o) A c L:=h.later ((Below.refl _ _).alloc (Nat.le_refl _) _)
theorem Own.drew {α : Type} [Lay α] {w0 w : World} {A : Option Addr} {c : Nat} {L : List α} (h : Own w0 w A c L) : Own w0 w.drew A c L:=h.later ((Below.refl _ _).drew)
theorem Own.from {α : Type} [Lay α] {w0 w1 w : World} {A : Option Addr} {c : Nat} {L : List α} (h : Own w1 w A c L) (hb : Below w0.heap.size w0 w1) : Own w0 w A c L :=
 ⟨h.row.mono (fun _ x => Nat.le_trans hb.size x),h.le,h.cm,hb.trans (h.bl.mono hb.size)⟩
theorem Own.rng {α : Type} [Lay α] {w0 w : World} {A : Option Addr} {c : Nat} {L : List α} (h : Own w0 w A c L) : Row true w A c L (rng w0.heap.size w.heap.size):=to_rng h.row
theorem Own.weak {α : Type} [Lay α] {w0 w : World} {A : Option Addr} {c : Nat} {L : List α} (h : Own w0 w A c L) : Row false w A c L (nw w0.heap.size):=h.row.weak
theorem wpList_push {α : Type} [Lay α] [SlTy α] [Inf α] {ops : Array Oper} {rest : List Oper} {o : Oper} {a : Act} {Q : Exit → Act → World → Prop} {w0 w : World} (hgd : o.guard = none) (s x : Operand)
  (ho : o.op = .call { callee:=.builtin .append,args:=#[s,x],argTypes:=#[SlTy.st α,SlTy.st α] })
  {A A2 : Option Addr} {c c2 k m : Nat} {L ys : List α} (hs : a.eval s = .slice A k c) (hk : k = L.length) (own : Own w0 w A c L)
  (hx : a.eval x = .slice A2 m c2) (hm : m = ys.length) (hsrc : Src w A2 ys none_) (hb : k + m ≤ 4000000000)
  (h : ∀ A' c' w',Own w0 w' A' c' (L ++ ys) → w.heap.size ≤ w'.heap.size → wpList Tryz.prog ops Q rest (a.put o.dst (.slice A' (k + m) c')) w') :
  wpList Tryz.prog ops Q (o :: rest) a w:=by
 subst hk; subst hm
 refine wpList_app (α:=α) hgd s x ho hs rfl own.row own.le own.cm hx rfl hsrc (disj_none_ _) hb ?_
 intro A' c' w' h1 h2 h3 h4
 exact h A' c' w' ⟨row_og h3 (fun b hb => Nat.le_trans own.size hb),by rw [List.length_append]; exact h1,h2,own.bl.trans (h4.to_below own.size (fun b hb => hb))⟩ h4.size
theorem srcR {α : Type} [Lay α] (w : World) (y : α) (cs : Array Value) (t : TypeId) (b : Nat) (hb : b = w.heap.size) {T : Blks} (h : rd true w cs.toList y T) : Src (w.alloc (.cells cs t)) (some ⟨b,0,none⟩) [y] (fun b => T b ∧ b < w.heap.size):=by
 subst hb
 intro _
 refine ⟨_,_,rfl,fun i => if i = 0 then (fun b => T b ∧ b < w.heap.size) else none_,fun i b x => ?_,fun _ i j hij b x y => ?_,fun i hi => ?_⟩
 ·by_cases hi : i = 0
  ·simp only [hi,if_true] at x; exact x
  ·simp only [hi,if_false] at x; exact x.elim
 ·by_cases hi : i = 0
  ·simp only [show j ≠ 0 by omega,if_false] at y; exact y.elim
  ·simp only [hi,if_false] at x; exact x.elim
 ·have hi : i = 0:=by simpa using hi
  subst hi
  refine ⟨cs.toList,fun j u hu => ?_,?_⟩
  ·rw [World.cell?_alloc_mark]; simpa using hu
  ·exact Lay.keep (Lay.tight h) (fun b x => Below.heap_alloc _ _ _ x.2)
theorem step_push {α : Type} [Lay α] [SlTy α] [Inf α] {ops : Array Oper} {o : Oper} {a : Act} {K : Act → World → Prop} {Q : Exit → Act → World → Prop} {E : Prop} {w0 w : World} (hgd : o.guard = none) (s x : Operand)
  (ho : o.op = .call { callee:=.builtin .append,args:=#[s,x],argTypes:=#[SlTy.st α,SlTy.st α] })
  {A A2 : Option Addr} {c c2 k m : Nat} {L ys : List α} (hs : a.eval s = .slice A k c) (hk : k = L.length) (own : Own w0 w A c L)
  (hx : a.eval x = .slice A2 m c2) (hm : m = ys.length) (hsrc : Src w A2 ys none_) (hb : k + m ≤ 4000000000)
  (h : ∀ A' c' w',Own w0 w' A' c' (L ++ ys) → Below w0.heap.size w0 w' → K (a.put o.dst (.slice A' (k + m) c')) w') :
  if Region.wanted o (yielded ops a.tmps) = true then Oper.wp Tryz.prog o a w K Q else E:=by
 subst hk; subst hm
 refine step_app (α:=α) hgd s x ho hs rfl own.row own.le own.cm hx rfl hsrc (disj_none_ _) hb ?_
 intro A' c' w' h1 h2 h3 h4
 have hw : Own w0 w' A' c' (L ++ ys):=⟨row_og h3 (fun b hb => Nat.le_trans own.size hb),by rw [List.length_append]; exact h1,h2,own.bl.trans (h4.to_below own.size (fun b hb => hb))⟩
 exact h A' c' w' hw hw.bl
theorem src1 {α : Type} [Lay α] [Flat α] {w : World} {y : α} (ok : Flat.ok y) {cs : Array Value} {t : TypeId} {b : Nat} (hb : b = w.heap.size) (h : cs.toList = Flat.cs y) : Src (w.alloc (.cells cs t)) (some ⟨b,0,none⟩) [y] none_:=src_newb w y ok cs t b hb h
def OwnRes {α : Type} [Lay α] (L : List α) (w : World) (e : Ending) (w' : World) : Prop:=∃ A c,e = .returned (.slice A L.length c) ∧ Own w w' A c L
theorem OwnRes.mk {α : Type} [Lay α] {L L' : List α} {w w' : World} {A : Option Addr} {c n : Nat} (h : Own w w' A c L) (hL : L' = L) (hn : n = L.length) : OwnRes L' w (.returned (.slice A n c)) w':=by subst hL; subst hn; exact ⟨A,c,rfl,h⟩
end Go.Proofs.YtlfnmbcnehaikaaGreatDoor
namespace Go.Proofs.YtlfnmbcnehaikaaGreatDoor
open Go.RowKit Lay Mk
def own (b lo hi : Nat) : Blks:=fun y => y = b ∨ (lo ≤ y ∧ y < hi)
theorem impl_copyTexts (w : World) (xs : List ByteArray) (A0 : Option Addr) (cap0 : Nat) (S : Blks) (hx : Row false w A0 cap0 xs S) (hl : xs.length ≤ 2000000000) : Calls Tryz.prog 81 #[.slice A0 xs.length cap0] w fun e w' => ∃ A' cap',e = .returned (.slice A' xs.length cap') ∧ xs.length ≤ cap' ∧ cap' ≤ maxLen ∧ Row true w' A' cap' xs (rng w.heap.size w'.heap.size) ∧ Below w.heap.size w w':=by
 go_enter Tryz.func81,Tryz.ntmps81
 go_wp2_with (at_builtin; refine wpList_app (α:=ByteArray) rfl _ _ rfl rfl rfl (row_nil _ none_) zz17 zz44 rfl rfl (Src.flat hx) (disj_none_ _) zz23 ?_; intro A' cap' w' h1 h2 h3 h4)
 go_ret
 exact ⟨A',cap',ret_slice zz17,by simpa using h1,h2,by simpa using row_up h3 (B:=w.heap.size) (fun b h => h.elim) (fun b h => h.elim) (Nat.le_refl _),h4.to_below (Nat.le_refl _) (fun b h => h.elim)⟩
end Go.Proofs.YtlfnmbcnehaikaaGreatDoor
namespace Go.Proofs.YtlfnmbcnehaikaaGreatDoor
open Go.RowKit Lay Mk
theorem Row.chgS {α : Type} [Lay α] {m : Bool} {w w' : World} {A : Option Addr} {cap : Nat} {xs : List α} {S T : Blks} (h4 : Chg S w w') (hr : Row m w A cap xs T) (hd : ∀ b,T b → b < w.heap.size → ¬ S b) : Row m w' A cap xs T :=
 (hr.tight.keep (h4.same (fun b x => hd b x.1 x.2) (fun b x => x.2))).mono (fun b x => x.1)
structure Two {α β : Type} [Lay α] [Lay β] (B : Nat) (w : World) (A : Option Addr) (c : Nat) (L : List α) (A' : Option Addr) (c' : Nat) (M : List β) : Prop where
 ex : ∃ U V : Blks,Row true w A c L U ∧ Row true w A' c' M V ∧ (∀ b,U b → V b → False) ∧ (∀ b,U b → B ≤ b) ∧ (∀ b,V b → B ≤ b)
 l1 : L.length ≤ c
 m1 : c ≤ maxLen
 l2 : M.length ≤ c'
 m2 : c' ≤ maxLen
theorem Two.start {α β : Type} [Lay α] [Lay β] (B : Nat) (w : World) : Two (α:=α) (β:=β) B w none 0 [] none 0 [] :=
 ⟨⟨none_,none_,row_nil _ _,row_nil _ _,fun _ h => h.elim,fun _ h => h.elim,fun _ h => h.elim⟩,Nat.le_refl _,zz44,Nat.le_refl _,zz44⟩
theorem Two.later {α β : Type} [Lay α] [Lay β] {B : Nat} {w w' : World} {A A' : Option Addr} {c c' : Nat} {L : List α} {M : List β} (h : Two B w A c L A' c' M) (hb : Below w.heap.size w w') : Two B w' A c L A' c' M:=by
 obtain ⟨U,V,h1,h2,h3,h4,h5⟩:=h.ex
 exact ⟨⟨U,V,Row.later h1 hb,Row.later h2 hb,h3,h4,h5⟩,h.l1,h.m1,h.l2,h.m2⟩
theorem Two.swap {α β : Type} [Lay α] [Lay β] {B : Nat} {w : World} {A A' : Option Addr} {c c' : Nat} {L : List α} {M : List β} (h : Two B w A c L A' c' M) : Two B w A' c' M A c L:=by
 obtain ⟨U,V,h1,h2,h3,h4,h5⟩:=h.ex
 exact ⟨⟨V,U,h2,h1,fun b x y => h3 b y x,h5,h4⟩,h.l2,h.m2,h.l1,h.m1⟩
theorem Two.fst {α β : Type} [Lay α] [Lay β] {B : Nat} {w : World} {A A' : Option Addr} {c c' : Nat} {L : List α} {M : List β} (h : Two B w A c L A' c' M) : Row false w A c L (nw B):=by
 obtain ⟨U,V,h1,h2,h3,h4,h5⟩:=h.ex
 exact Row.weak (h1.mono h4)
end Go.Proofs.YtlfnmbcnehaikaaGreatDoor
namespace Go.Proofs.YtlfnmbcnehaikaaGreatDoor
open Go.RowKit Lay Mk
def rvV (o : Option (Nat × Nat)) : Value:=match o with
 | none => .tuple #[.int .i64 0, .int .i64 0, .bool false]
 | some (n,x) => .tuple #[.int .i64 n, .int .i64 x, .bool true]
theorem ret_rv {n x : Nat} {i j : Int} (h1 : i = n) (h2 : j = x) : Ending.returned (.tuple #[.int .i64 i, .int .i64 j, .bool true]) = Ending.returned (rvV (some (n,x))):=by rw [h1,h2]; rfl
theorem impl_ReadVar (w : World) (t : ByteArray) (ht : t.size ≤ 1048576) (a : Nat) (ha : a ≤ t.size) : Calls Tryz.prog 178 #[.string t, .int .i64 a] w fun e w' => e = .returned (rvV (rdVar t a)) ∧ w = w':=by
 have hin : inB a 0 t.size = true:=by unfold inB; rw [decide_eq_true_iff]; omega
 have H0 : Hid (rdVar t a = rdGo t a 5 0 0):=zd rfl
 obtain ⟨R,hR⟩ : ∃ R,rdVar t a = R:=⟨_,rfl⟩
 rw [hR] at H0 ⊢
 clear hR
 go_enter Tryz.func178,Tryz.ntmps178
 go_wp2_with (go_at_call 62; refine (impl_in _ _ _ _).mono ?_; rintro e w' ⟨rfl,rfl⟩)
 clear hin
 go_loop [7,8] (fun n i => ∃ k m : Nat,k ≤ 5 ∧ a + k ≤ t.size ∧ n = .int .i64 m ∧ i = .int .i64 k ∧ m < 128 ^ k ∧ Hid (R = rdGo t a (5 - k) k m)) (fun _ i => 5 - (intOf i).toNat)
 case atStart => exact ⟨0,0,zz4,zz4,rfl,rfl,zz44,H0⟩
 case round =>
  obtain ⟨k,m,hk,hak,rfl,rfl,hm,hR⟩:=hrel
  clear H0
  rcases (show k = 5 ∨ k = 4 ∨ k = 3 ∨ k = 2 ∨ k = 1 ∨ k = 0 by omega) with rfl | rfl | rfl | rfl | rfl | rfl
  ·have HE : Hid (R = none):=zd (hR.out.trans (rdGo_end _ _ _ _))
   clear hR
   go_wp2
   refine bodyPost_ret (v:=.tuple #[.int .i64 0, .int .i64 0, .bool false]) (by simp [results,Tryz.results178,go_sem, *]) rfl ?_
   exact ⟨zz40,rfl⟩
  ·replace hm : m < 268435456:=hm
   have hwk : IntKind.i64.wrap ((a : Int) + 4) = (a : Int) + 4:=zz16
   have hwl : IntKind.i64.wrap ((a : Int) + 4 + 1) = (a : Int) + 4 + 1:=zz16
   by_cases hlt : a + 4 < t.size
   rotate_left
   ·have HE : Hid (R = none):=zd (hR.out.trans (rdGo_out hlt))
    clear hR
    go_wp2
    refine bodyPost_ret (v:=.tuple #[.int .i64 0, .int .i64 0, .bool false]) (by simp [results,Tryz.results178,go_sem, *]) rfl ?_
    exact ⟨zz40,rfl⟩
   have HM:=zd (fun h => hR.out.trans (rdGo_more (f:=0) (n:=m) hlt h))
   have HB:=zd (fun h1 h2 => hR.out.trans (rdGo_bad (f:=0) (n:=m) hlt h1 h2))
   have HG:=zd (fun h1 h2 => hR.out.trans (rdGo_good (f:=0) (n:=m) hlt h1 h2))
   have hb : t[a + 4].toNat < 256:=t[a + 4].toNat_lt
   have hlz : (a : Int) + 4 < (t.size : Int):=zz4
   clear hR
   by_cases h128 : t[a + 4].toNat < 128
   rotate_left
   ·have HE:=zd (HM.out h128)
    clear HM HB HG
    go_wp2
    go_round
    case rel => exact ⟨5,m + t[a + 4].toNat % 128 * 268435456,zz4,zz4,congrArg (Value.int .i64) zz4,rfl,(show m + t[a + 4].toNat % 128 * 268435456 < 34359738368 by omega),zd HE.out⟩
    case measure => first | (simp [intOf]; done) | (simp [intOf]; omega)
   clear HM
   by_cases hn : 1000000000 < m + t[a + 4].toNat % 128 * 268435456
   ·have HE : Hid (R = none):=zd (HB.out h128 (.inr hn))
    clear HB HG
    have dn : decide ((1000000000 : Int) < (m : Int) + (t[a + 4].toNat : Int) % 128 * 268435456) = true:=zz47
    rcases Nat.eq_zero_or_pos t[a + 4].toNat with h0 | h0
    ·have d0 : ((t[a + 4].toNat : Int) == 0) = true:=by rw [beq_iff_eq]; omega
     go_wp2
     all_goals (refine bodyPost_ret (v:=.tuple #[.int .i64 0, .int .i64 0, .bool false]) (by simp [results,Tryz.results178,go_sem, *]) rfl ?_; exact ⟨zz40,rfl⟩)
    ·have d0 : ((t[a + 4].toNat : Int) == 0) = false:=by rw [beq_eq_false_iff_ne]; omega
     go_wp2
     all_goals (refine bodyPost_ret (v:=.tuple #[.int .i64 0, .int .i64 0, .bool false]) (by simp [results,Tryz.results178,go_sem, *]) rfl ?_; exact ⟨zz40,rfl⟩)
   have dn : decide ((1000000000 : Int) < (m : Int) + (t[a + 4].toNat : Int) % 128 * 268435456) = false:=zz21
   rcases Nat.eq_zero_or_pos t[a + 4].toNat with h0 | h0
   ·have d0 : ((t[a + 4].toNat : Int) == 0) = true:=by rw [beq_iff_eq]; omega
    have HE : Hid (R = none):=zd (HB.out h128 (.inl ⟨h0,zz4⟩))
    clear HB HG
    go_wp2
    all_goals (refine bodyPost_ret (v:=.tuple #[.int .i64 0, .int .i64 0, .bool false]) (by simp [results,Tryz.results178,go_sem, *]) rfl ?_; exact ⟨zz40,rfl⟩)
   ·have d0 : ((t[a + 4].toNat : Int) == 0) = false:=by rw [beq_eq_false_iff_ne]; omega
    have HE:=zd (HG.out h128 zz38)
    clear HB HG
    go_wp2
    refine bodyPost_ret (v:=.tuple #[.int .i64 ((m : Int) + (t[a + 4].toNat : Int) % 128 * 268435456), .int .i64 ((a : Int) + 4 + 1), .bool true]) (by simp [results,Tryz.results178,go_sem, *]) rfl ?_
    exact ⟨by rw [HE.out]; exact ret_rv zz4 zz4,rfl⟩
  ·replace hm : m < 2097152:=hm
   have hwk : IntKind.i64.wrap ((a : Int) + 3) = (a : Int) + 3:=zz16
   have hwl : IntKind.i64.wrap ((a : Int) + 3 + 1) = (a : Int) + 3 + 1:=zz16
   by_cases hlt : a + 3 < t.size
   rotate_left
   ·have HE : Hid (R = none):=zd (hR.out.trans (rdGo_out hlt))
    clear hR
    go_wp2
    refine bodyPost_ret (v:=.tuple #[.int .i64 0, .int .i64 0, .bool false]) (by simp [results,Tryz.results178,go_sem, *]) rfl ?_
    exact ⟨zz40,rfl⟩
   have HM:=zd (fun h => hR.out.trans (rdGo_more (f:=1) (n:=m) hlt h))
   have HB:=zd (fun h1 h2 => hR.out.trans (rdGo_bad (f:=1) (n:=m) hlt h1 h2))
   have HG:=zd (fun h1 h2 => hR.out.trans (rdGo_good (f:=1) (n:=m) hlt h1 h2))
   have hb : t[a + 3].toNat < 256:=t[a + 3].toNat_lt
   have hlz : (a : Int) + 3 < (t.size : Int):=zz4
   clear hR
   by_cases h128 : t[a + 3].toNat < 128
   rotate_left
   ·have HE:=zd (HM.out h128)
    clear HM HB HG
    go_wp2
    go_round
    case rel => exact ⟨4,m + t[a + 3].toNat % 128 * 2097152,zz4,zz4,congrArg (Value.int .i64) zz4,rfl,(show m + t[a + 3].toNat % 128 * 2097152 < 268435456 by omega),zd HE.out⟩
    case measure => first | (simp [intOf]; done) | (simp [intOf]; omega)
   clear HM
   by_cases hn : 1000000000 < m + t[a + 3].toNat % 128 * 2097152
   ·exfalso; omega
   have dn : decide ((1000000000 : Int) < (m : Int) + (t[a + 3].toNat : Int) % 128 * 2097152) = false:=zz21
   rcases Nat.eq_zero_or_pos t[a + 3].toNat with h0 | h0
   ·have d0 : ((t[a + 3].toNat : Int) == 0) = true:=by rw [beq_iff_eq]; omega
    have HE : Hid (R = none):=zd (HB.out h128 (.inl ⟨h0,zz4⟩))
    clear HB HG
    go_wp2
    all_goals (refine bodyPost_ret (v:=.tuple #[.int .i64 0, .int .i64 0, .bool false]) (by simp [results,Tryz.results178,go_sem, *]) rfl ?_; exact ⟨zz40,rfl⟩)
   ·have d0 : ((t[a + 3].toNat : Int) == 0) = false:=by rw [beq_eq_false_iff_ne]; omega
    have HE:=zd (HG.out h128 zz38)
    clear HB HG
    go_wp2
    refine bodyPost_ret (v:=.tuple #[.int .i64 ((m : Int) + (t[a + 3].toNat : Int) % 128 * 2097152), .int .i64 ((a : Int) + 3 + 1), .bool true]) (by simp [results,Tryz.results178,go_sem, *]) rfl ?_
    exact ⟨by rw [HE.out]; exact ret_rv zz4 zz4,rfl⟩
  ·replace hm : m < 16384:=hm
   have hwk : IntKind.i64.wrap ((a : Int) + 2) = (a : Int) + 2:=zz16
   have hwl : IntKind.i64.wrap ((a : Int) + 2 + 1) = (a : Int) + 2 + 1:=zz16
   by_cases hlt : a + 2 < t.size
   rotate_left
   ·have HE : Hid (R = none):=zd (hR.out.trans (rdGo_out hlt))
    clear hR
    go_wp2
    refine bodyPost_ret (v:=.tuple #[.int .i64 0, .int .i64 0, .bool false]) (by simp [results,Tryz.results178,go_sem, *]) rfl ?_
    exact ⟨zz40,rfl⟩
   have HM:=zd (fun h => hR.out.trans (rdGo_more (f:=2) (n:=m) hlt h))
   have HB:=zd (fun h1 h2 => hR.out.trans (rdGo_bad (f:=2) (n:=m) hlt h1 h2))
   have HG:=zd (fun h1 h2 => hR.out.trans (rdGo_good (f:=2) (n:=m) hlt h1 h2))
   have hb : t[a + 2].toNat < 256:=t[a + 2].toNat_lt
   have hlz : (a : Int) + 2 < (t.size : Int):=zz4
   clear hR
   by_cases h128 : t[a + 2].toNat < 128
   rotate_left
   ·have HE:=zd (HM.out h128)
    clear HM HB HG
    go_wp2
    go_round
    case rel => exact ⟨3,m + t[a + 2].toNat % 128 * 16384,zz4,zz4,congrArg (Value.int .i64) zz4,rfl,(show m + t[a + 2].toNat % 128 * 16384 < 2097152 by omega),zd HE.out⟩
    case measure => first | (simp [intOf]; done) | (simp [intOf]; omega)
   clear HM
   by_cases hn : 1000000000 < m + t[a + 2].toNat % 128 * 16384
   ·exfalso; omega
   have dn : decide ((1000000000 : Int) < (m : Int) + (t[a + 2].toNat : Int) % 128 * 16384) = false:=zz21
   rcases Nat.eq_zero_or_pos t[a + 2].toNat with h0 | h0
   ·have d0 : ((t[a + 2].toNat : Int) == 0) = true:=by rw [beq_iff_eq]; omega
    have HE : Hid (R = none):=zd (HB.out h128 (.inl ⟨h0,zz4⟩))
    clear HB HG
    go_wp2
    all_goals (refine bodyPost_ret (v:=.tuple #[.int .i64 0, .int .i64 0, .bool false]) (by simp [results,Tryz.results178,go_sem, *]) rfl ?_; exact ⟨zz40,rfl⟩)
   ·have d0 : ((t[a + 2].toNat : Int) == 0) = false:=by rw [beq_eq_false_iff_ne]; omega
    have HE:=zd (HG.out h128 zz38)
    clear HB HG
    go_wp2
    refine bodyPost_ret (v:=.tuple #[.int .i64 ((m : Int) + (t[a + 2].toNat : Int) % 128 * 16384), .int .i64 ((a : Int) + 2 + 1), .bool true]) (by simp [results,Tryz.results178,go_sem, *]) rfl ?_
    exact ⟨by rw [HE.out]; exact ret_rv zz4 zz4,rfl⟩
  ·replace hm : m < 128:=hm
   have hwk : IntKind.i64.wrap ((a : Int) + 1) = (a : Int) + 1:=zz16
   have hwl : IntKind.i64.wrap ((a : Int) + 1 + 1) = (a : Int) + 1 + 1:=zz16
   by_cases hlt : a + 1 < t.size
   rotate_left
   ·have HE : Hid (R = none):=zd (hR.out.trans (rdGo_out hlt))
    clear hR
    go_wp2
    refine bodyPost_ret (v:=.tuple #[.int .i64 0, .int .i64 0, .bool false]) (by simp [results,Tryz.results178,go_sem, *]) rfl ?_
    exact ⟨zz40,rfl⟩
   have HM:=zd (fun h => hR.out.trans (rdGo_more (f:=3) (n:=m) hlt h))
   have HB:=zd (fun h1 h2 => hR.out.trans (rdGo_bad (f:=3) (n:=m) hlt h1 h2))
   have HG:=zd (fun h1 h2 => hR.out.trans (rdGo_good (f:=3) (n:=m) hlt h1 h2))
   have hb : t[a + 1].toNat < 256:=t[a + 1].toNat_lt
   have hlz : (a : Int) + 1 < (t.size : Int):=zz4
   clear hR
   by_cases h128 : t[a + 1].toNat < 128
   rotate_left
   ·have HE:=zd (HM.out h128)
    clear HM HB HG
    go_wp2
    go_round
    case rel => exact ⟨2,m + t[a + 1].toNat % 128 * 128,zz4,zz4,congrArg (Value.int .i64) zz4,rfl,(show m + t[a + 1].toNat % 128 * 128 < 16384 by omega),zd HE.out⟩
    case measure => first | (simp [intOf]; done) | (simp [intOf]; omega)
   clear HM
   by_cases hn : 1000000000 < m + t[a + 1].toNat % 128 * 128
   ·exfalso; omega
   have dn : decide ((1000000000 : Int) < (m : Int) + (t[a + 1].toNat : Int) % 128 * 128) = false:=zz21
   rcases Nat.eq_zero_or_pos t[a + 1].toNat with h0 | h0
   ·have d0 : ((t[a + 1].toNat : Int) == 0) = true:=by rw [beq_iff_eq]; omega
    have HE : Hid (R = none):=zd (HB.out h128 (.inl ⟨h0,zz4⟩))
    clear HB HG
    go_wp2
    all_goals (refine bodyPost_ret (v:=.tuple #[.int .i64 0, .int .i64 0, .bool false]) (by simp [results,Tryz.results178,go_sem, *]) rfl ?_; exact ⟨zz40,rfl⟩)
   ·have d0 : ((t[a + 1].toNat : Int) == 0) = false:=by rw [beq_eq_false_iff_ne]; omega
    have HE:=zd (HG.out h128 zz38)
    clear HB HG
    go_wp2
    refine bodyPost_ret (v:=.tuple #[.int .i64 ((m : Int) + (t[a + 1].toNat : Int) % 128 * 128), .int .i64 ((a : Int) + 1 + 1), .bool true]) (by simp [results,Tryz.results178,go_sem, *]) rfl ?_
    exact ⟨by rw [HE.out]; exact ret_rv zz4 zz4,rfl⟩
  ·obtain rfl : m = 0:=by have : m < 1:=hm; omega
   have hwl : IntKind.i64.wrap ((a : Int) + 1) = (a : Int) + 1:=zz16
   by_cases hlt : a < t.size
   rotate_left
   ·have HE : Hid (R = none):=zd (hR.out.trans (rdGo_out hlt))
    clear hR
    go_wp2
    refine bodyPost_ret (v:=.tuple #[.int .i64 0, .int .i64 0, .bool false]) (by simp [results,Tryz.results178,go_sem, *]) rfl ?_
    exact ⟨zz40,rfl⟩
   have HM:=zd (fun (h : ¬ t[a].toNat < 128) => hR.out.trans (rdGo_more (f:=4) (k:=0) (n:=0) hlt h))
   have HB:=zd (fun (h1 : t[a].toNat < 128) (h2 : (t[a].toNat = 0 ∧ 0 < 0) ∨ 1000000000 < 0 + t[a].toNat % 128 * 1) => hR.out.trans (rdGo_bad (f:=4) (k:=0) (n:=0) hlt h1 h2))
   have HG:=zd (fun (h1 : t[a].toNat < 128) (h2 : ¬ ((t[a].toNat = 0 ∧ 0 < 0) ∨ 1000000000 < 0 + t[a].toNat % 128 * 1)) => hR.out.trans (rdGo_good (f:=4) (k:=0) (n:=0) hlt h1 h2))
   have hb : t[a].toNat < 256:=t[a].toNat_lt
   have hlz : (a : Int) < (t.size : Int):=zz4
   clear hR
   by_cases h128 : t[a].toNat < 128
   rotate_left
   ·have HE:=zd (HM.out h128)
    clear HM HB HG
    go_wp2
    go_round
    case rel => exact ⟨1,0 + t[a].toNat % 128 * 1,zz4,zz4,congrArg (Value.int .i64) zz4,rfl,(show 0 + t[a].toNat % 128 * 1 < 128 by omega),zd HE.out⟩
    case measure => first | (simp [intOf]; done) | (simp [intOf]; omega)
   clear HM
   by_cases hn : 1000000000 < 0 + t[a].toNat % 128 * 1
   ·exfalso; omega
   have dn : decide ((1000000000 : Int) < (t[a].toNat : Int) % 128) = false:=zz21
   rcases Nat.eq_zero_or_pos t[a].toNat with h0 | h0
   ·have d0 : ((t[a].toNat : Int) == 0) = true:=by rw [beq_iff_eq]; omega
    have HE:=zd (HG.out h128 zz38)
    clear HB HG
    go_wp2
    refine bodyPost_ret (v:=.tuple #[.int .i64 ((t[a].toNat : Int) % 128), .int .i64 ((a : Int) + 1), .bool true]) (by simp [results,Tryz.results178,go_sem, *]) rfl ?_
    exact ⟨by rw [HE.out]; exact ret_rv (show _ = ((0 + t[a].toNat % 128 * 1 : Nat) : Int) by omega) zz4,rfl⟩
   ·have d0 : ((t[a].toNat : Int) == 0) = false:=by rw [beq_eq_false_iff_ne]; omega
    have HE:=zd (HG.out h128 zz38)
    clear HB HG
    go_wp2
    refine bodyPost_ret (v:=.tuple #[.int .i64 ((t[a].toNat : Int) % 128), .int .i64 ((a : Int) + 1), .bool true]) (by simp [results,Tryz.results178,go_sem, *]) rfl ?_
    exact ⟨by rw [HE.out]; exact ret_rv (show _ = ((0 + t[a].toNat % 128 * 1 : Nat) : Int) by omega) zz4,rfl⟩
end Go.Proofs.YtlfnmbcnehaikaaGreatDoor
