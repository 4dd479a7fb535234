/- A part of the proof. -/
import Derived.Test.YtgllafgpmenjjaaGreatDoorHChL10xDt
set_option linter.unusedVariables false
set_option linter.unusedSimpArgs false
set_option maxRecDepth 20000
set_option maxHeartbeats 4000000
namespace Go.Proofs.YtgllafgpmenjjaaGreatDoor
open Go.RowKit Lay Mk
structure S8 where
 (a b c d e f g h : Int)
def S8.l (s : S8) : List Int:=[s.a,s.b,s.c,s.d,s.e,s.f,s.g,s.h]
def W32 (x : Int) : Prop:=0 ≤ x ∧ x < 4294967296
structure S8.Ok (s : S8) : Prop where
 a : W32 s.a
 b : W32 s.b
 c : W32 s.c
 d : W32 s.d
 e : W32 s.e
 f : W32 s.f
 g : W32 s.g
 h : W32 s.h
def xr (a b : Int) : Int:=bits .xor .u32 a b
def an (a b : Int) : Int:=bits .and .u32 a b
def ad (a b : Int) : Int:=(a + b) % 4294967296
theorem ad_lt (a b : Int) : W32 (ad a b):=by unfold W32 ad; omega
def sg0 (x : Int) : Int:=xr (xr (rotI 7 x) (rotI 18 x)) (x / 8)
def sg1 (x : Int) : Int:=xr (xr (rotI 17 x) (rotI 19 x)) (x / 1024)
def up0 (x : Int) : Int:=xr (xr (rotI 2 x) (rotI 13 x)) (rotI 22 x)
def up1 (x : Int) : Int:=xr (xr (rotI 6 x) (rotI 11 x)) (rotI 25 x)
def chs (e f g : Int) : Int:=xr (an e f) (an (xr e 4294967295) g)
def maj (a b c : Int) : Int:=xr (xr (an a b) (an a c)) (an b c)
def b32 (b : ByteArray) (i : Nat) : Int:=(b.data.getD i 0).toNat
def wordOf (a b c d : Int) : Int:=bits .or .u32 (bits .or .u32 (bits .or .u32 (IntKind.u32.wrap (IntKind.u32.wrap a * 16777216)) (IntKind.u32.wrap (IntKind.u32.wrap b * 65536))) (IntKind.u32.wrap (IntKind.u32.wrap c * 256))) (IntKind.u32.wrap d)
def word (b : ByteArray) (i : Nat) : Int:=wordOf (b32 b (4 * i)) (b32 b (4 * i + 1)) (b32 b (4 * i + 2)) (b32 b (4 * i + 3))
def wsum (a b c d : Int) : Int:=(a + b + c + d) % 4294967296
theorem wsum_lt (a b c d : Int) : W32 (wsum a b c d):=by unfold W32 wsum; omega
def wnext (l : List Int) (i : Nat) : Int:=wsum (l.getD (i - 16) 0) (sg0 (l.getD (i - 15) 0)) (l.getD (i - 7) 0) (sg1 (l.getD (i - 2) 0))
def sch (b : ByteArray) : Nat → List Int
 | 0 => []
 | i + 1 => sch b i ++ [if i < 16 then word b i else wnext (sch b i) i]
def tmpT (s : S8) (k w : Int) : Int:=s.h + up1 s.e + chs s.e s.f s.g + k + w
def tmpU (s : S8) : Int:=up0 s.a + maj s.a s.b s.c
def rnd (s : S8) (k w : Int) : S8:=⟨ad (tmpT s k w) (tmpU s),s.a,s.b,s.c,ad s.d (tmpT s k w),s.e,s.f,s.g⟩
def shaKeys : List Int:=[1116352408,1899447441,3049323471,3921009573,961987163,1508970993,2453635748,2870763221,3624381080,310598401,607225278,1426881987,1925078388,2162078206,2614888103,3248222580,3835390401,4022224774,264347078,604807628,770255983,1249150122,1555081692,1996064986,2554220882,2821834349,2952996808,3210313671,3336571891,3584528711,113926993,338241895,666307205,773529912,1294757372,1396182291,1695183700,1986661051,2177026350,2456956037,2730485921,2820302411,3259730800,3345764771,3516065817,3600352804,4094571909,275423344,430227734,506948616,659060556,883997877,958139571,1322822218,1537002063,1747873779,1955562222,2024104815,2227730452,2361852424,2428436474,2756734187,3204031479,3329325298]
def shaFirst : S8:=⟨1779033703,3144134277,1013904242,2773480762,1359893119,2600822924,528734635,1541459225⟩
def rounds (s : S8) (ws : List Int) : Nat → S8
 | 0 => s
 | i + 1 => rnd (rounds s ws i) (shaKeys.getD i 0) (ws.getD i 0)
def adds (s t : S8) : S8:=⟨ad s.a t.a,ad s.b t.b,ad s.c t.c,ad s.d t.d,ad s.e t.e,ad s.f t.f,ad s.g t.g,ad s.h t.h⟩
def comp (s : S8) (b : ByteArray) : S8:=adds s (rounds s (sch b 64) 64)
theorem adds_ok (s t : S8) : (adds s t).Ok:=⟨ad_lt _ _,ad_lt _ _,ad_lt _ _,ad_lt _ _,ad_lt _ _,ad_lt _ _,ad_lt _ _,ad_lt _ _⟩
theorem comp_ok (s : S8) (b : ByteArray) : (comp s b).Ok:=adds_ok _ _
theorem first_ok : shaFirst.Ok:=by constructor <;> (unfold W32 shaFirst; dsimp only; omega)
theorem rnd_ok {s : S8} (h : s.Ok) (k w : Int) : (rnd s k w).Ok:=⟨ad_lt _ _,h.a,h.b,h.c,ad_lt _ _,h.e,h.f,h.g⟩
theorem rounds_ok {s : S8} (h : s.Ok) (ws : List Int) : ∀ i,(rounds s ws i).Ok
 | 0 => h
 | i + 1 => rnd_ok (rounds_ok h ws i) _ _
theorem sch_len (b : ByteArray) : ∀ i,(sch b i).length = i
 | 0 => rfl
 | i + 1 => by simp [sch,sch_len b i]
theorem wnext_lt (l : List Int) (i : Nat) : W32 (wnext l i):=wsum_lt _ _ _ _
theorem word_lt (b : ByteArray) (i : Nat) : W32 (word b i):=by unfold word wordOf; exact bits32_lt _ _ _
theorem sch_lt (b : ByteArray) : ∀ i, ∀ x ∈ sch b i,W32 x
 | 0 => by simp [sch]
 | i + 1 => by
  intro x hx
  rcases List.mem_append.1 hx with hx | hx
  ·exact sch_lt b i x hx
  ·have hx : x = if i < 16 then word b i else wnext (sch b i) i:=by simpa using hx
   subst hx
   split
   ·exact word_lt _ _
   ·exact wnext_lt _ _
theorem keys_len : shaKeys.length = 64:=rfl
theorem keys_lt : ∀ i,i < 64 → W32 (shaKeys.getD i 0):=by
 have : ∀ x ∈ shaKeys,W32 x:=by unfold shaKeys W32; simp
 intro i hi
 rw [List.getD_eq_getElem?_getD,List.getElem?_eq_getElem (by rw [keys_len]; exact hi)]
 exact this _ (List.getElem_mem _)
def padz (l : List Int) (n : Nat) : List Int:=l ++ List.replicate (n - l.length) 0
theorem padz_len {l : List Int} {n : Nat} (h : l.length ≤ n) : (padz l n).length = n:=by simp [padz]; omega
theorem padz_get {l : List Int} {n i : Nat} (h : i < l.length) : (padz l n).getD i 0 = l.getD i 0:=by
 simp [padz,List.getD_eq_getElem?_getD,List.getElem?_append_left h]
theorem padz_set {l : List Int} {n : Nat} (h : l.length < n) (x : Int) : (padz l n).set l.length x = padz (l ++ [x]) n:=by
 unfold padz
 rw [List.set_append_right _ _ (Nat.le_refl _),Nat.sub_self]
 obtain ⟨m,hm⟩ : ∃ m,n - l.length = m + 1:=⟨n - l.length - 1,zz8⟩
 rw [hm,List.replicate_succ,List.set_cons_zero]
 simp only [List.append_assoc,List.cons_append,List.nil_append,List.length_append,List.length_cons,List.length_nil]
 rw [show n - (l.length + (0 + 1)) = m by omega]
theorem sch_put (b : ByteArray) {k : Nat} (hk : k < 64) (x : Int) : (padz (sch b k) 64).set k x = padz (sch b k ++ [x]) 64:=by
 have:=padz_set (l:=sch b k) (n:=64) (by rw [sch_len]; exact hk) x
 rwa [sch_len] at this
theorem sch_low (b : ByteArray) {k : Nat} (hk : k < 16) : sch b (k + 1) = sch b k ++ [word b k]:=by simp only [sch,hk,if_true]
theorem sch_high (b : ByteArray) {k : Nat} (hk : ¬ k < 16) : sch b (k + 1) = sch b k ++ [wnext (sch b k) k]:=by simp only [sch,hk,if_false]
theorem b32_at {b : ByteArray} {i : Nat} (h : i < b.size) : (b[i].toNat : Int) = b32 b i:=by
 have : b.data.getD i 0 = b[i]:=by unfold Array.getD; rw [dif_pos (show i < b.data.size from h)]; rfl
 unfold b32; rw [this]
theorem word_at {b : ByteArray} {k : Nat} (h : 4 * k + 3 < b.size) : wordOf b[4 * k].toNat b[4 * k + 1].toNat b[4 * k + 2].toNat b[4 * k + 3].toNat = word b k:=by
 rw [b32_at,b32_at,b32_at,b32_at]; rfl
theorem getD_get {l : List Int} {i : Nat} (h : i < l.length) : l[i] = l.getD i 0:=by rw [List.getD_eq_getElem?_getD,List.getElem?_eq_getElem h]; rfl
def addk (s r : S8) (k : Nat) : List Int:=(adds s r).l.take k ++ s.l.drop k
theorem addk_len (s r : S8) (k : Nat) : (addk s r k).length = 8:=by simp [addk,S8.l]; omega
theorem addk_all (s r : S8) : addk s r 8 = (adds s r).l:=rfl
theorem addk_get {s r : S8} {k : Nat} (h : k < 8) : (addk s r k).getD k 0 = s.l.getD k 0:=by
 rcases (show k = 0 ∨ k = 1 ∨ k = 2 ∨ k = 3 ∨ k = 4 ∨ k = 5 ∨ k = 6 ∨ k = 7 by omega) with rfl | rfl | rfl | rfl | rfl | rfl | rfl | rfl <;> rfl
theorem addk_set {s r : S8} {k : Nat} (h : k < 8) : (addk s r k).set k ((s.l.getD k 0 + r.l.getD k 0) % 4294967296) = addk s r (k + 1):=by
 rcases (show k = 0 ∨ k = 1 ∨ k = 2 ∨ k = 3 ∨ k = 4 ∨ k = 5 ∨ k = 6 ∨ k = 7 by omega) with rfl | rfl | rfl | rfl | rfl | rfl | rfl | rfl <;> rfl
end Go.Proofs.YtgllafgpmenjjaaGreatDoor
namespace Go.Proofs.YtgllafgpmenjjaaGreatDoor
open Go.RowKit Lay Mk
structure Own {α : Type} [Lay α] (w0 w : World) (A : Option Addr) (c : Nat) (L : List α) : Prop where
 row : Row true w A c L (nw w0.heap.size)
 le : L.length ≤ c
 cm : c ≤ maxLen
 bl : Below w0.heap.size w0 w
theorem Own.size {α : Type} [Lay α] {w0 w : World} {A : Option Addr} {c : Nat} {L : List α} (h : Own w0 w A c L) : w0.heap.size ≤ w.heap.size:=h.bl.size
theorem Own.start {α : Type} [Lay α] {w0 w : World} (h : Below w0.heap.size w0 w) : Own (α:=α) w0 w none 0 []:=⟨row_nil _ _,zz32,zz69,h⟩
theorem Own.lit {α : Type} [Lay α] {w0 w : World} (h : Below w0.heap.size w0 w) (t : TypeId) (ht : t = ty α) : Own (α:=α) w0 (w.alloc (.cells #[] t)) (some ⟨w.heap.size,0,none⟩) 0 [] :=
 ⟨row_lit0 w t _ ht h.size,zz32,zz69,h.alloc h.size _⟩
theorem Own.litAt {α : Type} [Lay α] {w0 w : World} (h : Below w0.heap.size w0 w) (t : TypeId) (ht : t = ty α) {b : Nat} (hb : b = w.heap.size) : Own (α:=α) w0 (w.alloc (.cells #[] t)) (some ⟨b,0,none⟩) 0 []:=by subst hb; exact Own.lit h t ht
theorem Own.later {α : Type} [Lay α] {w0 w w' : World} {A : Option Addr} {c : Nat} {L : List α} (h : Own w0 w A c L) (hb : Below w.heap.size w w') : Own w0 w' A c L :=
 ⟨Row.later h.row hb,h.le,h.cm,h.bl.trans (hb.mono h.bl.size)⟩
theorem Own.alloc {α : Type} [Lay α] {w0 w : World} {A : Option Addr} {c : Nat} {L : List α} (h : Own w0 w A c L) (o : Obj) : Own w0 (w.alloc o) A c L:=h.later ((Below.refl _ _).alloc (Nat.le_refl _) _)
theorem Own.drew {α : Type} [Lay α] {w0 w : World} {A : Option Addr} {c : Nat} {L : List α} (h : Own w0 w A c L) : Own w0 w.drew A c L:=h.later ((Below.refl _ _).drew)
theorem Own.from {α : Type} [Lay α] {w0 w1 w : World} {A : Option Addr} {c : Nat} {L : List α} (h : Own w1 w A c L) (hb : Below w0.heap.size w0 w1) : Own w0 w A c L :=
 ⟨h.row.mono (fun _ x => Nat.le_trans hb.size x),h.le,h.cm,hb.trans (h.bl.mono hb.size)⟩
theorem Own.rng {α : Type} [Lay α] {w0 w : World} {A : Option Addr} {c : Nat} {L : List α} (h : Own w0 w A c L) : Row true w A c L (rng w0.heap.size w.heap.size):=to_rng h.row
theorem Own.weak {α : Type} [Lay α] {w0 w : World} {A : Option Addr} {c : Nat} {L : List α} (h : Own w0 w A c L) : Row false w A c L (nw w0.heap.size):=h.row.weak
theorem wpList_push {α : Type} [Lay α] [SlTy α] [Inf α] {ops : Array Oper} {rest : List Oper} {o : Oper} {a : Act} {Q : Exit → Act → World → Prop} {w0 w : World} (hgd : o.guard = none) (s x : Operand)
  (ho : o.op = .call { callee:=.builtin .append,args:=#[s,x],argTypes:=#[SlTy.st α,SlTy.st α] })
  {A A2 : Option Addr} {c c2 k m : Nat} {L ys : List α} (hs : a.eval s = .slice A k c) (hk : k = L.length) (own : Own w0 w A c L)
  (hx : a.eval x = .slice A2 m c2) (hm : m = ys.length) (hsrc : Src w A2 ys none_) (hb : k + m ≤ 4000000000)
  (h : ∀ A' c' w',Own w0 w' A' c' (L ++ ys) → w.heap.size ≤ w'.heap.size → wpList Tryz.prog ops Q rest (a.put o.dst (.slice A' (k + m) c')) w') :
  wpList Tryz.prog ops Q (o :: rest) a w:=by
 subst hk; subst hm
 refine wpList_app (α:=α) hgd s x ho hs rfl own.row own.le own.cm hx rfl hsrc (disj_none_ _) hb ?_
 intro A' c' w' h1 h2 h3 h4
 exact h A' c' w' ⟨row_og h3 (fun b hb => Nat.le_trans own.size hb),by rw [List.length_append]; exact h1,h2,own.bl.trans (h4.to_below own.size (fun b hb => hb))⟩ h4.size
theorem step_push {α : Type} [Lay α] [SlTy α] [Inf α] {ops : Array Oper} {o : Oper} {a : Act} {K : Act → World → Prop} {Q : Exit → Act → World → Prop} {E : Prop} {w0 w : World} (hgd : o.guard = none) (s x : Operand)
  (ho : o.op = .call { callee:=.builtin .append,args:=#[s,x],argTypes:=#[SlTy.st α,SlTy.st α] })
  {A A2 : Option Addr} {c c2 k m : Nat} {L ys : List α} (hs : a.eval s = .slice A k c) (hk : k = L.length) (own : Own w0 w A c L)
  (hx : a.eval x = .slice A2 m c2) (hm : m = ys.length) (hsrc : Src w A2 ys none_) (hb : k + m ≤ 4000000000)
  (h : ∀ A' c' w',Own w0 w' A' c' (L ++ ys) → Below w0.heap.size w0 w' → K (a.put o.dst (.slice A' (k + m) c')) w') :
  if Region.wanted o (yielded ops a.tmps) = true then Oper.wp Tryz.prog o a w K Q else E:=by
 subst hk; subst hm
 refine step_app (α:=α) hgd s x ho hs rfl own.row own.le own.cm hx rfl hsrc (disj_none_ _) hb ?_
 intro A' c' w' h1 h2 h3 h4
 have hw : Own w0 w' A' c' (L ++ ys):=⟨row_og h3 (fun b hb => Nat.le_trans own.size hb),by rw [List.length_append]; exact h1,h2,own.bl.trans (h4.to_below own.size (fun b hb => hb))⟩
 exact h A' c' w' hw hw.bl
theorem src1 {α : Type} [Lay α] [Flat α] {w : World} {y : α} (ok : Flat.ok y) {cs : Array Value} {t : TypeId} {b : Nat} (hb : b = w.heap.size) (h : cs.toList = Flat.cs y) : Src (w.alloc (.cells cs t)) (some ⟨b,0,none⟩) [y] none_:=src_newb w y ok cs t b hb h
def OwnRes {α : Type} [Lay α] (L : List α) (w : World) (e : Ending) (w' : World) : Prop:=∃ A c,e = .returned (.slice A L.length c) ∧ Own w w' A c L
theorem OwnRes.mk {α : Type} [Lay α] {L L' : List α} {w w' : World} {A : Option Addr} {c n : Nat} (h : Own w w' A c L) (hL : L' = L) (hn : n = L.length) : OwnRes L' w (.returned (.slice A n c)) w':=by subst hL; subst hn; exact ⟨A,c,rfl,h⟩
end Go.Proofs.YtgllafgpmenjjaaGreatDoor
namespace Go.Proofs.YtgllafgpmenjjaaGreatDoor
open Go.RowKit Lay Mk
def nameIs (n : ByteArray) (x : Leaf) : Bool:=decide (x.name = n)
def leafGet (xs : List Leaf) (n : ByteArray) : ByteArray × Bool:=match xs.find? (nameIs n) with | some x => (x.value,true) | none => (⟨#[]⟩,false)
theorem leafGet_hit {xs : List Leaf} {n : ByteArray} {x : Leaf} (h : xs.find? (nameIs n) = some x) : leafGet xs n = (x.value,true):=by simp [leafGet,h]
theorem leafGet_miss {xs : List Leaf} {n : ByteArray} (h : xs.find? (nameIs n) = none) : leafGet xs n = (⟨#[]⟩,false):=by simp [leafGet,h]
theorem impl_LeafGet (w : World) (xs : List Leaf) (A0 : Option Addr) (cap0 : Nat) (S : Blks) (hx : Row false w A0 cap0 xs S) (hl : xs.length ≤ 2000000000) (nm : ByteArray) (_hn : nm.size ≤ maxLen) : Calls Tryz.prog 151 #[.slice A0 xs.length cap0, .string nm] w fun e w' => e = .returned (.tuple #[.string (leafGet xs nm).1, .bool (leafGet xs nm).2]) ∧ Below w.heap.size w w':=by
 go_enter Tryz.func151,Tryz.ntmps151
 go_wp2
 go_loopw [10] (fun i wr => ∃ k : Nat,k ≤ xs.length ∧ i = .int .i64 k ∧ Hid ((xs.take k).find? (nameIs nm) = none) ∧ Below w.heap.size w wr) (fun i _ => xs.length - (intOf i).toNat)
 case atStart => exact ⟨0,Nat.zero_le _,rfl,zd rfl,Below.refl _ _⟩
 case round =>
  obtain ⟨k,hk,rfl,hf,hb⟩:=hrel
  have hz:=hb.size
  by_cases hlt : k < xs.length
  ·obtain ⟨b1,o1,e1,hl1,c0,c1,t0,t1⟩:=Row.atLeaf hx hlt
   subst e1
   replace c0:=(hb.cell (p:=⟨b1,o1 + k * 2,none⟩) hl1).trans c0
   replace c1:=(hb.cell (p:=⟨b1,o1 + k * 2 + 1,none⟩) hl1).trans c1
   have hl2 : b1 < wr.heap.size:=Nat.lt_of_lt_of_le hl1 hz
   have hH:=zd (find_hit hlt hf.out)
   have hN:=zd (find_next hlt hf.out)
   obtain ⟨x,hxx⟩ : ∃ x,xs[k] = x:=⟨_,rfl⟩
   rw [hxx] at c0 c1 t0 t1 hN hH
   clear hxx
   by_cases hc : x.name = nm
   ·have HR:=zd (leafGet_hit (hH.out (by simpa [nameIs] using hc)))
    have hsb:=str_eq hc
    clear hc
    go_wp2
    go_ret2
    exact ⟨by rw [HR.out]; rfl,(hb.alloc hz _)⟩
   ·have HN:=zd (hN.out (by simpa [nameIs] using hc))
    have hsb:=str_ne hc
    clear hc
    go_wp2
    go_roundw
    case rel => exact ⟨k + 1,zz8,by go_num,HN,(hb.alloc hz _)⟩
    case measure => simp [intOf]; omega
  ·have hke : k = xs.length:=by omega
   subst hke
   have HR:=zd (leafGet_miss (find_all hf.out))
   go_wp2
   go_ret2
   exact ⟨by rw [HR.out]; rfl,hb⟩
theorem spec_LeafGet (w : World) (xs : List Leaf) (A0 : Option Addr) (cap0 : Nat) (S : Blks) (hx : Row false w A0 cap0 xs S) (hl : xs.length ≤ 2000000000) (nm : ByteArray) (_hn : nm.size ≤ maxLen) : Calls Tryz.prog 71 #[.slice A0 xs.length cap0, .string nm] w fun e w' => e = .returned (.tuple #[.string (leafGet xs nm).1, .bool (leafGet xs nm).2]) ∧ Below w.heap.size w w':=by
 go_enter Tryz.func71,Tryz.ntmps71
 go_wp2
 go_loopw [6] (fun i wr => ∃ k : Nat,k ≤ xs.length ∧ i = .int .i64 k ∧ Hid ((xs.take k).find? (nameIs nm) = none) ∧ Below w.heap.size w wr) (fun i _ => xs.length - (intOf i).toNat)
 case atStart => exact ⟨0,Nat.zero_le _,rfl,zd rfl,Below.refl _ _⟩
 case round =>
  obtain ⟨k,hk,rfl,hf,hb⟩:=hrel
  have hz:=hb.size
  by_cases hlt : k < xs.length
  ·obtain ⟨b1,o1,e1,hl1,c0,c1,t0,t1⟩:=Row.atLeaf hx hlt
   subst e1
   replace c0:=(hb.cell (p:=⟨b1,o1 + k * 2,none⟩) hl1).trans c0
   replace c1:=(hb.cell (p:=⟨b1,o1 + k * 2 + 1,none⟩) hl1).trans c1
   have hl2 : b1 < wr.heap.size:=Nat.lt_of_lt_of_le hl1 hz
   have hH:=zd (find_hit hlt hf.out)
   have hN:=zd (find_next hlt hf.out)
   obtain ⟨x,hxx⟩ : ∃ x,xs[k] = x:=⟨_,rfl⟩
   rw [hxx] at c0 c1 t0 t1 hN hH
   clear hxx
   by_cases hc : x.name = nm
   ·have HR:=zd (leafGet_hit (hH.out (by simpa [nameIs] using hc)))
    have hsb:=str_eq hc
    clear hc
    go_wp2
    go_ret2
    exact ⟨by rw [HR.out]; rfl,hb⟩
   ·have HN:=zd (hN.out (by simpa [nameIs] using hc))
    have hsb:=str_ne hc
    clear hc
    go_wp2
    go_roundw
    case rel => exact ⟨k + 1,zz8,by go_num,HN,hb⟩
    case measure => simp [intOf]; omega
  ·have hke : k = xs.length:=by omega
   subst hke
   have HR:=zd (leafGet_miss (find_all hf.out))
   go_wp2
   go_ret2
   exact ⟨by rw [HR.out]; rfl,hb⟩
end Go.Proofs.YtgllafgpmenjjaaGreatDoor
