/- A part of the proof: what the laws need of it. -/
import Derived.Test.YtlfnmbcnehaikaaGreatDoorHRaL10xDt
import Derived.Test.YtlfnmbcnehaikaaGreatDoorHRaL8xRd
import Derived.Test.YtlfnmbcnehaikaaGreatDoorHRaL9xAr
import Derived.Laws.BitsAllLaws
import Derived.Test.YtlfnmbcnehaikaaGreatDoorHRaL6xOq
import Derived.Test.YtlfnmbcnehaikaaGreatDoorHRaL7xLw
set_option linter.unusedVariables false
set_option linter.unusedSimpArgs false
set_option linter.unusedVariables false
set_option linter.unusedSimpArgs false
namespace Go.Proofs.YtlfnmbcnehaikaaGreatDoor
open Go.RowKit Lay Mk
structure S8 where
  (a b c d e f g h : Int)
def S8.l (s : S8) : List Int := [s.a, s.b, s.c, s.d, s.e, s.f, s.g, s.h]
def W32 (x : Int) : Prop := 0 ≤ x ∧ x < 4294967296
structure S8.Ok (s : S8) : Prop where
  a : W32 s.a
  b : W32 s.b
  c : W32 s.c
  d : W32 s.d
  e : W32 s.e
  f : W32 s.f
  g : W32 s.g
  h : W32 s.h
def xr (a b : Int) : Int := bits .xor .u32 a b
def an (a b : Int) : Int := bits .and .u32 a b
def ad (a b : Int) : Int := (a + b) % 4294967296
theorem ad_lt (a b : Int) : W32 (ad a b) := by unfold W32 ad; omega
def sg0 (x : Int) : Int := xr (xr (rotI 7 x) (rotI 18 x)) (x / 8)
def sg1 (x : Int) : Int := xr (xr (rotI 17 x) (rotI 19 x)) (x / 1024)
def up0 (x : Int) : Int := xr (xr (rotI 2 x) (rotI 13 x)) (rotI 22 x)
def up1 (x : Int) : Int := xr (xr (rotI 6 x) (rotI 11 x)) (rotI 25 x)
def chs (e f g : Int) : Int := xr (an e f) (an (xr e 4294967295) g)
def maj (a b c : Int) : Int := xr (xr (an a b) (an a c)) (an b c)
def b32 (b : ByteArray) (i : Nat) : Int := (b.data.getD i 0).toNat
def wordOf (a b c d : Int) : Int := bits .or .u32 (bits .or .u32 (bits .or .u32 (IntKind.u32.wrap (IntKind.u32.wrap a * 16777216)) (IntKind.u32.wrap (IntKind.u32.wrap b * 65536))) (IntKind.u32.wrap (IntKind.u32.wrap c * 256))) (IntKind.u32.wrap d)
def word (b : ByteArray) (i : Nat) : Int := wordOf (b32 b (4 * i)) (b32 b (4 * i + 1)) (b32 b (4 * i + 2)) (b32 b (4 * i + 3))
def wsum (a b c d : Int) : Int := (a + b + c + d) % 4294967296
theorem wsum_lt (a b c d : Int) : W32 (wsum a b c d) := by unfold W32 wsum; omega
def wnext (l : List Int) (i : Nat) : Int := wsum (l.getD (i - 16) 0) (sg0 (l.getD (i - 15) 0)) (l.getD (i - 7) 0) (sg1 (l.getD (i - 2) 0))
def sch (b : ByteArray) : Nat → List Int
  | 0 => []
  | i + 1 => sch b i ++ [if i < 16 then word b i else wnext (sch b i) i]
def tmpT (s : S8) (k w : Int) : Int := s.h + up1 s.e + chs s.e s.f s.g + k + w
def tmpU (s : S8) : Int := up0 s.a + maj s.a s.b s.c
def rnd (s : S8) (k w : Int) : S8 := ⟨ad (tmpT s k w) (tmpU s), s.a, s.b, s.c, ad s.d (tmpT s k w), s.e, s.f, s.g⟩
def shaKeys : List Int := [1116352408, 1899447441, 3049323471, 3921009573, 961987163, 1508970993, 2453635748, 2870763221, 3624381080, 310598401, 607225278, 1426881987, 1925078388, 2162078206, 2614888103, 3248222580, 3835390401, 4022224774, 264347078, 604807628, 770255983, 1249150122, 1555081692, 1996064986, 2554220882, 2821834349, 2952996808, 3210313671, 3336571891, 3584528711, 113926993, 338241895, 666307205, 773529912, 1294757372, 1396182291, 1695183700, 1986661051, 2177026350, 2456956037, 2730485921, 2820302411, 3259730800, 3345764771, 3516065817, 3600352804, 4094571909, 275423344, 430227734, 506948616, 659060556, 883997877, 958139571, 1322822218, 1537002063, 1747873779, 1955562222, 2024104815, 2227730452, 2361852424, 2428436474, 2756734187, 3204031479, 3329325298]
def shaFirst : S8 := ⟨1779033703, 3144134277, 1013904242, 2773480762, 1359893119, 2600822924, 528734635, 1541459225⟩
def rounds (s : S8) (ws : List Int) : Nat → S8
  | 0 => s
  | i + 1 => rnd (rounds s ws i) (shaKeys.getD i 0) (ws.getD i 0)
def adds (s t : S8) : S8 := ⟨ad s.a t.a, ad s.b t.b, ad s.c t.c, ad s.d t.d, ad s.e t.e, ad s.f t.f, ad s.g t.g, ad s.h t.h⟩
def comp (s : S8) (b : ByteArray) : S8 := adds s (rounds s (sch b 64) 64)
theorem adds_ok (s t : S8) : (adds s t).Ok := ⟨ad_lt _ _, ad_lt _ _, ad_lt _ _, ad_lt _ _, ad_lt _ _, ad_lt _ _, ad_lt _ _, ad_lt _ _⟩
theorem comp_ok (s : S8) (b : ByteArray) : (comp s b).Ok := adds_ok _ _
theorem first_ok : shaFirst.Ok := by constructor <;> (unfold W32 shaFirst; dsimp only; omega)
theorem rnd_ok {s : S8} (h : s.Ok) (k w : Int) : (rnd s k w).Ok := ⟨ad_lt _ _, h.a, h.b, h.c, ad_lt _ _, h.e, h.f, h.g⟩
theorem rounds_ok {s : S8} (h : s.Ok) (ws : List Int) : ∀ i, (rounds s ws i).Ok
  | 0 => h
  | i + 1 => rnd_ok (rounds_ok h ws i) _ _
theorem sch_len (b : ByteArray) : ∀ i, (sch b i).length = i
  | 0 => rfl
  | i + 1 => by simp [sch, sch_len b i]
theorem wnext_lt (l : List Int) (i : Nat) : W32 (wnext l i) := wsum_lt _ _ _ _
theorem word_lt (b : ByteArray) (i : Nat) : W32 (word b i) := by unfold word wordOf; exact bits32_lt _ _ _
theorem sch_lt (b : ByteArray) : ∀ i, ∀ x ∈ sch b i, W32 x
  | 0 => by simp [sch]
  | i + 1 => by
    intro x hx
    rcases List.mem_append.1 hx with hx | hx
    · exact sch_lt b i x hx
    · have hx : x = if i < 16 then word b i else wnext (sch b i) i := by simpa using hx
      subst hx
      split
      · exact word_lt _ _
      · exact wnext_lt _ _
theorem keys_len : shaKeys.length = 64 := rfl
theorem keys_lt : ∀ i, i < 64 → W32 (shaKeys.getD i 0) := by
  have : ∀ x ∈ shaKeys, W32 x := by unfold shaKeys W32; simp
  intro i hi
  rw [List.getD_eq_getElem?_getD, List.getElem?_eq_getElem (by rw [keys_len]; exact hi)]
  exact this _ (List.getElem_mem _)
def padz (l : List Int) (n : Nat) : List Int := l ++ List.replicate (n - l.length) 0
theorem padz_len {l : List Int} {n : Nat} (h : l.length ≤ n) : (padz l n).length = n := by simp [padz]; omega
theorem padz_get {l : List Int} {n i : Nat} (h : i < l.length) : (padz l n).getD i 0 = l.getD i 0 := by
  simp [padz, List.getD_eq_getElem?_getD, List.getElem?_append_left h]
theorem padz_set {l : List Int} {n : Nat} (h : l.length < n) (x : Int) : (padz l n).set l.length x = padz (l ++ [x]) n := by
  unfold padz
  rw [List.set_append_right _ _ (Nat.le_refl _), Nat.sub_self]
  obtain ⟨m, hm⟩ : ∃ m, n - l.length = m + 1 := ⟨n - l.length - 1, by omega⟩
  rw [hm, List.replicate_succ, List.set_cons_zero]
  simp only [List.append_assoc, List.cons_append, List.nil_append, List.length_append, List.length_cons, List.length_nil]
  rw [show n - (l.length + (0 + 1)) = m by omega]
theorem sch_put (b : ByteArray) {k : Nat} (hk : k < 64) (x : Int) : (padz (sch b k) 64).set k x = padz (sch b k ++ [x]) 64 := by
  have := padz_set (l := sch b k) (n := 64) (by rw [sch_len]; exact hk) x
  rwa [sch_len] at this
theorem sch_low (b : ByteArray) {k : Nat} (hk : k < 16) : sch b (k + 1) = sch b k ++ [word b k] := by simp only [sch, hk, if_true]
theorem sch_high (b : ByteArray) {k : Nat} (hk : ¬ k < 16) : sch b (k + 1) = sch b k ++ [wnext (sch b k) k] := by simp only [sch, hk, if_false]
theorem b32_at {b : ByteArray} {i : Nat} (h : i < b.size) : (b[i].toNat : Int) = b32 b i := by
  have : b.data.getD i 0 = b[i] := by unfold Array.getD; rw [dif_pos (show i < b.data.size from h)]; rfl
  unfold b32; rw [this]
theorem word_at {b : ByteArray} {k : Nat} (h : 4 * k + 3 < b.size) : wordOf b[4 * k].toNat b[4 * k + 1].toNat b[4 * k + 2].toNat b[4 * k + 3].toNat = word b k := by
  rw [b32_at, b32_at, b32_at, b32_at]; rfl
theorem getD_get {l : List Int} {i : Nat} (h : i < l.length) : l[i] = l.getD i 0 := by rw [List.getD_eq_getElem?_getD, List.getElem?_eq_getElem h]; rfl
def addk (s r : S8) (k : Nat) : List Int := (adds s r).l.take k ++ s.l.drop k
theorem addk_len (s r : S8) (k : Nat) : (addk s r k).length = 8 := by simp [addk, S8.l]; omega
theorem addk_all (s r : S8) : addk s r 8 = (adds s r).l := rfl
theorem addk_get {s r : S8} {k : Nat} (h : k < 8) : (addk s r k).getD k 0 = s.l.getD k 0 := by
  rcases (show k = 0 ∨ k = 1 ∨ k = 2 ∨ k = 3 ∨ k = 4 ∨ k = 5 ∨ k = 6 ∨ k = 7 by omega) with rfl | rfl | rfl | rfl | rfl | rfl | rfl | rfl <;> rfl
theorem addk_set {s r : S8} {k : Nat} (h : k < 8) : (addk s r k).set k ((s.l.getD k 0 + r.l.getD k 0) % 4294967296) = addk s r (k + 1) := by
  rcases (show k = 0 ∨ k = 1 ∨ k = 2 ∨ k = 3 ∨ k = 4 ∨ k = 5 ∨ k = 6 ∨ k = 7 by omega) with rfl | rfl | rfl | rfl | rfl | rfl | rfl | rfl <;> rfl
end Go.Proofs.YtlfnmbcnehaikaaGreatDoor

set_option linter.unusedVariables false
set_option linter.unusedSimpArgs false
namespace Go.Proofs.YtlfnmbcnehaikaaGreatDoor
open Go.RowKit Lay Mk
theorem Row.chgS {α : Type} [Lay α] {m : Bool} {w w' : World} {A : Option Addr} {cap : Nat} {xs : List α} {S T : Blks} (h4 : Chg S w w') (hr : Row m w A cap xs T) (hd : ∀ b, T b → b < w.heap.size → ¬ S b) : Row m w' A cap xs T :=
  (hr.tight.keep (h4.same (fun b x => hd b x.1 x.2) (fun b x => x.2))).mono (fun b x => x.1)
theorem step_pushN {α : Type} [Lay α] [SlTy α] [Inf α] {ops : Array Oper} {o : Oper} {a : Act} {K : Act → World → Prop} {Q : Exit → Act → World → Prop} {E : Prop} {w1 w : World} {B : Nat} (hgd : o.guard = none) (s x : Operand)
    (ho : o.op = .call { callee := .builtin .append, args := #[s, x], argTypes := #[SlTy.st α, SlTy.st α] })
    {A A2 : Option Addr} {c c2 k : Nat} {L : List α} {y : α} {T : Blks} (hs : a.eval s = .slice A k c) (hk : k = L.length) (hrow : Row true w1 A c L (nw B)) (hle : L.length ≤ c) (hcm : c ≤ maxLen) (hBw : B ≤ w1.heap.size) (hb : Below w1.heap.size w1 w)
    (hx : a.eval x = .slice A2 1 c2) (hsrc : Src w A2 [y] T) (hT : ∀ b, T b → w1.heap.size ≤ b) (hlim : k ≤ 2000000000)
    (h : ∀ A' c' w', Row true w' A' c' (L ++ [y]) (nw B) → (L ++ [y]).length ≤ c' → c' ≤ maxLen → Below B w w' → K (a.put o.dst (.slice A' (k + 1) c')) w') :
    if Region.wanted o (yielded ops a.tmps) = true then Oper.wp Tryz.prog o a w K Q else E := by
  subst hk
  have h7 := hb.size
  refine step_app (α := α) hgd s x ho hs rfl (Row.later (to_rng hrow) hb) hle hcm hx rfl hsrc (fun q h1 h2 => ?_) (by omega) ?_
  · have h3 := hT q h2
    have h4 : q < w1.heap.size := h1.2
    omega
  intro A' c' w' h1 h2 h3 h4
  refine h A' c' w' (h3.mono (fun q hq => ?_)) (by rw [List.length_append]; exact h1) h2 (h4.to_below (by omega) (fun q hq => hq.1))
  show B ≤ q
  rcases hq with hq | hq | hq
  · exact hq.1
  · have := hT q hq; omega
  · have := hq.1; omega
structure Two {α β : Type} [Lay α] [Lay β] (B : Nat) (w : World) (A : Option Addr) (c : Nat) (L : List α) (A' : Option Addr) (c' : Nat) (M : List β) : Prop where
  ex : ∃ U V : Blks, Row true w A c L U ∧ Row true w A' c' M V ∧ (∀ b, U b → V b → False) ∧ (∀ b, U b → B ≤ b) ∧ (∀ b, V b → B ≤ b)
  l1 : L.length ≤ c
  m1 : c ≤ maxLen
  l2 : M.length ≤ c'
  m2 : c' ≤ maxLen
theorem Two.start {α β : Type} [Lay α] [Lay β] (B : Nat) (w : World) : Two (α := α) (β := β) B w none 0 [] none 0 [] :=
  ⟨⟨none_, none_, row_nil _ _, row_nil _ _, fun _ h => h.elim, fun _ h => h.elim, fun _ h => h.elim⟩, Nat.le_refl _, by decide, Nat.le_refl _, by decide⟩
theorem Two.later {α β : Type} [Lay α] [Lay β] {B : Nat} {w w' : World} {A A' : Option Addr} {c c' : Nat} {L : List α} {M : List β} (h : Two B w A c L A' c' M) (hb : Below w.heap.size w w') : Two B w' A c L A' c' M := by
  obtain ⟨U, V, h1, h2, h3, h4, h5⟩ := h.ex
  exact ⟨⟨U, V, Row.later h1 hb, Row.later h2 hb, h3, h4, h5⟩, h.l1, h.m1, h.l2, h.m2⟩
theorem Two.swap {α β : Type} [Lay α] [Lay β] {B : Nat} {w : World} {A A' : Option Addr} {c c' : Nat} {L : List α} {M : List β} (h : Two B w A c L A' c' M) : Two B w A' c' M A c L := by
  obtain ⟨U, V, h1, h2, h3, h4, h5⟩ := h.ex
  exact ⟨⟨V, U, h2, h1, fun b x y => h3 b y x, h5, h4⟩, h.l2, h.m2, h.l1, h.m1⟩
theorem Two.fst {α β : Type} [Lay α] [Lay β] {B : Nat} {w : World} {A A' : Option Addr} {c c' : Nat} {L : List α} {M : List β} (h : Two B w A c L A' c' M) : Row false w A c L (nw B) := by
  obtain ⟨U, V, h1, h2, h3, h4, h5⟩ := h.ex
  exact Row.weak (h1.mono h4)
end Go.Proofs.YtlfnmbcnehaikaaGreatDoor

set_option linter.unusedVariables false
set_option linter.unusedSimpArgs false
namespace Go.Proofs.YtlfnmbcnehaikaaGreatDoor
open Go.RowKit Lay Mk
structure Own {α : Type} [Lay α] (w0 w : World) (A : Option Addr) (c : Nat) (L : List α) : Prop where
  row : Row true w A c L (nw w0.heap.size)
  le : L.length ≤ c
  cm : c ≤ maxLen
  bl : Below w0.heap.size w0 w
theorem Own.size {α : Type} [Lay α] {w0 w : World} {A : Option Addr} {c : Nat} {L : List α} (h : Own w0 w A c L) : w0.heap.size ≤ w.heap.size := h.bl.size
theorem Own.start {α : Type} [Lay α] {w0 w : World} (h : Below w0.heap.size w0 w) : Own (α := α) w0 w none 0 [] := ⟨row_nil _ _, by simp, by decide, h⟩
theorem Own.lit {α : Type} [Lay α] {w0 w : World} (h : Below w0.heap.size w0 w) (t : TypeId) (ht : t = ty α) : Own (α := α) w0 (w.alloc (.cells #[] t)) (some ⟨w.heap.size, 0, none⟩) 0 [] :=
  ⟨row_lit0 w t _ ht h.size, by simp, by decide, h.alloc h.size _⟩
theorem Own.litAt {α : Type} [Lay α] {w0 w : World} (h : Below w0.heap.size w0 w) (t : TypeId) (ht : t = ty α) {b : Nat} (hb : b = w.heap.size) : Own (α := α) w0 (w.alloc (.cells #[] t)) (some ⟨b, 0, none⟩) 0 [] := by subst hb; exact Own.lit h t ht
theorem Own.later {α : Type} [Lay α] {w0 w w' : World} {A : Option Addr} {c : Nat} {L : List α} (h : Own w0 w A c L) (hb : Below w.heap.size w w') : Own w0 w' A c L :=
  ⟨Row.later h.row hb, h.le, h.cm, h.bl.trans (hb.mono h.bl.size)⟩
theorem Own.alloc {α : Type} [Lay α] {w0 w : World} {A : Option Addr} {c : Nat} {L : List α} (h : Own w0 w A c L) (o : Obj) : Own w0 (w.alloc o) A c L := h.later ((Below.refl _ _).alloc (Nat.le_refl _) _)
theorem Own.drew {α : Type} [Lay α] {w0 w : World} {A : Option Addr} {c : Nat} {L : List α} (h : Own w0 w A c L) : Own w0 w.drew A c L := h.later ((Below.refl _ _).drew)
theorem Own.from {α : Type} [Lay α] {w0 w1 w : World} {A : Option Addr} {c : Nat} {L : List α} (h : Own w1 w A c L) (hb : Below w0.heap.size w0 w1) : Own w0 w A c L :=
  ⟨h.row.mono (fun _ x => Nat.le_trans hb.size x), h.le, h.cm, hb.trans (h.bl.mono hb.size)⟩
theorem Own.rng {α : Type} [Lay α] {w0 w : World} {A : Option Addr} {c : Nat} {L : List α} (h : Own w0 w A c L) : Row true w A c L (rng w0.heap.size w.heap.size) := to_rng h.row
theorem Own.weak {α : Type} [Lay α] {w0 w : World} {A : Option Addr} {c : Nat} {L : List α} (h : Own w0 w A c L) : Row false w A c L (nw w0.heap.size) := h.row.weak
theorem wpList_push {α : Type} [Lay α] [SlTy α] [Inf α] {ops : Array Oper} {rest : List Oper} {o : Oper} {a : Act} {Q : Exit → Act → World → Prop} {w0 w : World} (hgd : o.guard = none) (s x : Operand)
    (ho : o.op = .call { callee := .builtin .append, args := #[s, x], argTypes := #[SlTy.st α, SlTy.st α] })
    {A A2 : Option Addr} {c c2 k m : Nat} {L ys : List α} (hs : a.eval s = .slice A k c) (hk : k = L.length) (own : Own w0 w A c L)
    (hx : a.eval x = .slice A2 m c2) (hm : m = ys.length) (hsrc : Src w A2 ys none_) (hb : k + m ≤ 4000000000)
    (h : ∀ A' c' w', Own w0 w' A' c' (L ++ ys) → w.heap.size ≤ w'.heap.size → wpList Tryz.prog ops Q rest (a.put o.dst (.slice A' (k + m) c')) w') :
    wpList Tryz.prog ops Q (o :: rest) a w := by
  subst hk; subst hm
  refine wpList_app (α := α) hgd s x ho hs rfl own.row own.le own.cm hx rfl hsrc (disj_none_ _) hb ?_
  intro A' c' w' h1 h2 h3 h4
  exact h A' c' w' ⟨row_og h3 (fun b hb => Nat.le_trans own.size hb), by rw [List.length_append]; exact h1, h2, own.bl.trans (h4.to_below own.size (fun b hb => hb))⟩ h4.size
theorem srcR {α : Type} [Lay α] (w : World) (y : α) (cs : Array Value) (t : TypeId) (b : Nat) (hb : b = w.heap.size) {T : Blks} (h : rd true w cs.toList y T) : Src (w.alloc (.cells cs t)) (some ⟨b, 0, none⟩) [y] (fun b => T b ∧ b < w.heap.size) := by
  subst hb
  intro _
  refine ⟨_, _, rfl, fun i => if i = 0 then (fun b => T b ∧ b < w.heap.size) else none_, fun i b x => ?_, fun _ i j hij b x y => ?_, fun i hi => ?_⟩
  · by_cases hi : i = 0
    · simp only [hi, if_true] at x; exact x
    · simp only [hi, if_false] at x; exact x.elim
  · by_cases hi : i = 0
    · simp only [show j ≠ 0 by omega, if_false] at y; exact y.elim
    · simp only [hi, if_false] at x; exact x.elim
  · have hi : i = 0 := by simpa using hi
    subst hi
    refine ⟨cs.toList, fun j u hu => ?_, ?_⟩
    · rw [World.cell?_alloc_mark]; simpa using hu
    · exact Lay.keep (Lay.tight h) (fun b x => Below.heap_alloc _ _ _ x.2)
theorem wpList_pushR {α : Type} [Lay α] [SlTy α] [Inf α] {ops : Array Oper} {rest : List Oper} {o : Oper} {a : Act} {Q : Exit → Act → World → Prop} {w0 w1 w : World} (hgd : o.guard = none) (s x : Operand)
    (ho : o.op = .call { callee := .builtin .append, args := #[s, x], argTypes := #[SlTy.st α, SlTy.st α] })
    {A : Option Addr} {c c2 k b : Nat} {L : List α} {y : α} {T : Blks} {cs : Array Value} {t : TypeId} (hs : a.eval s = .slice A k c) (hk : k = L.length) (own : Own w0 w1 A c L) (hb : Below w1.heap.size w1 w)
    (hy : rd true w cs.toList y T) (hT : ∀ b, T b → w1.heap.size ≤ b) (hx : a.eval x = .slice (some ⟨b, 0, none⟩) 1 c2) (hbb : b = w.heap.size) (hlim : k ≤ 2000000000)
    (h : ∀ A' c' w', Own w0 w' A' c' (L ++ [y]) → w.heap.size < w'.heap.size → wpList Tryz.prog ops Q rest (a.put o.dst (.slice A' (k + 1) c')) w') :
    wpList Tryz.prog ops Q (o :: rest) a (w.alloc (.cells cs t)) := by
  subst hk
  have hbw : Below w1.heap.size w1 (w.alloc (.cells cs t)) := hb.alloc hb.size _
  refine wpList_app (α := α) hgd s x ho hs rfl (Row.later (to_rng own.row) hbw) own.le own.cm hx rfl (srcR w y cs t b hbb hy) (fun q h1 h2 => ?_) (by simp; omega) ?_
  · have h3 := hT q h2.1
    have h4 : q < w1.heap.size := h1.2
    omega
  intro A' c' w' h1 h2 h3 h4
  have h5 := h4.size
  rw [World.size_alloc] at h5
  refine h A' c' w' ⟨h3.mono (fun q hq => ?_), by rw [List.length_append]; exact h1, h2, ?_⟩ (by omega)
  · show w0.heap.size ≤ q
    have h6 := own.size
    have h7 := hb.size
    rcases hq with hq | hq | hq
    · exact hq.1
    · have := hT q hq.1; omega
    · have := hq.1; rw [World.size_alloc] at this; omega
  · exact (own.bl.trans (hbw.mono own.size)).trans (h4.to_below (by rw [World.size_alloc]; have := own.size; have := hb.size; omega) (fun q hq => hq.1))
theorem step_push {α : Type} [Lay α] [SlTy α] [Inf α] {ops : Array Oper} {o : Oper} {a : Act} {K : Act → World → Prop} {Q : Exit → Act → World → Prop} {E : Prop} {w0 w : World} (hgd : o.guard = none) (s x : Operand)
    (ho : o.op = .call { callee := .builtin .append, args := #[s, x], argTypes := #[SlTy.st α, SlTy.st α] })
    {A A2 : Option Addr} {c c2 k m : Nat} {L ys : List α} (hs : a.eval s = .slice A k c) (hk : k = L.length) (own : Own w0 w A c L)
    (hx : a.eval x = .slice A2 m c2) (hm : m = ys.length) (hsrc : Src w A2 ys none_) (hb : k + m ≤ 4000000000)
    (h : ∀ A' c' w', Own w0 w' A' c' (L ++ ys) → Below w0.heap.size w0 w' → K (a.put o.dst (.slice A' (k + m) c')) w') :
    if Region.wanted o (yielded ops a.tmps) = true then Oper.wp Tryz.prog o a w K Q else E := by
  subst hk; subst hm
  refine step_app (α := α) hgd s x ho hs rfl own.row own.le own.cm hx rfl hsrc (disj_none_ _) hb ?_
  intro A' c' w' h1 h2 h3 h4
  have hw : Own w0 w' A' c' (L ++ ys) := ⟨row_og h3 (fun b hb => Nat.le_trans own.size hb), by rw [List.length_append]; exact h1, h2, own.bl.trans (h4.to_below own.size (fun b hb => hb))⟩
  exact h A' c' w' hw hw.bl
theorem src1 {α : Type} [Lay α] [Flat α] {w : World} {y : α} (ok : Flat.ok y) {cs : Array Value} {t : TypeId} {b : Nat} (hb : b = w.heap.size) (h : cs.toList = Flat.cs y) : Src (w.alloc (.cells cs t)) (some ⟨b, 0, none⟩) [y] none_ := src_newb w y ok cs t b hb h
def OwnRes {α : Type} [Lay α] (L : List α) (w : World) (e : Ending) (w' : World) : Prop := ∃ A c, e = .returned (.slice A L.length c) ∧ Own w w' A c L
theorem OwnRes.mk {α : Type} [Lay α] {L L' : List α} {w w' : World} {A : Option Addr} {c n : Nat} (h : Own w w' A c L) (hL : L' = L) (hn : n = L.length) : OwnRes L' w (.returned (.slice A n c)) w' := by subst hL; subst hn; exact ⟨A, c, rfl, h⟩
end Go.Proofs.YtlfnmbcnehaikaaGreatDoor

set_option linter.unusedVariables false
set_option linter.unusedSimpArgs false
namespace Go.Proofs.YtlfnmbcnehaikaaGreatDoor
open Go.RowKit Lay Mk
def rvV (o : Option (Nat × Nat)) : Value := match o with
  | none => .tuple #[.int .i64 0, .int .i64 0, .bool false]
  | some (n, x) => .tuple #[.int .i64 n, .int .i64 x, .bool true]
theorem ret_rv {n x : Nat} {i j : Int} (h1 : i = n) (h2 : j = x) : Ending.returned (.tuple #[.int .i64 i, .int .i64 j, .bool true]) = Ending.returned (rvV (some (n, x))) := by rw [h1, h2]; rfl
set_option maxRecDepth 20000 in set_option maxHeartbeats 8000000 in
theorem impl_ReadVar (w : World) (t : ByteArray) (ht : t.size ≤ 1048576) (a : Nat) (ha : a ≤ t.size) : Calls Tryz.prog 178 #[.string t, .int .i64 a] w fun e w' => e = .returned (rvV (rdVar t a)) ∧ w = w' := by
  have hin : inB a 0 t.size = true := by unfold inB; rw [decide_eq_true_iff]; omega
  have H0 : Hid (rdVar t a = rdGo t a 5 0 0) := Lib.hid rfl
  obtain ⟨R, hR⟩ : ∃ R, rdVar t a = R := ⟨_, rfl⟩
  rw [hR] at H0 ⊢
  clear hR
  go_enter Tryz.func178, Tryz.ntmps178
  go_wp2_with (go_at_call 62; refine (impl_in _ _ _ _).mono ?_; rintro e w' ⟨rfl, rfl⟩)
  clear hin
  go_loop [7, 8] (fun n i => ∃ k m : Nat, k ≤ 5 ∧ a + k ≤ t.size ∧ n = .int .i64 m ∧ i = .int .i64 k ∧ m < 128 ^ k ∧ Hid (R = rdGo t a (5 - k) k m)) (fun _ i => 5 - (intOf i).toNat)
  case atStart => exact ⟨0, 0, by omega, by omega, rfl, rfl, by decide, H0⟩
  case round =>
    obtain ⟨k, m, hk, hak, rfl, rfl, hm, hR⟩ := hrel
    clear H0
    rcases (show k = 5 ∨ k = 4 ∨ k = 3 ∨ k = 2 ∨ k = 1 ∨ k = 0 by omega) with rfl | rfl | rfl | rfl | rfl | rfl
    · have HE : Hid (R = none) := Lib.hid (hR.out.trans (rdGo_end _ _ _ _))
      clear hR
      go_wp2
      refine bodyPost_ret (v := .tuple #[.int .i64 0, .int .i64 0, .bool false]) (by simp [results, Tryz.results178, go_sem, *]) rfl ?_
      exact ⟨by rw [HE.out]; rfl, rfl⟩
    · replace hm : m < 268435456 := hm
      have hwk : IntKind.i64.wrap ((a : Int) + 4) = (a : Int) + 4 := by rw [IntWalk.i64_in] <;> omega
      have hwl : IntKind.i64.wrap ((a : Int) + 4 + 1) = (a : Int) + 4 + 1 := by rw [IntWalk.i64_in] <;> omega
      by_cases hlt : a + 4 < t.size
      rotate_left
      · have HE : Hid (R = none) := Lib.hid (hR.out.trans (rdGo_out hlt))
        clear hR
        go_wp2
        refine bodyPost_ret (v := .tuple #[.int .i64 0, .int .i64 0, .bool false]) (by simp [results, Tryz.results178, go_sem, *]) rfl ?_
        exact ⟨by rw [HE.out]; rfl, rfl⟩
      have HM := Lib.hid (fun h => hR.out.trans (rdGo_more (f := 0) (n := m) hlt h))
      have HB := Lib.hid (fun h1 h2 => hR.out.trans (rdGo_bad (f := 0) (n := m) hlt h1 h2))
      have HG := Lib.hid (fun h1 h2 => hR.out.trans (rdGo_good (f := 0) (n := m) hlt h1 h2))
      have hb : t[a + 4].toNat < 256 := t[a + 4].toNat_lt
      have hlz : (a : Int) + 4 < (t.size : Int) := by omega
      clear hR
      by_cases h128 : t[a + 4].toNat < 128
      rotate_left
      · have HE := Lib.hid (HM.out h128)
        clear HM HB HG
        go_wp2
        go_round
        case rel => exact ⟨5, m + t[a + 4].toNat % 128 * 268435456, by omega, by omega, congrArg (Value.int .i64) (by omega), rfl, (show m + t[a + 4].toNat % 128 * 268435456 < 34359738368 by omega), Lib.hid HE.out⟩
        case measure => first | (simp [intOf]; done) | (simp [intOf]; omega)
      clear HM
      by_cases hn : 1000000000 < m + t[a + 4].toNat % 128 * 268435456
      · have HE : Hid (R = none) := Lib.hid (HB.out h128 (.inr hn))
        clear HB HG
        have dn : decide ((1000000000 : Int) < (m : Int) + (t[a + 4].toNat : Int) % 128 * 268435456) = true := by rw [decide_eq_true_iff]; omega
        rcases Nat.eq_zero_or_pos t[a + 4].toNat with h0 | h0
        · have d0 : ((t[a + 4].toNat : Int) == 0) = true := by rw [beq_iff_eq]; omega
          go_wp2
          all_goals (refine bodyPost_ret (v := .tuple #[.int .i64 0, .int .i64 0, .bool false]) (by simp [results, Tryz.results178, go_sem, *]) rfl ?_; exact ⟨by rw [HE.out]; rfl, rfl⟩)
        · have d0 : ((t[a + 4].toNat : Int) == 0) = false := by rw [beq_eq_false_iff_ne]; omega
          go_wp2
          all_goals (refine bodyPost_ret (v := .tuple #[.int .i64 0, .int .i64 0, .bool false]) (by simp [results, Tryz.results178, go_sem, *]) rfl ?_; exact ⟨by rw [HE.out]; rfl, rfl⟩)
      have dn : decide ((1000000000 : Int) < (m : Int) + (t[a + 4].toNat : Int) % 128 * 268435456) = false := by rw [decide_eq_false_iff_not]; omega
      rcases Nat.eq_zero_or_pos t[a + 4].toNat with h0 | h0
      · have d0 : ((t[a + 4].toNat : Int) == 0) = true := by rw [beq_iff_eq]; omega
        have HE : Hid (R = none) := Lib.hid (HB.out h128 (.inl ⟨h0, by omega⟩))
        clear HB HG
        go_wp2
        all_goals (refine bodyPost_ret (v := .tuple #[.int .i64 0, .int .i64 0, .bool false]) (by simp [results, Tryz.results178, go_sem, *]) rfl ?_; exact ⟨by rw [HE.out]; rfl, rfl⟩)
      · have d0 : ((t[a + 4].toNat : Int) == 0) = false := by rw [beq_eq_false_iff_ne]; omega
        have HE := Lib.hid (HG.out h128 (by intro hh; rcases hh with hh | hh; exact absurd hh (by omega); exact absurd hh (by omega)))
        clear HB HG
        go_wp2
        refine bodyPost_ret (v := .tuple #[.int .i64 ((m : Int) + (t[a + 4].toNat : Int) % 128 * 268435456), .int .i64 ((a : Int) + 4 + 1), .bool true]) (by simp [results, Tryz.results178, go_sem, *]) rfl ?_
        exact ⟨by rw [HE.out]; exact ret_rv (by omega) (by omega), rfl⟩
    · replace hm : m < 2097152 := hm
      have hwk : IntKind.i64.wrap ((a : Int) + 3) = (a : Int) + 3 := by rw [IntWalk.i64_in] <;> omega
      have hwl : IntKind.i64.wrap ((a : Int) + 3 + 1) = (a : Int) + 3 + 1 := by rw [IntWalk.i64_in] <;> omega
      by_cases hlt : a + 3 < t.size
      rotate_left
      · have HE : Hid (R = none) := Lib.hid (hR.out.trans (rdGo_out hlt))
        clear hR
        go_wp2
        refine bodyPost_ret (v := .tuple #[.int .i64 0, .int .i64 0, .bool false]) (by simp [results, Tryz.results178, go_sem, *]) rfl ?_
        exact ⟨by rw [HE.out]; rfl, rfl⟩
      have HM := Lib.hid (fun h => hR.out.trans (rdGo_more (f := 1) (n := m) hlt h))
      have HB := Lib.hid (fun h1 h2 => hR.out.trans (rdGo_bad (f := 1) (n := m) hlt h1 h2))
      have HG := Lib.hid (fun h1 h2 => hR.out.trans (rdGo_good (f := 1) (n := m) hlt h1 h2))
      have hb : t[a + 3].toNat < 256 := t[a + 3].toNat_lt
      have hlz : (a : Int) + 3 < (t.size : Int) := by omega
      clear hR
      by_cases h128 : t[a + 3].toNat < 128
      rotate_left
      · have HE := Lib.hid (HM.out h128)
        clear HM HB HG
        go_wp2
        go_round
        case rel => exact ⟨4, m + t[a + 3].toNat % 128 * 2097152, by omega, by omega, congrArg (Value.int .i64) (by omega), rfl, (show m + t[a + 3].toNat % 128 * 2097152 < 268435456 by omega), Lib.hid HE.out⟩
        case measure => first | (simp [intOf]; done) | (simp [intOf]; omega)
      clear HM
      by_cases hn : 1000000000 < m + t[a + 3].toNat % 128 * 2097152
      · exfalso; omega
      have dn : decide ((1000000000 : Int) < (m : Int) + (t[a + 3].toNat : Int) % 128 * 2097152) = false := by rw [decide_eq_false_iff_not]; omega
      rcases Nat.eq_zero_or_pos t[a + 3].toNat with h0 | h0
      · have d0 : ((t[a + 3].toNat : Int) == 0) = true := by rw [beq_iff_eq]; omega
        have HE : Hid (R = none) := Lib.hid (HB.out h128 (.inl ⟨h0, by omega⟩))
        clear HB HG
        go_wp2
        all_goals (refine bodyPost_ret (v := .tuple #[.int .i64 0, .int .i64 0, .bool false]) (by simp [results, Tryz.results178, go_sem, *]) rfl ?_; exact ⟨by rw [HE.out]; rfl, rfl⟩)
      · have d0 : ((t[a + 3].toNat : Int) == 0) = false := by rw [beq_eq_false_iff_ne]; omega
        have HE := Lib.hid (HG.out h128 (by intro hh; rcases hh with hh | hh; exact absurd hh (by omega); exact absurd hh (by omega)))
        clear HB HG
        go_wp2
        refine bodyPost_ret (v := .tuple #[.int .i64 ((m : Int) + (t[a + 3].toNat : Int) % 128 * 2097152), .int .i64 ((a : Int) + 3 + 1), .bool true]) (by simp [results, Tryz.results178, go_sem, *]) rfl ?_
        exact ⟨by rw [HE.out]; exact ret_rv (by omega) (by omega), rfl⟩
    · replace hm : m < 16384 := hm
      have hwk : IntKind.i64.wrap ((a : Int) + 2) = (a : Int) + 2 := by rw [IntWalk.i64_in] <;> omega
      have hwl : IntKind.i64.wrap ((a : Int) + 2 + 1) = (a : Int) + 2 + 1 := by rw [IntWalk.i64_in] <;> omega
      by_cases hlt : a + 2 < t.size
      rotate_left
      · have HE : Hid (R = none) := Lib.hid (hR.out.trans (rdGo_out hlt))
        clear hR
        go_wp2
        refine bodyPost_ret (v := .tuple #[.int .i64 0, .int .i64 0, .bool false]) (by simp [results, Tryz.results178, go_sem, *]) rfl ?_
        exact ⟨by rw [HE.out]; rfl, rfl⟩
      have HM := Lib.hid (fun h => hR.out.trans (rdGo_more (f := 2) (n := m) hlt h))
      have HB := Lib.hid (fun h1 h2 => hR.out.trans (rdGo_bad (f := 2) (n := m) hlt h1 h2))
      have HG := Lib.hid (fun h1 h2 => hR.out.trans (rdGo_good (f := 2) (n := m) hlt h1 h2))
      have hb : t[a + 2].toNat < 256 := t[a + 2].toNat_lt
      have hlz : (a : Int) + 2 < (t.size : Int) := by omega
      clear hR
      by_cases h128 : t[a + 2].toNat < 128
      rotate_left
      · have HE := Lib.hid (HM.out h128)
        clear HM HB HG
        go_wp2
        go_round
        case rel => exact ⟨3, m + t[a + 2].toNat % 128 * 16384, by omega, by omega, congrArg (Value.int .i64) (by omega), rfl, (show m + t[a + 2].toNat % 128 * 16384 < 2097152 by omega), Lib.hid HE.out⟩
        case measure => first | (simp [intOf]; done) | (simp [intOf]; omega)
      clear HM
      by_cases hn : 1000000000 < m + t[a + 2].toNat % 128 * 16384
      · exfalso; omega
      have dn : decide ((1000000000 : Int) < (m : Int) + (t[a + 2].toNat : Int) % 128 * 16384) = false := by rw [decide_eq_false_iff_not]; omega
      rcases Nat.eq_zero_or_pos t[a + 2].toNat with h0 | h0
      · have d0 : ((t[a + 2].toNat : Int) == 0) = true := by rw [beq_iff_eq]; omega
        have HE : Hid (R = none) := Lib.hid (HB.out h128 (.inl ⟨h0, by omega⟩))
        clear HB HG
        go_wp2
        all_goals (refine bodyPost_ret (v := .tuple #[.int .i64 0, .int .i64 0, .bool false]) (by simp [results, Tryz.results178, go_sem, *]) rfl ?_; exact ⟨by rw [HE.out]; rfl, rfl⟩)
      · have d0 : ((t[a + 2].toNat : Int) == 0) = false := by rw [beq_eq_false_iff_ne]; omega
        have HE := Lib.hid (HG.out h128 (by intro hh; rcases hh with hh | hh; exact absurd hh (by omega); exact absurd hh (by omega)))
        clear HB HG
        go_wp2
        refine bodyPost_ret (v := .tuple #[.int .i64 ((m : Int) + (t[a + 2].toNat : Int) % 128 * 16384), .int .i64 ((a : Int) + 2 + 1), .bool true]) (by simp [results, Tryz.results178, go_sem, *]) rfl ?_
        exact ⟨by rw [HE.out]; exact ret_rv (by omega) (by omega), rfl⟩
    · replace hm : m < 128 := hm
      have hwk : IntKind.i64.wrap ((a : Int) + 1) = (a : Int) + 1 := by rw [IntWalk.i64_in] <;> omega
      have hwl : IntKind.i64.wrap ((a : Int) + 1 + 1) = (a : Int) + 1 + 1 := by rw [IntWalk.i64_in] <;> omega
      by_cases hlt : a + 1 < t.size
      rotate_left
      · have HE : Hid (R = none) := Lib.hid (hR.out.trans (rdGo_out hlt))
        clear hR
        go_wp2
        refine bodyPost_ret (v := .tuple #[.int .i64 0, .int .i64 0, .bool false]) (by simp [results, Tryz.results178, go_sem, *]) rfl ?_
        exact ⟨by rw [HE.out]; rfl, rfl⟩
      have HM := Lib.hid (fun h => hR.out.trans (rdGo_more (f := 3) (n := m) hlt h))
      have HB := Lib.hid (fun h1 h2 => hR.out.trans (rdGo_bad (f := 3) (n := m) hlt h1 h2))
      have HG := Lib.hid (fun h1 h2 => hR.out.trans (rdGo_good (f := 3) (n := m) hlt h1 h2))
      have hb : t[a + 1].toNat < 256 := t[a + 1].toNat_lt
      have hlz : (a : Int) + 1 < (t.size : Int) := by omega
      clear hR
      by_cases h128 : t[a + 1].toNat < 128
      rotate_left
      · have HE := Lib.hid (HM.out h128)
        clear HM HB HG
        go_wp2
        go_round
        case rel => exact ⟨2, m + t[a + 1].toNat % 128 * 128, by omega, by omega, congrArg (Value.int .i64) (by omega), rfl, (show m + t[a + 1].toNat % 128 * 128 < 16384 by omega), Lib.hid HE.out⟩
        case measure => first | (simp [intOf]; done) | (simp [intOf]; omega)
      clear HM
      by_cases hn : 1000000000 < m + t[a + 1].toNat % 128 * 128
      · exfalso; omega
      have dn : decide ((1000000000 : Int) < (m : Int) + (t[a + 1].toNat : Int) % 128 * 128) = false := by rw [decide_eq_false_iff_not]; omega
      rcases Nat.eq_zero_or_pos t[a + 1].toNat with h0 | h0
      · have d0 : ((t[a + 1].toNat : Int) == 0) = true := by rw [beq_iff_eq]; omega
        have HE : Hid (R = none) := Lib.hid (HB.out h128 (.inl ⟨h0, by omega⟩))
        clear HB HG
        go_wp2
        all_goals (refine bodyPost_ret (v := .tuple #[.int .i64 0, .int .i64 0, .bool false]) (by simp [results, Tryz.results178, go_sem, *]) rfl ?_; exact ⟨by rw [HE.out]; rfl, rfl⟩)
      · have d0 : ((t[a + 1].toNat : Int) == 0) = false := by rw [beq_eq_false_iff_ne]; omega
        have HE := Lib.hid (HG.out h128 (by intro hh; rcases hh with hh | hh; exact absurd hh (by omega); exact absurd hh (by omega)))
        clear HB HG
        go_wp2
        refine bodyPost_ret (v := .tuple #[.int .i64 ((m : Int) + (t[a + 1].toNat : Int) % 128 * 128), .int .i64 ((a : Int) + 1 + 1), .bool true]) (by simp [results, Tryz.results178, go_sem, *]) rfl ?_
        exact ⟨by rw [HE.out]; exact ret_rv (by omega) (by omega), rfl⟩
    · obtain rfl : m = 0 := by have : m < 1 := hm; omega
      have hwl : IntKind.i64.wrap ((a : Int) + 1) = (a : Int) + 1 := by rw [IntWalk.i64_in] <;> omega
      by_cases hlt : a < t.size
      rotate_left
      · have HE : Hid (R = none) := Lib.hid (hR.out.trans (rdGo_out hlt))
        clear hR
        go_wp2
        refine bodyPost_ret (v := .tuple #[.int .i64 0, .int .i64 0, .bool false]) (by simp [results, Tryz.results178, go_sem, *]) rfl ?_
        exact ⟨by rw [HE.out]; rfl, rfl⟩
      have HM := Lib.hid (fun (h : ¬ t[a].toNat < 128) => hR.out.trans (rdGo_more (f := 4) (k := 0) (n := 0) hlt h))
      have HB := Lib.hid (fun (h1 : t[a].toNat < 128) (h2 : (t[a].toNat = 0 ∧ 0 < 0) ∨ 1000000000 < 0 + t[a].toNat % 128 * 1) => hR.out.trans (rdGo_bad (f := 4) (k := 0) (n := 0) hlt h1 h2))
      have HG := Lib.hid (fun (h1 : t[a].toNat < 128) (h2 : ¬ ((t[a].toNat = 0 ∧ 0 < 0) ∨ 1000000000 < 0 + t[a].toNat % 128 * 1)) => hR.out.trans (rdGo_good (f := 4) (k := 0) (n := 0) hlt h1 h2))
      have hb : t[a].toNat < 256 := t[a].toNat_lt
      have hlz : (a : Int) < (t.size : Int) := by omega
      clear hR
      by_cases h128 : t[a].toNat < 128
      rotate_left
      · have HE := Lib.hid (HM.out h128)
        clear HM HB HG
        go_wp2
        go_round
        case rel => exact ⟨1, 0 + t[a].toNat % 128 * 1, by omega, by omega, congrArg (Value.int .i64) (by omega), rfl, (show 0 + t[a].toNat % 128 * 1 < 128 by omega), Lib.hid HE.out⟩
        case measure => first | (simp [intOf]; done) | (simp [intOf]; omega)
      clear HM
      by_cases hn : 1000000000 < 0 + t[a].toNat % 128 * 1
      · exfalso; omega
      have dn : decide ((1000000000 : Int) < (t[a].toNat : Int) % 128) = false := by rw [decide_eq_false_iff_not]; omega
      rcases Nat.eq_zero_or_pos t[a].toNat with h0 | h0
      · have d0 : ((t[a].toNat : Int) == 0) = true := by rw [beq_iff_eq]; omega
        have HE := Lib.hid (HG.out h128 (by intro hh; rcases hh with hh | hh; exact absurd hh (by omega); exact absurd hh (by omega)))
        clear HB HG
        go_wp2
        refine bodyPost_ret (v := .tuple #[.int .i64 ((t[a].toNat : Int) % 128), .int .i64 ((a : Int) + 1), .bool true]) (by simp [results, Tryz.results178, go_sem, *]) rfl ?_
        exact ⟨by rw [HE.out]; exact ret_rv (show _ = ((0 + t[a].toNat % 128 * 1 : Nat) : Int) by omega) (by omega), rfl⟩
      · have d0 : ((t[a].toNat : Int) == 0) = false := by rw [beq_eq_false_iff_ne]; omega
        have HE := Lib.hid (HG.out h128 (by intro hh; rcases hh with hh | hh; exact absurd hh (by omega); exact absurd hh (by omega)))
        clear HB HG
        go_wp2
        refine bodyPost_ret (v := .tuple #[.int .i64 ((t[a].toNat : Int) % 128), .int .i64 ((a : Int) + 1), .bool true]) (by simp [results, Tryz.results178, go_sem, *]) rfl ?_
        exact ⟨by rw [HE.out]; exact ret_rv (show _ = ((0 + t[a].toNat % 128 * 1 : Nat) : Int) by omega) (by omega), rfl⟩
end Go.Proofs.YtlfnmbcnehaikaaGreatDoor

set_option linter.unusedVariables false
set_option linter.unusedSimpArgs false
namespace Go.Proofs.YtlfnmbcnehaikaaGreatDoor
open Go.RowKit Lay Mk
theorem src_one {α : Type} [Lay α] (w : World) (y : α) (cs : Array Value) (t : TypeId) (b : Nat) (hb : b = w.heap.size) {T : Blks} (h : rd true w cs.toList y T) : Src (w.alloc (.cells cs t)) (some ⟨b, 0, none⟩) [y] (fun b => T b ∧ b < w.heap.size) := by
  subst hb
  intro _
  refine ⟨_, _, rfl, fun i => if i = 0 then (fun b => T b ∧ b < w.heap.size) else none_, fun i b x => ?_, fun _ i j hij b x y => ?_, fun i hi => ?_⟩
  · by_cases hi : i = 0
    · simp only [hi, if_true] at x; exact x
    · simp only [hi, if_false] at x; exact x.elim
  · by_cases hi : i = 0
    · simp only [show j ≠ 0 by omega, if_false] at y; exact y.elim
    · simp only [hi, if_false] at x; exact x.elim
  · have hi : i = 0 := by simpa using hi
    subst hi
    refine ⟨cs.toList, fun j u hu => ?_, ?_⟩
    · rw [World.cell?_alloc_mark]; simpa using hu
    · exact Lay.keep (Lay.tight h) (fun b x => Below.heap_alloc _ _ _ x.2)
theorem rngD {a b c d : Nat} (h : b ≤ c) : disj (rng a b) (rng c d) := fun x h1 h2 => by unfold rng at h1 h2; omega
theorem heap_newb (w : World) (o : Obj) (b : Nat) (h : b = w.heap.size) : (w.alloc o).heap[b]? = some o := by subst h; exact heap_alloc_new w o
theorem row_litat {α : Type} [Lay α] (w : World) (t : TypeId) (b : Nat) (ht : t = ty α) (h : w.heap[b]? = some (.cells #[] t)) : Row (α := α) true w (some ⟨b, 0, none⟩) 0 [] (fun y => y = b) := by
  subst ht
  exact .inr ⟨b, #[], rfl, rfl, h, by simp, fun _ => none_, fun _ _ x => x.elim, fun _ _ _ _ _ x => x.elim, fun i hi => absurd hi (by simp)⟩
def own (b lo hi : Nat) : Blks := fun y => y = b ∨ (lo ≤ y ∧ y < hi)
theorem own_chg {b lo hi c s : Nat} (h1 : b ≠ c) (h2 : c < lo ∨ hi ≤ c) : ∀ y, own b lo hi y → y < s → ¬ y = c := fun y h _ => by unfold own at h; omega
theorem own_sub {b lo hi B s : Nat} (h1 : B ≤ b) (h2 : b < s) (h3 : B ≤ lo) (h4 : hi ≤ s) : sub (own b lo hi) (rng B s) := fun y h => by unfold own at h; unfold rng; omega
theorem own_disj {b lo hi c lo' hi' : Nat} (h1 : b ≠ c) (h2 : b < lo' ∨ hi' ≤ b) (h3 : c < lo ∨ hi ≤ c) (h4 : hi ≤ lo' ∨ hi' ≤ lo) : disj (own b lo hi) (own c lo' hi') := fun y h h' => by unfold own at h h'; omega
theorem step_lit {α : Type} [Lay α] [SlTy α] [Inf α] {ops : Array Oper} {o : Oper} {a : Act} {K : Act → World → Prop} {Q : Exit → Act → World → Prop} {E : Prop} {w : World} (hgd : o.guard = none) (s x : Operand)
    (ho : o.op = .call { callee := .builtin .append, args := #[s, x], argTypes := #[SlTy.st α, SlTy.st α] })
    {A2 : Option Addr} {b c2 m : Nat} {ys : List α} {S2 : Blks} {md : Bool} [Flat α] (hs : a.eval s = .slice (some ⟨b, 0, none⟩) 0 0)
    (hx : a.eval x = .slice A2 m c2) (hm : m = ys.length) (hl : w.heap[b]? = some (.cells #[] (ty α))) (hsrc : Row md w A2 c2 ys S2) (hb : m ≤ 4000000000)
    (h : ∀ A' cap' w', m ≤ cap' → cap' ≤ maxLen → Row true w' A' cap' ys (own b w.heap.size w'.heap.size) → Chg (fun y => y = b) w w' → K (a.put o.dst (.slice A' m cap')) w') :
    if Region.wanted o (yielded ops a.tmps) = true then Oper.wp Tryz.prog o a w K Q else E := by
  refine step_app (α := α) (xs := []) (ys := ys) hgd s x ho hs rfl (row_litat w (ty α) b rfl hl) (by simp) (by decide) hx hm (Src.flat hsrc) (disj_none_ _) (by omega) ?_
  intro A' cap' w' h1 h2 h3 h4
  have := h A' cap' w' (by omega) h2 (by simpa using h3.mono (fun y h => h.elim .inl (fun h => h.elim (fun h => h.elim) .inr))) h4
  simpa using this
theorem Row.viaChg {α : Type} [Lay α] {m : Bool} {w1 wp w2 : World} {A : Option Addr} {cap : Nat} {xs : List α} {S T : Blks} (hr : Row m w1 A cap xs T) (hb : Below w1.heap.size w1 wp) (hc : Chg S wp w2) (hd : ∀ b, T b → b < w1.heap.size → ¬ S b) : Row m w2 A cap xs T :=
  (hr.tight.keep (fun b x => (hc.block b (Nat.lt_of_lt_of_le x.2 hb.size) (hd b x.1 x.2)).trans (hb.block b x.2))).mono (fun b x => x.1)
set_option maxRecDepth 20000 in set_option maxHeartbeats 4000000 in
theorem impl_copyTexts (w : World) (xs : List ByteArray) (A0 : Option Addr) (cap0 : Nat) (S : Blks) (hx : Row false w A0 cap0 xs S) (hl : xs.length ≤ 2000000000) : Calls Tryz.prog 81 #[.slice A0 xs.length cap0] w fun e w' => ∃ A' cap', e = .returned (.slice A' xs.length cap') ∧ xs.length ≤ cap' ∧ cap' ≤ maxLen ∧ Row true w' A' cap' xs (rng w.heap.size w'.heap.size) ∧ Below w.heap.size w w' := by
  go_enter Tryz.func81, Tryz.ntmps81
  go_wp2_with (at_builtin; refine wpList_app (α := ByteArray) rfl _ _ rfl rfl rfl (row_nil _ none_) (by simp) (by decide) rfl rfl (Src.flat hx) (disj_none_ _) (by simp; omega) ?_; intro A' cap' w' h1 h2 h3 h4)
  go_ret
  exact ⟨A', cap', ret_slice (by simp), by simpa using h1, h2, by simpa using row_up h3 (B := w.heap.size) (fun b h => h.elim) (fun b h => h.elim) (Nat.le_refl _), h4.to_below (Nat.le_refl _) (fun b h => h.elim)⟩

set_option maxRecDepth 20000 in set_option maxHeartbeats 4000000 in
theorem impl_copySig (w : World) (x : Sig) (cs : List Value) (S : Blks) (hx : rd false w cs x S) (l0 : x.open_.length ≤ 1048576) (l1 : x.shut.length ≤ 1048576) (l2 : x.sides.length ≤ 1048576) : Calls Tryz.prog 190 #[.agg cs.toArray] w fun e w' => ∃ A0 k0 A1 k1 A2 k2, e = .returned (.agg #[.int .i64 x.at_, .slice A0 x.open_.length k0, .slice A1 x.shut.length k1, .slice A2 x.sides.length k2]) ∧ rd true w' (Sig.cs x A0 k0 A1 k1 A2 k2) x (rng w.heap.size w'.heap.size) ∧ Below w.heap.size w w' := by
  obtain ⟨A0, k0, S0, A1, k1, S1, A2, k2, S2, rfl, f0, a0, b0, r0, s0, a1, b1, r1, s1, a2, b2, r2, s2, pw⟩ := Sig.open hx
  clear hx s0 s1 s2 pw
  simp only [Sig.cs]
  go_enter Tryz.func190, Tryz.ntmps190
  go_wp2_with (fail)
  generalize hW1 : w.alloc (.cells #[_, _, _, _] _) = W1
  have hwW1 : Below w.heap.size w W1 := by rw [← hW1]; exact (Below.refl _ _).alloc (Nat.le_refl _) _
  have hWs1 : W1.heap.size = w.heap.size + 1 := by rw [← hW1]; simp
  have q0 : W1.cell? ⟨w.heap.size, 0, none⟩ = some (.int .i64 x.at_) := by rw [← hW1]; exact box_cell _ _ _ _ _ rfl
  have q1 : W1.cell? ⟨w.heap.size, 1, none⟩ = some (.slice A0 x.open_.length k0) := by rw [← hW1]; exact box_cell _ _ _ _ _ rfl
  have q2 : W1.cell? ⟨w.heap.size, 2, none⟩ = some (.slice A1 x.shut.length k1) := by rw [← hW1]; exact box_cell _ _ _ _ _ rfl
  have q3 : W1.cell? ⟨w.heap.size, 3, none⟩ = some (.slice A2 x.sides.length k2) := by rw [← hW1]; exact box_cell _ _ _ _ _ rfl
  clear hW1
  generalize hW : W1.alloc (.cells #[_, _, _, _] _) = W
  have hWW : Below W1.heap.size W1 W := by rw [← hW]; exact (Below.refl _ _).alloc (Nat.le_refl _) _
  have hWs : W.heap.size = W1.heap.size + 1 := by rw [← hW]; simp
  have z0 : W.cell? ⟨w.heap.size + 1, 0, none⟩ = some (.int .i64 0) := by rw [← hWs1, ← hW]; exact box_cell _ _ _ _ _ rfl
  have z1 : W.cell? ⟨w.heap.size + 1, 1, none⟩ = some (.slice none 0 0) := by rw [← hWs1, ← hW]; exact box_cell _ _ _ _ _ rfl
  have z2 : W.cell? ⟨w.heap.size + 1, 2, none⟩ = some (.slice none 0 0) := by rw [← hWs1, ← hW]; exact box_cell _ _ _ _ _ rfl
  have z3 : W.cell? ⟨w.heap.size + 1, 3, none⟩ = some (.slice none 0 0) := by rw [← hWs1, ← hW]; exact box_cell _ _ _ _ _ rfl
  have zf : ∀ o, W.frozen? ⟨w.heap.size + 1, o, none⟩ = false := by intro o; rw [← hWs1, ← hW]; simp
  clear hW
  have hWl : W1.heap.size ≤ W.heap.size := by omega
  have hB := Below.refl W.heap.size W
  have HM := Lib.hid (fun (w' : World) (h : Below W1.heap.size W1 w') => (⟨(h.cell (p := ⟨w.heap.size, 0, none⟩) (show w.heap.size < W1.heap.size by omega)).trans q0, (h.cell (p := ⟨w.heap.size, 1, none⟩) (show w.heap.size < W1.heap.size by omega)).trans q1, (h.cell (p := ⟨w.heap.size, 2, none⟩) (show w.heap.size < W1.heap.size by omega)).trans q2, (h.cell (p := ⟨w.heap.size, 3, none⟩) (show w.heap.size < W1.heap.size by omega)).trans q3, h⟩ : w'.cell? ⟨w.heap.size, 0, none⟩ = some (.int .i64 x.at_) ∧ w'.cell? ⟨w.heap.size, 1, none⟩ = some (.slice A0 x.open_.length k0) ∧ w'.cell? ⟨w.heap.size, 2, none⟩ = some (.slice A1 x.shut.length k1) ∧ w'.cell? ⟨w.heap.size, 3, none⟩ = some (.slice A2 x.sides.length k2) ∧ Below W1.heap.size W1 w'))
  have hwW := hwW1.trans (hWW.mono (by omega))
  go_region_held3 (fun w' => w'.cell? ⟨w.heap.size, 0, none⟩ = some (.int .i64 x.at_) ∧ w'.cell? ⟨w.heap.size, 1, none⟩ = some (.slice A0 x.open_.length k0) ∧ w'.cell? ⟨w.heap.size, 2, none⟩ = some (.slice A1 x.shut.length k1) ∧ w'.cell? ⟨w.heap.size, 3, none⟩ = some (.slice A2 x.sides.length k2) ∧ Below W1.heap.size W1 w')
      (first | exact HM.out _ (by (repeat (first | with_reducible exact hWW.trans (hB.mono hWl) | with_reducible apply Below.drew | with_reducible refine Below.alloc ?_ ?_ _ | with_reducible refine Below.setCell ?_ ?_ _)); all_goals (first | omega | (simp; done) | (simp; omega))))
      (first | (go_at_call 81; refine (impl_copyTexts _ x.open_ A0 k0 S0 (Row.later r0 (hwW.trans (Below.mono (by first | exact hB | exact hB.drew) (by omega)))) (by omega)).mono ?_; rintro e1 w1 ⟨B0, j0, rfl, g0, h0, n0, hb1⟩; have hs1 := hb1.size; (try simp at hs1); have hB := Below.step (a := W) (by first | exact hB | exact hB.drew) hb1) | (go_at_call 81; refine (impl_copyTexts _ x.shut A1 k1 S1 (Row.later r1 (hwW.trans (Below.mono (by first | exact hB | exact hB.drew) (by omega)))) (by omega)).mono ?_; rintro e2 w2 ⟨B1, j1, rfl, g1, h1, n1, hb2⟩; have hs2 := hb2.size; (try simp at hs2); have hB := Below.step (a := W) (by first | exact hB | exact hB.drew) hb2) | (go_at_call 81; refine (impl_copyTexts _ x.sides A2 k2 S2 (Row.later r2 (hwW.trans (Below.mono (by first | exact hB | exact hB.drew) (by omega)))) (by omega)).mono ?_; rintro e3 w3 ⟨B2, j2, rfl, g2, h2, n2, hb3⟩; have hs3 := hb3.size; (try simp at hs3); have hB := Below.step (a := W) (by first | exact hB | exact hB.drew) hb3; have y20 := (hB.cell (p := ⟨w.heap.size + 1, 0, none⟩) (show w.heap.size + 1 < W.heap.size by omega)).trans z0; have y21 := (hB.cell (p := ⟨w.heap.size + 1, 1, none⟩) (show w.heap.size + 1 < W.heap.size by omega)).trans z1; have y22 := (hB.cell (p := ⟨w.heap.size + 1, 2, none⟩) (show w.heap.size + 1 < W.heap.size by omega)).trans z2; have y23 := (hB.cell (p := ⟨w.heap.size + 1, 3, none⟩) (show w.heap.size + 1 < W.heap.size by omega)).trans z3; have yf2 := fun o => (hB.frozen (p := ⟨w.heap.size + 1, o, none⟩) (show w.heap.size + 1 < W.heap.size by omega)).trans (zf o)))
  go_wp2
  refine bodyPost_ret (v := .agg #[.int .i64 x.at_, .slice B0 x.open_.length j0, .slice B1 x.shut.length j1, .slice B2 x.sides.length j2]) (by simp [results, Tryz.results190, go_sem, *]) rfl ?_
  replace n0 := (Row.later (Row.later n0 hb2) hb3).mono (S' := rng W.heap.size w1.heap.size) (fun b h => by unfold rng at h ⊢; (try simp at h); omega)
  replace n1 := (Row.later n1 hb3).mono (S' := rng w1.heap.size w2.heap.size) (fun b h => by unfold rng at h ⊢; (try simp at h); omega)
  replace n2 := n2.mono (S' := rng w2.heap.size w3.heap.size) (fun b h => by unfold rng at h ⊢; (try simp at h); omega)
  exact ⟨B0, j0, B1, j1, B2, j2, rfl, Sig.mk' f0 g0 h0 (by (repeat (first | with_reducible exact n0 | with_reducible apply Row.drewC | with_reducible refine Row.allocC ?_ _ | with_reducible refine Row.setC ?_ ?_ _)); all_goals (intro h; unfold rng at h; (try simp at h); omega)) (fun b h => by unfold rng at h ⊢; simp; omega) g1 h1 (by (repeat (first | with_reducible exact n1 | with_reducible apply Row.drewC | with_reducible refine Row.allocC ?_ _ | with_reducible refine Row.setC ?_ ?_ _)); all_goals (intro h; unfold rng at h; (try simp at h); omega)) (fun b h => by unfold rng at h ⊢; simp; omega) g2 h2 (by (repeat (first | with_reducible exact n2 | with_reducible apply Row.drewC | with_reducible refine Row.allocC ?_ _ | with_reducible refine Row.setC ?_ ?_ _)); all_goals (intro h; unfold rng at h; (try simp at h); omega)) (fun b h => by unfold rng at h ⊢; simp; omega) (fun _ => pwmk3 (rngD (by omega)) (rngD (by omega)) (rngD (by omega))), Below.trans hwW1 (Below.mono (show Below W1.heap.size W1 _ from (by (repeat (first | with_reducible exact hWW.trans (hB.mono hWl) | with_reducible apply Below.drew | with_reducible refine Below.alloc ?_ ?_ _ | with_reducible refine Below.setCell ?_ ?_ _)); all_goals (first | omega | (simp; done) | (simp; omega)))) (by omega))⟩

set_option maxRecDepth 20000 in set_option maxHeartbeats 4000000 in
theorem impl_copySeal (w : World) (x : Seal) (cs : List Value) (S : Blks) (hx : rd false w cs x S) (l0 : x.sig.open_.length ≤ 1048576) (l1 : x.sig.shut.length ≤ 1048576) (l2 : x.sig.sides.length ≤ 1048576) : Calls Tryz.prog 152 #[.agg cs.toArray] w fun e w' => ∃ A0 k0 A1 k1 A2 k2, e = .returned (.agg #[.int .i64 x.head.house, .int .i64 x.head.epoch, .string x.head.root, .string x.head.prev, .int .i64 x.sig.at_, .slice A0 x.sig.open_.length k0, .slice A1 x.sig.shut.length k1, .slice A2 x.sig.sides.length k2]) ∧ rd true w' (Seal.cs x A0 k0 A1 k1 A2 k2) x (rng w.heap.size w'.heap.size) ∧ Below w.heap.size w w' := by
  obtain ⟨A0, k0, S0, A1, k1, S1, A2, k2, S2, rfl, f0, f1, f2, f3, f4, a0, b0, r0, s0, a1, b1, r1, s1, a2, b2, r2, s2, pw⟩ := Seal.open hx
  clear hx s0 s1 s2 pw
  simp only [Seal.cs]
  go_enter Tryz.func152, Tryz.ntmps152
  go_wp2_with (fail)
  generalize hW1 : w.alloc (.cells #[_, _, _, _, _, _, _, _] _) = W1
  have hwW1 : Below w.heap.size w W1 := by rw [← hW1]; exact (Below.refl _ _).alloc (Nat.le_refl _) _
  have hWs1 : W1.heap.size = w.heap.size + 1 := by rw [← hW1]; simp
  have q0 : W1.cell? ⟨w.heap.size, 0, none⟩ = some (.int .i64 x.head.house) := by rw [← hW1]; exact box_cell _ _ _ _ _ rfl
  have q1 : W1.cell? ⟨w.heap.size, 1, none⟩ = some (.int .i64 x.head.epoch) := by rw [← hW1]; exact box_cell _ _ _ _ _ rfl
  have q2 : W1.cell? ⟨w.heap.size, 2, none⟩ = some (.string x.head.root) := by rw [← hW1]; exact box_cell _ _ _ _ _ rfl
  have q3 : W1.cell? ⟨w.heap.size, 3, none⟩ = some (.string x.head.prev) := by rw [← hW1]; exact box_cell _ _ _ _ _ rfl
  have q4 : W1.cell? ⟨w.heap.size, 4, none⟩ = some (.int .i64 x.sig.at_) := by rw [← hW1]; exact box_cell _ _ _ _ _ rfl
  have q5 : W1.cell? ⟨w.heap.size, 5, none⟩ = some (.slice A0 x.sig.open_.length k0) := by rw [← hW1]; exact box_cell _ _ _ _ _ rfl
  have q6 : W1.cell? ⟨w.heap.size, 6, none⟩ = some (.slice A1 x.sig.shut.length k1) := by rw [← hW1]; exact box_cell _ _ _ _ _ rfl
  have q7 : W1.cell? ⟨w.heap.size, 7, none⟩ = some (.slice A2 x.sig.sides.length k2) := by rw [← hW1]; exact box_cell _ _ _ _ _ rfl
  clear hW1
  generalize hW : W1.alloc (.cells #[_, _, _, _, _, _, _, _] _) = W
  have hWW : Below W1.heap.size W1 W := by rw [← hW]; exact (Below.refl _ _).alloc (Nat.le_refl _) _
  have hWs : W.heap.size = W1.heap.size + 1 := by rw [← hW]; simp
  have z0 : W.cell? ⟨w.heap.size + 1, 0, none⟩ = some (.int .i64 0) := by rw [← hWs1, ← hW]; exact box_cell _ _ _ _ _ rfl
  have z1 : W.cell? ⟨w.heap.size + 1, 1, none⟩ = some (.int .i64 0) := by rw [← hWs1, ← hW]; exact box_cell _ _ _ _ _ rfl
  have z2 : W.cell? ⟨w.heap.size + 1, 2, none⟩ = some (.string ⟨#[]⟩) := by rw [← hWs1, ← hW]; exact box_cell _ _ _ _ _ rfl
  have z3 : W.cell? ⟨w.heap.size + 1, 3, none⟩ = some (.string ⟨#[]⟩) := by rw [← hWs1, ← hW]; exact box_cell _ _ _ _ _ rfl
  have z4 : W.cell? ⟨w.heap.size + 1, 4, none⟩ = some (.int .i64 0) := by rw [← hWs1, ← hW]; exact box_cell _ _ _ _ _ rfl
  have z5 : W.cell? ⟨w.heap.size + 1, 5, none⟩ = some (.slice none 0 0) := by rw [← hWs1, ← hW]; exact box_cell _ _ _ _ _ rfl
  have z6 : W.cell? ⟨w.heap.size + 1, 6, none⟩ = some (.slice none 0 0) := by rw [← hWs1, ← hW]; exact box_cell _ _ _ _ _ rfl
  have z7 : W.cell? ⟨w.heap.size + 1, 7, none⟩ = some (.slice none 0 0) := by rw [← hWs1, ← hW]; exact box_cell _ _ _ _ _ rfl
  have zf : ∀ o, W.frozen? ⟨w.heap.size + 1, o, none⟩ = false := by intro o; rw [← hWs1, ← hW]; simp
  clear hW
  have hWl : W1.heap.size ≤ W.heap.size := by omega
  have hB := Below.refl W.heap.size W
  have HM := Lib.hid (fun (w' : World) (h : Below W1.heap.size W1 w') => (⟨(h.cell (p := ⟨w.heap.size, 0, none⟩) (show w.heap.size < W1.heap.size by omega)).trans q0, (h.cell (p := ⟨w.heap.size, 1, none⟩) (show w.heap.size < W1.heap.size by omega)).trans q1, (h.cell (p := ⟨w.heap.size, 2, none⟩) (show w.heap.size < W1.heap.size by omega)).trans q2, (h.cell (p := ⟨w.heap.size, 3, none⟩) (show w.heap.size < W1.heap.size by omega)).trans q3, (h.cell (p := ⟨w.heap.size, 4, none⟩) (show w.heap.size < W1.heap.size by omega)).trans q4, (h.cell (p := ⟨w.heap.size, 5, none⟩) (show w.heap.size < W1.heap.size by omega)).trans q5, (h.cell (p := ⟨w.heap.size, 6, none⟩) (show w.heap.size < W1.heap.size by omega)).trans q6, (h.cell (p := ⟨w.heap.size, 7, none⟩) (show w.heap.size < W1.heap.size by omega)).trans q7, h⟩ : w'.cell? ⟨w.heap.size, 0, none⟩ = some (.int .i64 x.head.house) ∧ w'.cell? ⟨w.heap.size, 1, none⟩ = some (.int .i64 x.head.epoch) ∧ w'.cell? ⟨w.heap.size, 2, none⟩ = some (.string x.head.root) ∧ w'.cell? ⟨w.heap.size, 3, none⟩ = some (.string x.head.prev) ∧ w'.cell? ⟨w.heap.size, 4, none⟩ = some (.int .i64 x.sig.at_) ∧ w'.cell? ⟨w.heap.size, 5, none⟩ = some (.slice A0 x.sig.open_.length k0) ∧ w'.cell? ⟨w.heap.size, 6, none⟩ = some (.slice A1 x.sig.shut.length k1) ∧ w'.cell? ⟨w.heap.size, 7, none⟩ = some (.slice A2 x.sig.sides.length k2) ∧ Below W1.heap.size W1 w'))
  have hwW := hwW1.trans (hWW.mono (by omega))
  go_region_held3 (fun w' => w'.cell? ⟨w.heap.size, 0, none⟩ = some (.int .i64 x.head.house) ∧ w'.cell? ⟨w.heap.size, 1, none⟩ = some (.int .i64 x.head.epoch) ∧ w'.cell? ⟨w.heap.size, 2, none⟩ = some (.string x.head.root) ∧ w'.cell? ⟨w.heap.size, 3, none⟩ = some (.string x.head.prev) ∧ w'.cell? ⟨w.heap.size, 4, none⟩ = some (.int .i64 x.sig.at_) ∧ w'.cell? ⟨w.heap.size, 5, none⟩ = some (.slice A0 x.sig.open_.length k0) ∧ w'.cell? ⟨w.heap.size, 6, none⟩ = some (.slice A1 x.sig.shut.length k1) ∧ w'.cell? ⟨w.heap.size, 7, none⟩ = some (.slice A2 x.sig.sides.length k2) ∧ Below W1.heap.size W1 w')
      (first | exact HM.out _ (by (repeat (first | with_reducible exact hWW.trans (hB.mono hWl) | with_reducible apply Below.drew | with_reducible refine Below.alloc ?_ ?_ _ | with_reducible refine Below.setCell ?_ ?_ _)); all_goals (first | omega | (simp; done) | (simp; omega))))
      (first | (go_at_call 190; refine (impl_copySig _ x.sig _ (un S0 (un S1 S2)) (Sig.mk' (m := false) f4 a0 b0 (Row.later r0 (hwW.trans (Below.mono (by first | exact hB | exact hB.drew) (by omega)))) (un_left _ _) a1 b1 (Row.later r1 (hwW.trans (Below.mono (by first | exact hB | exact hB.drew) (by omega)))) (sub_trans (un_left _ _) (un_right _ _)) a2 b2 (Row.later r2 (hwW.trans (Below.mono (by first | exact hB | exact hB.drew) (by omega)))) (sub_trans (un_right _ _) (un_right _ _)) (by simp)) l0 l1 l2).mono ?_; rintro e1 w1 ⟨B0, j0, B1, j1, B2, j2, rfl, hr, hb1⟩; have hs1 := hb1.size; (try simp at hs1); have hB := Below.step (a := W) (by first | exact hB | exact hB.drew) hb1; have y00 := (hB.cell (p := ⟨w.heap.size + 1, 0, none⟩) (show w.heap.size + 1 < W.heap.size by omega)).trans z0; have y01 := (hB.cell (p := ⟨w.heap.size + 1, 1, none⟩) (show w.heap.size + 1 < W.heap.size by omega)).trans z1; have y02 := (hB.cell (p := ⟨w.heap.size + 1, 2, none⟩) (show w.heap.size + 1 < W.heap.size by omega)).trans z2; have y03 := (hB.cell (p := ⟨w.heap.size + 1, 3, none⟩) (show w.heap.size + 1 < W.heap.size by omega)).trans z3; have y04 := (hB.cell (p := ⟨w.heap.size + 1, 4, none⟩) (show w.heap.size + 1 < W.heap.size by omega)).trans z4; have y05 := (hB.cell (p := ⟨w.heap.size + 1, 5, none⟩) (show w.heap.size + 1 < W.heap.size by omega)).trans z5; have y06 := (hB.cell (p := ⟨w.heap.size + 1, 6, none⟩) (show w.heap.size + 1 < W.heap.size by omega)).trans z6; have y07 := (hB.cell (p := ⟨w.heap.size + 1, 7, none⟩) (show w.heap.size + 1 < W.heap.size by omega)).trans z7; have yf0 := fun o => (hB.frozen (p := ⟨w.heap.size + 1, o, none⟩) (show w.heap.size + 1 < W.heap.size by omega)).trans (zf o)))
  go_wp2
  refine bodyPost_ret (v := .agg #[.int .i64 x.head.house, .int .i64 x.head.epoch, .string x.head.root, .string x.head.prev, .int .i64 x.sig.at_, .slice B0 x.sig.open_.length j0, .slice B1 x.sig.shut.length j1, .slice B2 x.sig.sides.length j2]) (by simp [results, Tryz.results152, go_sem, *]) rfl ?_
  obtain ⟨C0, i0, T0, C1, i1, T1, C2, i2, T2, hcs, _, u0, v0, n0, m0, u1, v1, n1, m1, u2, v2, n2, m2, pw⟩ := Sig.open hr
  simp only [Sig.cs, List.cons.injEq, Value.slice.injEq, and_true, true_and] at hcs
  obtain ⟨⟨rfl, rfl⟩, ⟨rfl, rfl⟩, ⟨rfl, rfl⟩⟩ := hcs
  replace n0 := n0.mono (S' := fun b => T0 b ∧ rng W.heap.size w1.heap.size b) (fun b x => ⟨x, by have := m0 b x; unfold rng at this ⊢; (try simp at this); omega⟩)
  replace n1 := n1.mono (S' := fun b => T1 b ∧ rng W.heap.size w1.heap.size b) (fun b x => ⟨x, by have := m1 b x; unfold rng at this ⊢; (try simp at this); omega⟩)
  replace n2 := n2.mono (S' := fun b => T2 b ∧ rng W.heap.size w1.heap.size b) (fun b x => ⟨x, by have := m2 b x; unfold rng at this ⊢; (try simp at this); omega⟩)
  have pw2 := pw rfl
  exact ⟨B0, j0, B1, j1, B2, j2, rfl, Seal.mk' (S0 := fun b => T0 b ∧ rng W.heap.size w1.heap.size b) (S1 := fun b => T1 b ∧ rng W.heap.size w1.heap.size b) (S2 := fun b => T2 b ∧ rng W.heap.size w1.heap.size b) f0 f1 f2 f3 f4 u0 v0 (by (repeat (first | with_reducible exact n0 | with_reducible apply Row.drewC | with_reducible refine Row.allocC ?_ _ | with_reducible refine Row.setC ?_ ?_ _)); all_goals (intro h; have h2 : rng W.heap.size w1.heap.size _ := h.2; unfold rng at h2; (try simp at h2); omega)) (fun b h => by have h2 : rng W.heap.size w1.heap.size b := h.2; unfold rng at h2 ⊢; simp; omega) u1 v1 (by (repeat (first | with_reducible exact n1 | with_reducible apply Row.drewC | with_reducible refine Row.allocC ?_ _ | with_reducible refine Row.setC ?_ ?_ _)); all_goals (intro h; have h2 : rng W.heap.size w1.heap.size _ := h.2; unfold rng at h2; (try simp at h2); omega)) (fun b h => by have h2 : rng W.heap.size w1.heap.size b := h.2; unfold rng at h2 ⊢; simp; omega) u2 v2 (by (repeat (first | with_reducible exact n2 | with_reducible apply Row.drewC | with_reducible refine Row.allocC ?_ _ | with_reducible refine Row.setC ?_ ?_ _)); all_goals (intro h; have h2 : rng W.heap.size w1.heap.size _ := h.2; unfold rng at h2; (try simp at h2); omega)) (fun b h => by have h2 : rng W.heap.size w1.heap.size b := h.2; unfold rng at h2 ⊢; simp; omega) (fun _ => pwmk3 (disj_sub (pwget3_0_1 pw2) (fun b x => x.1) (fun b x => x.1)) (disj_sub (pwget3_0_2 pw2) (fun b x => x.1) (fun b x => x.1)) (disj_sub (pwget3_1_2 pw2) (fun b x => x.1) (fun b x => x.1))), Below.trans hwW1 (Below.mono (show Below W1.heap.size W1 _ from (by (repeat (first | with_reducible exact hWW.trans (hB.mono hWl) | with_reducible apply Below.drew | with_reducible refine Below.alloc ?_ ?_ _ | with_reducible refine Below.setCell ?_ ?_ _)); all_goals (first | omega | (simp; done) | (simp; omega)))) (by omega))⟩

end Go.Proofs.YtlfnmbcnehaikaaGreatDoor
