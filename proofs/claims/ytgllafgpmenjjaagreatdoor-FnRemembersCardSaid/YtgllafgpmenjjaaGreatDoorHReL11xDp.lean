/- A part of the proof: what the laws need of it. -/
import Derived.Test.YtgllafgpmenjjaaGreatDoorHReL10xDt
import Derived.Test.YtgllafgpmenjjaaGreatDoorHReL9xBy
import Derived.BigQuiet
import Derived.Test.YtgllafgpmenjjaaGreatDoorHReL8xRd
set_option linter.unusedVariables false
set_option linter.unusedSimpArgs false
set_option linter.unusedVariables false
set_option linter.unusedSimpArgs false
namespace Go.Proofs.YtgllafgpmenjjaaGreatDoor
open Go.RowKit Lay Mk
structure S8 where
  (a b c d e f g h : Int)
def S8.l (s : S8) : List Int := [s.a, s.b, s.c, s.d, s.e, s.f, s.g, s.h]
def W32 (x : Int) : Prop := 0 ≤ x ∧ x < 4294967296
structure S8.Ok (s : S8) : Prop where
  a : W32 s.a
  b : W32 s.b
  c : W32 s.c
  d : W32 s.d
  e : W32 s.e
  f : W32 s.f
  g : W32 s.g
  h : W32 s.h
def xr (a b : Int) : Int := bits .xor .u32 a b
def an (a b : Int) : Int := bits .and .u32 a b
def ad (a b : Int) : Int := (a + b) % 4294967296
theorem ad_lt (a b : Int) : W32 (ad a b) := by unfold W32 ad; omega
def sg0 (x : Int) : Int := xr (xr (rotI 7 x) (rotI 18 x)) (x / 8)
def sg1 (x : Int) : Int := xr (xr (rotI 17 x) (rotI 19 x)) (x / 1024)
def up0 (x : Int) : Int := xr (xr (rotI 2 x) (rotI 13 x)) (rotI 22 x)
def up1 (x : Int) : Int := xr (xr (rotI 6 x) (rotI 11 x)) (rotI 25 x)
def chs (e f g : Int) : Int := xr (an e f) (an (xr e 4294967295) g)
def maj (a b c : Int) : Int := xr (xr (an a b) (an a c)) (an b c)
def b32 (b : ByteArray) (i : Nat) : Int := (b.data.getD i 0).toNat
def wordOf (a b c d : Int) : Int := bits .or .u32 (bits .or .u32 (bits .or .u32 (IntKind.u32.wrap (IntKind.u32.wrap a * 16777216)) (IntKind.u32.wrap (IntKind.u32.wrap b * 65536))) (IntKind.u32.wrap (IntKind.u32.wrap c * 256))) (IntKind.u32.wrap d)
def word (b : ByteArray) (i : Nat) : Int := wordOf (b32 b (4 * i)) (b32 b (4 * i + 1)) (b32 b (4 * i + 2)) (b32 b (4 * i + 3))
def wsum (a b c d : Int) : Int := (a + b + c + d) % 4294967296
theorem wsum_lt (a b c d : Int) : W32 (wsum a b c d) := by unfold W32 wsum; omega
def wnext (l : List Int) (i : Nat) : Int := wsum (l.getD (i - 16) 0) (sg0 (l.getD (i - 15) 0)) (l.getD (i - 7) 0) (sg1 (l.getD (i - 2) 0))
def sch (b : ByteArray) : Nat → List Int
  | 0 => []
  | i + 1 => sch b i ++ [if i < 16 then word b i else wnext (sch b i) i]
def tmpT (s : S8) (k w : Int) : Int := s.h + up1 s.e + chs s.e s.f s.g + k + w
def tmpU (s : S8) : Int := up0 s.a + maj s.a s.b s.c
def rnd (s : S8) (k w : Int) : S8 := ⟨ad (tmpT s k w) (tmpU s), s.a, s.b, s.c, ad s.d (tmpT s k w), s.e, s.f, s.g⟩
def shaKeys : List Int := [1116352408, 1899447441, 3049323471, 3921009573, 961987163, 1508970993, 2453635748, 2870763221, 3624381080, 310598401, 607225278, 1426881987, 1925078388, 2162078206, 2614888103, 3248222580, 3835390401, 4022224774, 264347078, 604807628, 770255983, 1249150122, 1555081692, 1996064986, 2554220882, 2821834349, 2952996808, 3210313671, 3336571891, 3584528711, 113926993, 338241895, 666307205, 773529912, 1294757372, 1396182291, 1695183700, 1986661051, 2177026350, 2456956037, 2730485921, 2820302411, 3259730800, 3345764771, 3516065817, 3600352804, 4094571909, 275423344, 430227734, 506948616, 659060556, 883997877, 958139571, 1322822218, 1537002063, 1747873779, 1955562222, 2024104815, 2227730452, 2361852424, 2428436474, 2756734187, 3204031479, 3329325298]
def shaFirst : S8 := ⟨1779033703, 3144134277, 1013904242, 2773480762, 1359893119, 2600822924, 528734635, 1541459225⟩
def rounds (s : S8) (ws : List Int) : Nat → S8
  | 0 => s
  | i + 1 => rnd (rounds s ws i) (shaKeys.getD i 0) (ws.getD i 0)
def adds (s t : S8) : S8 := ⟨ad s.a t.a, ad s.b t.b, ad s.c t.c, ad s.d t.d, ad s.e t.e, ad s.f t.f, ad s.g t.g, ad s.h t.h⟩
def comp (s : S8) (b : ByteArray) : S8 := adds s (rounds s (sch b 64) 64)
theorem adds_ok (s t : S8) : (adds s t).Ok := ⟨ad_lt _ _, ad_lt _ _, ad_lt _ _, ad_lt _ _, ad_lt _ _, ad_lt _ _, ad_lt _ _, ad_lt _ _⟩
theorem comp_ok (s : S8) (b : ByteArray) : (comp s b).Ok := adds_ok _ _
theorem first_ok : shaFirst.Ok := by constructor <;> (unfold W32 shaFirst; dsimp only; omega)
theorem rnd_ok {s : S8} (h : s.Ok) (k w : Int) : (rnd s k w).Ok := ⟨ad_lt _ _, h.a, h.b, h.c, ad_lt _ _, h.e, h.f, h.g⟩
theorem rounds_ok {s : S8} (h : s.Ok) (ws : List Int) : ∀ i, (rounds s ws i).Ok
  | 0 => h
  | i + 1 => rnd_ok (rounds_ok h ws i) _ _
theorem sch_len (b : ByteArray) : ∀ i, (sch b i).length = i
  | 0 => rfl
  | i + 1 => by simp [sch, sch_len b i]
theorem wnext_lt (l : List Int) (i : Nat) : W32 (wnext l i) := wsum_lt _ _ _ _
theorem word_lt (b : ByteArray) (i : Nat) : W32 (word b i) := by unfold word wordOf; exact bits32_lt _ _ _
theorem sch_lt (b : ByteArray) : ∀ i, ∀ x ∈ sch b i, W32 x
  | 0 => by simp [sch]
  | i + 1 => by
    intro x hx
    rcases List.mem_append.1 hx with hx | hx
    · exact sch_lt b i x hx
    · have hx : x = if i < 16 then word b i else wnext (sch b i) i := by simpa using hx
      subst hx
      split
      · exact word_lt _ _
      · exact wnext_lt _ _
theorem keys_len : shaKeys.length = 64 := rfl
theorem keys_lt : ∀ i, i < 64 → W32 (shaKeys.getD i 0) := by
  have : ∀ x ∈ shaKeys, W32 x := by unfold shaKeys W32; simp
  intro i hi
  rw [List.getD_eq_getElem?_getD, List.getElem?_eq_getElem (by rw [keys_len]; exact hi)]
  exact this _ (List.getElem_mem _)
def padz (l : List Int) (n : Nat) : List Int := l ++ List.replicate (n - l.length) 0
theorem padz_len {l : List Int} {n : Nat} (h : l.length ≤ n) : (padz l n).length = n := by simp [padz]; omega
theorem padz_get {l : List Int} {n i : Nat} (h : i < l.length) : (padz l n).getD i 0 = l.getD i 0 := by
  simp [padz, List.getD_eq_getElem?_getD, List.getElem?_append_left h]
theorem padz_set {l : List Int} {n : Nat} (h : l.length < n) (x : Int) : (padz l n).set l.length x = padz (l ++ [x]) n := by
  unfold padz
  rw [List.set_append_right _ _ (Nat.le_refl _), Nat.sub_self]
  obtain ⟨m, hm⟩ : ∃ m, n - l.length = m + 1 := ⟨n - l.length - 1, by omega⟩
  rw [hm, List.replicate_succ, List.set_cons_zero]
  simp only [List.append_assoc, List.cons_append, List.nil_append, List.length_append, List.length_cons, List.length_nil]
  rw [show n - (l.length + (0 + 1)) = m by omega]
theorem sch_put (b : ByteArray) {k : Nat} (hk : k < 64) (x : Int) : (padz (sch b k) 64).set k x = padz (sch b k ++ [x]) 64 := by
  have := padz_set (l := sch b k) (n := 64) (by rw [sch_len]; exact hk) x
  rwa [sch_len] at this
theorem sch_low (b : ByteArray) {k : Nat} (hk : k < 16) : sch b (k + 1) = sch b k ++ [word b k] := by simp only [sch, hk, if_true]
theorem sch_high (b : ByteArray) {k : Nat} (hk : ¬ k < 16) : sch b (k + 1) = sch b k ++ [wnext (sch b k) k] := by simp only [sch, hk, if_false]
theorem b32_at {b : ByteArray} {i : Nat} (h : i < b.size) : (b[i].toNat : Int) = b32 b i := by
  have : b.data.getD i 0 = b[i] := by unfold Array.getD; rw [dif_pos (show i < b.data.size from h)]; rfl
  unfold b32; rw [this]
theorem word_at {b : ByteArray} {k : Nat} (h : 4 * k + 3 < b.size) : wordOf b[4 * k].toNat b[4 * k + 1].toNat b[4 * k + 2].toNat b[4 * k + 3].toNat = word b k := by
  rw [b32_at, b32_at, b32_at, b32_at]; rfl
theorem getD_get {l : List Int} {i : Nat} (h : i < l.length) : l[i] = l.getD i 0 := by rw [List.getD_eq_getElem?_getD, List.getElem?_eq_getElem h]; rfl
def addk (s r : S8) (k : Nat) : List Int := (adds s r).l.take k ++ s.l.drop k
theorem addk_len (s r : S8) (k : Nat) : (addk s r k).length = 8 := by simp [addk, S8.l]; omega
theorem addk_all (s r : S8) : addk s r 8 = (adds s r).l := rfl
theorem addk_get {s r : S8} {k : Nat} (h : k < 8) : (addk s r k).getD k 0 = s.l.getD k 0 := by
  rcases (show k = 0 ∨ k = 1 ∨ k = 2 ∨ k = 3 ∨ k = 4 ∨ k = 5 ∨ k = 6 ∨ k = 7 by omega) with rfl | rfl | rfl | rfl | rfl | rfl | rfl | rfl <;> rfl
theorem addk_set {s r : S8} {k : Nat} (h : k < 8) : (addk s r k).set k ((s.l.getD k 0 + r.l.getD k 0) % 4294967296) = addk s r (k + 1) := by
  rcases (show k = 0 ∨ k = 1 ∨ k = 2 ∨ k = 3 ∨ k = 4 ∨ k = 5 ∨ k = 6 ∨ k = 7 by omega) with rfl | rfl | rfl | rfl | rfl | rfl | rfl | rfl <;> rfl
end Go.Proofs.YtgllafgpmenjjaaGreatDoor

set_option linter.unusedVariables false
set_option linter.unusedSimpArgs false
namespace Go.Proofs.YtgllafgpmenjjaaGreatDoor
open Go.RowKit Lay Mk
structure Own {α : Type} [Lay α] (w0 w : World) (A : Option Addr) (c : Nat) (L : List α) : Prop where
  row : Row true w A c L (nw w0.heap.size)
  le : L.length ≤ c
  cm : c ≤ maxLen
  bl : Below w0.heap.size w0 w
theorem Own.size {α : Type} [Lay α] {w0 w : World} {A : Option Addr} {c : Nat} {L : List α} (h : Own w0 w A c L) : w0.heap.size ≤ w.heap.size := h.bl.size
theorem Own.start {α : Type} [Lay α] {w0 w : World} (h : Below w0.heap.size w0 w) : Own (α := α) w0 w none 0 [] := ⟨row_nil _ _, by simp, by decide, h⟩
theorem Own.lit {α : Type} [Lay α] {w0 w : World} (h : Below w0.heap.size w0 w) (t : TypeId) (ht : t = ty α) : Own (α := α) w0 (w.alloc (.cells #[] t)) (some ⟨w.heap.size, 0, none⟩) 0 [] :=
  ⟨row_lit0 w t _ ht h.size, by simp, by decide, h.alloc h.size _⟩
theorem Own.litAt {α : Type} [Lay α] {w0 w : World} (h : Below w0.heap.size w0 w) (t : TypeId) (ht : t = ty α) {b : Nat} (hb : b = w.heap.size) : Own (α := α) w0 (w.alloc (.cells #[] t)) (some ⟨b, 0, none⟩) 0 [] := by subst hb; exact Own.lit h t ht
theorem Own.later {α : Type} [Lay α] {w0 w w' : World} {A : Option Addr} {c : Nat} {L : List α} (h : Own w0 w A c L) (hb : Below w.heap.size w w') : Own w0 w' A c L :=
  ⟨Row.later h.row hb, h.le, h.cm, h.bl.trans (hb.mono h.bl.size)⟩
theorem Own.alloc {α : Type} [Lay α] {w0 w : World} {A : Option Addr} {c : Nat} {L : List α} (h : Own w0 w A c L) (o : Obj) : Own w0 (w.alloc o) A c L := h.later ((Below.refl _ _).alloc (Nat.le_refl _) _)
theorem Own.drew {α : Type} [Lay α] {w0 w : World} {A : Option Addr} {c : Nat} {L : List α} (h : Own w0 w A c L) : Own w0 w.drew A c L := h.later ((Below.refl _ _).drew)
theorem Own.from {α : Type} [Lay α] {w0 w1 w : World} {A : Option Addr} {c : Nat} {L : List α} (h : Own w1 w A c L) (hb : Below w0.heap.size w0 w1) : Own w0 w A c L :=
  ⟨h.row.mono (fun _ x => Nat.le_trans hb.size x), h.le, h.cm, hb.trans (h.bl.mono hb.size)⟩
theorem Own.rng {α : Type} [Lay α] {w0 w : World} {A : Option Addr} {c : Nat} {L : List α} (h : Own w0 w A c L) : Row true w A c L (rng w0.heap.size w.heap.size) := to_rng h.row
theorem Own.weak {α : Type} [Lay α] {w0 w : World} {A : Option Addr} {c : Nat} {L : List α} (h : Own w0 w A c L) : Row false w A c L (nw w0.heap.size) := h.row.weak
theorem wpList_push {α : Type} [Lay α] [SlTy α] [Inf α] {ops : Array Oper} {rest : List Oper} {o : Oper} {a : Act} {Q : Exit → Act → World → Prop} {w0 w : World} (hgd : o.guard = none) (s x : Operand)
    (ho : o.op = .call { callee := .builtin .append, args := #[s, x], argTypes := #[SlTy.st α, SlTy.st α] })
    {A A2 : Option Addr} {c c2 k m : Nat} {L ys : List α} (hs : a.eval s = .slice A k c) (hk : k = L.length) (own : Own w0 w A c L)
    (hx : a.eval x = .slice A2 m c2) (hm : m = ys.length) (hsrc : Src w A2 ys none_) (hb : k + m ≤ 4000000000)
    (h : ∀ A' c' w', Own w0 w' A' c' (L ++ ys) → w.heap.size ≤ w'.heap.size → wpList Tryz.prog ops Q rest (a.put o.dst (.slice A' (k + m) c')) w') :
    wpList Tryz.prog ops Q (o :: rest) a w := by
  subst hk; subst hm
  refine wpList_app (α := α) hgd s x ho hs rfl own.row own.le own.cm hx rfl hsrc (disj_none_ _) hb ?_
  intro A' c' w' h1 h2 h3 h4
  exact h A' c' w' ⟨row_og h3 (fun b hb => Nat.le_trans own.size hb), by rw [List.length_append]; exact h1, h2, own.bl.trans (h4.to_below own.size (fun b hb => hb))⟩ h4.size
theorem srcR {α : Type} [Lay α] (w : World) (y : α) (cs : Array Value) (t : TypeId) (b : Nat) (hb : b = w.heap.size) {T : Blks} (h : rd true w cs.toList y T) : Src (w.alloc (.cells cs t)) (some ⟨b, 0, none⟩) [y] (fun b => T b ∧ b < w.heap.size) := by
  subst hb
  intro _
  refine ⟨_, _, rfl, fun i => if i = 0 then (fun b => T b ∧ b < w.heap.size) else none_, fun i b x => ?_, fun _ i j hij b x y => ?_, fun i hi => ?_⟩
  · by_cases hi : i = 0
    · simp only [hi, if_true] at x; exact x
    · simp only [hi, if_false] at x; exact x.elim
  · by_cases hi : i = 0
    · simp only [show j ≠ 0 by omega, if_false] at y; exact y.elim
    · simp only [hi, if_false] at x; exact x.elim
  · have hi : i = 0 := by simpa using hi
    subst hi
    refine ⟨cs.toList, fun j u hu => ?_, ?_⟩
    · rw [World.cell?_alloc_mark]; simpa using hu
    · exact Lay.keep (Lay.tight h) (fun b x => Below.heap_alloc _ _ _ x.2)
theorem step_push {α : Type} [Lay α] [SlTy α] [Inf α] {ops : Array Oper} {o : Oper} {a : Act} {K : Act → World → Prop} {Q : Exit → Act → World → Prop} {E : Prop} {w0 w : World} (hgd : o.guard = none) (s x : Operand)
    (ho : o.op = .call { callee := .builtin .append, args := #[s, x], argTypes := #[SlTy.st α, SlTy.st α] })
    {A A2 : Option Addr} {c c2 k m : Nat} {L ys : List α} (hs : a.eval s = .slice A k c) (hk : k = L.length) (own : Own w0 w A c L)
    (hx : a.eval x = .slice A2 m c2) (hm : m = ys.length) (hsrc : Src w A2 ys none_) (hb : k + m ≤ 4000000000)
    (h : ∀ A' c' w', Own w0 w' A' c' (L ++ ys) → Below w0.heap.size w0 w' → K (a.put o.dst (.slice A' (k + m) c')) w') :
    if Region.wanted o (yielded ops a.tmps) = true then Oper.wp Tryz.prog o a w K Q else E := by
  subst hk; subst hm
  refine step_app (α := α) hgd s x ho hs rfl own.row own.le own.cm hx rfl hsrc (disj_none_ _) hb ?_
  intro A' c' w' h1 h2 h3 h4
  have hw : Own w0 w' A' c' (L ++ ys) := ⟨row_og h3 (fun b hb => Nat.le_trans own.size hb), by rw [List.length_append]; exact h1, h2, own.bl.trans (h4.to_below own.size (fun b hb => hb))⟩
  exact h A' c' w' hw hw.bl
theorem src1 {α : Type} [Lay α] [Flat α] {w : World} {y : α} (ok : Flat.ok y) {cs : Array Value} {t : TypeId} {b : Nat} (hb : b = w.heap.size) (h : cs.toList = Flat.cs y) : Src (w.alloc (.cells cs t)) (some ⟨b, 0, none⟩) [y] none_ := src_newb w y ok cs t b hb h
def OwnRes {α : Type} [Lay α] (L : List α) (w : World) (e : Ending) (w' : World) : Prop := ∃ A c, e = .returned (.slice A L.length c) ∧ Own w w' A c L
theorem OwnRes.mk {α : Type} [Lay α] {L L' : List α} {w w' : World} {A : Option Addr} {c n : Nat} (h : Own w w' A c L) (hL : L' = L) (hn : n = L.length) : OwnRes L' w (.returned (.slice A n c)) w' := by subst hL; subst hn; exact ⟨A, c, rfl, h⟩
end Go.Proofs.YtgllafgpmenjjaaGreatDoor

set_option linter.unusedVariables false
set_option linter.unusedSimpArgs false
namespace Go.Proofs.YtgllafgpmenjjaaGreatDoor
open Go.RowKit Lay Mk
def nameIs (n : ByteArray) (x : Leaf) : Bool := decide (x.name = n)
def nameNe (n : ByteArray) (x : Leaf) : Bool := !decide (x.name = n)
def leafGet (xs : List Leaf) (n : ByteArray) : ByteArray × Bool := match xs.find? (nameIs n) with | some x => (x.value, true) | none => (⟨#[]⟩, false)
def leafWithout (xs : List Leaf) (n : ByteArray) : List Leaf := xs.filter (nameNe n)
theorem without_all (xs : List Leaf) (n : ByteArray) : foldT (gath (nameNe n) id) [] xs xs.length = leafWithout xs n := by rw [foldT_all, gath_fold]; simp [leafWithout]
theorem leafGet_hit {xs : List Leaf} {n : ByteArray} {x : Leaf} (h : xs.find? (nameIs n) = some x) : leafGet xs n = (x.value, true) := by simp [leafGet, h]
theorem leafGet_miss {xs : List Leaf} {n : ByteArray} (h : xs.find? (nameIs n) = none) : leafGet xs n = (⟨#[]⟩, false) := by simp [leafGet, h]
theorem Src.flat2 {α : Type} [Lay α] [Flat α] {m : Bool} {w : World} {A : Option Addr} {cap : Nat} {xs : List α} {S : Blks} (h : Row m w A cap xs S) : Src w A xs none_ := Src.flat h

set_option maxRecDepth 20000 in set_option maxHeartbeats 4000000 in
theorem impl_LeafGet (w : World) (xs : List Leaf) (A0 : Option Addr) (cap0 : Nat) (S : Blks) (hx : Row false w A0 cap0 xs S) (hl : xs.length ≤ 2000000000) (nm : ByteArray) (_hn : nm.size ≤ maxLen) : Calls Tryz.prog 151 #[.slice A0 xs.length cap0, .string nm] w fun e w' => e = .returned (.tuple #[.string (leafGet xs nm).1, .bool (leafGet xs nm).2]) ∧ Below w.heap.size w w' := by
  go_enter Tryz.func151, Tryz.ntmps151
  go_wp2
  go_loopw [10] (fun i wr => ∃ k : Nat, k ≤ xs.length ∧ i = .int .i64 k ∧ Hid ((xs.take k).find? (nameIs nm) = none) ∧ Below w.heap.size w wr) (fun i _ => xs.length - (intOf i).toNat)
  case atStart => exact ⟨0, Nat.zero_le _, rfl, Lib.hid rfl, Below.refl _ _⟩
  case round =>
    obtain ⟨k, hk, rfl, hf, hb⟩ := hrel
    have hz := hb.size
    by_cases hlt : k < xs.length
    · obtain ⟨b1, o1, e1, hl1, c0, c1, t0, t1⟩ := Row.atLeaf hx hlt
      subst e1
      replace c0 := (hb.cell (p := ⟨b1, o1 + k * 2, none⟩) hl1).trans c0
      replace c1 := (hb.cell (p := ⟨b1, o1 + k * 2 + 1, none⟩) hl1).trans c1
      have hl2 : b1 < wr.heap.size := Nat.lt_of_lt_of_le hl1 hz
      have hH := Lib.hid (find_hit hlt hf.out)
      have hN := Lib.hid (find_next hlt hf.out)
      obtain ⟨x, hxx⟩ : ∃ x, xs[k] = x := ⟨_, rfl⟩
      rw [hxx] at c0 c1 t0 t1 hN hH
      clear hxx
      by_cases hc : x.name = nm
      · have HR := Lib.hid (leafGet_hit (hH.out (by simpa [nameIs] using hc)))
        have hsb := str_eq hc
        clear hc
        go_wp2
        go_ret2
        exact ⟨by rw [HR.out]; rfl, (hb.alloc hz _)⟩
      · have HN := Lib.hid (hN.out (by simpa [nameIs] using hc))
        have hsb := str_ne hc
        clear hc
        go_wp2
        go_roundw
        case rel => exact ⟨k + 1, by omega, by go_num, HN, (hb.alloc hz _)⟩
        case measure => simp [intOf]; omega
    · have hke : k = xs.length := by omega
      subst hke
      have HR := Lib.hid (leafGet_miss (find_all hf.out))
      go_wp2
      go_ret2
      exact ⟨by rw [HR.out]; rfl, hb⟩

set_option maxRecDepth 20000 in set_option maxHeartbeats 4000000 in
theorem spec_LeafGet (w : World) (xs : List Leaf) (A0 : Option Addr) (cap0 : Nat) (S : Blks) (hx : Row false w A0 cap0 xs S) (hl : xs.length ≤ 2000000000) (nm : ByteArray) (_hn : nm.size ≤ maxLen) : Calls Tryz.prog 71 #[.slice A0 xs.length cap0, .string nm] w fun e w' => e = .returned (.tuple #[.string (leafGet xs nm).1, .bool (leafGet xs nm).2]) ∧ Below w.heap.size w w' := by
  go_enter Tryz.func71, Tryz.ntmps71
  go_wp2
  go_loopw [6] (fun i wr => ∃ k : Nat, k ≤ xs.length ∧ i = .int .i64 k ∧ Hid ((xs.take k).find? (nameIs nm) = none) ∧ Below w.heap.size w wr) (fun i _ => xs.length - (intOf i).toNat)
  case atStart => exact ⟨0, Nat.zero_le _, rfl, Lib.hid rfl, Below.refl _ _⟩
  case round =>
    obtain ⟨k, hk, rfl, hf, hb⟩ := hrel
    have hz := hb.size
    by_cases hlt : k < xs.length
    · obtain ⟨b1, o1, e1, hl1, c0, c1, t0, t1⟩ := Row.atLeaf hx hlt
      subst e1
      replace c0 := (hb.cell (p := ⟨b1, o1 + k * 2, none⟩) hl1).trans c0
      replace c1 := (hb.cell (p := ⟨b1, o1 + k * 2 + 1, none⟩) hl1).trans c1
      have hl2 : b1 < wr.heap.size := Nat.lt_of_lt_of_le hl1 hz
      have hH := Lib.hid (find_hit hlt hf.out)
      have hN := Lib.hid (find_next hlt hf.out)
      obtain ⟨x, hxx⟩ : ∃ x, xs[k] = x := ⟨_, rfl⟩
      rw [hxx] at c0 c1 t0 t1 hN hH
      clear hxx
      by_cases hc : x.name = nm
      · have HR := Lib.hid (leafGet_hit (hH.out (by simpa [nameIs] using hc)))
        have hsb := str_eq hc
        clear hc
        go_wp2
        go_ret2
        exact ⟨by rw [HR.out]; rfl, hb⟩
      · have HN := Lib.hid (hN.out (by simpa [nameIs] using hc))
        have hsb := str_ne hc
        clear hc
        go_wp2
        go_roundw
        case rel => exact ⟨k + 1, by omega, by go_num, HN, hb⟩
        case measure => simp [intOf]; omega
    · have hke : k = xs.length := by omega
      subst hke
      have HR := Lib.hid (leafGet_miss (find_all hf.out))
      go_wp2
      go_ret2
      exact ⟨by rw [HR.out]; rfl, hb⟩

set_option maxRecDepth 20000 in set_option maxHeartbeats 8000000 in
theorem spec_l09Without (w : World) (xs : List Leaf) (A0 : Option Addr) (cap0 : Nat) (S : Blks) (hx : Row false w A0 cap0 xs S) (hl : xs.length ≤ 2000000000) (nm : ByteArray) (_hn : nm.size ≤ maxLen) : Calls Tryz.prog 124 #[.slice A0 xs.length cap0, .string nm] w fun e w' => ∃ A' cap', e = .returned (.slice A' (leafWithout xs nm).length cap') ∧ (leafWithout xs nm).length ≤ cap' ∧ cap' ≤ maxLen ∧ Row true w' A' cap' (leafWithout xs nm) (rng w.heap.size w'.heap.size) ∧ Below w.heap.size w w' := by
  go_enter Tryz.func124, Tryz.ntmps124
  go_wp2
  go_loopw [5, 6] (fun u i wr => ∃ (k : Nat) (ys : List Leaf) (A : Option Addr) (cap : Nat), k ≤ xs.length ∧ i = .int .i64 k ∧ u = .slice A ys.length cap ∧ Hid (ys = [] ++ foldT (gath (nameNe nm) id) [] xs k) ∧ ys.length ≤ 0 + k ∧ ys.length ≤ cap ∧ cap ≤ maxLen ∧ Row true wr A cap ys (nw w.heap.size) ∧ Chg (nw w.heap.size) w wr) (fun _ i _ => xs.length - (intOf i).toNat)
  case atStart => exact ⟨0, [], _, _, Nat.zero_le _, rfl, rfl, Lib.hid (by simp [foldT]), by simp, by simp, by decide, row_lit0 _ _ _ rfl (Nat.le_refl _), (Chg.refl _ _).alloc _⟩
  case round =>
    obtain ⟨k, ys, A, cap, hk, rfl, rfl, hys, hyk, hle, hcm2, hrow, hch⟩ := hrel
    have hz := hch.size
    by_cases hlt : k < xs.length
    · obtain ⟨b1, o1, e1, hl1, hS1, c0, c1, t0, t1⟩ := Row.inLeaf hx hlt
      subst e1
      have hnO : ¬ (nw w.heap.size) b1 := (fun h => by unfold nw at h; omega)
      replace c0 := (hch.cell (o := o1 + k * 2) hl1 hnO).trans c0
      replace c1 := (hch.cell (o := o1 + k * 2 + 1) hl1 hnO).trans c1
      have hl2 : b1 < wr.heap.size := Nat.lt_of_lt_of_le hl1 hz
      have hN := Lib.hid (gathT_no (p := (nameNe nm)) (g := id) hlt)
      have hY := Lib.hid (gathT_yes (p := (nameNe nm)) (g := id) hlt)
      obtain ⟨x, hxx⟩ : ∃ x, xs[k] = x := ⟨_, rfl⟩
      rw [hxx] at c0 c1 t0 t1 hN hY
      clear hxx
      have hok : Flat.ok x := (⟨t0, t1⟩ : x.name.size ≤ maxLen ∧ x.value.size ≤ maxLen)
      have hz2 : w.heap.size ≤ (wr.alloc (.cells #[.string x.name, .string x.value] 180)).heap.size := by simp; omega
      by_cases hc : (nameNe nm) x = true
      · have HY := Lib.hid (hY.out hc)
        have hsb : (x.name.toList == nm.toList) = false := str_ne (by simpa [nameNe] using hc)
        clear hc
        go_wp2_with (at_builtin; refine wpList_app (α := Leaf) rfl _ _ rfl rfl rfl (hrow.allocC _) hle hcm2 rfl rfl (src_newb _ x hok _ _ _ (by first | rfl | simp) rfl) (disj_none_ _) (by omega) ?_; intro A' cap' w' h1 h2 h3 h4)
        go_roundw
        case rel => exact ⟨k + 1, ys ++ [x], A', cap', by omega, by go_num, by simp, Lib.hid (by rw [HY.out, hys.out]; simp), by simp; omega, by simpa using h1, h2, row_og h3 (fun b hb => (fun b h => h) b (Nat.le_trans hz2 hb)), (hch.alloc _).trans h4⟩
        case measure => simp [intOf]; omega
      · have hc : (nameNe nm) x = false := by simpa using hc
        have HN := Lib.hid (hN.out hc)
        have hsb : (x.name.toList == nm.toList) = true := str_eq (by simpa [nameNe] using hc)
        clear hc
        go_wp2
        go_roundw
        case rel => exact ⟨k + 1, ys, A, cap, by omega, by go_num, rfl, Lib.hid (by rw [HN.out, hys.out]), by omega, hle, hcm2, hrow, hch⟩
        case measure => simp [intOf]; omega
    · have hke : k = xs.length := by omega
      subst hke
      have hyy : ys = leafWithout xs nm := by rw [hys.out, without_all]; rfl
      subst hyy
      go_wp2
      go_ret
      exact ⟨A, cap, rfl, hle, hcm2, to_rng hrow, hch.to_below (Nat.le_refl _) (fun b h => h)⟩

end Go.Proofs.YtgllafgpmenjjaaGreatDoor

set_option linter.unusedVariables false
set_option linter.unusedSimpArgs false
namespace Go.Proofs.YtgllafgpmenjjaaGreatDoor
open Go.RowKit Lay Mk
theorem i64_and255 (n : Int) : bits .and .i64 n 255 = n % 256 := by
  have h255 : (BitVec.ofInt 64 255).toNat = 2 ^ 8 - 1 := by decide
  have key : (BitVec.ofInt 64 n &&& BitVec.ofInt 64 255).toNat = (n % ((2 ^ 64 : Nat) : Int)).toNat % 2 ^ 8 := by
    rw [BitVec.toNat_and, BitVec.toNat_ofInt, h255, Nat.and_two_pow_sub_one_eq_mod]
  show IntKind.i64.wrap ((BitVec.ofInt 64 n &&& BitVec.ofInt 64 255).toNat : Nat) = n % 256
  rw [key, IntKind.wrap_i64]
  omega
theorem and255 (n : Int) : 0 ≤ bits .and .i64 n 255 ∧ bits .and .i64 n 255 ≤ 255 := by rw [i64_and255]; omega
theorem cur_step {w : World} {g : Nat} {xs : List UInt8} {A : Option Addr} {cap i : Nat} {h h2 : Int} (hb : w.heap[g]? = some (.cells #[.slice A xs.length cap, .int .i64 i, .int .i64 h] 178 (0, 0))) : (w.setCell ⟨g, 2, none⟩ (.int .i64 h2)).heap[g]? = some (.cells #[.slice A xs.length cap, .int .i64 i, .int .i64 h2] 178 (0, 0)) := by
  simp only [World.setCell, Array.getElem?_modify, hb]
  simp
theorem cur_next {w : World} {g : Nat} {xs : List UInt8} {A : Option Addr} {cap i : Nat} {h : Int} (hb : w.heap[g]? = some (.cells #[.slice A xs.length cap, .int .i64 i, .int .i64 h] 178 (0, 0))) (j : Int) : (w.setCell ⟨g, 1, none⟩ (.int .i64 j)).heap[g]? = some (.cells #[.slice A xs.length cap, .int .i64 j, .int .i64 h] 178 (0, 0)) := by
  simp only [World.setCell, Array.getElem?_modify, hb]
  simp
theorem chg_set {w : World} {g o : Nat} {v : Value} : Chg (fun b => b = g) w (w.setCell ⟨g, o, none⟩ v) := by
  have h := chg_setCells (S := fun b => b = g) w g o [v] rfl
  simpa [World.setCells] using h
theorem chg_drewN {w v : World} {S : Blks} (h : Chg S w v) (n : Nat) : Chg S w (v.drewN n) := by
  obtain ⟨a, b, c, d, e⟩ := h
  exact ⟨a, b, c, d, e⟩
theorem chg_two {w v u : World} {S : Blks} (h : Chg S w v) (k : Chg S v u) : Chg S w u := h.trans k
set_option maxRecDepth 20000 in set_option maxHeartbeats 4000000 in
theorem spec_l01Byte (w : World) (g : Nat) (xs : List UInt8) (A : Option Addr) (cap : Nat) (S : Blks) (hc : Cur w g xs A cap) (hx : Row false w A cap xs S) (hS : ¬ S g) (hl : xs.length ≤ 1048576) : Calls Tryz.prog 72 #[.pointer (some ⟨g, 0, none⟩)] w fun e w' => ∃ x : Int, e = .returned (.int .i64 x) ∧ 0 ≤ x ∧ x ≤ 255 ∧ Cur w' g xs A cap ∧ Chg (fun b => b = g) w w' := by
  obtain ⟨i, h, hi, hb⟩ := hc
  have c0 := cell_of_row w g 0 _ _ _ hb
  have c1 := cell_of_row w g 1 _ _ _ hb
  have c2 := cell_of_row w g 2 _ _ _ hb
  have cf : ∀ o, w.frozen? ⟨g, o, none⟩ = false := fun o => frozen_of_row _ _ o _ _ hb
  simp at c0 c1 c2
  by_cases hlt : i < xs.length
  · obtain ⟨b1, o1, rfl, hl1, hSb, f0⟩ := Row.u8 hx hlt
    have hne : b1 ≠ g := fun e => hS (e ▸ hSb)
    have hne2 : g ≠ b1 := fun e => hne e.symm
    obtain ⟨v, hv⟩ : ∃ v, (xs[i].toNat : Int) = v := ⟨_, rfl⟩
    rw [hv] at f0
    clear hv
    go_enter Tryz.func72, Tryz.ntmps72
    go_wp2
    go_quiet (fail)
    go_wp2
    go_quiet (fail)
    go_wp2
    go_quiet (fail)
    go_wp2
    go_ret
    refine ⟨_, rfl, (and255 _).1, (and255 _).2, ⟨i + 1, wrap64 (wrap64 (h * 6364136223846793005) + 1442695040888963407), by omega, ?_⟩, ?_⟩
    · rw [show ((i + 1 : Nat) : Int) = (i : Int) + 1 from rfl]
      exact cur_next (w := World.drewN _ _) (cur_step hb) _
    · exact chg_two (chg_drewN chg_set _) chg_set
  · go_enter Tryz.func72, Tryz.ntmps72
    go_wp2
    go_quiet (fail)
    go_wp2
    go_quiet (fail)
    go_wp2
    go_ret
    refine ⟨_, rfl, (and255 _).1, (and255 _).2, ⟨i, _, hi, cur_step hb⟩, chg_drewN (chg_drewN chg_set _) _⟩
end Go.Proofs.YtgllafgpmenjjaaGreatDoor

set_option linter.unusedVariables false
set_option linter.unusedSimpArgs false
namespace Go.Proofs.YtgllafgpmenjjaaGreatDoor
open Go.RowKit Lay Mk
theorem Row.chgS {α : Type} [Lay α] {m : Bool} {w w' : World} {A : Option Addr} {cap : Nat} {xs : List α} {S T : Blks} (h4 : Chg S w w') (hr : Row m w A cap xs T) (hd : ∀ b, T b → b < w.heap.size → ¬ S b) : Row m w' A cap xs T :=
  (hr.tight.keep (h4.same (fun b x => hd b x.1 x.2) (fun b x => x.2))).mono (fun b x => x.1)
theorem box_at {w : World} {b i : Nat} {cs : Array Value} {t : TypeId} {v : Value} (h : w.heap[b]? = some (.cells cs t (0, 0))) (hi : cs[i]? = some v) : w.cell? ⟨b, i, none⟩ = some v := by rw [cell_of_row w b i _ _ (0, 0) h]; exact hi
theorem box_fz {w : World} {b : Nat} {cs : Array Value} {t : TypeId} (h : w.heap[b]? = some (.cells cs t (0, 0))) (o : Nat) : w.frozen? ⟨b, o, none⟩ = false := frozen_of_row w b o _ _ h
def atB (r : Nat) : Blks := fun b => b = r
theorem ne_off {b i j : Nat} (h : i ≠ j) : (⟨b, i, none⟩ : Addr) ≠ ⟨b, j, none⟩ := fun e => h (by injection e)
structure Two {α β : Type} [Lay α] [Lay β] (B : Nat) (w : World) (A : Option Addr) (c : Nat) (L : List α) (A' : Option Addr) (c' : Nat) (M : List β) : Prop where
  ex : ∃ U V : Blks, Row true w A c L U ∧ Row true w A' c' M V ∧ (∀ b, U b → V b → False) ∧ (∀ b, U b → B ≤ b) ∧ (∀ b, V b → B ≤ b)
  l1 : L.length ≤ c
  m1 : c ≤ maxLen
  l2 : M.length ≤ c'
  m2 : c' ≤ maxLen
theorem Two.start {α β : Type} [Lay α] [Lay β] (B : Nat) (w : World) : Two (α := α) (β := β) B w none 0 [] none 0 [] :=
  ⟨⟨none_, none_, row_nil _ _, row_nil _ _, fun _ h => h.elim, fun _ h => h.elim, fun _ h => h.elim⟩, Nat.le_refl _, by decide, Nat.le_refl _, by decide⟩
theorem Two.later {α β : Type} [Lay α] [Lay β] {B : Nat} {w w' : World} {A A' : Option Addr} {c c' : Nat} {L : List α} {M : List β} (h : Two B w A c L A' c' M) (hb : Below w.heap.size w w') : Two B w' A c L A' c' M := by
  obtain ⟨U, V, h1, h2, h3, h4, h5⟩ := h.ex
  exact ⟨⟨U, V, Row.later h1 hb, Row.later h2 hb, h3, h4, h5⟩, h.l1, h.m1, h.l2, h.m2⟩
theorem Two.swap {α β : Type} [Lay α] [Lay β] {B : Nat} {w : World} {A A' : Option Addr} {c c' : Nat} {L : List α} {M : List β} (h : Two B w A c L A' c' M) : Two B w A' c' M A c L := by
  obtain ⟨U, V, h1, h2, h3, h4, h5⟩ := h.ex
  exact ⟨⟨V, U, h2, h1, fun b x y => h3 b y x, h5, h4⟩, h.l2, h.m2, h.l1, h.m1⟩
theorem Two.fst {α β : Type} [Lay α] [Lay β] {B : Nat} {w : World} {A A' : Option Addr} {c c' : Nat} {L : List α} {M : List β} (h : Two B w A c L A' c' M) : Row false w A c L (nw B) := by
  obtain ⟨U, V, h1, h2, h3, h4, h5⟩ := h.ex
  exact Row.weak (h1.mono h4)
theorem wpList_two {α β : Type} [Lay α] [SlTy α] [Inf α] [Lay β] {ops : Array Oper} {rest : List Oper} {o : Oper} {a : Act} {Q : Exit → Act → World → Prop} {w : World} {B : Nat} (hgd : o.guard = none) (s x : Operand)
    (ho : o.op = .call { callee := .builtin .append, args := #[s, x], argTypes := #[SlTy.st α, SlTy.st α] })
    {A A' A2 : Option Addr} {c c' c2 k m : Nat} {L ys : List α} {M : List β} (hs : a.eval s = .slice A k c) (hk : k = L.length) (two : Two B w A c L A' c' M) (hBw : B ≤ w.heap.size)
    (hx : a.eval x = .slice A2 m c2) (hm : m = ys.length) (hsrc : Src w A2 ys none_) (hb : k + m ≤ 4000000000)
    (h : ∀ A3 c3 w', Two B w' A3 c3 (L ++ ys) A' c' M → Below B w w' → w.heap.size ≤ w'.heap.size → wpList Tryz.prog ops Q rest (a.put o.dst (.slice A3 (k + m) c3)) w') :
    wpList Tryz.prog ops Q (o :: rest) a w := by
  subst hk; subst hm
  obtain ⟨U, V, h1, h2, h3, h4, h5⟩ := two.ex
  refine wpList_app (α := α) hgd s x ho hs rfl h1 two.l1 two.m1 hx rfl hsrc (disj_none_ _) hb ?_
  intro A3 c3 w' q1 q2 q3 q4
  refine h A3 c3 w' ⟨⟨_, _, q3, Row.chgS q4 h2.tight (fun b x _ y => h3 b y x.1), ?_, ?_, fun b x => h5 b x.1⟩, by rw [List.length_append]; exact q1, q2, two.l2, two.m2⟩ (q4.to_below hBw h4) q4.size
  · rintro b (x | x | x) y
    · exact h3 b x y.1
    · exact x.elim
    · have := x.1; have := y.2; omega
  · rintro b (x | x | x)
    · exact h4 b x
    · exact x.elim
    · exact Nat.le_trans hBw x.1
end Go.Proofs.YtgllafgpmenjjaaGreatDoor
