/- A part of the proof: what the laws need of it. -/
import Derived.Deep.RegionHeld3
import Derived.Deep.CutBlock
import Derived.Test.YtlfnmbcnehaikaaGreatDoorHRaL24xRq
import Derived.Test.YtlfnmbcnehaikaaGreatDoorHRaHo
import Derived.Test.YtlfnmbcnehaikaaGreatDoorHRaL11xDp
import Derived.Test.YtlfnmbcnehaikaaGreatDoorHRaL12xDh
import Derived.Test.YtlfnmbcnehaikaaGreatDoorHRaL13xDl
set_option linter.unusedVariables false
set_option linter.unusedSimpArgs false
set_option linter.unusedVariables false
set_option linter.unusedSimpArgs false
namespace Go.Proofs.YtlfnmbcnehaikaaGreatDoor
open Go.RowKit Lay Mk
theorem Bx.set {w : World} {r i : Nat} {cs cs' : Array Value} {ty : TypeId} {v : Value} (h : Bx w r cs ty) (e : cs.setIfInBounds i v = cs') : Bx (w.setCell ⟨r, i, none⟩ v) r cs' ty := by
  subst e
  unfold Bx at *
  simp only [World.setCell, Array.getElem?_modify, h]
  simp
theorem Bx.far {w : World} {r r2 i : Nat} {cs : Array Value} {ty : TypeId} {v : Value} (h : Bx w r cs ty) (hr : r ≠ r2) : Bx (w.setCell ⟨r2, i, none⟩ v) r cs ty := h.keep (Below.heap_setCell w _ v r hr)
theorem impl_one_any (w : World) (g : Nat) (t : ByteArray) (a : Nat) (b : Bool) (hF : Fld 151 w g t a b) (ht : t.size ≤ 1048576) (ha : a ≤ t.size) : ∃ (v : Int) (a1 : Nat) (b1 : Bool), Hid (Calls Tryz.prog 213 #[.pointer (some ⟨g, 0, none⟩)] w fun e w' => e = .returned (.int .i64 v) ∧ Fld 151 w' g t a1 b1 ∧ Chg (fun b => b = g) w w') ∧ a1 ≤ t.size ∧ (0 ≤ v ∧ v ≤ 255) ∧ Hid ((b1 = false → b = false ∧ a1 = a + 1 ∧ ∀ h : a < t.size, v = (t[a].toNat : Int)) ∧ (b1 = true → b = true ∨ t.size ≤ a)) := by
  by_cases hg : b = false ∧ a < t.size
  · have hbt := t[a].toNat_lt
    exact ⟨_, _, _, Lib.hid (impl_one_yes w g t a b hF ht ha hg.1 hg.2), hg.2, by omega, Lib.hid ⟨fun _ => ⟨hg.1, rfl, fun _ => rfl⟩, fun h => (by cases h)⟩⟩
  · have hbad : b = true ∨ t.size ≤ a := by
      cases b
      · exact .inr (Nat.le_of_not_lt (fun h => hg ⟨rfl, h⟩))
      · exact .inl rfl
    exact ⟨_, _, _, Lib.hid (impl_one_no w g t a b hF ht ha hbad), ha, by omega, Lib.hid ⟨fun h => (by cases h), fun _ => hbad⟩⟩
theorem impl_bytes_any (w : World) (g : Nat) (t : ByteArray) (a : Nat) (b : Bool) (hF : Fld 151 w g t a b) (ht : t.size ≤ 1048576) (ha : a ≤ t.size) (n : Nat) (hn : n ≤ 16) : ∃ (E : ByteArray) (a1 : Nat) (b1 : Bool), Hid (Calls Tryz.prog 214 #[.pointer (some ⟨g, 0, none⟩), .int .i64 n] w fun e w' => e = .returned (.string E) ∧ Fld 151 w' g t a1 b1 ∧ Chg (fun b => b = g) w w') ∧ a1 ≤ t.size ∧ E.size ≤ 16 ∧ Hid ((b1 = false → b = false ∧ a1 = a + n ∧ E = t.extract a (a + n)) ∧ (b1 = true → b = true ∨ t.size < a + n)) := by
  by_cases hg : b = false ∧ a + n ≤ t.size
  · exact ⟨_, _, _, Lib.hid (impl_bytes_yes w g t a b hF ht ha n hn hg.1 hg.2), hg.2, by rw [ByteArray.size_extract]; omega, Lib.hid ⟨fun _ => ⟨hg.1, rfl, rfl⟩, fun h => (by cases h)⟩⟩
  · have hbad : b = true ∨ t.size < a + n := by
      cases b
      · exact .inr (Nat.lt_of_not_le (fun h => hg ⟨rfl, h⟩))
      · exact .inl rfl
    exact ⟨_, _, _, Lib.hid (impl_bytes_no w g t a b hF ht ha n hn hbad), ha, Nat.zero_le _, Lib.hid ⟨fun h => (by cases h), fun _ => hbad⟩⟩
def hdV (o : Option Head) : Value := match o with
  | none => .tuple #[.agg #[.int .i64 0, .int .i64 0, .string ⟨#[]⟩, .string ⟨#[]⟩], .bool false]
  | some h => .tuple #[.agg (Head.cs h).toArray, .bool true]
set_option maxRecDepth 20000 in set_option maxHeartbeats 8000000 in
theorem impl_ReadHead (w : World) (t : ByteArray) (ht : t.size ≤ 1048576) : Calls Tryz.prog 198 #[.string t] w fun e w' => e = .returned (hdV (rdHead t)) ∧ Below w.heap.size w w' := by
  go_enter Tryz.func198, Tryz.ntmps198
  go_wp2_with (fail)
  obtain ⟨W, hW⟩ : ∃ W, (w.alloc (.cells #[.int .i64 0, .int .i64 0, .string ⟨#[]⟩, .string ⟨#[]⟩] 72)).alloc (.cells #[.string t, .int .i64 0, .bool false] 151) = W := ⟨_, rfl⟩
  have hWf : Below w.heap.size w W ∧ W.heap.size = w.heap.size + 2 ∧ Bx W w.heap.size #[.int .i64 0, .int .i64 0, .string ⟨#[]⟩, .string ⟨#[]⟩] 72 ∧ Fld 151 W (w.heap.size + 1) t 0 false := by
    rw [← hW]
    have e1 : w.heap.size + 1 = (w.alloc (.cells #[.int .i64 0, .int .i64 0, .string ⟨#[]⟩, .string ⟨#[]⟩] 72)).heap.size := by simp
    refine ⟨((Below.refl _ _).alloc (Nat.le_refl _) _).alloc (by simp) _, by simp, (Bx.new _ _ _).keep (Below.heap_alloc _ _ _ (by simp)), ?_⟩
    rw [e1]
    exact Fld.new _ _ _
  rw [hW]
  clear hW
  obtain ⟨bW, sW, xW, hF⟩ := hWf
  obtain ⟨v1, a1, b1, HV1, ha1, hv1, H1⟩ := impl_one_any W _ t 0 false hF ht (Nat.zero_le _)
  clear hF
  refine HV1.out.mono ?_
  rintro e1 w1 ⟨rfl, hF1, hc1⟩
  have hs1 := hc1.size
  have x1 := xW.keep (hc1.block _ (by omega) (by omega))
  have B1 := Lib.hid (bW.trans (hc1.to_below (B := w.heap.size) (by omega) (fun b h => by have h : b = w.heap.size + 1 := h; omega)))
  clear hc1 HV1 xW
  obtain ⟨v2, a2, b2, HV2, ha2, hv2, H2⟩ := impl_one_any w1 _ t a1 b1 hF1 ht ha1
  clear hF1
  go_wp2_with (fail)
  refine HV2.out.mono ?_
  rintro e2 w2 ⟨rfl, hF2, hc2⟩
  have hs2 := hc2.size
  have x2 := x1.keep (hc2.block _ (by omega) (by omega))
  have B2 := Lib.hid (B1.out.trans (hc2.to_below (B := w.heap.size) (by omega) (fun b h => by have h : b = w.heap.size + 1 := h; omega)))
  clear hc2 HV2 x1
  obtain ⟨E3, a3, b3, HV3, ha3, hz3, H3⟩ := impl_bytes_any w2 _ t a2 b2 hF2 ht ha2 16 (Nat.le_refl _)
  clear hF2
  go_wp2_with (fail)
  refine HV3.out.mono ?_
  rintro e3 w3 ⟨rfl, hF3, hc3⟩
  have hs3 := hc3.size
  have x3 := x2.keep (hc3.block _ (by omega) (by omega))
  have B3 := Lib.hid (B2.out.trans (hc3.to_below (B := w.heap.size) (by omega) (fun b h => by have h : b = w.heap.size + 1 := h; omega)))
  clear hc3 HV3 x2
  go_upto_region 3 with (fail)
  obtain ⟨V, hV⟩ : ∃ V, w3.alloc (.cells #[.int .i64 v1, .int .i64 v2, .string E3, .string ⟨#[]⟩] 72) = V := ⟨_, rfl⟩
  have hVf : Below w3.heap.size w3 V ∧ V.heap.size = w3.heap.size + 1 ∧ Bx V w3.heap.size #[.int .i64 v1, .int .i64 v2, .string E3, .string ⟨#[]⟩] 72 := by
    rw [← hV]
    exact ⟨(Below.refl _ _).alloc (Nat.le_refl _) _, by simp, Bx.new _ _ _⟩
  rw [hV]
  clear hV
  obtain ⟨bV, sV, xV⟩ := hVf
  have xR := x3.keep (bV.block _ (by omega))
  have hF4 := hF3.below bV (by omega)
  have BV := Lib.hid (B3.out.trans (bV.mono (by omega)))
  clear x3 hF3 bV
  have c0 := hF4.c0
  have c1 := hF4.c1
  have c2 := hF4.c2
  cases e3 : b3
  · obtain ⟨q1, q2, q3⟩ := H3.out.1 e3
    obtain ⟨q4, q5, q6⟩ := H2.out.1 q1
    obtain ⟨q7, q8, q9⟩ := H1.out.1 q4
    have hl : 18 ≤ t.size := by omega
    have h2 : a2 = 2 := by omega
    have h3 : a3 = 18 := by omega
    have q6 := q6 (by omega)
    have q9 := q9 (by omega)
    subst e3
    subst h2; subst h3
    have h1 : a1 = 1 := by omega
    subst h1
    have HR := Lib.hid (rdHead_at hl)
    obtain ⟨p, hp⟩ : ∃ p, t.extract 18 t.size = p := ⟨_, rfl⟩
    rw [← q6, ← q9, ← show E3 = t.extract 2 18 from q3, hp] at HR
    clear q1 q2 q3 q4 q5 q6 q7 q8 q9 H1 H2 H3 B1 B2 B3
    have b18 : (18 : Int) ≤ (t.size : Int) := by omega
    have z3 := xV.at_ (i := 3) rfl
    have zf := xV.fz
    go_upto_region 5 with (fail)
    obtain ⟨V5, hV5⟩ : ∃ Z, V.setCell ⟨w3.heap.size, 3, none⟩ (.string p) = Z := ⟨_, rfl⟩
    have hV5f : Bx V5 w3.heap.size #[.int .i64 v1, .int .i64 v2, .string E3, .string p] 72 ∧ Bx V5 w.heap.size #[.int .i64 0, .int .i64 0, .string ⟨#[]⟩, .string ⟨#[]⟩] 72 ∧ Fld 151 V5 (w.heap.size + 1) t 18 false ∧ Below w.heap.size w V5 ∧ V5.heap.size = V.heap.size := by
      rw [← hV5]
      exact ⟨xV.set rfl, xR.far (by omega), hF4.keep (Below.heap_setCell _ _ _ _ (by show w.heap.size + 1 ≠ w3.heap.size; omega)), Below.setCell BV.out (by show w.heap.size ≤ w3.heap.size; omega) _, by simp⟩
    rw [hV5]
    clear hV5 z3 zf c0 c1 c2 xV xR hF4 BV
    obtain ⟨xh, xr, hF5, B5, s5⟩ := hV5f
    have c2 := hF5.c2
    have z0 := xh.at_ (i := 0) rfl
    have z1 := xh.at_ (i := 1) rfl
    have z2 := xh.at_ (i := 2) rfl
    have z3 := xh.at_ (i := 3) rfl
    have HK := Lib.hid (impl_HeadOk ⟨v1, v2, E3, p⟩ V5)
    have XR := Lib.hid xr
    have XH := Lib.hid xh
    have BB := Lib.hid B5
    clear xr xh hF5 B5
    cases hk : headOk ⟨v1, v2, E3, p⟩
    · rw [hk] at HK HR
      simp only [Bool.false_eq_true, if_false, Head.cs] at HR HK
      go_wp2_with (fail)
      refine HK.out.mono ?_
      rintro e6 w6 ⟨rfl, hb6⟩
      have y0 := (XR.out.keep (hb6.block _ XR.out.lt)).at_ (i := 0) rfl
      have y1 := (XR.out.keep (hb6.block _ XR.out.lt)).at_ (i := 1) rfl
      have y2 := (XR.out.keep (hb6.block _ XR.out.lt)).at_ (i := 2) rfl
      have y3 := (XR.out.keep (hb6.block _ XR.out.lt)).at_ (i := 3) rfl
      have yf := (XR.out.keep (hb6.block _ XR.out.lt)).fz
      have B6 := Lib.hid (BB.out.trans (hb6.mono BB.out.size))
      clear hb6 z0 z1 z2 z3
      go_wp2_with (fail)
      refine bodyPost_ret (v := .tuple #[.agg #[.int .i64 0, .int .i64 0, .string ⟨#[]⟩, .string ⟨#[]⟩], .bool false]) (by simp [results, Tryz.results198, go_sem, *]) rfl ?_
      exact ⟨by rw [HR.out]; rfl, Below.setCell (Below.setCell (Below.setCell (Below.setCell B6.out (Nat.le_refl _) _) (Nat.le_refl _) _) (Nat.le_refl _) _) (Nat.le_refl _) _⟩
    · rw [hk] at HK HR
      simp only [if_true, Head.cs] at HR HK
      go_wp2_with (fail)
      refine HK.out.mono ?_
      rintro e6 w6 ⟨rfl, hb6⟩
      have y0 := (XR.out.keep (hb6.block _ XR.out.lt)).at_ (i := 0) rfl
      have y1 := (XR.out.keep (hb6.block _ XR.out.lt)).at_ (i := 1) rfl
      have y2 := (XR.out.keep (hb6.block _ XR.out.lt)).at_ (i := 2) rfl
      have y3 := (XR.out.keep (hb6.block _ XR.out.lt)).at_ (i := 3) rfl
      have yf := (XR.out.keep (hb6.block _ XR.out.lt)).fz
      replace z0 := (XH.out.keep (hb6.block _ XH.out.lt)).at_ (i := 0) rfl
      replace z1 := (XH.out.keep (hb6.block _ XH.out.lt)).at_ (i := 1) rfl
      replace z2 := (XH.out.keep (hb6.block _ XH.out.lt)).at_ (i := 2) rfl
      replace z3 := (XH.out.keep (hb6.block _ XH.out.lt)).at_ (i := 3) rfl
      have B6 := Lib.hid (BB.out.trans (hb6.mono BB.out.size))
      clear hb6
      go_wp2_with (fail)
      refine bodyPost_ret (v := .tuple #[.agg #[.int .i64 v1, .int .i64 v2, .string E3, .string p], .bool true]) (by simp [results, Tryz.results198, go_sem, *]) rfl ?_
      exact ⟨by rw [HR.out]; rfl, Below.setCell (Below.setCell (Below.setCell (Below.setCell B6.out (Nat.le_refl _) _) (Nat.le_refl _) _) (Nat.le_refl _) _) (Nat.le_refl _) _⟩
  · have hl : t.size < 18 := by
      rcases H3.out.2 e3 with h | h
      · rcases H2.out.2 h with h' | h'
        · rcases H1.out.2 h' with h'' | h''
          · cases h''
          · omega
        · cases e1 : b1
          · have := (H1.out.1 e1).2.1; omega
          · rcases H1.out.2 e1 with h'' | h''
            · cases h''
            · omega
      · cases e2 : b2
        · obtain ⟨r1, r2, -⟩ := H2.out.1 e2
          have := (H1.out.1 r1).2.1
          omega
        · rcases H2.out.2 e2 with h' | h'
          · rcases H1.out.2 h' with h'' | h''
            · cases h''
            · omega
          · cases e1 : b1
            · have := (H1.out.1 e1).2.1; omega
            · rcases H1.out.2 e1 with h'' | h''
              · cases h''
              · omega
    have HR := Lib.hid (rdHead_no hl)
    subst e3
    have y0 := xR.at_ (i := 0) rfl
    have y1 := xR.at_ (i := 1) rfl
    have y2 := xR.at_ (i := 2) rfl
    have y3 := xR.at_ (i := 3) rfl
    have yf := xR.fz
    clear H1 H2 H3 B1 B2 B3
    go_wp2_with (fail)
    refine bodyPost_ret (v := .tuple #[.agg #[.int .i64 0, .int .i64 0, .string ⟨#[]⟩, .string ⟨#[]⟩], .bool false]) (by simp [results, Tryz.results198, go_sem, *]) rfl ?_
    exact ⟨by rw [HR.out]; rfl, Below.setCell (Below.setCell (Below.setCell (Below.setCell BV.out (Nat.le_refl _) _) (Nat.le_refl _) _) (Nat.le_refl _) _) (Nat.le_refl _) _⟩
end Go.Proofs.YtlfnmbcnehaikaaGreatDoor

set_option linter.unusedVariables false
set_option linter.unusedSimpArgs false
namespace Go.Proofs.YtlfnmbcnehaikaaGreatDoor
open Go.RowKit Lay Mk
theorem Own.setC {α : Type} [Lay α] {w0 w : World} {A : Option Addr} {c : Nat} {L : List α} (h : Own w0 w A c L) {v : World} (hv : Below v.heap.size v w0) {b o : Nat} (hb : b < w0.heap.size) (hl : v.heap.size ≤ b) (u : Value) : Own v (w.setCell ⟨b, o, none⟩ u) A c L :=
  ⟨(h.row.setC (fun x => by have x : w0.heap.size ≤ b := x; omega) u).mono (fun q x => Nat.le_trans hv.size x), h.le, h.cm, (h.from hv).bl.setCell hl u⟩
theorem step_pushR {α : Type} [Lay α] [SlTy α] [Inf α] {ops : Array Oper} {o : Oper} {a : Act} {K : Act → World → Prop} {Q : Exit → Act → World → Prop} {E : Prop} {w0 w1 w : World} (hgd : o.guard = none) (s x : Operand)
    (ho : o.op = .call { callee := .builtin .append, args := #[s, x], argTypes := #[SlTy.st α, SlTy.st α] })
    {A A2 : Option Addr} {c c2 k : Nat} {L : List α} {y : α} {T : Blks} (hs : a.eval s = .slice A k c) (hk : k = L.length) (own : Own w0 w1 A c L) (hb : Below w1.heap.size w1 w)
    (hx : a.eval x = .slice A2 1 c2) (hsrc : Src w A2 [y] T) (hT : ∀ b, T b → w1.heap.size ≤ b) (hlim : k ≤ 2000000000)
    (h : ∀ A' c' w', Own w0 w' A' c' (L ++ [y]) → Chg (rng w0.heap.size w1.heap.size) w w' → K (a.put o.dst (.slice A' (k + 1) c')) w') :
    if Region.wanted o (yielded ops a.tmps) = true then Oper.wp Tryz.prog o a w K Q else E := by
  subst hk
  have h7 := hb.size
  have h8 := own.size
  refine step_app (α := α) hgd s x ho hs rfl (Row.later (to_rng own.row) hb) own.le own.cm hx rfl hsrc (fun q h1 h2 => ?_) (by omega) ?_
  · have h3 := hT q h2
    have h4 : q < w1.heap.size := h1.2
    omega
  intro A' c' w' h1 h2 h3 h4
  refine h A' c' w' ⟨h3.mono (fun q hq => ?_), by rw [List.length_append]; exact h1, h2, (own.bl.trans (hb.mono h8)).trans (h4.to_below (by omega) (fun q hq => hq.1))⟩ h4
  show w0.heap.size ≤ q
  rcases hq with hq | hq | hq
  · exact hq.1
  · have := hT q hq; omega
  · have := hq.1; omega
set_option maxHeartbeats 2000000 in
theorem impl_copyDisk (w : World) (xs : List File) (A : Option Addr) (cap : Nat) (S : Blks) (hx : Row false w A cap xs S) (hl : xs.length ≤ 2000000000) : Calls Tryz.prog 80 #[.agg #[.slice A xs.length cap]] w fun e w' => ∃ A' c', e = .returned (.agg #[.slice A' xs.length c']) ∧ Own w w' A' c' xs := by
  go_enter Tryz.func80, Tryz.ntmps80
  go_upto_region 1 with (fail)
  obtain ⟨W, hW⟩ : ∃ W, (w.alloc (.cells #[.slice A xs.length cap] 28)).alloc (.cells #[.slice none 0 0] 28) = W := ⟨_, rfl⟩
  have hWf : Below w.heap.size w W ∧ W.heap.size = w.heap.size + 1 + 1 ∧ W.cell? ⟨w.heap.size, 0, none⟩ = some (.slice A xs.length cap) ∧ W.cell? ⟨w.heap.size + 1, 0, none⟩ = some (.slice none 0 0) ∧ W.frozen? ⟨w.heap.size + 1, 0, none⟩ = false := by
    rw [← hW]
    have e1 : w.heap.size + 1 = (w.alloc (.cells #[.slice A xs.length cap] 28)).heap.size := by simp
    refine ⟨((Below.refl _ _).alloc (Nat.le_refl _) _).alloc (by simp) _, by simp, cell_alloc (box_cell _ _ _ _ _ rfl), by rw [e1]; exact box_cell _ _ _ _ _ rfl, by rw [e1]; simp⟩
  rw [hW]
  clear hW
  obtain ⟨bW, sW, c0, c1, cf⟩ := hWf
  have hxW := Row.later hx bW
  clear hx
  go_wp2_with (at_builtin; refine wpList_push (α := File) (w0 := W) rfl _ _ rfl rfl rfl (Own.start (Below.refl W.heap.size W)) rfl rfl (Src.flat hxW) (by omega) ?_; intro A' c' w' o' z'; have d1 := (o'.bl.cell (p := ⟨w.heap.size + 1, 0, none⟩) (by show w.heap.size + 1 < _; omega)).trans c1; have df := (o'.bl.frozen (p := ⟨w.heap.size + 1, 0, none⟩) (by show w.heap.size + 1 < _; omega)).trans cf)
  refine bodyPost_ret (v := .agg #[.slice A' xs.length c']) (by simp [results, Tryz.results80, go_sem, *]) rfl ?_
  rw [List.nil_append] at o'
  exact ⟨A', c', rfl, o'.setC bW (by omega) (by omega) _⟩
theorem sz_get' {α : Type} [Lay α] [Mk α] {xs : List α} {k : Nat} (hk : k < xs.length) {n : Nat} (hz : szL xs ≤ n) : sz xs[k] ≤ n := by have := sz_le_L xs k hk; omega
theorem seal_len3' {s : Seal} (h : s.sz ≤ 1048576) : s.sig.open_.length ≤ 1048576 ∧ s.sig.shut.length ≤ 1048576 ∧ s.sig.sides.length ≤ 1048576 := by
  simp only [Seal.sz, Sig.sz] at h
  have := szT_le s.sig.open_ 0
  have := szT_le s.sig.shut 0
  have := szT_le s.sig.sides 0
  omega
theorem pair_len3' {p : Pair} (h : p.sz ≤ 1048576) : (p.a.sig.open_.length ≤ 1048576 ∧ p.a.sig.shut.length ≤ 1048576 ∧ p.a.sig.sides.length ≤ 1048576) ∧ p.b.sig.open_.length ≤ 1048576 ∧ p.b.sig.shut.length ≤ 1048576 ∧ p.b.sig.sides.length ≤ 1048576 := by
  simp only [Pair.sz] at h
  exact ⟨seal_len3' (by omega), seal_len3' (by omega)⟩
set_option maxRecDepth 20000 in set_option maxHeartbeats 8000000 in
theorem impl_copySeals (w : World) (xs : List Seal) (A0 : Option Addr) (cap0 : Nat) (S : Blks) (hx : Row false w A0 cap0 xs S) (hz : szL xs ≤ 1048576) : Calls Tryz.prog 105 #[.slice A0 xs.length cap0] w (OwnRes xs w) := by
  have hl := szT_le xs 0
  have hz' : szL xs ≤ 1048576 := hz
  go_enter Tryz.func105, Tryz.ntmps105
  go_wp2_with (fail)
  go_loopw [3, 8] (fun u i wr => ∃ (n : Nat) (A : Option Addr) (c : Nat), n ≤ xs.length ∧ i = .int .i64 (n : Int) ∧ u = .slice A n c ∧ Own w wr A c (xs.take n)) (fun _ i _ => xs.length - (intOf i).toNat)
  case atStart => exact ⟨0, none, 0, by omega, by simp, by simp, Own.start (Below.refl _ _)⟩
  case round =>
    obtain ⟨n, A, c, hn, rfl, rfl, hown⟩ := hrel
    have HOW := Lib.hid hown
    by_cases hlt : n < xs.length
    · obtain ⟨b2, o2, cc, T2, rfl, hl2, ha, hr, _, _⟩ := Row.at_ (Row.later hx hown.bl) hlt
      have hbd := seal_len3' (sz_get' hlt hz')
      obtain ⟨s, hs⟩ : ∃ s, xs[n] = s := ⟨_, rfl⟩
      have HN : Hid (xs.take (n + 1) = xs.take n ++ [s]) := Lib.hid (by rw [List.take_succ_eq_append_getElem hlt, hs])
      have HLn : Hid (n = (xs.take n).length) := Lib.hid (by simp; omega)
      rw [hs] at hr hbd
      have hr2 := Lib.hid hr
      clear hs
      obtain ⟨F0, n0, U0, F1, n1, U1, F2, n2, U2, rfl, -⟩ := Seal.open hr
      clear hr
      rw [show Lay.n Seal = 8 from rfl] at ha
      have e0 := ha 0 _ rfl
      have e1 := ha 1 _ rfl
      have e2 := ha 2 _ rfl
      have e3 := ha 3 _ rfl
      have e4 := ha 4 _ rfl
      have e5 := ha 5 _ rfl
      have e6 := ha 6 _ rfl
      have e7 := ha 7 _ rfl
      simp only [Nat.add_zero] at e0
      clear ha hown
      obtain ⟨ls0, ls1, ls2⟩ := hbd
      have hq2 : (n : Int) < (xs.length : Int) := by omega
      go_wp2_with (fail)
      obtain ⟨V, hV⟩ : ∃ V, wr.alloc (.cells #[.int .i64 s.head.house, .int .i64 s.head.epoch, .string s.head.root, .string s.head.prev, .int .i64 s.sig.at_, .slice F0 s.sig.open_.length n0, .slice F1 s.sig.shut.length n1, .slice F2 s.sig.sides.length n2] 76) = V := ⟨_, rfl⟩
      have hbV : Below wr.heap.size wr V := by rw [← hV]; exact (Below.refl _ _).alloc (Nat.le_refl _) _
      rw [hV]
      clear hV
      refine (impl_copySeal V s (Seal.cs s F0 n0 F1 n1 F2 n2) T2 (Lay.later hr2.out hbV) ls0 ls1 ls2).mono ?_
      rintro e9 w9 ⟨G0, g0, G1, g1, G2, g2, rfl, hq9, hb9⟩
      have hb9' := hbV.trans (hb9.mono hbV.size)
      have hsV := hbV.size
      go_wp2_with (at_builtin; refine wpList_pushR (α := Seal) rfl _ _ rfl rfl HLn.out HOW.out hb9' hq9 (fun q hq => Nat.le_trans hsV hq.1) rfl rfl (by omega) ?_; intro A5 c5 w5 o5 z5)
      go_roundw
      case rel => exact ⟨n + 1, A5, c5, hlt, by go_num, rfl, by rw [HN.out]; exact o5⟩
      case measure => simp [intOf]; omega
    · have hke : n = xs.length := by omega
      subst hke
      clear hown
      go_wp2
      go_ret
      exact OwnRes.mk HOW.out (by simp) (by simp)
set_option maxRecDepth 20000 in set_option maxHeartbeats 8000000 in
theorem impl_copyPairs (w : World) (xs : List Pair) (A0 : Option Addr) (cap0 : Nat) (S : Blks) (hx : Row false w A0 cap0 xs S) (hz : szL xs ≤ 1048576) : Calls Tryz.prog 106 #[.slice A0 xs.length cap0] w (OwnRes xs w) := by
  have hl := szT_le xs 0
  have hz' : szL xs ≤ 1048576 := hz
  go_enter Tryz.func106, Tryz.ntmps106
  go_wp2_with (fail)
  go_loopw [3, 8] (fun u i wr => ∃ (n : Nat) (A : Option Addr) (c : Nat), n ≤ xs.length ∧ i = .int .i64 (n : Int) ∧ u = .slice A n c ∧ Own w wr A c (xs.take n)) (fun _ i _ => xs.length - (intOf i).toNat)
  case atStart => exact ⟨0, none, 0, by omega, by simp, by simp, Own.start (Below.refl _ _)⟩
  case round =>
    obtain ⟨n, A, c, hn, rfl, rfl, hown⟩ := hrel
    have HOW := Lib.hid hown
    by_cases hlt : n < xs.length
    · obtain ⟨b2, o2, cc, T2, rfl, hl2, ha, hr, _, _⟩ := Row.at_ (Row.later hx hown.bl) hlt
      have hbd := pair_len3' (sz_get' hlt hz')
      obtain ⟨p, hs⟩ : ∃ s, xs[n] = s := ⟨_, rfl⟩
      have HN : Hid (xs.take (n + 1) = xs.take n ++ [p]) := Lib.hid (by rw [List.take_succ_eq_append_getElem hlt, hs])
      have HLn : Hid (n = (xs.take n).length) := Lib.hid (by simp; omega)
      rw [hs] at hr hbd
      clear hs
      obtain ⟨s, t⟩ := p
      obtain ⟨q1, q2, Ts, Tt, rfl, -, -, -, hrs, hrt⟩ := hr
      have HRS := Lib.hid hrs
      have HRT := Lib.hid hrt
      obtain ⟨D0, u0, _, D1, u1, _, D2, u2, _, rfl, -⟩ := Seal.open hrs
      obtain ⟨E0, v0, _, E1, v1, _, E2, v2, _, rfl, -⟩ := Seal.open hrt
      clear hrs hrt
      rw [show Lay.n Pair = 16 from rfl] at ha
      have e0 := ha 0 _ rfl
      have e1 := ha 1 _ rfl
      have e2 := ha 2 _ rfl
      have e3 := ha 3 _ rfl
      have e4 := ha 4 _ rfl
      have e5 := ha 5 _ rfl
      have e6 := ha 6 _ rfl
      have e7 := ha 7 _ rfl
      have e8 := ha 8 _ rfl
      have e9 := ha 9 _ rfl
      have e10 := ha 10 _ rfl
      have e11 := ha 11 _ rfl
      have e12 := ha 12 _ rfl
      have e13 := ha 13 _ rfl
      have e14 := ha 14 _ rfl
      have e15 := ha 15 _ rfl
      simp only [Nat.add_zero] at e0
      clear ha hown
      obtain ⟨⟨ls0, ls1, ls2⟩, lt0, lt1, lt2⟩ := hbd
      have hq2 : (n : Int) < (xs.length : Int) := by omega
      go_wp2_with (fail)
      obtain ⟨V, hV⟩ : ∃ V, wr.alloc (.cells #[.int .i64 s.head.house, .int .i64 s.head.epoch, .string s.head.root, .string s.head.prev, .int .i64 s.sig.at_, .slice D0 s.sig.open_.length u0, .slice D1 s.sig.shut.length u1, .slice D2 s.sig.sides.length u2, .int .i64 t.head.house, .int .i64 t.head.epoch, .string t.head.root, .string t.head.prev, .int .i64 t.sig.at_, .slice E0 t.sig.open_.length v0, .slice E1 t.sig.shut.length v1, .slice E2 t.sig.sides.length v2] 79) = V := ⟨_, rfl⟩
      have hVf : Below wr.heap.size wr V ∧ wr.heap.size < V.heap.size ∧ Bx V wr.heap.size #[.int .i64 s.head.house, .int .i64 s.head.epoch, .string s.head.root, .string s.head.prev, .int .i64 s.sig.at_, .slice D0 s.sig.open_.length u0, .slice D1 s.sig.shut.length u1, .slice D2 s.sig.sides.length u2, .int .i64 t.head.house, .int .i64 t.head.epoch, .string t.head.root, .string t.head.prev, .int .i64 t.sig.at_, .slice E0 t.sig.open_.length v0, .slice E1 t.sig.shut.length v1, .slice E2 t.sig.sides.length v2] 79 := by rw [← hV]; exact ⟨(Below.refl _ _).alloc (Nat.le_refl _) _, by simp, Bx.new _ _ _⟩
      rw [hV]
      clear hV e0 e1 e2 e3 e4 e5 e6 e7 e8 e9 e10 e11 e12 e13 e14 e15
      obtain ⟨hbV, hlV, xV⟩ := hVf
      have RS := Lib.hid (Lay.later HRS.out hbV)
      have RT := Lib.hid (Lay.later HRT.out hbV)
      have hnr : ¬ rng w.heap.size wr.heap.size wr.heap.size := fun h => by have := h.2; omega
      have HM := Lib.hid (fun (w' : World) (h : Chg (rng w.heap.size wr.heap.size) V w') => (⟨(h.cell (o := 0) hlV hnr).trans (xV.at_ (i := 0) rfl), (h.cell (o := 1) hlV hnr).trans (xV.at_ (i := 1) rfl), (h.cell (o := 2) hlV hnr).trans (xV.at_ (i := 2) rfl), (h.cell (o := 3) hlV hnr).trans (xV.at_ (i := 3) rfl), (h.cell (o := 4) hlV hnr).trans (xV.at_ (i := 4) rfl), (h.cell (o := 5) hlV hnr).trans (xV.at_ (i := 5) rfl), (h.cell (o := 6) hlV hnr).trans (xV.at_ (i := 6) rfl), (h.cell (o := 7) hlV hnr).trans (xV.at_ (i := 7) rfl), (h.cell (o := 8) hlV hnr).trans (xV.at_ (i := 8) rfl), (h.cell (o := 9) hlV hnr).trans (xV.at_ (i := 9) rfl), (h.cell (o := 10) hlV hnr).trans (xV.at_ (i := 10) rfl), (h.cell (o := 11) hlV hnr).trans (xV.at_ (i := 11) rfl), (h.cell (o := 12) hlV hnr).trans (xV.at_ (i := 12) rfl), (h.cell (o := 13) hlV hnr).trans (xV.at_ (i := 13) rfl), (h.cell (o := 14) hlV hnr).trans (xV.at_ (i := 14) rfl), (h.cell (o := 15) hlV hnr).trans (xV.at_ (i := 15) rfl), h⟩ : w'.cell? ⟨wr.heap.size, 0, none⟩ = some (.int .i64 s.head.house) ∧ w'.cell? ⟨wr.heap.size, 1, none⟩ = some (.int .i64 s.head.epoch) ∧ w'.cell? ⟨wr.heap.size, 2, none⟩ = some (.string s.head.root) ∧ w'.cell? ⟨wr.heap.size, 3, none⟩ = some (.string s.head.prev) ∧ w'.cell? ⟨wr.heap.size, 4, none⟩ = some (.int .i64 s.sig.at_) ∧ w'.cell? ⟨wr.heap.size, 5, none⟩ = some (.slice D0 s.sig.open_.length u0) ∧ w'.cell? ⟨wr.heap.size, 6, none⟩ = some (.slice D1 s.sig.shut.length u1) ∧ w'.cell? ⟨wr.heap.size, 7, none⟩ = some (.slice D2 s.sig.sides.length u2) ∧ w'.cell? ⟨wr.heap.size, 8, none⟩ = some (.int .i64 t.head.house) ∧ w'.cell? ⟨wr.heap.size, 9, none⟩ = some (.int .i64 t.head.epoch) ∧ w'.cell? ⟨wr.heap.size, 10, none⟩ = some (.string t.head.root) ∧ w'.cell? ⟨wr.heap.size, 11, none⟩ = some (.string t.head.prev) ∧ w'.cell? ⟨wr.heap.size, 12, none⟩ = some (.int .i64 t.sig.at_) ∧ w'.cell? ⟨wr.heap.size, 13, none⟩ = some (.slice E0 t.sig.open_.length v0) ∧ w'.cell? ⟨wr.heap.size, 14, none⟩ = some (.slice E1 t.sig.shut.length v1) ∧ w'.cell? ⟨wr.heap.size, 15, none⟩ = some (.slice E2 t.sig.sides.length v2) ∧ Chg (rng w.heap.size wr.heap.size) V w'))
      have hB := Below.refl V.heap.size V
      have hn2 : n ≤ 2000000000 := by omega
      clear HRS HRT xV
      have hsV := hbV.size
      go_region_held3 (fun w' => w'.cell? ⟨wr.heap.size, 0, none⟩ = some (.int .i64 s.head.house) ∧ w'.cell? ⟨wr.heap.size, 1, none⟩ = some (.int .i64 s.head.epoch) ∧ w'.cell? ⟨wr.heap.size, 2, none⟩ = some (.string s.head.root) ∧ w'.cell? ⟨wr.heap.size, 3, none⟩ = some (.string s.head.prev) ∧ w'.cell? ⟨wr.heap.size, 4, none⟩ = some (.int .i64 s.sig.at_) ∧ w'.cell? ⟨wr.heap.size, 5, none⟩ = some (.slice D0 s.sig.open_.length u0) ∧ w'.cell? ⟨wr.heap.size, 6, none⟩ = some (.slice D1 s.sig.shut.length u1) ∧ w'.cell? ⟨wr.heap.size, 7, none⟩ = some (.slice D2 s.sig.sides.length u2) ∧ w'.cell? ⟨wr.heap.size, 8, none⟩ = some (.int .i64 t.head.house) ∧ w'.cell? ⟨wr.heap.size, 9, none⟩ = some (.int .i64 t.head.epoch) ∧ w'.cell? ⟨wr.heap.size, 10, none⟩ = some (.string t.head.root) ∧ w'.cell? ⟨wr.heap.size, 11, none⟩ = some (.string t.head.prev) ∧ w'.cell? ⟨wr.heap.size, 12, none⟩ = some (.int .i64 t.sig.at_) ∧ w'.cell? ⟨wr.heap.size, 13, none⟩ = some (.slice E0 t.sig.open_.length v0) ∧ w'.cell? ⟨wr.heap.size, 14, none⟩ = some (.slice E1 t.sig.shut.length v1) ∧ w'.cell? ⟨wr.heap.size, 15, none⟩ = some (.slice E2 t.sig.sides.length v2) ∧ Chg (rng w.heap.size wr.heap.size) V w')
        (first | exact HM.out _ hE | exact HM.out _ (Chg.below (Chg.refl _ V) (show Below V.heap.size V _ from (by (repeat (first | with_reducible exact hB | with_reducible refine Below.alloc ?_ ?_ _ | with_reducible apply Below.drew)); all_goals (first | omega | (simp; done) | (simp; omega)))) (Nat.le_refl _)))
        (first | (go_at_call 152; refine (impl_copySeal _ s (Seal.cs s D0 u0 D1 u1 D2 u2) Ts (Lay.later RS.out (by first | exact hB | exact hB.drew)) ls0 ls1 ls2).mono ?_; rintro e5 v5 ⟨F0, nF0, F1, nF1, F2, nF2, rfl, hq5, hb5⟩; have hss := hb5.size; (try simp at hss); have hB := Below.step (a := V) (by first | exact hB | exact hB.drew) hb5) | (go_at_call 152; refine (impl_copySeal _ t (Seal.cs t E0 v0 E1 v1 E2 v2) Tt (Lay.later RT.out (by first | exact hB | exact hB.drew)) lt0 lt1 lt2).mono ?_; rintro e6 v6 ⟨G0, nG0, G1, nG1, G2, nG2, rfl, hq6, hb6⟩; have hst := hb6.size; (try simp at hst); have hB := Below.step (a := V) (by first | exact hB | exact hB.drew) hb6) | (refine step_pushR (α := Pair) (w0 := w) (w1 := wr) (y := (⟨s, t⟩ : Pair)) rfl _ _ rfl rfl HLn.out HOW.out ?hb rfl (src_one (α := Pair) v6 (⟨s, t⟩ : Pair) _ _ _ ?_ (pair_rd (s := s) (t := t) (S := rng V.heap.size v6.heap.size) (Lay.later hq5 hb6) hq6 ?_ ?_ ?_)) ?_ hn2 ?_; (case hb => exact Below.trans hbV (Below.mono (show Below V.heap.size V _ from (by (repeat (first | with_reducible exact hB | with_reducible refine Below.alloc ?_ ?_ _ | with_reducible apply Below.drew)); all_goals (first | omega | (simp; done) | (simp; omega)))) hsV)); (focus simp); (focus (intro b h; unfold rng at h ⊢; (try simp at h); omega)); (focus (intro b h; unfold rng at h ⊢; (try simp at h); omega)); (focus (intro b h h'; unfold rng at h h'; (try simp at h); (try simp at h'); omega)); (focus (intro b h; have h := h.1.1; omega)); intro A5 c5 w5 o5 hc5; have O5 := Lib.hid o5; have hE := (Chg.below (Chg.refl (rng w.heap.size wr.heap.size) V) (show Below V.heap.size V _ from (by (repeat (first | with_reducible exact hB | with_reducible refine Below.alloc ?_ ?_ _ | with_reducible apply Below.drew)); all_goals (first | omega | (simp; done) | (simp; omega)))) (Nat.le_refl _)).trans hc5; clear o5))
      go_wp2_with (fail)
      go_roundw
      case rel => exact ⟨n + 1, A5, c5, hlt, by go_num, rfl, by rw [HN.out]; exact O5.out⟩
      case measure => simp [intOf]; omega
    · have hke : n = xs.length := by omega
      subst hke
      clear hown
      go_wp2
      go_ret
      exact OwnRes.mk HOW.out (by simp) (by simp)
end Go.Proofs.YtlfnmbcnehaikaaGreatDoor
