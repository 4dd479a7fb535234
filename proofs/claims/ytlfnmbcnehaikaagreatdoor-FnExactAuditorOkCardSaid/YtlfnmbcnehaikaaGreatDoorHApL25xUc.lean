/- A part of the proof. -/
import Derived.Deep.CutBlock
import Derived.Test.YtlfnmbcnehaikaaGreatDoorHApL24xRq
set_option linter.unusedVariables false
set_option linter.unusedSimpArgs false
set_option maxRecDepth 20000
set_option maxHeartbeats 8000000
namespace Go.Proofs.YtlfnmbcnehaikaaGreatDoor
open Go.RowKit Lay Mk
theorem Own.setC {α : Type} [Lay α] {w0 w : World} {A : Option Addr} {c : Nat} {L : List α} (h : Own w0 w A c L) {v : World} (hv : Below v.heap.size v w0) {b o : Nat} (hb : b < w0.heap.size) (hl : v.heap.size ≤ b) (u : Value) : Own v (w.setCell ⟨b,o,none⟩ u) A c L :=
 ⟨(h.row.setC (fun x => by have x : w0.heap.size ≤ b:=x; omega) u).mono (fun q x => Nat.le_trans hv.size x),h.le,h.cm,(h.from hv).bl.setCell hl u⟩
theorem impl_copyDisk (w : World) (xs : List File) (A : Option Addr) (cap : Nat) (S : Blks) (hx : Row false w A cap xs S) (hl : xs.length ≤ 2000000000) : Calls Tryz.prog 80 #[.agg #[.slice A xs.length cap]] w fun e w' => ∃ A' c',e = .returned (.agg #[.slice A' xs.length c']) ∧ Own w w' A' c' xs:=by
 go_enter Tryz.func80,Tryz.ntmps80
 go_upto_region 1 with (fail)
 obtain ⟨W,hW⟩ : ∃ W,(w.alloc (.cells #[.slice A xs.length cap] 28)).alloc (.cells #[.slice none 0 0] 28) = W:=⟨_,rfl⟩
 have hWf : Below w.heap.size w W ∧ W.heap.size = w.heap.size + 1 + 1 ∧ W.cell? ⟨w.heap.size,0,none⟩ = some (.slice A xs.length cap) ∧ W.cell? ⟨w.heap.size + 1,0,none⟩ = some (.slice none 0 0) ∧ W.frozen? ⟨w.heap.size + 1,0,none⟩ = false:=by
  rw [← hW]
  have e1 : w.heap.size + 1 = (w.alloc (.cells #[.slice A xs.length cap] 28)).heap.size:=zz17
  refine ⟨((Below.refl _ _).alloc (Nat.le_refl _) _).alloc zz17 _,zz17,cell_alloc (ya2 _ _ _ _ _ rfl),by rw [e1]; exact ya2 _ _ _ _ _ rfl,by rw [e1]; simp⟩
 rw [hW]
 clear hW
 obtain ⟨bW,sW,c0,c1,cf⟩:=hWf
 have hxW:=Row.later hx bW
 clear hx
 go_wp2_with (at_builtin; refine wpList_push (α:=File) (w0:=W) rfl _ _ rfl rfl rfl (Own.start (Below.refl W.heap.size W)) rfl rfl (Src.flat hxW) zz4 ?_; intro A' c' w' o' z'; have d1:=(o'.bl.cell (p:=⟨w.heap.size + 1,0,none⟩) (by show w.heap.size + 1 < _; omega)).trans c1; have df:=(o'.bl.frozen (p:=⟨w.heap.size + 1,0,none⟩) (by show w.heap.size + 1 < _; omega)).trans cf)
 refine bodyPost_ret (v:=.agg #[.slice A' xs.length c']) (by simp [results,Tryz.results80,go_sem, *]) rfl ?_
 rw [List.nil_append] at o'
 exact ⟨A',c',rfl,o'.setC bW zz4 zz4 _⟩
theorem sz_get' {α : Type} [Lay α] [Mk α] {xs : List α} {k : Nat} (hk : k < xs.length) {n : Nat} (hz : szL xs ≤ n) : sz xs[k] ≤ n:=by have:=sz_le_L xs k hk; omega
theorem seal_len3' {s : Seal} (h : s.sz ≤ 1048576) : s.sig.open_.length ≤ 1048576 ∧ s.sig.shut.length ≤ 1048576 ∧ s.sig.sides.length ≤ 1048576:=by
 simp only [Seal.sz,Sig.sz] at h
 have:=szT_le s.sig.open_ 0
 have:=szT_le s.sig.shut 0
 have:=szT_le s.sig.sides 0
 omega
theorem pair_len3' {p : Pair} (h : p.sz ≤ 1048576) : (p.a.sig.open_.length ≤ 1048576 ∧ p.a.sig.shut.length ≤ 1048576 ∧ p.a.sig.sides.length ≤ 1048576) ∧ p.b.sig.open_.length ≤ 1048576 ∧ p.b.sig.shut.length ≤ 1048576 ∧ p.b.sig.sides.length ≤ 1048576:=by
 simp only [Pair.sz] at h
 exact ⟨seal_len3' zz4,seal_len3' zz4⟩
end Go.Proofs.YtlfnmbcnehaikaaGreatDoor
namespace Go.Proofs.YtlfnmbcnehaikaaGreatDoor
open Go.RowKit Lay Mk
def auditorNew (house : Int) (d : Disk) : Auditor:=auditorFrom house d (poolOf (seedOf house))
theorem logTexts_len (xs : List File) (n : ByteArray) : (logTexts xs n).length ≤ 4000:=by
 unfold logTexts
 split
 ·exact Nat.zero_le _
 ·rename_i T _
  split
  ·have:=(unframe_sz T).2; omega
  ·exact Nat.zero_le _
end Go.Proofs.YtlfnmbcnehaikaaGreatDoor
namespace Go.Proofs.YtlfnmbcnehaikaaGreatDoor
open Go.RowKit Lay Mk
theorem Bx.set {w : World} {r i : Nat} {cs cs' : Array Value} {ty : TypeId} {v : Value} (h : Bx w r cs ty) (e : cs.setIfInBounds i v = cs') : Bx (w.setCell ⟨r,i,none⟩ v) r cs' ty:=by
 subst e
 unfold Bx at *
 simp only [World.setCell,Array.getElem?_modify,h]
 simp
theorem Bx.far {w : World} {r r2 i : Nat} {cs : Array Value} {ty : TypeId} {v : Value} (h : Bx w r cs ty) (hr : r ≠ r2) : Bx (w.setCell ⟨r2,i,none⟩ v) r cs ty:=h.keep (Below.heap_setCell w _ v r hr)
theorem impl_one_any (w : World) (g : Nat) (t : ByteArray) (a : Nat) (b : Bool) (hF : Fld 151 w g t a b) (ht : t.size ≤ 1048576) (ha : a ≤ t.size) : ∃ (v : Int) (a1 : Nat) (b1 : Bool),Hid (Calls Tryz.prog 213 #[.pointer (some ⟨g,0,none⟩)] w fun e w' => e = .returned (.int .i64 v) ∧ Fld 151 w' g t a1 b1 ∧ Chg (fun b => b = g) w w') ∧ a1 ≤ t.size ∧ (0 ≤ v ∧ v ≤ 255) ∧ Hid ((b1 = false → b = false ∧ a1 = a + 1 ∧ ∀ h : a < t.size,v = (t[a].toNat : Int)) ∧ (b1 = true → b = true ∨ t.size ≤ a)):=by
 by_cases hg : b = false ∧ a < t.size
 ·have hbt:=t[a].toNat_lt
  exact ⟨_,_,_,zd (impl_one_yes w g t a b hF ht ha hg.1 hg.2),hg.2,zz4,zd ⟨fun _ => ⟨hg.1,rfl,fun _ => rfl⟩,fun h => (by cases h)⟩⟩
 ·have hbad : b = true ∨ t.size ≤ a:=by
   cases b
   ·exact .inr (Nat.le_of_not_lt (fun h => hg ⟨rfl,h⟩))
   ·exact .inl rfl
  exact ⟨_,_,_,zd (impl_one_no w g t a b hF ht ha hbad),ha,zz4,zd ⟨fun h => (by cases h),fun _ => hbad⟩⟩
theorem impl_bytes_any (w : World) (g : Nat) (t : ByteArray) (a : Nat) (b : Bool) (hF : Fld 151 w g t a b) (ht : t.size ≤ 1048576) (ha : a ≤ t.size) (n : Nat) (hn : n ≤ 16) : ∃ (E : ByteArray) (a1 : Nat) (b1 : Bool),Hid (Calls Tryz.prog 214 #[.pointer (some ⟨g,0,none⟩), .int .i64 n] w fun e w' => e = .returned (.string E) ∧ Fld 151 w' g t a1 b1 ∧ Chg (fun b => b = g) w w') ∧ a1 ≤ t.size ∧ E.size ≤ 16 ∧ Hid ((b1 = false → b = false ∧ a1 = a + n ∧ E = t.extract a (a + n)) ∧ (b1 = true → b = true ∨ t.size < a + n)):=by
 by_cases hg : b = false ∧ a + n ≤ t.size
 ·exact ⟨_,_,_,zd (impl_bytes_yes w g t a b hF ht ha n hn hg.1 hg.2),hg.2,zz52,zd ⟨fun _ => ⟨hg.1,rfl,rfl⟩,fun h => (by cases h)⟩⟩
 ·have hbad : b = true ∨ t.size < a + n:=by
   cases b
   ·exact .inr (Nat.lt_of_not_le (fun h => hg ⟨rfl,h⟩))
   ·exact .inl rfl
  exact ⟨_,_,_,zd (impl_bytes_no w g t a b hF ht ha n hn hbad),ha,Nat.zero_le _,zd ⟨fun h => (by cases h),fun _ => hbad⟩⟩
def hdV (o : Option Head) : Value:=match o with
 | none => .tuple #[.agg #[.int .i64 0, .int .i64 0, .string ⟨#[]⟩, .string ⟨#[]⟩], .bool false]
 | some h => .tuple #[.agg (Head.cs h).toArray, .bool true]
theorem impl_ReadHead (w : World) (t : ByteArray) (ht : t.size ≤ 1048576) : Calls Tryz.prog 198 #[.string t] w fun e w' => e = .returned (hdV (rdHead t)) ∧ Below w.heap.size w w':=by
 go_enter Tryz.func198,Tryz.ntmps198
 go_wp2_with (fail)
 obtain ⟨W,hW⟩ : ∃ W,(w.alloc (.cells #[.int .i64 0, .int .i64 0, .string ⟨#[]⟩, .string ⟨#[]⟩] 72)).alloc (.cells #[.string t, .int .i64 0, .bool false] 151) = W:=⟨_,rfl⟩
 have hWf : Below w.heap.size w W ∧ W.heap.size = w.heap.size + 2 ∧ Bx W w.heap.size #[.int .i64 0, .int .i64 0, .string ⟨#[]⟩, .string ⟨#[]⟩] 72 ∧ Fld 151 W (w.heap.size + 1) t 0 false:=by
  rw [← hW]
  have e1 : w.heap.size + 1 = (w.alloc (.cells #[.int .i64 0, .int .i64 0, .string ⟨#[]⟩, .string ⟨#[]⟩] 72)).heap.size:=zz17
  refine ⟨((Below.refl _ _).alloc (Nat.le_refl _) _).alloc zz17 _,zz17,(Bx.new _ _ _).keep (Below.heap_alloc _ _ _ zz17),?_⟩
  rw [e1]
  exact Fld.new _ _ _
 rw [hW]
 clear hW
 obtain ⟨bW,sW,xW,hF⟩:=hWf
 obtain ⟨v1,a1,b1,HV1,ha1,hv1,H1⟩:=impl_one_any W _ t 0 false hF ht (Nat.zero_le _)
 clear hF
 refine HV1.out.mono ?_
 rintro e1 w1 ⟨rfl,hF1,hc1⟩
 have hs1:=hc1.size
 have x1:=xW.keep (hc1.block _ zz4 zz4)
 have B1:=zd (bW.trans (hc1.to_below (B:=w.heap.size) zz4 (fun b h => by have h : b = w.heap.size + 1:=h; omega)))
 clear hc1 HV1 xW
 obtain ⟨v2,a2,b2,HV2,ha2,hv2,H2⟩:=impl_one_any w1 _ t a1 b1 hF1 ht ha1
 clear hF1
 go_wp2_with (fail)
 refine HV2.out.mono ?_
 rintro e2 w2 ⟨rfl,hF2,hc2⟩
 have hs2:=hc2.size
 have x2:=x1.keep (hc2.block _ zz4 zz4)
 have B2:=zd (B1.out.trans (hc2.to_below (B:=w.heap.size) zz4 (fun b h => by have h : b = w.heap.size + 1:=h; omega)))
 clear hc2 HV2 x1
 obtain ⟨E3,a3,b3,HV3,ha3,hz3,H3⟩:=impl_bytes_any w2 _ t a2 b2 hF2 ht ha2 16 (Nat.le_refl _)
 clear hF2
 go_wp2_with (fail)
 refine HV3.out.mono ?_
 rintro e3 w3 ⟨rfl,hF3,hc3⟩
 have hs3:=hc3.size
 have x3:=x2.keep (hc3.block _ zz4 zz4)
 have B3:=zd (B2.out.trans (hc3.to_below (B:=w.heap.size) zz4 (fun b h => by have h : b = w.heap.size + 1:=h; omega)))
 clear hc3 HV3 x2
 go_upto_region 3 with (fail)
 obtain ⟨V,hV⟩ : ∃ V,w3.alloc (.cells #[.int .i64 v1, .int .i64 v2, .string E3, .string ⟨#[]⟩] 72) = V:=⟨_,rfl⟩
 have hVf : Below w3.heap.size w3 V ∧ V.heap.size = w3.heap.size + 1 ∧ Bx V w3.heap.size #[.int .i64 v1, .int .i64 v2, .string E3, .string ⟨#[]⟩] 72:=by
  rw [← hV]
  exact ⟨(Below.refl _ _).alloc (Nat.le_refl _) _,zz17,Bx.new _ _ _⟩
 rw [hV]
 clear hV
 obtain ⟨bV,sV,xV⟩:=hVf
 have xR:=x3.keep (bV.block _ zz4)
 have hF4:=hF3.below bV zz4
 have BV:=zd (B3.out.trans (bV.mono zz4))
 clear x3 hF3 bV
 have c0:=hF4.c0
 have c1:=hF4.c1
 have c2:=hF4.c2
 cases e3 : b3
 ·obtain ⟨q1,q2,q3⟩:=H3.out.1 e3
  obtain ⟨q4,q5,q6⟩:=H2.out.1 q1
  obtain ⟨q7,q8,q9⟩:=H1.out.1 q4
  have hl : 18 ≤ t.size:=zz4
  have h2 : a2 = 2:=zz4
  have h3 : a3 = 18:=zz4
  have q6:=q6 zz4
  have q9:=q9 zz4
  subst e3
  subst h2; subst h3
  have h1 : a1 = 1:=zz4
  subst h1
  have HR:=zd (rdHead_at hl)
  obtain ⟨p,hp⟩ : ∃ p,t.extract 18 t.size = p:=⟨_,rfl⟩
  rw [← q6, ← q9, ← show E3 = t.extract 2 18 from q3,hp] at HR
  clear q1 q2 q3 q4 q5 q6 q7 q8 q9 H1 H2 H3 B1 B2 B3
  have b18 : (18 : Int) ≤ (t.size : Int):=zz4
  have z3:=xV.at_ (i:=3) rfl
  have zf:=xV.fz
  go_upto_region 5 with (fail)
  obtain ⟨V5,hV5⟩ : ∃ Z,V.setCell ⟨w3.heap.size,3,none⟩ (.string p) = Z:=⟨_,rfl⟩
  have hV5f : Bx V5 w3.heap.size #[.int .i64 v1, .int .i64 v2, .string E3, .string p] 72 ∧ Bx V5 w.heap.size #[.int .i64 0, .int .i64 0, .string ⟨#[]⟩, .string ⟨#[]⟩] 72 ∧ Fld 151 V5 (w.heap.size + 1) t 18 false ∧ Below w.heap.size w V5 ∧ V5.heap.size = V.heap.size:=by
   rw [← hV5]
   exact ⟨xV.set rfl,xR.far zz4,hF4.keep (Below.heap_setCell _ _ _ _ (by show w.heap.size + 1 ≠ w3.heap.size; omega)),Below.setCell BV.out (by show w.heap.size ≤ w3.heap.size; omega) _,zz17⟩
  rw [hV5]
  clear hV5 z3 zf c0 c1 c2 xV xR hF4 BV
  obtain ⟨xh,xr,hF5,B5,s5⟩:=hV5f
  have c2:=hF5.c2
  have z0:=xh.at_ (i:=0) rfl
  have z1:=xh.at_ (i:=1) rfl
  have z2:=xh.at_ (i:=2) rfl
  have z3:=xh.at_ (i:=3) rfl
  have HK:=zd (impl_HeadOk ⟨v1,v2,E3,p⟩ V5)
  have XR:=zd xr
  have XH:=zd xh
  have BB:=zd B5
  clear xr xh hF5 B5
  cases hk : headOk ⟨v1,v2,E3,p⟩
  ·rw [hk] at HK HR
   simp only [Bool.false_eq_true,if_false,Head.cs] at HR HK
   go_wp2_with (fail)
   refine HK.out.mono ?_
   rintro e6 w6 ⟨rfl,hb6⟩
   have y0:=(XR.out.keep (hb6.block _ XR.out.lt)).at_ (i:=0) rfl
   have y1:=(XR.out.keep (hb6.block _ XR.out.lt)).at_ (i:=1) rfl
   have y2:=(XR.out.keep (hb6.block _ XR.out.lt)).at_ (i:=2) rfl
   have y3:=(XR.out.keep (hb6.block _ XR.out.lt)).at_ (i:=3) rfl
   have yf:=(XR.out.keep (hb6.block _ XR.out.lt)).fz
   have B6:=zd (BB.out.trans (hb6.mono BB.out.size))
   clear hb6 z0 z1 z2 z3
   go_wp2_with (fail)
   refine bodyPost_ret (v:=.tuple #[.agg #[.int .i64 0, .int .i64 0, .string ⟨#[]⟩, .string ⟨#[]⟩], .bool false]) (by simp [results,Tryz.results198,go_sem, *]) rfl ?_
   exact ⟨by rw [HR.out]; rfl,Below.setCell (Below.setCell (Below.setCell (Below.setCell B6.out (Nat.le_refl _) _) (Nat.le_refl _) _) (Nat.le_refl _) _) (Nat.le_refl _) _⟩
  ·rw [hk] at HK HR
   simp only [if_true,Head.cs] at HR HK
   go_wp2_with (fail)
   refine HK.out.mono ?_
   rintro e6 w6 ⟨rfl,hb6⟩
   have y0:=(XR.out.keep (hb6.block _ XR.out.lt)).at_ (i:=0) rfl
   have y1:=(XR.out.keep (hb6.block _ XR.out.lt)).at_ (i:=1) rfl
   have y2:=(XR.out.keep (hb6.block _ XR.out.lt)).at_ (i:=2) rfl
   have y3:=(XR.out.keep (hb6.block _ XR.out.lt)).at_ (i:=3) rfl
   have yf:=(XR.out.keep (hb6.block _ XR.out.lt)).fz
   replace z0:=(XH.out.keep (hb6.block _ XH.out.lt)).at_ (i:=0) rfl
   replace z1:=(XH.out.keep (hb6.block _ XH.out.lt)).at_ (i:=1) rfl
   replace z2:=(XH.out.keep (hb6.block _ XH.out.lt)).at_ (i:=2) rfl
   replace z3:=(XH.out.keep (hb6.block _ XH.out.lt)).at_ (i:=3) rfl
   have B6:=zd (BB.out.trans (hb6.mono BB.out.size))
   clear hb6
   go_wp2_with (fail)
   refine bodyPost_ret (v:=.tuple #[.agg #[.int .i64 v1, .int .i64 v2, .string E3, .string p], .bool true]) (by simp [results,Tryz.results198,go_sem, *]) rfl ?_
   exact ⟨by rw [HR.out]; rfl,Below.setCell (Below.setCell (Below.setCell (Below.setCell B6.out (Nat.le_refl _) _) (Nat.le_refl _) _) (Nat.le_refl _) _) (Nat.le_refl _) _⟩
 ·have hl : t.size < 18:=by
   rcases H3.out.2 e3 with h | h
   ·rcases H2.out.2 h with h' | h'
    ·rcases H1.out.2 h' with h'' | h''
     ·cases h''
     ·omega
    ·cases e1 : b1
     ·have:=(H1.out.1 e1).2.1; omega
     ·rcases H1.out.2 e1 with h'' | h''
      ·cases h''
      ·omega
   ·cases e2 : b2
    ·obtain ⟨r1,r2, -⟩:=H2.out.1 e2
     have:=(H1.out.1 r1).2.1
     omega
    ·rcases H2.out.2 e2 with h' | h'
     ·rcases H1.out.2 h' with h'' | h''
      ·cases h''
      ·omega
     ·cases e1 : b1
      ·have:=(H1.out.1 e1).2.1; omega
      ·rcases H1.out.2 e1 with h'' | h''
       ·cases h''
       ·omega
  have HR:=zd (rdHead_no hl)
  subst e3
  have y0:=xR.at_ (i:=0) rfl
  have y1:=xR.at_ (i:=1) rfl
  have y2:=xR.at_ (i:=2) rfl
  have y3:=xR.at_ (i:=3) rfl
  have yf:=xR.fz
  clear H1 H2 H3 B1 B2 B3
  go_wp2_with (fail)
  refine bodyPost_ret (v:=.tuple #[.agg #[.int .i64 0, .int .i64 0, .string ⟨#[]⟩, .string ⟨#[]⟩], .bool false]) (by simp [results,Tryz.results198,go_sem, *]) rfl ?_
  exact ⟨by rw [HR.out]; rfl,Below.setCell (Below.setCell (Below.setCell (Below.setCell BV.out (Nat.le_refl _) _) (Nat.le_refl _) _) (Nat.le_refl _) _) (Nat.le_refl _) _⟩
end Go.Proofs.YtlfnmbcnehaikaaGreatDoor
