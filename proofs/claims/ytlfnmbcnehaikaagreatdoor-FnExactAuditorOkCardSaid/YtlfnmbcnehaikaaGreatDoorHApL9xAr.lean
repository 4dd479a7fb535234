/- A part of the proof. -/
import Derived.Test.YtlfnmbcnehaikaaGreatDoorHApL8xRd
import Derived.Deep.QuietTactic
import Derived.BigQuiet
import Derived.Deep.Upon
import Derived.Lib.ConvBytes
import Derived.IntWalk
import Derived.Laws.BitsAllLaws
set_option linter.unusedVariables false
set_option linter.unusedSimpArgs false
set_option maxRecDepth 20000
set_option maxHeartbeats 4000000
namespace Go.Proofs.YtlfnmbcnehaikaaGreatDoor
open Go.RowKit Lay Mk
def u32v (x : Int) : Value:=.int .u32 x
def arr (l : List Int) : Array Value:=(l.map u32v).toArray
theorem arr_size (l : List Int) : (arr l).size = l.length:=by simp [arr]
def Arr (w : World) (b : Nat) (t : TypeId) (l : List Int) : Prop:=w.heap[b]? = some (.cells (arr l) t (0,0))
theorem Arr.cell {w : World} {b t : Nat} {l : List Int} (h : Arr w b t l) {i : Nat} (hi : i < l.length) : w.cell? ⟨b,i,none⟩ = some (.int .u32 l[i]):=by
 rw [cell_of_row w b i _ t (0,0) h]; simp [arr,u32v,hi]
theorem Arr.lt {w : World} {b t : Nat} {l : List Int} (h : Arr w b t l) : b < w.heap.size:=heap_lt h
theorem Arr.frozen {w : World} {b t : Nat} {l : List Int} (h : Arr w b t l) (o : Nat) : w.frozen? ⟨b,o,none⟩ = false:=frozen_of_row w b o _ t h
theorem Arr.set {w : World} {b t : Nat} {l : List Int} (h : Arr w b t l) (i : Nat) (x : Int) : Arr (w.setCell ⟨b,i,none⟩ (.int .u32 x)) b t (l.set i x):=by
 unfold Arr at *
 simp only [World.setCell,Array.getElem?_modify,h]
 simp only [if_true,Option.map_some,Option.some.injEq]
 simp [arr,u32v,List.map_set]
theorem Arr.setO {w : World} {b t : Nat} {l : List Int} (h : Arr w b t l) {p : Addr} (hp : b ≠ p.block) (u : Value) : Arr (w.setCell p u) b t l:=(Below.heap_setCell w p u b hp).trans h
theorem Arr.alloc {w : World} {b t : Nat} {l : List Int} (h : Arr w b t l) (o : Obj) : Arr (w.alloc o) b t l:=(Below.heap_alloc w o b (heap_lt h)).trans h
theorem Arr.drew {w : World} {b t : Nat} {l : List Int} (h : Arr w b t l) : Arr w.drew b t l:=h
theorem Arr.drewN {w : World} {b t : Nat} {l : List Int} (h : Arr w b t l) (n : Nat) : Arr (w.drewN n) b t l:=h
theorem Arr.keep {w w' : World} {b t : Nat} {l : List Int} (h : Arr w b t l) (k : w'.heap[b]? = w.heap[b]?) : Arr w' b t l:=k.trans h
theorem Arr.new (w : World) (l : List Int) (t : TypeId) : Arr (w.alloc (.cells (arr l) t)) w.heap.size t l:=heap_alloc_new w _
theorem arr_one (l : List Int) : ∀ u ∈ (arr l).toList,u.oneCell' = true:=by
 intro u hu
 simp only [arr,List.mem_map] at hu
 obtain ⟨x,_,rfl⟩:=hu
 rfl
theorem arr_new {w : World} {C : Array Value} {l : List Int} {t b : Nat} (hb : b = w.heap.size) (h : C = arr l) : Arr (w.alloc (.cells C t)) b t l:=by subst hb; subst h; exact Arr.new w l t
end Go.Proofs.YtlfnmbcnehaikaaGreatDoor
namespace Go.Proofs.YtlfnmbcnehaikaaGreatDoor
open Go.RowKit Lay Mk
theorem Below.drewN {B : Nat} {w w' : World} (h : Below B w w') (n : Nat) : Below B w (w'.drewN n):=⟨h.os,h.tape,h.output,h.size,h.block⟩
theorem quiet_w {P : Program} {f : FuncId} {args : Array Value} {w : World} {n : Nat} {v : Value} (h : Calls P f args (w.drewN n) fun e w' => e = .returned v ∧ w.drewN n = w') :
  Calls P f args (w.drewN n) fun e w'' => e = .returned v ∧ ∃ m,w'' = w.drewN m:=h.mono fun _ _ ⟨he,hm⟩ => ⟨he,n,hm.symm⟩
theorem src_newb {α : Type} [Lay α] [Flat α] (w : World) (y : α) (ok : Flat.ok y) (cs : Array Value) (t : TypeId) (b : Nat) (hb : b = w.heap.size) (h : cs.toList = Flat.cs y) : Src (w.alloc (.cells cs t)) (some ⟨b,0,none⟩) [y] none_:=by
 subst hb; exact src_new w y ok cs t h
theorem row_lit0b {α : Type} [Lay α] (w : World) (t : TypeId) (b : Nat) (S : Blks) (hb : b = w.heap.size) (ht : t = ty α) (hS : S w.heap.size) : Row (α:=α) true (w.alloc (.cells #[] t)) (some ⟨b,0,none⟩) 0 [] S:=by
 subst hb; exact row_lit0 w t S ht hS
theorem ret_slice {A : Option Addr} {n m cap : Nat} (h : n = m) : Ending.returned (.slice A n cap) = .returned (.slice A m cap):=by rw [h]
theorem row_og {α : Type} [Lay α] {w' : World} {A : Option Addr} {cap lo hi : Nat} {xs : List α} {O : Blks} (h : Row true w' A cap xs (fun b => O b ∨ none_ b ∨ (lo ≤ b ∧ b < hi))) (hO : ∀ b,lo ≤ b → O b) : Row true w' A cap xs O :=
 h.mono (fun b x => x.elim id (fun y => y.elim (fun z => z.elim) (fun z => hO b z.1)))
theorem Chg.cell {S : Blks} {w w' : World} (h : Chg S w w') {b o : Nat} (hb : b < w.heap.size) (hs : ¬ S b) : w'.cell? ⟨b,o,none⟩ = w.cell? ⟨b,o,none⟩:=World.cell?_of_block (a:=⟨b,o,none⟩) (h.block b hb hs)
theorem row_up {α : Type} [Lay α] {w' : World} {A : Option Addr} {cap B lo : Nat} {xs : List α} {S T : Blks} (h : Row true w' A cap xs (fun b => S b ∨ T b ∨ (lo ≤ b ∧ b < w'.heap.size))) (hS : ∀ b,S b → B ≤ b) (hT : ∀ b,T b → B ≤ b) (hB : B ≤ lo) : Row true w' A cap xs (rng B w'.heap.size) :=
 h.tight.mono (fun b x => ⟨x.1.elim (hS b) (fun y => y.elim (hT b) (fun z => Nat.le_trans hB z.1)),x.2⟩)
theorem Chg.up {w w' : World} {B m : Nat} (h : Chg (rng B m) w w') (hB : B ≤ w.heap.size) : Below B w w':=h.to_below hB (fun _ x => x.1)
def foldT {α β : Type} (f : β → α → β) (s : β) (xs : List α) (k : Nat) : β:=(xs.take k).foldl f s
theorem foldT_succ {α β : Type} {f : β → α → β} {s : β} {xs : List α} {k : Nat} (h : k < xs.length) : foldT f s xs (k + 1) = f (foldT f s xs k) xs[k]:=by
 unfold foldT; rw [List.take_succ_eq_append_getElem h,List.foldl_append]; rfl
theorem foldT_all {α β : Type} (f : β → α → β) (s : β) (xs : List α) : foldT f s xs xs.length = xs.foldl f s:=by unfold foldT; rw [List.take_length]
def gath {α β : Type} (p : α → Bool) (g : α → β) (acc : List β) (x : α) : List β:=if p x then acc ++ [g x] else acc
theorem gath_fold {α β : Type} (p : α → Bool) (g : α → β) : ∀ (xs : List α) (acc : List β),xs.foldl (gath p g) acc = acc ++ (xs.filter p).map g
 | [],acc => by simp
 | x :: xs,acc => by
  rw [List.foldl_cons,gath_fold p g xs]
  unfold gath
  by_cases h : p x = true
  ·rw [if_pos h]; simp [List.filter_cons,h]
  ·rw [if_neg h]; simp [List.filter_cons,h]
theorem gathT_len {α β : Type} (p : α → Bool) (g : α → β) (xs : List α) (k : Nat) : (foldT (gath p g) [] xs k).length ≤ k:=by
 unfold foldT; rw [gath_fold]; simp only [List.nil_append,List.length_map]
 have:=List.length_filter_le p (xs.take k)
 have:=List.length_take_le k xs
 omega
theorem gathT_yes {α β : Type} {p : α → Bool} {g : α → β} {xs : List α} {k : Nat} (h : k < xs.length) (hp : p xs[k] = true) : foldT (gath p g) [] xs (k + 1) = foldT (gath p g) [] xs k ++ [g xs[k]]:=by
 rw [foldT_succ h]; unfold gath; rw [if_pos hp]
theorem gathT_no {α β : Type} {p : α → Bool} {g : α → β} {xs : List α} {k : Nat} (h : k < xs.length) (hp : p xs[k] = false) : foldT (gath p g) [] xs (k + 1) = foldT (gath p g) [] xs k:=by
 rw [foldT_succ h]; unfold gath; rw [hp]; rfl
def allN (n : Nat) (p : Nat → Bool) : Bool:=(List.range n).all p
theorem allN_bad {n : Nat} {p : Nat → Bool} {k : Nat} (h : k < n) (hp : p k = false) : allN n p = false:=by
 unfold allN
 rw [List.all_eq_false]
 exact ⟨k,by simpa using h,by simp [hp]⟩
theorem allN_end {n : Nat} {p : Nat → Bool} (h : ∀ k,k < n → p k = true) : allN n p = true:=by
 unfold allN
 rw [List.all_eq_true]
 intro k hk
 exact h k (by simpa using hk)
theorem upto_succ {p : Nat → Bool} {k : Nat} (h : ∀ j,j < k → p j = true) (hk : p k = true) : ∀ j,j < k + 1 → p j = true:=fun j hj => by
 by_cases e : j = k
 ·subst e; exact hk
 ·exact h j zz4
theorem upto_zero {p : Nat → Bool} : ∀ j,j < 0 → p j = true:=fun j h => absurd h (Nat.not_lt_zero j)
end Go.Proofs.YtlfnmbcnehaikaaGreatDoor
namespace Go.Proofs.YtlfnmbcnehaikaaGreatDoor
open Go.RowKit Lay Mk
def varB (n : Nat) : List UInt8:=if h : 127 < n then UInt8.ofNat (128 + n % 128) :: varB (n / 128) else [UInt8.ofNat n]
termination_by n
decreasing_by omega
theorem varB_more {n : Nat} (h : 127 < n) : varB n = UInt8.ofNat (128 + n % 128) :: varB (n / 128):=by rw [varB]; simp [h]
theorem varB_last {n : Nat} (h : n ≤ 127) : varB n = [UInt8.ofNat n]:=by rw [varB]; simp [show ¬ 127 < n by omega]
def varT (n : Nat) : ByteArray:=bs (varB n)
theorem varB_len : ∀ (k n : Nat),n < 128 ^ (k + 1) → (varB n).length ≤ k + 1
 | 0,n,h => by rw [varB_last zz4]; simp
 | k + 1,n,h => by
  by_cases hn : 127 < n
  ·rw [varB_more hn]
   have:=varB_len k (n / 128) (by rw [Nat.pow_succ] at h; omega)
   simp only [List.length_cons]; omega
  ·rw [varB_last zz4]; simp
theorem varT_le {n : Nat} (h : n ≤ 1000000000) : (varT n).size ≤ 5:=by
 unfold varT; rw [bs_size]; exact varB_len 4 n zz4
theorem impl_varText (n : Nat) (w : World) (hn : n ≤ 1000000000) : Calls Tryz.prog 161 #[.int .i64 n] w fun e w' => e = .returned (.string (varT n)) ∧ Below w.heap.size w w':=by
 go_enter Tryz.func161,Tryz.ntmps161
 go_wp2
 go_loopw [0,3] (fun v u wr => ∃ (m : Nat) (pre : List UInt8) (A : Option Addr) (cap : Nat),v = .int .i64 m ∧ u = .slice A pre.length cap ∧ Hid (pre ++ varB m = varB n) ∧ pre.length + m ≤ n ∧ pre.length ≤ cap ∧ cap ≤ maxLen ∧ Row true wr A cap pre (nw w.heap.size) ∧ Below w.heap.size w wr) (fun v _ _ => (intOf v).toNat)
 case atStart => exact ⟨n, [],none,0,rfl,rfl,zd rfl,zz17,zz17,zz44,row_nil _ _,Below.refl _ _⟩
 case round =>
  obtain ⟨m,pre,A,cap,rfl,rfl,hpre,hlen,hle,hcm,hrow,hb⟩:=hrel
  have hz:=hb.size
  by_cases hm : 127 < m
  ·have hv:=varB_more hm
   have HV:=zd hv; clear hv
   have hz2 : w.heap.size ≤ (wr.alloc (.cells #[.int .u8 (128 + (m : Int) % 128)] 5)).heap.size:=zz23
   go_wp2_with (at_builtin; refine wpList_app (α:=UInt8) rfl _ _ rfl rfl rfl (hrow.allocC _) hle hcm rfl rfl (src_u8 _ _ _ _ (u8_eq (128 + m % 128) _ zz4 zz4)) (disj_none_ _) zz4 ?_; intro A' cap' w' h1 h2 h3 h4)
   go_roundw
   case rel => exact ⟨m / 128,pre ++ [UInt8.ofNat (128 + m % 128)],A',cap',by go_num,zz17,zd (by rw [← hpre.out,HV.out]; simp),zz23,by simpa using h1,h2,h3.mono (nw_step (ya8 _) (none_sub _) hz2),(hb.alloc hz _).trans (h4.nw hz2 (ya8 _))⟩
   case measure => simp [intOf]; omega
  ·have hv:=varB_last (n:=m) zz4
   have HV:=zd hv; clear hv
   have hz2 : w.heap.size ≤ (wr.alloc (.cells #[.int .u8 (m : Int)] 5)).heap.size:=zz23
   go_wp2_with (first | (at_builtin; refine wpList_app (α:=UInt8) rfl _ _ rfl rfl rfl (hrow.allocC _) hle hcm rfl rfl (src_u8 _ _ _ _ (u8_eq m _ rfl zz4)) (disj_none_ _) zz4 ?_; intro A' cap' w' h1 h2 h3 h4) | (refine wpList_bytes rfl _ rfl Tryz.underlying5 Tryz.underlying9 rfl (l:=pre ++ [UInt8.ofNat m]) zz17 h3 ?_))
   go_ret
   exact ⟨ret_str (by rw [varT, ← hpre.out,HV.out]),(hb.alloc hz _).trans (h4.nw hz2 (ya8 _))⟩
theorem spec_l01Var (n : Nat) (w : World) (hn : n ≤ 1000000000) : Calls Tryz.prog 109 #[.int .i64 n] w fun e w' => e = .returned (.string (varT n)) ∧ Below w.heap.size w w':=by
 go_enter Tryz.func109,Tryz.ntmps109
 go_wp2
 go_loopw [0,3] (fun v u wr => ∃ (m : Nat) (pre : List UInt8) (A : Option Addr) (cap : Nat),v = .int .i64 m ∧ u = .slice A pre.length cap ∧ Hid (pre ++ varB m = varB n) ∧ pre.length + m ≤ n ∧ pre.length ≤ cap ∧ cap ≤ maxLen ∧ Row true wr A cap pre (nw w.heap.size) ∧ Below w.heap.size w wr) (fun v _ _ => (intOf v).toNat)
 case atStart => exact ⟨n, [],_,_,rfl,rfl,zd rfl,zz17,zz17,zz44,row_lit0 _ _ _ rfl (Nat.le_refl _),(Below.refl _ _).alloc (Nat.le_refl _) _⟩
 case round =>
  obtain ⟨m,pre,A,cap,rfl,rfl,hpre,hlen,hle,hcm,hrow,hb⟩:=hrel
  have hz:=hb.size
  by_cases hm : 127 < m
  ·have hv:=varB_more hm
   have HV:=zd hv; clear hv
   have hz2 : w.heap.size ≤ (wr.alloc (.cells #[.int .u8 ((m : Int) % 128 + 128)] 5)).heap.size:=zz23
   go_wp2_with (at_builtin; refine wpList_app (α:=UInt8) rfl _ _ rfl rfl rfl (hrow.allocC _) hle hcm rfl rfl (src_u8 _ _ _ _ (u8_eq (128 + m % 128) _ zz4 zz4)) (disj_none_ _) zz4 ?_; intro A' cap' w' h1 h2 h3 h4)
   go_roundw
   case rel => exact ⟨m / 128,pre ++ [UInt8.ofNat (128 + m % 128)],A',cap',by go_num,zz17,zd (by rw [← hpre.out,HV.out]; simp),zz23,by simpa using h1,h2,h3.mono (nw_step (ya8 _) (none_sub _) hz2),(hb.alloc hz _).trans (h4.nw hz2 (ya8 _))⟩
   case measure => simp [intOf]; omega
  ·have hv:=varB_last (n:=m) zz4
   have HV:=zd hv; clear hv
   have hz2 : w.heap.size ≤ (wr.alloc (.cells #[.int .u8 (m : Int)] 5)).heap.size:=zz23
   go_wp2_with (first | (at_builtin; refine wpList_app (α:=UInt8) rfl _ _ rfl rfl rfl (hrow.allocC _) hle hcm rfl rfl (src_u8 _ _ _ _ (u8_eq m _ rfl zz4)) (disj_none_ _) zz4 ?_; intro A' cap' w' h1 h2 h3 h4) | (refine wpList_bytes rfl _ rfl Tryz.underlying5 Tryz.underlying9 rfl (l:=pre ++ [UInt8.ofNat m]) zz17 h3 ?_))
   go_ret
   exact ⟨ret_str (by rw [varT, ← hpre.out,HV.out]),(hb.alloc hz _).trans (h4.nw hz2 (ya8 _))⟩
end Go.Proofs.YtlfnmbcnehaikaaGreatDoor
namespace Go.Proofs.YtlfnmbcnehaikaaGreatDoor
open Go.RowKit Lay Mk
def BR (w : World) (A : Option Addr) (cap : Nat) (l : List UInt8) (S : Blks) : Prop :=
 (A = none ∧ l = [] ∧ cap = 0) ∨ ∃ g,A = some ⟨g,0,none⟩ ∧ S g ∧ g < w.heap.size ∧ (∀ j,j < cap → (w.cell? ⟨g,j,none⟩).isSome = true ∧ w.frozen? ⟨g,j,none⟩ = false) ∧ At w g 0 (l.map u8c)
theorem BR.keep {w w' : World} {A : Option Addr} {cap : Nat} {l : List UInt8} {S : Blks} (h : BR w A cap l S) (k : ∀ b,b < w.heap.size → S b → w'.heap[b]? = w.heap[b]?) (hz : w.heap.size ≤ w'.heap.size) : BR w' A cap l S:=by
 rcases h with h | ⟨g,e,hS,hg,hc,ha⟩
 ·exact .inl h
 ·have e1:=k g hg hS
  exact .inr ⟨g,e,hS,Nat.lt_of_lt_of_le hg hz,fun j hj => ⟨by rw [World.cell?_of_block (a:=⟨g,j,none⟩) e1]; exact (hc j hj).1,(World.frozen?_of_block (a:=⟨g,j,none⟩) e1).trans (hc j hj).2⟩,ha.keep e1⟩
theorem BR.later {w w' : World} {A : Option Addr} {cap : Nat} {l : List UInt8} {S : Blks} (h : BR w A cap l S) (hb : Below w.heap.size w w') : BR w' A cap l S:=h.keep (fun b hl _ => hb.block b hl) hb.size
theorem BR.alloc {w : World} {A : Option Addr} {cap : Nat} {l : List UInt8} {S : Blks} (h : BR w A cap l S) (o : Obj) : BR (w.alloc o) A cap l S:=h.later ((Below.refl _ _).alloc (Nat.le_refl _) o)
theorem BR.drew {w : World} {A : Option Addr} {cap : Nat} {l : List UInt8} {S : Blks} (h : BR w A cap l S) : BR w.drew A cap l S:=h
theorem BR.mono {w : World} {A : Option Addr} {cap : Nat} {l : List UInt8} {S T : Blks} (h : BR w A cap l S) (k : ∀ b,S b → T b) : BR w A cap l T:=by
 rcases h with h | ⟨g,e,hS,r⟩
 ·exact .inl h
 ·exact .inr ⟨g,e,k g hS,r⟩
theorem br_nil (w : World) (S : Blks) : BR w none 0 [] S:=.inl ⟨rfl,rfl,rfl⟩
theorem tape_setCells (b : Nat) : ∀ (vs : List Value) (o : Nat) (w : World),(w.setCells b o vs).tape = w.tape
 | [],_,_ => rfl
 | v :: vs,o,w => by
  show ((w.setCell ⟨b,o,none⟩ v).setCells b (o + 1) vs).tape = _
  rw [tape_setCells b vs]; rfl
theorem size_setCells (b : Nat) : ∀ (vs : List Value) (o : Nat) (w : World),(w.setCells b o vs).heap.size = w.heap.size
 | [],_,_ => rfl
 | v :: vs,o,w => by
  show ((w.setCell ⟨b,o,none⟩ v).setCells b (o + 1) vs).heap.size = _
  rw [size_setCells b vs]; simp [World.setCell]
theorem chg_setCells {S : Blks} (w : World) (g o : Nat) (vs : List Value) (hg : S g) : Chg S w (w.setCells g o vs) :=
 ⟨World.os_setCells w g o vs,tape_setCells g vs o w,World.output_setCells w g o vs,by rw [size_setCells]; exact Nat.le_refl _,fun k hk hs => World.heap_setCells_other w g o vs hk (fun e => hs (e ▸ hg))⟩
theorem u8c_one (u : Value) (l : List UInt8) (h : u ∈ l.map u8c) : u.oneCell' = true:=by
 obtain ⟨x,_,rfl⟩:=List.mem_map.1 h; rfl
theorem run_appG {P : Program} {w : World} {S : Blks} {A : Option Addr} {cap : Nat} {l ys : List UInt8} (t tx tt e : TypeId) (xv : Value) (i : TypeInfo)
  (ht : P.underlying t = some (.slice e)) (hi : P.info? e = some i) (hz : i.zero = some (.int .u8 0)) (hsize : i.size = 1) (hby : i.bytes ≤ 2000)
  (hx : BR w A cap l S) (hxc : l.length ≤ cap) (hcm : cap ≤ maxLen) (hsrc : Go.Src P i.size tx xv ys.length (ys.map u8c) w) (h63 : l.length + ys.length ≤ 4000000000) :
  ∃ A' cap' w',(Builtin.append_ #[t,tx] tt #[.slice A l.length cap,xv]).run P w = .ok (.slice A' (l.length + ys.length) cap') w' ∧ l.length + ys.length ≤ cap' ∧ cap' ≤ maxLen ∧
   BR w' A' cap' (l ++ ys) (fun b => S b ∨ w.heap.size ≤ b) ∧ Chg S w w':=by
 by_cases hroom : l.length + ys.length ≤ cap
 ·rcases hx with ⟨rfl,rfl,rfl⟩ | ⟨g,rfl,hS,hg,hc,ha⟩
  ·have hy0 : ys = []:=by cases ys with | nil => rfl | cons _ _ => simp at hroom
   subst hy0
   refine ⟨none,0,w,?_,zz17,zz44, .inl ⟨rfl,rfl,rfl⟩,Chg.refl _ _⟩
   exact run_append_nothing (P:=P) w t tx tt e i ht hi none 0 0 (Nat.le_refl _) _ hsrc
  ·have hr:=run_append_room_src (P:=P) w t tx tt e i ht hi g 0 l.length cap _ ys.length (ys.map u8c) hsrc hroom
    (fun j hj => by rw [Nat.zero_add,hsize,Nat.mul_one]; exact (hc _ (by simp at hj; omega)).1)
    (fun j hj => by rw [Nat.zero_add,hsize,Nat.mul_one]; exact (hc _ (by simp at hj; omega)).2)
   rw [Nat.zero_add,hsize,Nat.mul_one] at hr
   refine ⟨_,cap,_,hr,hroom,hcm,?_,chg_setCells _ _ _ _ hS⟩
   have hin:=World.cell?_setCells_in g (ys.map u8c) l.length w (fun j hj => (hc _ (by simp at hj; omega)).1)
   have hout:=fun o => World.cell?_setCells_out g (ys.map u8c) l.length w ⟨g,o,none⟩
   refine .inr ⟨g,rfl, .inl hS,by rw [size_setCells]; exact hg,fun j hj => ⟨?_,by rw [World.frozen?_setCells]; exact (hc j hj).2⟩,fun j u hu => ?_⟩
   ·by_cases h1 : l.length ≤ j ∧ j < l.length + ys.length
    ·have:=hin (j - l.length) zz23
     rw [show l.length + (j - l.length) = j by omega] at this
     rw [this]; rfl
    ·rw [hout j (fun _ _ => zz23)]
     exact (hc j hj).1
   ·rw [List.map_append] at hu
    rw [Nat.zero_add]
    by_cases h1 : j < l.length
    ·rw [List.getElem?_append_left (by simpa using h1)] at hu
     rw [hout j (fun _ _ => zz23)]
     simpa using ha j u hu
    ·rw [List.getElem?_append_right zz23] at hu
     have hlt:=(List.getElem?_eq_some_iff.1 hu).1
     have:=hin (j - l.length) (by simpa using hlt)
     rw [show l.length + (j - l.length) = j by omega] at this
     rw [this]
     rw [List.length_map] at hu hlt
     rw [List.getElem?_eq_getElem hlt] at hu
     exact hu
 ·have hold : (Builtin.firstCells i.size l.length (.slice A l.length cap)).run P w.drew = .ok (l.map u8c).toArray w.drew:=by
   rw [hsize]
   rcases hx with ⟨rfl,rfl,rfl⟩ | ⟨g,rfl,hS,hg,hc,ha⟩
   ·exact run_firstCells_none w.drew 1 0 0 0
   ·exact run_firstCells_some (P:=P) w.drew 1 l.length ⟨g,0,none⟩ l.length cap (l.map u8c) zz17 (fun j u hu => by rw [add_none]; exact ha j u hu)
  have hfit : Builtin.nextslicecap (l.length + ys.length) cap * i.bytes ≤ 281474976710656:=by
   have h2 : Builtin.nextslicecap (l.length + ys.length) cap ≤ 2 * (l.length + ys.length):=nextslicecap_le zz4
   have:=Nat.mul_le_mul h2 hby
   omega
  have hr:=run_append_grow_src (P:=P) w t tx tt e i (.int .u8 0) ht hi hz A l.length cap (l.map u8c) hold _ ys.length (ys.map u8c) hsrc zz4 zz4 hfit
  refine ⟨_,_,_,hr,grownCap_ge _ _ _ _,grownCap_le_maxLen _ _ _ _ (by unfold maxLen; omega),?_,((Chg.refl S w).drew).alloc _⟩
  generalize hC : grownCap w (l.length + ys.length) cap e = C
  have hge : l.length + ys.length ≤ C:=by rw [← hC]; exact grownCap_ge _ _ _ _
  have hcell : ∀ j,(w.drew.alloc (.cells ((l.map u8c ++ ys.map u8c).toArray ++ Builtin.zeroCells (Value.int .u8 0).cells (C - (l.length + ys.length))) e)).cell? ⟨w.heap.size,j,none⟩ = ((l.map u8c ++ ys.map u8c).toArray ++ Builtin.zeroCells (Value.int .u8 0).cells (C - (l.length + ys.length)))[j]?:=fun j =>
   cell_of_row _ _ j _ e (0,0) (heap_alloc_new w.drew _)
  have hzs : (Builtin.zeroCells (Value.int .u8 0).cells (C - (l.length + ys.length))).size = C - (l.length + ys.length):=by rw [size_zeroCells]; simp [Value.cells]
  refine .inr ⟨w.heap.size,rfl, .inr (Nat.le_refl _),zz17,fun j hj => ⟨?_,frozen_of_row _ _ j _ e (heap_alloc_new w.drew _)⟩,fun j u hu => ?_⟩
  ·rw [hcell,Array.getElem?_eq_getElem (by simp [hzs]; omega)]; rfl
  ·rw [Nat.zero_add,hcell,Array.getElem?_append_left (by have:=(List.getElem?_eq_some_iff.1 hu).1; simpa using this)]
   rw [List.map_append] at hu
   simpa using hu
theorem run_appB {P : Program} {w : World} {S : Blks} {A : Option Addr} {cap c2 b2 o2 : Nat} {l ys : List UInt8} (t tt e : TypeId) (i : TypeInfo)
  (ht : P.underlying t = some (.slice e)) (hi : P.info? e = some i) (hz : i.zero = some (.int .u8 0)) (hsize : i.size = 1) (hby : i.bytes ≤ 2000)
  (hx : BR w A cap l S) (hxc : l.length ≤ cap) (hcm : cap ≤ maxLen) (hy : At w b2 o2 (ys.map u8c)) (h63 : l.length + ys.length ≤ 4000000000) :
  ∃ A' cap' w',(Builtin.append_ #[t,t] tt #[.slice A l.length cap, .slice (some ⟨b2,o2,none⟩) ys.length c2]).run P w = .ok (.slice A' (l.length + ys.length) cap') w' ∧ l.length + ys.length ≤ cap' ∧ cap' ≤ maxLen ∧
   BR w' A' cap' (l ++ ys) (fun b => S b ∨ w.heap.size ≤ b) ∧ Chg S w w':=by
 have hsrc : Go.Src P i.size t (.slice (some ⟨b2,o2,none⟩) ys.length c2) ys.length (ys.map u8c) w :=
  Go.Src.ofSlice (P:=P) w ht ⟨b2,o2,none⟩ ys.length c2 (ys.map u8c) (by simp [hsize]) (fun j u hu => by rw [add_none]; exact hy j u hu) (fun u hu => u8c_one u ys hu)
 exact run_appG t t tt e _ i ht hi hz hsize hby hx hxc hcm hsrc h63
theorem run_appS {P : Program} {w : World} {S : Blks} {A : Option Addr} {cap : Nat} {l : List UInt8} (s : ByteArray) (t tx tt e : TypeId) (i : TypeInfo)
  (ht : P.underlying t = some (.slice e)) (htx : P.underlying tx = some .string) (hi : P.info? e = some i) (hz : i.zero = some (.int .u8 0)) (hsize : i.size = 1) (hby : i.bytes ≤ 2000)
  (hx : BR w A cap l S) (hxc : l.length ≤ cap) (hcm : cap ≤ maxLen) (h63 : l.length + s.size ≤ 4000000000) :
  ∃ A' cap' w',(Builtin.append_ #[t,tx] tt #[.slice A l.length cap, .string s]).run P w = .ok (.slice A' (l.length + s.size) cap') w' ∧ l.length + s.size ≤ cap' ∧ cap' ≤ maxLen ∧
   BR w' A' cap' (l ++ s.data.toList) (fun b => S b ∨ w.heap.size ≤ b) ∧ Chg S w w':=by
 have hsrc : Go.Src P i.size tx (.string s) s.data.toList.length (s.data.toList.map u8c) w:=by
  rw [hsize]; exact Go.Src.ofString (P:=P) w htx s
 exact run_appG (ys:=s.data.toList) t tx tt e _ i ht hi hz hsize hby hx hxc hcm hsrc h63
theorem zeros_list (n : Nat) : Builtin.zeroCells (Value.int .u8 0).cells n = ((List.replicate n (0 : UInt8)).map u8c).toArray:=by
 apply Array.ext'
 apply List.ext_getElem?
 intro j
 simp only [Builtin.zeroCells,Value.cells]
 by_cases h : j < n
 ·simp [h,u8c,Nat.mod_one]
 ·simp [h]
theorem run_appZ {P : Program} {w : World} {S : Blks} {A : Option Addr} {cap n : Nat} {l : List UInt8} (t ti tt e : TypeId) (i : TypeInfo)
  (ht : P.underlying t = some (.slice e)) (hti : P.underlying ti = some (.int .i64)) (hi : P.info? e = some i) (hz : i.zero = some (.int .u8 0)) (hsize : i.size = 1) (hby : i.bytes ≤ 2000)
  (hx : BR w A cap l S) (hxc : l.length ≤ cap) (hcm : cap ≤ maxLen) (h63 : l.length + n ≤ 4000000000) :
  ∃ A' cap' w',(Builtin.append_ #[t,ti] tt #[.slice A l.length cap, .int .i64 (n : Int)]).run P w = .ok (.slice A' (l.length + n) cap') w' ∧ l.length + n ≤ cap' ∧ cap' ≤ maxLen ∧
   BR w' A' cap' (l ++ List.replicate n 0) (fun b => S b ∨ w.heap.size ≤ b) ∧ Chg S w w':=by
 have hb48 : ¬ (281474976710656 < (n : Int) * (i.bytes : Int)):=by
  have : n * i.bytes ≤ 4000000000 * 2000:=Nat.mul_le_mul zz4 hby
  have h2 : ((n * i.bytes : Nat) : Int) ≤ 8000000000000:=zz4
  rw [Int.natCast_mul] at h2
  omega
 have hw : IntKind.i64.wrap (n : Int) = n:=IntWalk.i64_in _ zz4
 have hn0 : ¬ ((n : Int) < 0):=zz4
 have hzl:=zeros_list n
 by_cases hroom : l.length + n ≤ cap
 ·rcases hx with ⟨rfl,rfl,rfl⟩ | ⟨g,rfl,hS,hg,hc,ha⟩
  ·have h0 : n = 0:=by simpa using hroom
   subst h0
   refine ⟨none,0,w,?_,zz17,zz44, .inl ⟨rfl,rfl,rfl⟩,Chg.refl _ _⟩
   simp [Builtin.append_,run_underlying ht,run_underlying hti,sizeOf,typeInfo,hi,asInt,asIntOf,IntKind.wrap_i64,wrap64]
  ·have hst:=run_storeCells_cells (P:=P) g (0 + l.length * i.size) ((List.replicate n (0 : UInt8)).map u8c) 0 w
    (fun j hj => by rw [hsize,Nat.mul_one]; simp only [Nat.zero_add,Nat.add_zero]; exact (hc _ (by simp at hj; omega)).1)
    (fun j hj => by rw [hsize,Nat.mul_one]; simp only [Nat.zero_add,Nat.add_zero]; exact (hc _ (by simp at hj; omega)).2) (fun u hu => u8c_one u _ hu)
   have hr : (Builtin.append_ #[t,ti] tt #[.slice (some ⟨g,0,none⟩) l.length cap, .int .i64 (n : Int)]).run P w = .ok (.slice (some ⟨g,0,none⟩) (l.length + n) cap) (w.setCells g l.length ((List.replicate n (0 : UInt8)).map u8c)):=by
    rw [hsize,Nat.mul_one] at hst
    simp only [Nat.zero_add,Nat.add_zero] at hst
    by_cases hnz : n = 0
    ·subst hnz
     simp [Builtin.append_,run_underlying ht,run_underlying hti,sizeOf,typeInfo,hi,asInt,asIntOf,IntKind.wrap_i64,wrap64,hsize,hxc,storeCells]
     rfl
    ·rw [List.map_replicate] at hst hzl ⊢
     simp [Builtin.append_,run_underlying ht,run_underlying hti,sizeOf,typeInfo,zeroValue,hi,hz,asInt,asIntOf,hw,hn0,hb48,hroom,Addr.add_lit,hsize,hnz,hzl,hst]
   refine ⟨_,cap,_,hr,hroom,hcm,?_,chg_setCells _ _ _ _ hS⟩
   have hin:=World.cell?_setCells_in g ((List.replicate n (0 : UInt8)).map u8c) l.length w (fun j hj => (hc _ (by simp at hj; omega)).1)
   have hout:=fun o => World.cell?_setCells_out g ((List.replicate n (0 : UInt8)).map u8c) l.length w ⟨g,o,none⟩
   refine .inr ⟨g,rfl, .inl hS,by rw [size_setCells]; exact hg,fun j hj => ⟨?_,by rw [World.frozen?_setCells]; exact (hc j hj).2⟩,fun j u hu => ?_⟩
   ·by_cases h1 : l.length ≤ j ∧ j < l.length + n
    ·have:=hin (j - l.length) zz23
     rw [show l.length + (j - l.length) = j by omega] at this
     rw [this]; rfl
    ·rw [hout j (fun _ _ => zz23)]
     exact (hc j hj).1
   ·rw [List.map_append] at hu
    rw [Nat.zero_add]
    by_cases h1 : j < l.length
    ·rw [List.getElem?_append_left (by simpa using h1)] at hu
     rw [hout j (fun _ _ => zz23)]
     simpa using ha j u hu
    ·rw [List.getElem?_append_right zz23] at hu
     have hlt:=(List.getElem?_eq_some_iff.1 hu).1
     have:=hin (j - l.length) (by simpa using hlt)
     rw [show l.length + (j - l.length) = j by omega] at this
     rw [this]
     rw [List.length_map] at hu hlt
     rw [List.getElem?_eq_getElem hlt] at hu
     exact hu
 ·have hnz : n ≠ 0:=by omega
  have hold : (Builtin.firstCells i.size l.length (.slice A l.length cap)).run P w.drew = .ok (l.map u8c).toArray w.drew:=by
   rw [hsize]
   rcases hx with ⟨rfl,rfl,rfl⟩ | ⟨g,rfl,hS,hg,hc,ha⟩
   ·exact run_firstCells_none w.drew 1 0 0 0
   ·exact run_firstCells_some (P:=P) w.drew 1 l.length ⟨g,0,none⟩ l.length cap (l.map u8c) zz17 (fun j u hu => by rw [add_none]; exact ha j u hu)
  have hfit : ¬ (281474976710656 < Builtin.nextslicecap (l.length + n) cap * i.bytes):=by
   have h2 : Builtin.nextslicecap (l.length + n) cap ≤ 2 * (l.length + n):=nextslicecap_le zz4
   have:=Nat.mul_le_mul h2 hby
   omega
  have h63' : ¬ (9223372036854775807 < ((l.length : Int) + (n : Int))):=zz4
  rw [hsize] at hold
  have hr : (Builtin.append_ #[t,ti] tt #[.slice A l.length cap, .int .i64 (n : Int)]).run P w = .ok (.slice (some ⟨w.heap.size,0,none⟩) (l.length + n) (grownCap w (l.length + n) cap e))
    (w.drew.alloc (.cells ((l.map u8c ++ (List.replicate n (0 : UInt8)).map u8c).toArray ++ Builtin.zeroCells (Value.int .u8 0).cells (grownCap w (l.length + n) cap e - (l.length + n))) e)):=by
   simp [Builtin.append_,run_underlying ht,run_underlying hti,sizeOf,typeInfo,zeroValue,hi,hz,asInt,asIntOf,hw,hn0,hb48,hroom,h63',hfit,Question.forced,hsize,hold,hnz,hzl,newRow,grownCap]
   congr 2
   apply Array.ext'
   simp [List.append_assoc]
  refine ⟨_,_,_,hr,grownCap_ge _ _ _ _,grownCap_le_maxLen _ _ _ _ (by unfold maxLen; omega),?_,((Chg.refl S w).drew).alloc _⟩
  generalize hC : grownCap w (l.length + n) cap e = C
  have hge : l.length + n ≤ C:=by rw [← hC]; exact grownCap_ge _ _ _ _
  have hcell : ∀ j,(w.drew.alloc (.cells ((l.map u8c ++ (List.replicate n (0 : UInt8)).map u8c).toArray ++ Builtin.zeroCells (Value.int .u8 0).cells (C - (l.length + n))) e)).cell? ⟨w.heap.size,j,none⟩ = ((l.map u8c ++ (List.replicate n (0 : UInt8)).map u8c).toArray ++ Builtin.zeroCells (Value.int .u8 0).cells (C - (l.length + n)))[j]?:=fun j =>
   cell_of_row _ _ j _ e (0,0) (heap_alloc_new w.drew _)
  have hzs : (Builtin.zeroCells (Value.int .u8 0).cells (C - (l.length + n))).size = C - (l.length + n):=by rw [size_zeroCells]; simp [Value.cells]
  refine .inr ⟨w.heap.size,rfl, .inr (Nat.le_refl _),zz17,fun j hj => ⟨?_,frozen_of_row _ _ j _ e (heap_alloc_new w.drew _)⟩,fun j u hu => ?_⟩
  ·rw [hcell,Array.getElem?_eq_getElem (by simp [hzs]; omega)]; rfl
  ·rw [Nat.zero_add,hcell,Array.getElem?_append_left (by have:=(List.getElem?_eq_some_iff.1 hu).1; simpa using this)]
   rw [List.map_append] at hu
   simpa using hu
section
variable {ops : Array Oper} {rest : List Oper} {o : Oper} {a : Act} {Q : Exit → Act → World → Prop} {w : World}
theorem wpList_appB [hI : Inf UInt8] (hgd : o.guard = none) (s x : Operand)
  (ho : o.op = .call { callee:=.builtin .append,args:=#[s,x],argTypes:=#[SlTy.st UInt8,SlTy.st UInt8] })
  {A : Option Addr} {cap c2 k m b2 o2 : Nat} {l : List UInt8} {S : Blks} (hs : a.eval s = .slice A k cap) (hk : k = l.length) (hrow : BR w A cap l S) (hle : k ≤ cap) (hcm : cap ≤ maxLen)
  (ys : List UInt8) (hx : a.eval x = .slice (some ⟨b2,o2,none⟩) m c2) (hm : m = ys.length) (hsrc : At w b2 o2 (ys.map u8c)) (hb : k + m ≤ 4000000000)
  (h : ∀ A' cap' w',k + m ≤ cap' → cap' ≤ maxLen → BR w' A' cap' (l ++ ys) (fun b => S b ∨ w.heap.size ≤ b) → Chg S w w' → wpList Tryz.prog ops Q rest (a.put o.dst (.slice A' (k + m) cap')) w') :
  wpList Tryz.prog ops Q (o :: rest) a w:=by
 refine wpList_plain hgd fun K hK => ?_
 subst hk; subst hm
 obtain ⟨z,bytes,e,hz,hby⟩:=Inf.ex (α:=UInt8)
 obtain ⟨i,hi,h0,h1,h2⟩:=info_parts e
 have hz0 : z = .int .u8 0:=by
  have : (Tryz.prog.info? (ty UInt8)).map (fun i => i.zero) = some (some (.int .u8 0)):=by kernel_rfl
  rw [hi] at this
  simpa [h0] using this
 obtain ⟨A',cap',w',hr,h3,h4,h5,h6⟩:=run_appB (P:=Tryz.prog) (c2:=c2) (SlTy.st UInt8) o.type (ty UInt8) i Inf.st hi (by rw [h0,hz0]) h1 (by rw [h2]; exact hby) hrow hle hcm hsrc hb
 unfold Oper.wp execOp
 simp only [ho,resolve,invoke,builtin,Sem.run_bind,Sem.run_pure,Result.andThen_ok,List.map_toArray,List.map_cons,List.map_nil,hs,hx,hr]
 exact hK _ _ (h A' cap' w' h3 h4 h5 h6)
theorem wpList_appS [hI : Inf UInt8] (hgd : o.guard = none) (s x : Operand)
  (ho : o.op = .call { callee:=.builtin .append,args:=#[s,x],argTypes:=#[SlTy.st UInt8,ty ByteArray] }) (htx : Tryz.prog.underlying (ty ByteArray) = some .string)
  {A : Option Addr} {cap k : Nat} {l : List UInt8} {S : Blks} (hs : a.eval s = .slice A k cap) (hk : k = l.length) (hrow : BR w A cap l S) (hle : k ≤ cap) (hcm : cap ≤ maxLen)
  (y : ByteArray) (hx : a.eval x = .string y) (hb : k + y.size ≤ 4000000000)
  (h : ∀ A' cap' w',k + y.size ≤ cap' → cap' ≤ maxLen → BR w' A' cap' (l ++ y.data.toList) (fun b => S b ∨ w.heap.size ≤ b) → Chg S w w' → wpList Tryz.prog ops Q rest (a.put o.dst (.slice A' (k + y.size) cap')) w') :
  wpList Tryz.prog ops Q (o :: rest) a w:=by
 refine wpList_plain hgd fun K hK => ?_
 subst hk
 obtain ⟨z,bytes,e,hz,hby⟩:=Inf.ex (α:=UInt8)
 obtain ⟨i,hi,h0,h1,h2⟩:=info_parts e
 have hz0 : z = .int .u8 0:=by
  have : (Tryz.prog.info? (ty UInt8)).map (fun i => i.zero) = some (some (.int .u8 0)):=by kernel_rfl
  rw [hi] at this
  simpa [h0] using this
 obtain ⟨A',cap',w',hr,h3,h4,h5,h6⟩:=run_appS (P:=Tryz.prog) y (SlTy.st UInt8) (ty ByteArray) o.type (ty UInt8) i Inf.st htx hi (by rw [h0,hz0]) h1 (by rw [h2]; exact hby) hrow hle hcm hb
 unfold Oper.wp execOp
 simp only [ho,resolve,invoke,builtin,Sem.run_bind,Sem.run_pure,Result.andThen_ok,List.map_toArray,List.map_cons,List.map_nil,hs,hx,hr]
 exact hK _ _ (h A' cap' w' h3 h4 h5 h6)
theorem wpList_appZ [hI : Inf UInt8] (hgd : o.guard = none) (s x : Operand)
  (ho : o.op = .call { callee:=.builtin .append,args:=#[s,x],argTypes:=#[SlTy.st UInt8,ty Int] }) (hti : Tryz.prog.underlying (ty Int) = some (.int .i64))
  {A : Option Addr} {cap k : Nat} (n : Nat) {l : List UInt8} {S : Blks} (hs : a.eval s = .slice A k cap) (hk : k = l.length) (hrow : BR w A cap l S) (hle : k ≤ cap) (hcm : cap ≤ maxLen)
  (hx : a.eval x = .int .i64 (n : Int)) (hb : k + n ≤ 4000000000)
  (h : ∀ A' cap' w',k + n ≤ cap' → cap' ≤ maxLen → BR w' A' cap' (l ++ List.replicate n 0) (fun b => S b ∨ w.heap.size ≤ b) → Chg S w w' → wpList Tryz.prog ops Q rest (a.put o.dst (.slice A' (k + n) cap')) w') :
  wpList Tryz.prog ops Q (o :: rest) a w:=by
 refine wpList_plain hgd fun K hK => ?_
 subst hk
 obtain ⟨z,bytes,e,hz,hby⟩:=Inf.ex (α:=UInt8)
 obtain ⟨i,hi,h0,h1,h2⟩:=info_parts e
 have hz0 : z = .int .u8 0:=by
  have : (Tryz.prog.info? (ty UInt8)).map (fun i => i.zero) = some (some (.int .u8 0)):=by kernel_rfl
  rw [hi] at this
  simpa [h0] using this
 obtain ⟨A',cap',w',hr,h3,h4,h5,h6⟩:=run_appZ (P:=Tryz.prog) (n:=n) (SlTy.st UInt8) (ty Int) o.type (ty UInt8) i Inf.st hti hi (by rw [h0,hz0]) h1 (by rw [h2]; exact hby) hrow hle hcm hb
 unfold Oper.wp execOp
 simp only [ho,resolve,invoke,builtin,Sem.run_bind,Sem.run_pure,Result.andThen_ok,List.map_toArray,List.map_cons,List.map_nil,hs,hx,hr]
 exact hK _ _ (h A' cap' w' h3 h4 h5 h6)
theorem wpList_ofStr [hI : Inf UInt8] (hgd : o.guard = none) (x : Operand)
  (ho : o.op = .convert (ty ByteArray) (SlTy.st UInt8) x) (he : Tryz.prog.underlying (ty UInt8) = some (.int .u8)) (hsrc : Tryz.prog.underlying (ty ByteArray) = some .string)
  {s : ByteArray} (hx : a.eval x = .string s) (hs : s.size ≤ 4000000000)
  (h : ∀ g cap' w',s.size ≤ cap' → cap' ≤ maxLen → g = w.heap.size → BR w' (some ⟨g,0,none⟩) cap' s.data.toList (fun b => w.heap.size ≤ b) → Below w.heap.size w w' → wpList Tryz.prog ops Q rest (a.put o.dst (.slice (some ⟨g,0,none⟩) s.size cap')) w') :
  wpList Tryz.prog ops Q (o :: rest) a w:=by
 refine wpList_plain hgd fun K hK => ?_
 have hr:=Go.Lib.run_convert_string_bytes (P:=Tryz.prog) w (ty ByteArray) (SlTy.st UInt8) (ty UInt8) s hsrc Inf.st he
 unfold Oper.wp execOp
 simp only [ho,Sem.run_bind,Sem.run_pure,Result.andThen_ok,hx,hr]
 refine hK _ _ (h w.heap.size _ _ (grownCap_ge _ _ _ _) (grownCap_le_maxLen _ _ _ _ (by unfold maxLen; omega)) rfl ?_ ?_)
 ·have hge:=grownCap_ge w s.size 0 (ty UInt8)
  have hsz : (Go.Lib.bytesCells w (ty UInt8) s).size = grownCap w s.size 0 (ty UInt8):=by
   simp only [Go.Lib.bytesCells,Array.size_append,Array.size_map,Array.size_replicate]
   have : s.data.size = s.size:=rfl
   omega
  refine .inr ⟨w.heap.size,rfl,Nat.le_refl _,by rw [Go.Lib.bytesWorld_size]; omega,fun j hj => ⟨?_,?_⟩,fun j u hu => ?_⟩
  ·rw [cell_of_row _ _ j _ _ _ (Go.Lib.bytesWorld_at_new w (ty UInt8) s),Array.getElem?_eq_getElem (by rw [hsz]; exact hj)]; rfl
  ·unfold World.frozen?
   simp only [Go.Lib.bytesWorld_at_new w (ty UInt8) s,hsz]
   simp; omega
  ·have hlt:=(List.getElem?_eq_some_iff.1 hu).1
   have hlt2 : j < s.size:=by simpa using hlt
   rw [Nat.zero_add,Go.Lib.bytesWorld_cell w (ty UInt8) s j hlt2, ← hu]
   have hl3 : j < s.data.toList.length:=by simpa using hlt2
   simp [u8c,List.getD_eq_getElem?_getD,List.getElem?_eq_getElem hl3]
 ·refine ⟨?_,?_,?_,by rw [Go.Lib.bytesWorld_size]; omega,fun k hk => Go.Lib.bytesWorld_at_old w (ty UInt8) s k hk⟩ <;>
   (unfold Go.Lib.bytesWorld World.freeze; split <;> rfl)
theorem wpList_strB [hI : Inf UInt8] (hgd : o.guard = none) (x : Operand)
  (ho : o.op = .convert (SlTy.st UInt8) (ty ByteArray) x) (he : Tryz.prog.underlying (ty UInt8) = some (.int .u8)) (hdst : Tryz.prog.underlying (ty ByteArray) = some .string)
  {A : Option Addr} {cap k : Nat} {l : List UInt8} {S : Blks} (hx : a.eval x = .slice A k cap) (hk : k = l.length) (hrow : BR w A cap l S)
  (h : wpList Tryz.prog ops Q rest (a.put o.dst (.string (bs l))) w) : wpList Tryz.prog ops Q (o :: rest) a w:=by
 refine wpList_plain hgd fun K hK => ?_
 subst hk
 have hr : (convert (SlTy.st UInt8) (ty ByteArray) (.slice A l.length cap)).run Tryz.prog w = .ok (.string ⟨l.toArray⟩) w:=by
  rcases hrow with ⟨rfl,rfl,rfl⟩ | ⟨g,rfl,hS,hg,hc,ha⟩
  ·rw [run_convert_bytes_string w _ _ (ty UInt8) none _ 0 Inf.st he hdst]; rfl
  ·exact run_convert_bytes_back w _ _ (ty UInt8) ⟨g,0,none⟩ cap l Inf.st he hdst (fun j hj => by rw [add_none]; exact ha j _ (by simp [u8c,hj]))
 unfold Oper.wp execOp
 simp only [ho,Sem.run_bind,Sem.run_pure,Result.andThen_ok,hx,hr]
 exact hK _ _ h
end
end Go.Proofs.YtlfnmbcnehaikaaGreatDoor
namespace Go.Proofs.YtlfnmbcnehaikaaGreatDoor
open Go.RowKit Lay Mk
def fourB (n : Nat) : ByteArray:=bs [UInt8.ofNat (n / 16777216),UInt8.ofNat (n / 65536),UInt8.ofNat (n / 256),UInt8.ofNat n]
theorem fourB_size (n : Nat) : (fourB n).size = 4:=by unfold fourB; rw [bs_size]; rfl
theorem impl_fourBytes (w : World) (n : Nat) (hn : n < 4294967296) : Calls Tryz.prog 179 #[.int .u32 n] w fun e w' => e = .returned (.string (fourB n)) ∧ Below w.heap.size w w':=by
 go_enter Tryz.func179,Tryz.ntmps179
 go_wp2_with (refine wpList_bytesAt rfl _ rfl Tryz.underlying5 Tryz.underlying9 [UInt8.ofNat (n / 16777216),UInt8.ofNat (n / 65536),UInt8.ofNat (n / 256),UInt8.ofNat n] rfl rfl (at_lit _ _ _ _ _ (by simp [u8c]; omega)) ?_)
 go_ret; exact ⟨rfl,(Below.refl _ _).alloc (Nat.le_refl _) _⟩
theorem spec_l02Four (w : World) (n : Nat) (hn : n < 4294967296) : Calls Tryz.prog 203 #[.int .u32 n] w fun e w' => e = .returned (.string (fourB n)) ∧ Below w.heap.size w w':=by
 go_enter Tryz.func203,Tryz.ntmps203
 go_wp2_with (refine wpList_bytesAt rfl _ rfl Tryz.underlying5 Tryz.underlying9 [UInt8.ofNat (n / 16777216),UInt8.ofNat (n / 65536),UInt8.ofNat (n / 256),UInt8.ofNat n] rfl rfl (at_lit _ _ _ _ _ (by simp [u8c]; omega)) ?_)
 go_ret; exact ⟨rfl,(Below.refl _ _).alloc (Nat.le_refl _) _⟩
end Go.Proofs.YtlfnmbcnehaikaaGreatDoor
namespace Go.Proofs.YtlfnmbcnehaikaaGreatDoor
open Go.RowKit Lay Mk
theorem yieldsIf_seal {ops : Array Oper} {S : World → Prop} {o : Oper} {a : Act} (hw : Region.wanted o (yielded ops a.tmps) = true) (x y : Operand) (ho : o.op = .build 76 #[(0,x),(1,y)]) {u0 u1 u2 u3 u4 u5 u6 u7 : Value} (hx : a.eval x = .agg #[u0,u1,u2,u3]) (hy : a.eval y = .agg #[u4,u5,u6,u7]) : YieldsIf Tryz.prog ops S o (.agg #[u0,u1,u2,u3,u4,u5,u6,u7]) a:=by
 refine .inl ⟨hw,fun w hS => ?_⟩
 clear hS
 unfold execOp
 simp only [ho]
 simp only [List.map_toArray,List.map_cons,List.map_nil,hx,hy]
 clear hx hy ho hw
 go_simp
theorem wp_store_seal {o : Oper} {a : Act} {w : World} {next : Act → World → Prop} {Q : Exit → Act → World → Prop} (p v : Operand) (ho : o.op = .store 76 p v) {r : Nat} (hp : a.eval p = .pointer (some ⟨r,0,none⟩)) {i0 i1 i4 : Int} {s2 s3 : ByteArray} {a5 a6 a7 : Option Addr} {n5 c5 n6 c6 n7 c7 : Nat} (hv : a.eval v = .agg #[.int .i64 i0, .int .i64 i1, .string s2, .string s3, .int .i64 i4, .slice a5 n5 c5, .slice a6 n6 c6, .slice a7 n7 c7]) {z0 z1 z2 z3 z4 z5 z6 z7 : Value} {ty : TypeId} (hb : w.heap[r]? = some (.cells #[z0,z1,z2,z3,z4,z5,z6,z7] ty (0,0))) (h : next (a.put o.dst undef) ((((((((w.setCell ⟨r,0,none⟩ (.int .i64 i0)).setCell ⟨r,1,none⟩ (.int .i64 i1)).setCell ⟨r,2,none⟩ (.string s2)).setCell ⟨r,3,none⟩ (.string s3)).setCell ⟨r,4,none⟩ (.int .i64 i4)).setCell ⟨r,5,none⟩ (.slice a5 n5 c5)).setCell ⟨r,6,none⟩ (.slice a6 n6 c6)).setCell ⟨r,7,none⟩ (.slice a7 n7 c7))) : Oper.wp Tryz.prog o a w next Q:=by
 have y0 : w.cell? ⟨r,0,none⟩ = some z0:=by rw [cell_of_row w r 0 _ _ (0,0) hb]; rfl
 have y1 : w.cell? ⟨r,1,none⟩ = some z1:=by rw [cell_of_row w r 1 _ _ (0,0) hb]; rfl
 have y2 : w.cell? ⟨r,2,none⟩ = some z2:=by rw [cell_of_row w r 2 _ _ (0,0) hb]; rfl
 have y3 : w.cell? ⟨r,3,none⟩ = some z3:=by rw [cell_of_row w r 3 _ _ (0,0) hb]; rfl
 have y4 : w.cell? ⟨r,4,none⟩ = some z4:=by rw [cell_of_row w r 4 _ _ (0,0) hb]; rfl
 have y5 : w.cell? ⟨r,5,none⟩ = some z5:=by rw [cell_of_row w r 5 _ _ (0,0) hb]; rfl
 have y6 : w.cell? ⟨r,6,none⟩ = some z6:=by rw [cell_of_row w r 6 _ _ (0,0) hb]; rfl
 have y7 : w.cell? ⟨r,7,none⟩ = some z7:=by rw [cell_of_row w r 7 _ _ (0,0) hb]; rfl
 have yf : ∀ q,w.frozen? ⟨r,q,none⟩ = false:=fun q => frozen_of_row w r q _ _ hb
 clear hb
 unfold Oper.wp execOp
 simp only [ho,hp,hv]
 clear ho hp hv
 go_simp
 exact h
end Go.Proofs.YtlfnmbcnehaikaaGreatDoor
