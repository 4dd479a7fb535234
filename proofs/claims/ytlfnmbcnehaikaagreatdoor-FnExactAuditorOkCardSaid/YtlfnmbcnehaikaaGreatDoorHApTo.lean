/- A part of the proof. -/
import Derived.Test.YtlfnmbcnehaikaaGreatDoorHApTy
set_option linter.unusedVariables false
set_option linter.unusedSimpArgs false
set_option maxRecDepth 40000
set_option maxHeartbeats 4000000
namespace Go.Proofs.YtlfnmbcnehaikaaGreatDoor
open Go.RowKit Lay Mk
theorem run_make_rowN {P : Program} (t e : TypeId) (i : TypeInfo) (z : Value) (ht : P.underlying t = some (.slice e)) (hi : P.info? e = some i) (hz : i.zero = some z)
  (kl kc : IntKind) (n c : Nat) (hnc : n ≤ c) (hbytes : i.bytes * c ≤ 281474976710656) (h63 : c ≤ 9223372036854775807) (w : World) :
  (Instr.makeSlice t (.int kl (n : Int)) (.int kc (c : Int))).run P w = .ok (.slice (some ⟨w.heap.size,0,none⟩) n c) (w.alloc (.cells (madeCells z.cells (c * i.size)) e)):=by
 have hb : (i.bytes : Int) * (c : Int) ≤ 281474976710656:=by
  have h : ((i.bytes * c : Nat) : Int) ≤ 281474976710656:=zz4
  rwa [Int.natCast_mul] at h
 have hr:=run_make (P:=P) w t e i z ht hi hz kl kc n c zz4 zz4 hb zz4
 simp only [Int.toNat_natCast] at hr
 exact hr
theorem rd_drewC {α : Type} [Lay α] {m : Bool} {w : World} {cs : List Value} {a : α} {S : Blks} (h : rd m w cs a S) : rd m w.drew cs a S:=Lay.keep h (fun _ _ => rfl)
theorem rd_setC {α : Type} [Lay α] {m : Bool} {w : World} {cs : List Value} {a : α} {S : Blks} (h : rd m w cs a S) {p : Addr} (hp : ¬ S p.block) (u : Value) : rd m (w.setCell p u) cs a S :=
 Lay.keep h (fun b hb => Below.heap_setCell w p u b (fun e => hp (e ▸ hb)))
theorem madeCells_get (zs : Array Value) (n i : Nat) (hz : 0 < zs.size) (hi : i < n) : (madeCells zs n)[i]? = zs[i % zs.size]?:=by
 have hm:=Nat.mod_lt i hz
 simp [madeCells,hi,hm]
theorem Row.made {α : Type} [Lay α] [Mk α] {N : Nat} (w : World) (m : Nat) (zs : Array Value) (hN : n α = N) (hz : zs.toList = Mk.zc (α:=α)) :
  Row true (w.alloc (.cells (madeCells zs (m * N)) (ty α))) (some ⟨w.heap.size,0,none⟩) m (([] : List α) ++ List.replicate m (Mk.z : α)) (rng w.heap.size (w.heap.size + 1)):=by
 subst hN
 have hzl : zs.size = n α:=by
  have:=Lay.len (Mk.zrd (α:=α) true w)
  rw [← hz] at this; simpa using this
 have hp:=Lay.pos (α:=α)
 refine .inr ⟨w.heap.size,_,rfl,by unfold rng; omega,heap_alloc_new w _,by simp [size_madeCells],fun _ _ => False,fun _ _ x => x.elim,fun _ _ _ _ _ x => x.elim,fun i hi => ?_⟩
 have hi' : i < m:=by simpa using hi
 refine ⟨Mk.zc (α:=α),fun j u hu => ?_,by simpa using Mk.zrd (α:=α) true _⟩
 have hj : j < n α:=by
  have:=(List.getElem?_eq_some_iff.1 hu).1
  have hl:=Lay.len (Mk.zrd (α:=α) true w)
  omega
 rw [← hz] at hu
 have hlt : i * n α + j < m * n α:=by
  have : i * n α + n α ≤ m * n α:=by rw [← Nat.succ_mul]; exact Nat.mul_le_mul_right _ hi'
  omega
 rw [cell_of_row _ w.heap.size _ _ _ (0,0) (heap_alloc_new w _)]
 simp only [Nat.zero_add]
 rw [madeCells_get _ _ _ zz4 hlt,hzl,Nat.mul_comm,Nat.mul_add_mod,Nat.mod_eq_of_lt hj]
 simpa using hu
theorem take_step {α : Type} (xs : List α) (z : α) (k : Nat) (h : k < xs.length) :
  xs.take (k + 1) ++ List.replicate (xs.length - (k + 1)) z = (xs.take k ++ List.replicate (xs.length - k) z).set k xs[k]:=by
 apply List.ext_getElem
 ·simp; omega
 ·intro j h1 h2
  by_cases e : j = k
  ·subst e
   rw [List.getElem_set_self,List.getElem_append_left zz23]
   simp
  ·rw [List.getElem_set_ne zz4]
   by_cases hl : j < k
   ·rw [List.getElem_append_left zz23,List.getElem_append_left zz23]
    simp
   ·rw [List.getElem_append_right zz23,List.getElem_append_right zz23]
    simp
theorem old_cells {α : Type} [Lay α] {w : World} {g N : Nat} {ys : List α} {T : Nat → Blks} (he : ∀ j (h : j < ys.length), ∃ cs,At w g (0 + j * n α) cs ∧ rd true w cs ys[j] (T j)) (k : Nat) (hk : k < ys.length) (hN : n α = N) :
  ∀ q,q < N → ∃ v,w.cell? ⟨g,k * N + q,none⟩ = some v:=by
 subst hN
 intro q hq
 obtain ⟨cs,h1,h2⟩:=he k hk
 have hl:=Lay.len h2
 have hc : cs[q]? = some (cs[q]'zz4):=List.getElem?_eq_getElem zz4
 have:=h1 q _ hc
 simp only [Nat.zero_add] at this
 exact ⟨_,this⟩
theorem Row.setU {α : Type} [Lay α] {w w' : World} {g cap N i : Nat} {ys : List α} {S S' U : Blks} {T : Nat → Blks} {y : α} {cs : List Value} (hN : n α = N)
  (hg : S' g) (hSS : sub S S') (hT : ∀ j,sub (T j) (fun b => S b ∧ b ≠ g)) (hd : ∀ i j,i ≠ j → disj (T i) (T j))
  (he : ∀ j (h : j < ys.length), ∃ cs,At w g (0 + j * n α) cs ∧ rd true w cs ys[j] (T j))
  (hi : i < ys.length) (hsh : Shp w' g (ty α) (cap * N))
  (hsame : ∀ o,o / N ≠ i → w'.cell? ⟨g,o,none⟩ = w.cell? ⟨g,o,none⟩)
  (hchg : Chg (fun b => b = g) w w')
  (hat : At w' g (i * N) cs) (hrd : rd true w' cs y U) (hU : sub U (fun b => S' b ∧ b ≠ g)) (hUl : ∀ b,U b → w.heap.size ≤ b) : Row true w' (some ⟨g,0,none⟩) cap (ys.set i y) S':=by
 subst hN
 obtain ⟨cur',hw',hc'⟩:=hsh
 refine .inr ⟨g,cur',rfl,hg,hw',hc',fun j b => if j = i then U b else (T j b ∧ b < w.heap.size),fun j => ?_,fun _ j k hjk => ?_,fun j hj => ?_⟩
 ·intro b hb
  by_cases e : j = i
  ·simp only [e,if_true] at hb; exact hU b hb
  ·simp only [e,if_false] at hb; exact ⟨hSS b (hT j b hb.1).1,(hT j b hb.1).2⟩
 ·intro b hb hb2
  by_cases e1 : j = i
  ·have e2 : ¬ k = i:=fun h => hjk (e1.trans h.symm)
   simp only [e1,if_true] at hb
   simp only [e2,if_false] at hb2
   have:=hUl b hb
   omega
  ·simp only [e1,if_false] at hb
   by_cases e2 : k = i
   ·simp only [e2,if_true] at hb2
    have:=hUl b hb2
    omega
   ·simp only [e2,if_false] at hb2
    exact hd j k hjk b hb.1 hb2.1
 ·have hj' : j < ys.length:=by simpa using hj
  by_cases e : j = i
  ·subst e
   refine ⟨cs,by simpa using hat,?_⟩
   simp only [List.getElem_set_self,if_true]
   exact hrd
  ·obtain ⟨c,h1,h2⟩:=he j hj'
   refine ⟨c,?_,?_⟩
   ·intro q u hu
    have hq : q < n α:=by
     have hl:=Lay.len h2
     have:=(List.getElem?_eq_some_iff.1 hu).1
     omega
    have hs:=hsame (j * n α + q) (by
     rw [Nat.mul_comm,Nat.mul_add_div (Lay.pos),Nat.div_eq_of_lt hq]; simpa using e)
    have h1':=h1 q u hu
    simp only [Nat.zero_add] at h1' ⊢
    rw [hs]; exact h1'
   ·have hne : ¬ i = j:=fun h => e h.symm
    simp only [List.getElem_set,hne,e,if_false]
    exact Lay.keep (Lay.tight h2) (fun b x => hchg.block b x.2 (fun e2 => (hT j b x.1).2 e2))
theorem to_File (x : File) (w : World) (cs : List Value) (S : Blks) (hx : rd false w cs x S) (hsz : x.sz ≤ 1048576) :
  Calls Tryz.prog 79 #[.agg cs.toArray] w fun e w' => ∃ cs',e = .returned (.agg cs'.toArray) ∧ rd true w' cs' x (rng w.heap.size w'.heap.size) ∧ Below w.heap.size w w':=by
 obtain ⟨rfl,f0,f1,f2⟩:=File.open hx
 clear hx
 unfold File.sz at hsz
 simp only [File.cs]
 go_enter Tryz.func79,Tryz.ntmps79
 go_wp2
 refine bodyPost_ret (v:=.agg #[.string x.name, .string x.text, .int .i64 x.kept]) (by simp [results,Tryz.results79,go_sem]) rfl ⟨[.string x.name, .string x.text, .int .i64 x.kept],rfl,?_,zz5⟩
 exact File.mk' (m:=true) (x:=x) f0 f1 f2
theorem info_FileS : (Tryz.prog.info? 102).map (fun i => (i.zero,i.size,i.bytes)) = some (some (.agg #[.string ⟨#[]⟩, .string ⟨#[]⟩, .int .i64 0]),3,40):=by kernel_rfl
theorem to_FileS (xs : List File) (w : World) (A : Option Addr) (cap : Nat) (S : Blks) (hx : Row false w A cap xs S) (hsz : szL xs ≤ 1048576) :
  Calls Tryz.prog 32 #[.slice A xs.length cap] w fun e w' => ∃ A' cap',e = .returned (.slice A' xs.length cap') ∧ xs.length ≤ cap' ∧ cap' ≤ maxLen ∧ Row true w' A' cap' xs (rng w.heap.size w'.heap.size) ∧ Below w.heap.size w w':=by
 have hl : xs.length ≤ 1048576:=by have:=szT_le xs 0; omega
 obtain ⟨i0,hi0,hz0,hz1,hz2⟩:=info_parts info_FileS
 have hmk:=fun W => run_make_rowN (P:=Tryz.prog) 26 102 i0 _ Tryz.underlying26 hi0 hz0 .i64 .i64 xs.length xs.length (Nat.le_refl _) (by rw [hz2]; omega) zz4 W
 rw [hz1] at hmk
 clear hi0 hz0 hz1 hz2
 have hm0:=Row.made (α:=File) (N:=3) w xs.length (#[.string ByteArray.empty, .string ByteArray.empty, .int .i64 0] : Array Value) rfl rfl
 go_enter Tryz.func32,Tryz.ntmps32
 go_wp2
 go_loopw [4] (fun i wr => ∃ k : Nat,k ≤ xs.length ∧ i = .int .i64 k ∧ Below w.heap.size w wr ∧ w.heap.size + 1 ≤ wr.heap.size ∧ Row true wr (some ⟨w.heap.size,0,none⟩) xs.length (xs.take k ++ List.replicate (xs.length - k) (Mk.z : File)) (rng w.heap.size wr.heap.size)) (fun i _ => xs.length - (intOf i).toNat)
 case atStart => exact ⟨0,Nat.zero_le _,rfl,zz5,zz17,by have h:=hm0; (try simp only [Nat.mul_one] at h); simp only [World.size_alloc]; exact h⟩
 case round =>
  obtain ⟨k,hkk,rfl,hb,hz,hrow⟩:=hrel
  clear hm0
  by_cases hlt : k < xs.length
  ·have hne : xs ≠ []:=by rintro rfl; simp at hlt
   obtain ⟨b1,o1,rfl,hS1,T1,hT1,_,he1⟩:=hx hne
   obtain ⟨c1,ha1,hr1⟩:=he1 k hlt
   have hl1:=ha1.lt zz39
   replace ha1:=ha1.keep (hb.block _ hl1)
   replace hr1:=Lay.later hr1 hb
   have hszk:=sz_le_L xs k hlt
   have hst:=zd (take_step xs (Mk.z : File) k hlt)
   generalize xs[k] = x at hr1 hszk hst
   rcases hrow with ⟨h_,_⟩ | ⟨g2,cur,e_,_,hh,hcz,T,hT,hd,he⟩
   ·cases h_
   cases e_
   have hsh : Shp wr w.heap.size (ty File) (xs.length * 3):=⟨cur,hh,hcz⟩
   have HE:=zd he; have HD:=zd (hd rfl); have HT:=zd hT
   have ho:=old_cells (N:=3) he k zz23 rfl
   clear he hd hT hh hcz he1 hx
   obtain ⟨v0,ov0⟩ : ∃ v,wr.cell? ⟨w.heap.size,k * 3,none⟩ = some v:=by have:=ho 0 zz4; simpa using this
   obtain ⟨v1,ov1⟩ : ∃ v,wr.cell? ⟨w.heap.size,k * 3 + 1,none⟩ = some v:=by have:=ho 1 zz4; simpa using this
   obtain ⟨v2,ov2⟩ : ∃ v,wr.cell? ⟨w.heap.size,k * 3 + 2,none⟩ = some v:=by have:=ho 2 zz4; simpa using this
   have hf0:=fun o => hsh.frozen o
   clear ho
   have ht:=zd hr1
   obtain ⟨rfl,ef0,ef1,ef2⟩:=File.open hr1
   have q0:=ha1 0 _ rfl
   have q1:=ha1 1 _ rfl
   have q2:=ha1 2 _ rfl
   simp only [show Lay.n File = 3 from rfl,Nat.add_zero] at q0 q1 q2
   clear ha1
   have hszx : x.sz ≤ 1048576:=by have : Mk.sz x = x.sz:=rfl; omega
   go_wp2_with (fail)
   refine (to_File x _ (File.cs x) _ (Lay.later ht.out zz5) hszx).mono ?_
   rintro e1 w1 ⟨cs1,rfl,hn1,hb1⟩
   have hn2:=zd hn1
   obtain ⟨rfl,nf0,nf1,nf2⟩:=File.open hn1
   simp only [File.cs]
   have hB1 : Below w.heap.size w w1:=by have zh:=hb; refine Below.trans (b:=_) ?_ (hb1.mono ?_) <;> exact zz2
   have hz1 : wr.heap.size ≤ w1.heap.size:=zz28
   have hc1:=fun o => hb1.cell (p:=⟨w.heap.size,o,none⟩) zz0
   have hg1:=fun o => hb1.frozen (p:=⟨w.heap.size,o,none⟩) zz0
   have hsh1 : Shp w1 w.heap.size (ty File) (xs.length * 3):=hsh.of (hb1.block _ zz0)
   have hn3 : rd true w1 [.string x.name, .string x.text, .int .i64 x.kept] x (rng wr.heap.size w1.heap.size):=Lay.mono hn2.out (fun b h => zz32)
   have hq1 : Chg (fun b => b = w.heap.size) wr w1:=(show Chg _ wr _ from by (repeat (first | with_reducible exact Chg.refl _ _ | with_reducible apply Chg.drew))).below hb1 zz0
   go_wp2
   go_roundw
   case rel =>
    refine ⟨k + 1,zz4,by go_num,by have zh:=hB1; exact zz2,by (try simp); omega,?_⟩
    rw [hst.out]
    refine Row.setU (N:=3) (T:=T) (w:=wr) (U:=(rng wr.heap.size w1.heap.size)) (cs:=[.string x.name, .string x.text, .int .i64 x.kept]) rfl (by unfold rng; (try simp); omega) (fun b h => by unfold rng at h ⊢; (try simp); omega) HT.out HD.out HE.out zz23 (show Shp _ _ (ty File) (xs.length * 3) from by have zh:=hsh1; exact zz42) (fun o ho => ?_) ?_ ?_ ?_ ?_ ?_
    ·have n0 : o ≠ k * 3:=by intro h; apply ho; rw [h]; omega
     have n1 : o ≠ k * 3 + 1:=zz29
     have n2 : o ≠ k * 3 + 2:=zz29
     simp only [hc1,cell_set_ne _ _ _ o _ n0,cell_set_ne _ _ _ o _ n1,cell_set_ne _ _ _ o _ n2]
    ·exact (show Chg (fun b => b = w.heap.size) wr _ from by (repeat (first | with_reducible exact hq1 | with_reducible apply Chg.drew | with_reducible refine Chg.setCell ?_ ?_ _ | exact Or.inl rfl)))
    ·intro j u hu
     have hj : j < 3:=(List.getElem?_eq_some_iff.1 hu).1
     rcases (by omega : j = 0 ∨ j = 1 ∨ j = 2) with rfl | rfl | rfl
     all_goals (have hu:=Option.some.inj hu; subst hu; go_simp; try simp)
    ·exact (show rd true _ [.string x.name, .string x.text, .int .i64 x.kept] x (rng wr.heap.size w1.heap.size) from by (repeat (first | with_reducible exact hn3 | with_reducible apply rd_drewC | with_reducible refine rd_setC ?_ ?_ _ | exact (fun h => zz18))))
    ·exact fun b h => by unfold rng at h ⊢; (try simp); constructor <;> omega
    ·exact fun b h => by unfold rng at h; exact h.1
   case measure => simp [intOf]; omega
  ·have hke : k = xs.length:=by omega
   go_wp2
   go_ret; subst hke; exact ⟨some ⟨w.heap.size,0,none⟩,xs.length,rfl,Nat.le_refl _,by unfold maxLen; omega,by simpa using hrow,hb⟩
theorem to_Disk (x : Disk) (w : World) (cs : List Value) (S : Blks) (hx : rd false w cs x S) (hsz : x.sz ≤ 1048576) :
  Calls Tryz.prog 9 #[.agg cs.toArray] w fun e w' => ∃ cs',e = .returned (.agg cs'.toArray) ∧ rd true w' cs' x (rng w.heap.size w'.heap.size) ∧ Below w.heap.size w w':=by
 obtain ⟨A0,k0,S0,rfl,a0,b0,r0,s0⟩:=Disk.open hx
 clear hx
 unfold Disk.sz at hsz
 simp only [Disk.cs]
 go_enter Tryz.func9,Tryz.ntmps9
 go_wp2_with (fail)
 refine (to_FileS x.files _ A0 k0 S0 (r0.later zz5) zz4).mono ?_
 rintro e1 w1 ⟨nA0,nk0,rfl,na0,nb0,nr0,hb1⟩
 have hB1 : Below w.heap.size w w1:=by refine Below.trans (b:=_) ?_ (hb1.mono ?_) <;> exact zz5
 have hz1 : w.heap.size + 3 ≤ w1.heap.size:=zz28
 have hc1:=fun o => hb1.cell (p:=⟨w.heap.size,o,none⟩) zz0
 have hd1:=fun o => hb1.cell (p:=⟨w.heap.size + 1,o,none⟩) zz0
 have he1:=fun o => hb1.cell (p:=⟨w.heap.size + 2,o,none⟩) zz0
 have hfd1:=fun o => hb1.frozen (p:=⟨w.heap.size + 1,o,none⟩) zz0
 have hfe1:=fun o => hb1.frozen (p:=⟨w.heap.size + 2,o,none⟩) zz0
 have hw1:=hb1.size
 (try simp at hw1)
 have nS0_ : True:=trivial
 replace nr0:=nr0.mono (S':=rng (w.heap.size + 3) w1.heap.size) (fun b h => zz32)
 go_wp2
 refine bodyPost_ret (v:=.agg #[.slice nA0 x.files.length nk0]) (by simp [results,Tryz.results9,go_sem,hd1,he1]) rfl ⟨[.slice nA0 x.files.length nk0],rfl,?_,by have zh:=hB1; exact zz2⟩
 exact Disk.mk' (m:=true) (x:=x) na0 nb0 (show Row true _ nA0 nk0 x.files (rng (w.heap.size + 3) w1.heap.size) from by have zh:=nr0; exact zz6) (fun b h => by unfold rng at h ⊢; simp; omega)
theorem info_StringS : (Tryz.prog.info? 9).map (fun i => (i.zero,i.size,i.bytes)) = some (some (.string ⟨#[]⟩),1,16):=by kernel_rfl
theorem to_StringS (xs : List ByteArray) (w : World) (A : Option Addr) (cap : Nat) (S : Blks) (hx : Row false w A cap xs S) (hsz : szL xs ≤ 1048576) :
  Calls Tryz.prog 20 #[.slice A xs.length cap] w fun e w' => ∃ A' cap',e = .returned (.slice A' xs.length cap') ∧ xs.length ≤ cap' ∧ cap' ≤ maxLen ∧ Row true w' A' cap' xs (rng w.heap.size w'.heap.size) ∧ Below w.heap.size w w':=by
 have hl : xs.length ≤ 1048576:=by have:=szT_le xs 0; omega
 obtain ⟨i0,hi0,hz0,hz1,hz2⟩:=info_parts info_StringS
 have hmk:=fun W => run_make_rowN (P:=Tryz.prog) 29 9 i0 _ Tryz.underlying29 hi0 hz0 .i64 .i64 xs.length xs.length (Nat.le_refl _) (by rw [hz2]; omega) zz4 W
 rw [hz1] at hmk
 clear hi0 hz0 hz1 hz2
 have hm0:=Row.made (α:=ByteArray) (N:=1) w xs.length (#[.string ByteArray.empty] : Array Value) rfl rfl
 go_enter Tryz.func20,Tryz.ntmps20
 go_wp2
 go_loopw [4] (fun i wr => ∃ k : Nat,k ≤ xs.length ∧ i = .int .i64 k ∧ Below w.heap.size w wr ∧ w.heap.size + 1 ≤ wr.heap.size ∧ Row true wr (some ⟨w.heap.size,0,none⟩) xs.length (xs.take k ++ List.replicate (xs.length - k) (Mk.z : ByteArray)) (rng w.heap.size wr.heap.size)) (fun i _ => xs.length - (intOf i).toNat)
 case atStart => exact ⟨0,Nat.zero_le _,rfl,zz5,zz17,by have h:=hm0; (try simp only [Nat.mul_one] at h); simp only [World.size_alloc]; exact h⟩
 case round =>
  obtain ⟨k,hkk,rfl,hb,hz,hrow⟩:=hrel
  clear hm0
  by_cases hlt : k < xs.length
  ·have hne : xs ≠ []:=by rintro rfl; simp at hlt
   obtain ⟨b1,o1,rfl,hS1,T1,hT1,_,he1⟩:=hx hne
   obtain ⟨c1,ha1,hr1⟩:=he1 k hlt
   have hl1:=ha1.lt zz39
   replace ha1:=ha1.keep (hb.block _ hl1)
   replace hr1:=Lay.later hr1 hb
   have hszk:=sz_le_L xs k hlt
   have hst:=zd (take_step xs (Mk.z : ByteArray) k hlt)
   generalize xs[k] = x at hr1 hszk hst
   rcases hrow with ⟨h_,_⟩ | ⟨g2,cur,e_,_,hh,hcz,T,hT,hd,he⟩
   ·cases h_
   cases e_
   have hsh : Shp wr w.heap.size (ty ByteArray) (xs.length * 1):=⟨cur,hh,hcz⟩
   have HE:=zd he; have HD:=zd (hd rfl); have HT:=zd hT
   have ho:=old_cells (N:=1) he k zz23 rfl
   clear he hd hT hh hcz he1 hx
   obtain ⟨v0,ov0⟩ : ∃ v,wr.cell? ⟨w.heap.size,k,none⟩ = some v:=by have:=ho 0 zz4; simpa using this
   have hf0:=fun o => hsh.frozen o
   clear ho
   obtain ⟨rfl,g1⟩:=open_str hr1
   have q0:=ha1 0 _ rfl; clear hr1 ha1
   simp only [show Lay.n ByteArray = 1 from rfl,Nat.add_zero,Nat.mul_one] at q0
   go_wp2
   go_roundw
   case rel =>
    refine ⟨k + 1,zz4,by go_num,by have zh:=hb; exact zz2,by (try simp); omega,?_⟩
    rw [hst.out]
    refine Row.setU (N:=1) (T:=T) (w:=wr) (U:=(fun _ => False)) (cs:=[.string x]) rfl (by unfold rng; (try simp); omega) (fun b h => by unfold rng at h ⊢; (try simp); omega) HT.out HD.out HE.out zz23 (show Shp _ _ (ty ByteArray) (xs.length * 1) from by have zh:=hsh; exact zz42) (fun o ho => ?_) ?_ ?_ ?_ ?_ ?_
    ·have n0 : o ≠ k:=by intro h; apply ho; rw [h]; omega
     simp only [cell_set_ne _ _ _ o _ n0]
    ·exact (show Chg (fun b => b = w.heap.size) wr _ from by (repeat (first | with_reducible exact Chg.refl _ _ | with_reducible apply Chg.drew | with_reducible refine Chg.setCell ?_ ?_ _ | exact Or.inl rfl)))
    ·intro j u hu
     have hj : j < 1:=(List.getElem?_eq_some_iff.1 hu).1
     obtain rfl : j = 0:=by omega
     all_goals (have hu:=Option.some.inj hu; subst hu; go_simp; try simp)
    ·exact ⟨rfl,g1⟩
    ·exact fun _ x => x.elim
    ·exact fun _ x => x.elim
   case measure => simp [intOf]; omega
  ·have hke : k = xs.length:=by omega
   go_wp2
   go_ret; subst hke; exact ⟨some ⟨w.heap.size,0,none⟩,xs.length,rfl,Nat.le_refl _,by unfold maxLen; omega,by simpa using hrow,hb⟩
theorem to_Head (x : Head) (w : World) (cs : List Value) (S : Blks) (hx : rd false w cs x S) (hsz : x.sz ≤ 1048576) :
  Calls Tryz.prog 144 #[.agg cs.toArray] w fun e w' => ∃ cs',e = .returned (.agg cs'.toArray) ∧ rd true w' cs' x (rng w.heap.size w'.heap.size) ∧ Below w.heap.size w w':=by
 obtain ⟨rfl,f0,f1,f2,f3⟩:=Head.open hx
 clear hx
 unfold Head.sz at hsz
 simp only [Head.cs]
 go_enter Tryz.func144,Tryz.ntmps144
 go_wp2
 refine bodyPost_ret (v:=.agg #[.int .i64 x.house, .int .i64 x.epoch, .string x.root, .string x.prev]) (by simp [results,Tryz.results144,go_sem]) rfl ⟨[.int .i64 x.house, .int .i64 x.epoch, .string x.root, .string x.prev],rfl,?_,zz5⟩
 exact Head.mk' (m:=true) (x:=x) f0 f1 f2 f3
theorem to_Sig (x : Sig) (w : World) (cs : List Value) (S : Blks) (hx : rd false w cs x S) (hsz : x.sz ≤ 1048576) :
  Calls Tryz.prog 145 #[.agg cs.toArray] w fun e w' => ∃ cs',e = .returned (.agg cs'.toArray) ∧ rd true w' cs' x (rng w.heap.size w'.heap.size) ∧ Below w.heap.size w w':=by
 obtain ⟨A0,k0,S0,A1,k1,S1,A2,k2,S2,rfl,f0,a0,b0,r0,s0,a1,b1,r1,s1,a2,b2,r2,s2,pw⟩:=Sig.open hx
 clear hx
 unfold Sig.sz at hsz
 simp only [Sig.cs]
 go_enter Tryz.func145,Tryz.ntmps145
 go_wp2_with (fail)
 refine (to_StringS x.open_ _ A0 k0 S0 (r0.later zz5) zz4).mono ?_
 rintro e1 w1 ⟨nA0,nk0,rfl,na0,nb0,nr0,hb1⟩
 have hB1 : Below w.heap.size w w1:=by refine Below.trans (b:=_) ?_ (hb1.mono ?_) <;> exact zz5
 have hz1 : w.heap.size + 3 ≤ w1.heap.size:=zz28
 have hc1:=fun o => hb1.cell (p:=⟨w.heap.size,o,none⟩) zz0
 have hd1:=fun o => hb1.cell (p:=⟨w.heap.size + 1,o,none⟩) zz0
 have he1:=fun o => hb1.cell (p:=⟨w.heap.size + 2,o,none⟩) zz0
 have hfd1:=fun o => hb1.frozen (p:=⟨w.heap.size + 1,o,none⟩) zz0
 have hfe1:=fun o => hb1.frozen (p:=⟨w.heap.size + 2,o,none⟩) zz0
 have hw1:=hb1.size
 (try simp at hw1)
 have nS0_ : True:=trivial
 replace nr0:=nr0.mono (S':=rng (w.heap.size + 3) w1.heap.size) (fun b h => zz32)
 go_wp2_with (fail)
 refine (to_StringS x.shut _ A1 k1 S1 (r1.later (by have zh:=hB1; exact zz2)) zz4).mono ?_
 rintro e2 w2 ⟨nA1,nk1,rfl,na1,nb1,nr1,hb2⟩
 have hB2 : Below w.heap.size w w2:=by have zh:=hB1; refine Below.trans (b:=_) ?_ (hb2.mono ?_) <;> exact zz2
 have hz2 : w.heap.size + 3 ≤ w2.heap.size:=zz35
 have hc2:=fun o => hb2.cell (p:=⟨w.heap.size,o,none⟩) zz0
 have hd2:=fun o => hb2.cell (p:=⟨w.heap.size + 1,o,none⟩) zz0
 have he2:=fun o => hb2.cell (p:=⟨w.heap.size + 2,o,none⟩) zz0
 have hfd2:=fun o => hb2.frozen (p:=⟨w.heap.size + 1,o,none⟩) zz0
 have hfe2:=fun o => hb2.frozen (p:=⟨w.heap.size + 2,o,none⟩) zz0
 have hw2:=hb2.size
 (try simp at hw2)
 have nr0_2:=Row.later (show Row true _ nA0 nk0 x.open_ (rng (w.heap.size + 3) w1.heap.size) from by have zh:=nr0; exact zz6) hb2
 have nS1_ : True:=trivial
 replace nr1:=nr1.mono (S':=rng (w1.heap.size) w2.heap.size) (fun b h => zz32)
 go_wp2_with (fail)
 refine (to_StringS x.sides _ A2 k2 S2 (r2.later (by have zh:=hB2; exact zz2)) zz4).mono ?_
 rintro e3 w3 ⟨nA2,nk2,rfl,na2,nb2,nr2,hb3⟩
 have hB3 : Below w.heap.size w w3:=by have zh:=hB2; refine Below.trans (b:=_) ?_ (hb3.mono ?_) <;> exact zz2
 have hz3 : w.heap.size + 3 ≤ w3.heap.size:=by have:=hb3.size; (try simp at this); omega
 have hc3:=fun o => hb3.cell (p:=⟨w.heap.size,o,none⟩) zz0
 have hd3:=fun o => hb3.cell (p:=⟨w.heap.size + 1,o,none⟩) zz0
 have he3:=fun o => hb3.cell (p:=⟨w.heap.size + 2,o,none⟩) zz0
 have hfd3:=fun o => hb3.frozen (p:=⟨w.heap.size + 1,o,none⟩) zz0
 have hfe3:=fun o => hb3.frozen (p:=⟨w.heap.size + 2,o,none⟩) zz0
 have hw3:=hb3.size
 (try simp at hw3)
 have nr0_3:=Row.later (show Row true _ nA0 nk0 x.open_ (rng (w.heap.size + 3) w1.heap.size) from by have zh:=nr0_2; exact zz6) hb3
 have nr1_3:=Row.later (show Row true _ nA1 nk1 x.shut (rng (w1.heap.size) w2.heap.size) from by have zh:=nr1; exact zz6) hb3
 have nS2_ : True:=trivial
 replace nr2:=nr2.mono (S':=rng (w2.heap.size) w3.heap.size) (fun b h => zz32)
 go_wp2
 refine bodyPost_ret (v:=.agg #[.int .i64 x.at_, .slice nA0 x.open_.length nk0, .slice nA1 x.shut.length nk1, .slice nA2 x.sides.length nk2]) (by simp [results,Tryz.results145,go_sem,hd3,he3,hd2,he2,hd1,he1]) rfl ⟨[.int .i64 x.at_, .slice nA0 x.open_.length nk0, .slice nA1 x.shut.length nk1, .slice nA2 x.sides.length nk2],rfl,?_,by have zh:=hB3; exact zz2⟩
 exact Sig.mk' (m:=true) (x:=x) f0 na0 nb0 (show Row true _ nA0 nk0 x.open_ (rng (w.heap.size + 3) w1.heap.size) from by have zh:=nr0_3; exact zz6) (fun b h => by unfold rng at h ⊢; simp; omega) na1 nb1 (show Row true _ nA1 nk1 x.shut (rng (w1.heap.size) w2.heap.size) from by have zh:=nr1_3; exact zz6) (fun b h => by unfold rng at h ⊢; simp; omega) na2 nb2 (show Row true _ nA2 nk2 x.sides (rng (w2.heap.size) w3.heap.size) from by have zh:=nr2; exact zz6) (fun b h => by unfold rng at h ⊢; simp; omega) (fun _ => pwmk3 (fun b h1 h2 => by unfold rng at h1 h2; omega) (fun b h1 h2 => by unfold rng at h1 h2; omega) (fun b h1 h2 => by unfold rng at h1 h2; omega))
theorem to_Seal (x : Seal) (w : World) (cs : List Value) (S : Blks) (hx : rd false w cs x S) (hsz : x.sz ≤ 1048576) :
  Calls Tryz.prog 96 #[.agg cs.toArray] w fun e w' => ∃ cs',e = .returned (.agg cs'.toArray) ∧ rd true w' cs' x (rng w.heap.size w'.heap.size) ∧ Below w.heap.size w w':=by
 obtain ⟨A0,k0,S0,A1,k1,S1,A2,k2,S2,rfl,f0,f1,f2,f3,f4,a0,b0,r0,s0,a1,b1,r1,s1,a2,b2,r2,s2,pw⟩:=Seal.open hx
 clear hx
 unfold Seal.sz at hsz
 simp only [Seal.cs]
 go_enter Tryz.func96,Tryz.ntmps96
 go_wp2_with (fail)
 refine (to_Head x.head _ _ S (Head.mk' (m:=false) f0 f1 f2 f3) zz4).mono ?_
 rintro e1 w1 ⟨cs1,rfl,hr1,hb1⟩
 obtain ⟨rfl,_,_,_,_⟩:=Head.open hr1
 simp only [Head.cs]
 have hB1 : Below w.heap.size w w1:=by refine Below.trans (b:=_) ?_ (hb1.mono ?_) <;> exact zz5
 have hz1 : w.heap.size + 3 ≤ w1.heap.size:=zz28
 have hc1:=fun o => hb1.cell (p:=⟨w.heap.size,o,none⟩) zz0
 have hd1:=fun o => hb1.cell (p:=⟨w.heap.size + 1,o,none⟩) zz0
 have he1:=fun o => hb1.cell (p:=⟨w.heap.size + 2,o,none⟩) zz0
 have hfd1:=fun o => hb1.frozen (p:=⟨w.heap.size + 1,o,none⟩) zz0
 have hfe1:=fun o => hb1.frozen (p:=⟨w.heap.size + 2,o,none⟩) zz0
 have hw1:=hb1.size
 (try simp at hw1)
 go_wp2_with (fail)
 refine (to_Sig x.sig _ _ S (Sig.mk' (m:=false) f4 a0 b0 (r0.later (by have zh:=hB1; exact zz2)) s0 a1 b1 (r1.later (by have zh:=hB1; exact zz2)) s1 a2 b2 (r2.later (by have zh:=hB1; exact zz2)) s2 zz17) zz4).mono ?_
 rintro e2 w2 ⟨cs2,rfl,hr2,hb2⟩
 obtain ⟨nA0,nk0,nS0,nA1,nk1,nS1,nA2,nk2,nS2,rfl,_,na0,nb0,nr0,ns0,na1,nb1,nr1,ns1,na2,nb2,nr2,ns2,pw2⟩:=Sig.open hr2
 replace pw2:=zd (pw2 rfl)
 simp only [Sig.cs]
 have hB2 : Below w.heap.size w w2:=by have zh:=hB1; refine Below.trans (b:=_) ?_ (hb2.mono ?_) <;> exact zz2
 have hz2 : w.heap.size + 3 ≤ w2.heap.size:=zz35
 have hc2:=fun o => hb2.cell (p:=⟨w.heap.size,o,none⟩) zz0
 have hd2:=fun o => hb2.cell (p:=⟨w.heap.size + 1,o,none⟩) zz0
 have he2:=fun o => hb2.cell (p:=⟨w.heap.size + 2,o,none⟩) zz0
 have hfd2:=fun o => hb2.frozen (p:=⟨w.heap.size + 1,o,none⟩) zz0
 have hfe2:=fun o => hb2.frozen (p:=⟨w.heap.size + 2,o,none⟩) zz0
 have hw2:=hb2.size
 (try simp at hw2)
 replace nr0:=(nr0.mono (S':=fun b => nS0 b ∧ rng (w1.heap.size) w2.heap.size b) (fun b h => ⟨h,by have:=ns0 b h; unfold rng at this ⊢; (try simp at this); omega⟩))
 replace nr1:=(nr1.mono (S':=fun b => nS1 b ∧ rng (w1.heap.size) w2.heap.size b) (fun b h => ⟨h,by have:=ns1 b h; unfold rng at this ⊢; (try simp at this); omega⟩))
 replace nr2:=(nr2.mono (S':=fun b => nS2 b ∧ rng (w1.heap.size) w2.heap.size b) (fun b h => ⟨h,by have:=ns2 b h; unfold rng at this ⊢; (try simp at this); omega⟩))
 go_wp2
 refine bodyPost_ret (v:=.agg #[.int .i64 x.head.house, .int .i64 x.head.epoch, .string x.head.root, .string x.head.prev, .int .i64 x.sig.at_, .slice nA0 x.sig.open_.length nk0, .slice nA1 x.sig.shut.length nk1, .slice nA2 x.sig.sides.length nk2]) (by simp [results,Tryz.results96,go_sem,hd2,he2,hd1,he1]) rfl ⟨[.int .i64 x.head.house, .int .i64 x.head.epoch, .string x.head.root, .string x.head.prev, .int .i64 x.sig.at_, .slice nA0 x.sig.open_.length nk0, .slice nA1 x.sig.shut.length nk1, .slice nA2 x.sig.sides.length nk2],rfl,?_,by have zh:=hB2; exact zz2⟩
 exact Seal.mk' (m:=true) (x:=x) f0 f1 f2 f3 f4 na0 nb0 (show Row true _ nA0 nk0 x.sig.open_ (fun b => nS0 b ∧ rng (w1.heap.size) w2.heap.size b) from by have zh:=nr0; exact zz6) (fun b h => zz41) na1 nb1 (show Row true _ nA1 nk1 x.sig.shut (fun b => nS1 b ∧ rng (w1.heap.size) w2.heap.size b) from by have zh:=nr1; exact zz6) (fun b h => zz41) na2 nb2 (show Row true _ nA2 nk2 x.sig.sides (fun b => nS2 b ∧ rng (w1.heap.size) w2.heap.size b) from by have zh:=nr2; exact zz6) (fun b h => zz41) (fun _ => pwmk3 (disj_sub (pwget3_0_1 pw2.out) (fun b (x : _ ∧ _) => x.1) (fun b (x : _ ∧ _) => x.1)) (disj_sub (pwget3_0_2 pw2.out) (fun b (x : _ ∧ _) => x.1) (fun b (x : _ ∧ _) => x.1)) (disj_sub (pwget3_1_2 pw2.out) (fun b (x : _ ∧ _) => x.1) (fun b (x : _ ∧ _) => x.1)))
theorem info_SealS : (Tryz.prog.info? 76).map (fun i => (i.zero,i.size,i.bytes)) = some (some (.agg #[.int .i64 0, .int .i64 0, .string ⟨#[]⟩, .string ⟨#[]⟩, .int .i64 0, .slice none 0 0, .slice none 0 0, .slice none 0 0]),8,128):=by kernel_rfl
theorem to_SealS (xs : List Seal) (w : World) (A : Option Addr) (cap : Nat) (S : Blks) (hx : Row false w A cap xs S) (hsz : szL xs ≤ 1048576) :
  Calls Tryz.prog 55 #[.slice A xs.length cap] w fun e w' => ∃ A' cap',e = .returned (.slice A' xs.length cap') ∧ xs.length ≤ cap' ∧ cap' ≤ maxLen ∧ Row true w' A' cap' xs (rng w.heap.size w'.heap.size) ∧ Below w.heap.size w w':=by
 have hl : xs.length ≤ 1048576:=by have:=szT_le xs 0; omega
 obtain ⟨i0,hi0,hz0,hz1,hz2⟩:=info_parts info_SealS
 have hmk:=fun W => run_make_rowN (P:=Tryz.prog) 30 76 i0 _ Tryz.underlying30 hi0 hz0 .i64 .i64 xs.length xs.length (Nat.le_refl _) (by rw [hz2]; omega) zz4 W
 rw [hz1] at hmk
 clear hi0 hz0 hz1 hz2
 have hm0:=Row.made (α:=Seal) (N:=8) w xs.length (#[.int .i64 0, .int .i64 0, .string ByteArray.empty, .string ByteArray.empty, .int .i64 0, .slice none 0 0, .slice none 0 0, .slice none 0 0] : Array Value) rfl rfl
 go_enter Tryz.func55,Tryz.ntmps55
 go_wp2
 go_loopw [4] (fun i wr => ∃ k : Nat,k ≤ xs.length ∧ i = .int .i64 k ∧ Below w.heap.size w wr ∧ w.heap.size + 1 ≤ wr.heap.size ∧ Row true wr (some ⟨w.heap.size,0,none⟩) xs.length (xs.take k ++ List.replicate (xs.length - k) (Mk.z : Seal)) (rng w.heap.size wr.heap.size)) (fun i _ => xs.length - (intOf i).toNat)
 case atStart => exact ⟨0,Nat.zero_le _,rfl,zz5,zz17,by have h:=hm0; (try simp only [Nat.mul_one] at h); simp only [World.size_alloc]; exact h⟩
 case round =>
  obtain ⟨k,hkk,rfl,hb,hz,hrow⟩:=hrel
  clear hm0
  by_cases hlt : k < xs.length
  ·have hne : xs ≠ []:=by rintro rfl; simp at hlt
   obtain ⟨b1,o1,rfl,hS1,T1,hT1,_,he1⟩:=hx hne
   obtain ⟨c1,ha1,hr1⟩:=he1 k hlt
   have hl1:=ha1.lt zz39
   replace ha1:=ha1.keep (hb.block _ hl1)
   replace hr1:=Lay.later hr1 hb
   have hszk:=sz_le_L xs k hlt
   have hst:=zd (take_step xs (Mk.z : Seal) k hlt)
   generalize xs[k] = x at hr1 hszk hst
   rcases hrow with ⟨h_,_⟩ | ⟨g2,cur,e_,_,hh,hcz,T,hT,hd,he⟩
   ·cases h_
   cases e_
   have hsh : Shp wr w.heap.size (ty Seal) (xs.length * 8):=⟨cur,hh,hcz⟩
   have HE:=zd he; have HD:=zd (hd rfl); have HT:=zd hT
   have ho:=old_cells (N:=8) he k zz23 rfl
   clear he hd hT hh hcz he1 hx
   obtain ⟨v0,ov0⟩ : ∃ v,wr.cell? ⟨w.heap.size,k * 8,none⟩ = some v:=by have:=ho 0 zz4; simpa using this
   obtain ⟨v1,ov1⟩ : ∃ v,wr.cell? ⟨w.heap.size,k * 8 + 1,none⟩ = some v:=by have:=ho 1 zz4; simpa using this
   obtain ⟨v2,ov2⟩ : ∃ v,wr.cell? ⟨w.heap.size,k * 8 + 2,none⟩ = some v:=by have:=ho 2 zz4; simpa using this
   obtain ⟨v3,ov3⟩ : ∃ v,wr.cell? ⟨w.heap.size,k * 8 + 3,none⟩ = some v:=by have:=ho 3 zz4; simpa using this
   obtain ⟨v4,ov4⟩ : ∃ v,wr.cell? ⟨w.heap.size,k * 8 + 4,none⟩ = some v:=by have:=ho 4 zz4; simpa using this
   obtain ⟨v5,ov5⟩ : ∃ v,wr.cell? ⟨w.heap.size,k * 8 + 5,none⟩ = some v:=by have:=ho 5 zz4; simpa using this
   obtain ⟨v6,ov6⟩ : ∃ v,wr.cell? ⟨w.heap.size,k * 8 + 6,none⟩ = some v:=by have:=ho 6 zz4; simpa using this
   obtain ⟨v7,ov7⟩ : ∃ v,wr.cell? ⟨w.heap.size,k * 8 + 7,none⟩ = some v:=by have:=ho 7 zz4; simpa using this
   have hf0:=fun o => hsh.frozen o
   clear ho
   have ht:=zd hr1
   obtain ⟨eA0,ek0,eS0,eA1,ek1,eS1,eA2,ek2,eS2,rfl,ef0,ef1,ef2,ef3,ef4,ea0,eb0,er0,es0,ea1,eb1,er1,es1,ea2,eb2,er2,es2,epw⟩:=Seal.open hr1
   have q0:=ha1 0 _ rfl
   have q1:=ha1 1 _ rfl
   have q2:=ha1 2 _ rfl
   have q3:=ha1 3 _ rfl
   have q4:=ha1 4 _ rfl
   have q5:=ha1 5 _ rfl
   have q6:=ha1 6 _ rfl
   have q7:=ha1 7 _ rfl
   simp only [show Lay.n Seal = 8 from rfl,Nat.add_zero] at q0 q1 q2 q3 q4 q5 q6 q7
   clear ha1
   have hszx : x.sz ≤ 1048576:=by have : Mk.sz x = x.sz:=rfl; omega
   go_wp2_with (fail)
   refine (to_Seal x _ (Seal.cs x eA0 ek0 eA1 ek1 eA2 ek2) _ (Lay.later ht.out zz5) hszx).mono ?_
   rintro e1 w1 ⟨cs1,rfl,hn1,hb1⟩
   have hn2:=zd hn1
   obtain ⟨nA0,nk0,nS0,nA1,nk1,nS1,nA2,nk2,nS2,rfl,nf0,nf1,nf2,nf3,nf4,na0,nb0,nr0,ns0,na1,nb1,nr1,ns1,na2,nb2,nr2,ns2,_⟩:=Seal.open hn1
   simp only [Seal.cs]
   have hB1 : Below w.heap.size w w1:=by have zh:=hb; refine Below.trans (b:=_) ?_ (hb1.mono ?_) <;> exact zz2
   have hz1 : wr.heap.size ≤ w1.heap.size:=zz28
   have hc1:=fun o => hb1.cell (p:=⟨w.heap.size,o,none⟩) zz0
   have hg1:=fun o => hb1.frozen (p:=⟨w.heap.size,o,none⟩) zz0
   have hsh1 : Shp w1 w.heap.size (ty Seal) (xs.length * 8):=hsh.of (hb1.block _ zz0)
   have hn3 : rd true w1 [.int .i64 x.head.house, .int .i64 x.head.epoch, .string x.head.root, .string x.head.prev, .int .i64 x.sig.at_, .slice nA0 x.sig.open_.length nk0, .slice nA1 x.sig.shut.length nk1, .slice nA2 x.sig.sides.length nk2] x (rng wr.heap.size w1.heap.size):=Lay.mono hn2.out (fun b h => zz32)
   have hq1 : Chg (fun b => b = w.heap.size) wr w1:=(show Chg _ wr _ from by (repeat (first | with_reducible exact Chg.refl _ _ | with_reducible apply Chg.drew))).below hb1 zz0
   go_wp2
   go_roundw
   case rel =>
    refine ⟨k + 1,zz4,by go_num,by have zh:=hB1; exact zz2,by (try simp); omega,?_⟩
    rw [hst.out]
    refine Row.setU (N:=8) (T:=T) (w:=wr) (U:=(rng wr.heap.size w1.heap.size)) (cs:=[.int .i64 x.head.house, .int .i64 x.head.epoch, .string x.head.root, .string x.head.prev, .int .i64 x.sig.at_, .slice nA0 x.sig.open_.length nk0, .slice nA1 x.sig.shut.length nk1, .slice nA2 x.sig.sides.length nk2]) rfl (by unfold rng; (try simp); omega) (fun b h => by unfold rng at h ⊢; (try simp); omega) HT.out HD.out HE.out zz23 (show Shp _ _ (ty Seal) (xs.length * 8) from by have zh:=hsh1; exact zz42) (fun o ho => ?_) ?_ ?_ ?_ ?_ ?_
    ·have n0 : o ≠ k * 8:=by intro h; apply ho; rw [h]; omega
     have n1 : o ≠ k * 8 + 1:=zz29
     have n2 : o ≠ k * 8 + 2:=zz29
     have n3 : o ≠ k * 8 + 3:=zz29
     have n4 : o ≠ k * 8 + 4:=zz29
     have n5 : o ≠ k * 8 + 5:=zz29
     have n6 : o ≠ k * 8 + 6:=zz29
     have n7 : o ≠ k * 8 + 7:=zz29
     simp only [hc1,cell_set_ne _ _ _ o _ n0,cell_set_ne _ _ _ o _ n1,cell_set_ne _ _ _ o _ n2,cell_set_ne _ _ _ o _ n3,cell_set_ne _ _ _ o _ n4,cell_set_ne _ _ _ o _ n5,cell_set_ne _ _ _ o _ n6,cell_set_ne _ _ _ o _ n7]
    ·exact (show Chg (fun b => b = w.heap.size) wr _ from by (repeat (first | with_reducible exact hq1 | with_reducible apply Chg.drew | with_reducible refine Chg.setCell ?_ ?_ _ | exact Or.inl rfl)))
    ·intro j u hu
     have hj : j < 8:=(List.getElem?_eq_some_iff.1 hu).1
     rcases (by omega : j = 0 ∨ j = 1 ∨ j = 2 ∨ j = 3 ∨ j = 4 ∨ j = 5 ∨ j = 6 ∨ j = 7) with rfl | rfl | rfl | rfl | rfl | rfl | rfl | rfl
     all_goals (have hu:=Option.some.inj hu; subst hu; go_simp; try simp)
    ·exact (show rd true _ [.int .i64 x.head.house, .int .i64 x.head.epoch, .string x.head.root, .string x.head.prev, .int .i64 x.sig.at_, .slice nA0 x.sig.open_.length nk0, .slice nA1 x.sig.shut.length nk1, .slice nA2 x.sig.sides.length nk2] x (rng wr.heap.size w1.heap.size) from by (repeat (first | with_reducible exact hn3 | with_reducible apply rd_drewC | with_reducible refine rd_setC ?_ ?_ _ | exact (fun h => zz18))))
    ·exact fun b h => by unfold rng at h ⊢; (try simp); constructor <;> omega
    ·exact fun b h => by unfold rng at h; exact h.1
   case measure => simp [intOf]; omega
  ·have hke : k = xs.length:=by omega
   go_wp2
   go_ret; subst hke; exact ⟨some ⟨w.heap.size,0,none⟩,xs.length,rfl,Nat.le_refl _,by unfold maxLen; omega,by simpa using hrow,hb⟩
theorem to_Pair (x : Pair) (w : World) (cs : List Value) (S : Blks) (hx : rd false w cs x S) (hsz : x.sz ≤ 1048576) :
  Calls Tryz.prog 97 #[.agg cs.toArray] w fun e w' => ∃ cs',e = .returned (.agg cs'.toArray) ∧ rd true w' cs' x (rng w.heap.size w'.heap.size) ∧ Below w.heap.size w w':=by
 obtain ⟨A0,k0,S0,A1,k1,S1,A2,k2,S2,A3,k3,S3,A4,k4,S4,A5,k5,S5,rfl,f0,f1,f2,f3,f4,f8,f9,f10,f11,f12,a0,b0,r0,s0,a1,b1,r1,s1,a2,b2,r2,s2,a3,b3,r3,s3,a4,b4,r4,s4,a5,b5,r5,s5,pw⟩:=Pair.open hx
 clear hx
 unfold Pair.sz at hsz
 simp only [Pair.cs]
 go_enter Tryz.func97,Tryz.ntmps97
 go_wp2_with (fail)
 refine (to_Seal x.a _ _ S (Seal.mk' (m:=false) f0 f1 f2 f3 f4 a0 b0 (r0.later zz5) s0 a1 b1 (r1.later zz5) s1 a2 b2 (r2.later zz5) s2 zz17) zz4).mono ?_
 rintro e1 w1 ⟨cs1,rfl,hr1,hb1⟩
 obtain ⟨nA0,nk0,nS0,nA1,nk1,nS1,nA2,nk2,nS2,rfl,_,_,_,_,_,na0,nb0,nr0,ns0,na1,nb1,nr1,ns1,na2,nb2,nr2,ns2,pw1⟩:=Seal.open hr1
 replace pw1:=zd (pw1 rfl)
 simp only [Seal.cs]
 have hB1 : Below w.heap.size w w1:=by refine Below.trans (b:=_) ?_ (hb1.mono ?_) <;> exact zz5
 have hz1 : w.heap.size + 3 ≤ w1.heap.size:=zz28
 have hc1:=fun o => hb1.cell (p:=⟨w.heap.size,o,none⟩) zz0
 have hd1:=fun o => hb1.cell (p:=⟨w.heap.size + 1,o,none⟩) zz0
 have he1:=fun o => hb1.cell (p:=⟨w.heap.size + 2,o,none⟩) zz0
 have hfd1:=fun o => hb1.frozen (p:=⟨w.heap.size + 1,o,none⟩) zz0
 have hfe1:=fun o => hb1.frozen (p:=⟨w.heap.size + 2,o,none⟩) zz0
 have hw1:=hb1.size
 (try simp at hw1)
 replace nr0:=(nr0.mono (S':=fun b => nS0 b ∧ rng (w.heap.size + 3) w1.heap.size b) (fun b h => ⟨h,by have:=ns0 b h; unfold rng at this ⊢; (try simp at this); omega⟩))
 replace nr1:=(nr1.mono (S':=fun b => nS1 b ∧ rng (w.heap.size + 3) w1.heap.size b) (fun b h => ⟨h,by have:=ns1 b h; unfold rng at this ⊢; (try simp at this); omega⟩))
 replace nr2:=(nr2.mono (S':=fun b => nS2 b ∧ rng (w.heap.size + 3) w1.heap.size b) (fun b h => ⟨h,by have:=ns2 b h; unfold rng at this ⊢; (try simp at this); omega⟩))
 go_wp2_with (fail)
 refine (to_Seal x.b _ _ S (Seal.mk' (m:=false) f8 f9 f10 f11 f12 a3 b3 (r3.later (by have zh:=hB1; exact zz2)) s3 a4 b4 (r4.later (by have zh:=hB1; exact zz2)) s4 a5 b5 (r5.later (by have zh:=hB1; exact zz2)) s5 zz17) zz4).mono ?_
 rintro e2 w2 ⟨cs2,rfl,hr2,hb2⟩
 obtain ⟨nA3,nk3,nS3,nA4,nk4,nS4,nA5,nk5,nS5,rfl,_,_,_,_,_,na3,nb3,nr3,ns3,na4,nb4,nr4,ns4,na5,nb5,nr5,ns5,pw2⟩:=Seal.open hr2
 replace pw2:=zd (pw2 rfl)
 simp only [Seal.cs]
 have hB2 : Below w.heap.size w w2:=by have zh:=hB1; refine Below.trans (b:=_) ?_ (hb2.mono ?_) <;> exact zz2
 have hz2 : w.heap.size + 3 ≤ w2.heap.size:=zz35
 have hc2:=fun o => hb2.cell (p:=⟨w.heap.size,o,none⟩) zz0
 have hd2:=fun o => hb2.cell (p:=⟨w.heap.size + 1,o,none⟩) zz0
 have he2:=fun o => hb2.cell (p:=⟨w.heap.size + 2,o,none⟩) zz0
 have hfd2:=fun o => hb2.frozen (p:=⟨w.heap.size + 1,o,none⟩) zz0
 have hfe2:=fun o => hb2.frozen (p:=⟨w.heap.size + 2,o,none⟩) zz0
 have hw2:=hb2.size
 (try simp at hw2)
 have nr0_2:=Row.later (show Row true _ nA0 nk0 x.a.sig.open_ (fun b => nS0 b ∧ rng (w.heap.size + 3) w1.heap.size b) from by have zh:=nr0; exact zz6) hb2
 have nr1_2:=Row.later (show Row true _ nA1 nk1 x.a.sig.shut (fun b => nS1 b ∧ rng (w.heap.size + 3) w1.heap.size b) from by have zh:=nr1; exact zz6) hb2
 have nr2_2:=Row.later (show Row true _ nA2 nk2 x.a.sig.sides (fun b => nS2 b ∧ rng (w.heap.size + 3) w1.heap.size b) from by have zh:=nr2; exact zz6) hb2
 replace nr3:=(nr3.mono (S':=fun b => nS3 b ∧ rng (w1.heap.size) w2.heap.size b) (fun b h => ⟨h,by have:=ns3 b h; unfold rng at this ⊢; (try simp at this); omega⟩))
 replace nr4:=(nr4.mono (S':=fun b => nS4 b ∧ rng (w1.heap.size) w2.heap.size b) (fun b h => ⟨h,by have:=ns4 b h; unfold rng at this ⊢; (try simp at this); omega⟩))
 replace nr5:=(nr5.mono (S':=fun b => nS5 b ∧ rng (w1.heap.size) w2.heap.size b) (fun b h => ⟨h,by have:=ns5 b h; unfold rng at this ⊢; (try simp at this); omega⟩))
 go_wp2
 refine bodyPost_ret (v:=.agg #[.int .i64 x.a.head.house, .int .i64 x.a.head.epoch, .string x.a.head.root, .string x.a.head.prev, .int .i64 x.a.sig.at_, .slice nA0 x.a.sig.open_.length nk0, .slice nA1 x.a.sig.shut.length nk1, .slice nA2 x.a.sig.sides.length nk2, .int .i64 x.b.head.house, .int .i64 x.b.head.epoch, .string x.b.head.root, .string x.b.head.prev, .int .i64 x.b.sig.at_, .slice nA3 x.b.sig.open_.length nk3, .slice nA4 x.b.sig.shut.length nk4, .slice nA5 x.b.sig.sides.length nk5]) (by simp [results,Tryz.results97,go_sem,hd2,he2,hd1,he1]) rfl ⟨[.int .i64 x.a.head.house, .int .i64 x.a.head.epoch, .string x.a.head.root, .string x.a.head.prev, .int .i64 x.a.sig.at_, .slice nA0 x.a.sig.open_.length nk0, .slice nA1 x.a.sig.shut.length nk1, .slice nA2 x.a.sig.sides.length nk2, .int .i64 x.b.head.house, .int .i64 x.b.head.epoch, .string x.b.head.root, .string x.b.head.prev, .int .i64 x.b.sig.at_, .slice nA3 x.b.sig.open_.length nk3, .slice nA4 x.b.sig.shut.length nk4, .slice nA5 x.b.sig.sides.length nk5],rfl,?_,by have zh:=hB2; exact zz2⟩
 exact Pair.mk' (m:=true) (x:=x) f0 f1 f2 f3 f4 na0 nb0 (show Row true _ nA0 nk0 x.a.sig.open_ (fun b => nS0 b ∧ rng (w.heap.size + 3) w1.heap.size b) from by have zh:=nr0_2; exact zz6) (fun b h => zz41) na1 nb1 (show Row true _ nA1 nk1 x.a.sig.shut (fun b => nS1 b ∧ rng (w.heap.size + 3) w1.heap.size b) from by have zh:=nr1_2; exact zz6) (fun b h => zz41) na2 nb2 (show Row true _ nA2 nk2 x.a.sig.sides (fun b => nS2 b ∧ rng (w.heap.size + 3) w1.heap.size b) from by have zh:=nr2_2; exact zz6) (fun b h => zz41) f8 f9 f10 f11 f12 na3 nb3 (show Row true _ nA3 nk3 x.b.sig.open_ (fun b => nS3 b ∧ rng (w1.heap.size) w2.heap.size b) from by have zh:=nr3; exact zz6) (fun b h => zz41) na4 nb4 (show Row true _ nA4 nk4 x.b.sig.shut (fun b => nS4 b ∧ rng (w1.heap.size) w2.heap.size b) from by have zh:=nr4; exact zz6) (fun b h => zz41) na5 nb5 (show Row true _ nA5 nk5 x.b.sig.sides (fun b => nS5 b ∧ rng (w1.heap.size) w2.heap.size b) from by have zh:=nr5; exact zz6) (fun b h => zz41) (fun _ => pwmk6 (disj_sub (pwget3_0_1 pw1.out) (fun b (x : _ ∧ _) => x.1) (fun b (x : _ ∧ _) => x.1)) (disj_sub (pwget3_0_2 pw1.out) (fun b (x : _ ∧ _) => x.1) (fun b (x : _ ∧ _) => x.1)) (fun b h1 h2 => zz34) (fun b h1 h2 => zz34) (fun b h1 h2 => zz34) (disj_sub (pwget3_1_2 pw1.out) (fun b (x : _ ∧ _) => x.1) (fun b (x : _ ∧ _) => x.1)) (fun b h1 h2 => zz34) (fun b h1 h2 => zz34) (fun b h1 h2 => zz34) (fun b h1 h2 => zz34) (fun b h1 h2 => zz34) (fun b h1 h2 => zz34) (disj_sub (pwget3_0_1 pw2.out) (fun b (x : _ ∧ _) => x.1) (fun b (x : _ ∧ _) => x.1)) (disj_sub (pwget3_0_2 pw2.out) (fun b (x : _ ∧ _) => x.1) (fun b (x : _ ∧ _) => x.1)) (disj_sub (pwget3_1_2 pw2.out) (fun b (x : _ ∧ _) => x.1) (fun b (x : _ ∧ _) => x.1)))
theorem info_PairS : (Tryz.prog.info? 79).map (fun i => (i.zero,i.size,i.bytes)) = some (some (.agg #[.int .i64 0, .int .i64 0, .string ⟨#[]⟩, .string ⟨#[]⟩, .int .i64 0, .slice none 0 0, .slice none 0 0, .slice none 0 0, .int .i64 0, .int .i64 0, .string ⟨#[]⟩, .string ⟨#[]⟩, .int .i64 0, .slice none 0 0, .slice none 0 0, .slice none 0 0]),16,256):=by kernel_rfl
theorem to_PairS (xs : List Pair) (w : World) (A : Option Addr) (cap : Nat) (S : Blks) (hx : Row false w A cap xs S) (hsz : szL xs ≤ 1048576) :
  Calls Tryz.prog 56 #[.slice A xs.length cap] w fun e w' => ∃ A' cap',e = .returned (.slice A' xs.length cap') ∧ xs.length ≤ cap' ∧ cap' ≤ maxLen ∧ Row true w' A' cap' xs (rng w.heap.size w'.heap.size) ∧ Below w.heap.size w w':=by
 have hl : xs.length ≤ 1048576:=by have:=szT_le xs 0; omega
 obtain ⟨i0,hi0,hz0,hz1,hz2⟩:=info_parts info_PairS
 have hmk:=fun W => run_make_rowN (P:=Tryz.prog) 31 79 i0 _ Tryz.underlying31 hi0 hz0 .i64 .i64 xs.length xs.length (Nat.le_refl _) (by rw [hz2]; omega) zz4 W
 rw [hz1] at hmk
 clear hi0 hz0 hz1 hz2
 have hm0:=Row.made (α:=Pair) (N:=16) w xs.length (#[.int .i64 0, .int .i64 0, .string ByteArray.empty, .string ByteArray.empty, .int .i64 0, .slice none 0 0, .slice none 0 0, .slice none 0 0, .int .i64 0, .int .i64 0, .string ByteArray.empty, .string ByteArray.empty, .int .i64 0, .slice none 0 0, .slice none 0 0, .slice none 0 0] : Array Value) rfl rfl
 go_enter Tryz.func56,Tryz.ntmps56
 go_wp2
 go_loopw [4] (fun i wr => ∃ k : Nat,k ≤ xs.length ∧ i = .int .i64 k ∧ Below w.heap.size w wr ∧ w.heap.size + 1 ≤ wr.heap.size ∧ Row true wr (some ⟨w.heap.size,0,none⟩) xs.length (xs.take k ++ List.replicate (xs.length - k) (Mk.z : Pair)) (rng w.heap.size wr.heap.size)) (fun i _ => xs.length - (intOf i).toNat)
 case atStart => exact ⟨0,Nat.zero_le _,rfl,zz5,zz17,by have h:=hm0; (try simp only [Nat.mul_one] at h); simp only [World.size_alloc]; exact h⟩
 case round =>
  obtain ⟨k,hkk,rfl,hb,hz,hrow⟩:=hrel
  clear hm0
  by_cases hlt : k < xs.length
  ·have hne : xs ≠ []:=by rintro rfl; simp at hlt
   obtain ⟨b1,o1,rfl,hS1,T1,hT1,_,he1⟩:=hx hne
   obtain ⟨c1,ha1,hr1⟩:=he1 k hlt
   have hl1:=ha1.lt zz39
   replace ha1:=ha1.keep (hb.block _ hl1)
   replace hr1:=Lay.later hr1 hb
   have hszk:=sz_le_L xs k hlt
   have hst:=zd (take_step xs (Mk.z : Pair) k hlt)
   generalize xs[k] = x at hr1 hszk hst
   rcases hrow with ⟨h_,_⟩ | ⟨g2,cur,e_,_,hh,hcz,T,hT,hd,he⟩
   ·cases h_
   cases e_
   have hsh : Shp wr w.heap.size (ty Pair) (xs.length * 16):=⟨cur,hh,hcz⟩
   have HE:=zd he; have HD:=zd (hd rfl); have HT:=zd hT
   have ho:=old_cells (N:=16) he k zz23 rfl
   clear he hd hT hh hcz he1 hx
   obtain ⟨v0,ov0⟩ : ∃ v,wr.cell? ⟨w.heap.size,k * 16,none⟩ = some v:=by have:=ho 0 zz4; simpa using this
   obtain ⟨v1,ov1⟩ : ∃ v,wr.cell? ⟨w.heap.size,k * 16 + 1,none⟩ = some v:=by have:=ho 1 zz4; simpa using this
   obtain ⟨v2,ov2⟩ : ∃ v,wr.cell? ⟨w.heap.size,k * 16 + 2,none⟩ = some v:=by have:=ho 2 zz4; simpa using this
   obtain ⟨v3,ov3⟩ : ∃ v,wr.cell? ⟨w.heap.size,k * 16 + 3,none⟩ = some v:=by have:=ho 3 zz4; simpa using this
   obtain ⟨v4,ov4⟩ : ∃ v,wr.cell? ⟨w.heap.size,k * 16 + 4,none⟩ = some v:=by have:=ho 4 zz4; simpa using this
   obtain ⟨v5,ov5⟩ : ∃ v,wr.cell? ⟨w.heap.size,k * 16 + 5,none⟩ = some v:=by have:=ho 5 zz4; simpa using this
   obtain ⟨v6,ov6⟩ : ∃ v,wr.cell? ⟨w.heap.size,k * 16 + 6,none⟩ = some v:=by have:=ho 6 zz4; simpa using this
   obtain ⟨v7,ov7⟩ : ∃ v,wr.cell? ⟨w.heap.size,k * 16 + 7,none⟩ = some v:=by have:=ho 7 zz4; simpa using this
   obtain ⟨v8,ov8⟩ : ∃ v,wr.cell? ⟨w.heap.size,k * 16 + 8,none⟩ = some v:=by have:=ho 8 zz4; simpa using this
   obtain ⟨v9,ov9⟩ : ∃ v,wr.cell? ⟨w.heap.size,k * 16 + 9,none⟩ = some v:=by have:=ho 9 zz4; simpa using this
   obtain ⟨v10,ov10⟩ : ∃ v,wr.cell? ⟨w.heap.size,k * 16 + 10,none⟩ = some v:=by have:=ho 10 zz4; simpa using this
   obtain ⟨v11,ov11⟩ : ∃ v,wr.cell? ⟨w.heap.size,k * 16 + 11,none⟩ = some v:=by have:=ho 11 zz4; simpa using this
   obtain ⟨v12,ov12⟩ : ∃ v,wr.cell? ⟨w.heap.size,k * 16 + 12,none⟩ = some v:=by have:=ho 12 zz4; simpa using this
   obtain ⟨v13,ov13⟩ : ∃ v,wr.cell? ⟨w.heap.size,k * 16 + 13,none⟩ = some v:=by have:=ho 13 zz4; simpa using this
   obtain ⟨v14,ov14⟩ : ∃ v,wr.cell? ⟨w.heap.size,k * 16 + 14,none⟩ = some v:=by have:=ho 14 zz4; simpa using this
   obtain ⟨v15,ov15⟩ : ∃ v,wr.cell? ⟨w.heap.size,k * 16 + 15,none⟩ = some v:=by have:=ho 15 zz4; simpa using this
   have hf0:=fun o => hsh.frozen o
   clear ho
   have ht:=zd hr1
   obtain ⟨eA0,ek0,eS0,eA1,ek1,eS1,eA2,ek2,eS2,eA3,ek3,eS3,eA4,ek4,eS4,eA5,ek5,eS5,rfl,ef0,ef1,ef2,ef3,ef4,ef8,ef9,ef10,ef11,ef12,ea0,eb0,er0,es0,ea1,eb1,er1,es1,ea2,eb2,er2,es2,ea3,eb3,er3,es3,ea4,eb4,er4,es4,ea5,eb5,er5,es5,epw⟩:=Pair.open hr1
   have q0:=ha1 0 _ rfl
   have q1:=ha1 1 _ rfl
   have q2:=ha1 2 _ rfl
   have q3:=ha1 3 _ rfl
   have q4:=ha1 4 _ rfl
   have q5:=ha1 5 _ rfl
   have q6:=ha1 6 _ rfl
   have q7:=ha1 7 _ rfl
   have q8:=ha1 8 _ rfl
   have q9:=ha1 9 _ rfl
   have q10:=ha1 10 _ rfl
   have q11:=ha1 11 _ rfl
   have q12:=ha1 12 _ rfl
   have q13:=ha1 13 _ rfl
   have q14:=ha1 14 _ rfl
   have q15:=ha1 15 _ rfl
   simp only [show Lay.n Pair = 16 from rfl,Nat.add_zero] at q0 q1 q2 q3 q4 q5 q6 q7 q8 q9 q10 q11 q12 q13 q14 q15
   clear ha1
   have hszx : x.sz ≤ 1048576:=by have : Mk.sz x = x.sz:=rfl; omega
   go_wp2_with (fail)
   refine (to_Pair x _ (Pair.cs x eA0 ek0 eA1 ek1 eA2 ek2 eA3 ek3 eA4 ek4 eA5 ek5) _ (Lay.later ht.out zz5) hszx).mono ?_
   rintro e1 w1 ⟨cs1,rfl,hn1,hb1⟩
   have hn2:=zd hn1
   obtain ⟨nA0,nk0,nS0,nA1,nk1,nS1,nA2,nk2,nS2,nA3,nk3,nS3,nA4,nk4,nS4,nA5,nk5,nS5,rfl,nf0,nf1,nf2,nf3,nf4,nf8,nf9,nf10,nf11,nf12,na0,nb0,nr0,ns0,na1,nb1,nr1,ns1,na2,nb2,nr2,ns2,na3,nb3,nr3,ns3,na4,nb4,nr4,ns4,na5,nb5,nr5,ns5,_⟩:=Pair.open hn1
   simp only [Pair.cs]
   have hB1 : Below w.heap.size w w1:=by have zh:=hb; refine Below.trans (b:=_) ?_ (hb1.mono ?_) <;> exact zz2
   have hz1 : wr.heap.size ≤ w1.heap.size:=zz28
   have hc1:=fun o => hb1.cell (p:=⟨w.heap.size,o,none⟩) zz0
   have hg1:=fun o => hb1.frozen (p:=⟨w.heap.size,o,none⟩) zz0
   have hsh1 : Shp w1 w.heap.size (ty Pair) (xs.length * 16):=hsh.of (hb1.block _ zz0)
   have hn3 : rd true w1 [.int .i64 x.a.head.house, .int .i64 x.a.head.epoch, .string x.a.head.root, .string x.a.head.prev, .int .i64 x.a.sig.at_, .slice nA0 x.a.sig.open_.length nk0, .slice nA1 x.a.sig.shut.length nk1, .slice nA2 x.a.sig.sides.length nk2, .int .i64 x.b.head.house, .int .i64 x.b.head.epoch, .string x.b.head.root, .string x.b.head.prev, .int .i64 x.b.sig.at_, .slice nA3 x.b.sig.open_.length nk3, .slice nA4 x.b.sig.shut.length nk4, .slice nA5 x.b.sig.sides.length nk5] x (rng wr.heap.size w1.heap.size):=Lay.mono hn2.out (fun b h => zz32)
   have hq1 : Chg (fun b => b = w.heap.size) wr w1:=(show Chg _ wr _ from by (repeat (first | with_reducible exact Chg.refl _ _ | with_reducible apply Chg.drew))).below hb1 zz0
   go_wp2
   go_roundw
   case rel =>
    refine ⟨k + 1,zz4,by go_num,by have zh:=hB1; exact zz2,by (try simp); omega,?_⟩
    rw [hst.out]
    refine Row.setU (N:=16) (T:=T) (w:=wr) (U:=(rng wr.heap.size w1.heap.size)) (cs:=[.int .i64 x.a.head.house, .int .i64 x.a.head.epoch, .string x.a.head.root, .string x.a.head.prev, .int .i64 x.a.sig.at_, .slice nA0 x.a.sig.open_.length nk0, .slice nA1 x.a.sig.shut.length nk1, .slice nA2 x.a.sig.sides.length nk2, .int .i64 x.b.head.house, .int .i64 x.b.head.epoch, .string x.b.head.root, .string x.b.head.prev, .int .i64 x.b.sig.at_, .slice nA3 x.b.sig.open_.length nk3, .slice nA4 x.b.sig.shut.length nk4, .slice nA5 x.b.sig.sides.length nk5]) rfl (by unfold rng; (try simp); omega) (fun b h => by unfold rng at h ⊢; (try simp); omega) HT.out HD.out HE.out zz23 (show Shp _ _ (ty Pair) (xs.length * 16) from by have zh:=hsh1; exact zz42) (fun o ho => ?_) ?_ ?_ ?_ ?_ ?_
    ·have n0 : o ≠ k * 16:=by intro h; apply ho; rw [h]; omega
     have n1 : o ≠ k * 16 + 1:=zz29
     have n2 : o ≠ k * 16 + 2:=zz29
     have n3 : o ≠ k * 16 + 3:=zz29
     have n4 : o ≠ k * 16 + 4:=zz29
     have n5 : o ≠ k * 16 + 5:=zz29
     have n6 : o ≠ k * 16 + 6:=zz29
     have n7 : o ≠ k * 16 + 7:=zz29
     have n8 : o ≠ k * 16 + 8:=zz29
     have n9 : o ≠ k * 16 + 9:=zz29
     have n10 : o ≠ k * 16 + 10:=zz29
     have n11 : o ≠ k * 16 + 11:=zz29
     have n12 : o ≠ k * 16 + 12:=zz29
     have n13 : o ≠ k * 16 + 13:=zz29
     have n14 : o ≠ k * 16 + 14:=zz29
     have n15 : o ≠ k * 16 + 15:=zz29
     simp only [hc1,cell_set_ne _ _ _ o _ n0,cell_set_ne _ _ _ o _ n1,cell_set_ne _ _ _ o _ n2,cell_set_ne _ _ _ o _ n3,cell_set_ne _ _ _ o _ n4,cell_set_ne _ _ _ o _ n5,cell_set_ne _ _ _ o _ n6,cell_set_ne _ _ _ o _ n7,cell_set_ne _ _ _ o _ n8,cell_set_ne _ _ _ o _ n9,cell_set_ne _ _ _ o _ n10,cell_set_ne _ _ _ o _ n11,cell_set_ne _ _ _ o _ n12,cell_set_ne _ _ _ o _ n13,cell_set_ne _ _ _ o _ n14,cell_set_ne _ _ _ o _ n15]
    ·exact (show Chg (fun b => b = w.heap.size) wr _ from by (repeat (first | with_reducible exact hq1 | with_reducible apply Chg.drew | with_reducible refine Chg.setCell ?_ ?_ _ | exact Or.inl rfl)))
    ·intro j u hu
     have hj : j < 16:=(List.getElem?_eq_some_iff.1 hu).1
     rcases (by omega : j = 0 ∨ j = 1 ∨ j = 2 ∨ j = 3 ∨ j = 4 ∨ j = 5 ∨ j = 6 ∨ j = 7 ∨ j = 8 ∨ j = 9 ∨ j = 10 ∨ j = 11 ∨ j = 12 ∨ j = 13 ∨ j = 14 ∨ j = 15) with rfl | rfl | rfl | rfl | rfl | rfl | rfl | rfl | rfl | rfl | rfl | rfl | rfl | rfl | rfl | rfl
     all_goals (have hu:=Option.some.inj hu; subst hu; go_simp; try simp)
    ·exact (show rd true _ [.int .i64 x.a.head.house, .int .i64 x.a.head.epoch, .string x.a.head.root, .string x.a.head.prev, .int .i64 x.a.sig.at_, .slice nA0 x.a.sig.open_.length nk0, .slice nA1 x.a.sig.shut.length nk1, .slice nA2 x.a.sig.sides.length nk2, .int .i64 x.b.head.house, .int .i64 x.b.head.epoch, .string x.b.head.root, .string x.b.head.prev, .int .i64 x.b.sig.at_, .slice nA3 x.b.sig.open_.length nk3, .slice nA4 x.b.sig.shut.length nk4, .slice nA5 x.b.sig.sides.length nk5] x (rng wr.heap.size w1.heap.size) from by (repeat (first | with_reducible exact hn3 | with_reducible apply rd_drewC | with_reducible refine rd_setC ?_ ?_ _ | exact (fun h => zz18))))
    ·exact fun b h => by unfold rng at h ⊢; (try simp); constructor <;> omega
    ·exact fun b h => by unfold rng at h; exact h.1
   case measure => simp [intOf]; omega
  ·have hke : k = xs.length:=by omega
   go_wp2
   go_ret; subst hke; exact ⟨some ⟨w.heap.size,0,none⟩,xs.length,rfl,Nat.le_refl _,by unfold maxLen; omega,by simpa using hrow,hb⟩
theorem to_Auditor (x : Auditor) (w : World) (cs : List Value) (S : Blks) (hx : rd false w cs x S) (hsz : x.sz ≤ 1048576) :
  Calls Tryz.prog 19 #[.agg cs.toArray] w fun e w' => ∃ cs',e = .returned (.agg cs'.toArray) ∧ rd true w' cs' x (rng w.heap.size w'.heap.size) ∧ Below w.heap.size w w':=by
 obtain ⟨A0,k0,S0,A1,k1,S1,A2,k2,S2,A3,k3,S3,rfl,f0,a0,b0,r0,s0,a1,b1,r1,s1,a2,b2,r2,s2,a3,b3,r3,s3,pw⟩:=Auditor.open hx
 clear hx
 unfold Auditor.sz at hsz
 simp only [Auditor.cs]
 go_enter Tryz.func19,Tryz.ntmps19
 go_wp2_with (fail)
 refine (to_Disk x.disk _ _ S (Disk.mk' (m:=false) a0 b0 (r0.later zz5) s0) zz4).mono ?_
 rintro e1 w1 ⟨cs1,rfl,hr1,hb1⟩
 obtain ⟨nA0,nk0,nS0,rfl,na0,nb0,nr0,ns0⟩:=Disk.open hr1
 simp only [Disk.cs]
 have hB1 : Below w.heap.size w w1:=by refine Below.trans (b:=_) ?_ (hb1.mono ?_) <;> exact zz5
 have hz1 : w.heap.size + 3 ≤ w1.heap.size:=zz28
 have hc1:=fun o => hb1.cell (p:=⟨w.heap.size,o,none⟩) zz0
 have hd1:=fun o => hb1.cell (p:=⟨w.heap.size + 1,o,none⟩) zz0
 have he1:=fun o => hb1.cell (p:=⟨w.heap.size + 2,o,none⟩) zz0
 have hfd1:=fun o => hb1.frozen (p:=⟨w.heap.size + 1,o,none⟩) zz0
 have hfe1:=fun o => hb1.frozen (p:=⟨w.heap.size + 2,o,none⟩) zz0
 have hw1:=hb1.size
 (try simp at hw1)
 replace nr0:=(nr0.mono (S':=fun b => nS0 b ∧ rng (w.heap.size + 3) w1.heap.size b) (fun b h => ⟨h,by have:=ns0 b h; unfold rng at this ⊢; (try simp at this); omega⟩))
 go_wp2_with (fail)
 refine (to_StringS x.pool _ A1 k1 S1 (r1.later (by have zh:=hB1; exact zz2)) zz4).mono ?_
 rintro e2 w2 ⟨nA1,nk1,rfl,na1,nb1,nr1,hb2⟩
 have hB2 : Below w.heap.size w w2:=by have zh:=hB1; refine Below.trans (b:=_) ?_ (hb2.mono ?_) <;> exact zz2
 have hz2 : w.heap.size + 3 ≤ w2.heap.size:=zz35
 have hc2:=fun o => hb2.cell (p:=⟨w.heap.size,o,none⟩) zz0
 have hd2:=fun o => hb2.cell (p:=⟨w.heap.size + 1,o,none⟩) zz0
 have he2:=fun o => hb2.cell (p:=⟨w.heap.size + 2,o,none⟩) zz0
 have hfd2:=fun o => hb2.frozen (p:=⟨w.heap.size + 1,o,none⟩) zz0
 have hfe2:=fun o => hb2.frozen (p:=⟨w.heap.size + 2,o,none⟩) zz0
 have hw2:=hb2.size
 (try simp at hw2)
 have nr0_2:=Row.later (show Row true _ nA0 nk0 x.disk.files (fun b => nS0 b ∧ rng (w.heap.size + 3) w1.heap.size b) from by have zh:=nr0; exact zz6) hb2
 have nS1_ : True:=trivial
 replace nr1:=nr1.mono (S':=rng (w1.heap.size) w2.heap.size) (fun b h => zz32)
 go_wp2_with (fail)
 refine (to_SealS x.pins _ A2 k2 S2 (r2.later (by have zh:=hB2; exact zz2)) zz4).mono ?_
 rintro e3 w3 ⟨nA2,nk2,rfl,na2,nb2,nr2,hb3⟩
 have hB3 : Below w.heap.size w w3:=by have zh:=hB2; refine Below.trans (b:=_) ?_ (hb3.mono ?_) <;> exact zz2
 have hz3 : w.heap.size + 3 ≤ w3.heap.size:=by have:=hb3.size; (try simp at this); omega
 have hc3:=fun o => hb3.cell (p:=⟨w.heap.size,o,none⟩) zz0
 have hd3:=fun o => hb3.cell (p:=⟨w.heap.size + 1,o,none⟩) zz0
 have he3:=fun o => hb3.cell (p:=⟨w.heap.size + 2,o,none⟩) zz0
 have hfd3:=fun o => hb3.frozen (p:=⟨w.heap.size + 1,o,none⟩) zz0
 have hfe3:=fun o => hb3.frozen (p:=⟨w.heap.size + 2,o,none⟩) zz0
 have hw3:=hb3.size
 (try simp at hw3)
 have nr0_3:=Row.later (show Row true _ nA0 nk0 x.disk.files (fun b => nS0 b ∧ rng (w.heap.size + 3) w1.heap.size b) from by have zh:=nr0_2; exact zz6) hb3
 have nr1_3:=Row.later (show Row true _ nA1 nk1 x.pool (rng (w1.heap.size) w2.heap.size) from by have zh:=nr1; exact zz6) hb3
 have nS2_ : True:=trivial
 replace nr2:=nr2.mono (S':=rng (w2.heap.size) w3.heap.size) (fun b h => zz32)
 go_wp2_with (fail)
 refine (to_PairS x.pairs _ A3 k3 S3 (r3.later (by have zh:=hB3; exact zz2)) zz4).mono ?_
 rintro e4 w4 ⟨nA3,nk3,rfl,na3,nb3,nr3,hb4⟩
 have hB4 : Below w.heap.size w w4:=by have zh:=hB3; refine Below.trans (b:=_) ?_ (hb4.mono ?_) <;> exact zz2
 have hz4 : w.heap.size + 3 ≤ w4.heap.size:=by have:=hb4.size; (try simp at this); omega
 have hc4:=fun o => hb4.cell (p:=⟨w.heap.size,o,none⟩) zz0
 have hd4:=fun o => hb4.cell (p:=⟨w.heap.size + 1,o,none⟩) zz0
 have he4:=fun o => hb4.cell (p:=⟨w.heap.size + 2,o,none⟩) zz0
 have hfd4:=fun o => hb4.frozen (p:=⟨w.heap.size + 1,o,none⟩) zz0
 have hfe4:=fun o => hb4.frozen (p:=⟨w.heap.size + 2,o,none⟩) zz0
 have hw4:=hb4.size
 (try simp at hw4)
 have nr0_4:=Row.later (show Row true _ nA0 nk0 x.disk.files (fun b => nS0 b ∧ rng (w.heap.size + 3) w1.heap.size b) from by have zh:=nr0_3; exact zz6) hb4
 have nr1_4:=Row.later (show Row true _ nA1 nk1 x.pool (rng (w1.heap.size) w2.heap.size) from by have zh:=nr1_3; exact zz6) hb4
 have nr2_4:=Row.later (show Row true _ nA2 nk2 x.pins (rng (w2.heap.size) w3.heap.size) from by have zh:=nr2; exact zz6) hb4
 have nS3_ : True:=trivial
 replace nr3:=nr3.mono (S':=rng (w3.heap.size) w4.heap.size) (fun b h => zz32)
 go_wp2
 refine bodyPost_ret (v:=.agg #[.int .i64 x.house, .bool x.up, .slice nA0 x.disk.files.length nk0, .slice nA1 x.pool.length nk1, .slice nA2 x.pins.length nk2, .slice nA3 x.pairs.length nk3]) (by simp [results,Tryz.results19,go_sem,hd4,he4,hd3,he3,hd2,he2,hd1,he1]) rfl ⟨[.int .i64 x.house, .bool x.up, .slice nA0 x.disk.files.length nk0, .slice nA1 x.pool.length nk1, .slice nA2 x.pins.length nk2, .slice nA3 x.pairs.length nk3],rfl,?_,by have zh:=hB4; exact zz2⟩
 exact Auditor.mk' (m:=true) (x:=x) f0 na0 nb0 (show Row true _ nA0 nk0 x.disk.files (fun b => nS0 b ∧ rng (w.heap.size + 3) w1.heap.size b) from by have zh:=nr0_4; exact zz6) (fun b h => zz41) na1 nb1 (show Row true _ nA1 nk1 x.pool (rng (w1.heap.size) w2.heap.size) from by have zh:=nr1_4; exact zz6) (fun b h => by unfold rng at h ⊢; simp; omega) na2 nb2 (show Row true _ nA2 nk2 x.pins (rng (w2.heap.size) w3.heap.size) from by have zh:=nr2_4; exact zz6) (fun b h => by unfold rng at h ⊢; simp; omega) na3 nb3 (show Row true _ nA3 nk3 x.pairs (rng (w3.heap.size) w4.heap.size) from by have zh:=nr3; exact zz6) (fun b h => by unfold rng at h ⊢; simp; omega) (fun _ => pwmk4 (fun b h1 h2 => by replace h1:=h1.2; unfold rng at h1 h2; omega) (fun b h1 h2 => by replace h1:=h1.2; unfold rng at h1 h2; omega) (fun b h1 h2 => by replace h1:=h1.2; unfold rng at h1 h2; omega) (fun b h1 h2 => by unfold rng at h1 h2; omega) (fun b h1 h2 => by unfold rng at h1 h2; omega) (fun b h1 h2 => by unfold rng at h1 h2; omega))
end Go.Proofs.YtlfnmbcnehaikaaGreatDoor
