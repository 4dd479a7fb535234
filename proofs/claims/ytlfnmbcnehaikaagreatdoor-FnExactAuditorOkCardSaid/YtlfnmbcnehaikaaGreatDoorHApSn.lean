/- A part of the proof. -/
import Derived.Test.YtlfnmbcnehaikaaGreatDoorHApL21xRb
set_option linter.unusedVariables false
set_option linter.unusedSimpArgs false
set_option maxRecDepth 20000
set_option maxHeartbeats 8000000
namespace Go.Proofs.YtlfnmbcnehaikaaGreatDoor
open Go.RowKit Lay Mk
theorem getD_at {l : List ByteArray} {k : Nat} (h : k < l.length) : l.getD k ⟨#[]⟩ = l[k]:=by rw [List.getD_eq_getElem?_getD,List.getElem?_eq_getElem h,Option.getD_some]
theorem climb_even {h s : ByteArray} {a : Nat} {r : List ByteArray} (e : a % 2 = 0) : climb h a (s :: r) = climb (tagHash 3 [h,s] 16) (a / 2) r:=by rw [climb,if_pos e]
theorem climb_odd {h s : ByteArray} {a : Nat} {r : List ByteArray} (e : a % 2 ≠ 0) : climb h a (s :: r) = climb (tagHash 3 [s,h] 16) (a / 2) r:=by rw [climb,if_neg e]
theorem pair_zero {bits k : Nat} {x : Sig} (e : bitOf bits k = 0) : lockPair bits x k = [lockOf (x.open_.getD k ⟨#[]⟩),x.shut.getD k ⟨#[]⟩]:=by unfold lockPair; rw [if_pos e]
theorem pair_one {bits k : Nat} {x : Sig} (e : bitOf bits k ≠ 0) : lockPair bits x k = [x.shut.getD k ⟨#[]⟩,lockOf (x.open_.getD k ⟨#[]⟩)]:=by unfold lockPair; rw [if_neg e]
theorem impl_SigTexts (w : World) (t : ByteArray) (x : Sig) (cs : List Value) (S : Blks) (hx : rd false w cs x S) (hT : Tabs w) : Calls Tryz.prog 148 #[.string t, .agg cs.toArray] w fun e w' => ∃ A c l S',e = .returned (.slice A l.length c) ∧ l.length ≤ 1000 ∧ Row false w' A c l S' ∧ ((sigForm x && decide (t.size ≤ 200)) = false → l = []) ∧ ((sigForm x && decide (t.size ≤ 200)) = true → ∃ pre tl,l = pre ++ [tl] ∧ tl.size ≤ 20000 ∧ cutDigest tl 16 = sigRoot t x) ∧ Below w.heap.size w w':=by
 have HForm:=zd (fun W h => impl_form W x cs S (Lay.later hx h))
 have HT:=zd hT; clear hT
 obtain ⟨A0,k0,S0,A1,k1,S1,A2,k2,S2,rfl,ha,l0,m0,r0,_,l1,m1,r1,_,l2,m2,r2,_⟩:=Sig.open hx
 clear hx
 cases hok : (sigForm x && decide (t.size ≤ 200))
 ·have hemp : ∀ w',Row (α:=ByteArray) false w' none 0 [] none_:=fun w' => (row_nil w' none_).weak
  cases hf : sigForm x
  ·rw [hf] at HForm
   simp only [Sig.cs]
   simp only [Sig.cs] at HForm
   go_enter Tryz.func148,Tryz.ntmps148
   go_wp2_with (fail)
   refine (HForm.out _ ((Below.refl _ _).alloc (Nat.le_refl _) _)).mono ?_
   rintro e1 w1 ⟨rfl,hb1⟩
   go_wp2
   go_ret
   exact ⟨none,0, [],none_,rfl,zz17,hemp _,fun _ => rfl,fun h => absurd h zz17,Below.via hb1⟩
  ·rw [hf] at HForm hok
   have h200 : 200 < t.size:=by simpa using hok
   simp only [Sig.cs]
   simp only [Sig.cs] at HForm
   go_enter Tryz.func148,Tryz.ntmps148
   go_wp2_with (fail)
   refine (HForm.out _ ((Below.refl _ _).alloc (Nat.le_refl _) _)).mono ?_
   rintro e1 w1 ⟨rfl,hb1⟩
   go_wp2
   go_ret
   exact ⟨none,0, [],none_,rfl,zz17,hemp _,fun _ => rfl,fun h => absurd h zz17,Below.via hb1⟩
 have hf : sigForm x = true:=by rw [Bool.and_eq_true] at hok; exact hok.1
 have h200 : t.size ≤ 200:=by rw [Bool.and_eq_true] at hok; simpa using hok.2
 rw [hf] at HForm
 obtain ⟨⟨ha0,ha1⟩,hw0,hw1,hw2⟩:=form_parts hf
 obtain ⟨n0,z0⟩:=wide_at hw0
 obtain ⟨n1,z1⟩:=wide_at hw1
 obtain ⟨n2,z2⟩:=wide_at hw2
 have HLok:=zd (locks_ok (bits:=signBits t) hf)
 have HRoot : Hid (sigRoot t x = climb (tagHash 6 (locksTo (signBits t) x 8) 16) x.at_.toNat x.sides):=zd rfl
 have hbl:=signBits_lt t
 obtain ⟨at_,op,sh,si⟩:=x
 obtain ⟨a,rfl⟩ : ∃ a : Nat,at_ = a:=⟨at_.toNat,by simp only at ha0; omega⟩
 simp only at ha l0 m0 r0 l1 m1 r1 l2 m2 r2 ha0 ha1 hw0 hw1 hw2 n0 z0 n1 z1 n2 z2
 simp only [Sig.cs]
 simp only [Sig.cs] at HForm
 rw [n0,n1,n2] at HForm
 rw [n0,n1,n2]
 go_enter Tryz.func148,Tryz.ntmps148
 have hV : ∀ v,v = w.alloc (.cells #[.int .i64 (a : Int), .slice A0 8 k0, .slice A1 8 k1, .slice A2 4 k2] 74) → Below w.heap.size w v ∧ v.cell? ⟨w.heap.size,0,none⟩ = some (.int .i64 (a : Int)) ∧ v.cell? ⟨w.heap.size,1,none⟩ = some (.slice A0 8 k0) ∧ v.cell? ⟨w.heap.size,2,none⟩ = some (.slice A1 8 k1) ∧ v.cell? ⟨w.heap.size,3,none⟩ = some (.slice A2 4 k2) ∧ w.heap.size < v.heap.size:=by
  rintro v rfl
  exact ⟨(Below.refl _ _).alloc (Nat.le_refl _) _,ya2 _ _ _ _ _ rfl,ya2 _ _ _ _ _ rfl,ya2 _ _ _ _ _ rfl,ya2 _ _ _ _ _ rfl,zz17⟩
 go_wp2_with (fail)
 refine (HForm.out _ ((Below.refl _ _).alloc (Nat.le_refl _) _)).mono ?_
 rintro e1 w1 ⟨rfl,hb1⟩
 obtain ⟨hBv,c0,c1,c2,c3,hsz⟩:=hV _ rfl
 obtain ⟨v,hv⟩ : ∃ v,w.alloc (.cells #[.int .i64 (a : Int), .slice A0 8 k0, .slice A1 8 k1, .slice A2 4 k2] 74) = v:=⟨_,rfl⟩
 rw [hv] at hBv c0 c1 c2 c3 hsz hb1
 clear hv hV HForm
 replace c0:=(hb1.cell (p:=⟨w.heap.size,0,none⟩) hsz).trans c0
 replace c1:=(hb1.cell (p:=⟨w.heap.size,1,none⟩) hsz).trans c1
 replace c2:=(hb1.cell (p:=⟨w.heap.size,2,none⟩) hsz).trans c2
 replace c3:=(hb1.cell (p:=⟨w.heap.size,3,none⟩) hsz).trans c3
 have hB1 : Below w.heap.size w w1:=hBv.trans (hb1.mono (Nat.le_of_lt hsz))
 have hs1 : w.heap.size < w1.heap.size:=Nat.lt_of_lt_of_le hsz hb1.size
 clear hBv hb1 hsz
 have hmf : ∀ (fn : Fn) (first cap : Array Value) (w : World),(Instr.makeFunc fn first cap).run Tryz.prog w = .ok (.func fn first cap) w:=fun _ _ _ _ => rfl
 have q0 : Row false w1 A0 k0 op S0:=Row.later r0 hB1
 have q1 : Row false w1 A1 k1 sh S1:=Row.later r1 hB1
 have q2 : Row false w1 A2 k2 si S2:=Row.later r2 hB1
 clear r0 r1 r2 l0 l1 l2 m0 m1 m2 hw0 hw1 hw2
 go_wp2_with (fail)
 refine (impl_SignBitsOf _ t h200 (HT.out.later (hB1.alloc hB1.size _))).mono ?_
 rintro e2 w2 ⟨rfl,hb2⟩
 obtain ⟨bits,hbits⟩ : ∃ b,signBits t = b:=⟨_,rfl⟩
 rw [hbits] at hbl HLok HRoot ⊢
 clear hbits
 have hg2:=(One.new w1 29 (.slice none 0 0)).later hb2
 have hB2 : Below w1.heap.size w1 w2:=Below.via hb2
 have hz2 : w1.heap.size < w2.heap.size:=Nat.lt_of_lt_of_le zz17 hb2.size
 obtain ⟨g,hg⟩ : ∃ g,w1.heap.size = g:=⟨_,rfl⟩
 simp only [hg] at hg2 hB2 hz2 hs1 ⊢
 clear hb2
 have H2:=zd hB2; have H1:=zd hB1; have HG2:=zd hg2; have HG:=zd hg
 have hgw : w.heap.size ≤ g:=Nat.le_of_lt hs1
 clear hB2 hB1 hg2 hg
 go_wp2
 go_loopw [6,25] (fun u i wr => ∃ (k : Nat) (L ys : List ByteArray) (A : Option Addr) (c : Nat) (Ao : Option Addr) (co : Nat) (Sa Sb : Blks),k ≤ 8 ∧ i = .int .i64 k ∧ u = .slice A L.length c ∧ Hid (L = locksTo bits ⟨(a : Int),op,sh,si⟩ k) ∧ L.length ≤ 2 * k ∧ L.length ≤ c ∧ c ≤ maxLen ∧ Hid (Row true wr A c L Sa) ∧ ys.length ≤ k ∧ Hid (One wr g 29 (.slice Ao ys.length co)) ∧ ys.length ≤ co ∧ co ≤ maxLen ∧ Hid (Row true wr Ao co ys Sb) ∧ Hid (disj Sa Sb) ∧ Hid (∀ b,Sa b → g < b ∧ b < wr.heap.size) ∧ Hid (∀ b,Sb b → g < b ∧ b < wr.heap.size) ∧ Hid (Below g w1 wr) ∧ g < wr.heap.size) (fun _ i _ => 8 - (intOf i).toNat)
 case atStart => exact ⟨0, [], [],none,0,none,0,none_,none_,zz4,rfl,rfl,zd rfl,zz17,zz17,zz44,zd (row_nil _ _),zz17,zd HG2.out,zz17,zz44,zd (row_nil _ _),zd (disj_none_ _),zd (fun b h => h.elim),zd (fun b h => h.elim),zd H2.out,hz2⟩
 case round =>
  clear HG2 H2 hz2
  obtain ⟨k,L,ys,A,c,Ao,co,Sa,Sb,hk,rfl,rfl,HL,hLk,hLc,hcm,HRa,hyk,HG2,hyc,hcom,HRb,HD,HSa,HSb,HB,hgz⟩:=hrel
  by_cases hlt : k < 8
  ·obtain ⟨b1,o1,rfl,hl1,f0,s0⟩:=Row.str q0 (i:=k) (by rw [n0]; exact hlt)
   obtain ⟨b2,o2,rfl,hl2,f1,s1⟩:=Row.str q1 (i:=k) (by rw [n1]; exact hlt)
   have g0:=HB.out.cell (p:=⟨b1,o1 + k,none⟩) (by rw [← HG.out]; exact hl1)
   have g1:=HB.out.cell (p:=⟨w.heap.size,1,none⟩) hs1
   rw [f0] at g0
   rw [c1] at g1
   have hosz:=z0 _ (List.getElem_mem (show k < op.length by rw [n0]; exact hlt))
   have hssz:=z1 _ (List.getElem_mem (show k < sh.length by rw [n1]; exact hlt))
   have HP0 : Hid (bitOf bits k = 0 → locksTo bits ⟨(a : Int),op,sh,si⟩ (k + 1) = L ++ [lockOf (op[k]'(show k < op.length by rw [n0]; exact hlt)),sh[k]'(show k < sh.length by rw [n1]; exact hlt)]):=zd (fun e => by rw [locksTo, ← HL.out,pair_zero e,getD_at (show k < op.length by rw [n0]; exact hlt),getD_at (show k < sh.length by rw [n1]; exact hlt)])
   have HP1 : Hid (bitOf bits k ≠ 0 → locksTo bits ⟨(a : Int),op,sh,si⟩ (k + 1) = L ++ [sh[k]'(show k < sh.length by rw [n1]; exact hlt),lockOf (op[k]'(show k < op.length by rw [n0]; exact hlt))]):=zd (fun e => by rw [locksTo, ← HL.out,pair_one e,getD_at (show k < op.length by rw [n0]; exact hlt),getD_at (show k < sh.length by rw [n1]; exact hlt)])
   obtain ⟨y,hy⟩ : ∃ y,op[k]'(show k < op.length by rw [n0]; exact hlt) = y:=⟨_,rfl⟩
   obtain ⟨z,hz⟩ : ∃ z,sh[k]'(show k < sh.length by rw [n1]; exact hlt) = z:=⟨_,rfl⟩
   rw [hy] at hosz HP0 HP1
   simp only [hy] at g0
   rw [hz] at hssz HP0 HP1
   simp only [hz] at f1
   have HF1:=zd f1
   clear hy hz f0 f1 s0 s1 hl1
   have hym : y.size ≤ maxLen:=ml (Nat.le_of_eq hosz) zz4
   have hzm : z.size ≤ maxLen:=ml (Nat.le_of_eq hssz) zz4
   have HTok:=zd (tag_one (kind:=6) (s:=y) zz44 zz4)
   have hlk : (lockOf y).size = 16:=lockOf_size zz4
   have HW0:=zd ((H1.out.trans (HB.out.mono hgw)))
   go_wp2_with (fail)
   refine (impl_SigAdd _ 6 zz30 [y] _ _ _ (row_one wr y hym _) zz17 g ys Ao co Sb (HG2.out.alloc _) hyc hcom (Row.allocC HRb.out _) (fun b hb => (HSb.out b hb).1) zz4 w HT.out (HW0.out.alloc HW0.out.size _) hgw).mono ?_
   rintro e5 w5 ⟨A5,c5,rfl,hg5,hy5,hc5,hr5,hch5⟩
   rw [tagHash_cut HTok.out,show tagHash 6 [y] 16 = lockOf y from rfl]
   have hz5:=hch5.size
   rw [World.size_alloc] at hz5
   have hra5:=(Row.allocC HRa.out (.cells #[.string y] 9)).chg hch5 (fun b hb hc => by
    rcases hc with rfl | hc
    ·exact absurd (HSa.out _ hb).1 (Nat.lt_irrefl _)
    ·exact HD.out b hb hc)
   have hB5 : Below g w1 w5:=(HB.out.alloc zz48 (.cells #[.string y] 9)).trans (hch5.to_below zz55 (fun b hb => by rcases hb with rfl | hb; exact Nat.le_refl _; exact Nat.le_of_lt (HSb.out b hb).1))
   obtain ⟨lk,hlkk⟩ : ∃ l,lockOf y = l:=⟨_,rfl⟩
   rw [hlkk] at HP0 HP1 hlk ⊢
   have hlm : lk.size ≤ maxLen:=ml (Nat.le_of_eq hlk) zz4
   clear hlkk g0 g1
   obtain ⟨tt,htt⟩ : ∃ l,tagText 6 [y] = l:=⟨_,rfl⟩
   rw [htt] at hr5
   clear htt HTok
   have HR5:=zd hr5; have HRA:=zd hra5; have HC5:=zd hch5; have HG5:=zd hg5; have HB5:=zd hB5
   have d1:=hB5.cell (p:=⟨w.heap.size,2,none⟩) hs1
   rw [c2] at d1
   have d2:=(hB5.cell (p:=⟨b2,o2 + k,none⟩) (by rw [← HG.out]; exact hl2)).trans HF1.out
   have hg5z : g < w5.heap.size:=zz4
   clear hr5 hra5 hch5 hg5 hB5 HF1
   by_cases hbit : bitOf bits k = 0
   ·have hbz : ((bitOf bits k : Int) == 0) = true:=by rw [beq_iff_eq]; omega
    have HN:=zd (HP0.out hbit)
    go_wp2_with (first | (go_at_call 187; refine (impl_BitOf _ bits hbl k hlt).mono ?_; rintro e9 w9 ⟨rfl,rfl⟩) | (at_builtin; refine wpList_app (α:=ByteArray) (xs:=L) rfl _ _ rfl rfl rfl (Row.allocC HRA.out _) hLc hcm rfl rfl (Src.flat (row_pair w5 lk z hlm hzm _)) (disj_none_ _) zz4 ?_; intro A6 c6 w6 p1 p2 p3 p4))
    have hz6:=p4.size
    rw [World.size_alloc] at hz6
    go_roundw
    case rel =>
     refine ⟨k + 1,L ++ [lk,z],ys ++ [tt],A6,c6,A5,c5,_,_,zz4,by go_num,by rw [List.length_append]; rfl,zd HN.out.symm,zz37,by rw [List.length_append]; exact p1,p2,zd p3,zz37,zd (by rw [List.length_append]; exact (HG5.out.alloc _).chg p4 (fun h => absurd (HSa.out g h).1 (Nat.lt_irrefl _))),zz53,hc5,zd ((Row.allocC HR5.out _).chg p4 (fun b h2 h1 => ?_)),zd (fun b h1 h2 => ?_),zd (fun b h1 => ?_),zd (fun b h2 => ?_),zd ((HB5.out.alloc (by rw [← HG.out]; exact HB5.out.size) _).trans (p4.to_below zz55 (fun b hb => Nat.le_of_lt (HSa.out b hb).1))),zz4⟩
     ·unfold rng at h2; simp only [World.size_alloc] at h2
      rcases h2 with h2 | h2
      ·exact HD.out b h1 h2
      ·have:=(HSa.out b h1).2; omega
     ·unfold rng at h2; simp only [World.size_alloc] at h1 h2
      rcases h1 with h1 | h1 | h1 <;> rcases h2 with h2 | h2
      ·exact HD.out b h1 h2
      ·have:=(HSa.out b h1).2; omega
      ·exact h1.elim
      ·exact h1.elim
      ·have:=(HSb.out b h2).2; omega
      ·omega
     ·simp only [World.size_alloc] at h1
      rcases h1 with h1 | h1 | h1
      ·have:=HSa.out b h1; omega
      ·exact h1.elim
      ·omega
     ·unfold rng at h2; simp only [World.size_alloc] at h2
      rcases h2 with h2 | h2
      ·have:=HSb.out b h2; omega
      ·omega
    case measure => simp [intOf]; omega
   ·have hbz : ((bitOf bits k : Int) == 0) = false:=by rw [beq_eq_false_iff_ne]; omega
    have HN:=zd (HP1.out hbit)
    go_wp2_with (first | (go_at_call 187; refine (impl_BitOf _ bits hbl k hlt).mono ?_; rintro e9 w9 ⟨rfl,rfl⟩) | (at_builtin; refine wpList_app (α:=ByteArray) (xs:=L) rfl _ _ rfl rfl rfl (Row.allocC HRA.out _) hLc hcm rfl rfl (Src.flat (row_pair w5 z lk hzm hlm _)) (disj_none_ _) zz4 ?_; intro A6 c6 w6 p1 p2 p3 p4))
    have hz6:=p4.size
    rw [World.size_alloc] at hz6
    go_roundw
    case rel =>
     refine ⟨k + 1,L ++ [z,lk],ys ++ [tt],A6,c6,A5,c5,_,_,zz4,by go_num,by rw [List.length_append]; rfl,zd HN.out.symm,zz37,by rw [List.length_append]; exact p1,p2,zd p3,zz37,zd (by rw [List.length_append]; exact (HG5.out.alloc _).chg p4 (fun h => absurd (HSa.out g h).1 (Nat.lt_irrefl _))),zz53,hc5,zd ((Row.allocC HR5.out _).chg p4 (fun b h2 h1 => ?_)),zd (fun b h1 h2 => ?_),zd (fun b h1 => ?_),zd (fun b h2 => ?_),zd ((HB5.out.alloc (by rw [← HG.out]; exact HB5.out.size) _).trans (p4.to_below zz55 (fun b hb => Nat.le_of_lt (HSa.out b hb).1))),zz4⟩
     ·unfold rng at h2; simp only [World.size_alloc] at h2
      rcases h2 with h2 | h2
      ·exact HD.out b h1 h2
      ·have:=(HSa.out b h1).2; omega
     ·unfold rng at h2; simp only [World.size_alloc] at h1 h2
      rcases h1 with h1 | h1 | h1 <;> rcases h2 with h2 | h2
      ·exact HD.out b h1 h2
      ·have:=(HSa.out b h1).2; omega
      ·exact h1.elim
      ·exact h1.elim
      ·have:=(HSb.out b h2).2; omega
      ·omega
     ·simp only [World.size_alloc] at h1
      rcases h1 with h1 | h1 | h1
      ·have:=HSa.out b h1; omega
      ·exact h1.elim
      ·omega
     ·unfold rng at h2; simp only [World.size_alloc] at h2
      rcases h2 with h2 | h2
      ·have:=HSb.out b h2; omega
      ·omega
    case measure => simp [intOf]; omega
  ·have hke : k = 8:=by omega
   subst hke
   have HTk : Hid (tagOk 6 L = true):=zd (by rw [HL.out]; exact HLok.out)
   have HR2 : Hid (sigRoot t ⟨(a : Int),op,sh,si⟩ = climb (tagHash 6 L 16) a si):=zd (by rw [HRoot.out,HL.out]; rfl)
   have HW0:=zd ((H1.out.trans (HB.out.mono hgw)))
   go_wp2_with (fail)
   refine (impl_SigAdd _ 6 zz30 L A c _ (HRa.out.weak) zz4 g ys Ao co Sb HG2.out hyc hcom HRb.out (fun b hb => (HSb.out b hb).1) zz4 w HT.out HW0.out hgw).mono ?_
   rintro e5 w5 ⟨A5,c5,rfl,hg5,hy5,hc5,hr5,hch5⟩
   have hz5:=hch5.size
   have hh:=tagHash_size HTk.out
   have hcut:=tagHash_cut HTk.out
   have htl:=tagText_le 6 L
   rw [hcut]
   obtain ⟨h,hhe⟩ : ∃ h,tagHash 6 L 16 = h:=⟨_,rfl⟩
   rw [hhe] at HR2 hh hcut ⊢
   obtain ⟨tl,htle⟩ : ∃ tl,tagText 6 L = tl:=⟨_,rfl⟩
   rw [htle] at hcut htl hr5
   have HCut:=zd hcut
   clear hhe htle hcut HTk
   have hB5 : Below g w1 w5:=HB.out.trans (hch5.to_below zz4 (fun b hb => by rcases hb with rfl | hb; exact Nat.le_refl _; exact Nat.le_of_lt (HSb.out b hb).1))
   have HB5:=zd hB5; have HG5:=zd hg5
   have HR5:=zd (hr5.mono (S':=fun b => g < b ∧ b < w5.heap.size) (fun b hb => by
    rcases hb with hb | hb
    ·have:=HSb.out b hb; exact ⟨this.1,zz4⟩
    ·exact ⟨Nat.lt_of_lt_of_le hgz hb.1,hb.2⟩))
   have d3:=hB5.cell (p:=⟨w.heap.size,3,none⟩) hs1
   rw [c3] at d3
   clear hr5 hch5 hg5 hB5
   go_wp2
   go_loopw [11,65] (fun u i wr => ∃ (k : Nat) (h : ByteArray) (ys : List ByteArray) (tl : ByteArray) (Ao : Option Addr) (co : Nat),k ≤ 4 ∧ i = .int .i64 k ∧ u = .string h ∧ h.size = 16 ∧ Hid (sigRoot t ⟨(a : Int),op,sh,si⟩ = climb h (a / 2 ^ k) (si.drop k)) ∧ tl.size ≤ 20000 ∧ Hid (cutDigest tl 16 = h) ∧ Hid (∃ pre,ys = pre ++ [tl]) ∧ ys.length ≤ 9 + k ∧ Hid (One wr g 29 (.slice Ao ys.length co)) ∧ ys.length ≤ co ∧ co ≤ maxLen ∧ Hid (Row true wr Ao co ys (fun b => g < b ∧ b < wr.heap.size)) ∧ Hid (Below g w1 wr) ∧ g < wr.heap.size) (fun _ i _ => 4 - (intOf i).toNat)
   case atStart => exact ⟨0,h,ys ++ [tl],tl,A5,c5,zz4,rfl,rfl,hh,zd (by rw [HR2.out]; simp),htl,HCut,zd ⟨ys,rfl⟩,zz37,zd (by rw [List.length_append]; exact HG5.out),zz53,hc5,HR5,HB5,zz4⟩
   case round =>
    clear HR2 HG5 HR5 HB5 HCut hz5 d3 HRa HRb HG2 HB HW0 hh htl
    obtain ⟨k,h,ys,tl,Ao,co,hk,rfl,rfl,hh,HR2,htl,HCut,HPre,hyk,HG2,hyc,hcom,HRb,HB,hgz⟩:=hrel
    have HW0:=zd ((H1.out.trans (HB.out.mono hgw)))
    by_cases hlt : k < 4
    ·obtain ⟨b1,o1,rfl,hl1,f0,s0⟩:=Row.str q2 (i:=k) (by rw [n2]; exact hlt)
     have g0:=HB.out.cell (p:=⟨b1,o1 + k,none⟩) (by rw [← HG.out]; exact hl1)
     rw [f0] at g0
     have g1:=HB.out.cell (p:=⟨w.heap.size,0,none⟩) hs1
     rw [c0] at g1
     have hsz:=z2 _ (List.getElem_mem (show k < si.length by rw [n2]; exact hlt))
     have HD : Hid (si.drop k = si[k]'(show k < si.length by rw [n2]; exact hlt) :: si.drop (k + 1)):=zd (List.drop_eq_getElem_cons (show k < si.length by rw [n2]; exact hlt))
     obtain ⟨y,hy⟩ : ∃ y,si[k]'(show k < si.length by rw [n2]; exact hlt) = y:=⟨_,rfl⟩
     rw [hy] at hsz HD
     simp only [hy] at g0
     clear hy f0 s0
     have hym : y.size ≤ maxLen:=ml (Nat.le_of_eq hsz) zz4
     have hhm : h.size ≤ maxLen:=ml (Nat.le_of_eq hh) zz4
     have hA1 : ∀ n,Go.bits .and .i64 n 1 = n % 2:=i64_and1
     have HPW : Hid (a / 2 ^ k / 2 = a / 2 ^ (k + 1)):=zd (by rw [Nat.div_div_eq_div_mul,Nat.pow_succ])
     by_cases hpar : a / 2 ^ k % 2 = 0
     ·have HTok:=zd (tag_two (kind:=3) (s:=h) (t:=y) zz44 zz4 zz4)
      have hh2s:=tagHash_size HTok.out
      have hcu:=tagHash_cut HTok.out
      have htl2:=tagText_le 3 [h,y]
      have HR3 : Hid (sigRoot t ⟨(a : Int),op,sh,si⟩ = climb (tagHash 3 [h,y] 16) (a / 2 ^ (k + 1)) (si.drop (k + 1))):=zd (by rw [HR2.out,HD.out,climb_even hpar,HPW.out])
      obtain ⟨h2,hh2⟩ : ∃ h2,tagHash 3 [h,y] 16 = h2:=⟨_,rfl⟩
      rw [hh2] at hh2s hcu HR3
      obtain ⟨tl2,htt2⟩ : ∃ l,tagText 3 [h,y] = l:=⟨_,rfl⟩
      have HTT:=zd htt2
      rw [htt2] at hcu htl2
      have HC2:=zd hcu
      clear htt2 hcu HR2 HPW HD
      rcases (show k = 0 ∨ k = 1 ∨ k = 2 ∨ k = 3 by omega) with rfl | rfl | rfl | rfl
      ·have hp0 : ((a : Int) % 2 == 0) = true:=by rw [beq_iff_eq]; simp at hpar; omega
       rw [Nat.add_zero] at g0
       go_wp2_with (fail)
       refine (impl_SigAdd _ 3 zz30 [h,y] _ _ _ (row_pair wr h y hhm hym _) zz17 g ys Ao co _ (HG2.out.alloc _) hyc hcom (Row.allocC HRb.out _) (fun b hb => hb.1) zz4 w HT.out (HW0.out.alloc HW0.out.size _) hgw).mono ?_
       rintro e5 w5 ⟨A5,c5,rfl,hg5,hy5,hc5,hr5,hch5⟩
       rw [tagHash_cut HTok.out,hh2]
       have hz5:=hch5.size
       rw [World.size_alloc] at hz5
       go_wp2
       go_roundw
       case rel => exact ⟨_,h2,ys ++ [tl2],tl2,A5,c5,hlt,by go_num,rfl,hh2s,HR3,htl2,HC2,zd ⟨ys,rfl⟩,zz37,zd (by rw [List.length_append]; exact hg5),zz53,hc5,zd (((HTT.out ▸ hr5).mono (fun b hb => by
        unfold rng at hb; rw [World.size_alloc] at hb
        rcases hb with hb | hb
        ·exact ⟨hb.1,zz4⟩
        ·exact ⟨zz4,zz4⟩))),zd ((HB.out.alloc zz48 _).trans (hch5.to_below zz55 (fun b hb => zz36))),zz4⟩
       case measure => simp [intOf]
      ·have hp0 : ((a : Int) / 2 % 2 == 0) = true:=by rw [beq_iff_eq]; simp at hpar; omega
       have hp1 : ((a : Int) % 2 == 0) = true ∨ True:=.inr trivial
       go_wp2_with (fail)
       refine (impl_SigAdd _ 3 zz30 [h,y] _ _ _ (row_pair wr h y hhm hym _) zz17 g ys Ao co _ (HG2.out.alloc _) hyc hcom (Row.allocC HRb.out _) (fun b hb => hb.1) zz4 w HT.out (HW0.out.alloc HW0.out.size _) hgw).mono ?_
       rintro e5 w5 ⟨A5,c5,rfl,hg5,hy5,hc5,hr5,hch5⟩
       rw [tagHash_cut HTok.out,hh2]
       have hz5:=hch5.size
       rw [World.size_alloc] at hz5
       go_wp2
       go_roundw
       case rel => exact ⟨_,h2,ys ++ [tl2],tl2,A5,c5,hlt,by go_num,rfl,hh2s,HR3,htl2,HC2,zd ⟨ys,rfl⟩,zz37,zd (by rw [List.length_append]; exact hg5),zz53,hc5,zd (((HTT.out ▸ hr5).mono (fun b hb => by
        unfold rng at hb; rw [World.size_alloc] at hb
        rcases hb with hb | hb
        ·exact ⟨hb.1,zz4⟩
        ·exact ⟨zz4,zz4⟩))),zd ((HB.out.alloc zz48 _).trans (hch5.to_below zz55 (fun b hb => zz36))),zz4⟩
       case measure => simp [intOf]
      ·have hp0 : ((a : Int) / 4 % 2 == 0) = true:=by rw [beq_iff_eq]; simp at hpar; omega
       have hp1 : ((a : Int) % 2 == 0) = true ∨ True:=.inr trivial
       go_wp2_with (fail)
       refine (impl_SigAdd _ 3 zz30 [h,y] _ _ _ (row_pair wr h y hhm hym _) zz17 g ys Ao co _ (HG2.out.alloc _) hyc hcom (Row.allocC HRb.out _) (fun b hb => hb.1) zz4 w HT.out (HW0.out.alloc HW0.out.size _) hgw).mono ?_
       rintro e5 w5 ⟨A5,c5,rfl,hg5,hy5,hc5,hr5,hch5⟩
       rw [tagHash_cut HTok.out,hh2]
       have hz5:=hch5.size
       rw [World.size_alloc] at hz5
       go_wp2
       go_roundw
       case rel => exact ⟨_,h2,ys ++ [tl2],tl2,A5,c5,hlt,by go_num,rfl,hh2s,HR3,htl2,HC2,zd ⟨ys,rfl⟩,zz37,zd (by rw [List.length_append]; exact hg5),zz53,hc5,zd (((HTT.out ▸ hr5).mono (fun b hb => by
        unfold rng at hb; rw [World.size_alloc] at hb
        rcases hb with hb | hb
        ·exact ⟨hb.1,zz4⟩
        ·exact ⟨zz4,zz4⟩))),zd ((HB.out.alloc zz48 _).trans (hch5.to_below zz55 (fun b hb => zz36))),zz4⟩
       case measure => simp [intOf]
      ·have hp0 : ((a : Int) / 8 % 2 == 0) = true:=by rw [beq_iff_eq]; simp at hpar; omega
       have hp1 : ((a : Int) % 2 == 0) = true ∨ True:=.inr trivial
       go_wp2_with (fail)
       refine (impl_SigAdd _ 3 zz30 [h,y] _ _ _ (row_pair wr h y hhm hym _) zz17 g ys Ao co _ (HG2.out.alloc _) hyc hcom (Row.allocC HRb.out _) (fun b hb => hb.1) zz4 w HT.out (HW0.out.alloc HW0.out.size _) hgw).mono ?_
       rintro e5 w5 ⟨A5,c5,rfl,hg5,hy5,hc5,hr5,hch5⟩
       rw [tagHash_cut HTok.out,hh2]
       have hz5:=hch5.size
       rw [World.size_alloc] at hz5
       go_wp2
       go_roundw
       case rel => exact ⟨_,h2,ys ++ [tl2],tl2,A5,c5,hlt,by go_num,rfl,hh2s,HR3,htl2,HC2,zd ⟨ys,rfl⟩,zz37,zd (by rw [List.length_append]; exact hg5),zz53,hc5,zd (((HTT.out ▸ hr5).mono (fun b hb => by
        unfold rng at hb; rw [World.size_alloc] at hb
        rcases hb with hb | hb
        ·exact ⟨hb.1,zz4⟩
        ·exact ⟨zz4,zz4⟩))),zd ((HB.out.alloc zz48 _).trans (hch5.to_below zz55 (fun b hb => zz36))),zz4⟩
       case measure => simp [intOf]
     ·have HTok:=zd (tag_two (kind:=3) (s:=y) (t:=h) zz44 zz4 zz4)
      have hh2s:=tagHash_size HTok.out
      have hcu:=tagHash_cut HTok.out
      have htl2:=tagText_le 3 [y,h]
      have HR3 : Hid (sigRoot t ⟨(a : Int),op,sh,si⟩ = climb (tagHash 3 [y,h] 16) (a / 2 ^ (k + 1)) (si.drop (k + 1))):=zd (by rw [HR2.out,HD.out,climb_odd hpar,HPW.out])
      obtain ⟨h2,hh2⟩ : ∃ h2,tagHash 3 [y,h] 16 = h2:=⟨_,rfl⟩
      rw [hh2] at hh2s hcu HR3
      obtain ⟨tl2,htt2⟩ : ∃ l,tagText 3 [y,h] = l:=⟨_,rfl⟩
      have HTT:=zd htt2
      rw [htt2] at hcu htl2
      have HC2:=zd hcu
      clear htt2 hcu HR2 HPW HD
      rcases (show k = 0 ∨ k = 1 ∨ k = 2 ∨ k = 3 by omega) with rfl | rfl | rfl | rfl
      ·have hp0 : ((a : Int) % 2 == 0) = false:=by rw [beq_eq_false_iff_ne]; simp at hpar; omega
       rw [Nat.add_zero] at g0
       go_wp2_with (fail)
       refine (impl_SigAdd _ 3 zz30 [y,h] _ _ _ (row_pair wr y h hym hhm _) zz17 g ys Ao co _ (HG2.out.alloc _) hyc hcom (Row.allocC HRb.out _) (fun b hb => hb.1) zz4 w HT.out (HW0.out.alloc HW0.out.size _) hgw).mono ?_
       rintro e5 w5 ⟨A5,c5,rfl,hg5,hy5,hc5,hr5,hch5⟩
       rw [tagHash_cut HTok.out,hh2]
       have hz5:=hch5.size
       rw [World.size_alloc] at hz5
       go_wp2
       go_roundw
       case rel => exact ⟨_,h2,ys ++ [tl2],tl2,A5,c5,hlt,by go_num,rfl,hh2s,HR3,htl2,HC2,zd ⟨ys,rfl⟩,zz37,zd (by rw [List.length_append]; exact hg5),zz53,hc5,zd (((HTT.out ▸ hr5).mono (fun b hb => by
        unfold rng at hb; rw [World.size_alloc] at hb
        rcases hb with hb | hb
        ·exact ⟨hb.1,zz4⟩
        ·exact ⟨zz4,zz4⟩))),zd ((HB.out.alloc zz48 _).trans (hch5.to_below zz55 (fun b hb => zz36))),zz4⟩
       case measure => simp [intOf]
      ·have hp0 : ((a : Int) / 2 % 2 == 0) = false:=by rw [beq_eq_false_iff_ne]; simp at hpar; omega
       have hp1 : ((a : Int) % 2 == 0) = false ∨ True:=.inr trivial
       go_wp2_with (fail)
       refine (impl_SigAdd _ 3 zz30 [y,h] _ _ _ (row_pair wr y h hym hhm _) zz17 g ys Ao co _ (HG2.out.alloc _) hyc hcom (Row.allocC HRb.out _) (fun b hb => hb.1) zz4 w HT.out (HW0.out.alloc HW0.out.size _) hgw).mono ?_
       rintro e5 w5 ⟨A5,c5,rfl,hg5,hy5,hc5,hr5,hch5⟩
       rw [tagHash_cut HTok.out,hh2]
       have hz5:=hch5.size
       rw [World.size_alloc] at hz5
       go_wp2
       go_roundw
       case rel => exact ⟨_,h2,ys ++ [tl2],tl2,A5,c5,hlt,by go_num,rfl,hh2s,HR3,htl2,HC2,zd ⟨ys,rfl⟩,zz37,zd (by rw [List.length_append]; exact hg5),zz53,hc5,zd (((HTT.out ▸ hr5).mono (fun b hb => by
        unfold rng at hb; rw [World.size_alloc] at hb
        rcases hb with hb | hb
        ·exact ⟨hb.1,zz4⟩
        ·exact ⟨zz4,zz4⟩))),zd ((HB.out.alloc zz48 _).trans (hch5.to_below zz55 (fun b hb => zz36))),zz4⟩
       case measure => simp [intOf]
      ·have hp0 : ((a : Int) / 4 % 2 == 0) = false:=by rw [beq_eq_false_iff_ne]; simp at hpar; omega
       have hp1 : ((a : Int) % 2 == 0) = false ∨ True:=.inr trivial
       go_wp2_with (fail)
       refine (impl_SigAdd _ 3 zz30 [y,h] _ _ _ (row_pair wr y h hym hhm _) zz17 g ys Ao co _ (HG2.out.alloc _) hyc hcom (Row.allocC HRb.out _) (fun b hb => hb.1) zz4 w HT.out (HW0.out.alloc HW0.out.size _) hgw).mono ?_
       rintro e5 w5 ⟨A5,c5,rfl,hg5,hy5,hc5,hr5,hch5⟩
       rw [tagHash_cut HTok.out,hh2]
       have hz5:=hch5.size
       rw [World.size_alloc] at hz5
       go_wp2
       go_roundw
       case rel => exact ⟨_,h2,ys ++ [tl2],tl2,A5,c5,hlt,by go_num,rfl,hh2s,HR3,htl2,HC2,zd ⟨ys,rfl⟩,zz37,zd (by rw [List.length_append]; exact hg5),zz53,hc5,zd (((HTT.out ▸ hr5).mono (fun b hb => by
        unfold rng at hb; rw [World.size_alloc] at hb
        rcases hb with hb | hb
        ·exact ⟨hb.1,zz4⟩
        ·exact ⟨zz4,zz4⟩))),zd ((HB.out.alloc zz48 _).trans (hch5.to_below zz55 (fun b hb => zz36))),zz4⟩
       case measure => simp [intOf]
      ·have hp0 : ((a : Int) / 8 % 2 == 0) = false:=by rw [beq_eq_false_iff_ne]; simp at hpar; omega
       have hp1 : ((a : Int) % 2 == 0) = false ∨ True:=.inr trivial
       go_wp2_with (fail)
       refine (impl_SigAdd _ 3 zz30 [y,h] _ _ _ (row_pair wr y h hym hhm _) zz17 g ys Ao co _ (HG2.out.alloc _) hyc hcom (Row.allocC HRb.out _) (fun b hb => hb.1) zz4 w HT.out (HW0.out.alloc HW0.out.size _) hgw).mono ?_
       rintro e5 w5 ⟨A5,c5,rfl,hg5,hy5,hc5,hr5,hch5⟩
       rw [tagHash_cut HTok.out,hh2]
       have hz5:=hch5.size
       rw [World.size_alloc] at hz5
       go_wp2
       go_roundw
       case rel => exact ⟨_,h2,ys ++ [tl2],tl2,A5,c5,hlt,by go_num,rfl,hh2s,HR3,htl2,HC2,zd ⟨ys,rfl⟩,zz37,zd (by rw [List.length_append]; exact hg5),zz53,hc5,zd (((HTT.out ▸ hr5).mono (fun b hb => by
        unfold rng at hb; rw [World.size_alloc] at hb
        rcases hb with hb | hb
        ·exact ⟨hb.1,zz4⟩
        ·exact ⟨zz4,zz4⟩))),zd ((HB.out.alloc zz48 _).trans (hch5.to_below zz55 (fun b hb => zz36))),zz4⟩
       case measure => simp [intOf]
    ·have hke : k = 4:=by omega
     subst hke
     have hq:=HG2.out.cell
     have HE : Hid (sigRoot t ⟨(a : Int),op,sh,si⟩ = h):=zd (by rw [HR2.out,List.drop_of_length_le zz4]; rfl)
     go_wp2
     go_ret
     exact ⟨Ao,co,ys,_,rfl,zz4,HRb.out.weak,fun e => absurd e zz17,fun _ => HPre.out.elim (fun pre hp => ⟨pre,tl,hp,htl,by rw [HCut.out,HE.out]⟩),HW0.out⟩
end Go.Proofs.YtlfnmbcnehaikaaGreatDoor
