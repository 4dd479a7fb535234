/- A part of the proof. -/
import Derived.Test.YtgllafgpmenjjaaGreatDoorHChL6xOq
set_option linter.unusedVariables false
set_option linter.unusedSimpArgs false
set_option maxRecDepth 20000
set_option maxHeartbeats 2000000
namespace Go.Proofs.YtgllafgpmenjjaaGreatDoor
open Go.RowKit Lay Mk
theorem Below.via {w w' : World} {o : Obj} (hb : Below (w.alloc o).heap.size (w.alloc o) w') : Below w.heap.size w w':=((Below.refl _ _).alloc (Nat.le_refl _) _).trans (hb.mono zz32)
theorem Below.viad {w w' : World} (hb : Below w.drew.heap.size w.drew w') : Below w.heap.size w w':=((Below.refl _ _).drew).trans (hb.mono (Nat.le_refl _))
theorem Below.step {a b c : World} (h : Below a.heap.size a b) (k : Below b.heap.size b c) : Below a.heap.size a c:=h.trans (k.mono h.size)
theorem Below.stepc {a b c : World} {S : Blks} (h : Below a.heap.size a b) (k : Chg S b c) (hs : ∀ x,S x → a.heap.size ≤ x) : Below a.heap.size a c:=h.trans (k.to_below h.size hs)
theorem disjS {S T : Blks} {a b c d : Nat} (h1 : sub S (rng a b)) (h2 : sub T (rng c d)) (h : b ≤ c ∨ d ≤ a) : disj S T:=fun x hx hy => by
 have:=h1 x hx
 have:=h2 x hy
 unfold rng at *
 omega
theorem not_rng {S : Blks} {a b x : Nat} (h : sub S (rng a b)) (k : x < a ∨ b ≤ x) : ¬ S x:=fun hx => by
 have:=h x hx
 unfold rng at *
 omega
theorem ya4 {w : World} {o : Obj} {b i : Nat} {v : Value} (h : w.cell? ⟨b,i,none⟩ = some v) : (w.alloc o).cell? ⟨b,i,none⟩ = some v :=
 (World.cell?_of_block (a:=⟨b,i,none⟩) (Below.heap_alloc w o b (block_lt_of_cell (a:=⟨b,i,none⟩) h))).trans h
theorem old_rng {α : Type} [Lay α] {m : Bool} {w : World} {cs : List Value} {x : α} {S : Blks} (h : rd m w cs x S) : rd m w cs x (rng 0 w.heap.size):=Lay.mono (Lay.tight h) (fun _ x => ⟨Nat.zero_le _,x.2⟩)
theorem old_rngR {α : Type} [Lay α] {m : Bool} {w : World} {A : Option Addr} {cap : Nat} {xs : List α} {S : Blks} (h : Row m w A cap xs S) : Row m w A cap xs (rng 0 w.heap.size):=h.tight.mono (fun _ x => ⟨Nat.zero_le _,x.2⟩)
theorem nagg_slice {P : Program} {W : World} {r : Reach} {base : Nat} {t e : TypeId} {v : Value} (ht : P.underlying t = some (.slice e)) (h : Value.okWide P W r base t v) : ∀ cs,v ≠ .agg cs:=by
 rintro cs rfl
 unfold Value.okWide at h
 rw [ht] at h
 simp [Cell.okWide,Cell.ok,ht] at h
theorem nagg_string {P : Program} {W : World} {r : Reach} {base : Nat} {t : TypeId} {v : Value} (ht : P.underlying t = some .string) (h : Value.okWide P W r base t v) : ∀ cs,v ≠ .agg cs:=by
 rintro cs rfl
 unfold Value.okWide at h
 rw [ht] at h
 simp [Cell.okWide,Cell.ok,ht] at h
theorem cells_one {v u : Value} (h : v.cells.toList = [u]) (hn : ∀ cs,v ≠ .agg cs) : v = u:=by
 cases v <;> first | (exfalso; exact hn _ rfl) | (simpa [Value.cells] using h)
theorem yieldsIf_loadT {P : Program} {ops : Array Oper} {S : World → Prop} {o : Oper} {a : Act} (hw : Region.wanted o (yielded ops a.tmps) = true) (t : TypeId) (x : Operand) (ho : o.op = .load t x) {b off : Nat} (hx : a.eval x = .pointer (some ⟨b,off,none⟩)) {cs : List Value} (ha : ∀ w,S w → At w b off cs) {fs : Array Field}
  (hu : P.underlying t = some (.struct fs)) {k : Nat} (hi : (P.info? t).map (·.size) = some k) (hk : cs.length = k) : YieldsIf P ops S o (.agg cs.toArray) a:=by
 subst hk
 refine .inl ⟨hw,fun w hS => ?_⟩
 unfold execOp
 simp only [ho,hx,Instr.loadAt,Instr.sureAddr,Sem.run_bind,Sem.run_pure,Result.andThen_ok,run_loadAt (ha w hS) hu hi]
theorem szR_cases {n left : Int} {s : Nat} (h : SzR n left s) (hl : left ≤ 1048576) : n = -1 ∨ (0 ≤ n ∧ n ≤ 1048576 ∧ s ≤ 1048576):=by
 unfold SzR at h; omega
end Go.Proofs.YtgllafgpmenjjaaGreatDoor
namespace Go.Proofs.YtgllafgpmenjjaaGreatDoor
open Go.RowKit Lay
section
variable {P : Program} {ops : Array Oper} {rest : List Oper} {o : Oper} {a : Act} {w : World} {Q : Exit → Act → World → Prop}
theorem yaa (hw : Region.wanted o (yielded ops a.tmps) = true) (t : TypeId) (x : Operand) (ho : o.op = .load t x) {b off : Nat} (hx : a.eval x = .pointer (some ⟨b,off,none⟩)) {cs : List Value} (ha : At w b off cs) {fs : Array Field}
  (hu : P.underlying t = some (.struct fs)) {k : Nat} (hi : (P.info? t).map (·.size) = some k) (hk : cs.length = k)
  (h : wpList P ops Q rest (a.put o.dst (.agg cs.toArray)) w) : wpList P ops Q (o :: rest) a w:=by
 refine wpList_step fun K hK => ?_
 rw [if_pos hw]
 subst hk
 unfold Oper.wp execOp
 simp only [ho,hx,Instr.loadAt,Instr.sureAddr,Sem.run_bind,Sem.run_pure,Result.andThen_ok,run_loadAt ha hu hi]
 exact hK _ _ h
end
end Go.Proofs.YtgllafgpmenjjaaGreatDoor
namespace Go.Proofs.YtgllafgpmenjjaaGreatDoor
open Go.RowKit Lay Mk
theorem spec_NameOk (s : ByteArray) (w : World) (hs : s.size ≤ maxLen) : Calls Tryz.prog 159 #[.string s] w fun e w' => e = .returned (.bool (nameOk s)) ∧ w = w':=by
 unfold maxLen at hs
 go_enter Tryz.func159,Tryz.ntmps159
 go_wp2
 go_loop [3] (fun i => ∃ k : Nat,k ≤ s.size ∧ i = .int .i64 k ∧ Hid (∀ j (h : j < s.size),j < k → nmB s[j].toNat = true)) (fun i => s.size - (intOf i).toNat)
 case atStart => exact ⟨0,Nat.zero_le _,rfl,zd (fun j _ h => absurd h (Nat.not_lt_zero j))⟩
 case round =>
  obtain ⟨k,hk,rfl,ha⟩:=hrel
  by_cases hlt : k < s.size
  ·by_cases hg : nmB s[k].toNat = true
   ·have hg2 : (97 ≤ s[k].toNat ∧ s[k].toNat ≤ 122) ∨ (48 ≤ s[k].toNat ∧ s[k].toNat ≤ 57) ∨ s[k].toNat = 64 ∨ s[k].toNat = 46:=by simpa [nmB] using hg
    have hnew:=zd (all_succ hlt ha.out hg); clear hg ha
    rcases hg2 with ⟨g1,g2⟩ | ⟨g1,g2⟩ | g1 | g1
    all_goals
     go_wp2_with (go_at_call 87; refine (spec_in _ _ _ _).mono ?_; rintro e w' ⟨rfl,rfl⟩)
     all_goals
      go_round
      case rel => exact ⟨k + 1,zz8,by go_num,hnew⟩
      case measure => simp [intOf]; omega
   ·have hg2 : ((s[k].toNat < 48 ∧ s[k].toNat ≠ 46) ∨ (57 < s[k].toNat ∧ s[k].toNat < 97 ∧ s[k].toNat ≠ 64) ∨ 122 < s[k].toNat):=by simp [nmB] at hg; omega
    have hbad:=zd (nameOk_bad hlt (by simpa using hg)); clear hg ha
    rcases hg2 with ⟨g1,g2⟩ | ⟨g1,g2,g3⟩ | g1
    ·have x1 : ((s[k].toNat : Int) != 46) = true:=by rw [bne_iff_ne]; omega
     have x2 : ((s[k].toNat : Int) == 46) = false:=zz45
     have x3 : ((s[k].toNat : Int) != 64) = true:=by rw [bne_iff_ne]; omega
     have x4 : ((s[k].toNat : Int) == 64) = false:=zz45
     (go_wp2_with (go_at_call 87; refine (spec_in _ _ _ _).mono ?_; rintro e w' ⟨rfl,rfl⟩)
      all_goals first | (go_ret; exact ⟨by rw [hbad.out]; rfl,rfl⟩) | (exfalso; simp_all; done))
    ·have x1 : ((s[k].toNat : Int) != 46) = true:=by rw [bne_iff_ne]; omega
     have x2 : ((s[k].toNat : Int) == 46) = false:=zz45
     have x3 : ((s[k].toNat : Int) != 64) = true:=by rw [bne_iff_ne]; omega
     have x4 : ((s[k].toNat : Int) == 64) = false:=zz45
     (go_wp2_with (go_at_call 87; refine (spec_in _ _ _ _).mono ?_; rintro e w' ⟨rfl,rfl⟩)
      all_goals first | (go_ret; exact ⟨by rw [hbad.out]; rfl,rfl⟩) | (exfalso; simp_all; done))
    ·have x1 : ((s[k].toNat : Int) != 46) = true:=by rw [bne_iff_ne]; omega
     have x2 : ((s[k].toNat : Int) == 46) = false:=zz45
     have x3 : ((s[k].toNat : Int) != 64) = true:=by rw [bne_iff_ne]; omega
     have x4 : ((s[k].toNat : Int) == 64) = false:=zz45
     (go_wp2_with (go_at_call 87; refine (spec_in _ _ _ _).mono ?_; rintro e w' ⟨rfl,rfl⟩)
      all_goals first | (go_ret; exact ⟨by rw [hbad.out]; rfl,rfl⟩) | (exfalso; simp_all; done))
  ·have hke : k = s.size:=by omega
   have HE:=zd (nameOk_end ha.out (.inl hke) hk)
   have HK:=zd hke; clear hke ha
   have hge : s.size ≤ k:=zz8
   go_wp2_with (go_at_call 87; refine (spec_in _ _ _ _).mono ?_; rintro e w' ⟨rfl,rfl⟩)
   go_ret
   exact ⟨zz70,rfl⟩
theorem impl_NameOk (s : ByteArray) (w : World) (hs : s.size ≤ maxLen) : Calls Tryz.prog 179 #[.string s] w fun e w' => e = .returned (.bool (nameOk s)) ∧ w = w':=by
 unfold maxLen at hs
 go_enter Tryz.func179,Tryz.ntmps179
 go_wp2
 go_loop [3] (fun i => ∃ k : Nat,k ≤ s.size ∧ i = .int .i64 k ∧ Hid (∀ j (h : j < s.size),j < k → nmB s[j].toNat = true)) (fun i => s.size - (intOf i).toNat)
 case atStart => exact ⟨0,Nat.zero_le _,rfl,zd (fun j _ h => absurd h (Nat.not_lt_zero j))⟩
 case round =>
  obtain ⟨k,hk,rfl,ha⟩:=hrel
  by_cases hlt : k < s.size
  ·by_cases h12 : 12 < k
   ·have HE:=zd (nameOk_end ha.out (.inr h12) hk)
    go_wp2_with (go_at_call 98; refine (impl_in _ _ _ _).mono ?_; rintro e w' ⟨rfl,rfl⟩)
    go_ret
    exact ⟨zz70,rfl⟩
   by_cases hg : nmB s[k].toNat = true
   ·have hg2 : (97 ≤ s[k].toNat ∧ s[k].toNat ≤ 122) ∨ (48 ≤ s[k].toNat ∧ s[k].toNat ≤ 57) ∨ s[k].toNat = 64 ∨ s[k].toNat = 46:=by simpa [nmB] using hg
    have hnew:=zd (all_succ hlt ha.out hg); clear hg ha
    rcases hg2 with ⟨g1,g2⟩ | ⟨g1,g2⟩ | g1 | g1
    all_goals
     go_wp2_with (go_at_call 98; refine (impl_in _ _ _ _).mono ?_; rintro e w' ⟨rfl,rfl⟩)
     all_goals
      go_round
      case rel => exact ⟨k + 1,zz8,by go_num,hnew⟩
      case measure => simp [intOf]; omega
   ·have hg2 : ((s[k].toNat < 48 ∧ s[k].toNat ≠ 46) ∨ (57 < s[k].toNat ∧ s[k].toNat < 97 ∧ s[k].toNat ≠ 64) ∨ 122 < s[k].toNat):=by simp [nmB] at hg; omega
    have hbad:=zd (nameOk_bad hlt (by simpa using hg)); clear hg ha
    rcases hg2 with ⟨g1,g2⟩ | ⟨g1,g2,g3⟩ | g1
    ·have x1 : ((s[k].toNat : Int) != 46) = true:=by rw [bne_iff_ne]; omega
     have x2 : ((s[k].toNat : Int) == 46) = false:=zz45
     have x3 : ((s[k].toNat : Int) != 64) = true:=by rw [bne_iff_ne]; omega
     have x4 : ((s[k].toNat : Int) == 64) = false:=zz45
     (go_wp2_with (go_at_call 98; refine (impl_in _ _ _ _).mono ?_; rintro e w' ⟨rfl,rfl⟩)
      all_goals first | (go_ret; exact ⟨by rw [hbad.out]; rfl,rfl⟩) | (exfalso; simp_all; done))
    ·have x1 : ((s[k].toNat : Int) != 46) = true:=by rw [bne_iff_ne]; omega
     have x2 : ((s[k].toNat : Int) == 46) = false:=zz45
     have x3 : ((s[k].toNat : Int) != 64) = true:=by rw [bne_iff_ne]; omega
     have x4 : ((s[k].toNat : Int) == 64) = false:=zz45
     (go_wp2_with (go_at_call 98; refine (impl_in _ _ _ _).mono ?_; rintro e w' ⟨rfl,rfl⟩)
      all_goals first | (go_ret; exact ⟨by rw [hbad.out]; rfl,rfl⟩) | (exfalso; simp_all; done))
    ·have x1 : ((s[k].toNat : Int) != 46) = true:=by rw [bne_iff_ne]; omega
     have x2 : ((s[k].toNat : Int) == 46) = false:=zz45
     have x3 : ((s[k].toNat : Int) != 64) = true:=by rw [bne_iff_ne]; omega
     have x4 : ((s[k].toNat : Int) == 64) = false:=zz45
     (go_wp2_with (go_at_call 98; refine (impl_in _ _ _ _).mono ?_; rintro e w' ⟨rfl,rfl⟩)
      all_goals first | (go_ret; exact ⟨by rw [hbad.out]; rfl,rfl⟩) | (exfalso; simp_all; done))
  ·have hke : k = s.size:=by omega
   have HE:=zd (nameOk_end ha.out (.inl hke) hk)
   have HK:=zd hke; clear hke ha
   have hge : s.size ≤ k:=zz8
   go_wp2_with (go_at_call 98; refine (impl_in _ _ _ _).mono ?_; rintro e w' ⟨rfl,rfl⟩)
   go_ret
   exact ⟨zz70,rfl⟩
theorem spec_ValueOk (s : ByteArray) (w : World) (hs : s.size ≤ maxLen) : Calls Tryz.prog 168 #[.string s] w fun e w' => e = .returned (.bool (valueOk s)) ∧ w = w':=by
 unfold maxLen at hs
 go_enter Tryz.func168,Tryz.ntmps168
 go_wp2
 go_loop [3] (fun i => ∃ k : Nat,k ≤ s.size ∧ i = .int .i64 k ∧ Hid (∀ j (h : j < s.size),j < k → vlB s[j].toNat = true)) (fun i => s.size - (intOf i).toNat)
 case atStart => exact ⟨0,Nat.zero_le _,rfl,zd (fun j _ h => absurd h (Nat.not_lt_zero j))⟩
 case round =>
  obtain ⟨k,hk,rfl,ha⟩:=hrel
  by_cases hlt : k < s.size
  ·by_cases hg : vlB s[k].toNat = true
   ·have hg2 : 33 ≤ s[k].toNat ∧ s[k].toNat ≤ 126:=by simpa [vlB] using hg
    have hnew:=zd (all_succ hlt ha.out hg); clear hg ha
    obtain ⟨g1,g2⟩:=hg2
    have hi : inB (s[k].toNat : Int) 33 126 = true:=by simp [inB]; omega
    all_goals
     go_wp2_with (go_at_call 87; refine (spec_in _ _ _ _).mono ?_; rintro e w' ⟨rfl,rfl⟩)
     all_goals
      go_round
      case rel => exact ⟨k + 1,zz8,by go_num,hnew⟩
      case measure => simp [intOf]; omega
   ·have hby : s[k].toNat < 256:=s[k].toNat_lt
    have hg2 : s[k].toNat < 33 ∨ 126 < s[k].toNat:=by simp [vlB] at hg; omega
    have hbad:=zd (valueOk_bad hlt (by simpa using hg)); clear hg ha
    have hi : inB (s[k].toNat : Int) 33 126 = false:=by simp [inB]; omega
    rcases hg2 with g1 | g1
    ·(go_wp2_with (go_at_call 87; refine (spec_in _ _ _ _).mono ?_; rintro e w' ⟨rfl,rfl⟩)
      all_goals first | (go_ret; exact ⟨by rw [hbad.out]; rfl,rfl⟩) | (exfalso; simp_all; done))
    ·(go_wp2_with (go_at_call 87; refine (spec_in _ _ _ _).mono ?_; rintro e w' ⟨rfl,rfl⟩)
      all_goals first | (go_ret; exact ⟨by rw [hbad.out]; rfl,rfl⟩) | (exfalso; simp_all; done))
  ·have hke : k = s.size:=by omega
   have HE:=zd (valueOk_end ha.out (.inl hke) hk)
   have HK:=zd hke; clear hke ha
   have hge : s.size ≤ k:=zz8
   go_wp2_with (go_at_call 87; refine (spec_in _ _ _ _).mono ?_; rintro e w' ⟨rfl,rfl⟩)
   go_ret
   exact ⟨zz70,rfl⟩
theorem impl_ValueOk (s : ByteArray) (w : World) (hs : s.size ≤ maxLen) : Calls Tryz.prog 200 #[.string s] w fun e w' => e = .returned (.bool (valueOk s)) ∧ w = w':=by
 unfold maxLen at hs
 go_enter Tryz.func200,Tryz.ntmps200
 go_wp2
 go_loop [3] (fun i => ∃ k : Nat,k ≤ s.size ∧ i = .int .i64 k ∧ Hid (∀ j (h : j < s.size),j < k → vlB s[j].toNat = true)) (fun i => s.size - (intOf i).toNat)
 case atStart => exact ⟨0,Nat.zero_le _,rfl,zd (fun j _ h => absurd h (Nat.not_lt_zero j))⟩
 case round =>
  obtain ⟨k,hk,rfl,ha⟩:=hrel
  by_cases hlt : k < s.size
  ·by_cases h12 : 12 < k
   ·have HE:=zd (valueOk_end ha.out (.inr h12) hk)
    go_wp2_with (go_at_call 98; refine (impl_in _ _ _ _).mono ?_; rintro e w' ⟨rfl,rfl⟩)
    go_ret
    exact ⟨zz70,rfl⟩
   by_cases hg : vlB s[k].toNat = true
   ·have hg2 : 33 ≤ s[k].toNat ∧ s[k].toNat ≤ 126:=by simpa [vlB] using hg
    have hnew:=zd (all_succ hlt ha.out hg); clear hg ha
    obtain ⟨g1,g2⟩:=hg2
    have hi : inB (s[k].toNat : Int) 33 126 = true:=by simp [inB]; omega
    all_goals
     go_wp2_with (go_at_call 98; refine (impl_in _ _ _ _).mono ?_; rintro e w' ⟨rfl,rfl⟩)
     all_goals
      go_round
      case rel => exact ⟨k + 1,zz8,by go_num,hnew⟩
      case measure => simp [intOf]; omega
   ·have hby : s[k].toNat < 256:=s[k].toNat_lt
    have hg2 : s[k].toNat < 33 ∨ 126 < s[k].toNat:=by simp [vlB] at hg; omega
    have hbad:=zd (valueOk_bad hlt (by simpa using hg)); clear hg ha
    have hi : inB (s[k].toNat : Int) 33 126 = false:=by simp [inB]; omega
    rcases hg2 with g1 | g1
    ·(go_wp2_with (go_at_call 98; refine (impl_in _ _ _ _).mono ?_; rintro e w' ⟨rfl,rfl⟩)
      all_goals first | (go_ret; exact ⟨by rw [hbad.out]; rfl,rfl⟩) | (exfalso; simp_all; done))
    ·(go_wp2_with (go_at_call 98; refine (impl_in _ _ _ _).mono ?_; rintro e w' ⟨rfl,rfl⟩)
      all_goals first | (go_ret; exact ⟨by rw [hbad.out]; rfl,rfl⟩) | (exfalso; simp_all; done))
  ·have hke : k = s.size:=by omega
   have HE:=zd (valueOk_end ha.out (.inl hke) hk)
   have HK:=zd hke; clear hke ha
   have hge : s.size ≤ k:=zz8
   go_wp2_with (go_at_call 98; refine (impl_in _ _ _ _).mono ?_; rintro e w' ⟨rfl,rfl⟩)
   go_ret
   exact ⟨zz70,rfl⟩
end Go.Proofs.YtgllafgpmenjjaaGreatDoor
