/- Walks of the law's helpers: those that this law needs. -/
import Derived.Test.YtojbehmbeoemgaaDoorProg
import Derived.Test.YtojbehmbeoemgaaDoorB1
import Derived.Lib.Hide
set_option linter.unusedVariables false
set_option linter.unusedSimpArgs false
namespace Go.Proofs.YtojbehmbeoemgaaDoor
open Go.RowKit Lay Mk
theorem run_make_rowN {P : Program} (t e : TypeId) (i : TypeInfo) (z : Value) (ht : P.underlying t = some (.slice e)) (hi : P.info? e = some i) (hz : i.zero = some z)
    (kl kc : IntKind) (n c : Nat) (hnc : n ≤ c) (hbytes : i.bytes * c ≤ 281474976710656) (h63 : c ≤ 9223372036854775807) (w : World) :
    (Instr.makeSlice t (.int kl (n : Int)) (.int kc (c : Int))).run P w = .ok (.slice (some ⟨w.heap.size, 0, none⟩) n c) (w.alloc (.cells (madeCells z.cells (c * i.size)) e)) := by
  have hb : (i.bytes : Int) * (c : Int) ≤ 281474976710656 := by
    have h : ((i.bytes * c : Nat) : Int) ≤ 281474976710656 := by omega
    rwa [Int.natCast_mul] at h
  have hr := run_make (P := P) w t e i z ht hi hz kl kc n c (by omega) (by omega) hb (by omega)
  simp only [Int.toNat_natCast] at hr
  exact hr
theorem rd_drewC {α : Type} [Lay α] {m : Bool} {w : World} {cs : List Value} {a : α} {S : Blks} (h : rd m w cs a S) : rd m w.drew cs a S := Lay.keep h (fun _ _ => rfl)
theorem rd_setC {α : Type} [Lay α] {m : Bool} {w : World} {cs : List Value} {a : α} {S : Blks} (h : rd m w cs a S) {p : Addr} (hp : ¬ S p.block) (u : Value) : rd m (w.setCell p u) cs a S :=
  Lay.keep h (fun b hb => Below.heap_setCell w p u b (fun e => hp (e ▸ hb)))
theorem madeCells_get (zs : Array Value) (n i : Nat) (hz : 0 < zs.size) (hi : i < n) : (madeCells zs n)[i]? = zs[i % zs.size]? := by
  have hm := Nat.mod_lt i hz
  simp [madeCells, hi, hm]
/-- a row that 'make' has laid: zero values -/
theorem Row.made {α : Type} [Lay α] [Mk α] {N : Nat} (w : World) (m : Nat) (zs : Array Value) (hN : n α = N) (hz : zs.toList = Mk.zc (α := α)) :
    Row true (w.alloc (.cells (madeCells zs (m * N)) (ty α))) (some ⟨w.heap.size, 0, none⟩) m (([] : List α) ++ List.replicate m (Mk.z : α)) (rng w.heap.size (w.heap.size + 1)) := by
  subst hN
  have hzl : zs.size = n α := by
    have := Lay.len (Mk.zrd (α := α) true w)
    rw [← hz] at this; simpa using this
  have hp := Lay.pos (α := α)
  refine .inr ⟨w.heap.size, _, rfl, by unfold rng; omega, heap_alloc_new w _, by simp [size_madeCells], fun _ _ => False, fun _ _ x => x.elim, fun _ _ _ _ _ x => x.elim, fun i hi => ?_⟩
  have hi' : i < m := by simpa using hi
  refine ⟨Mk.zc (α := α), fun j u hu => ?_, by simpa using Mk.zrd (α := α) true _⟩
  have hj : j < n α := by
    have := (List.getElem?_eq_some_iff.1 hu).1
    have hl := Lay.len (Mk.zrd (α := α) true w)
    omega
  rw [← hz] at hu
  have hlt : i * n α + j < m * n α := by
    have : i * n α + n α ≤ m * n α := by rw [← Nat.succ_mul]; exact Nat.mul_le_mul_right _ hi'
    omega
  rw [cell_of_row _ w.heap.size _ _ _ (0, 0) (heap_alloc_new w _)]
  simp only [Nat.zero_add]
  rw [madeCells_get _ _ _ (by omega) hlt, hzl, Nat.mul_comm, Nat.mul_add_mod, Nat.mod_eq_of_lt hj]
  simpa using hu
theorem take_step {α : Type} (xs : List α) (z : α) (k : Nat) (h : k < xs.length) :
    xs.take (k + 1) ++ List.replicate (xs.length - (k + 1)) z = (xs.take k ++ List.replicate (xs.length - k) z).set k xs[k] := by
  apply List.ext_getElem
  · simp; omega
  · intro j h1 h2
    by_cases e : j = k
    · subst e
      rw [List.getElem_set_self, List.getElem_append_left (by simp; omega)]
      simp
    · rw [List.getElem_set_ne (by omega)]
      by_cases hl : j < k
      · rw [List.getElem_append_left (by simp; omega), List.getElem_append_left (by simp; omega)]
        simp
      · rw [List.getElem_append_right (by simp; omega), List.getElem_append_right (by simp; omega)]
        simp
theorem old_cells {α : Type} [Lay α] {w : World} {g N : Nat} {ys : List α} {T : Nat → Blks} (he : ∀ j (h : j < ys.length), ∃ cs, At w g (0 + j * n α) cs ∧ rd true w cs ys[j] (T j)) (k : Nat) (hk : k < ys.length) (hN : n α = N) :
    ∀ q, q < N → ∃ v, w.cell? ⟨g, k * N + q, none⟩ = some v := by
  subst hN
  intro q hq
  obtain ⟨cs, h1, h2⟩ := he k hk
  have hl := Lay.len h2
  have hc : cs[q]? = some (cs[q]'(by omega)) := List.getElem?_eq_getElem (by omega)
  have := h1 q _ hc
  simp only [Nat.zero_add] at this
  exact ⟨_, this⟩
theorem Row.setU {α : Type} [Lay α] {w w' : World} {g cap N i : Nat} {ys : List α} {S S' U : Blks} {T : Nat → Blks} {y : α} {cs : List Value} (hN : n α = N)
    (hg : S' g) (hSS : sub S S') (hT : ∀ j, sub (T j) (fun b => S b ∧ b ≠ g)) (hd : ∀ i j, i ≠ j → disj (T i) (T j))
    (he : ∀ j (h : j < ys.length), ∃ cs, At w g (0 + j * n α) cs ∧ rd true w cs ys[j] (T j))
    (hi : i < ys.length) (hsh : Shp w' g (ty α) (cap * N))
    (hsame : ∀ o, o / N ≠ i → w'.cell? ⟨g, o, none⟩ = w.cell? ⟨g, o, none⟩)
    (hchg : Chg (fun b => b = g) w w')
    (hat : At w' g (i * N) cs) (hrd : rd true w' cs y U) (hU : sub U (fun b => S' b ∧ b ≠ g)) (hUl : ∀ b, U b → w.heap.size ≤ b) : Row true w' (some ⟨g, 0, none⟩) cap (ys.set i y) S' := by
  subst hN
  obtain ⟨cur', hw', hc'⟩ := hsh
  refine .inr ⟨g, cur', rfl, hg, hw', hc', fun j b => if j = i then U b else (T j b ∧ b < w.heap.size), fun j => ?_, fun _ j k hjk => ?_, fun j hj => ?_⟩
  · intro b hb
    by_cases e : j = i
    · simp only [e, if_true] at hb; exact hU b hb
    · simp only [e, if_false] at hb; exact ⟨hSS b (hT j b hb.1).1, (hT j b hb.1).2⟩
  · intro b hb hb2
    by_cases e1 : j = i
    · have e2 : ¬ k = i := fun h => hjk (e1.trans h.symm)
      simp only [e1, if_true] at hb
      simp only [e2, if_false] at hb2
      have := hUl b hb
      omega
    · simp only [e1, if_false] at hb
      by_cases e2 : k = i
      · simp only [e2, if_true] at hb2
        have := hUl b hb2
        omega
      · simp only [e2, if_false] at hb2
        exact hd j k hjk b hb.1 hb2.1
  · have hj' : j < ys.length := by simpa using hj
    by_cases e : j = i
    · subst e
      refine ⟨cs, by simpa using hat, ?_⟩
      simp only [List.getElem_set_self, if_true]
      exact hrd
    · obtain ⟨c, h1, h2⟩ := he j hj'
      refine ⟨c, ?_, ?_⟩
      · intro q u hu
        have hq : q < n α := by
          have hl := Lay.len h2
          have := (List.getElem?_eq_some_iff.1 hu).1
          omega
        have hs := hsame (j * n α + q) (by
          rw [Nat.mul_comm, Nat.mul_add_div (Lay.pos), Nat.div_eq_of_lt hq]; simpa using e)
        have h1' := h1 q u hu
        simp only [Nat.zero_add] at h1' ⊢
        rw [hs]; exact h1'
      · have hne : ¬ i = j := fun h => e h.symm
        simp only [List.getElem_set, hne, e, if_false]
        exact Lay.keep (Lay.tight h2) (fun b x => hchg.block b x.2 (fun e2 => (hT j b x.1).2 e2))
theorem info_StringS : (Tryd.prog.info? 9).map (fun i => (i.zero, i.size, i.bytes)) = some (some (.string ⟨#[]⟩), 1, 16) := by kernel_rfl
set_option maxRecDepth 40000 in set_option maxHeartbeats 4000000 in
theorem to_StringS (xs : List ByteArray) (w : World) (A : Option Addr) (cap : Nat) (S : Blks) (hx : Row false w A cap xs S) (hsz : szL xs ≤ 1048576) :
    Calls Tryd.prog 37 #[.slice A xs.length cap] w fun e w' => ∃ A' cap', e = .returned (.slice A' xs.length cap') ∧ xs.length ≤ cap' ∧ cap' ≤ maxLen ∧ Row true w' A' cap' xs (rng w.heap.size w'.heap.size) ∧ Below w.heap.size w w' := by
  have hl : xs.length ≤ 1048576 := by have := szT_le xs 0; omega
  obtain ⟨i0, hi0, hz0, hz1, hz2⟩ := info_parts info_StringS
  have hmk := fun W => run_make_rowN (P := Tryd.prog) 26 9 i0 _ Tryd.underlying26 hi0 hz0 .i64 .i64 xs.length xs.length (Nat.le_refl _) (by rw [hz2]; omega) (by omega) W
  rw [hz1] at hmk
  clear hi0 hz0 hz1 hz2
  have hm0 := Row.made (α := ByteArray) (N := 1) w xs.length (#[.string ByteArray.empty] : Array Value) rfl rfl
  go_enter Tryd.func37, Tryd.ntmps37
  go_wp2
  go_loopw [4] (fun i wr => ∃ k : Nat, k ≤ xs.length ∧ i = .int .i64 k ∧ Below w.heap.size w wr ∧ w.heap.size + 1 ≤ wr.heap.size ∧ Row true wr (some ⟨w.heap.size, 0, none⟩) xs.length (xs.take k ++ List.replicate (xs.length - k) (Mk.z : ByteArray)) (rng w.heap.size wr.heap.size)) (fun i _ => xs.length - (intOf i).toNat)
  case atStart => exact ⟨0, Nat.zero_le _, rfl, by ((repeat (first | with_reducible exact Below.refl _ _ | with_reducible apply Below.drew | with_reducible refine Below.alloc ?_ ?_ _ | with_reducible refine Below.setCell ?_ ?_ _)); all_goals (first | with_reducible exact Nat.le_refl _ | omega | (simp; done) | (simp; omega))), by simp, by have h := hm0; (try simp only [Nat.mul_one] at h); simp only [World.size_alloc]; exact h⟩
  case round =>
    obtain ⟨k, hkk, rfl, hb, hz, hrow⟩ := hrel
    clear hm0
    by_cases hlt : k < xs.length
    · have hne : xs ≠ [] := by rintro rfl; simp at hlt
      obtain ⟨b1, o1, rfl, hS1, T1, hT1, _, he1⟩ := hx hne
      obtain ⟨c1, ha1, hr1⟩ := he1 k hlt
      have hl1 := ha1.lt (by rintro rfl; have := Lay.len hr1; cases this)
      replace ha1 := ha1.keep (hb.block _ hl1)
      replace hr1 := Lay.later hr1 hb
      have hszk := sz_le_L xs k hlt
      have hst := Lib.hid (take_step xs (Mk.z : ByteArray) k hlt)
      generalize xs[k] = x at hr1 hszk hst
      rcases hrow with ⟨h_, _⟩ | ⟨g2, cur, e_, _, hh, hcz, T, hT, hd, he⟩
      · cases h_
      cases e_
      have hsh : Shp wr w.heap.size (ty ByteArray) (xs.length * 1) := ⟨cur, hh, hcz⟩
      have HE := Lib.hid he; have HD := Lib.hid (hd rfl); have HT := Lib.hid hT
      have ho := old_cells (N := 1) he k (by simp; omega) rfl
      clear he hd hT hh hcz he1 hx
      obtain ⟨v0, ov0⟩ : ∃ v, wr.cell? ⟨w.heap.size, k, none⟩ = some v := by have := ho 0 (by omega); simpa using this
      have hf0 := fun o => hsh.frozen o
      clear ho
      obtain ⟨rfl, g1⟩ := open_str hr1
      have q0 := ha1 0 _ rfl; clear hr1 ha1
      simp only [show Lay.n ByteArray = 1 from rfl, Nat.add_zero, Nat.mul_one] at q0
      go_wp2
      go_roundw
      case rel =>
        refine ⟨k + 1, by omega, by go_num, by ((repeat (first | with_reducible exact hb | with_reducible exact Below.refl _ _ | with_reducible apply Below.drew | with_reducible refine Below.alloc ?_ ?_ _ | with_reducible refine Below.setCell ?_ ?_ _)); all_goals (first | with_reducible exact Nat.le_refl _ | omega | (simp; done) | (simp; omega))), by (try simp); omega, ?_⟩
        rw [hst.out]
        refine Row.setU (N := 1) (T := T) (w := wr) (U := (fun _ => False)) (cs := [.string x]) rfl (by unfold rng; (try simp); omega) (fun b h => by unfold rng at h ⊢; (try simp); omega) HT.out HD.out HE.out (by simp; omega) (show Shp _ _ (ty ByteArray) (xs.length * 1) from by (repeat (first | with_reducible exact hsh | with_reducible apply Shp.drew | with_reducible refine Shp.alloc ?_ _ | with_reducible refine Shp.set ?_ _ _))) (fun o ho => ?_) ?_ ?_ ?_ ?_ ?_
        · have n0 : o ≠ k := by intro h; apply ho; rw [h]; omega
          simp only [cell_set_ne _ _ _ o _ n0]
        · exact (show Chg (fun b => b = w.heap.size) wr _ from by (repeat (first | with_reducible exact Chg.refl _ _ | with_reducible apply Chg.drew | with_reducible refine Chg.setCell ?_ ?_ _ | exact Or.inl rfl)))
        · intro j u hu
          have hj : j < 1 := (List.getElem?_eq_some_iff.1 hu).1
          obtain rfl : j = 0 := by omega
          all_goals (have hu := Option.some.inj hu; subst hu; go_simp; try simp)
        · exact ⟨rfl, g1⟩
        · exact fun _ x => x.elim
        · exact fun _ x => x.elim
      case measure => simp [intOf]; omega
    · have hke : k = xs.length := by omega
      go_wp2
      go_ret; subst hke; exact ⟨some ⟨w.heap.size, 0, none⟩, xs.length, rfl, Nat.le_refl _, by unfold maxLen; omega, by simpa using hrow, hb⟩
set_option maxRecDepth 40000 in set_option maxHeartbeats 4000000 in
theorem to_Leaf (x : Leaf) (w : World) (cs : List Value) (S : Blks) (hx : rd false w cs x S) (hsz : x.sz ≤ 1048576) :
    Calls Tryd.prog 93 #[.agg cs.toArray] w fun e w' => ∃ cs', e = .returned (.agg cs'.toArray) ∧ rd true w' cs' x (rng w.heap.size w'.heap.size) ∧ Below w.heap.size w w' := by
  obtain ⟨rfl, f0, f1⟩ := Leaf.open hx
  clear hx
  unfold Leaf.sz at hsz
  simp only [Leaf.cs]
  go_enter Tryd.func93, Tryd.ntmps93
  go_wp2
  refine bodyPost_ret (v := .agg #[.string x.name, .string x.value]) (by simp [results, Tryd.results93, go_sem]) rfl ⟨[.string x.name, .string x.value], rfl, ?_, by ((repeat (first | with_reducible exact Below.refl _ _ | with_reducible apply Below.drew | with_reducible refine Below.alloc ?_ ?_ _ | with_reducible refine Below.setCell ?_ ?_ _)); all_goals (first | with_reducible exact Nat.le_refl _ | omega | (simp; done) | (simp; omega)))⟩
  exact Leaf.mk' (m := true) (x := x) f0 f1
theorem info_LeafS : (Tryd.prog.info? 110).map (fun i => (i.zero, i.size, i.bytes)) = some (some (.agg #[.string ⟨#[]⟩, .string ⟨#[]⟩]), 2, 32) := by kernel_rfl
set_option maxRecDepth 40000 in set_option maxHeartbeats 4000000 in
theorem to_LeafS (xs : List Leaf) (w : World) (A : Option Addr) (cap : Nat) (S : Blks) (hx : Row false w A cap xs S) (hsz : szL xs ≤ 1048576) :
    Calls Tryd.prog 36 #[.slice A xs.length cap] w fun e w' => ∃ A' cap', e = .returned (.slice A' xs.length cap') ∧ xs.length ≤ cap' ∧ cap' ≤ maxLen ∧ Row true w' A' cap' xs (rng w.heap.size w'.heap.size) ∧ Below w.heap.size w w' := by
  have hl : xs.length ≤ 1048576 := by have := szT_le xs 0; omega
  obtain ⟨i0, hi0, hz0, hz1, hz2⟩ := info_parts info_LeafS
  have hmk := fun W => run_make_rowN (P := Tryd.prog) 55 110 i0 _ Tryd.underlying55 hi0 hz0 .i64 .i64 xs.length xs.length (Nat.le_refl _) (by rw [hz2]; omega) (by omega) W
  rw [hz1] at hmk
  clear hi0 hz0 hz1 hz2
  have hm0 := Row.made (α := Leaf) (N := 2) w xs.length (#[.string ByteArray.empty, .string ByteArray.empty] : Array Value) rfl rfl
  go_enter Tryd.func36, Tryd.ntmps36
  go_wp2
  go_loopw [4] (fun i wr => ∃ k : Nat, k ≤ xs.length ∧ i = .int .i64 k ∧ Below w.heap.size w wr ∧ w.heap.size + 1 ≤ wr.heap.size ∧ Row true wr (some ⟨w.heap.size, 0, none⟩) xs.length (xs.take k ++ List.replicate (xs.length - k) (Mk.z : Leaf)) (rng w.heap.size wr.heap.size)) (fun i _ => xs.length - (intOf i).toNat)
  case atStart => exact ⟨0, Nat.zero_le _, rfl, by ((repeat (first | with_reducible exact Below.refl _ _ | with_reducible apply Below.drew | with_reducible refine Below.alloc ?_ ?_ _ | with_reducible refine Below.setCell ?_ ?_ _)); all_goals (first | with_reducible exact Nat.le_refl _ | omega | (simp; done) | (simp; omega))), by simp, by have h := hm0; (try simp only [Nat.mul_one] at h); simp only [World.size_alloc]; exact h⟩
  case round =>
    obtain ⟨k, hkk, rfl, hb, hz, hrow⟩ := hrel
    clear hm0
    by_cases hlt : k < xs.length
    · have hne : xs ≠ [] := by rintro rfl; simp at hlt
      obtain ⟨b1, o1, rfl, hS1, T1, hT1, _, he1⟩ := hx hne
      obtain ⟨c1, ha1, hr1⟩ := he1 k hlt
      have hl1 := ha1.lt (by rintro rfl; have := Lay.len hr1; cases this)
      replace ha1 := ha1.keep (hb.block _ hl1)
      replace hr1 := Lay.later hr1 hb
      have hszk := sz_le_L xs k hlt
      have hst := Lib.hid (take_step xs (Mk.z : Leaf) k hlt)
      generalize xs[k] = x at hr1 hszk hst
      rcases hrow with ⟨h_, _⟩ | ⟨g2, cur, e_, _, hh, hcz, T, hT, hd, he⟩
      · cases h_
      cases e_
      have hsh : Shp wr w.heap.size (ty Leaf) (xs.length * 2) := ⟨cur, hh, hcz⟩
      have HE := Lib.hid he; have HD := Lib.hid (hd rfl); have HT := Lib.hid hT
      have ho := old_cells (N := 2) he k (by simp; omega) rfl
      clear he hd hT hh hcz he1 hx
      obtain ⟨v0, ov0⟩ : ∃ v, wr.cell? ⟨w.heap.size, k * 2, none⟩ = some v := by have := ho 0 (by omega); simpa using this
      obtain ⟨v1, ov1⟩ : ∃ v, wr.cell? ⟨w.heap.size, k * 2 + 1, none⟩ = some v := by have := ho 1 (by omega); simpa using this
      have hf0 := fun o => hsh.frozen o
      clear ho
      have ht := Lib.hid hr1
      obtain ⟨rfl, ef0, ef1⟩ := Leaf.open hr1
      have q0 := ha1 0 _ rfl
      have q1 := ha1 1 _ rfl
      simp only [show Lay.n Leaf = 2 from rfl, Nat.add_zero] at q0 q1
      clear ha1
      have hszx : x.sz ≤ 1048576 := by have : Mk.sz x = x.sz := rfl; omega
      go_wp2_with (fail)
      refine (to_Leaf x _ (Leaf.cs x) _ (Lay.later ht.out (by ((repeat (first | with_reducible exact Below.refl _ _ | with_reducible apply Below.drew | with_reducible refine Below.alloc ?_ ?_ _ | with_reducible refine Below.setCell ?_ ?_ _)); all_goals (first | with_reducible exact Nat.le_refl _ | omega | (simp; done) | (simp; omega))))) hszx).mono ?_
      rintro e1 w1 ⟨cs1, rfl, hn1, hb1⟩
      have hn2 := Lib.hid hn1
      obtain ⟨rfl, nf0, nf1⟩ := Leaf.open hn1
      simp only [Leaf.cs]
      have hB1 : Below w.heap.size w w1 := by refine Below.trans (b := _) ?_ (hb1.mono ?_) <;> ((repeat (first | with_reducible exact hb | with_reducible exact Below.refl _ _ | with_reducible apply Below.drew | with_reducible refine Below.alloc ?_ ?_ _ | with_reducible refine Below.setCell ?_ ?_ _)); all_goals (first | with_reducible exact Nat.le_refl _ | omega | (simp; done) | (simp; omega)))
      have hz1 : wr.heap.size ≤ w1.heap.size := by have := hb1.size; (try simp at this); omega
      have hc1 := fun o => hb1.cell (p := ⟨w.heap.size, o, none⟩) (by first | with_reducible exact Nat.le_refl _ | omega | (simp; done) | (simp; omega))
      have hg1 := fun o => hb1.frozen (p := ⟨w.heap.size, o, none⟩) (by first | with_reducible exact Nat.le_refl _ | omega | (simp; done) | (simp; omega))
      have hsh1 : Shp w1 w.heap.size (ty Leaf) (xs.length * 2) := hsh.of (hb1.block _ (by first | with_reducible exact Nat.le_refl _ | omega | (simp; done) | (simp; omega)))
      have hn3 : rd true w1 [.string x.name, .string x.value] x (rng wr.heap.size w1.heap.size) := Lay.mono hn2.out (fun b h => by unfold rng at h ⊢; (try simp at h); omega)
      have hq1 : Chg (fun b => b = w.heap.size) wr w1 := (show Chg _ wr _ from by (repeat (first | with_reducible exact Chg.refl _ _ | with_reducible apply Chg.drew))).below hb1 (by first | with_reducible exact Nat.le_refl _ | omega | (simp; done) | (simp; omega))
      go_wp2
      go_roundw
      case rel =>
        refine ⟨k + 1, by omega, by go_num, by ((repeat (first | with_reducible exact hB1 | with_reducible exact Below.refl _ _ | with_reducible apply Below.drew | with_reducible refine Below.alloc ?_ ?_ _ | with_reducible refine Below.setCell ?_ ?_ _)); all_goals (first | with_reducible exact Nat.le_refl _ | omega | (simp; done) | (simp; omega))), by (try simp); omega, ?_⟩
        rw [hst.out]
        refine Row.setU (N := 2) (T := T) (w := wr) (U := (rng wr.heap.size w1.heap.size)) (cs := [.string x.name, .string x.value]) rfl (by unfold rng; (try simp); omega) (fun b h => by unfold rng at h ⊢; (try simp); omega) HT.out HD.out HE.out (by simp; omega) (show Shp _ _ (ty Leaf) (xs.length * 2) from by (repeat (first | with_reducible exact hsh1 | with_reducible apply Shp.drew | with_reducible refine Shp.alloc ?_ _ | with_reducible refine Shp.set ?_ _ _))) (fun o ho => ?_) ?_ ?_ ?_ ?_ ?_
        · have n0 : o ≠ k * 2 := by intro h; apply ho; rw [h]; omega
          have n1 : o ≠ k * 2 + 1 := by intro h; apply ho; rw [h]; omega
          simp only [hc1, cell_set_ne _ _ _ o _ n0, cell_set_ne _ _ _ o _ n1]
        · exact (show Chg (fun b => b = w.heap.size) wr _ from by (repeat (first | with_reducible exact hq1 | with_reducible apply Chg.drew | with_reducible refine Chg.setCell ?_ ?_ _ | exact Or.inl rfl)))
        · intro j u hu
          have hj : j < 2 := (List.getElem?_eq_some_iff.1 hu).1
          rcases (by omega : j = 0 ∨ j = 1) with rfl | rfl
          all_goals (have hu := Option.some.inj hu; subst hu; go_simp; try simp)
        · exact (show rd true _ [.string x.name, .string x.value] x (rng wr.heap.size w1.heap.size) from by (repeat (first | with_reducible exact hn3 | with_reducible apply rd_drewC | with_reducible refine rd_setC ?_ ?_ _ | exact (fun h => by unfold rng at h; simp only at h; omega))))
        · exact fun b h => by unfold rng at h ⊢; (try simp); constructor <;> omega
        · exact fun b h => by unfold rng at h; exact h.1
      case measure => simp [intOf]; omega
    · have hke : k = xs.length := by omega
      go_wp2
      go_ret; subst hke; exact ⟨some ⟨w.heap.size, 0, none⟩, xs.length, rfl, Nat.le_refl _, by unfold maxLen; omega, by simpa using hrow, hb⟩
theorem info_LeafSS : (Tryd.prog.info? 55).map (fun i => (i.zero, i.size, i.bytes)) = some (some (.slice none 0 0), 1, 24) := by kernel_rfl
set_option maxRecDepth 40000 in set_option maxHeartbeats 4000000 in
theorem to_LeafSS (xs : List (List Leaf)) (w : World) (A : Option Addr) (cap : Nat) (S : Blks) (hx : Row false w A cap xs S) (hsz : szL xs ≤ 1048576) :
    Calls Tryd.prog 61 #[.slice A xs.length cap] w fun e w' => ∃ A' cap', e = .returned (.slice A' xs.length cap') ∧ xs.length ≤ cap' ∧ cap' ≤ maxLen ∧ Row true w' A' cap' xs (rng w.heap.size w'.heap.size) ∧ Below w.heap.size w w' := by
  have hl : xs.length ≤ 1048576 := by have := szT_le xs 0; omega
  obtain ⟨i0, hi0, hz0, hz1, hz2⟩ := info_parts info_LeafSS
  have hmk := fun W => run_make_rowN (P := Tryd.prog) 49 55 i0 _ Tryd.underlying49 hi0 hz0 .i64 .i64 xs.length xs.length (Nat.le_refl _) (by rw [hz2]; omega) (by omega) W
  rw [hz1] at hmk
  clear hi0 hz0 hz1 hz2
  have hm0 := Row.made (α := (List Leaf)) (N := 1) w xs.length (#[.slice none 0 0] : Array Value) rfl rfl
  go_enter Tryd.func61, Tryd.ntmps61
  go_wp2
  go_loopw [4] (fun i wr => ∃ k : Nat, k ≤ xs.length ∧ i = .int .i64 k ∧ Below w.heap.size w wr ∧ w.heap.size + 1 ≤ wr.heap.size ∧ Row true wr (some ⟨w.heap.size, 0, none⟩) xs.length (xs.take k ++ List.replicate (xs.length - k) (Mk.z : List Leaf)) (rng w.heap.size wr.heap.size)) (fun i _ => xs.length - (intOf i).toNat)
  case atStart => exact ⟨0, Nat.zero_le _, rfl, by ((repeat (first | with_reducible exact Below.refl _ _ | with_reducible apply Below.drew | with_reducible refine Below.alloc ?_ ?_ _ | with_reducible refine Below.setCell ?_ ?_ _)); all_goals (first | with_reducible exact Nat.le_refl _ | omega | (simp; done) | (simp; omega))), by simp, by have h := hm0; (try simp only [Nat.mul_one] at h); simp only [World.size_alloc]; exact h⟩
  case round =>
    obtain ⟨k, hkk, rfl, hb, hz, hrow⟩ := hrel
    clear hm0
    by_cases hlt : k < xs.length
    · have hne : xs ≠ [] := by rintro rfl; simp at hlt
      obtain ⟨b1, o1, rfl, hS1, T1, hT1, _, he1⟩ := hx hne
      obtain ⟨c1, ha1, hr1⟩ := he1 k hlt
      have hl1 := ha1.lt (by rintro rfl; have := Lay.len hr1; cases this)
      replace ha1 := ha1.keep (hb.block _ hl1)
      replace hr1 := Lay.later hr1 hb
      have hszk := sz_le_L xs k hlt
      have hst := Lib.hid (take_step xs (Mk.z : List Leaf) k hlt)
      generalize xs[k] = x at hr1 hszk hst
      rcases hrow with ⟨h_, _⟩ | ⟨g2, cur, e_, _, hh, hcz, T, hT, hd, he⟩
      · cases h_
      cases e_
      have hsh : Shp wr w.heap.size (ty (List Leaf)) (xs.length * 1) := ⟨cur, hh, hcz⟩
      have HE := Lib.hid he; have HD := Lib.hid (hd rfl); have HT := Lib.hid hT
      have ho := old_cells (N := 1) he k (by simp; omega) rfl
      clear he hd hT hh hcz he1 hx
      obtain ⟨v0, ov0⟩ : ∃ v, wr.cell? ⟨w.heap.size, k, none⟩ = some v := by have := ho 0 (by omega); simpa using this
      have hf0 := fun o => hsh.frozen o
      clear ho
      obtain ⟨A2, k2, rfl, g1, g2, hrow2⟩ := open_list hr1
      have q0 := ha1 0 _ rfl; clear hr1 ha1
      simp only [show Lay.n (List Leaf) = 1 from rfl, Nat.add_zero, Nat.mul_one] at q0
      have hszx : szL x ≤ 1048576 := by have : Mk.sz x = szL x := rfl; omega
      go_wp2_with (fail)
      refine (to_LeafS x _ _ _ _ (hrow2.later (by ((repeat (first | with_reducible exact Below.refl _ _ | with_reducible apply Below.drew | with_reducible refine Below.alloc ?_ ?_ _ | with_reducible refine Below.setCell ?_ ?_ _)); all_goals (first | with_reducible exact Nat.le_refl _ | omega | (simp; done) | (simp; omega))))) hszx).mono ?_
      rintro e1 w1 ⟨nA0, nk0, rfl, na0, nb0, nr0, hb1⟩
      have hB1 : Below w.heap.size w w1 := by refine Below.trans (b := _) ?_ (hb1.mono ?_) <;> ((repeat (first | with_reducible exact hb | with_reducible exact Below.refl _ _ | with_reducible apply Below.drew | with_reducible refine Below.alloc ?_ ?_ _ | with_reducible refine Below.setCell ?_ ?_ _)); all_goals (first | with_reducible exact Nat.le_refl _ | omega | (simp; done) | (simp; omega)))
      have hz1 : wr.heap.size ≤ w1.heap.size := by have := hb1.size; (try simp at this); omega
      have hc1 := fun o => hb1.cell (p := ⟨w.heap.size, o, none⟩) (by first | with_reducible exact Nat.le_refl _ | omega | (simp; done) | (simp; omega))
      have hg1 := fun o => hb1.frozen (p := ⟨w.heap.size, o, none⟩) (by first | with_reducible exact Nat.le_refl _ | omega | (simp; done) | (simp; omega))
      have hsh1 : Shp w1 w.heap.size (ty (List Leaf)) (xs.length * 1) := hsh.of (hb1.block _ (by first | with_reducible exact Nat.le_refl _ | omega | (simp; done) | (simp; omega)))
      have nr1 : Row true w1 nA0 nk0 x (rng wr.heap.size w1.heap.size) := nr0.mono (fun b h => by unfold rng at h ⊢; (try simp at h); omega)
      have hq1 : Chg (fun b => b = w.heap.size) wr w1 := (show Chg _ wr _ from by (repeat (first | with_reducible exact Chg.refl _ _ | with_reducible apply Chg.drew))).below hb1 (by first | with_reducible exact Nat.le_refl _ | omega | (simp; done) | (simp; omega))
      go_wp2
      go_roundw
      case rel =>
        refine ⟨k + 1, by omega, by go_num, by ((repeat (first | with_reducible exact hB1 | with_reducible exact Below.refl _ _ | with_reducible apply Below.drew | with_reducible refine Below.alloc ?_ ?_ _ | with_reducible refine Below.setCell ?_ ?_ _)); all_goals (first | with_reducible exact Nat.le_refl _ | omega | (simp; done) | (simp; omega))), by (try simp); omega, ?_⟩
        rw [hst.out]
        refine Row.setU (N := 1) (T := T) (w := wr) (U := (rng wr.heap.size w1.heap.size)) (cs := [.slice nA0 x.length nk0]) rfl (by unfold rng; (try simp); omega) (fun b h => by unfold rng at h ⊢; (try simp); omega) HT.out HD.out HE.out (by simp; omega) (show Shp _ _ (ty (List Leaf)) (xs.length * 1) from by (repeat (first | with_reducible exact hsh1 | with_reducible apply Shp.drew | with_reducible refine Shp.alloc ?_ _ | with_reducible refine Shp.set ?_ _ _))) (fun o ho => ?_) ?_ ?_ ?_ ?_ ?_
        · have n0 : o ≠ k := by intro h; apply ho; rw [h]; omega
          simp only [hc1, cell_set_ne _ _ _ o _ n0]
        · exact (show Chg (fun b => b = w.heap.size) wr _ from by (repeat (first | with_reducible exact hq1 | with_reducible apply Chg.drew | with_reducible refine Chg.setCell ?_ ?_ _ | exact Or.inl rfl)))
        · intro j u hu
          have hj : j < 1 := (List.getElem?_eq_some_iff.1 hu).1
          obtain rfl : j = 0 := by omega
          all_goals (have hu := Option.some.inj hu; subst hu; go_simp; try simp)
        · exact ⟨nA0, nk0, rfl, na0, nb0, (show Row true _ nA0 nk0 x (rng wr.heap.size w1.heap.size) from by (repeat (first | with_reducible exact nr1 | with_reducible apply Row.drewC | with_reducible refine Row.allocC ?_ _ | with_reducible refine Row.setC ?_ ?_ _ | exact (fun h => by unfold rng at h; simp only at h; omega))))⟩
        · exact fun b h => by unfold rng at h ⊢; (try simp); constructor <;> omega
        · exact fun b h => by unfold rng at h; exact h.1
      case measure => simp [intOf]; omega
    · have hke : k = xs.length := by omega
      go_wp2
      go_ret; subst hke; exact ⟨some ⟨w.heap.size, 0, none⟩, xs.length, rfl, Nat.le_refl _, by unfold maxLen; omega, by simpa using hrow, hb⟩
set_option maxRecDepth 40000 in set_option maxHeartbeats 4000000 in
theorem to_Many (x : Many) (w : World) (cs : List Value) (S : Blks) (hx : rd false w cs x S) (hsz : x.sz ≤ 1048576) :
    Calls Tryd.prog 19 #[.agg cs.toArray] w fun e w' => ∃ cs', e = .returned (.agg cs'.toArray) ∧ rd true w' cs' x (rng w.heap.size w'.heap.size) ∧ Below w.heap.size w w' := by
  obtain ⟨A0, k0, S0, A1, k1, S1, A2, k2, S2, rfl, a0, b0, r0, s0, a1, b1, r1, s1, a2, b2, r2, s2, pw⟩ := Many.open hx
  clear hx
  unfold Many.sz at hsz
  simp only [Many.cs]
  go_enter Tryd.func19, Tryd.ntmps19
  go_wp2_with (fail)
  refine (to_StringS x.names _ A0 k0 S0 (r0.later (by ((repeat (first | with_reducible exact Below.refl _ _ | with_reducible apply Below.drew | with_reducible refine Below.alloc ?_ ?_ _ | with_reducible refine Below.setCell ?_ ?_ _)); all_goals (first | with_reducible exact Nat.le_refl _ | omega | (simp; done) | (simp; omega))))) (by omega)).mono ?_
  rintro e1 w1 ⟨nA0, nk0, rfl, na0, nb0, nr0, hb1⟩
  have hB1 : Below w.heap.size w w1 := by refine Below.trans (b := _) ?_ (hb1.mono ?_) <;> ((repeat (first | with_reducible exact Below.refl _ _ | with_reducible apply Below.drew | with_reducible refine Below.alloc ?_ ?_ _ | with_reducible refine Below.setCell ?_ ?_ _)); all_goals (first | with_reducible exact Nat.le_refl _ | omega | (simp; done) | (simp; omega)))
  have hz1 : w.heap.size + 3 ≤ w1.heap.size := by have := hb1.size; (try simp at this); omega
  have hc1 := fun o => hb1.cell (p := ⟨w.heap.size, o, none⟩) (by first | with_reducible exact Nat.le_refl _ | omega | (simp; done) | (simp; omega))
  have hd1 := fun o => hb1.cell (p := ⟨w.heap.size + 1, o, none⟩) (by first | with_reducible exact Nat.le_refl _ | omega | (simp; done) | (simp; omega))
  have he1 := fun o => hb1.cell (p := ⟨w.heap.size + 2, o, none⟩) (by first | with_reducible exact Nat.le_refl _ | omega | (simp; done) | (simp; omega))
  have hfd1 := fun o => hb1.frozen (p := ⟨w.heap.size + 1, o, none⟩) (by first | with_reducible exact Nat.le_refl _ | omega | (simp; done) | (simp; omega))
  have hfe1 := fun o => hb1.frozen (p := ⟨w.heap.size + 2, o, none⟩) (by first | with_reducible exact Nat.le_refl _ | omega | (simp; done) | (simp; omega))
  have hw1 := hb1.size
  (try simp at hw1)
  have nS0_ : True := trivial
  replace nr0 := nr0.mono (S' := rng (w.heap.size + 3) w1.heap.size) (fun b h => by unfold rng at h ⊢; (try simp at h); omega)
  go_wp2_with (fail)
  refine (to_LeafSS x.buckets _ A1 k1 S1 (r1.later (by ((repeat (first | with_reducible exact hB1 | with_reducible exact Below.refl _ _ | with_reducible apply Below.drew | with_reducible refine Below.alloc ?_ ?_ _ | with_reducible refine Below.setCell ?_ ?_ _)); all_goals (first | with_reducible exact Nat.le_refl _ | omega | (simp; done) | (simp; omega))))) (by omega)).mono ?_
  rintro e2 w2 ⟨nA1, nk1, rfl, na1, nb1, nr1, hb2⟩
  have hB2 : Below w.heap.size w w2 := by refine Below.trans (b := _) ?_ (hb2.mono ?_) <;> ((repeat (first | with_reducible exact hB1 | with_reducible exact Below.refl _ _ | with_reducible apply Below.drew | with_reducible refine Below.alloc ?_ ?_ _ | with_reducible refine Below.setCell ?_ ?_ _)); all_goals (first | with_reducible exact Nat.le_refl _ | omega | (simp; done) | (simp; omega)))
  have hz2 : w.heap.size + 3 ≤ w2.heap.size := by have := hb2.size; (try simp at this); omega
  have hc2 := fun o => hb2.cell (p := ⟨w.heap.size, o, none⟩) (by first | with_reducible exact Nat.le_refl _ | omega | (simp; done) | (simp; omega))
  have hd2 := fun o => hb2.cell (p := ⟨w.heap.size + 1, o, none⟩) (by first | with_reducible exact Nat.le_refl _ | omega | (simp; done) | (simp; omega))
  have he2 := fun o => hb2.cell (p := ⟨w.heap.size + 2, o, none⟩) (by first | with_reducible exact Nat.le_refl _ | omega | (simp; done) | (simp; omega))
  have hfd2 := fun o => hb2.frozen (p := ⟨w.heap.size + 1, o, none⟩) (by first | with_reducible exact Nat.le_refl _ | omega | (simp; done) | (simp; omega))
  have hfe2 := fun o => hb2.frozen (p := ⟨w.heap.size + 2, o, none⟩) (by first | with_reducible exact Nat.le_refl _ | omega | (simp; done) | (simp; omega))
  have hw2 := hb2.size
  (try simp at hw2)
  have nr0_2 := Row.later (show Row true _ nA0 nk0 x.names (rng (w.heap.size + 3) w1.heap.size) from by (repeat (first | with_reducible exact nr0 | with_reducible apply Row.drewC | with_reducible refine Row.allocC ?_ _ | with_reducible refine Row.setC ?_ ?_ _ | exact (fun h => by unfold rng at h; simp only at h; omega)))) hb2
  have nS1_ : True := trivial
  replace nr1 := nr1.mono (S' := rng (w1.heap.size) w2.heap.size) (fun b h => by unfold rng at h ⊢; (try simp at h); omega)
  go_wp2_with (fail)
  refine (to_StringS x.sides _ A2 k2 S2 (r2.later (by ((repeat (first | with_reducible exact hB2 | with_reducible exact Below.refl _ _ | with_reducible apply Below.drew | with_reducible refine Below.alloc ?_ ?_ _ | with_reducible refine Below.setCell ?_ ?_ _)); all_goals (first | with_reducible exact Nat.le_refl _ | omega | (simp; done) | (simp; omega))))) (by omega)).mono ?_
  rintro e3 w3 ⟨nA2, nk2, rfl, na2, nb2, nr2, hb3⟩
  have hB3 : Below w.heap.size w w3 := by refine Below.trans (b := _) ?_ (hb3.mono ?_) <;> ((repeat (first | with_reducible exact hB2 | with_reducible exact Below.refl _ _ | with_reducible apply Below.drew | with_reducible refine Below.alloc ?_ ?_ _ | with_reducible refine Below.setCell ?_ ?_ _)); all_goals (first | with_reducible exact Nat.le_refl _ | omega | (simp; done) | (simp; omega)))
  have hz3 : w.heap.size + 3 ≤ w3.heap.size := by have := hb3.size; (try simp at this); omega
  have hc3 := fun o => hb3.cell (p := ⟨w.heap.size, o, none⟩) (by first | with_reducible exact Nat.le_refl _ | omega | (simp; done) | (simp; omega))
  have hd3 := fun o => hb3.cell (p := ⟨w.heap.size + 1, o, none⟩) (by first | with_reducible exact Nat.le_refl _ | omega | (simp; done) | (simp; omega))
  have he3 := fun o => hb3.cell (p := ⟨w.heap.size + 2, o, none⟩) (by first | with_reducible exact Nat.le_refl _ | omega | (simp; done) | (simp; omega))
  have hfd3 := fun o => hb3.frozen (p := ⟨w.heap.size + 1, o, none⟩) (by first | with_reducible exact Nat.le_refl _ | omega | (simp; done) | (simp; omega))
  have hfe3 := fun o => hb3.frozen (p := ⟨w.heap.size + 2, o, none⟩) (by first | with_reducible exact Nat.le_refl _ | omega | (simp; done) | (simp; omega))
  have hw3 := hb3.size
  (try simp at hw3)
  have nr0_3 := Row.later (show Row true _ nA0 nk0 x.names (rng (w.heap.size + 3) w1.heap.size) from by (repeat (first | with_reducible exact nr0_2 | with_reducible apply Row.drewC | with_reducible refine Row.allocC ?_ _ | with_reducible refine Row.setC ?_ ?_ _ | exact (fun h => by unfold rng at h; simp only at h; omega)))) hb3
  have nr1_3 := Row.later (show Row true _ nA1 nk1 x.buckets (rng (w1.heap.size) w2.heap.size) from by (repeat (first | with_reducible exact nr1 | with_reducible apply Row.drewC | with_reducible refine Row.allocC ?_ _ | with_reducible refine Row.setC ?_ ?_ _ | exact (fun h => by unfold rng at h; simp only at h; omega)))) hb3
  have nS2_ : True := trivial
  replace nr2 := nr2.mono (S' := rng (w2.heap.size) w3.heap.size) (fun b h => by unfold rng at h ⊢; (try simp at h); omega)
  go_wp2
  refine bodyPost_ret (v := .agg #[.slice nA0 x.names.length nk0, .slice nA1 x.buckets.length nk1, .slice nA2 x.sides.length nk2]) (by simp [results, Tryd.results19, go_sem, hd3, he3, hd2, he2, hd1, he1]) rfl ⟨[.slice nA0 x.names.length nk0, .slice nA1 x.buckets.length nk1, .slice nA2 x.sides.length nk2], rfl, ?_, by ((repeat (first | with_reducible exact hB3 | with_reducible exact Below.refl _ _ | with_reducible apply Below.drew | with_reducible refine Below.alloc ?_ ?_ _ | with_reducible refine Below.setCell ?_ ?_ _)); all_goals (first | with_reducible exact Nat.le_refl _ | omega | (simp; done) | (simp; omega)))⟩
  exact Many.mk' (m := true) (x := x) na0 nb0 (show Row true _ nA0 nk0 x.names (rng (w.heap.size + 3) w1.heap.size) from by (repeat (first | with_reducible exact nr0_3 | with_reducible apply Row.drewC | with_reducible refine Row.allocC ?_ _ | with_reducible refine Row.setC ?_ ?_ _ | exact (fun h => by unfold rng at h; simp only at h; omega)))) (fun b h => by unfold rng at h ⊢; simp; omega) na1 nb1 (show Row true _ nA1 nk1 x.buckets (rng (w1.heap.size) w2.heap.size) from by (repeat (first | with_reducible exact nr1_3 | with_reducible apply Row.drewC | with_reducible refine Row.allocC ?_ _ | with_reducible refine Row.setC ?_ ?_ _ | exact (fun h => by unfold rng at h; simp only at h; omega)))) (fun b h => by unfold rng at h ⊢; simp; omega) na2 nb2 (show Row true _ nA2 nk2 x.sides (rng (w2.heap.size) w3.heap.size) from by (repeat (first | with_reducible exact nr2 | with_reducible apply Row.drewC | with_reducible refine Row.allocC ?_ _ | with_reducible refine Row.setC ?_ ?_ _ | exact (fun h => by unfold rng at h; simp only at h; omega)))) (fun b h => by unfold rng at h ⊢; simp; omega) (fun _ => pwmk3 (fun b h1 h2 => by unfold rng at h1 h2; omega) (fun b h1 h2 => by unfold rng at h1 h2; omega) (fun b h1 h2 => by unfold rng at h1 h2; omega))
end Go.Proofs.YtojbehmbeoemgaaDoor
