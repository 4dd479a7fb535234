/- Walks: copies of signatures and of signed heads. -/
import Derived.Test.YthgonaodmpegfaaGreatLg
import Derived.Test.YthgonaodmpegfaaGreatSa
set_option linter.unusedVariables false
set_option linter.unusedSimpArgs false
namespace Go.Proofs.YthgonaodmpegfaaGreat
open Go.RowKit Lay Mk
/-- one new element, with rows of its own -/
theorem src_one {α : Type} [Lay α] (w : World) (y : α) (cs : Array Value) (t : TypeId) (b : Nat) (hb : b = w.heap.size) {T : Blks} (h : rd true w cs.toList y T) : Src (w.alloc (.cells cs t)) (some ⟨b, 0, none⟩) [y] (fun b => T b ∧ b < w.heap.size) := by
  subst hb
  intro _
  refine ⟨_, _, rfl, fun i => if i = 0 then (fun b => T b ∧ b < w.heap.size) else none_, fun i b x => ?_, fun _ i j hij b x y => ?_, fun i hi => ?_⟩
  · by_cases hi : i = 0
    · simp only [hi, if_true] at x; exact x
    · simp only [hi, if_false] at x; exact x.elim
  · by_cases hi : i = 0
    · simp only [show j ≠ 0 by omega, if_false] at y; exact y.elim
    · simp only [hi, if_false] at x; exact x.elim
  · have hi : i = 0 := by simpa using hi
    subst hi
    refine ⟨cs.toList, fun j u hu => ?_, ?_⟩
    · rw [World.cell?_alloc_mark]; simpa using hu
    · exact Lay.keep (Lay.tight h) (fun b x => Below.heap_alloc _ _ _ x.2)
theorem rngD {a b c d : Nat} (h : b ≤ c) : disj (rng a b) (rng c d) := fun x h1 h2 => by unfold rng at h1 h2; omega
theorem heap_newb (w : World) (o : Obj) (b : Nat) (h : b = w.heap.size) : (w.alloc o).heap[b]? = some o := by subst h; exact heap_alloc_new w o
theorem row_litat {α : Type} [Lay α] (w : World) (t : TypeId) (b : Nat) (ht : t = ty α) (h : w.heap[b]? = some (.cells #[] t)) : Row (α := α) true w (some ⟨b, 0, none⟩) 0 [] (fun y => y = b) := by
  subst ht
  exact .inr ⟨b, #[], rfl, rfl, h, by simp, fun _ => none_, fun _ _ x => x.elim, fun _ _ _ _ _ x => x.elim, fun i hi => absurd hi (by simp)⟩
/-- a literal's block, and new ones -/
def own (b lo hi : Nat) : Blks := fun y => y = b ∨ (lo ≤ y ∧ y < hi)
theorem own_not {b lo hi y : Nat} (h1 : y ≠ b) (h2 : y < lo ∨ hi ≤ y) : ¬ own b lo hi y := fun h => by unfold own at h; omega
theorem own_chg {b lo hi c s : Nat} (h1 : b ≠ c) (h2 : c < lo ∨ hi ≤ c) : ∀ y, own b lo hi y → y < s → ¬ y = c := fun y h _ => by unfold own at h; omega
theorem own_sub {b lo hi B s : Nat} (h1 : B ≤ b) (h2 : b < s) (h3 : B ≤ lo) (h4 : hi ≤ s) : sub (own b lo hi) (rng B s) := fun y h => by unfold own at h; unfold rng; omega
theorem own_disj {b lo hi c lo' hi' : Nat} (h1 : b ≠ c) (h2 : b < lo' ∨ hi' ≤ b) (h3 : c < lo ∨ hi ≤ c) (h4 : hi ≤ lo' ∨ hi' ≤ lo) : disj (own b lo hi) (own c lo' hi') := fun y h h' => by unfold own at h h'; omega
theorem step_lit {α : Type} [Lay α] [SlTy α] [Inf α] {ops : Array Oper} {o : Oper} {a : Act} {K : Act → World → Prop} {Q : Exit → Act → World → Prop} {E : Prop} {w : World} (hgd : o.guard = none) (s x : Operand)
    (ho : o.op = .call { callee := .builtin .append, args := #[s, x], argTypes := #[SlTy.st α, SlTy.st α] })
    {A2 : Option Addr} {b c2 m : Nat} {ys : List α} {S2 : Blks} {md : Bool} [Flat α] (hs : a.eval s = .slice (some ⟨b, 0, none⟩) 0 0)
    (hx : a.eval x = .slice A2 m c2) (hm : m = ys.length) (hl : w.heap[b]? = some (.cells #[] (ty α))) (hsrc : Row md w A2 c2 ys S2) (hb : m ≤ 4000000000)
    (h : ∀ A' cap' w', m ≤ cap' → cap' ≤ maxLen → Row true w' A' cap' ys (own b w.heap.size w'.heap.size) → Chg (fun y => y = b) w w' → K (a.put o.dst (.slice A' m cap')) w') :
    if Region.wanted o (yielded ops a.tmps) = true then Oper.wp Tryz.prog o a w K Q else E := by
  refine step_app (α := α) (xs := []) (ys := ys) hgd s x ho hs rfl (row_litat w (ty α) b rfl hl) (by simp) (by decide) hx hm (Src.flat hsrc) (disj_none_ _) (by omega) ?_
  intro A' cap' w' h1 h2 h3 h4
  have := h A' cap' w' (by omega) h2 (by simpa using h3.mono (fun y h => h.elim .inl (fun h => h.elim (fun h => h.elim) .inr))) h4
  simpa using this
theorem Row.viaChg {α : Type} [Lay α] {m : Bool} {w1 wp w2 : World} {A : Option Addr} {cap : Nat} {xs : List α} {S T : Blks} (hr : Row m w1 A cap xs T) (hb : Below w1.heap.size w1 wp) (hc : Chg S wp w2) (hd : ∀ b, T b → b < w1.heap.size → ¬ S b) : Row m w2 A cap xs T :=
  (hr.tight.keep (fun b x => (hc.block b (Nat.lt_of_lt_of_le x.2 hb.size) (hd b x.1 x.2)).trans (hb.block b x.2))).mono (fun b x => x.1)
theorem Row.chgC {α : Type} [Lay α] {m : Bool} {w w' : World} {A : Option Addr} {cap : Nat} {xs : List α} {S T : Blks} (h4 : Chg S w w') (hr : Row m w A cap xs T) (hd : ∀ b, T b → b < w.heap.size → ¬ S b) : Row m w' A cap xs T :=
  (hr.tight.keep (h4.same (fun b x => hd b x.1 x.2) (fun b x => x.2))).mono (fun b x => x.1)

set_option maxRecDepth 20000 in set_option maxHeartbeats 4000000 in
theorem impl_copyTexts (w : World) (xs : List ByteArray) (A0 : Option Addr) (cap0 : Nat) (S : Blks) (hx : Row false w A0 cap0 xs S) (hl : xs.length ≤ 2000000000) : Calls Tryz.prog 70 #[.slice A0 xs.length cap0] w fun e w' => ∃ A' cap', e = .returned (.slice A' xs.length cap') ∧ xs.length ≤ cap' ∧ cap' ≤ maxLen ∧ Row true w' A' cap' xs (rng w.heap.size w'.heap.size) ∧ Below w.heap.size w w' := by
  go_enter Tryz.func70, Tryz.ntmps70
  go_wp2_with (at_builtin; refine wpList_app (α := ByteArray) rfl _ _ rfl rfl rfl (row_nil _ none_) (by simp) (by decide) rfl rfl (Src.flat2 hx) (disj_none_ _) (by simp; omega) ?_; intro A' cap' w' h1 h2 h3 h4)
  go_ret
  exact ⟨A', cap', ret_slice (by simp), by simpa using h1, h2, by simpa using row_up h3 (B := w.heap.size) (fun b h => h.elim) (fun b h => h.elim) (Nat.le_refl _), h4.to_below (Nat.le_refl _) (fun b h => h.elim)⟩

set_option maxRecDepth 20000 in set_option maxHeartbeats 4000000 in
theorem impl_copySig (w : World) (x : Sig) (cs : List Value) (S : Blks) (hx : rd false w cs x S) (l0 : x.open_.length ≤ 1048576) (l1 : x.shut.length ≤ 1048576) (l2 : x.sides.length ≤ 1048576) : Calls Tryz.prog 36 #[.agg cs.toArray] w fun e w' => ∃ A0 k0 A1 k1 A2 k2, e = .returned (.agg #[.int .i64 x.at_, .slice A0 x.open_.length k0, .slice A1 x.shut.length k1, .slice A2 x.sides.length k2]) ∧ rd true w' (Sig.cs x A0 k0 A1 k1 A2 k2) x (rng w.heap.size w'.heap.size) ∧ Below w.heap.size w w' := by
  obtain ⟨A0, k0, S0, A1, k1, S1, A2, k2, S2, rfl, f0, a0, b0, r0, s0, a1, b1, r1, s1, a2, b2, r2, s2, pw⟩ := Sig.open hx
  clear hx s0 s1 s2 pw
  simp only [Sig.cs]
  go_enter Tryz.func36, Tryz.ntmps36
  go_wp2_with (fail)
  generalize hW1 : w.alloc (.cells #[_, _, _, _] _) = W1
  have hwW1 : Below w.heap.size w W1 := by rw [← hW1]; exact (Below.refl _ _).alloc (Nat.le_refl _) _
  have hWs1 : W1.heap.size = w.heap.size + 1 := by rw [← hW1]; simp
  have q0 : W1.cell? ⟨w.heap.size, 0, none⟩ = some (.int .i64 x.at_) := by rw [← hW1]; exact box_cell _ _ _ _ _ rfl
  have q1 : W1.cell? ⟨w.heap.size, 1, none⟩ = some (.slice A0 x.open_.length k0) := by rw [← hW1]; exact box_cell _ _ _ _ _ rfl
  have q2 : W1.cell? ⟨w.heap.size, 2, none⟩ = some (.slice A1 x.shut.length k1) := by rw [← hW1]; exact box_cell _ _ _ _ _ rfl
  have q3 : W1.cell? ⟨w.heap.size, 3, none⟩ = some (.slice A2 x.sides.length k2) := by rw [← hW1]; exact box_cell _ _ _ _ _ rfl
  clear hW1
  generalize hW : W1.alloc (.cells #[_, _, _, _] _) = W
  have hWW : Below W1.heap.size W1 W := by rw [← hW]; exact (Below.refl _ _).alloc (Nat.le_refl _) _
  have hWs : W.heap.size = W1.heap.size + 1 := by rw [← hW]; simp
  have z0 : W.cell? ⟨w.heap.size + 1, 0, none⟩ = some (.int .i64 0) := by rw [← hWs1, ← hW]; exact box_cell _ _ _ _ _ rfl
  have z1 : W.cell? ⟨w.heap.size + 1, 1, none⟩ = some (.slice none 0 0) := by rw [← hWs1, ← hW]; exact box_cell _ _ _ _ _ rfl
  have z2 : W.cell? ⟨w.heap.size + 1, 2, none⟩ = some (.slice none 0 0) := by rw [← hWs1, ← hW]; exact box_cell _ _ _ _ _ rfl
  have z3 : W.cell? ⟨w.heap.size + 1, 3, none⟩ = some (.slice none 0 0) := by rw [← hWs1, ← hW]; exact box_cell _ _ _ _ _ rfl
  have zf : ∀ o, W.frozen? ⟨w.heap.size + 1, o, none⟩ = false := by intro o; rw [← hWs1, ← hW]; simp
  clear hW
  have hWl : W1.heap.size ≤ W.heap.size := by omega
  have hB := Below.refl W.heap.size W
  have HM := Lib.hid (fun (w' : World) (h : Below W1.heap.size W1 w') => (⟨(h.cell (p := ⟨w.heap.size, 0, none⟩) (show w.heap.size < W1.heap.size by omega)).trans q0, (h.cell (p := ⟨w.heap.size, 1, none⟩) (show w.heap.size < W1.heap.size by omega)).trans q1, (h.cell (p := ⟨w.heap.size, 2, none⟩) (show w.heap.size < W1.heap.size by omega)).trans q2, (h.cell (p := ⟨w.heap.size, 3, none⟩) (show w.heap.size < W1.heap.size by omega)).trans q3, h⟩ : w'.cell? ⟨w.heap.size, 0, none⟩ = some (.int .i64 x.at_) ∧ w'.cell? ⟨w.heap.size, 1, none⟩ = some (.slice A0 x.open_.length k0) ∧ w'.cell? ⟨w.heap.size, 2, none⟩ = some (.slice A1 x.shut.length k1) ∧ w'.cell? ⟨w.heap.size, 3, none⟩ = some (.slice A2 x.sides.length k2) ∧ Below W1.heap.size W1 w'))
  have hwW := hwW1.trans (hWW.mono (by omega))
  go_region_held3 (fun w' => w'.cell? ⟨w.heap.size, 0, none⟩ = some (.int .i64 x.at_) ∧ w'.cell? ⟨w.heap.size, 1, none⟩ = some (.slice A0 x.open_.length k0) ∧ w'.cell? ⟨w.heap.size, 2, none⟩ = some (.slice A1 x.shut.length k1) ∧ w'.cell? ⟨w.heap.size, 3, none⟩ = some (.slice A2 x.sides.length k2) ∧ Below W1.heap.size W1 w')
      (first | exact HM.out _ (by (repeat (first | with_reducible exact hWW.trans (hB.mono hWl) | with_reducible apply Below.drew | with_reducible refine Below.alloc ?_ ?_ _ | with_reducible refine Below.setCell ?_ ?_ _)); all_goals (first | omega | (simp; done) | (simp; omega))))
      (first | (go_at_call 70; refine (impl_copyTexts _ x.open_ A0 k0 S0 (Row.later r0 (hwW.trans (Below.mono (by first | exact hB | exact hB.drew) (by omega)))) (by omega)).mono ?_; rintro e1 w1 ⟨B0, j0, rfl, g0, h0, n0, hb1⟩; have hs1 := hb1.size; (try simp at hs1); have hB := Below.step (a := W) (by first | exact hB | exact hB.drew) hb1) | (go_at_call 70; refine (impl_copyTexts _ x.shut A1 k1 S1 (Row.later r1 (hwW.trans (Below.mono (by first | exact hB | exact hB.drew) (by omega)))) (by omega)).mono ?_; rintro e2 w2 ⟨B1, j1, rfl, g1, h1, n1, hb2⟩; have hs2 := hb2.size; (try simp at hs2); have hB := Below.step (a := W) (by first | exact hB | exact hB.drew) hb2) | (go_at_call 70; refine (impl_copyTexts _ x.sides A2 k2 S2 (Row.later r2 (hwW.trans (Below.mono (by first | exact hB | exact hB.drew) (by omega)))) (by omega)).mono ?_; rintro e3 w3 ⟨B2, j2, rfl, g2, h2, n2, hb3⟩; have hs3 := hb3.size; (try simp at hs3); have hB := Below.step (a := W) (by first | exact hB | exact hB.drew) hb3; have y20 := (hB.cell (p := ⟨w.heap.size + 1, 0, none⟩) (show w.heap.size + 1 < W.heap.size by omega)).trans z0; have y21 := (hB.cell (p := ⟨w.heap.size + 1, 1, none⟩) (show w.heap.size + 1 < W.heap.size by omega)).trans z1; have y22 := (hB.cell (p := ⟨w.heap.size + 1, 2, none⟩) (show w.heap.size + 1 < W.heap.size by omega)).trans z2; have y23 := (hB.cell (p := ⟨w.heap.size + 1, 3, none⟩) (show w.heap.size + 1 < W.heap.size by omega)).trans z3; have yf2 := fun o => (hB.frozen (p := ⟨w.heap.size + 1, o, none⟩) (show w.heap.size + 1 < W.heap.size by omega)).trans (zf o)))
  go_wp2
  refine bodyPost_ret (v := .agg #[.int .i64 x.at_, .slice B0 x.open_.length j0, .slice B1 x.shut.length j1, .slice B2 x.sides.length j2]) (by simp [results, Tryz.results36, go_sem, *]) rfl ?_
  replace n0 := (Row.later (Row.later n0 hb2) hb3).mono (S' := rng W.heap.size w1.heap.size) (fun b h => by unfold rng at h ⊢; (try simp at h); omega)
  replace n1 := (Row.later n1 hb3).mono (S' := rng w1.heap.size w2.heap.size) (fun b h => by unfold rng at h ⊢; (try simp at h); omega)
  replace n2 := n2.mono (S' := rng w2.heap.size w3.heap.size) (fun b h => by unfold rng at h ⊢; (try simp at h); omega)
  exact ⟨B0, j0, B1, j1, B2, j2, rfl, Sig.mk' f0 g0 h0 (by (repeat (first | with_reducible exact n0 | with_reducible apply Row.drewC | with_reducible refine Row.allocC ?_ _ | with_reducible refine Row.setC ?_ ?_ _)); all_goals (intro h; unfold rng at h; (try simp at h); omega)) (fun b h => by unfold rng at h ⊢; simp; omega) g1 h1 (by (repeat (first | with_reducible exact n1 | with_reducible apply Row.drewC | with_reducible refine Row.allocC ?_ _ | with_reducible refine Row.setC ?_ ?_ _)); all_goals (intro h; unfold rng at h; (try simp at h); omega)) (fun b h => by unfold rng at h ⊢; simp; omega) g2 h2 (by (repeat (first | with_reducible exact n2 | with_reducible apply Row.drewC | with_reducible refine Row.allocC ?_ _ | with_reducible refine Row.setC ?_ ?_ _)); all_goals (intro h; unfold rng at h; (try simp at h); omega)) (fun b h => by unfold rng at h ⊢; simp; omega) (fun _ => pwmk3 (rngD (by omega)) (rngD (by omega)) (rngD (by omega))), Below.trans hwW1 (Below.mono (show Below W1.heap.size W1 _ from (by (repeat (first | with_reducible exact hWW.trans (hB.mono hWl) | with_reducible apply Below.drew | with_reducible refine Below.alloc ?_ ?_ _ | with_reducible refine Below.setCell ?_ ?_ _)); all_goals (first | omega | (simp; done) | (simp; omega)))) (by omega))⟩

set_option maxRecDepth 20000 in set_option maxHeartbeats 4000000 in
theorem impl_copySeal (w : World) (x : Seal) (cs : List Value) (S : Blks) (hx : rd false w cs x S) (l0 : x.sig.open_.length ≤ 1048576) (l1 : x.sig.shut.length ≤ 1048576) (l2 : x.sig.sides.length ≤ 1048576) : Calls Tryz.prog 57 #[.agg cs.toArray] w fun e w' => ∃ A0 k0 A1 k1 A2 k2, e = .returned (.agg #[.int .i64 x.head.house, .int .i64 x.head.epoch, .string x.head.root, .string x.head.prev, .int .i64 x.sig.at_, .slice A0 x.sig.open_.length k0, .slice A1 x.sig.shut.length k1, .slice A2 x.sig.sides.length k2]) ∧ rd true w' (Seal.cs x A0 k0 A1 k1 A2 k2) x (rng w.heap.size w'.heap.size) ∧ Below w.heap.size w w' := by
  obtain ⟨A0, k0, S0, A1, k1, S1, A2, k2, S2, rfl, f0, f1, f2, f3, f4, a0, b0, r0, s0, a1, b1, r1, s1, a2, b2, r2, s2, pw⟩ := Seal.open hx
  clear hx s0 s1 s2 pw
  simp only [Seal.cs]
  go_enter Tryz.func57, Tryz.ntmps57
  go_wp2_with (fail)
  generalize hW1 : w.alloc (.cells #[_, _, _, _, _, _, _, _] _) = W1
  have hwW1 : Below w.heap.size w W1 := by rw [← hW1]; exact (Below.refl _ _).alloc (Nat.le_refl _) _
  have hWs1 : W1.heap.size = w.heap.size + 1 := by rw [← hW1]; simp
  have q0 : W1.cell? ⟨w.heap.size, 0, none⟩ = some (.int .i64 x.head.house) := by rw [← hW1]; exact box_cell _ _ _ _ _ rfl
  have q1 : W1.cell? ⟨w.heap.size, 1, none⟩ = some (.int .i64 x.head.epoch) := by rw [← hW1]; exact box_cell _ _ _ _ _ rfl
  have q2 : W1.cell? ⟨w.heap.size, 2, none⟩ = some (.string x.head.root) := by rw [← hW1]; exact box_cell _ _ _ _ _ rfl
  have q3 : W1.cell? ⟨w.heap.size, 3, none⟩ = some (.string x.head.prev) := by rw [← hW1]; exact box_cell _ _ _ _ _ rfl
  have q4 : W1.cell? ⟨w.heap.size, 4, none⟩ = some (.int .i64 x.sig.at_) := by rw [← hW1]; exact box_cell _ _ _ _ _ rfl
  have q5 : W1.cell? ⟨w.heap.size, 5, none⟩ = some (.slice A0 x.sig.open_.length k0) := by rw [← hW1]; exact box_cell _ _ _ _ _ rfl
  have q6 : W1.cell? ⟨w.heap.size, 6, none⟩ = some (.slice A1 x.sig.shut.length k1) := by rw [← hW1]; exact box_cell _ _ _ _ _ rfl
  have q7 : W1.cell? ⟨w.heap.size, 7, none⟩ = some (.slice A2 x.sig.sides.length k2) := by rw [← hW1]; exact box_cell _ _ _ _ _ rfl
  clear hW1
  generalize hW : W1.alloc (.cells #[_, _, _, _, _, _, _, _] _) = W
  have hWW : Below W1.heap.size W1 W := by rw [← hW]; exact (Below.refl _ _).alloc (Nat.le_refl _) _
  have hWs : W.heap.size = W1.heap.size + 1 := by rw [← hW]; simp
  have z0 : W.cell? ⟨w.heap.size + 1, 0, none⟩ = some (.int .i64 0) := by rw [← hWs1, ← hW]; exact box_cell _ _ _ _ _ rfl
  have z1 : W.cell? ⟨w.heap.size + 1, 1, none⟩ = some (.int .i64 0) := by rw [← hWs1, ← hW]; exact box_cell _ _ _ _ _ rfl
  have z2 : W.cell? ⟨w.heap.size + 1, 2, none⟩ = some (.string ⟨#[]⟩) := by rw [← hWs1, ← hW]; exact box_cell _ _ _ _ _ rfl
  have z3 : W.cell? ⟨w.heap.size + 1, 3, none⟩ = some (.string ⟨#[]⟩) := by rw [← hWs1, ← hW]; exact box_cell _ _ _ _ _ rfl
  have z4 : W.cell? ⟨w.heap.size + 1, 4, none⟩ = some (.int .i64 0) := by rw [← hWs1, ← hW]; exact box_cell _ _ _ _ _ rfl
  have z5 : W.cell? ⟨w.heap.size + 1, 5, none⟩ = some (.slice none 0 0) := by rw [← hWs1, ← hW]; exact box_cell _ _ _ _ _ rfl
  have z6 : W.cell? ⟨w.heap.size + 1, 6, none⟩ = some (.slice none 0 0) := by rw [← hWs1, ← hW]; exact box_cell _ _ _ _ _ rfl
  have z7 : W.cell? ⟨w.heap.size + 1, 7, none⟩ = some (.slice none 0 0) := by rw [← hWs1, ← hW]; exact box_cell _ _ _ _ _ rfl
  have zf : ∀ o, W.frozen? ⟨w.heap.size + 1, o, none⟩ = false := by intro o; rw [← hWs1, ← hW]; simp
  clear hW
  have hWl : W1.heap.size ≤ W.heap.size := by omega
  have hB := Below.refl W.heap.size W
  have HM := Lib.hid (fun (w' : World) (h : Below W1.heap.size W1 w') => (⟨(h.cell (p := ⟨w.heap.size, 0, none⟩) (show w.heap.size < W1.heap.size by omega)).trans q0, (h.cell (p := ⟨w.heap.size, 1, none⟩) (show w.heap.size < W1.heap.size by omega)).trans q1, (h.cell (p := ⟨w.heap.size, 2, none⟩) (show w.heap.size < W1.heap.size by omega)).trans q2, (h.cell (p := ⟨w.heap.size, 3, none⟩) (show w.heap.size < W1.heap.size by omega)).trans q3, (h.cell (p := ⟨w.heap.size, 4, none⟩) (show w.heap.size < W1.heap.size by omega)).trans q4, (h.cell (p := ⟨w.heap.size, 5, none⟩) (show w.heap.size < W1.heap.size by omega)).trans q5, (h.cell (p := ⟨w.heap.size, 6, none⟩) (show w.heap.size < W1.heap.size by omega)).trans q6, (h.cell (p := ⟨w.heap.size, 7, none⟩) (show w.heap.size < W1.heap.size by omega)).trans q7, h⟩ : w'.cell? ⟨w.heap.size, 0, none⟩ = some (.int .i64 x.head.house) ∧ w'.cell? ⟨w.heap.size, 1, none⟩ = some (.int .i64 x.head.epoch) ∧ w'.cell? ⟨w.heap.size, 2, none⟩ = some (.string x.head.root) ∧ w'.cell? ⟨w.heap.size, 3, none⟩ = some (.string x.head.prev) ∧ w'.cell? ⟨w.heap.size, 4, none⟩ = some (.int .i64 x.sig.at_) ∧ w'.cell? ⟨w.heap.size, 5, none⟩ = some (.slice A0 x.sig.open_.length k0) ∧ w'.cell? ⟨w.heap.size, 6, none⟩ = some (.slice A1 x.sig.shut.length k1) ∧ w'.cell? ⟨w.heap.size, 7, none⟩ = some (.slice A2 x.sig.sides.length k2) ∧ Below W1.heap.size W1 w'))
  have hwW := hwW1.trans (hWW.mono (by omega))
  go_region_held3 (fun w' => w'.cell? ⟨w.heap.size, 0, none⟩ = some (.int .i64 x.head.house) ∧ w'.cell? ⟨w.heap.size, 1, none⟩ = some (.int .i64 x.head.epoch) ∧ w'.cell? ⟨w.heap.size, 2, none⟩ = some (.string x.head.root) ∧ w'.cell? ⟨w.heap.size, 3, none⟩ = some (.string x.head.prev) ∧ w'.cell? ⟨w.heap.size, 4, none⟩ = some (.int .i64 x.sig.at_) ∧ w'.cell? ⟨w.heap.size, 5, none⟩ = some (.slice A0 x.sig.open_.length k0) ∧ w'.cell? ⟨w.heap.size, 6, none⟩ = some (.slice A1 x.sig.shut.length k1) ∧ w'.cell? ⟨w.heap.size, 7, none⟩ = some (.slice A2 x.sig.sides.length k2) ∧ Below W1.heap.size W1 w')
      (first | exact HM.out _ (by (repeat (first | with_reducible exact hWW.trans (hB.mono hWl) | with_reducible apply Below.drew | with_reducible refine Below.alloc ?_ ?_ _ | with_reducible refine Below.setCell ?_ ?_ _)); all_goals (first | omega | (simp; done) | (simp; omega))))
      (first | (go_at_call 36; refine (impl_copySig _ x.sig _ (un S0 (un S1 S2)) (Sig.mk' (m := false) f4 a0 b0 (Row.later r0 (hwW.trans (Below.mono (by first | exact hB | exact hB.drew) (by omega)))) (un_left _ _) a1 b1 (Row.later r1 (hwW.trans (Below.mono (by first | exact hB | exact hB.drew) (by omega)))) (sub_trans (un_left _ _) (un_right _ _)) a2 b2 (Row.later r2 (hwW.trans (Below.mono (by first | exact hB | exact hB.drew) (by omega)))) (sub_trans (un_right _ _) (un_right _ _)) (by simp)) l0 l1 l2).mono ?_; rintro e1 w1 ⟨B0, j0, B1, j1, B2, j2, rfl, hr, hb1⟩; have hs1 := hb1.size; (try simp at hs1); have hB := Below.step (a := W) (by first | exact hB | exact hB.drew) hb1; have y00 := (hB.cell (p := ⟨w.heap.size + 1, 0, none⟩) (show w.heap.size + 1 < W.heap.size by omega)).trans z0; have y01 := (hB.cell (p := ⟨w.heap.size + 1, 1, none⟩) (show w.heap.size + 1 < W.heap.size by omega)).trans z1; have y02 := (hB.cell (p := ⟨w.heap.size + 1, 2, none⟩) (show w.heap.size + 1 < W.heap.size by omega)).trans z2; have y03 := (hB.cell (p := ⟨w.heap.size + 1, 3, none⟩) (show w.heap.size + 1 < W.heap.size by omega)).trans z3; have y04 := (hB.cell (p := ⟨w.heap.size + 1, 4, none⟩) (show w.heap.size + 1 < W.heap.size by omega)).trans z4; have y05 := (hB.cell (p := ⟨w.heap.size + 1, 5, none⟩) (show w.heap.size + 1 < W.heap.size by omega)).trans z5; have y06 := (hB.cell (p := ⟨w.heap.size + 1, 6, none⟩) (show w.heap.size + 1 < W.heap.size by omega)).trans z6; have y07 := (hB.cell (p := ⟨w.heap.size + 1, 7, none⟩) (show w.heap.size + 1 < W.heap.size by omega)).trans z7; have yf0 := fun o => (hB.frozen (p := ⟨w.heap.size + 1, o, none⟩) (show w.heap.size + 1 < W.heap.size by omega)).trans (zf o)))
  go_wp2
  refine bodyPost_ret (v := .agg #[.int .i64 x.head.house, .int .i64 x.head.epoch, .string x.head.root, .string x.head.prev, .int .i64 x.sig.at_, .slice B0 x.sig.open_.length j0, .slice B1 x.sig.shut.length j1, .slice B2 x.sig.sides.length j2]) (by simp [results, Tryz.results57, go_sem, *]) rfl ?_
  obtain ⟨C0, i0, T0, C1, i1, T1, C2, i2, T2, hcs, _, u0, v0, n0, m0, u1, v1, n1, m1, u2, v2, n2, m2, pw⟩ := Sig.open hr
  simp only [Sig.cs, List.cons.injEq, Value.slice.injEq, and_true, true_and] at hcs
  obtain ⟨⟨rfl, rfl⟩, ⟨rfl, rfl⟩, ⟨rfl, rfl⟩⟩ := hcs
  replace n0 := n0.mono (S' := fun b => T0 b ∧ rng W.heap.size w1.heap.size b) (fun b x => ⟨x, by have := m0 b x; unfold rng at this ⊢; (try simp at this); omega⟩)
  replace n1 := n1.mono (S' := fun b => T1 b ∧ rng W.heap.size w1.heap.size b) (fun b x => ⟨x, by have := m1 b x; unfold rng at this ⊢; (try simp at this); omega⟩)
  replace n2 := n2.mono (S' := fun b => T2 b ∧ rng W.heap.size w1.heap.size b) (fun b x => ⟨x, by have := m2 b x; unfold rng at this ⊢; (try simp at this); omega⟩)
  have pw2 := pw rfl
  exact ⟨B0, j0, B1, j1, B2, j2, rfl, Seal.mk' (S0 := fun b => T0 b ∧ rng W.heap.size w1.heap.size b) (S1 := fun b => T1 b ∧ rng W.heap.size w1.heap.size b) (S2 := fun b => T2 b ∧ rng W.heap.size w1.heap.size b) f0 f1 f2 f3 f4 u0 v0 (by (repeat (first | with_reducible exact n0 | with_reducible apply Row.drewC | with_reducible refine Row.allocC ?_ _ | with_reducible refine Row.setC ?_ ?_ _)); all_goals (intro h; have h2 : rng W.heap.size w1.heap.size _ := h.2; unfold rng at h2; (try simp at h2); omega)) (fun b h => by have h2 : rng W.heap.size w1.heap.size b := h.2; unfold rng at h2 ⊢; simp; omega) u1 v1 (by (repeat (first | with_reducible exact n1 | with_reducible apply Row.drewC | with_reducible refine Row.allocC ?_ _ | with_reducible refine Row.setC ?_ ?_ _)); all_goals (intro h; have h2 : rng W.heap.size w1.heap.size _ := h.2; unfold rng at h2; (try simp at h2); omega)) (fun b h => by have h2 : rng W.heap.size w1.heap.size b := h.2; unfold rng at h2 ⊢; simp; omega) u2 v2 (by (repeat (first | with_reducible exact n2 | with_reducible apply Row.drewC | with_reducible refine Row.allocC ?_ _ | with_reducible refine Row.setC ?_ ?_ _)); all_goals (intro h; have h2 : rng W.heap.size w1.heap.size _ := h.2; unfold rng at h2; (try simp at h2); omega)) (fun b h => by have h2 : rng W.heap.size w1.heap.size b := h.2; unfold rng at h2 ⊢; simp; omega) (fun _ => pwmk3 (disj_sub (pwget3_0_1 pw2) (fun b x => x.1) (fun b x => x.1)) (disj_sub (pwget3_0_2 pw2) (fun b x => x.1) (fun b x => x.1)) (disj_sub (pwget3_1_2 pw2) (fun b x => x.1) (fun b x => x.1))), Below.trans hwW1 (Below.mono (show Below W1.heap.size W1 _ from (by (repeat (first | with_reducible exact hWW.trans (hB.mono hWl) | with_reducible apply Below.drew | with_reducible refine Below.alloc ?_ ?_ _ | with_reducible refine Below.setCell ?_ ?_ _)); all_goals (first | omega | (simp; done) | (simp; omega)))) (by omega))⟩

end Go.Proofs.YthgonaodmpegfaaGreat
