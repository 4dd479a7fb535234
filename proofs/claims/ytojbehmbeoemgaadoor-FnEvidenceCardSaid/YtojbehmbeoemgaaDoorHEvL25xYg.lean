/- A part of the proof: what the laws need of it. -/
import Derived.Test.YtojbehmbeoemgaaDoorHEvL21xPr
import Derived.Test.YtojbehmbeoemgaaDoorHEvL24xPu
import Derived.Test.YtojbehmbeoemgaaDoorHEvSn
import Derived.Test.YtojbehmbeoemgaaDoorHEvL6xInf
import Derived.RegionTactic
import Derived.BigRegion
set_option linter.unusedVariables false
set_option linter.unusedSimpArgs false
set_option linter.unusedVariables false
set_option linter.unusedSimpArgs false
namespace Go.Proofs.YtojbehmbeoemgaaDoor
open Go.RowKit Lay Mk
def sidesUp : Nat → Nat → List ByteArray → List ByteArray
  | 0, _, _ => []
  | m + 1, k, l => l.getD (k ^^^ 1) ⟨#[]⟩ :: sidesUp m (k / 2) (aboveL 16 l)
theorem aboveT_at (n : Int) (l : List ByteArray) : ∀ k j, j < k → (aboveT n l k).getD j ⟨#[]⟩ = tagHash 3 [l.getD (2 * j) ⟨#[]⟩, l.getD (2 * j + 1) ⟨#[]⟩] n
  | 0, j, h => absurd h (Nat.not_lt_zero j)
  | k + 1, j, h => by
    unfold aboveT
    rw [List.getD_eq_getElem?_getD]
    rcases Nat.lt_succ_iff_lt_or_eq.1 h with h1 | h1
    · rw [List.getElem?_append_left (by rw [aboveT_len]; exact h1), ← List.getD_eq_getElem?_getD]; exact aboveT_at n l k j h1
    · subst h1; rw [List.getElem?_append_right (by rw [aboveT_len]; exact Nat.le_refl _), aboveT_len, Nat.sub_self]; rfl
theorem climb_top : ∀ (m k : Nat) (l : List ByteArray), l.length = 2 ^ m → k < 2 ^ m → climb (l.getD k ⟨#[]⟩) k (sidesUp m k l) = topOf 16 m l
  | 0, k, l, h, hk => by
    have : k = 0 := by simpa using hk
    subst this; rfl
  | m + 1, k, l, h, hk => by
    rw [Nat.pow_succ] at h hk
    have hl : (aboveL 16 l).length = 2 ^ m := by rw [aboveL_len, h]; omega
    have hk2 : k / 2 < 2 ^ m := by omega
    have ih := climb_top m (k / 2) (aboveL 16 l) hl hk2
    have e : (aboveL 16 l).getD (k / 2) ⟨#[]⟩ = tagHash 3 [l.getD (2 * (k / 2)) ⟨#[]⟩, l.getD (2 * (k / 2) + 1) ⟨#[]⟩] 16 := aboveT_at 16 l _ _ (by rw [h]; omega)
    show climb (l.getD k ⟨#[]⟩) k (l.getD (k ^^^ 1) ⟨#[]⟩ :: sidesUp m (k / 2) (aboveL 16 l)) = topOf 16 m (aboveL 16 l)
    rw [← ih, e]
    rcases Nat.mod_two_eq_zero_or_one k with h2 | h2
    · rw [climb_even h2, xor_even h2, show 2 * (k / 2) = k by omega]
    · rw [climb_odd (by omega), xor_odd h2, show 2 * (k / 2) + 1 = k by omega, show 2 * (k / 2) = k - 1 by omega]
def all16 (l : List ByteArray) : Prop := ∀ k, k < l.length → (l.getD k ⟨#[]⟩).size = 16
theorem all16_up {l : List ByteArray} (h : all16 l) : all16 (aboveL 16 l) := by
  intro k hk
  rw [aboveL_len] at hk
  rw [show aboveL 16 l = aboveT 16 l (l.length / 2) from rfl, aboveT_at 16 l _ _ hk]
  exact tagHash_size (tag_two (by decide) (by rw [h _ (by omega)]; omega) (by rw [h _ (by omega)]; omega))
theorem sidesUp_len : ∀ (m k : Nat) (l : List ByteArray), (sidesUp m k l).length = m
  | 0, _, _ => rfl
  | m + 1, k, l => by show (sidesUp m (k / 2) (aboveL 16 l)).length + 1 = m + 1; rw [sidesUp_len m]
theorem sidesUp_16 : ∀ (m k : Nat) (l : List ByteArray), l.length = 2 ^ m → k < 2 ^ m → all16 l → ∀ s ∈ sidesUp m k l, s.size = 16
  | 0, _, _, _, _, _, s, hs => by cases hs
  | m + 1, k, l, h, hk, ha, s, hs => by
    rw [Nat.pow_succ] at h hk
    have hl : (aboveL 16 l).length = 2 ^ m := by rw [aboveL_len, h]; omega
    rcases List.mem_cons.1 hs with rfl | hs
    · apply ha
      rcases Nat.mod_two_eq_zero_or_one k with h2 | h2
      · rw [xor_even h2]; omega
      · rw [xor_odd h2]; omega
    · exact sidesUp_16 m (k / 2) (aboveL 16 l) hl (by omega) (all16_up ha) s hs
def opensTo (seed : ByteArray) (a : Int) (bits : Nat) : Nat → List ByteArray
  | 0 => []
  | k + 1 => opensTo seed a bits k ++ [secretOf seed a (k : Int) (bitOf bits k : Int)]
def shutsTo (seed : ByteArray) (a : Int) (bits : Nat) : Nat → List ByteArray
  | 0 => []
  | k + 1 => shutsTo seed a bits k ++ [lockOf (secretOf seed a (k : Int) ((1 - bitOf bits k : Nat) : Int))]
theorem opens_len (seed : ByteArray) (a : Int) (bits : Nat) : ∀ k, (opensTo seed a bits k).length = k
  | 0 => rfl
  | k + 1 => by unfold opensTo; rw [List.length_append, opens_len seed a bits k]; rfl
theorem shuts_len (seed : ByteArray) (a : Int) (bits : Nat) : ∀ k, (shutsTo seed a bits k).length = k
  | 0 => rfl
  | k + 1 => by unfold shutsTo; rw [List.length_append, shuts_len seed a bits k]; rfl
theorem opens_at (seed : ByteArray) (a : Int) (bits : Nat) : ∀ k j, j < k → (opensTo seed a bits k).getD j ⟨#[]⟩ = secretOf seed a (j : Int) (bitOf bits j : Int)
  | 0, j, h => absurd h (Nat.not_lt_zero j)
  | k + 1, j, h => by
    unfold opensTo
    rw [List.getD_eq_getElem?_getD]
    rcases Nat.lt_succ_iff_lt_or_eq.1 h with h1 | h1
    · rw [List.getElem?_append_left (by rw [opens_len]; exact h1), ← List.getD_eq_getElem?_getD]; exact opens_at seed a bits k j h1
    · subst h1; rw [List.getElem?_append_right (by rw [opens_len]; exact Nat.le_refl _), opens_len, Nat.sub_self]; rfl
theorem shuts_at (seed : ByteArray) (a : Int) (bits : Nat) : ∀ k j, j < k → (shutsTo seed a bits k).getD j ⟨#[]⟩ = lockOf (secretOf seed a (j : Int) ((1 - bitOf bits j : Nat) : Int))
  | 0, j, h => absurd h (Nat.not_lt_zero j)
  | k + 1, j, h => by
    unfold shutsTo
    rw [List.getD_eq_getElem?_getD]
    rcases Nat.lt_succ_iff_lt_or_eq.1 h with h1 | h1
    · rw [List.getElem?_append_left (by rw [shuts_len]; exact h1), ← List.getD_eq_getElem?_getD]; exact shuts_at seed a bits k j h1
    · subst h1; rw [List.getElem?_append_right (by rw [shuts_len]; exact Nat.le_refl _), shuts_len, Nat.sub_self]; rfl
theorem bit_two (n k : Nat) : bitOf n k = 0 ∨ bitOf n k = 1 := by unfold bitOf; omega
def signSig (seed : ByteArray) (a : Nat) (t : ByteArray) : Sig := ⟨(a : Int), opensTo seed a (signBits t) 8, shutsTo seed a (signBits t) 8, sidesUp 4 a (poolOf seed)⟩
theorem sign_locks (seed : ByteArray) (a : Nat) (t : ByteArray) : ∀ k, k ≤ 8 → locksTo (signBits t) (signSig seed a t) k = pubLocks seed (a : Int) (2 * k)
  | 0, _ => rfl
  | k + 1, h => by
    unfold locksTo
    rw [sign_locks seed a t k (by omega)]
    have e1 := pubLocks_next seed (a : Int) (b := k) (v := 0) (by omega)
    have e2 := pubLocks_next seed (a : Int) (b := k) (v := 1) (by omega)
    rw [show 2 * k + 0 + 1 = 2 * k + 1 from rfl, Nat.add_zero] at e1
    rw [show 2 * (k + 1) = 2 * k + 1 + 1 by omega, e2, e1, List.append_assoc]
    congr 1
    have h1 : (signSig seed a t).open_.getD k ⟨#[]⟩ = secretOf seed (a : Int) (k : Int) (bitOf (signBits t) k : Int) := opens_at _ _ _ 8 k (by omega)
    have h2 : (signSig seed a t).shut.getD k ⟨#[]⟩ = lockOf (secretOf seed (a : Int) (k : Int) ((1 - bitOf (signBits t) k : Nat) : Int)) := shuts_at _ _ _ 8 k (by omega)
    rcases bit_two (signBits t) k with h3 | h3
    · rw [pair_zero h3, h1, h2, h3]; rfl
    · rw [pair_one (by omega), h1, h2, h3]; rfl
theorem poolTo_at (seed : ByteArray) : ∀ k j, j < k → (poolTo seed k).getD j ⟨#[]⟩ = publicOf seed (j : Int)
  | 0, j, h => absurd h (Nat.not_lt_zero j)
  | k + 1, j, h => by
    unfold poolTo
    rw [List.getD_eq_getElem?_getD]
    rcases Nat.lt_succ_iff_lt_or_eq.1 h with h1 | h1
    · rw [List.getElem?_append_left (by rw [poolTo_len]; exact h1), ← List.getD_eq_getElem?_getD]; exact poolTo_at seed k j h1
    · subst h1; rw [List.getElem?_append_right (by rw [poolTo_len]; exact Nat.le_refl _), poolTo_len, Nat.sub_self]; rfl
theorem pub_in {seed : ByteArray} (h : seed.size ≤ 100) {a : Nat} (ha : a < 16) : pubIn seed (a : Int) = true := by
  unfold pubIn; simp [h, inB]; omega
theorem pool_16 {seed : ByteArray} (h : seed.size ≤ 100) : all16 (poolOf seed) := by
  intro k hk
  have hk : k < 16 := by rw [show poolOf seed = poolTo seed 16 from rfl, poolTo_len] at hk; exact hk
  rw [show poolOf seed = poolTo seed 16 from rfl, poolTo_at seed 16 k hk]
  exact publicOf_yes (pub_in h hk)
theorem wide_of {l : List ByteArray} {n : Nat} (h1 : l.length = n) (h2 : ∀ k, k < n → (l.getD k ⟨#[]⟩).size = 16) : wideOk l n = true := by
  rw [wide_end, decide_eq_true h1]
  intro k hk
  rw [← getD_lt hk]; exact h2 k (by omega)
theorem sign_form {seed : ByteArray} (h : seed.size ≤ 100) {a : Nat} (ha : a < 16) (t : ByteArray) : sigForm (signSig seed a t) = true := by
  have hp := pub_in h ha
  have hpl : (poolOf seed).length = 2 ^ 4 := poolTo_len seed 16
  unfold sigForm
  rw [Bool.and_eq_true, Bool.and_eq_true, Bool.and_eq_true]
  refine ⟨⟨⟨?_, ?_⟩, ?_⟩, ?_⟩
  · show inB (a : Int) 0 15 = true
    simp [inB]; omega
  · refine wide_of (opens_len _ _ _ 8) (fun k hk => ?_)
    show ((opensTo seed a (signBits t) 8).getD k ⟨#[]⟩).size = 16
    rw [opens_at _ _ _ 8 k hk]
    exact secret_yes hk (by rcases bit_two (signBits t) k with h3 | h3 <;> omega) hp
  · refine wide_of (shuts_len _ _ _ 8) (fun k hk => ?_)
    show ((shutsTo seed a (signBits t) 8).getD k ⟨#[]⟩).size = 16
    rw [shuts_at _ _ _ 8 k hk]
    exact lockOf_size (by rw [secret_yes hk (by omega) hp]; omega)
  · refine wide_of (sidesUp_len 4 _ _) (fun k hk => ?_)
    show ((sidesUp 4 a (poolOf seed)).getD k ⟨#[]⟩).size = 16
    have hl : k < (sidesUp 4 a (poolOf seed)).length := by rw [sidesUp_len]; exact hk
    rw [getD_lt hl]
    exact sidesUp_16 4 a (poolOf seed) hpl ha (pool_16 h) _ (List.getElem_mem hl)
theorem sign_root {seed : ByteArray} (h : seed.size ≤ 100) {a : Nat} (ha : a < 16) (t : ByteArray) : sigRoot t (signSig seed a t) = poolRoot (poolOf seed) := by
  have hpl : (poolOf seed).length = 2 ^ 4 := poolTo_len seed 16
  unfold sigRoot
  rw [sign_locks seed a t 8 (Nat.le_refl _)]
  have h1 : tagHash 6 (pubLocks seed (a : Int) (2 * 8)) 16 = (poolOf seed).getD a ⟨#[]⟩ := by
    rw [show poolOf seed = poolTo seed 16 from rfl, poolTo_at seed 16 a ha, publicOf, if_pos (pub_in h ha)]
  rw [h1]
  show climb ((poolOf seed).getD a ⟨#[]⟩) ((a : Int)).toNat (sidesUp 4 a (poolOf seed)) = _
  rw [Int.toNat_natCast, climb_top 4 a (poolOf seed) hpl ha]
  unfold poolRoot
  rw [if_pos hpl]
theorem sign_ok {seed : ByteArray} (h : seed.size ≤ 100) {a : Nat} (ha : a < 16) {t : ByteArray} (ht : t.size ≤ 200) : sigOk (poolRoot (poolOf seed)) t (signSig seed a t) = true := by
  unfold sigOk
  rw [sign_form h ha, sign_root h ha, decide_eq_true ht, decide_eq_true rfl]; rfl
theorem sign_not {seed root : ByteArray} (h : seed.size ≤ 100) {a : Nat} (ha : a < 16) {t : ByteArray} (hr : root ≠ poolRoot (poolOf seed)) : sigOk root t (signSig seed a t) = false := by
  have e : decide (poolRoot (poolOf seed) = root) = false := decide_eq_false (fun e => hr e.symm)
  unfold sigOk
  rw [sign_root h ha, e, Bool.and_false]
def sealOf (seed : ByteArray) (x : Head) : Seal := ⟨x, signSig seed (x.epoch.toNat - 1) (headHash x)⟩
theorem seal_at {x : Head} (h : headOk x = true) : sealAt x.epoch = ((x.epoch.toNat - 1 : Nat) : Int) ∧ x.epoch.toNat - 1 < 16 := by
  obtain ⟨-, ⟨h1, h2⟩, -, -⟩ := headOk_b h
  unfold sealAt
  rw [if_pos (by simp [inB]; omega)]
  omega
theorem seal_ok {seed : ByteArray} (h : seed.size ≤ 100) {x : Head} (hx : headOk x = true) : sealOk (poolRoot (poolOf seed)) (sealOf seed x) = true := by
  obtain ⟨h1, h2⟩ := seal_at hx
  have h3 := headHash_le x
  unfold sealOk sealOf
  simp only
  rw [hx, h1, sign_ok h h2 (by omega), show (signSig seed (x.epoch.toNat - 1) (headHash x)).at_ = ((x.epoch.toNat - 1 : Nat) : Int) from rfl, decide_eq_true rfl]; rfl
theorem seal_not {seed root : ByteArray} (h : seed.size ≤ 100) {x : Head} (hx : headOk x = true) (hr : root ≠ poolRoot (poolOf seed)) : sealOk root (sealOf seed x) = false := by
  obtain ⟨h1, h2⟩ := seal_at hx
  unfold sealOk sealOf
  simp only
  rw [sign_not h h2 hr, Bool.and_false]
theorem evid_yes {seed : ByteArray} (h : seed.size ≤ 100) {x : Head} (hx : headOk x = true) {r : ByteArray} (hr : r ≠ x.root) (hy : headOk ⟨x.house, x.epoch, r, x.prev⟩ = true) : evidenceOk (poolRoot (poolOf seed)) ⟨sealOf seed x, sealOf seed ⟨x.house, x.epoch, r, x.prev⟩⟩ = true := by
  unfold evidenceOk
  simp only
  rw [seal_ok h hx, seal_ok h hy]
  have e : sameHd (sealOf seed x).head (sealOf seed ⟨x.house, x.epoch, r, x.prev⟩).head = false := by
    unfold sameHd sealOf; simp only
    rw [decide_eq_false (fun e : x.root = r => hr e.symm), Bool.and_false, Bool.false_and]
  rw [e]
  simp [sealOf]
theorem evid_same (root : ByteArray) (s : Seal) : evidenceOk root ⟨s, s⟩ = false := by
  unfold evidenceOk; simp only
  have e : sameHd s.head s.head = true := by unfold sameHd; simp
  rw [e]; simp
theorem evid_not {seed root : ByteArray} (h : seed.size ≤ 100) {x : Head} (hx : headOk x = true) (s : Seal) (hr : root ≠ poolRoot (poolOf seed)) : evidenceOk root ⟨sealOf seed x, s⟩ = false := by
  unfold evidenceOk; simp only
  rw [seal_not h hx hr]; simp
end Go.Proofs.YtojbehmbeoemgaaDoor

set_option linter.unusedVariables false
set_option linter.unusedSimpArgs false
namespace Go.Proofs.YtojbehmbeoemgaaDoor
open Go.RowKit Lay Mk
set_option maxRecDepth 20000 in set_option maxHeartbeats 8000000 in
theorem impl_EvidenceOk (w : World) (root : ByteArray) (_hr : root.size ≤ 1048576) (x : Pair) (cs : List Value) (S : Blks) (hx : rd false w cs x S) (_hz : x.sz ≤ 1048576) (hT : Tabs w) : Calls Tryd.prog 16 #[.string root, .agg cs.toArray] w fun e w' => e = .returned (.bool (evidenceOk root x)) ∧ Below w.heap.size w w' := by
  obtain ⟨a, b⟩ := x
  obtain ⟨c1, c2, S1, S2, rfl, -, -, -, h1, h2⟩ := hx
  have HSA := Lib.hid (fun W (h : Below w.heap.size w W) => impl_SealOk W root a c1 S1 (Lay.later h1 h) (hT.later h))
  have HSB := Lib.hid (fun W (h : Below w.heap.size w W) => impl_SealOk W root b c2 S2 (Lay.later h2 h) (hT.later h))
  obtain ⟨A0, k0, T0, A1, k1, T1, A2, k2, T2, rfl, -⟩ := Seal.open h1
  obtain ⟨D0, m0, U0, D1, m1, U1, D2, m2, U2, rfl, -⟩ := Seal.open h2
  clear h1 h2 hT
  have HOK : Hid (evidenceOk root ⟨a, b⟩ = (sealOk root a && sealOk root b && decide (a.head.house = b.head.house) && decide (a.head.epoch = b.head.epoch) && !sameHd a.head b.head)) := Lib.hid rfl
  obtain ⟨za, hza⟩ : ∃ z, sealOk root a = z := ⟨_, rfl⟩
  obtain ⟨zb, hzb⟩ : ∃ z, sealOk root b = z := ⟨_, rfl⟩
  rw [hza] at HSA HOK
  rw [hzb] at HSB HOK
  clear hza hzb
  obtain ⟨⟨ah, ae, ar, ap⟩, ⟨ax, ao, as_, ad⟩⟩ := a
  obtain ⟨⟨bh, be, br, bp⟩, ⟨bx, bo, bs_, bd⟩⟩ := b
  obtain ⟨R, hR⟩ : ∃ R, evidenceOk root ⟨⟨⟨ah, ae, ar, ap⟩, ⟨ax, ao, as_, ad⟩⟩, ⟨⟨bh, be, br, bp⟩, ⟨bx, bo, bs_, bd⟩⟩⟩ = R := ⟨_, rfl⟩
  rw [hR] at HOK ⊢
  clear hR
  simp only [Seal.cs, List.cons_append, List.nil_append] at HSA HSB HOK ⊢
  go_enter Tryd.func16, Tryd.ntmps16
  go_wp2_with (fail)
  obtain ⟨W, hW⟩ : ∃ W, w.alloc (.cells #[.int .i64 ah, .int .i64 ae, .string ar, .string ap, .int .i64 ax, .slice A0 ao.length k0, .slice A1 as_.length k1, .slice A2 ad.length k2, .int .i64 bh, .int .i64 be, .string br, .string bp, .int .i64 bx, .slice D0 bo.length m0, .slice D1 bs_.length m1, .slice D2 bd.length m2] 41) = W := ⟨_, rfl⟩
  have hWs : w.heap.size < W.heap.size := by rw [← hW]; simp
  have HW : Hid (Below w.heap.size w W) := Lib.hid (by rw [← hW]; exact (Below.refl _ _).alloc (Nat.le_refl _) _)
  have c0 : W.cell? ⟨w.heap.size, 0, none⟩ = some (.int .i64 ah) := by rw [← hW]; exact box_cell _ _ _ _ _ rfl
  have c1 : W.cell? ⟨w.heap.size, 1, none⟩ = some (.int .i64 ae) := by rw [← hW]; exact box_cell _ _ _ _ _ rfl
  have c2 : W.cell? ⟨w.heap.size, 2, none⟩ = some (.string ar) := by rw [← hW]; exact box_cell _ _ _ _ _ rfl
  have c3 : W.cell? ⟨w.heap.size, 3, none⟩ = some (.string ap) := by rw [← hW]; exact box_cell _ _ _ _ _ rfl
  have c4 : W.cell? ⟨w.heap.size, 4, none⟩ = some (.int .i64 ax) := by rw [← hW]; exact box_cell _ _ _ _ _ rfl
  have c5 : W.cell? ⟨w.heap.size, 5, none⟩ = some (.slice A0 ao.length k0) := by rw [← hW]; exact box_cell _ _ _ _ _ rfl
  have c6 : W.cell? ⟨w.heap.size, 6, none⟩ = some (.slice A1 as_.length k1) := by rw [← hW]; exact box_cell _ _ _ _ _ rfl
  have c7 : W.cell? ⟨w.heap.size, 7, none⟩ = some (.slice A2 ad.length k2) := by rw [← hW]; exact box_cell _ _ _ _ _ rfl
  have c8 : W.cell? ⟨w.heap.size, 8, none⟩ = some (.int .i64 bh) := by rw [← hW]; exact box_cell _ _ _ _ _ rfl
  have c9 : W.cell? ⟨w.heap.size, 9, none⟩ = some (.int .i64 be) := by rw [← hW]; exact box_cell _ _ _ _ _ rfl
  have c10 : W.cell? ⟨w.heap.size, 10, none⟩ = some (.string br) := by rw [← hW]; exact box_cell _ _ _ _ _ rfl
  have c11 : W.cell? ⟨w.heap.size, 11, none⟩ = some (.string bp) := by rw [← hW]; exact box_cell _ _ _ _ _ rfl
  have c12 : W.cell? ⟨w.heap.size, 12, none⟩ = some (.int .i64 bx) := by rw [← hW]; exact box_cell _ _ _ _ _ rfl
  have c13 : W.cell? ⟨w.heap.size, 13, none⟩ = some (.slice D0 bo.length m0) := by rw [← hW]; exact box_cell _ _ _ _ _ rfl
  have c14 : W.cell? ⟨w.heap.size, 14, none⟩ = some (.slice D1 bs_.length m1) := by rw [← hW]; exact box_cell _ _ _ _ _ rfl
  have c15 : W.cell? ⟨w.heap.size, 15, none⟩ = some (.slice D2 bd.length m2) := by rw [← hW]; exact box_cell _ _ _ _ _ rfl
  rw [hW]
  clear hW
  go_region
  · generalize hW2 : World.drew (World.alloc (World.alloc W _) _) = W2
    have hBW : Below W.heap.size W W2 := by rw [← hW2]; exact (((Below.refl _ _).alloc (Nat.le_refl _) _).alloc (by simp) _).drew
    have a0 : W2.cell? ⟨W.heap.size, 0, none⟩ = some (.int .i64 ah) := by rw [← hW2]; exact cell_alloc (box_cell W #[.int .i64 ah, .int .i64 ae, .string ar, .string ap] 25 0 _ rfl)
    have a1 : W2.cell? ⟨W.heap.size, 1, none⟩ = some (.int .i64 ae) := by rw [← hW2]; exact cell_alloc (box_cell W #[.int .i64 ah, .int .i64 ae, .string ar, .string ap] 25 1 _ rfl)
    have a2 : W2.cell? ⟨W.heap.size, 2, none⟩ = some (.string ar) := by rw [← hW2]; exact cell_alloc (box_cell W #[.int .i64 ah, .int .i64 ae, .string ar, .string ap] 25 2 _ rfl)
    have a3 : W2.cell? ⟨W.heap.size, 3, none⟩ = some (.string ap) := by rw [← hW2]; exact cell_alloc (box_cell W #[.int .i64 ah, .int .i64 ae, .string ar, .string ap] 25 3 _ rfl)
    have b0 : W2.cell? ⟨W.heap.size + 1, 0, none⟩ = some (.int .i64 bh) := by rw [← hW2, show W.heap.size + 1 = (W.alloc (.cells #[.int .i64 ah, .int .i64 ae, .string ar, .string ap] 25)).heap.size from by simp]; exact box_cell (W.alloc (.cells #[.int .i64 ah, .int .i64 ae, .string ar, .string ap] 25)) #[.int .i64 bh, .int .i64 be, .string br, .string bp] 25 0 _ rfl
    have b1 : W2.cell? ⟨W.heap.size + 1, 1, none⟩ = some (.int .i64 be) := by rw [← hW2, show W.heap.size + 1 = (W.alloc (.cells #[.int .i64 ah, .int .i64 ae, .string ar, .string ap] 25)).heap.size from by simp]; exact box_cell (W.alloc (.cells #[.int .i64 ah, .int .i64 ae, .string ar, .string ap] 25)) #[.int .i64 bh, .int .i64 be, .string br, .string bp] 25 1 _ rfl
    have b2 : W2.cell? ⟨W.heap.size + 1, 2, none⟩ = some (.string br) := by rw [← hW2, show W.heap.size + 1 = (W.alloc (.cells #[.int .i64 ah, .int .i64 ae, .string ar, .string ap] 25)).heap.size from by simp]; exact box_cell (W.alloc (.cells #[.int .i64 ah, .int .i64 ae, .string ar, .string ap] 25)) #[.int .i64 bh, .int .i64 be, .string br, .string bp] 25 2 _ rfl
    have b3 : W2.cell? ⟨W.heap.size + 1, 3, none⟩ = some (.string bp) := by rw [← hW2, show W.heap.size + 1 = (W.alloc (.cells #[.int .i64 ah, .int .i64 ae, .string ar, .string ap] 25)).heap.size from by simp]; exact box_cell (W.alloc (.cells #[.int .i64 ah, .int .i64 ae, .string ar, .string ap] 25)) #[.int .i64 bh, .int .i64 be, .string br, .string bp] 25 3 _ rfl
    have hz2 : W.heap.size + 1 < W2.heap.size := by rw [← hW2]; simp
    clear hW2
    have HB0 := Lib.hid (HW.out.trans (hBW.mono HW.out.size))
    replace c0 := (hBW.cell (p := ⟨w.heap.size, 0, none⟩) hWs).trans c0
    replace c1 := (hBW.cell (p := ⟨w.heap.size, 1, none⟩) hWs).trans c1
    replace c2 := (hBW.cell (p := ⟨w.heap.size, 2, none⟩) hWs).trans c2
    replace c3 := (hBW.cell (p := ⟨w.heap.size, 3, none⟩) hWs).trans c3
    replace c4 := (hBW.cell (p := ⟨w.heap.size, 4, none⟩) hWs).trans c4
    replace c5 := (hBW.cell (p := ⟨w.heap.size, 5, none⟩) hWs).trans c5
    replace c6 := (hBW.cell (p := ⟨w.heap.size, 6, none⟩) hWs).trans c6
    replace c7 := (hBW.cell (p := ⟨w.heap.size, 7, none⟩) hWs).trans c7
    replace c8 := (hBW.cell (p := ⟨w.heap.size, 8, none⟩) hWs).trans c8
    replace c9 := (hBW.cell (p := ⟨w.heap.size, 9, none⟩) hWs).trans c9
    replace c10 := (hBW.cell (p := ⟨w.heap.size, 10, none⟩) hWs).trans c10
    replace c11 := (hBW.cell (p := ⟨w.heap.size, 11, none⟩) hWs).trans c11
    replace c12 := (hBW.cell (p := ⟨w.heap.size, 12, none⟩) hWs).trans c12
    replace c13 := (hBW.cell (p := ⟨w.heap.size, 13, none⟩) hWs).trans c13
    replace c14 := (hBW.cell (p := ⟨w.heap.size, 14, none⟩) hWs).trans c14
    replace c15 := (hBW.cell (p := ⟨w.heap.size, 15, none⟩) hWs).trans c15
    have hz3 : w.heap.size < W2.heap.size := by omega
    have hz4 : W.heap.size < W2.heap.size := by omega
    clear HW hBW
    obtain ⟨g, hg⟩ : ∃ g, W.heap.size = g := ⟨_, rfl⟩
    simp only [hg] at *
    clear hg hWs
    go_wp2_with (fail)
    refine (HSA.out _ HB0.out).mono ?_
    rintro e1 w1 ⟨rfl, hb1⟩
    have HB1 := Lib.hid (HB0.out.trans (hb1.mono HB0.out.size))
    replace c0 := (hb1.cell (p := ⟨w.heap.size, 0, none⟩) hz3).trans c0
    replace c1 := (hb1.cell (p := ⟨w.heap.size, 1, none⟩) hz3).trans c1
    replace c2 := (hb1.cell (p := ⟨w.heap.size, 2, none⟩) hz3).trans c2
    replace c3 := (hb1.cell (p := ⟨w.heap.size, 3, none⟩) hz3).trans c3
    replace c4 := (hb1.cell (p := ⟨w.heap.size, 4, none⟩) hz3).trans c4
    replace c5 := (hb1.cell (p := ⟨w.heap.size, 5, none⟩) hz3).trans c5
    replace c6 := (hb1.cell (p := ⟨w.heap.size, 6, none⟩) hz3).trans c6
    replace c7 := (hb1.cell (p := ⟨w.heap.size, 7, none⟩) hz3).trans c7
    replace c8 := (hb1.cell (p := ⟨w.heap.size, 8, none⟩) hz3).trans c8
    replace c9 := (hb1.cell (p := ⟨w.heap.size, 9, none⟩) hz3).trans c9
    replace c10 := (hb1.cell (p := ⟨w.heap.size, 10, none⟩) hz3).trans c10
    replace c11 := (hb1.cell (p := ⟨w.heap.size, 11, none⟩) hz3).trans c11
    replace c12 := (hb1.cell (p := ⟨w.heap.size, 12, none⟩) hz3).trans c12
    replace c13 := (hb1.cell (p := ⟨w.heap.size, 13, none⟩) hz3).trans c13
    replace c14 := (hb1.cell (p := ⟨w.heap.size, 14, none⟩) hz3).trans c14
    replace c15 := (hb1.cell (p := ⟨w.heap.size, 15, none⟩) hz3).trans c15
    replace a0 := (hb1.cell (p := ⟨g, 0, none⟩) hz4).trans a0
    replace b0 := (hb1.cell (p := ⟨g + 1, 0, none⟩) hz2).trans b0
    replace a1 := (hb1.cell (p := ⟨g, 1, none⟩) hz4).trans a1
    replace b1 := (hb1.cell (p := ⟨g + 1, 1, none⟩) hz2).trans b1
    replace a2 := (hb1.cell (p := ⟨g, 2, none⟩) hz4).trans a2
    replace b2 := (hb1.cell (p := ⟨g + 1, 2, none⟩) hz2).trans b2
    replace a3 := (hb1.cell (p := ⟨g, 3, none⟩) hz4).trans a3
    replace b3 := (hb1.cell (p := ⟨g + 1, 3, none⟩) hz2).trans b3
    replace hz2 := Nat.lt_of_lt_of_le hz2 hb1.size
    replace hz3 := Nat.lt_of_lt_of_le hz3 hb1.size
    replace hz4 := Nat.lt_of_lt_of_le hz4 hb1.size
    clear hb1 HSA HB0
    cases za
    · go_wp2
      go_ret
      exact ⟨ret_bool (by rw [HOK.out]; rfl), HB1.out⟩
    go_wp2_with (fail)
    refine (HSB.out _ HB1.out).mono ?_
    rintro e2 w2 ⟨rfl, hb2⟩
    have HB2 := Lib.hid (HB1.out.trans (hb2.mono HB1.out.size))
    replace a0 := (hb2.cell (p := ⟨g, 0, none⟩) hz4).trans a0
    replace b0 := (hb2.cell (p := ⟨g + 1, 0, none⟩) hz2).trans b0
    replace a1 := (hb2.cell (p := ⟨g, 1, none⟩) hz4).trans a1
    replace b1 := (hb2.cell (p := ⟨g + 1, 1, none⟩) hz2).trans b1
    replace a2 := (hb2.cell (p := ⟨g, 2, none⟩) hz4).trans a2
    replace b2 := (hb2.cell (p := ⟨g + 1, 2, none⟩) hz2).trans b2
    replace a3 := (hb2.cell (p := ⟨g, 3, none⟩) hz4).trans a3
    replace b3 := (hb2.cell (p := ⟨g + 1, 3, none⟩) hz2).trans b3
    clear hb2 HSB HB1 hz2 hz3 hz4 c0 c1 c2 c3 c4 c5 c6 c7 c8 c9 c10 c11 c12 c13 c14 c15
    cases zb
    · go_wp2
      go_ret
      exact ⟨ret_bool (by rw [HOK.out]; simp [sameHd]), HB2.out⟩
    by_cases q0 : ah = bh
    rotate_left
    · have HQ := Lib.hid q0
      have hq : (ah == bh) = false := beq_eq_false_iff_ne.2 q0
      clear q0
      go_wp2
      go_ret
      exact ⟨ret_bool (by rw [HOK.out]; simp [sameHd, HQ.out]), HB2.out⟩
    subst q0
    by_cases q1 : ae = be
    rotate_left
    · have HQ := Lib.hid q1
      have hq : (ae == be) = false := beq_eq_false_iff_ne.2 q1
      clear q1
      go_wp2
      go_ret
      exact ⟨ret_bool (by rw [HOK.out]; simp [sameHd, HQ.out]), HB2.out⟩
    subst q1
    by_cases q2 : ar = br
    rotate_left
    · have HQ := Lib.hid q2
      have hq : (ar.toList == br.toList) = false := str_ne q2
      have hq2 : ¬ ar.toList = br.toList := fun e => HQ.out (toList_inj e)
      clear q2
      go_wp2
      go_ret
      exact ⟨ret_bool (by rw [HOK.out]; simp [sameHd, HQ.out]), HB2.out⟩
    subst q2
    by_cases q3 : ap = bp
    rotate_left
    · have HQ := Lib.hid q3
      have hq : (ap.toList == bp.toList) = false := str_ne q3
      have hq2 : ¬ ap.toList = bp.toList := fun e => HQ.out (toList_inj e)
      clear q3
      go_wp2
      go_ret
      exact ⟨ret_bool (by rw [HOK.out]; simp [sameHd, HQ.out]), HB2.out⟩
    subst q3
    go_wp2
    go_ret
    exact ⟨ret_bool (by rw [HOK.out]; simp [sameHd]), HB2.out⟩
  · generalize hW2 : World.drew (World.alloc (World.alloc W _) _) = W2
    have hBW : Below W.heap.size W W2 := by rw [← hW2]; exact (((Below.refl _ _).alloc (Nat.le_refl _) _).alloc (by simp) _).drew
    have b0 : W2.cell? ⟨W.heap.size, 0, none⟩ = some (.int .i64 bh) := by rw [← hW2]; exact cell_alloc (box_cell W #[.int .i64 bh, .int .i64 be, .string br, .string bp] 25 0 _ rfl)
    have b1 : W2.cell? ⟨W.heap.size, 1, none⟩ = some (.int .i64 be) := by rw [← hW2]; exact cell_alloc (box_cell W #[.int .i64 bh, .int .i64 be, .string br, .string bp] 25 1 _ rfl)
    have b2 : W2.cell? ⟨W.heap.size, 2, none⟩ = some (.string br) := by rw [← hW2]; exact cell_alloc (box_cell W #[.int .i64 bh, .int .i64 be, .string br, .string bp] 25 2 _ rfl)
    have b3 : W2.cell? ⟨W.heap.size, 3, none⟩ = some (.string bp) := by rw [← hW2]; exact cell_alloc (box_cell W #[.int .i64 bh, .int .i64 be, .string br, .string bp] 25 3 _ rfl)
    have a0 : W2.cell? ⟨W.heap.size + 1, 0, none⟩ = some (.int .i64 ah) := by rw [← hW2, show W.heap.size + 1 = (W.alloc (.cells #[.int .i64 bh, .int .i64 be, .string br, .string bp] 25)).heap.size from by simp]; exact box_cell (W.alloc (.cells #[.int .i64 bh, .int .i64 be, .string br, .string bp] 25)) #[.int .i64 ah, .int .i64 ae, .string ar, .string ap] 25 0 _ rfl
    have a1 : W2.cell? ⟨W.heap.size + 1, 1, none⟩ = some (.int .i64 ae) := by rw [← hW2, show W.heap.size + 1 = (W.alloc (.cells #[.int .i64 bh, .int .i64 be, .string br, .string bp] 25)).heap.size from by simp]; exact box_cell (W.alloc (.cells #[.int .i64 bh, .int .i64 be, .string br, .string bp] 25)) #[.int .i64 ah, .int .i64 ae, .string ar, .string ap] 25 1 _ rfl
    have a2 : W2.cell? ⟨W.heap.size + 1, 2, none⟩ = some (.string ar) := by rw [← hW2, show W.heap.size + 1 = (W.alloc (.cells #[.int .i64 bh, .int .i64 be, .string br, .string bp] 25)).heap.size from by simp]; exact box_cell (W.alloc (.cells #[.int .i64 bh, .int .i64 be, .string br, .string bp] 25)) #[.int .i64 ah, .int .i64 ae, .string ar, .string ap] 25 2 _ rfl
    have a3 : W2.cell? ⟨W.heap.size + 1, 3, none⟩ = some (.string ap) := by rw [← hW2, show W.heap.size + 1 = (W.alloc (.cells #[.int .i64 bh, .int .i64 be, .string br, .string bp] 25)).heap.size from by simp]; exact box_cell (W.alloc (.cells #[.int .i64 bh, .int .i64 be, .string br, .string bp] 25)) #[.int .i64 ah, .int .i64 ae, .string ar, .string ap] 25 3 _ rfl
    have hz2 : W.heap.size + 1 < W2.heap.size := by rw [← hW2]; simp
    clear hW2
    have HB0 := Lib.hid (HW.out.trans (hBW.mono HW.out.size))
    replace c0 := (hBW.cell (p := ⟨w.heap.size, 0, none⟩) hWs).trans c0
    replace c1 := (hBW.cell (p := ⟨w.heap.size, 1, none⟩) hWs).trans c1
    replace c2 := (hBW.cell (p := ⟨w.heap.size, 2, none⟩) hWs).trans c2
    replace c3 := (hBW.cell (p := ⟨w.heap.size, 3, none⟩) hWs).trans c3
    replace c4 := (hBW.cell (p := ⟨w.heap.size, 4, none⟩) hWs).trans c4
    replace c5 := (hBW.cell (p := ⟨w.heap.size, 5, none⟩) hWs).trans c5
    replace c6 := (hBW.cell (p := ⟨w.heap.size, 6, none⟩) hWs).trans c6
    replace c7 := (hBW.cell (p := ⟨w.heap.size, 7, none⟩) hWs).trans c7
    replace c8 := (hBW.cell (p := ⟨w.heap.size, 8, none⟩) hWs).trans c8
    replace c9 := (hBW.cell (p := ⟨w.heap.size, 9, none⟩) hWs).trans c9
    replace c10 := (hBW.cell (p := ⟨w.heap.size, 10, none⟩) hWs).trans c10
    replace c11 := (hBW.cell (p := ⟨w.heap.size, 11, none⟩) hWs).trans c11
    replace c12 := (hBW.cell (p := ⟨w.heap.size, 12, none⟩) hWs).trans c12
    replace c13 := (hBW.cell (p := ⟨w.heap.size, 13, none⟩) hWs).trans c13
    replace c14 := (hBW.cell (p := ⟨w.heap.size, 14, none⟩) hWs).trans c14
    replace c15 := (hBW.cell (p := ⟨w.heap.size, 15, none⟩) hWs).trans c15
    have hz3 : w.heap.size < W2.heap.size := by omega
    have hz4 : W.heap.size < W2.heap.size := by omega
    clear HW hBW
    obtain ⟨g, hg⟩ : ∃ g, W.heap.size = g := ⟨_, rfl⟩
    simp only [hg] at *
    clear hg hWs
    go_wp2_with (fail)
    refine (HSA.out _ HB0.out).mono ?_
    rintro e1 w1 ⟨rfl, hb1⟩
    have HB1 := Lib.hid (HB0.out.trans (hb1.mono HB0.out.size))
    replace c0 := (hb1.cell (p := ⟨w.heap.size, 0, none⟩) hz3).trans c0
    replace c1 := (hb1.cell (p := ⟨w.heap.size, 1, none⟩) hz3).trans c1
    replace c2 := (hb1.cell (p := ⟨w.heap.size, 2, none⟩) hz3).trans c2
    replace c3 := (hb1.cell (p := ⟨w.heap.size, 3, none⟩) hz3).trans c3
    replace c4 := (hb1.cell (p := ⟨w.heap.size, 4, none⟩) hz3).trans c4
    replace c5 := (hb1.cell (p := ⟨w.heap.size, 5, none⟩) hz3).trans c5
    replace c6 := (hb1.cell (p := ⟨w.heap.size, 6, none⟩) hz3).trans c6
    replace c7 := (hb1.cell (p := ⟨w.heap.size, 7, none⟩) hz3).trans c7
    replace c8 := (hb1.cell (p := ⟨w.heap.size, 8, none⟩) hz3).trans c8
    replace c9 := (hb1.cell (p := ⟨w.heap.size, 9, none⟩) hz3).trans c9
    replace c10 := (hb1.cell (p := ⟨w.heap.size, 10, none⟩) hz3).trans c10
    replace c11 := (hb1.cell (p := ⟨w.heap.size, 11, none⟩) hz3).trans c11
    replace c12 := (hb1.cell (p := ⟨w.heap.size, 12, none⟩) hz3).trans c12
    replace c13 := (hb1.cell (p := ⟨w.heap.size, 13, none⟩) hz3).trans c13
    replace c14 := (hb1.cell (p := ⟨w.heap.size, 14, none⟩) hz3).trans c14
    replace c15 := (hb1.cell (p := ⟨w.heap.size, 15, none⟩) hz3).trans c15
    replace a0 := (hb1.cell (p := ⟨g + 1, 0, none⟩) hz2).trans a0
    replace b0 := (hb1.cell (p := ⟨g, 0, none⟩) hz4).trans b0
    replace a1 := (hb1.cell (p := ⟨g + 1, 1, none⟩) hz2).trans a1
    replace b1 := (hb1.cell (p := ⟨g, 1, none⟩) hz4).trans b1
    replace a2 := (hb1.cell (p := ⟨g + 1, 2, none⟩) hz2).trans a2
    replace b2 := (hb1.cell (p := ⟨g, 2, none⟩) hz4).trans b2
    replace a3 := (hb1.cell (p := ⟨g + 1, 3, none⟩) hz2).trans a3
    replace b3 := (hb1.cell (p := ⟨g, 3, none⟩) hz4).trans b3
    replace hz2 := Nat.lt_of_lt_of_le hz2 hb1.size
    replace hz3 := Nat.lt_of_lt_of_le hz3 hb1.size
    replace hz4 := Nat.lt_of_lt_of_le hz4 hb1.size
    clear hb1 HSA HB0
    cases za
    · go_wp2
      go_ret
      exact ⟨ret_bool (by rw [HOK.out]; rfl), HB1.out⟩
    go_wp2_with (fail)
    refine (HSB.out _ HB1.out).mono ?_
    rintro e2 w2 ⟨rfl, hb2⟩
    have HB2 := Lib.hid (HB1.out.trans (hb2.mono HB1.out.size))
    replace a0 := (hb2.cell (p := ⟨g + 1, 0, none⟩) hz2).trans a0
    replace b0 := (hb2.cell (p := ⟨g, 0, none⟩) hz4).trans b0
    replace a1 := (hb2.cell (p := ⟨g + 1, 1, none⟩) hz2).trans a1
    replace b1 := (hb2.cell (p := ⟨g, 1, none⟩) hz4).trans b1
    replace a2 := (hb2.cell (p := ⟨g + 1, 2, none⟩) hz2).trans a2
    replace b2 := (hb2.cell (p := ⟨g, 2, none⟩) hz4).trans b2
    replace a3 := (hb2.cell (p := ⟨g + 1, 3, none⟩) hz2).trans a3
    replace b3 := (hb2.cell (p := ⟨g, 3, none⟩) hz4).trans b3
    clear hb2 HSB HB1 hz2 hz3 hz4 c0 c1 c2 c3 c4 c5 c6 c7 c8 c9 c10 c11 c12 c13 c14 c15
    cases zb
    · go_wp2
      go_ret
      exact ⟨ret_bool (by rw [HOK.out]; simp [sameHd]), HB2.out⟩
    by_cases q0 : ah = bh
    rotate_left
    · have HQ := Lib.hid q0
      have hq : (ah == bh) = false := beq_eq_false_iff_ne.2 q0
      clear q0
      go_wp2
      go_ret
      exact ⟨ret_bool (by rw [HOK.out]; simp [sameHd, HQ.out]), HB2.out⟩
    subst q0
    by_cases q1 : ae = be
    rotate_left
    · have HQ := Lib.hid q1
      have hq : (ae == be) = false := beq_eq_false_iff_ne.2 q1
      clear q1
      go_wp2
      go_ret
      exact ⟨ret_bool (by rw [HOK.out]; simp [sameHd, HQ.out]), HB2.out⟩
    subst q1
    by_cases q2 : ar = br
    rotate_left
    · have HQ := Lib.hid q2
      have hq : (ar.toList == br.toList) = false := str_ne q2
      have hq2 : ¬ ar.toList = br.toList := fun e => HQ.out (toList_inj e)
      clear q2
      go_wp2
      go_ret
      exact ⟨ret_bool (by rw [HOK.out]; simp [sameHd, HQ.out]), HB2.out⟩
    subst q2
    by_cases q3 : ap = bp
    rotate_left
    · have HQ := Lib.hid q3
      have hq : (ap.toList == bp.toList) = false := str_ne q3
      have hq2 : ¬ ap.toList = bp.toList := fun e => HQ.out (toList_inj e)
      clear q3
      go_wp2
      go_ret
      exact ⟨ret_bool (by rw [HOK.out]; simp [sameHd, HQ.out]), HB2.out⟩
    subst q3
    go_wp2
    go_ret
    exact ⟨ret_bool (by rw [HOK.out]; simp [sameHd]), HB2.out⟩
end Go.Proofs.YtojbehmbeoemgaaDoor
