/- A part of the proof: what the laws need of it. -/
import Derived.Test.YtgllafgpmenjjaaGreatDoorHReL21xPr
import Derived.Test.YtgllafgpmenjjaaGreatDoorHReL24xPu
import Derived.Test.YtgllafgpmenjjaaGreatDoorHReSn
import Derived.Test.YtgllafgpmenjjaaGreatDoorHReL6xInf
import Derived.Test.YtgllafgpmenjjaaGreatDoorHReL22xNd
import Derived.Test.YtgllafgpmenjjaaGreatDoorHReL11xDp
import Derived.Test.YtgllafgpmenjjaaGreatDoorHReL7xLw
set_option linter.unusedVariables false
set_option linter.unusedSimpArgs false
set_option linter.unusedVariables false
set_option linter.unusedSimpArgs false
namespace Go.Proofs.YtgllafgpmenjjaaGreatDoor
open Go.RowKit Lay Mk
def sidesUp : Nat → Nat → List ByteArray → List ByteArray
  | 0, _, _ => []
  | m + 1, k, l => l.getD (k ^^^ 1) ⟨#[]⟩ :: sidesUp m (k / 2) (aboveL 16 l)
theorem aboveT_at (n : Int) (l : List ByteArray) : ∀ k j, j < k → (aboveT n l k).getD j ⟨#[]⟩ = tagHash 3 [l.getD (2 * j) ⟨#[]⟩, l.getD (2 * j + 1) ⟨#[]⟩] n
  | 0, j, h => absurd h (Nat.not_lt_zero j)
  | k + 1, j, h => by
    unfold aboveT
    rw [List.getD_eq_getElem?_getD]
    rcases Nat.lt_succ_iff_lt_or_eq.1 h with h1 | h1
    · rw [List.getElem?_append_left (by rw [aboveT_len]; exact h1), ← List.getD_eq_getElem?_getD]; exact aboveT_at n l k j h1
    · subst h1; rw [List.getElem?_append_right (by rw [aboveT_len]; exact Nat.le_refl _), aboveT_len, Nat.sub_self]; rfl
theorem climb_top : ∀ (m k : Nat) (l : List ByteArray), l.length = 2 ^ m → k < 2 ^ m → climb (l.getD k ⟨#[]⟩) k (sidesUp m k l) = topOf 16 m l
  | 0, k, l, h, hk => by
    have : k = 0 := by simpa using hk
    subst this; rfl
  | m + 1, k, l, h, hk => by
    rw [Nat.pow_succ] at h hk
    have hl : (aboveL 16 l).length = 2 ^ m := by rw [aboveL_len, h]; omega
    have hk2 : k / 2 < 2 ^ m := by omega
    have ih := climb_top m (k / 2) (aboveL 16 l) hl hk2
    have e : (aboveL 16 l).getD (k / 2) ⟨#[]⟩ = tagHash 3 [l.getD (2 * (k / 2)) ⟨#[]⟩, l.getD (2 * (k / 2) + 1) ⟨#[]⟩] 16 := aboveT_at 16 l _ _ (by rw [h]; omega)
    show climb (l.getD k ⟨#[]⟩) k (l.getD (k ^^^ 1) ⟨#[]⟩ :: sidesUp m (k / 2) (aboveL 16 l)) = topOf 16 m (aboveL 16 l)
    rw [← ih, e]
    rcases Nat.mod_two_eq_zero_or_one k with h2 | h2
    · rw [climb_even h2, xor_even h2, show 2 * (k / 2) = k by omega]
    · rw [climb_odd (by omega), xor_odd h2, show 2 * (k / 2) + 1 = k by omega, show 2 * (k / 2) = k - 1 by omega]
def all16 (l : List ByteArray) : Prop := ∀ k, k < l.length → (l.getD k ⟨#[]⟩).size = 16
theorem all16_up {l : List ByteArray} (h : all16 l) : all16 (aboveL 16 l) := by
  intro k hk
  rw [aboveL_len] at hk
  rw [show aboveL 16 l = aboveT 16 l (l.length / 2) from rfl, aboveT_at 16 l _ _ hk]
  exact tagHash_size (tag_two (by decide) (by rw [h _ (by omega)]; omega) (by rw [h _ (by omega)]; omega))
theorem sidesUp_len : ∀ (m k : Nat) (l : List ByteArray), (sidesUp m k l).length = m
  | 0, _, _ => rfl
  | m + 1, k, l => by show (sidesUp m (k / 2) (aboveL 16 l)).length + 1 = m + 1; rw [sidesUp_len m]
theorem sidesUp_16 : ∀ (m k : Nat) (l : List ByteArray), l.length = 2 ^ m → k < 2 ^ m → all16 l → ∀ s ∈ sidesUp m k l, s.size = 16
  | 0, _, _, _, _, _, s, hs => by cases hs
  | m + 1, k, l, h, hk, ha, s, hs => by
    rw [Nat.pow_succ] at h hk
    have hl : (aboveL 16 l).length = 2 ^ m := by rw [aboveL_len, h]; omega
    rcases List.mem_cons.1 hs with rfl | hs
    · apply ha
      rcases Nat.mod_two_eq_zero_or_one k with h2 | h2
      · rw [xor_even h2]; omega
      · rw [xor_odd h2]; omega
    · exact sidesUp_16 m (k / 2) (aboveL 16 l) hl (by omega) (all16_up ha) s hs
def opensTo (seed : ByteArray) (a : Int) (bits : Nat) : Nat → List ByteArray
  | 0 => []
  | k + 1 => opensTo seed a bits k ++ [secretOf seed a (k : Int) (bitOf bits k : Int)]
def shutsTo (seed : ByteArray) (a : Int) (bits : Nat) : Nat → List ByteArray
  | 0 => []
  | k + 1 => shutsTo seed a bits k ++ [lockOf (secretOf seed a (k : Int) ((1 - bitOf bits k : Nat) : Int))]
theorem opens_len (seed : ByteArray) (a : Int) (bits : Nat) : ∀ k, (opensTo seed a bits k).length = k
  | 0 => rfl
  | k + 1 => by unfold opensTo; rw [List.length_append, opens_len seed a bits k]; rfl
theorem shuts_len (seed : ByteArray) (a : Int) (bits : Nat) : ∀ k, (shutsTo seed a bits k).length = k
  | 0 => rfl
  | k + 1 => by unfold shutsTo; rw [List.length_append, shuts_len seed a bits k]; rfl
theorem opens_at (seed : ByteArray) (a : Int) (bits : Nat) : ∀ k j, j < k → (opensTo seed a bits k).getD j ⟨#[]⟩ = secretOf seed a (j : Int) (bitOf bits j : Int)
  | 0, j, h => absurd h (Nat.not_lt_zero j)
  | k + 1, j, h => by
    unfold opensTo
    rw [List.getD_eq_getElem?_getD]
    rcases Nat.lt_succ_iff_lt_or_eq.1 h with h1 | h1
    · rw [List.getElem?_append_left (by rw [opens_len]; exact h1), ← List.getD_eq_getElem?_getD]; exact opens_at seed a bits k j h1
    · subst h1; rw [List.getElem?_append_right (by rw [opens_len]; exact Nat.le_refl _), opens_len, Nat.sub_self]; rfl
theorem shuts_at (seed : ByteArray) (a : Int) (bits : Nat) : ∀ k j, j < k → (shutsTo seed a bits k).getD j ⟨#[]⟩ = lockOf (secretOf seed a (j : Int) ((1 - bitOf bits j : Nat) : Int))
  | 0, j, h => absurd h (Nat.not_lt_zero j)
  | k + 1, j, h => by
    unfold shutsTo
    rw [List.getD_eq_getElem?_getD]
    rcases Nat.lt_succ_iff_lt_or_eq.1 h with h1 | h1
    · rw [List.getElem?_append_left (by rw [shuts_len]; exact h1), ← List.getD_eq_getElem?_getD]; exact shuts_at seed a bits k j h1
    · subst h1; rw [List.getElem?_append_right (by rw [shuts_len]; exact Nat.le_refl _), shuts_len, Nat.sub_self]; rfl
theorem bit_two (n k : Nat) : bitOf n k = 0 ∨ bitOf n k = 1 := by unfold bitOf; omega
def signSig (seed : ByteArray) (a : Nat) (t : ByteArray) : Sig := ⟨(a : Int), opensTo seed a (signBits t) 8, shutsTo seed a (signBits t) 8, sidesUp 4 a (poolOf seed)⟩
theorem sign_locks (seed : ByteArray) (a : Nat) (t : ByteArray) : ∀ k, k ≤ 8 → locksTo (signBits t) (signSig seed a t) k = pubLocks seed (a : Int) (2 * k)
  | 0, _ => rfl
  | k + 1, h => by
    unfold locksTo
    rw [sign_locks seed a t k (by omega)]
    have e1 := pubLocks_next seed (a : Int) (b := k) (v := 0) (by omega)
    have e2 := pubLocks_next seed (a : Int) (b := k) (v := 1) (by omega)
    rw [show 2 * k + 0 + 1 = 2 * k + 1 from rfl, Nat.add_zero] at e1
    rw [show 2 * (k + 1) = 2 * k + 1 + 1 by omega, e2, e1, List.append_assoc]
    congr 1
    have h1 : (signSig seed a t).open_.getD k ⟨#[]⟩ = secretOf seed (a : Int) (k : Int) (bitOf (signBits t) k : Int) := opens_at _ _ _ 8 k (by omega)
    have h2 : (signSig seed a t).shut.getD k ⟨#[]⟩ = lockOf (secretOf seed (a : Int) (k : Int) ((1 - bitOf (signBits t) k : Nat) : Int)) := shuts_at _ _ _ 8 k (by omega)
    rcases bit_two (signBits t) k with h3 | h3
    · rw [pair_zero h3, h1, h2, h3]; rfl
    · rw [pair_one (by omega), h1, h2, h3]; rfl
theorem poolTo_at (seed : ByteArray) : ∀ k j, j < k → (poolTo seed k).getD j ⟨#[]⟩ = publicOf seed (j : Int)
  | 0, j, h => absurd h (Nat.not_lt_zero j)
  | k + 1, j, h => by
    unfold poolTo
    rw [List.getD_eq_getElem?_getD]
    rcases Nat.lt_succ_iff_lt_or_eq.1 h with h1 | h1
    · rw [List.getElem?_append_left (by rw [poolTo_len]; exact h1), ← List.getD_eq_getElem?_getD]; exact poolTo_at seed k j h1
    · subst h1; rw [List.getElem?_append_right (by rw [poolTo_len]; exact Nat.le_refl _), poolTo_len, Nat.sub_self]; rfl
theorem pub_in {seed : ByteArray} (h : seed.size ≤ 100) {a : Nat} (ha : a < 16) : pubIn seed (a : Int) = true := by
  unfold pubIn; simp [h, inB]; omega
theorem pool_16 {seed : ByteArray} (h : seed.size ≤ 100) : all16 (poolOf seed) := by
  intro k hk
  have hk : k < 16 := by rw [show poolOf seed = poolTo seed 16 from rfl, poolTo_len] at hk; exact hk
  rw [show poolOf seed = poolTo seed 16 from rfl, poolTo_at seed 16 k hk]
  exact publicOf_yes (pub_in h hk)
theorem wide_of {l : List ByteArray} {n : Nat} (h1 : l.length = n) (h2 : ∀ k, k < n → (l.getD k ⟨#[]⟩).size = 16) : wideOk l n = true := by
  rw [wide_end, decide_eq_true h1]
  intro k hk
  rw [← getD_lt hk]; exact h2 k (by omega)
theorem sign_form {seed : ByteArray} (h : seed.size ≤ 100) {a : Nat} (ha : a < 16) (t : ByteArray) : sigForm (signSig seed a t) = true := by
  have hp := pub_in h ha
  have hpl : (poolOf seed).length = 2 ^ 4 := poolTo_len seed 16
  unfold sigForm
  rw [Bool.and_eq_true, Bool.and_eq_true, Bool.and_eq_true]
  refine ⟨⟨⟨?_, ?_⟩, ?_⟩, ?_⟩
  · show inB (a : Int) 0 15 = true
    simp [inB]; omega
  · refine wide_of (opens_len _ _ _ 8) (fun k hk => ?_)
    show ((opensTo seed a (signBits t) 8).getD k ⟨#[]⟩).size = 16
    rw [opens_at _ _ _ 8 k hk]
    exact secret_yes hk (by rcases bit_two (signBits t) k with h3 | h3 <;> omega) hp
  · refine wide_of (shuts_len _ _ _ 8) (fun k hk => ?_)
    show ((shutsTo seed a (signBits t) 8).getD k ⟨#[]⟩).size = 16
    rw [shuts_at _ _ _ 8 k hk]
    exact lockOf_size (by rw [secret_yes hk (by omega) hp]; omega)
  · refine wide_of (sidesUp_len 4 _ _) (fun k hk => ?_)
    show ((sidesUp 4 a (poolOf seed)).getD k ⟨#[]⟩).size = 16
    have hl : k < (sidesUp 4 a (poolOf seed)).length := by rw [sidesUp_len]; exact hk
    rw [getD_lt hl]
    exact sidesUp_16 4 a (poolOf seed) hpl ha (pool_16 h) _ (List.getElem_mem hl)
theorem sign_root {seed : ByteArray} (h : seed.size ≤ 100) {a : Nat} (ha : a < 16) (t : ByteArray) : sigRoot t (signSig seed a t) = poolRoot (poolOf seed) := by
  have hpl : (poolOf seed).length = 2 ^ 4 := poolTo_len seed 16
  unfold sigRoot
  rw [sign_locks seed a t 8 (Nat.le_refl _)]
  have h1 : tagHash 6 (pubLocks seed (a : Int) (2 * 8)) 16 = (poolOf seed).getD a ⟨#[]⟩ := by
    rw [show poolOf seed = poolTo seed 16 from rfl, poolTo_at seed 16 a ha, publicOf, if_pos (pub_in h ha)]
  rw [h1]
  show climb ((poolOf seed).getD a ⟨#[]⟩) ((a : Int)).toNat (sidesUp 4 a (poolOf seed)) = _
  rw [Int.toNat_natCast, climb_top 4 a (poolOf seed) hpl ha]
  unfold poolRoot
  rw [if_pos hpl]
theorem sign_ok {seed : ByteArray} (h : seed.size ≤ 100) {a : Nat} (ha : a < 16) {t : ByteArray} (ht : t.size ≤ 200) : sigOk (poolRoot (poolOf seed)) t (signSig seed a t) = true := by
  unfold sigOk
  rw [sign_form h ha, sign_root h ha, decide_eq_true ht, decide_eq_true rfl]; rfl
def sealOf (seed : ByteArray) (x : Head) : Seal := ⟨x, signSig seed (x.epoch.toNat - 1) (headHash x)⟩
theorem seal_at {x : Head} (h : headOk x = true) : sealAt x.epoch = ((x.epoch.toNat - 1 : Nat) : Int) ∧ x.epoch.toNat - 1 < 16 := by
  obtain ⟨-, ⟨h1, h2⟩, -, -⟩ := headOk_b h
  unfold sealAt
  rw [if_pos (by simp [inB]; omega)]
  omega
theorem seal_ok {seed : ByteArray} (h : seed.size ≤ 100) {x : Head} (hx : headOk x = true) : sealOk (poolRoot (poolOf seed)) (sealOf seed x) = true := by
  obtain ⟨h1, h2⟩ := seal_at hx
  have h3 := headHash_le x
  unfold sealOk sealOf
  simp only
  rw [hx, h1, sign_ok h h2 (by omega), show (signSig seed (x.epoch.toNat - 1) (headHash x)).at_ = ((x.epoch.toNat - 1 : Nat) : Int) from rfl, decide_eq_true rfl]; rfl
end Go.Proofs.YtgllafgpmenjjaaGreatDoor

set_option linter.unusedVariables false
set_option linter.unusedSimpArgs false
namespace Go.Proofs.YtgllafgpmenjjaaGreatDoor
open Go.RowKit Lay Mk
def proofTexts (name : ByteArray) (p : Proof) (n : Int) : List ByteArray := if proofOk name p n = true then bucketTx p.bucket :: foldL n (indexOf name) 8 (cutDigest (bucketTx p.bucket) n) p.sides else []
def proofHash (name : ByteArray) (p : Proof) (n : Int) : ByteArray := match (proofTexts name p n).getLast? with
  | none => ⟨#[]⟩
  | some t => cutDigest t n
theorem proofOk_parts {name : ByteArray} {p : Proof} {n : Int} (h : proofOk name p n = true) : leavesOk p.bucket = true ∧ p.sides.length ≤ 8 ∧ (∀ s ∈ p.sides, s.size ≤ 32) := by
  unfold proofOk at h
  simp only [Bool.and_eq_true, decide_eq_true_eq] at h
  obtain ⟨_, h2, h3, ⟨h4, h5⟩, _⟩ := h
  have h6 : 1 ≤ n ∧ n ≤ 32 := by simpa [inB] using h4
  refine ⟨h2, h3, fun s hs => ?_⟩
  unfold wideG at h5
  rw [List.all_eq_true] at h5
  have := h5 s hs
  simp only [decide_eq_true_eq] at this
  omega
theorem foldL_le (n : Int) (ix : Nat) : ∀ (l : List ByteArray) (m : Nat) (h : ByteArray), ∀ t ∈ foldL n ix m h l, t.size ≤ 20000
  | [], _, _, t, ht => by cases ht
  | s :: r, m, h, t, ht => by
    unfold foldL at ht
    rcases List.mem_cons.1 ht with e | e
    · subst e; exact tagText_le _ _
    · exact foldL_le n ix r _ _ t e
theorem texts_le (name : ByteArray) (p : Proof) (n : Int) : ∀ t ∈ proofTexts name p n, t.size ≤ 20000 := by
  unfold proofTexts
  split
  · intro t ht
    rcases List.mem_cons.1 ht with e | e
    · subst e; exact tagText_le _ _
    · exact foldL_le _ _ _ _ _ t e
  · intro t ht; cases ht
theorem hash_le (name : ByteArray) (p : Proof) (n : Int) : (proofHash name p n).size ≤ 32 := by
  unfold proofHash; split
  · exact Nat.zero_le _
  · exact cutDigest_le _ _
theorem pair_ok {ix m : Nat} {h s : ByteArray} (h1 : h.size ≤ 32) (h2 : s.size ≤ 32) : tagOk 3 (foldPair ix m h s) = true := by
  unfold foldPair; split
  · exact tag_two (by decide) (by omega) (by omega)
  · exact tag_two (by decide) (by omega) (by omega)
theorem Own.one {α : Type} [Lay α] [Flat α] {w0 w : World} (h : Below w0.heap.size w0 w) {y : α} (ok : Flat.ok y) {cs : Array Value} {t : TypeId} (ht : t = ty α) {b : Nat} (hb : b = w.heap.size) (hc : cs.toList = Flat.cs y) : Own w0 (w.alloc (.cells cs t)) (some ⟨b, 0, none⟩) 1 [y] := by
  subst hb; subst ht
  have hl : (Flat.cs y).length = n α := Lay.len (m := true) (w := w) (S := none_) (Flat.iff.2 ⟨rfl, ok⟩)
  refine ⟨.inr ⟨w.heap.size, cs, rfl, h.size, heap_alloc_new w _, by rw [← Array.length_toList, hc, hl]; omega, fun _ => none_, fun _ _ x => x.elim, fun _ _ _ _ _ x => x.elim, fun i hi => ?_⟩, by simp, by decide, h.alloc h.size _⟩
  have hi : i = 0 := by simpa using hi
  subst hi
  refine ⟨Flat.cs y, fun j u hu => ?_, Flat.iff.2 ⟨rfl, ok⟩⟩
  rw [World.cell?_alloc_mark]
  rw [← hc] at hu
  simpa using hu
set_option maxRecDepth 20000 in set_option maxHeartbeats 8000000 in
theorem impl_ProofTexts (w : World) (name : ByteArray) (hn : name.size ≤ 1048576) (p : Proof) (cs : List Value) (S : Blks) (hx : rd false w cs p S) (hz : p.sz ≤ 1048576) (n : Int) (hnn : I64 n) (hT : Tabs w) : Calls Tryz.prog 146 #[.string name, .agg cs.toArray, .int .i64 n] w (OwnRes (proofTexts name p n) w) := by
  have HT := Lib.hid hT
  clear hT
  have HPO := Lib.hid (fun W (h : Below w.heap.size w W) => impl_ProofOk W name hn p cs S (Lay.later hx h) hz n hnn (HT.out.later h))
  have HTX := texts_le name p n
  obtain ⟨hzb, hlb, hls⟩ := proof_sz hz
  obtain ⟨A0, k0, S0, A1, k1, S1, rfl, lb, mb, r0, -, ls, ms, r1, -⟩ := Proof.open hx
  clear hx hz HTX
  have HF0 : Hid (proofOk name p n = false → proofTexts name p n = []) := Lib.hid (fun h => by unfold proofTexts; rw [h]; rfl)
  have HF1 : Hid (proofOk name p n = true → proofTexts name p n = bucketTx p.bucket :: foldL n (indexOf name) 8 (cutDigest (bucketTx p.bucket) n) p.sides) := Lib.hid (fun h => by unfold proofTexts; rw [if_pos h])
  have HPP := Lib.hid (fun h => proofOk_parts (name := name) (p := p) (n := n) h)
  obtain ⟨xs, ss⟩ := p
  simp only at hzb hlb hls r0 r1 lb ls mb ms HF1 HPP
  obtain ⟨R, hR⟩ : ∃ R, proofTexts name ⟨xs, ss⟩ n = R := ⟨_, rfl⟩
  rw [hR] at HF0 HF1 ⊢
  clear hR
  simp only [Proof.cs] at HPO ⊢
  have hWd : ∀ W, W = w.alloc (.cells #[.slice A0 xs.length k0, .slice A1 ss.length k1] 57) → Below w.heap.size w W ∧ W.cell? ⟨w.heap.size, 0, none⟩ = some (.slice A0 xs.length k0) ∧ W.cell? ⟨w.heap.size, 1, none⟩ = some (.slice A1 ss.length k1) ∧ w.heap.size < W.heap.size := by
    rintro W rfl
    exact ⟨(Below.refl _ _).alloc (Nat.le_refl _) _, box_cell _ _ _ _ _ rfl, box_cell _ _ _ _ _ rfl, by simp⟩
  cases hok : proofOk name ⟨xs, ss⟩ n <;> rw [hok] at HPO
  · have HE := Lib.hid (HF0.out hok)
    clear hok HF0 HF1 HPP
    go_enter Tryz.func146, Tryz.ntmps146
    go_wp2_with (fail)
    obtain ⟨W, hW⟩ : ∃ W, w.alloc (.cells #[.slice A0 xs.length k0, .slice A1 ss.length k1] 57) = W := ⟨_, rfl⟩
    rw [hW]
    obtain ⟨hBW, c0, c1, hlW⟩ := hWd W hW.symm
    clear hW hWd
    have HBW := Lib.hid hBW
    refine (HPO.out _ hBW).mono ?_
    rintro e1 w1 ⟨rfl, hb1⟩
    have HB1 := Lib.hid (HBW.out.trans (hb1.mono HBW.out.size))
    replace c0 := (hb1.cell (p := ⟨w.heap.size, 0, none⟩) hlW).trans c0
    replace c1 := (hb1.cell (p := ⟨w.heap.size, 1, none⟩) hlW).trans c1
    have hl1 : w.heap.size < w1.heap.size := Nat.lt_of_lt_of_le hlW hb1.size
    clear hb1 hBW HPO
    go_wp2
    go_ret
    exact OwnRes.mk (Own.start HB1.out) HE.out rfl
  have HE := Lib.hid (HF1.out hok)
  obtain ⟨hlv, hs8, hs32⟩ := HPP.out hok
  clear hok HF0 HF1 HPP
  have hix := indexOf_lt name
  obtain ⟨t0, ht0⟩ : ∃ t, bucketTx xs = t := ⟨_, rfl⟩
  have htm : t0.size ≤ 20000 := by rw [← ht0]; exact tagText_le _ _
  have htx : t0.size ≤ maxLen := ml htm (by omega)
  have HBT := Lib.hid (fun W (h : Below w.heap.size w W) => impl_bucketText W xs A0 k0 S0 (Row.later r0 h) hlb)
  have HCD := Lib.hid (fun W (h : Below w.heap.size w W) => impl_CutDigest W t0 (by omega) n hnn (HT.out.later h))
  have HIX := Lib.hid (fun W (h : Below w.heap.size w W) => impl_IndexOf W name (by omega) (HT.out.later h))
  rw [ht0] at HBT HE
  obtain ⟨ix, hixe⟩ : ∃ ix, indexOf name = ix := ⟨_, rfl⟩
  rw [hixe] at HIX HE hix
  obtain ⟨h0, hh0⟩ : ∃ h, cutDigest t0 n = h := ⟨_, rfl⟩
  have hhm : h0.size ≤ maxLen := by rw [← hh0]; exact ml (cutDigest_le _ _) (by omega)
  rw [hh0] at HCD HE
  have HFT := Lib.hid (fun W (h : Below w.heap.size w W) => impl_foldTexts W h0 hhm ix hix 8 (by omega) ss A1 k1 S1 (Row.later r1 h) hs8 n hnn (HT.out.later h))
  have hfl := foldL_len n ix ss 8 h0
  obtain ⟨FL, hFL⟩ : ∃ l, foldL n ix 8 h0 ss = l := ⟨_, rfl⟩
  rw [hFL] at HFT HE hfl
  have hfl8 : FL.length ≤ 8 := by omega
  clear ht0 hixe hh0 hFL r0 r1 hlv hs32 hfl
  go_enter Tryz.func146, Tryz.ntmps146
  go_wp2_with (fail)
  obtain ⟨W, hW⟩ : ∃ W, w.alloc (.cells #[.slice A0 xs.length k0, .slice A1 ss.length k1] 57) = W := ⟨_, rfl⟩
  rw [hW]
  obtain ⟨hBW, c0, c1, hlW⟩ := hWd W hW.symm
  clear hW hWd
  have HBW := Lib.hid hBW
  refine (HPO.out _ hBW).mono ?_
  rintro e1 w1 ⟨rfl, hb1⟩
  have HB1 := Lib.hid (HBW.out.trans (hb1.mono HBW.out.size))
  replace c0 := (hb1.cell (p := ⟨w.heap.size, 0, none⟩) hlW).trans c0
  replace c1 := (hb1.cell (p := ⟨w.heap.size, 1, none⟩) hlW).trans c1
  have hl1 : w.heap.size < w1.heap.size := Nat.lt_of_lt_of_le hlW hb1.size
  clear hb1 hBW HPO
  go_wp2_with (fail)
  refine (HBT.out _ HB1.out).mono ?_
  rintro e2 w2 ⟨rfl, hb2⟩
  have HB2 := Lib.hid (HB1.out.trans (hb2.mono HB1.out.size))
  replace c1 := (hb2.cell (p := ⟨w.heap.size, 1, none⟩) hl1).trans c1
  have hl2 : w.heap.size < w2.heap.size := Nat.lt_of_lt_of_le hl1 hb2.size
  clear hb2 c0 HBT
  have hB := Below.refl w2.heap.size w2
  have HM := Lib.hid (fun (w' : World) (h' : Below w2.heap.size w2 w') => (⟨(h'.cell (p := ⟨w.heap.size, 1, none⟩) hl2).trans c1, h'⟩ : w'.cell? ⟨w.heap.size, 1, none⟩ = some (.slice A1 ss.length k1) ∧ Below w2.heap.size w2 w'))
  go_wp2_with (fail)
  go_region_held3 (fun w' => w'.cell? ⟨w.heap.size, 1, none⟩ = some (.slice A1 ss.length k1) ∧ Below w2.heap.size w2 w')
    (first | exact HM.out _ (by (repeat (first | with_reducible exact hB | with_reducible apply Below.drew | with_reducible refine Below.alloc ?_ ?_ _)); all_goals (first | omega | (simp; done) | (simp; omega))))
    (first | (go_at_call 147; refine (HCD.out _ (HB2.out.trans (Below.mono (w := w2) (by (repeat (first | with_reducible exact hB | with_reducible apply Below.drew | with_reducible refine Below.alloc ?_ ?_ _)); all_goals (first | omega | (simp; done) | (simp; omega))) HB2.out.size))).mono ?_; rintro e5 w5 ⟨rfl, hb5⟩; have hs5 := hb5.size; (try simp at hs5); have hB := Below.step (a := w2) (by (repeat (first | with_reducible exact hB | with_reducible apply Below.drew | with_reducible refine Below.alloc ?_ ?_ _)); all_goals (first | omega | (simp; done) | (simp; omega))) hb5) | (go_at_call 97; refine (HIX.out _ (HB2.out.trans (Below.mono (w := w2) (by (repeat (first | with_reducible exact hB | with_reducible apply Below.drew | with_reducible refine Below.alloc ?_ ?_ _)); all_goals (first | omega | (simp; done) | (simp; omega))) HB2.out.size))).mono ?_; rintro e6 w6 ⟨rfl, hb6⟩; have hs6 := hb6.size; (try simp at hs6); have hB := Below.step (a := w2) (by (repeat (first | with_reducible exact hB | with_reducible apply Below.drew | with_reducible refine Below.alloc ?_ ?_ _)); all_goals (first | omega | (simp; done) | (simp; omega))) hb6) | (go_at_call 145; refine (HFT.out _ (HB2.out.trans (Below.mono (w := w2) (by (repeat (first | with_reducible exact hB | with_reducible apply Below.drew | with_reducible refine Below.alloc ?_ ?_ _)); all_goals (first | omega | (simp; done) | (simp; omega))) HB2.out.size))).mono ?_; rintro e7 w7 ⟨A7, c7, rfl, own7⟩; have hs7 := own7.bl.size; (try simp at hs7); have HO7 := Lib.hid own7; have hB := Below.step (a := w2) (by (repeat (first | with_reducible exact hB | with_reducible apply Below.drew | with_reducible refine Below.alloc ?_ ?_ _)); all_goals (first | omega | (simp; done) | (simp; omega))) own7.bl; clear own7))
  have HB7 := Lib.hid (HB2.out.trans (Below.mono (w := w2) hB HB2.out.size))
  have HO8 := Lib.hid (Own.one (α := ByteArray) HB7.out (y := t0) htx (cs := #[.string t0]) (t := 9) rfl (b := w7.heap.size) rfl rfl)
  have HSR := Lib.hid (Src.flat (Row.later HO7.out.row ((Below.refl w7.heap.size w7).alloc (Nat.le_refl _) (.cells #[.string t0] 9))))
  go_wp2_with (at_builtin; refine wpList_push (α := ByteArray) rfl _ _ rfl rfl rfl HO8.out rfl rfl HSR.out (by first | omega | (simp; omega)) ?_; intro A6 c6 w8 o6 z6)
  go_ret
  exact OwnRes.mk o6 (by rw [HE.out]; rfl) (by simp; omega)
set_option maxRecDepth 20000 in set_option maxHeartbeats 8000000 in
theorem impl_ProofHash (w : World) (name : ByteArray) (hn : name.size ≤ 1048576) (p : Proof) (cs : List Value) (S : Blks) (hx : rd false w cs p S) (hz : p.sz ≤ 1048576) (n : Int) (hnn : I64 n) (hT : Tabs w) : Calls Tryz.prog 96 #[.string name, .agg cs.toArray, .int .i64 n] w fun e w' => e = .returned (.string (proofHash name p n)) ∧ Below w.heap.size w w' := by
  have HT := Lib.hid hT
  clear hT
  have HPT := Lib.hid (fun W (h : Below w.heap.size w W) => impl_ProofTexts W name hn p cs S (Lay.later hx h) hz n hnn (HT.out.later h))
  have HTX := Lib.hid (texts_le name p n)
  have HF : Hid (proofHash name p n = match (proofTexts name p n).getLast? with
    | none => ⟨#[]⟩
    | some t => cutDigest t n) := Lib.hid rfl
  obtain ⟨R, hR⟩ : ∃ R, proofHash name p n = R := ⟨_, rfl⟩
  rw [hR] at HF ⊢
  obtain ⟨L, hL⟩ : ∃ L, proofTexts name p n = L := ⟨_, rfl⟩
  rw [hL] at HF HPT HTX
  clear hR hL
  obtain ⟨A0, k0, S0, A1, k1, S1, rfl, -⟩ := Proof.open hx
  clear hx hz
  simp only [Proof.cs] at HPT ⊢
  go_enter Tryz.func96, Tryz.ntmps96
  go_wp2_with (fail)
  refine (HPT.out _ ((Below.refl _ _).alloc (Nat.le_refl _) _)).mono ?_
  rintro e1 w1 ⟨A, c, rfl, own⟩
  have HB1 := Lib.hid (Below.via own.bl)
  rcases List.eq_nil_or_concat L with hnil | ⟨pre, tl, hpt⟩
  · subst hnil
    have HE : Hid (R = ⟨#[]⟩) := Lib.hid HF.out
    clear own HF
    go_wp2
    go_ret
    exact ⟨ret_str (by rw [HE.out]), HB1.out⟩
  · have hpt2 : L = pre ++ [tl] := by rw [hpt, List.concat_eq_append]
    subst hpt2
    have HE : Hid (R = cutDigest tl n) := Lib.hid (by rw [HF.out]; simp)
    have htl := HTX.out tl (by simp)
    obtain ⟨b1, o1, rfl, hl1, f0, s0⟩ := Row.str own.row (i := pre.length) (by simp)
    rw [List.getElem_concat_length (rfl)] at f0
    have hln : (pre ++ [tl]).length = pre.length + 1 := by simp
    obtain ⟨m, hm⟩ : ∃ m, pre.length = m := ⟨_, rfl⟩
    have hcm := Nat.le_trans own.le own.cm
    rw [hln, hm] at hcm
    rw [hm] at hln f0
    rw [hln]
    unfold maxLen at hcm
    have hw1 : IntKind.i64.wrap (((m + 1 : Nat) : Int) - 1) = (m : Int) := by rw [IntWalk.i64_in _ (by omega)]; omega
    have hp : (0 : Int) < ((m + 1 : Nat) : Int) := by omega
    have hq : ((m + 1 : Nat) : Int) - 1 = (m : Int) := by omega
    have hpp : (0 : Int) < (m : Int) + 1 := by omega
    have hlt2 : (m : Int) < ((m + 1 : Nat) : Int) := by omega
    have hlt3 : (m : Int) < (m : Int) + 1 := by omega
    have hqq : (m : Int) + 1 - 1 = (m : Int) := by omega
    have hw2 : IntKind.i64.wrap (m : Int) = (m : Int) := IntWalk.i64_in _ (by omega)
    have hq0 : ((((m + 1 : Nat) : Int)) == 0) = false := by rw [beq_eq_false_iff_ne]; omega
    have hq1 : (((m : Int) + 1) == 0) = false := by rw [beq_eq_false_iff_ne]; omega
    clear own hln hm s0 hpt HF HTX
    go_wp2_with (fail)
    refine (impl_CutDigest _ tl (by omega) n hnn (HT.out.later HB1.out)).mono ?_
    rintro e2 w2 ⟨rfl, hb2⟩
    have HB2 := Lib.hid (HB1.out.trans (hb2.mono HB1.out.size))
    clear hb2
    go_wp2
    go_ret
    exact ⟨ret_str (by rw [HE.out]), HB2.out⟩
set_option maxRecDepth 20000 in set_option maxHeartbeats 4000000 in
theorem impl_ProofSays (w : World) (name : ByteArray) (hn : name.size ≤ maxLen) (p : Proof) (cs : List Value) (S : Blks) (hx : rd false w cs p S) (hz : p.sz ≤ 1048576) : Calls Tryz.prog 100 #[.string name, .agg cs.toArray] w fun e w' => e = .returned (.tuple #[.string (leafGet p.bucket name).1, .bool (leafGet p.bucket name).2]) ∧ Below w.heap.size w w' := by
  obtain ⟨hzb, hlb, hls⟩ := proof_sz hz
  obtain ⟨A0, k0, S0, A1, k1, S1, rfl, lb, mb, r0, -⟩ := Proof.open hx
  clear hx hz
  have HG := Lib.hid (fun W (h : Below w.heap.size w W) => impl_LeafGet W p.bucket A0 k0 S0 (Row.later r0 h) (by omega) name hn)
  clear r0
  simp only [Proof.cs]
  go_enter Tryz.func100, Tryz.ntmps100
  go_wp2_with (fail)
  refine (HG.out _ ((Below.refl _ _).alloc (Nat.le_refl _) _)).mono ?_
  rintro e1 w1 ⟨rfl, hb1⟩
  go_wp2
  go_ret2
  exact ⟨rfl, Below.via hb1⟩
set_option maxRecDepth 20000 in set_option maxHeartbeats 4000000 in
theorem spec_ProofSays (w : World) (name : ByteArray) (hn : name.size ≤ maxLen) (p : Proof) (cs : List Value) (S : Blks) (hx : rd false w cs p S) (hz : p.sz ≤ 1048576) : Calls Tryz.prog 28 #[.string name, .agg cs.toArray] w fun e w' => e = .returned (.tuple #[.string (leafGet p.bucket name).1, .bool (leafGet p.bucket name).2]) ∧ Below w.heap.size w w' := by
  obtain ⟨hzb, hlb, hls⟩ := proof_sz hz
  obtain ⟨A0, k0, S0, A1, k1, S1, rfl, lb, mb, r0, -⟩ := Proof.open hx
  clear hx hz
  have HG := Lib.hid (fun W (h : Below w.heap.size w W) => spec_LeafGet W p.bucket A0 k0 S0 (Row.later r0 h) (by omega) name hn)
  clear r0
  simp only [Proof.cs]
  go_enter Tryz.func28, Tryz.ntmps28
  go_wp2_with (fail)
  refine (HG.out _ ((Below.refl _ _).alloc (Nat.le_refl _) _)).mono ?_
  rintro e1 w1 ⟨rfl, hb1⟩
  go_wp2
  go_ret2
  exact ⟨rfl, Below.via hb1⟩
end Go.Proofs.YtgllafgpmenjjaaGreatDoor

set_option linter.unusedVariables false
set_option linter.unusedSimpArgs false
namespace Go.Proofs.YtgllafgpmenjjaaGreatDoor
open Go.RowKit Lay Mk
def stampKey (h e : Int) : Int := if (inB h 0 2 && inB e 1 4) = true then 4 * (h + 1) + e - 1 else -1
def stampTx (x : Head) : ByteArray := tagHash 8 [headHash x] 16
def stampOk (root : ByteArray) (x : Head) (s : Sig) : Bool := headOk x && decide (s.at_ = stampKey x.house x.epoch) && sigOk root (stampTx x) s
set_option maxRecDepth 20000 in set_option maxHeartbeats 4000000 in
theorem impl_StampAt (h e : Int) (w : World) : Calls Tryz.prog 149 #[.int .i64 h, .int .i64 e] w fun r w' => r = .returned (.int .i64 (stampKey h e)) ∧ w = w' := by
  cases h1 : inB h 0 2
  · have HC : Hid (stampKey h e = -1) := Lib.hid (by unfold stampKey; rw [h1]; rfl)
    go_enter Tryz.func149, Tryz.ntmps149
    go_wp2_with (first | (go_at_call 74; refine (house_in _ _).mono ?_; rintro e2 w2 ⟨rfl, rfl⟩) | (go_at_call 152; refine (epoch_in _ _).mono ?_; rintro e3 w3 ⟨rfl, rfl⟩))
    go_ret
    exact ⟨by rw [HC.out]; rfl, rfl⟩
  cases h2 : inB e 1 4
  · have HC : Hid (stampKey h e = -1) := Lib.hid (by unfold stampKey; rw [h1, h2]; rfl)
    go_enter Tryz.func149, Tryz.ntmps149
    go_wp2_with (first | (go_at_call 74; refine (house_in _ _).mono ?_; rintro e2 w2 ⟨rfl, rfl⟩) | (go_at_call 152; refine (epoch_in _ _).mono ?_; rintro e3 w3 ⟨rfl, rfl⟩))
    go_ret
    exact ⟨by rw [HC.out]; rfl, rfl⟩
  have HC : Hid (stampKey h e = 4 * (h + 1) + e - 1) := Lib.hid (by unfold stampKey; rw [h1, h2]; rfl)
  have hb1 : 0 ≤ h ∧ h ≤ 2 := by simpa [inB] using h1
  have hb2 : 1 ≤ e ∧ e ≤ 4 := by simpa [inB] using h2
  obtain ⟨q1, q2⟩ := hb1
  obtain ⟨q3, q4⟩ := hb2
  go_enter Tryz.func149, Tryz.ntmps149
  go_wp2_with (first | (go_at_call 74; refine (house_in _ _).mono ?_; rintro e2 w2 ⟨rfl, rfl⟩) | (go_at_call 152; refine (epoch_in _ _).mono ?_; rintro e3 w3 ⟨rfl, rfl⟩))
  go_ret
  exact ⟨by rw [HC.out]; rfl, rfl⟩
set_option maxRecDepth 20000 in set_option maxHeartbeats 4000000 in
theorem impl_stampText (x : Head) (w : World) (hT : Tabs w) : Calls Tryz.prog 150 #[.agg (Head.cs x).toArray] w fun e w' => e = .returned (.string (stampTx x)) ∧ Below w.heap.size w w' := by
  have HT := Lib.hid hT
  clear hT
  have HH := Lib.hid (fun W (h : Below w.heap.size w W) => impl_HeadHash x W (HT.out.later h))
  have HF : Hid (stampTx x = tagHash 8 [headHash x] 16) := Lib.hid rfl
  have hle := headHash_le x
  obtain ⟨t, ht⟩ : ∃ t, headHash x = t := ⟨_, rfl⟩
  rw [ht] at HH HF hle
  clear ht
  obtain ⟨hs, ep, r, p⟩ := x
  simp only [Head.cs] at HH ⊢
  go_enter Tryz.func150, Tryz.ntmps150
  go_wp2_with (fail)
  refine (HH.out _ ((Below.refl _ _).alloc (Nat.le_refl _) _)).mono ?_
  rintro e1 w1 ⟨rfl, hb1⟩
  have HB1 := Lib.hid (Below.via hb1)
  clear hb1
  go_wp2_with (fail)
  refine (impl_hashOf _ 8 (by unfold I64; omega) [t] _ _ _ (row_one w1 t (ml hle (by omega)) _) (by simp) 16 (by unfold I64; omega) (HT.out.later (HB1.out.alloc HB1.out.size _))).mono ?_
  rintro e5 w5 ⟨rfl, hb5⟩
  go_wp2
  go_ret
  exact ⟨ret_str (by rw [HF.out]), (HB1.out.alloc HB1.out.size _).trans (hb5.mono (by have := HB1.out.size; simp; omega))⟩
set_option maxRecDepth 20000 in set_option maxHeartbeats 8000000 in
theorem impl_StampOk (w : World) (root : ByteArray) (x : Head) (s : Sig) (cs : List Value) (S : Blks) (hx : rd false w cs s S) (hT : Tabs w) : Calls Tryz.prog 99 #[.string root, .agg (Head.cs x).toArray, .agg cs.toArray] w fun e w' => e = .returned (.bool (stampOk root x s)) ∧ Below w.heap.size w w' := by
  have HT := Lib.hid hT
  clear hT
  have HSig := Lib.hid (fun W (h : Below w.heap.size w W) => impl_SigOk W root (stampTx x) s cs S (Lay.later hx h) (HT.out.later h))
  have HTX := Lib.hid (fun W (h : Below w.heap.size w W) => impl_stampText x W (HT.out.later h))
  have HHO := Lib.hid (fun W => impl_HeadOk x W)
  have HSA := Lib.hid (fun W => impl_StampAt x.house x.epoch W)
  have HOK : Hid (stampOk root x s = (headOk x && decide (s.at_ = stampKey x.house x.epoch) && sigOk root (stampTx x) s)) := Lib.hid rfl
  obtain ⟨A0, k0, S0, A1, k1, S1, A2, k2, S2, rfl, -⟩ := Sig.open hx
  clear hx
  obtain ⟨v, hv⟩ : ∃ v, stampKey x.house x.epoch = v := ⟨_, rfl⟩
  rw [hv] at HSA HOK
  clear hv
  obtain ⟨R, hR⟩ : ∃ R, stampOk root x s = R := ⟨_, rfl⟩
  rw [hR] at HOK ⊢
  clear hR
  obtain ⟨z, hz⟩ : ∃ z, sigOk root (stampTx x) s = z := ⟨_, rfl⟩
  rw [hz] at HSig HOK
  clear hz
  obtain ⟨tx, htx⟩ : ∃ t, stampTx x = t := ⟨_, rfl⟩
  rw [htx] at HSig HTX
  clear htx
  obtain ⟨b, hb⟩ : ∃ b, headOk x = b := ⟨_, rfl⟩
  rw [hb] at HHO HOK
  clear hb
  obtain ⟨hh, he, hr, hp⟩ := x
  obtain ⟨a, so, ss, sd⟩ := s
  simp only [Head.cs, Sig.cs] at HSig HTX HHO HSA HOK ⊢
  cases b
  · go_enter Tryz.func99, Tryz.ntmps99
    go_wp2
    generalize hW : (w.alloc (.cells #[.int .i64 hh, .int .i64 he, .string hr, .string hp] 58)).alloc (.cells #[.int .i64 a, .slice A0 so.length k0, .slice A1 ss.length k1, .slice A2 sd.length k2] 59) = W
    have HBW : Hid (Below w.heap.size w W) := by rw [← hW]; exact Lib.hid (((Below.refl _ _).alloc (Nat.le_refl _) _).alloc (by simp) _)
    have c0 := Grown.cell (show W.cell? ⟨w.heap.size, 0, none⟩ = some (.int .i64 hh) by rw [← hW]; exact cell_alloc (box_cell _ _ _ _ _ rfl))
    have c1 := Grown.cell (show W.cell? ⟨w.heap.size, 1, none⟩ = some (.int .i64 he) by rw [← hW]; exact cell_alloc (box_cell _ _ _ _ _ rfl))
    have c2 := Grown.cell (show W.cell? ⟨w.heap.size, 2, none⟩ = some (.string hr) by rw [← hW]; exact cell_alloc (box_cell _ _ _ _ _ rfl))
    have c3 := Grown.cell (show W.cell? ⟨w.heap.size, 3, none⟩ = some (.string hp) by rw [← hW]; exact cell_alloc (box_cell _ _ _ _ _ rfl))
    have d0 := Grown.cell (show W.cell? ⟨w.heap.size + 1, 0, none⟩ = some (.int .i64 a) by rw [← hW, show w.heap.size + 1 = (w.alloc (.cells #[.int .i64 hh, .int .i64 he, .string hr, .string hp] 58)).heap.size from by simp]; exact box_cell _ _ _ _ _ rfl)
    have d1 := Grown.cell (show W.cell? ⟨w.heap.size + 1, 1, none⟩ = some (.slice A0 so.length k0) by rw [← hW, show w.heap.size + 1 = (w.alloc (.cells #[.int .i64 hh, .int .i64 he, .string hr, .string hp] 58)).heap.size from by simp]; exact box_cell _ _ _ _ _ rfl)
    have d2 := Grown.cell (show W.cell? ⟨w.heap.size + 1, 2, none⟩ = some (.slice A1 ss.length k1) by rw [← hW, show w.heap.size + 1 = (w.alloc (.cells #[.int .i64 hh, .int .i64 he, .string hr, .string hp] 58)).heap.size from by simp]; exact box_cell _ _ _ _ _ rfl)
    have d3 := Grown.cell (show W.cell? ⟨w.heap.size + 1, 3, none⟩ = some (.slice A2 sd.length k2) by rw [← hW, show w.heap.size + 1 = (w.alloc (.cells #[.int .i64 hh, .int .i64 he, .string hr, .string hp] 58)).heap.size from by simp]; exact box_cell _ _ _ _ _ rfl)
    have hz1 : w.heap.size + 1 < W.heap.size := by rw [← hW]; simp
    clear hW
    obtain ⟨B, hB⟩ : ∃ B, w.heap.size = B := ⟨_, rfl⟩
    simp only [hB] at c0 c1 c2 c3 d0 d1 d2 d3 hz1 ⊢
    have HBE := Lib.hid hB
    clear hB
    refine wp_region_grown (by kernel_rfl) (by kernel_rfl) ?_
    repeat (go_big_quiet_step (first | (go_at_call 101; exact grown_call (HHO.out _)) | (go_at_call 149; exact grown_same (HSA.out _)) | (go_at_call 150; exact grown_call (HTX.out _ (HBW.out.trans ((Grown.ok _).mono HBW.out.size)))) | (go_at_call 103; exact grown_call (HSig.out _ (HBW.out.trans ((Grown.ok _).mono HBW.out.size))))))
    refine wpQuiet_nil ?_
    intro w2 hw2
    have hR := Lib.hid (grown_below hw2)
    clear hw2
    go_wp2
    go_ret
    exact ⟨ret_bool (by rw [HOK.out]; simp []), by first | exact (HBW.out).trans (hR.out.mono HBW.out.size) | rw [← HBE.out]; exact (HBW.out).trans (hR.out.mono HBW.out.size)⟩
  by_cases hav : a = v
  · have HAV := Lib.hid hav
    subst hav
    go_enter Tryz.func99, Tryz.ntmps99
    go_wp2
    generalize hW : (w.alloc (.cells #[.int .i64 hh, .int .i64 he, .string hr, .string hp] 58)).alloc (.cells #[.int .i64 a, .slice A0 so.length k0, .slice A1 ss.length k1, .slice A2 sd.length k2] 59) = W
    have HBW : Hid (Below w.heap.size w W) := by rw [← hW]; exact Lib.hid (((Below.refl _ _).alloc (Nat.le_refl _) _).alloc (by simp) _)
    have c0 := Grown.cell (show W.cell? ⟨w.heap.size, 0, none⟩ = some (.int .i64 hh) by rw [← hW]; exact cell_alloc (box_cell _ _ _ _ _ rfl))
    have c1 := Grown.cell (show W.cell? ⟨w.heap.size, 1, none⟩ = some (.int .i64 he) by rw [← hW]; exact cell_alloc (box_cell _ _ _ _ _ rfl))
    have c2 := Grown.cell (show W.cell? ⟨w.heap.size, 2, none⟩ = some (.string hr) by rw [← hW]; exact cell_alloc (box_cell _ _ _ _ _ rfl))
    have c3 := Grown.cell (show W.cell? ⟨w.heap.size, 3, none⟩ = some (.string hp) by rw [← hW]; exact cell_alloc (box_cell _ _ _ _ _ rfl))
    have d0 := Grown.cell (show W.cell? ⟨w.heap.size + 1, 0, none⟩ = some (.int .i64 a) by rw [← hW, show w.heap.size + 1 = (w.alloc (.cells #[.int .i64 hh, .int .i64 he, .string hr, .string hp] 58)).heap.size from by simp]; exact box_cell _ _ _ _ _ rfl)
    have d1 := Grown.cell (show W.cell? ⟨w.heap.size + 1, 1, none⟩ = some (.slice A0 so.length k0) by rw [← hW, show w.heap.size + 1 = (w.alloc (.cells #[.int .i64 hh, .int .i64 he, .string hr, .string hp] 58)).heap.size from by simp]; exact box_cell _ _ _ _ _ rfl)
    have d2 := Grown.cell (show W.cell? ⟨w.heap.size + 1, 2, none⟩ = some (.slice A1 ss.length k1) by rw [← hW, show w.heap.size + 1 = (w.alloc (.cells #[.int .i64 hh, .int .i64 he, .string hr, .string hp] 58)).heap.size from by simp]; exact box_cell _ _ _ _ _ rfl)
    have d3 := Grown.cell (show W.cell? ⟨w.heap.size + 1, 3, none⟩ = some (.slice A2 sd.length k2) by rw [← hW, show w.heap.size + 1 = (w.alloc (.cells #[.int .i64 hh, .int .i64 he, .string hr, .string hp] 58)).heap.size from by simp]; exact box_cell _ _ _ _ _ rfl)
    have hz1 : w.heap.size + 1 < W.heap.size := by rw [← hW]; simp
    clear hW
    obtain ⟨B, hB⟩ : ∃ B, w.heap.size = B := ⟨_, rfl⟩
    simp only [hB] at c0 c1 c2 c3 d0 d1 d2 d3 hz1 ⊢
    have HBE := Lib.hid hB
    clear hB
    refine wp_region_grown (by kernel_rfl) (by kernel_rfl) ?_
    repeat (go_big_quiet_step (first | (go_at_call 101; exact grown_call (HHO.out _)) | (go_at_call 149; exact grown_same (HSA.out _)) | (go_at_call 150; exact grown_call (HTX.out _ (HBW.out.trans ((Grown.ok _).mono HBW.out.size)))) | (go_at_call 103; exact grown_call (HSig.out _ (HBW.out.trans ((Grown.ok _).mono HBW.out.size))))))
    refine wpQuiet_nil ?_
    intro w2 hw2
    have hR := Lib.hid (grown_below hw2)
    clear hw2
    go_wp2
    go_ret
    exact ⟨ret_bool (by rw [HOK.out]; simp []), by first | exact (HBW.out).trans (hR.out.mono HBW.out.size) | rw [← HBE.out]; exact (HBW.out).trans (hR.out.mono HBW.out.size)⟩
  · have HAV := Lib.hid hav
    have hq1 : (a == v) = false := beq_eq_false_iff_ne.2 hav
    have hq2 : decide (a = v) = false := decide_eq_false hav
    clear hav
    go_enter Tryz.func99, Tryz.ntmps99
    go_wp2
    generalize hW : (w.alloc (.cells #[.int .i64 hh, .int .i64 he, .string hr, .string hp] 58)).alloc (.cells #[.int .i64 a, .slice A0 so.length k0, .slice A1 ss.length k1, .slice A2 sd.length k2] 59) = W
    have HBW : Hid (Below w.heap.size w W) := by rw [← hW]; exact Lib.hid (((Below.refl _ _).alloc (Nat.le_refl _) _).alloc (by simp) _)
    have c0 := Grown.cell (show W.cell? ⟨w.heap.size, 0, none⟩ = some (.int .i64 hh) by rw [← hW]; exact cell_alloc (box_cell _ _ _ _ _ rfl))
    have c1 := Grown.cell (show W.cell? ⟨w.heap.size, 1, none⟩ = some (.int .i64 he) by rw [← hW]; exact cell_alloc (box_cell _ _ _ _ _ rfl))
    have c2 := Grown.cell (show W.cell? ⟨w.heap.size, 2, none⟩ = some (.string hr) by rw [← hW]; exact cell_alloc (box_cell _ _ _ _ _ rfl))
    have c3 := Grown.cell (show W.cell? ⟨w.heap.size, 3, none⟩ = some (.string hp) by rw [← hW]; exact cell_alloc (box_cell _ _ _ _ _ rfl))
    have d0 := Grown.cell (show W.cell? ⟨w.heap.size + 1, 0, none⟩ = some (.int .i64 a) by rw [← hW, show w.heap.size + 1 = (w.alloc (.cells #[.int .i64 hh, .int .i64 he, .string hr, .string hp] 58)).heap.size from by simp]; exact box_cell _ _ _ _ _ rfl)
    have d1 := Grown.cell (show W.cell? ⟨w.heap.size + 1, 1, none⟩ = some (.slice A0 so.length k0) by rw [← hW, show w.heap.size + 1 = (w.alloc (.cells #[.int .i64 hh, .int .i64 he, .string hr, .string hp] 58)).heap.size from by simp]; exact box_cell _ _ _ _ _ rfl)
    have d2 := Grown.cell (show W.cell? ⟨w.heap.size + 1, 2, none⟩ = some (.slice A1 ss.length k1) by rw [← hW, show w.heap.size + 1 = (w.alloc (.cells #[.int .i64 hh, .int .i64 he, .string hr, .string hp] 58)).heap.size from by simp]; exact box_cell _ _ _ _ _ rfl)
    have d3 := Grown.cell (show W.cell? ⟨w.heap.size + 1, 3, none⟩ = some (.slice A2 sd.length k2) by rw [← hW, show w.heap.size + 1 = (w.alloc (.cells #[.int .i64 hh, .int .i64 he, .string hr, .string hp] 58)).heap.size from by simp]; exact box_cell _ _ _ _ _ rfl)
    have hz1 : w.heap.size + 1 < W.heap.size := by rw [← hW]; simp
    clear hW
    obtain ⟨B, hB⟩ : ∃ B, w.heap.size = B := ⟨_, rfl⟩
    simp only [hB] at c0 c1 c2 c3 d0 d1 d2 d3 hz1 ⊢
    have HBE := Lib.hid hB
    clear hB
    refine wp_region_grown (by kernel_rfl) (by kernel_rfl) ?_
    repeat (go_big_quiet_step (first | (go_at_call 101; exact grown_call (HHO.out _)) | (go_at_call 149; exact grown_same (HSA.out _)) | (go_at_call 150; exact grown_call (HTX.out _ (HBW.out.trans ((Grown.ok _).mono HBW.out.size)))) | (go_at_call 103; exact grown_call (HSig.out _ (HBW.out.trans ((Grown.ok _).mono HBW.out.size))))))
    refine wpQuiet_nil ?_
    intro w2 hw2
    have hR := Lib.hid (grown_below hw2)
    clear hw2
    go_wp2
    go_ret
    exact ⟨ret_bool (by rw [HOK.out]; simp [HAV.out]), by first | exact (HBW.out).trans (hR.out.mono HBW.out.size) | rw [← HBE.out]; exact (HBW.out).trans (hR.out.mono HBW.out.size)⟩
end Go.Proofs.YtgllafgpmenjjaaGreatDoor

set_option linter.unusedVariables false
set_option linter.unusedSimpArgs false
namespace Go.Proofs.YtgllafgpmenjjaaGreatDoor
open Go.RowKit Lay Mk
def EmptiesRes (n : Int) (w : World) (e : Ending) (w' : World) : Prop := ∃ b, e = .returned (.slice (some ⟨b, 0, none⟩) 9 9) ∧ w.heap.size ≤ b ∧ b < w'.heap.size ∧ (∀ j, j ≤ 8 → w'.cell? ⟨b, j, none⟩ = some (.string (emptyD n (8 - j)))) ∧ Below w.heap.size w w'
set_option maxRecDepth 20000 in set_option maxHeartbeats 8000000 in
theorem spec_l10Empties (w : World) (n : Int) (hn : I64 n) : Calls Tryz.prog 162 #[.int .i64 n] w (EmptiesRes n w) := by
  have hmk : ∀ W : World, (Instr.makeSlice 25 (.int .i64 9) (.int .i64 9)).run Tryz.prog W = .ok (.slice (some ⟨W.heap.size, 0, none⟩) 9 9) (W.alloc (.cells #[.string ⟨#[]⟩, .string ⟨#[]⟩, .string ⟨#[]⟩, .string ⟨#[]⟩, .string ⟨#[]⟩, .string ⟨#[]⟩, .string ⟨#[]⟩, .string ⟨#[]⟩, .string ⟨#[]⟩] 9)) := fun _ => by kernel_rfl
  have hWd : ∀ W, W = w.alloc (.cells #[.string ⟨#[]⟩, .string ⟨#[]⟩, .string ⟨#[]⟩, .string ⟨#[]⟩, .string ⟨#[]⟩, .string ⟨#[]⟩, .string ⟨#[]⟩, .string ⟨#[]⟩, .string ⟨#[]⟩] 9) → Below w.heap.size w W ∧ (∀ j, j ≤ 8 → W.cell? ⟨w.heap.size, j, none⟩ = some (.string ⟨#[]⟩)) ∧ (∀ o, W.frozen? ⟨w.heap.size, o, none⟩ = false) ∧ w.heap.size < W.heap.size := by
    rintro W rfl
    refine ⟨(Below.refl _ _).alloc (Nat.le_refl _) _, fun j hj => ?_, fun o => by simp, by simp⟩
    rcases (show j = 0 ∨ j = 1 ∨ j = 2 ∨ j = 3 ∨ j = 4 ∨ j = 5 ∨ j = 6 ∨ j = 7 ∨ j = 8 by omega) with rfl | rfl | rfl | rfl | rfl | rfl | rfl | rfl | rfl <;> exact box_cell _ _ _ _ _ rfl
  have HE0 : Hid (tagHash 1 [] n = emptyD n 0) := Lib.hid rfl
  have HEM := Lib.hid (fun k => emptyD_max n k)
  go_enter Tryz.func162, Tryz.ntmps162
  go_wp2_with (fail)
  obtain ⟨W, hW⟩ : ∃ W, w.alloc (.cells #[.string ⟨#[]⟩, .string ⟨#[]⟩, .string ⟨#[]⟩, .string ⟨#[]⟩, .string ⟨#[]⟩, .string ⟨#[]⟩, .string ⟨#[]⟩, .string ⟨#[]⟩, .string ⟨#[]⟩] 9) = W := ⟨_, rfl⟩
  rw [hW]
  obtain ⟨hBW, ha, hf, hlW⟩ := hWd W hW.symm
  clear hW hWd hmk
  have HBW := Lib.hid hBW
  have hlA := hlW
  refine (spec_TagHash _ 1 (by unfold I64; omega) [] _ 0 none_ (show Row false _ _ _ ([] : List ByteArray) none_ from fun h => absurd rfl h) (by simp) n hn).mono ?_
  rintro e0 w0 ⟨rfl, hb0⟩
  rw [HE0.out]
  have hV := Below.via hb0
  have hB0 := hBW.trans (hV.mono hBW.size)
  have ha0 := fun (j : Nat) (hj : j ≤ 8) => (hV.cell (p := ⟨w.heap.size, j, none⟩) hlW).trans (ha j hj)
  have hf0 := fun (o : Nat) => (hV.frozen (p := ⟨w.heap.size, o, none⟩) hlW).trans (hf o)
  have hl0 : w.heap.size < w0.heap.size := Nat.lt_of_lt_of_le hlW hV.size
  have h8 := ha0 8 (Nat.le_refl _)
  have HA0 := Lib.hid ha0
  have HF0 := Lib.hid hf0
  have HB0 := Lib.hid hB0
  have HS8 := Lib.hid (World.cell?_setCell_same w0 ⟨w.heap.size, 8, none⟩ (.string (emptyD n 0)) h8)
  have HES : Hid (∀ k, tagHash 3 [emptyD n k, emptyD n k] n = emptyD n (k + 1)) := Lib.hid (fun _ => rfl)
  clear ha hf hBW hb0 hV ha0 hB0 hlA HE0
  go_wp2
  go_loopw [4] (fun i wr => ∃ l : Nat, l ≤ 8 ∧ i = .int .i64 ((l : Int) - 1) ∧ Hid (∀ j, l ≤ j → j ≤ 8 → wr.cell? ⟨w.heap.size, j, none⟩ = some (.string (emptyD n (8 - j)))) ∧ Hid (∀ j, j < l → wr.cell? ⟨w.heap.size, j, none⟩ = some (.string ⟨#[]⟩)) ∧ Hid (∀ o, wr.frozen? ⟨w.heap.size, o, none⟩ = false) ∧ Hid (Below w.heap.size w wr) ∧ w.heap.size < wr.heap.size) (fun i _ => (intOf i + 1).toNat)
  case atStart =>
    refine ⟨8, Nat.le_refl _, rfl, Lib.hid (fun j h1 h2 => ?_), Lib.hid (fun j h1 => ?_), Lib.hid (fun o => by simpa using HF0.out o), Lib.hid (Below.setCell HB0.out (Nat.le_refl _) _), by simpa using hl0⟩
    · obtain rfl : j = 8 := by omega
      exact HS8.out
    · exact (World.cell?_setCell_other _ _ _ _ (by intro h; injection h with h1 h2 h3; omega)).trans (HA0.out j (by omega))
  case round =>
    clear h8 hf0 hl0
    obtain ⟨l, hl8, rfl, HC, HZ, HFZ, HBr, hlr⟩ := hrel
    by_cases hl0 : l = 0
    · subst hl0
      go_wp2
      go_ret
      exact ⟨w.heap.size, rfl, Nat.le_refl _, hlr, fun j hj => HC.out j (Nat.zero_le _) hj, HBr.out⟩
    · obtain ⟨q, rfl⟩ : ∃ q, l = q + 1 := ⟨l - 1, by omega⟩
      have hqe : (((q + 1 : Nat) : Int) - 1) = (q : Int) := by omega
      simp only [hqe]
      have x1 := HC.out (q + 1) (Nat.le_refl _) hl8
      have x0 := HZ.out q (by omega)
      have hfr := HFZ.out q
      have hq8 : q < 8 := by omega
      have hqge : (q : Int) ≥ 0 := by omega
      have hq0 : (0 : Int) ≤ (q : Int) := by omega
      have hq9 : (q : Int) < 9 := by omega
      have hq1 : IntKind.i64.wrap ((q : Int) + 1) = (q : Int) + 1 := by rw [IntWalk.i64_in] <;> omega
      have hq19 : (q : Int) + 1 < 9 := by omega
      have hq10 : (0 : Int) ≤ (q : Int) + 1 := by omega
      have hqt : ((q : Int) + 1).toNat = q + 1 := by omega
      have hqm : IntKind.i64.wrap ((q : Int) - 1) = (q : Int) - 1 := by rw [IntWalk.i64_in] <;> omega
      have HST : Hid (tagHash 3 [emptyD n (8 - (q + 1)), emptyD n (8 - (q + 1))] n = emptyD n (8 - q)) := Lib.hid (by rw [HES.out]; congr 1; omega)
      have hem := HEM.out (8 - (q + 1))
      have HM := Lib.hid (fun (w' : World) (h : Below wr.heap.size wr w') => (⟨(h.cell (p := ⟨w.heap.size, q + 1, none⟩) hlr).trans x1, HBr.out.trans (h.mono (Nat.le_of_lt hlr))⟩ : w'.cell? ⟨w.heap.size, q + 1, none⟩ = some (.string (emptyD n (8 - (q + 1)))) ∧ Below w.heap.size w w'))
      have HM0 := Lib.hid (fun (w' : World) (h : Below wr.heap.size wr w') => (⟨(h.cell (p := ⟨w.heap.size, q, none⟩) hlr).trans x0, (h.frozen (p := ⟨w.heap.size, q, none⟩) hlr).trans hfr⟩ : w'.cell? ⟨w.heap.size, q, none⟩ = some (.string ⟨#[]⟩) ∧ w'.frozen? ⟨w.heap.size, q, none⟩ = false))
      have HMA := Lib.hid (fun (w' : World) (h : Below wr.heap.size wr w') => (⟨fun j h1 h2 => (h.cell (p := ⟨w.heap.size, j, none⟩) hlr).trans (HC.out j h1 h2), fun j h1 => (h.cell (p := ⟨w.heap.size, j, none⟩) hlr).trans (HZ.out j h1), fun o => (h.frozen (p := ⟨w.heap.size, o, none⟩) hlr).trans (HFZ.out o)⟩ : (∀ j, q + 1 ≤ j → j ≤ 8 → w'.cell? ⟨w.heap.size, j, none⟩ = some (.string (emptyD n (8 - j)))) ∧ (∀ j, j < q + 1 → w'.cell? ⟨w.heap.size, j, none⟩ = some (.string ⟨#[]⟩)) ∧ (∀ o, w'.frozen? ⟨w.heap.size, o, none⟩ = false)))
      obtain ⟨E, hEe⟩ : ∃ E, emptyD n (8 - (q + 1)) = E := ⟨_, rfl⟩
      simp only [hEe] at HST hem HM x1
      have hB := Below.refl wr.heap.size wr
      have HEE := Lib.hid hEe
      clear hEe x1 x0 hfr HC HZ HFZ hqe
      go_wp2_with (fail)
      go_region_held3 (fun w' => w'.cell? ⟨w.heap.size, q + 1, none⟩ = some (.string E) ∧ Below w.heap.size w w')
        (first | exact ⟨(World.cell?_setCell_other _ _ _ _ (by intro h; injection h with h1 h2 h3; omega)).trans (HM.out _ hB).1, Below.setCell (HM.out _ hB).2 (Nat.le_refl _) _⟩ | exact HM.out _ (by (repeat (first | with_reducible exact hB | with_reducible apply Below.drew | with_reducible refine Below.alloc ?_ ?_ _)); all_goals (first | omega | (simp; done) | (simp; omega))))
        (first | (go_at_call 127; refine (spec_TagHash _ 3 (by unfold I64; omega) [E, E] _ _ _ (by first | exact row_pairAt _ E E hem hem _ _ (by first | rfl | simp) | exact Row.drewC (row_pairAt _ E E hem hem _ _ (by first | rfl | simp))) (by simp) n hn).mono ?_; rintro e5 w5 ⟨rfl, hb5⟩; have hB := Below.step (a := wr) (by (repeat (first | with_reducible exact hB | with_reducible apply Below.drew | with_reducible refine Below.alloc ?_ ?_ _)); all_goals (first | omega | (simp; done) | (simp; omega))) hb5; have hs5 := hB.size; have hl5 : w.heap.size < w5.heap.size := (by omega); have y0 := (HM0.out _ hB).1; have yf := (HM0.out _ hB).2) | fail)
      obtain ⟨HA1, HA2, HA3⟩ := HMA.out _ hB
      have HSS := Lib.hid (World.cell?_setCell_same w5 ⟨w.heap.size, q, none⟩ (.string (emptyD n (8 - q))) y0)
      have HRR := Lib.hid (And.intro HA1 (And.intro HA2 HA3))
      have HB5 := Lib.hid (HBr.out.trans (hB.mono (Nat.le_of_lt hlr)))
      rw [HST.out]
      clear HA1 HA2 HA3 y0 yf
      go_wp2
      go_roundw
      case rel =>
        refine ⟨q, by omega, by go_num, Lib.hid (fun j h1 h2 => ?_), Lib.hid (fun j h1 => ?_), Lib.hid (fun o => by simpa using HRR.out.2.2 o), Lib.hid (Below.setCell HB5.out (Nat.le_refl _) _), by simpa using hl5⟩
        · by_cases hjq : j = q
          · subst hjq; exact HSS.out
          · exact (World.cell?_setCell_other _ _ _ _ (by intro h; injection h with h1 h2 h3; omega)).trans (HRR.out.1 j (by omega) h2)
        · exact (World.cell?_setCell_other _ _ _ _ (by intro h; injection h with h1 h2 h3; omega)).trans (HRR.out.2.1 j (by omega))
      case measure => simp [intOf]
end Go.Proofs.YtgllafgpmenjjaaGreatDoor

set_option linter.unusedVariables false
set_option linter.unusedSimpArgs false
namespace Go.Proofs.YtgllafgpmenjjaaGreatDoor
open Go.RowKit Lay Mk
def PlRes (R : Proof × Bool) (w : World) (e : Ending) (w' : World) : Prop := ∃ c, e = .returned (.tuple #[.agg c.toArray, .bool R.2]) ∧ rd true w' c R.1 (rng w.heap.size w'.heap.size) ∧ Below w.heap.size w w'
theorem PlRes.mk {R : Proof × Bool} {B : List Leaf} {L : List ByteArray} {b : Bool} {w w' : World} {A A' : Option Addr} {c c' n n' : Nat} {S S' : Blks} (hR : R = (⟨B, L⟩, b)) (hn : n = B.length) (hn' : n' = L.length) (l1 : B.length ≤ c) (m1 : c ≤ maxLen) (r1 : Row true w' A c B S) (l2 : L.length ≤ c') (m2 : c' ≤ maxLen) (r2 : Row true w' A' c' L S') (hd : disj S S') (s1 : sub S (rng w.heap.size w'.heap.size)) (s2 : sub S' (rng w.heap.size w'.heap.size)) (hb : Below w.heap.size w w') :
    PlRes R w (.returned (.tuple #[.agg #[.slice A n c, .slice A' n' c'], .bool b])) w' := by
  subst hR; subst hn; subst hn'
  exact ⟨[.slice A B.length c, .slice A' L.length c'], rfl, Proof.mk' (x := ⟨B, L⟩) (S0 := S) (S1 := S') l1 m1 r1 s1 l2 m2 r2 s2 (fun _ => pwmk2 hd), hb⟩
theorem PlRes.nil {R : Proof × Bool} {w w' : World} (hR : R = (⟨[], []⟩, false)) (hb : Below w.heap.size w w') : PlRes R w (.returned (.tuple #[.agg #[.slice none 0 0, .slice none 0 0], .bool false])) w' :=
  PlRes.mk (S := none_) (S' := none_) hR rfl rfl (Nat.le_refl _) (by decide) (row_nil _ _) (Nat.le_refl _) (by decide) (row_nil _ _) (disj_none_ _) (fun _ h => h.elim) (fun _ h => h.elim) hb
end Go.Proofs.YtgllafgpmenjjaaGreatDoor
