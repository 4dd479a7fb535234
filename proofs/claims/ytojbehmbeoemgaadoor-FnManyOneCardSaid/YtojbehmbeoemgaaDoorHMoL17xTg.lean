/- A part of the proof: what the laws need of it. -/
import Derived.Outline
import Derived.Test.YtojbehmbeoemgaaDoorHMoL9xBy
import Derived.Test.YtojbehmbeoemgaaDoorHMoDx
import Derived.Test.YtojbehmbeoemgaaDoorHMoRd
import Derived.Test.YtojbehmbeoemgaaDoorHMoL6xInf
import Derived.Test.YtojbehmbeoemgaaDoorHMoL10xDt
set_option linter.unusedVariables false
set_option linter.unusedSimpArgs false
set_option linter.unusedVariables false
set_option linter.unusedSimpArgs false
namespace Go.Proofs.YtojbehmbeoemgaaDoor
open Go.RowKit Lay Mk
def partB (p : ByteArray) : List UInt8 := varB p.size ++ p.data.toList
def tagBody (kind : Int) (xs : List ByteArray) : List UInt8 := UInt8.ofNat kind.toNat :: xs.flatMap partB
def partsOk (xs : List ByteArray) : Bool := xs.all (fun p => decide (p.size ≤ 200))
def tagOk (kind : Int) (xs : List ByteArray) : Bool := inB kind 1 8 && decide (xs.length ≤ 60) && partsOk xs
def tagText (kind : Int) (xs : List ByteArray) : ByteArray := if tagOk kind xs then bs (tagBody kind xs) else ⟨#[]⟩
def tagHash (kind : Int) (xs : List ByteArray) (n : Int) : ByteArray := if tagOk kind xs then cutDigest (tagText kind xs) n else ⟨#[]⟩
theorem varB_le5 {n : Nat} (h : n ≤ 200) : (varB n).length ≤ 5 := by
  have h1 := varT_le (n := n) (by omega)
  unfold varT at h1; rw [bs_size] at h1; exact h1
theorem partB_le {p : ByteArray} (h : p.size ≤ 200) : (partB p).length ≤ 205 := by
  have h1 := varB_le5 h
  have h2 : p.data.toList.length = p.size := rfl
  unfold partB; rw [List.length_append, h2]; omega
theorem body_take (kind : Int) (xs : List ByteArray) (k : Nat) (h : k < xs.length) : tagBody kind (xs.take (k + 1)) = tagBody kind (xs.take k) ++ partB xs[k] := by
  unfold tagBody; rw [List.take_succ_eq_append_getElem h, List.flatMap_append]; simp
theorem body_le (kind : Int) : ∀ (xs : List ByteArray), (∀ j (h : j < xs.length), xs[j].size ≤ 200) → (tagBody kind xs).length ≤ 1 + 205 * xs.length
  | [], _ => by simp [tagBody]
  | x :: xs, h => by
    have h1 := body_le kind xs (fun j hj => h (j + 1) (by simp; omega))
    have h2 := partB_le (h 0 (by simp))
    simp only [List.getElem_cons_zero] at h2
    simp only [tagBody, List.flatMap_cons, List.length_cons, List.length_append] at *
    omega
theorem parts_bad {xs : List ByteArray} {k : Nat} (h : k < xs.length) (hp : 200 < xs[k].size) : partsOk xs = false := by
  unfold partsOk; rw [List.all_eq_false]; exact ⟨xs[k], List.getElem_mem h, by simpa using hp⟩
theorem parts_good {xs : List ByteArray} (h : ∀ j (h : j < xs.length), xs[j].size ≤ 200) : partsOk xs = true := by
  unfold partsOk; rw [List.all_eq_true]; intro x hx
  obtain ⟨j, hj, rfl⟩ := List.getElem_of_mem hx
  simpa using h j hj
theorem parts_at {xs : List ByteArray} (h : partsOk xs = true) (j : Nat) (hj : j < xs.length) : xs[j].size ≤ 200 := by
  unfold partsOk at h; rw [List.all_eq_true] at h; simpa using h _ (List.getElem_mem hj)
theorem tagText_le (kind : Int) (xs : List ByteArray) : (tagText kind xs).size ≤ 20000 := by
  unfold tagText
  split
  · rename_i h
    simp only [tagOk, Bool.and_eq_true, decide_eq_true_eq] at h
    obtain ⟨⟨h1, h2⟩, h3⟩ := h
    rw [bs_size]
    have := body_le kind xs (fun j hj => parts_at h3 j hj)
    omega
  · exact Nat.zero_le _
theorem tagHash_le (kind : Int) (xs : List ByteArray) (n : Int) : (tagHash kind xs n).size ≤ 32 := by
  unfold tagHash; split
  · exact cutDigest_le _ _
  · exact Nat.zero_le _
theorem br_lit (w : World) (cs : Array Value) (t : TypeId) (l : List UInt8) (h : cs.toList = l.map u8c) : BR (w.alloc (.cells cs t)) (some ⟨w.heap.size, 0, none⟩) l.length l (fun b => w.heap.size ≤ b) := by
  refine .inr ⟨w.heap.size, rfl, Nat.le_refl _, by simp, fun j hj => ⟨?_, frozen_of_row _ _ j _ _ (heap_alloc_new w _)⟩, at_lit _ _ _ _ _ h⟩
  rw [World.cell?_alloc_mark]
  have hz : j < cs.size := by have := congrArg List.length h; simp at this; omega
  simp [hz]
theorem wrap_kind {kind : Int} (h : inB kind 1 8 = true) : IntKind.u8.wrap kind = ((UInt8.ofNat kind.toNat).toNat : Int) := by
  simp [inB] at h
  rw [IntKind.wrap_u8']
  simp
  omega
theorem bs_cat (a : List UInt8) (p : ByteArray) : bs a ++ varT p.size ++ p = bs (a ++ partB p) := by
  unfold varT partB
  rw [bs_app, ← List.append_assoc, ← bs_app (a ++ varB p.size), bs_data]
theorem sh_data (p : ByteArray) : (varT p.size ++ p).data.toList = partB p := by
  have : varT p.size ++ p = bs (partB p) := by
    have h := bs_cat [] p
    rw [List.nil_append] at h
    rw [← h]
    apply ByteArray.ext
    simp [bs]
  rw [this]; simp [bs]
theorem impl_shortText (w : World) (s : ByteArray) (hs : s.size ≤ 200) : Calls Tryd.prog 102 #[.string s] w fun e w' => e = .returned (.string (varT s.size ++ s)) ∧ Below w.heap.size w w' := by
  have hv := varT_le (n := s.size) (by omega)
  have hc : ¬ 9223372036854775807 < (varT s.size).size + s.size := by omega
  go_enter Tryd.func102, Tryd.ntmps102
  go_wp2_with (fail)
  refine (impl_varText s.size _ (by omega)).mono ?_
  rintro e0 w1 ⟨rfl, hb⟩
  go_wp2
  go_ret
  exact ⟨rfl, hb⟩
set_option maxRecDepth 20000 in set_option maxHeartbeats 4000000 in
theorem impl_TagText (w : World) (kind : Int) (hkind : I64 kind) (xs : List ByteArray) (A : Option Addr) (cap : Nat) (S : Blks) (hx : Row false w A cap xs S) (hl : xs.length ≤ 4000000000) : Calls Tryd.prog 151 #[.int .i64 kind, .slice A xs.length cap] w fun e w' => e = .returned (.tuple #[.string (tagText kind xs), .bool (tagOk kind xs)]) ∧ Below w.heap.size w w' := by
  cases hin : inB kind 1 8
  · have HT : Hid (tagText kind xs = ⟨#[]⟩) := Lib.hid (by unfold tagText tagOk; rw [hin]; rfl)
    have HO : Hid (tagOk kind xs = false) := Lib.hid (by unfold tagOk; rw [hin]; rfl)
    go_enter Tryd.func151, Tryd.ntmps151
    go_wp2_with (go_at_call 125; refine (impl_in _ _ _ _).mono ?_; rintro e0 w0 ⟨rfl, rfl⟩)
    go_ret2
    exact ⟨by rw [HT.out, HO.out]; rfl, Below.refl _ _⟩
  have hw8 := wrap_kind hin
  by_cases h60 : 60 < xs.length
  · have HT : Hid (tagText kind xs = ⟨#[]⟩) := Lib.hid (by unfold tagText tagOk; rw [decide_eq_false (by omega)]; simp)
    have HO : Hid (tagOk kind xs = false) := Lib.hid (by unfold tagOk; rw [decide_eq_false (by omega)]; simp)
    go_enter Tryd.func151, Tryd.ntmps151
    go_wp2_with (go_at_call 125; refine (impl_in _ _ _ _).mono ?_; rintro e0 w0 ⟨rfl, rfl⟩)
    go_ret2
    exact ⟨by rw [HT.out, HO.out]; rfl, Below.refl _ _⟩
  have HB : Hid (partsOk xs = false → tagText kind xs = ⟨#[]⟩ ∧ tagOk kind xs = false) := Lib.hid (fun h => by unfold tagText tagOk; rw [h]; simp)
  have HG : Hid (partsOk xs = true → tagText kind xs = bs (tagBody kind xs) ∧ tagOk kind xs = true) := Lib.hid (fun h => by
    have : tagOk kind xs = true := by unfold tagOk; rw [h, hin, decide_eq_true (by omega)]; rfl
    exact ⟨by unfold tagText; rw [if_pos this], this⟩)
  have HP := Lib.hid (fun (k : Nat) h => parts_bad (xs := xs) (k := k) h)
  obtain ⟨kb, hkb⟩ : ∃ b, UInt8.ofNat kind.toNat = b := ⟨_, rfl⟩
  rw [hkb] at hw8
  have HK := Lib.hid hkb; clear hkb
  go_enter Tryd.func151, Tryd.ntmps151
  go_wp2_with (go_at_call 125; refine (impl_in _ _ _ _).mono ?_; rintro e0 w0 ⟨rfl, rfl⟩)
  have r0 := br_lit w #[.int .u8 (IntKind.u8.wrap kind)] 5 [kb] (by rw [hw8]; rfl)
  rw [hw8] at r0
  clear hin
  have HI : Hid (IntKind.u8.wrap kind = (kb.toNat : Int)) := Lib.hid hw8
  clear hw8
  go_loopw [6, 22] (fun u i wr => ∃ (k : Nat) (m : Nat) (A2 : Option Addr) (cap2 : Nat), k ≤ xs.length ∧ i = .int .i64 k ∧ u = .slice A2 m cap2 ∧ Hid (m = (tagBody kind (xs.take k)).length) ∧ m ≤ 1 + 205 * k ∧ m ≤ cap2 ∧ cap2 ≤ maxLen ∧ Hid (∀ j (h : j < xs.length), j < k → xs[j].size ≤ 200) ∧ BR wr A2 cap2 (tagBody kind (xs.take k)) (fun b => w.heap.size ≤ b) ∧ Below w.heap.size w wr) (fun _ i _ => xs.length - (intOf i).toNat)
  case atStart => exact ⟨0, 1, _, 1, Nat.zero_le _, rfl, rfl, Lib.hid rfl, by omega, by omega, by decide, Lib.hid (fun j _ h => absurd h (by omega)), by rw [List.take_zero]; simp only [tagBody, List.flatMap_nil, HK.out]; first | exact r0 | (rw [← HI.out] at r0; exact r0), (Below.refl _ _).alloc (Nat.le_refl _) _⟩
  case round =>
    clear r0
    obtain ⟨k, m, A2, cap2, hk, rfl, rfl, Hm, hm, c1, c2, HS, r1, hB⟩ := hrel
    have hz := hB.size
    by_cases hlt : k < xs.length
    · obtain ⟨b1, o1, rfl, hl1, f0, s0⟩ := Row.str hx hlt
      replace f0 := (hB.cell (p := ⟨b1, o1 + k, none⟩) hl1).trans f0
      have hl2 : b1 < wr.heap.size := by omega
      have HBd := Lib.hid (HP.out k hlt)
      have HN := Lib.hid (body_take kind xs k hlt)
      have HN2 : Hid (xs[k].size ≤ 200 → ∀ j (h : j < xs.length), j < k + 1 → xs[j].size ≤ 200) := Lib.hid (fun h0 j h hj => by rcases Nat.lt_succ_iff_lt_or_eq.1 hj with h1 | h1; exact HS.out j h h1; subst h1; exact h0)
      obtain ⟨x, hxx⟩ : ∃ x, xs[k] = x := ⟨_, rfl⟩
      rw [hxx] at f0 s0 HBd HN HN2
      clear hxx
      by_cases h200 : 200 < x.size
      · have HE := Lib.hid (HB.out (HBd.out h200))
        go_wp2
        go_ret2
        exact ⟨by rw [HE.out.1, HE.out.2]; rfl, hB⟩
      have hp := partB_le (p := x) (by omega)
      have hpe : (varT x.size ++ x).size = (partB x).length := by rw [← sh_data x]; rfl
      have HPE := Lib.hid hpe; clear hpe
      have HSD := Lib.hid (sh_data x)
      go_wp2_with (fail)
      refine (impl_shortText _ x (by omega)).mono ?_
      rintro e0 w1 ⟨rfl, hb1⟩
      have hB1 : Below w.heap.size w w1 := hB.trans (hb1.mono hz)
      have hz1 := hb1.size
      obtain ⟨y, hy⟩ : ∃ y, varT x.size ++ x = y := ⟨_, rfl⟩
      rw [hy] at HPE HSD
      simp only [hy]
      have hys : y.size ≤ 205 := by rw [HPE.out]; exact hp
      clear hy
      go_wp2_with (at_builtin; refine wpList_appS rfl _ _ rfl Tryd.underlying9 rfl Hm.out (r1.later hb1) c1 c2 y rfl (by omega) ?_; intro A5 cap5 w5 d1 d2 d3 d4)
      have hB5 : Below w.heap.size w w5 := hB1.trans (d4.to_below (by omega) (fun b hb => hb))
      go_roundw
      case rel => exact ⟨k + 1, m + y.size, A5, cap5, hlt, by go_num, rfl, Lib.hid (by rw [HN.out, List.length_append, ← Hm.out, HPE.out]), by omega, d1, d2, Lib.hid (HN2.out (by omega)), by rw [HN.out, ← HSD.out]; exact d3.mono (fun b hb => hb.elim id (fun q => Nat.le_trans (Nat.le_trans hz hz1) q)), hB5⟩
      case measure => simp [intOf]; omega
    · have hke : k = xs.length := by omega
      subst hke
      have HE := Lib.hid (HG.out (parts_good (fun j h => HS.out j h h)))
      rw [List.take_length] at r1 Hm
      go_wp2_with (refine wpList_strB rfl _ rfl Tryd.underlying5 Tryd.underlying9 rfl Hm.out r1 ?_)
      go_ret2
      exact ⟨by rw [HE.out.1, HE.out.2]; rfl, hB⟩
set_option maxRecDepth 20000 in set_option maxHeartbeats 4000000 in
theorem spec_TagText (w : World) (kind : Int) (hkind : I64 kind) (xs : List ByteArray) (A : Option Addr) (cap : Nat) (S : Blks) (hx : Row false w A cap xs S) (hl : xs.length ≤ 4000000000) : Calls Tryd.prog 138 #[.int .i64 kind, .slice A xs.length cap] w fun e w' => e = .returned (.tuple #[.string (tagText kind xs), .bool (tagOk kind xs)]) ∧ Below w.heap.size w w' := by
  cases hin : inB kind 1 8
  · have HT : Hid (tagText kind xs = ⟨#[]⟩) := Lib.hid (by unfold tagText tagOk; rw [hin]; rfl)
    have HO : Hid (tagOk kind xs = false) := Lib.hid (by unfold tagOk; rw [hin]; rfl)
    go_enter Tryd.func138, Tryd.ntmps138
    go_wp2_with (go_at_call 50; refine (spec_in _ _ _ _).mono ?_; rintro e0 w0 ⟨rfl, rfl⟩)
    go_ret2
    exact ⟨by rw [HT.out, HO.out]; rfl, Below.refl _ _⟩
  have hw8 := wrap_kind hin
  by_cases h60 : 60 < xs.length
  · have HT : Hid (tagText kind xs = ⟨#[]⟩) := Lib.hid (by unfold tagText tagOk; rw [decide_eq_false (by omega)]; simp)
    have HO : Hid (tagOk kind xs = false) := Lib.hid (by unfold tagOk; rw [decide_eq_false (by omega)]; simp)
    go_enter Tryd.func138, Tryd.ntmps138
    go_wp2_with (go_at_call 50; refine (spec_in _ _ _ _).mono ?_; rintro e0 w0 ⟨rfl, rfl⟩)
    go_ret2
    exact ⟨by rw [HT.out, HO.out]; rfl, Below.refl _ _⟩
  have HB : Hid (partsOk xs = false → tagText kind xs = ⟨#[]⟩ ∧ tagOk kind xs = false) := Lib.hid (fun h => by unfold tagText tagOk; rw [h]; simp)
  have HG : Hid (partsOk xs = true → tagText kind xs = bs (tagBody kind xs) ∧ tagOk kind xs = true) := Lib.hid (fun h => by
    have : tagOk kind xs = true := by unfold tagOk; rw [h, hin, decide_eq_true (by omega)]; rfl
    exact ⟨by unfold tagText; rw [if_pos this], this⟩)
  have HP := Lib.hid (fun (k : Nat) h => parts_bad (xs := xs) (k := k) h)
  obtain ⟨kb, hkb⟩ : ∃ b, UInt8.ofNat kind.toNat = b := ⟨_, rfl⟩
  rw [hkb] at hw8
  have HK := Lib.hid hkb; clear hkb
  have HI : Hid (IntKind.u8.wrap kind = (kb.toNat : Int)) := Lib.hid hw8
  have hs1 : ([kb] : List UInt8).length = 1 := rfl
  have r0 := br_lit w #[.int .u8 (kb.toNat : Int)] 5 [kb] rfl
  rw [hs1] at r0
  have R0 := Lib.hid r0
  clear r0 hs1
  go_enter Tryd.func138, Tryd.ntmps138
  go_wp2_with (first | (go_at_call 50; refine (spec_in _ _ _ _).mono ?_; rintro e0 w0 ⟨rfl, rfl⟩) | (refine wpList_strB rfl _ rfl Tryd.underlying5 Tryd.underlying9 rfl rfl R0.out ?_))
  clear hin R0
  clear hw8
  go_loopw [6, 7] (fun u i wr => ∃ (k : Nat) (s : ByteArray), k ≤ xs.length ∧ i = .int .i64 k ∧ u = .string s ∧ Hid (s = bs (tagBody kind (xs.take k))) ∧ s.size ≤ 1 + 205 * k ∧ Hid (∀ j (h : j < xs.length), j < k → xs[j].size ≤ 200) ∧ Below w.heap.size w wr) (fun _ i _ => xs.length - (intOf i).toNat)
  case atStart => exact ⟨0, bs [kb], Nat.zero_le _, rfl, rfl, Lib.hid (by rw [List.take_zero]; simp only [tagBody, List.flatMap_nil, HK.out]), by simp [bs_size], Lib.hid (fun j _ h => absurd h (by omega)), (Below.refl _ _).alloc (Nat.le_refl _) _⟩
  case round =>
    obtain ⟨k, s, hk, rfl, rfl, Hs, hm, HS, hB⟩ := hrel
    have hz := hB.size
    by_cases hlt : k < xs.length
    · obtain ⟨b1, o1, rfl, hl1, f0, s0⟩ := Row.str hx hlt
      replace f0 := (hB.cell (p := ⟨b1, o1 + k, none⟩) hl1).trans f0
      have hl2 : b1 < wr.heap.size := by omega
      have HBd := Lib.hid (HP.out k hlt)
      have HN := Lib.hid (body_take kind xs k hlt)
      have HN2 : Hid (xs[k].size ≤ 200 → ∀ j (h : j < xs.length), j < k + 1 → xs[j].size ≤ 200) := Lib.hid (fun h0 j h hj => by rcases Nat.lt_succ_iff_lt_or_eq.1 hj with h1 | h1; exact HS.out j h h1; subst h1; exact h0)
      obtain ⟨x, hxx⟩ : ∃ x, xs[k] = x := ⟨_, rfl⟩
      rw [hxx] at f0 s0 HBd HN HN2
      clear hxx
      by_cases h200 : 200 < x.size
      · have HE := Lib.hid (HB.out (HBd.out h200))
        go_wp2
        go_ret2
        exact ⟨by rw [HE.out.1, HE.out.2]; rfl, hB⟩
      have hv := varT_le (n := x.size) (by omega)
      have hc1 : ¬ 9223372036854775807 < s.size + (varT x.size).size := by omega
      have hc2 : ¬ 9223372036854775807 < s.size + (varT x.size).size + x.size := by omega
      have HC : Hid (s ++ varT x.size ++ x = bs (tagBody kind (xs.take (k + 1)))) := Lib.hid (by rw [Hs.out, bs_cat, HN.out])
      have hsz : (s ++ varT x.size ++ x).size ≤ 1 + 205 * (k + 1) := by rw [ByteArray.size_append, ByteArray.size_append]; omega
      have HM := Lib.hid (fun (w' : World) (h : Below wr.heap.size wr w') => (⟨(h.cell (p := ⟨b1, o1 + k, none⟩) hl2).trans f0, h⟩ : w'.cell? ⟨b1, o1 + k, none⟩ = some (.string x) ∧ Below wr.heap.size wr w'))
      clear HN
      go_wp2
      clear f0
      have hR : Below wr.heap.size wr wr := Below.refl _ _
      go_region_held (fun w' => w'.cell? ⟨b1, o1 + k, none⟩ = some (.string x) ∧ Below wr.heap.size wr w')
        (first | exact HM.out _ hR | exact HM.out _ hR.drew)
        (first | (go_at_call 99; refine (spec_l01Var _ _ (by omega)).mono ?_; rintro e0 w1 ⟨rfl, hb⟩; have hcc := fun (p : Addr) (h : p.block < _) => hb.cell (p := p) h; have hR := Below.step (a := wr) (by first | exact hR | exact hR.drew) hb))
      all_goals
        go_wp2
        go_roundw
        case rel => exact ⟨k + 1, s ++ varT x.size ++ x, hlt, by go_num, rfl, HC, hsz, Lib.hid (HN2.out (by omega)), hB.trans (hR.mono hz)⟩
        case measure => simp [intOf]; omega
    · have hke : k = xs.length := by omega
      subst hke
      have HE := Lib.hid (HG.out (parts_good (fun j h => HS.out j h h)))
      rw [List.take_length] at Hs
      go_wp2
      go_ret2
      exact ⟨by rw [HE.out.1, HE.out.2, Hs.out]; rfl, hB⟩
set_option maxRecDepth 20000 in set_option maxHeartbeats 4000000 in
theorem impl_TagHash (w : World) (kind : Int) (hkind : I64 kind) (xs : List ByteArray) (A : Option Addr) (cap : Nat) (S : Blks) (hx : Row false w A cap xs S) (hl : xs.length ≤ 4000000000) (n : Int) (hn : I64 n) (hT : Tabs w) : Calls Tryd.prog 140 #[.int .i64 kind, .slice A xs.length cap, .int .i64 n] w fun e w' => e = .returned (.string (tagHash kind xs n)) ∧ Below w.heap.size w w' := by
  have hz := tagText_le kind xs
  cases hok : tagOk kind xs
  · have HT : Hid (tagHash kind xs n = ⟨#[]⟩) := Lib.hid (by unfold tagHash; rw [hok]; rfl)
    go_enter Tryd.func140, Tryd.ntmps140
    go_wp2_with (fail)
    refine (impl_TagText _ kind hkind xs A cap S hx hl).mono ?_
    rintro e0 w1 ⟨rfl, hb⟩
    rw [hok]
    go_wp2
    go_ret
    exact ⟨by rw [HT.out]; rfl, hb⟩
  · have HT : Hid (tagHash kind xs n = cutDigest (tagText kind xs) n) := Lib.hid (by unfold tagHash; rw [hok]; rfl)
    go_enter Tryd.func140, Tryd.ntmps140
    go_wp2_with (fail)
    refine (impl_TagText _ kind hkind xs A cap S hx hl).mono ?_
    rintro e0 w1 ⟨rfl, hb⟩
    rw [hok]
    go_wp2_with (fail)
    refine (impl_CutDigest _ (tagText kind xs) (by omega) n hn (hT.later hb)).mono ?_
    rintro e0 w2 ⟨rfl, hb2⟩
    go_wp2
    go_ret
    exact ⟨by rw [HT.out]; rfl, hb.trans (hb2.mono hb.size)⟩
set_option maxRecDepth 20000 in set_option maxHeartbeats 4000000 in
theorem spec_TagHash (w : World) (kind : Int) (hkind : I64 kind) (xs : List ByteArray) (A : Option Addr) (cap : Nat) (S : Blks) (hx : Row false w A cap xs S) (hl : xs.length ≤ 4000000000) (n : Int) (hn : I64 n) : Calls Tryd.prog 82 #[.int .i64 kind, .slice A xs.length cap, .int .i64 n] w fun e w' => e = .returned (.string (tagHash kind xs n)) ∧ Below w.heap.size w w' := by
  have hz := tagText_le kind xs
  cases hok : tagOk kind xs
  · have HT : Hid (tagHash kind xs n = ⟨#[]⟩) := Lib.hid (by unfold tagHash; rw [hok]; rfl)
    go_enter Tryd.func82, Tryd.ntmps82
    go_wp2_with (fail)
    refine (spec_TagText _ kind hkind xs A cap S hx hl).mono ?_
    rintro e0 w1 ⟨rfl, hb⟩
    rw [hok]
    go_wp2
    go_ret
    exact ⟨by rw [HT.out]; rfl, hb⟩
  · have HT : Hid (tagHash kind xs n = cutDigest (tagText kind xs) n) := Lib.hid (by unfold tagHash; rw [hok]; rfl)
    go_enter Tryd.func82, Tryd.ntmps82
    go_wp2_with (fail)
    refine (spec_TagText _ kind hkind xs A cap S hx hl).mono ?_
    rintro e0 w1 ⟨rfl, hb⟩
    rw [hok]
    go_wp2_with (fail)
    refine (spec_CutDigest _ (tagText kind xs) (by omega) n hn).mono ?_
    rintro e0 w2 ⟨rfl, hb2⟩
    go_wp2
    go_ret
    exact ⟨by rw [HT.out]; rfl, hb.trans (hb2.mono hb.size)⟩
set_option maxRecDepth 20000 in set_option maxHeartbeats 4000000 in
theorem impl_hashOf (w : World) (kind : Int) (hkind : I64 kind) (xs : List ByteArray) (A : Option Addr) (cap : Nat) (S : Blks) (hx : Row false w A cap xs S) (hl : xs.length ≤ 4000000000) (n : Int) (hn : I64 n) (hT : Tabs w) : Calls Tryd.prog 86 #[.int .i64 kind, .int .i64 n, .slice A xs.length cap] w fun e w' => e = .returned (.string (tagHash kind xs n)) ∧ Below w.heap.size w w' := by
  go_enter Tryd.func86, Tryd.ntmps86
  go_wp2_with (fail)
  refine (impl_TagHash _ kind hkind xs A cap S hx hl n hn hT).mono ?_
  rintro e0 w1 ⟨rfl, hb⟩
  go_wp2
  go_ret
  exact ⟨rfl, hb⟩
end Go.Proofs.YtojbehmbeoemgaaDoor

set_option linter.unusedVariables false
set_option linter.unusedSimpArgs false
namespace Go.Proofs.YtojbehmbeoemgaaDoor
open Go.RowKit Lay Mk
def wideG (l : List ByteArray) (v : Int) : Bool := l.all (fun s => decide ((s.size : Int) = v))
end Go.Proofs.YtojbehmbeoemgaaDoor

set_option linter.unusedVariables false
set_option linter.unusedSimpArgs false
namespace Go.Proofs.YtojbehmbeoemgaaDoor
open Go.RowKit Go.Sort Go.Maps Lay Mk
def idxKey (s : ByteArray) : Int := (indexOf s : Int)
def indexesOf (xs : List ByteArray) : List Int := rising idxKey xs
theorem idx_lo (s : ByteArray) : 0 ≤ idxKey s := by unfold idxKey; omega
theorem idx_hi (s : ByteArray) : idxKey s < 256 := by have := indexOf_lt s; unfold idxKey; omega
theorem idx_i64 (s : ByteArray) : I64 (idxKey s) := by have := idx_lo s; have := idx_hi s; unfold I64; omega
theorem wf_idx (s : ByteArray) : (Lit.int .i64 (idxKey s)).wf = true := by have := idx_lo s; have := idx_hi s; exact WalkArith.wf_i64 (by omega)
theorem lawI : Keyed Tryd.prog 3 := int_keyed Tryd.underlying3
theorem zeroI (w : World) : (zeroValue 3).run Tryd.prog w = .ok (.int .i64 0) w := by kernel_rfl
theorem rising_i64 (xs : List ByteArray) : ∀ k, k ≤ xs.length → ∀ x ∈ foldT (insF idxKey) [] xs k, I64 x
  | 0, _ => by simp [foldT]
  | k + 1, h => by
    intro x hx
    rw [foldT_succ (by omega)] at hx
    rcases (ins_mem _ _ _).1 hx with rfl | hx
    · exact idx_i64 _
    · exact rising_i64 xs k (by omega) x hx
theorem indexes_i64 (xs : List ByteArray) : ∀ x ∈ indexesOf xs, I64 x := by
  unfold indexesOf; rw [← rising_all]; exact rising_i64 xs _ (Nat.le_refl _)
theorem indexes_len (xs : List ByteArray) : (indexesOf xs).length ≤ xs.length := rising_len _ xs
theorem ded_len_eq (xs : List ByteArray) : (foldT (dedF idxKey) [] xs xs.length).length = (indexesOf xs).length := by
  unfold indexesOf; rw [← rising_sort idxKey xs, List.length_mergeSort]
theorem put_at {D : DataW Unit} (hD : IsMap D) {ys : List Int} (h : ∀ a : Int, (D.atKey (.int .i64 a) (.lit (.int .i64 0)) = .lit (.int .i64 0) ↔ a ∉ ys)) (x : Int) :
    ∀ a : Int, ((D.put (.int .i64 x) (.lit (.int .i64 1))).atKey (.int .i64 a) (.lit (.int .i64 0)) = .lit (.int .i64 0) ↔ a ∉ ys ++ [x]) := by
  intro a
  by_cases e : a = x
  · subst e
    rw [atKey_put_same hD (by first | exact trivial | simp [WideAt.IsKeyLit])]
    simp
  · rw [atKey_put_other (by intro e2; injection e2 with _ e3; exact e e3), h a]
    simp [e]
theorem row_grown {α : Type} [Lay α] {w w' : World} {A : Option Addr} {cap g : Nat} {xs : List α} {S : Blks} (h : Row true w A cap xs S) (hg : w.grownBy w' (some g)) (hS : ¬ S g) : Row true w' A cap xs S :=
  (h.tight.keep (fun b x => hg.block b x.2 (by intro e; injection e with e; exact hS (e ▸ x.1)))).mono (fun _ x => x.1)
set_option maxRecDepth 20000 in set_option maxHeartbeats 8000000 in
theorem impl_IndexesOf (w : World) (xs : List ByteArray) (A0 : Option Addr) (cap0 : Nat) (S : Blks) (hx : Row false w A0 cap0 xs S) (_ : xs.length ≤ cap0) (_ : cap0 ≤ maxLen) (hz : szL xs ≤ 1048576) (hT : Tabs w) : Calls Tryd.prog 29 #[.slice A0 xs.length cap0] w fun e w' => ∃ A' cap', e = .returned (.slice A' (indexesOf xs).length cap') ∧ (indexesOf xs).length ≤ cap' ∧ cap' ≤ maxLen ∧ Row true w' A' cap' (indexesOf xs) (rng w.heap.size w'.heap.size) ∧ Below w.heap.size w w' := by
  have hlx : xs.length ≤ 1048576 := by have := szT_le xs 0; omega
  have hel : ∀ k (h : k < xs.length), xs[k].size ≤ 1048576 := fun k h => by
    have h1 := sz_le_L xs k h
    have h2 : Mk.sz xs[k] = xs[k].size := rfl
    omega
  have HEl := Lib.hid hel; clear hel
  have hmm := @run_makeMap Tryd.prog
  go_enter Tryd.func29, Tryd.ntmps29
  go_wp2
  clear hmm
  go_loopw [4, 11] (fun u i wr => ∃ (k : Nat) (ys : List Int) (A : Option Addr) (cap : Nat) (D : DataW Unit), k ≤ xs.length ∧ i = .int .i64 k ∧ u = .slice A ys.length cap ∧ Hid (ys = foldT (dedF idxKey) [] xs k) ∧ ys.length ≤ k ∧ ys.length ≤ cap ∧ cap ≤ maxLen ∧ Row true wr A cap ys (nw (w.heap.size + 1)) ∧ wr.ownsMap Tryd.prog 3 (plainElem Tryd.prog 3) w.heap.size k D ∧ Hid (∀ a : Int, (D.atKey (.int .i64 a) (.lit (.int .i64 0)) = .lit (.int .i64 0) ↔ a ∉ ys)) ∧ Below w.heap.size w wr ∧ w.heap.size < wr.heap.size) (fun _ i _ => xs.length - (intOf i).toNat)
  case atStart => exact ⟨0, [], none, 0, .map [], Nat.zero_le _, rfl, rfl, Lib.hid rfl, Nat.le_refl _, Nat.le_refl _, by decide, row_nil _ _, World.ownsMap_made _ _ _ _, Lib.hid (fun a => by simp [DataW.atKey]), (Below.refl _ _).alloc (Nat.le_refl _) _, by simp⟩
  case round =>
    obtain ⟨k, ys, A, cap, D, hk, rfl, rfl, hys, hyk, hle, hcm, hrow, hown, hD, hB, hzw⟩ := hrel
    by_cases hlt : k < xs.length
    · obtain ⟨b1, o1, rfl, hl1, f0, s0⟩ := Row.str hx hlt
      replace f0 := (hB.cell (p := ⟨b1, o1 + k, none⟩) hl1).trans f0
      have hl2 : b1 < wr.heap.size := by omega
      have hsx := HEl.out k hlt
      have HY := Lib.hid (ded_yes idxKey hlt)
      have HN := Lib.hid (ded_no idxKey hlt)
      obtain ⟨x, hxx⟩ : ∃ x, xs[k] = x := ⟨_, rfl⟩
      rw [hxx] at f0 s0 hsx HY HN
      rw [← hys.out] at HY HN
      clear hxx
      go_wp2_with (fail)
      refine (impl_IndexOf _ x (by omega) (hT.later hB)).mono ?_
      rintro e0 w2 ⟨rfl, hb⟩
      have hz2 := hb.size
      have hrow2 := Row.later hrow hb
      have hown2 := own_keep hown (hb.block _ hzw)
      have hB2 := hB.trans (hb.mono hB.size)
      have hki := idx_i64 x
      have HKy := Lib.hid (keyOf_int_mk Tryd.underlying3 (wf_idx x))
      obtain ⟨kx, hkx⟩ : ∃ a, idxKey x = a := ⟨_, rfl⟩
      rw [show ((indexOf x : Nat) : Int) = kx from hkx]
      rw [hkx] at HY HN hki HKy
      clear hkx f0 hrow hown hb
      by_cases hm : kx ∈ ys
      · have HC : Hid (∀ c, D.atKey (.int .i64 kx) (.lit (.int .i64 0)) = .lit (.int .i64 c) → (c == 0) = false) := Lib.hid (fun c hc => by
          rw [beq_eq_false_iff_ne]; rintro rfl; exact ((hD.out kx).1 hc) hm)
        go_wp2_with ((at_lookup; refine wpList_lookup_own_int (H := Unit) _ rfl _ _ 111 rfl 3 3 .i64 lawI Tryd.underlying111 Tryd.underlying3 (zeroI _) w.heap.size k D rfl hown2 _ _ rfl HKy.out ?_; intro c hat hwc; have hc1 := HC.out c hat; clear hat hwc))
        go_roundw
        case rel => exact ⟨k + 1, ys, A, cap, D, by omega, by go_num, rfl, Lib.hid (HY.out hm).symm, by omega, hle, hcm, hrow2, hown2.mono (by omega), hD, hB2, by omega⟩
        case measure => simp [intOf]; omega
      · have HC : Hid (∀ c, D.atKey (.int .i64 kx) (.lit (.int .i64 0)) = .lit (.int .i64 c) → c = 0) := Lib.hid (fun c hc => by
          rw [(hD.out kx).2 hm] at hc; injection hc with hc; injection hc with _ hc; exact hc.symm)
        go_wp2_with (first | (at_lookup; refine wpList_lookup_own_int (H := Unit) _ rfl _ _ 111 rfl 3 3 .i64 lawI Tryd.underlying111 Tryd.underlying3 (zeroI _) w.heap.size k D rfl hown2 _ _ rfl HKy.out ?_; intro c hat hwc; have hc0 := HC.out c hat; subst hc0; clear hat hwc) | (at_mapUpdate; refine wpList_mapUpdate_own (H := Unit) _ rfl _ _ _ 111 rfl 3 3 lawI Tryd.underlying111 _ w.heap.size k D rfl hown2 (by unfold maxLen; omega) _ _ _ rfl rfl HKy.out (.lit (.int .i64 1)) [] (plainElem_int Tryd.underlying3 (by decide)) ?_; intro w3 hown3 hgr; have hz3 := hgr.size; have hrow3 := row_grown hrow2 hgr (by unfold nw; omega); have hB3 : Below w.heap.size w w3 := hB2.trans (below_of_grown hgr (Nat.le_refl _) (by omega))) | (at_builtin; refine wpList_app (α := Int) rfl _ _ rfl rfl rfl (hrow3.allocC _) hle hcm rfl rfl (src_newb _ kx hki _ _ _ (by first | rfl | simp) rfl) (disj_none_ _) (by omega) ?_; intro A' cap' w4 h1 h2 h3 h4))
        have hz3b : w3.heap.size < (w3.alloc (.cells #[.int .i64 kx] 3)).heap.size := by simp
        have hz4 := h4.size
        go_roundw
        case rel => exact ⟨k + 1, ys ++ [kx], A', cap', _, by omega, by go_num, by simp, Lib.hid (HN.out hm).symm, by simp; omega, by simpa using h1, h2, row_og h3 (fun b hb => by unfold nw; omega), own_keep (own_keep hown3 (Below.heap_alloc w3 _ _ (by omega))) (h4.block _ (by omega) (by unfold nw; omega)), Lib.hid (put_at hown2.isMap hD.out kx), (hB3.alloc hB3.size _).trans (h4.to_below (by omega) (fun b hb => by unfold nw at hb; omega)), by omega⟩
        case measure => simp [intOf]; omega
    · have hke : k = xs.length := by omega
      subst hke
      have hsrt : (ys.mergeSort fun x y => decide (x ≤ y)) = indexesOf xs := by rw [hys.out]; exact rising_sort idxKey xs
      have hlen : ys.length = (indexesOf xs).length := by rw [← ded_len_eq, ← hys.out]
      have HSrt := Lib.hid hsrt; have HLen := Lib.hid hlen
      clear hsrt hlen
      by_cases h0 : ys.length = 0
      · have hn : ys = [] := List.eq_nil_of_length_eq_zero h0
        subst hn
        have hi : indexesOf xs = [] := List.eq_nil_of_length_eq_zero HLen.out.symm
        have HI := Lib.hid hi; clear hi
        simp only [List.length_nil]
        go_wp2_with (fail)
        refine (Tryd.sort_Ints_none A cap _).mono ?_
        rintro e0 w5 ⟨rfl, hw5⟩
        subst hw5
        go_wp2
        go_ret
        exact ⟨A, cap, ret_slice (by rw [HI.out]; rfl), by rw [HI.out]; exact hle, hcm, by rw [HI.out]; exact to_rng (hrow.mono (fun b hb => by unfold nw at *; omega)), hB⟩
      · obtain ⟨g, rfl, hgl, hgS, hH, hres⟩ := row_sorted (zs := indexesOf xs) hrow hle (by rintro rfl; exact h0 rfl) HLen.out.symm (indexes_i64 xs)
        have hcl : ys.length ≤ 1048576 := by omega
        go_wp2_with (fail)
        refine (Tryd.sort_Ints g 0 cap ys _ hH hgl (by omega)).mono ?_
        rintro e0 w5 ⟨rfl, n5, os5, hw5⟩
        rw [HSrt.out] at hw5
        subst hw5
        obtain ⟨hr5, hg5⟩ := hres n5 os5
        have hgM : w.heap.size ≤ g := by unfold nw at hgS; omega
        have hB5 := hB.trans (below_of_grown hg5 hgM hgl)
        generalize grow _ os5 = w5 at hr5 hg5 hB5 ⊢
        go_wp2
        go_ret
        exact ⟨some ⟨g, 0, none⟩, cap, ret_slice HLen.out, by rw [← HLen.out]; exact hle, hcm, to_rng (hr5.mono (fun b hb => by unfold nw at *; omega)), hB5⟩
end Go.Proofs.YtojbehmbeoemgaaDoor
