/- A part of the proof: what the laws need of it. -/
import Derived.Test.YtojbehmbeoemgaaDoorHPmL22xYm
import Derived.Test.YtojbehmbeoemgaaDoorHPmL11xDp
import Derived.Test.YtojbehmbeoemgaaDoorHPmL6xOq
import Derived.Test.YtojbehmbeoemgaaDoorHPmL7xLw
import Derived.Deep.RegionHeld3
import Derived.Deep.RegionLaw
import Derived.Deep.AppendLies
import Derived.StillTailTactics
set_option linter.unusedVariables false
set_option linter.unusedSimpArgs false
set_option linter.unusedVariables false
set_option linter.unusedSimpArgs false
namespace Go.Proofs.YtojbehmbeoemgaaDoor
open Go.RowKit Lay Mk
theorem names_bad {xs : List ByteArray} {k : Nat} (h : k < xs.length) (hn : nameOk xs[k] = false) : namesFit xs = false := by
  unfold namesFit
  rw [show xs.all nameOk = false by rw [List.all_eq_false]; exact ⟨_, List.getElem_mem h, by simp [hn]⟩]; rfl
theorem names_long {xs : List ByteArray} (h : 8 < xs.length) : namesFit xs = false := by
  unfold namesFit
  rw [show inB (xs.length : Int) 1 8 = false by simp [inB]; omega, Bool.and_false]
theorem names_all {xs : List ByteArray} (h : ∀ k (hk : k < xs.length), nameOk xs[k] = true) : namesFit xs = inB (xs.length : Int) 1 8 := by
  unfold namesFit
  rw [show xs.all nameOk = true by rw [List.all_eq_true]; intro s hs; obtain ⟨k, hk, rfl⟩ := List.getElem_of_mem hs; exact h k hk]; rfl
set_option maxRecDepth 20000 in set_option maxHeartbeats 4000000 in
theorem impl_namesOk (w : World) (xs : List ByteArray) (A : Option Addr) (cap : Nat) (S : Blks) (hx : Row false w A cap xs S) (hl : xs.length ≤ 1048576) : Calls Tryd.prog 68 #[.slice A xs.length cap] w fun e w' => e = .returned (.bool (namesFit xs)) ∧ Below w.heap.size w w' := by
  go_enter Tryd.func68, Tryd.ntmps68
  go_wp2
  go_loopw [7] (fun i wr => ∃ k : Nat, k ≤ xs.length ∧ i = .int .i64 k ∧ Hid (∀ j (h : j < xs.length), j < k → nameOk xs[j] = true) ∧ k ≤ 8 ∧ Below w.heap.size w wr) (fun i _ => xs.length - (intOf i).toNat)
  case atStart => exact ⟨0, Nat.zero_le _, rfl, Lib.hid (fun j _ h => absurd h (Nat.not_lt_zero _)), by omega, Below.refl _ _⟩
  case round =>
    obtain ⟨k, hk, rfl, HA, hk8, hb⟩ := hrel
    have hz := hb.size
    by_cases hlt : k < xs.length
    · obtain ⟨b1, o1, rfl, hl1, f0, s0⟩ := Row.str hx hlt
      replace f0 := (hb.cell (p := ⟨b1, o1 + k, none⟩) hl1).trans f0
      have hl2 : b1 < wr.heap.size := by omega
      have HB := Lib.hid (names_bad hlt)
      have HN : Hid (nameOk xs[k] = true → ∀ j (h : j < xs.length), j < k + 1 → nameOk xs[j] = true) := Lib.hid (fun h0 j h hj => by rcases Nat.lt_succ_iff_lt_or_eq.1 hj with h1 | h1; exact HA.out j h h1; subst h1; exact h0)
      obtain ⟨x, hxx⟩ : ∃ x, xs[k] = x := ⟨_, rfl⟩
      rw [hxx] at f0 s0
      simp only [hxx] at HB HN
      clear hxx
      by_cases h8 : 8 ≤ k
      · have HL := Lib.hid (names_long (show 8 < xs.length by omega))
        have d8 : decide ((8 : Int) ≤ (k : Int)) = true := by simp; omega
        go_wp2
        go_ret
        exact ⟨ret_bool (by rw [HL.out]), hb⟩
      have d8 : decide ((8 : Int) ≤ (k : Int)) = false := by simp; omega
      cases hn : nameOk x
      · have HF := Lib.hid (HB.out hn)
        go_wp2_with (go_at_call 123; refine (impl_NameOk _ _ s0).mono ?_; rintro e2 w2 ⟨rfl, rfl⟩)
        go_ret
        exact ⟨ret_bool (by rw [HF.out]), hb⟩
      · have HF := Lib.hid (HN.out hn)
        go_wp2_with (go_at_call 123; refine (impl_NameOk _ _ s0).mono ?_; rintro e2 w2 ⟨rfl, rfl⟩)
        go_roundw
        case rel => exact ⟨k + 1, by omega, by go_num, HF, by omega, hb⟩
        case measure => simp [intOf]; omega
    · have hke : k = xs.length := by omega
      subst hke
      have HF := Lib.hid (names_all (fun k hk => HA.out k hk hk))
      have HD : Hid (inB (xs.length : Int) 1 8 = decide ((0 : Int) < (xs.length : Int))) := Lib.hid (by
        by_cases h0 : 0 < xs.length
        · rw [decide_eq_true (by omega)]; simp [inB]; omega
        · rw [decide_eq_false (by omega)]; simp [inB]; omega)
      clear HA
      go_wp2
      go_ret
      exact ⟨ret_bool (by rw [HF.out, HD.out]; first | rfl | (simp; done)), hb⟩
set_option maxRecDepth 20000 in set_option maxHeartbeats 4000000 in
theorem spec_l26Names (w : World) (xs : List ByteArray) (A : Option Addr) (cap : Nat) (S : Blks) (hx : Row false w A cap xs S) (hl : xs.length ≤ 1048576) : Calls Tryd.prog 88 #[.slice A xs.length cap] w fun e w' => e = .returned (.bool (namesFit xs)) ∧ w = w' := by
  go_enter Tryd.func88, Tryd.ntmps88
  go_wp2
  go_loopw [3] (fun i wr => ∃ k : Nat, k ≤ xs.length ∧ i = .int .i64 k ∧ Hid (∀ j (h : j < xs.length), j < k → nameOk xs[j] = true) ∧ w = wr) (fun i _ => xs.length - (intOf i).toNat)
  case atStart => exact ⟨0, Nat.zero_le _, rfl, Lib.hid (fun j _ h => absurd h (Nat.not_lt_zero _)), rfl⟩
  case round =>
    obtain ⟨k, hk, rfl, HA, rfl⟩ := hrel
    by_cases hlt : k < xs.length
    · obtain ⟨b1, o1, rfl, hl1, f0, s0⟩ := Row.str hx hlt
      have HB := Lib.hid (names_bad hlt)
      have HN : Hid (nameOk xs[k] = true → ∀ j (h : j < xs.length), j < k + 1 → nameOk xs[j] = true) := Lib.hid (fun h0 j h hj => by rcases Nat.lt_succ_iff_lt_or_eq.1 hj with h1 | h1; exact HA.out j h h1; subst h1; exact h0)
      obtain ⟨x, hxx⟩ : ∃ x, xs[k] = x := ⟨_, rfl⟩
      rw [hxx] at f0 s0
      simp only [hxx] at HB HN
      clear hxx
      cases hn : nameOk x
      · have HF := Lib.hid (HB.out hn)
        go_wp2_with (go_at_call 75; refine (spec_NameOk _ _ s0).mono ?_; rintro e2 w2 ⟨rfl, rfl⟩)
        go_ret
        exact ⟨ret_bool (by rw [HF.out]), rfl⟩
      · have HF := Lib.hid (HN.out hn)
        go_wp2_with (go_at_call 75; refine (spec_NameOk _ _ s0).mono ?_; rintro e2 w2 ⟨rfl, rfl⟩)
        go_roundw
        case rel => exact ⟨k + 1, by omega, by go_num, HF, trivial⟩
        case measure => simp [intOf]; omega
    · have hke : k = xs.length := by omega
      subst hke
      have HF := Lib.hid (names_all (fun k hk => HA.out k hk hk))
      clear HA
      go_wp2_with (go_at_call 50; refine (spec_in _ _ _ _).mono ?_; rintro e2 w2 ⟨rfl, rfl⟩)
      go_ret
      exact ⟨ret_bool (by rw [HF.out]), rfl⟩
set_option maxRecDepth 20000 in set_option maxHeartbeats 4000000 in
theorem spec_l26In (w : World) (xs : List Int) (A : Option Addr) (cap : Nat) (S : Blks) (hx : Row false w A cap xs S) (hl : xs.length ≤ 1048576) (v : Int) : Calls Tryd.prog 91 #[.slice A xs.length cap, .int .i64 v] w fun e w' => e = .returned (.bool (decide (v ∈ xs))) ∧ w = w' := by
  go_enter Tryd.func91, Tryd.ntmps91
  go_wp2
  go_loopw [5] (fun i wr => ∃ k : Nat, k ≤ xs.length ∧ i = .int .i64 k ∧ Hid (∀ j (h : j < xs.length), j < k → ¬ xs[j] = v) ∧ w = wr) (fun i _ => xs.length - (intOf i).toNat)
  case atStart => exact ⟨0, Nat.zero_le _, rfl, Lib.hid (fun j _ h => absurd h (Nat.not_lt_zero _)), rfl⟩
  case round =>
    obtain ⟨k, hk, rfl, HA, rfl⟩ := hrel
    by_cases hlt : k < xs.length
    · obtain ⟨b1, o1, rfl, hl1, f0, s0⟩ := Row.int hx hlt
      have HB : Hid (xs[k] = v → v ∈ xs) := Lib.hid (fun h => by rw [← h]; exact List.getElem_mem hlt)
      have HN : Hid (¬ xs[k] = v → ∀ j (h : j < xs.length), j < k + 1 → ¬ xs[j] = v) := Lib.hid (fun h0 j h hj => by rcases Nat.lt_succ_iff_lt_or_eq.1 hj with h1 | h1; exact HA.out j h h1; subst h1; exact h0)
      obtain ⟨x, hxx⟩ : ∃ x, xs[k] = x := ⟨_, rfl⟩
      rw [hxx] at f0 s0
      simp only [hxx] at HB HN
      clear hxx
      by_cases hn : x = v
      · have HF := Lib.hid (HB.out hn)
        have hq : (x == v) = true := beq_iff_eq.2 hn
        clear hn HB HN
        go_wp2
        go_ret
        exact ⟨ret_bool (by rw [decide_eq_true HF.out]), rfl⟩
      · have HF := Lib.hid (HN.out hn)
        have hq : (x == v) = false := beq_eq_false_iff_ne.2 hn
        clear hn HB HN
        go_wp2
        go_roundw
        case rel => exact ⟨k + 1, by omega, by go_num, HF, trivial⟩
        case measure => simp [intOf]; omega
    · have hke : k = xs.length := by omega
      subst hke
      have HF : Hid (¬ v ∈ xs) := Lib.hid (fun h => by obtain ⟨j, hj, e⟩ := List.getElem_of_mem h; exact HA.out j hj hj e)
      clear HA
      go_wp2
      go_ret
      exact ⟨ret_bool (by rw [decide_eq_false HF.out]), rfl⟩
theorem castL_at {ks : List Nat} {k : Nat} (h : k < ks.length) : (castL ks)[k]'(by rw [castL_len]; exact h) = ((ks.getD k 0 : Nat) : Int) := by unfold castL; rw [getD_ h]; simp
theorem castL_mem {ks : List Nat} {q : Nat} : ((q : Nat) : Int) ∈ castL ks ↔ q ∈ ks := by
  unfold castL; rw [List.mem_map]
  constructor
  · rintro ⟨a, ha, e⟩
    have : a = q := by omega
    subst this; exact ha
  · intro h; exact ⟨q, h, rfl⟩
theorem castL_snoc (ks : List Nat) (q : Nat) : castL (ks ++ [q]) = castL ks ++ [(q : Int)] := by unfold castL; simp
theorem above_take_len (ks : List Nat) : ∀ k, k ≤ ks.length → (aboveU (ks.take k)).length ≤ k
  | 0, _ => by simp [aboveU]
  | k + 1, h => by
    rw [takeY_snoc (by omega), above_snoc]
    have := above_take_len ks k (by omega)
    unfold insU
    split
    · omega
    · simp; omega
set_option maxRecDepth 20000 in set_option maxHeartbeats 4000000 in
theorem spec_l26Above (w : World) (ks : List Nat) (hks : ∀ k ∈ ks, k < 256) (A : Option Addr) (cap : Nat) (S : Blks) (hx : Row false w A cap (castL ks) S) (hl : ks.length ≤ 1048576) : Calls Tryd.prog 83 #[.slice A ks.length cap] w (OwnRes (castL (aboveU ks)) w) := by
  have HKS := Lib.hid hks
  clear hks
  go_enter Tryd.func83, Tryd.ntmps83
  go_wp2
  have HO := Lib.hid (Own.litAt (α := Int) (Below.refl w.heap.size w) 3 rfl (b := w.heap.size) rfl)
  go_loopw [3, 4] (fun u i wr => ∃ (k : Nat) (L : List Int) (A2 : Option Addr) (c : Nat), k ≤ ks.length ∧ i = .int .i64 k ∧ u = .slice A2 L.length c ∧ Hid (L = castL (aboveU (ks.take k))) ∧ L.length ≤ k ∧ Own w wr A2 c L) (fun _ i _ => ks.length - (intOf i).toNat)
  case atStart => exact ⟨0, [], some ⟨w.heap.size, 0, none⟩, 0, Nat.zero_le _, rfl, rfl, Lib.hid rfl, by simp, HO.out⟩
  case round =>
    clear HO
    obtain ⟨k, L, A2, c, hk, rfl, rfl, HL, hLl, hown⟩ := hrel
    have hb := hown.bl
    have hz := hb.size
    by_cases hlt : k < ks.length
    · obtain ⟨b1, o1, rfl, hl1, f0, s0⟩ := Row.int hx (i := k) (by rw [castL_len]; exact hlt)
      rw [castL_at hlt] at f0 s0
      replace f0 := (hb.cell (p := ⟨b1, o1 + k, none⟩) hl1).trans f0
      have hl2 : b1 < wr.heap.size := by omega
      have hp256 : ks.getD k 0 < 256 := HKS.out _ (by rw [getD_ hlt]; exact List.getElem_mem hlt)
      have HS : Hid (aboveU (ks.take (k + 1)) = insU (aboveU (ks.take k)) (ks.getD k 0 / 2)) := Lib.hid (by rw [takeY_snoc hlt, above_snoc])
      obtain ⟨p, hp⟩ : ∃ p, ks.getD k 0 = p := ⟨_, rfl⟩
      rw [hp] at f0 s0 hp256 HS
      clear hp
      obtain ⟨q, hq⟩ : ∃ q, p / 2 = q := ⟨_, rfl⟩
      have hq256 : q < 256 := by omega
      rw [hq] at HS
      have hqu : Int.tdiv (p : Int) 2 = ((p / 2 : Nat) : Int) := rfl
      have HWQ : Hid ((p : Int) / 2 = (q : Int)) := Lib.hid (by omega)
      have HIN := Lib.hid (fun W (h : Below wr.heap.size wr W) (v : Int) (hv : v = (q : Int)) => (show Calls Tryd.prog 91 #[.slice A2 L.length c, .int .i64 v] W fun e w' => e = .returned (.bool (decide ((q : Int) ∈ L))) ∧ W = w' by subst hv; exact spec_l26In W L A2 c _ (Row.later hown.row.weak h) (by omega) (q : Int)))
      have HOW := Lib.hid hown
      have HB := Lib.hid hb
      clear hq hown hb
      by_cases hm : (q : Int) ∈ L
      · rw [decide_eq_true hm] at HIN
        have HF : Hid (L = castL (aboveU (ks.take (k + 1)))) := Lib.hid (by rw [HS.out, insU, if_pos, ← HL.out]; rw [HL.out, castL_mem] at hm; exact hm)
        clear hm HS
        go_wp2_with (go_at_call 91; refine (HIN.out _ (Below.refl _ _) _ HWQ.out).mono ?_; rintro e2 w2 ⟨rfl, rfl⟩)
        go_roundw
        case rel => exact ⟨k + 1, L, A2, c, hlt, by go_num, rfl, HF, by omega, HOW.out⟩
        case measure => simp [intOf]; omega
      · rw [decide_eq_false hm] at HIN
        have HF : Hid (L ++ [(q : Int)] = castL (aboveU (ks.take (k + 1)))) := Lib.hid (by rw [HS.out, insU, if_neg, castL_snoc, ← HL.out]; intro h; rw [HL.out, castL_mem] at hm; exact hm h)
        have hqi : I64 (q : Int) := by unfold I64; omega
        clear hm HS
        go_wp2_with (first | (go_at_call 91; refine (HIN.out _ (Below.refl _ _) _ HWQ.out).mono ?_; rintro e2 w2 ⟨rfl, rfl⟩) | (at_builtin; refine wpList_push (α := Int) rfl _ _ rfl rfl rfl (HOW.out.alloc _) rfl rfl (src_newb _ (q : Int) hqi _ _ _ (by first | rfl | simp) (by rw [HWQ.out]; rfl)) (by omega) ?_; intro A6 c6 w6 o6 z6))
        go_roundw
        case rel => exact ⟨k + 1, L ++ [(q : Int)], A6, c6, hlt, by go_num, by simp, HF, by simp; omega, o6⟩
        case measure => simp [intOf]; omega
    · have hke : k = ks.length := by omega
      subst hke
      have HE : Hid (castL (aboveU ks) = L) := Lib.hid (by rw [HL.out, List.take_length])
      have HOW := Lib.hid hown
      clear hown hb
      go_wp2
      go_ret
      exact OwnRes.mk HOW.out HE.out rfl
end Go.Proofs.YtojbehmbeoemgaaDoor

set_option linter.unusedVariables false
set_option linter.unusedSimpArgs false
namespace Go.Proofs.YtojbehmbeoemgaaDoor
open Go.RowKit Lay Mk
theorem name_size {s : ByteArray} (h : nameOk s = true) : s.size ≤ 12 := by
  unfold nameOk at h
  rw [Bool.and_eq_true] at h
  have h2 : 1 ≤ (s.size : Int) ∧ (s.size : Int) ≤ 12 := by simpa [inB] using h.2
  omega
theorem value_size {s : ByteArray} (h : valueOk s = true) : s.size ≤ 12 := by
  unfold valueOk at h
  rw [Bool.and_eq_true] at h
  have h2 : 1 ≤ (s.size : Int) ∧ (s.size : Int) ≤ 12 := by simpa [inB] using h.2
  omega
theorem bucket_tag {xs : List Leaf} (h : leavesOk xs = true) : tagOk (bucketKind xs) (bucketParts xs) = true := by
  have h1 := leavesOk_len h
  have h2 := parts_len xs
  have h3 : partsOk (bucketParts xs) = true := by
    unfold partsOk bucketParts
    rw [List.all_eq_true]
    intro p hp
    rw [List.mem_flatMap] at hp
    obtain ⟨x, hx, hp⟩ := hp
    have h4 := leavesOk_all h x hx
    simp only [List.mem_cons, List.not_mem_nil, or_false] at hp
    rcases hp with rfl | rfl
    · have := name_size h4.1; simp; omega
    · have := value_size h4.2; simp; omega
  have h5 : inB (bucketKind xs) 1 8 = true := by unfold bucketKind; split <;> rfl
  unfold tagOk
  rw [h5, h3, decide_eq_true (by omega)]; rfl
theorem szL_ok {xs : List Leaf} (h : ∀ x ∈ xs, nameOk x.name = true ∧ valueOk x.value = true) : szL xs ≤ 25 * xs.length := by
  induction xs with
  | nil => exact Nat.le_refl _
  | cons x r ih =>
    have h1 := ih (fun y hy => h y (List.mem_cons_of_mem _ hy))
    have h2 := h x (List.mem_cons_self ..)
    have h3 := name_size h2.1
    have h4 := value_size h2.2
    simp only [szL, List.map_cons, List.sum_cons, List.length_cons] at h1 ⊢
    have h5 : Mk.sz x = x.name.size + x.value.size := rfl
    omega
set_option maxRecDepth 20000 in set_option maxHeartbeats 8000000 in
theorem spec_BucketHash (w : World) (xs : List Leaf) (A : Option Addr) (cap : Nat) (S : Blks) (hx : Row false w A cap xs S) (hok : leavesOk xs = true) (n : Int) (hn : I64 n) : Calls Tryd.prog 81 #[.slice A xs.length cap, .int .i64 n] w fun e w' => e = .returned (.string (bucketHash xs n)) ∧ Below w.heap.size w w' := by
  have hl := leavesOk_len hok
  have hz : szL xs ≤ 1048576 := by have := szL_ok (leavesOk_all hok); omega
  have HBT := Lib.hid (spec_BucketText w xs A cap S hx (by omega) hz hok)
  rw [bucket_tag hok] at HBT
  have htl : (bucketTx xs).size ≤ 20000 := tagText_le _ _
  have HE : Hid (bucketHash xs n = cutDigest (bucketTx xs) n) := Lib.hid rfl
  obtain ⟨t, ht⟩ : ∃ t, bucketTx xs = t := ⟨_, rfl⟩
  rw [ht] at HBT htl HE
  clear ht hz hok
  go_enter Tryd.func81, Tryd.ntmps81
  go_wp2_with (fail)
  refine HBT.out.mono ?_
  rintro e1 w1 ⟨rfl, hb1⟩
  go_wp2_with (fail)
  refine (spec_CutDigest _ t (by omega) n hn).mono ?_
  rintro e2 w2 ⟨rfl, hb2⟩
  have HB := Lib.hid (hb1.trans (hb2.mono hb1.size))
  clear hb1 hb2
  go_wp2
  go_ret
  exact ⟨ret_str (by rw [HE.out]), HB.out⟩
def spotOf (x : Leaf) : Spot := ⟨x, (indexOf x.name : Int)⟩
def spotsOf (xs : List Leaf) : List Spot := xs.map spotOf
theorem spotsOf_len (xs : List Leaf) : (spotsOf xs).length = xs.length := by unfold spotsOf; simp
theorem spotsOf_snoc {xs : List Leaf} {k : Nat} (h : k < xs.length) : spotsOf (xs.take (k + 1)) = spotsOf (xs.take k) ++ [spotOf xs[k]] := by
  unfold spotsOf; rw [List.take_succ_eq_append_getElem h, List.map_append]; rfl
set_option maxRecDepth 20000 in set_option maxHeartbeats 8000000 in
theorem spec_l10Spots (w : World) (xs : List Leaf) (A : Option Addr) (cap : Nat) (S : Blks) (hx : Row false w A cap xs S) (hl : xs.length ≤ 1048576) (hz : szL xs ≤ 1048576) : Calls Tryd.prog 89 #[.slice A xs.length cap] w (OwnRes (spotsOf xs) w) := by
  go_enter Tryd.func89, Tryd.ntmps89
  go_wp2
  have HO := Lib.hid (Own.litAt (α := Spot) (Below.refl w.heap.size w) 153 rfl (b := w.heap.size) rfl)
  go_loopw [3, 4] (fun u i wr => ∃ (k : Nat) (A2 : Option Addr) (c : Nat), k ≤ xs.length ∧ i = .int .i64 k ∧ u = .slice A2 k c ∧ Own w wr A2 c (spotsOf (xs.take k))) (fun _ i _ => xs.length - (intOf i).toNat)
  case atStart => exact ⟨0, some ⟨w.heap.size, 0, none⟩, 0, Nat.zero_le _, rfl, rfl, HO.out⟩
  case round =>
    clear HO
    obtain ⟨k, A2, c, hk, rfl, rfl, hown⟩ := hrel
    have hb := hown.bl
    have HOW := Lib.hid hown
    by_cases hlt : k < xs.length
    · obtain ⟨b1, o1, rfl, hl1, e0, e1, s0, s1⟩ := Row.atLeaf hx hlt
      have HN := Lib.hid (spotsOf_snoc hlt)
      have hsz := leaf_size hlt hz
      have HNL : Hid ((spotsOf (xs.take k)).length = k) := Lib.hid (by rw [spotsOf_len, List.length_take]; omega)
      obtain ⟨x, hx'⟩ : ∃ x, xs[k] = x := ⟨_, rfl⟩
      rw [hx'] at e0 e1 s0 s1 HN hsz
      clear hx'
      have HM := Lib.hid (fun (w' : World) (h : Below w.heap.size w w') => (⟨(h.cell (p := ⟨b1, o1 + k * 2, none⟩) hl1).trans e0, (h.cell (p := ⟨b1, o1 + k * 2 + 1, none⟩) hl1).trans e1, h⟩ : w'.cell? ⟨b1, o1 + k * 2, none⟩ = some (.string x.name) ∧ w'.cell? ⟨b1, o1 + k * 2 + 1, none⟩ = some (.string x.value) ∧ Below w.heap.size w w'))
      have HIX := Lib.hid (fun W' => spec_IndexOf W' x.name (by omega))
      have hwl := hb.size
      have hok : Flat.ok (spotOf x) := (show x.name.size ≤ maxLen ∧ x.value.size ≤ maxLen ∧ I64 ((indexOf x.name : Nat) : Int) from ⟨s0, s1, by have := indexOf_lt x.name; unfold I64; omega⟩)
      have HSX : Hid (spotOf x = ⟨x, (indexOf x.name : Int)⟩) := Lib.hid rfl
      rw [HSX.out] at HN hok
      obtain ⟨ix, hix⟩ : ∃ ix, indexOf x.name = ix := ⟨_, rfl⟩
      rw [hix] at HIX HN hok
      have hB := Below.refl wr.heap.size wr
      have hki : (k : Int) < (xs.length : Int) := by omega
      have hk0 : (0 : Int) ≤ (k : Int) := by omega
      clear hix HSX e0 e1 s0 s1 hown
      go_wp2_with (fail)
      go_region_held3 (fun w' => w'.cell? ⟨b1, o1 + k * 2, none⟩ = some (.string x.name) ∧ w'.cell? ⟨b1, o1 + k * 2 + 1, none⟩ = some (.string x.value) ∧ Below w.heap.size w w')
        (first | exact HM.out _ hE | exact HM.out _ (hb.trans (Below.mono (w := wr) (by (repeat (first | with_reducible exact hB | with_reducible apply Below.drew | with_reducible refine Below.alloc ?_ ?_ _ | with_reducible refine Below.setCell ?_ ?_ _)); all_goals (first | omega | (simp; done) | (simp; omega))) hwl)))
        (first | (go_at_call 30; refine (HIX.out _).mono ?_; rintro e5 w5 ⟨rfl, hb5⟩; have hB := Below.step (a := wr) (by (repeat (first | with_reducible exact hB | with_reducible apply Below.drew | with_reducible refine Below.alloc ?_ ?_ _ | with_reducible refine Below.setCell ?_ ?_ _)); all_goals (first | omega | (simp; done) | (simp; omega))) hb5; have hs5 := hB.size) | ((refine step_push (α := Spot) (w0 := w) rfl _ _ rfl rfl HNL.out.symm (HOW.out.later (by (repeat (first | with_reducible exact hB | with_reducible apply Below.drew | with_reducible refine Below.alloc ?_ ?_ _ | with_reducible refine Below.setCell ?_ ?_ _)); all_goals (first | omega | (simp; done) | (simp; omega)))) rfl rfl (src1 hok (by first | rfl | simp) rfl) (by omega) ?_); intro A6 c6 w6 o6 hE))
      go_wp2
      go_roundw
      case rel => exact ⟨k + 1, A6, c6, hlt, by go_num, rfl, by rw [HN.out]; exact o6⟩
      case measure => simp [intOf]; omega
    · have HE : Hid (spotsOf xs = spotsOf (xs.take k)) := Lib.hid (by rw [List.take_of_length_le (by omega)])
      have HNL : Hid (k = (spotsOf (xs.take k)).length) := Lib.hid (by rw [spotsOf_len, List.length_take]; omega)
      clear hown hb
      go_wp2
      go_ret
      exact OwnRes.mk HOW.out HE.out HNL.out
end Go.Proofs.YtojbehmbeoemgaaDoor

set_option linter.unusedVariables false
set_option linter.unusedSimpArgs false
namespace Go.Proofs.YtojbehmbeoemgaaDoor
open Go.RowKit Lay Mk
def GroveRes (xs : List Leaf) (A : Option Addr) (cap : Nat) (n : Int) (w : World) (e : Ending) (w' : World) : Prop := ∃ A2 c2, e = .returned (.agg #[.slice A xs.length cap, .slice A2 xs.length c2, .int .i64 n]) ∧ Own w w' A2 c2 (ixs xs)
theorem ixs_snoc {xs : List Leaf} {k : Nat} (h : k < xs.length) : ixs (xs.take (k + 1)) = ixs (xs.take k) ++ [(indexOf xs[k].name : Int)] := by
  unfold ixs; rw [List.take_succ_eq_append_getElem h, List.map_append]; rfl
set_option maxRecDepth 20000 in set_option maxHeartbeats 16000000 in
theorem impl_newGrove (w : World) (xs : List Leaf) (A : Option Addr) (cap : Nat) (S : Blks) (hx : Row false w A cap xs S) (hl : xs.length ≤ 1048576) (hz : szL xs ≤ 1048576) (n : Int) (hT : Tabs w) : Calls Tryd.prog 70 #[.slice A xs.length cap, .int .i64 n] w (GroveRes xs A cap n w) := by
  have HT := Lib.hid hT
  clear hT
  have hWd : ∀ W, W = (w.alloc (.cells #[.slice none 0 0, .slice none 0 0, .int .i64 0] 103)).alloc (.cells #[.slice A xs.length cap, .slice none 0 0, .int .i64 n] 103) → Below w.heap.size w W ∧ W.heap.size = w.heap.size + 2 ∧ (∀ o, W.frozen? ⟨w.heap.size, o, none⟩ = false) ∧ (∀ o, W.frozen? ⟨w.heap.size + 1, o, none⟩ = false) ∧ W.cell? ⟨w.heap.size, 0, none⟩ = some (.slice none 0 0) ∧ W.cell? ⟨w.heap.size, 1, none⟩ = some (.slice none 0 0) ∧ W.cell? ⟨w.heap.size, 2, none⟩ = some (.int .i64 0) ∧ W.cell? ⟨w.heap.size + 1, 0, none⟩ = some (.slice A xs.length cap) ∧ W.cell? ⟨w.heap.size + 1, 1, none⟩ = some (.slice none 0 0) ∧ W.cell? ⟨w.heap.size + 1, 2, none⟩ = some (.int .i64 n) := by
    rintro W rfl
    refine ⟨((Below.refl _ _).alloc (Nat.le_refl _) _).alloc (by simp) _, by simp, fun o => by simp, fun o => by simp, ?_⟩
    refine ⟨by simp, by simp, by simp, by simp, by simp, by simp⟩
  go_enter Tryd.func70, Tryd.ntmps70
  go_wp2_with (fail)
  obtain ⟨W, hW⟩ : ∃ W, (w.alloc (.cells #[.slice none 0 0, .slice none 0 0, .int .i64 0] 103)).alloc (.cells #[.slice A xs.length cap, .slice none 0 0, .int .i64 n] 103) = W := ⟨_, rfl⟩
  rw [hW]
  obtain ⟨hBW, hWs, zf, gf, z0, z1, z2, g0, g1, g2⟩ := hWd W hW.symm
  clear hW hWd
  have hWl : w.heap.size + 2 ≤ W.heap.size := by omega
  clear hWs
  go_loopw [13] (fun i wr => ∃ (k : Nat) (A2 : Option Addr) (c : Nat), k ≤ xs.length ∧ i = .int .i64 k ∧ Hid (Row true wr A2 c (ixs (xs.take k)) (nw (w.heap.size + 2))) ∧ Hid (k ≤ c ∧ c ≤ maxLen) ∧ Hid (Below w.heap.size w wr) ∧ w.heap.size + 2 ≤ wr.heap.size ∧ Hid (∀ o, wr.frozen? ⟨w.heap.size, o, none⟩ = false) ∧ (∀ o, wr.frozen? ⟨w.heap.size + 1, o, none⟩ = false) ∧ Hid (wr.cell? ⟨w.heap.size, 0, none⟩ = some (.slice none 0 0) ∧ wr.cell? ⟨w.heap.size, 1, none⟩ = some (.slice none 0 0) ∧ wr.cell? ⟨w.heap.size, 2, none⟩ = some (.int .i64 0)) ∧ wr.cell? ⟨w.heap.size + 1, 0, none⟩ = some (.slice A xs.length cap) ∧ wr.cell? ⟨w.heap.size + 1, 1, none⟩ = some (.slice A2 k c) ∧ wr.cell? ⟨w.heap.size + 1, 2, none⟩ = some (.int .i64 n)) (fun i _ => xs.length - (intOf i).toNat)
  case atStart => exact ⟨0, none, 0, Nat.zero_le _, rfl, Lib.hid (row_nil _ _), Lib.hid ⟨Nat.le_refl _, by decide⟩, Lib.hid hBW, hWl, Lib.hid zf, gf, Lib.hid ⟨z0, z1, z2⟩, g0, g1, g2⟩
  case round =>
    clear zf gf z0 z1 z2 g0 g1 g2 hBW hWl
    obtain ⟨k, A2, c, hk, rfl, HR, HC, HB, hzr, ZF, gf, ZZ, g0, g1, g2⟩ := hrel
    by_cases hlt : k < xs.length
    · obtain ⟨b1, o1, rfl, hl1, e0, e1, s0, s1⟩ := Row.atLeaf hx hlt
      replace e0 := (HB.out.cell (p := ⟨b1, o1 + k * 2, none⟩) hl1).trans e0
      replace e1 := (HB.out.cell (p := ⟨b1, o1 + k * 2 + 1, none⟩) hl1).trans e1
      have HN := Lib.hid (ixs_snoc hlt)
      have hsz := leaf_size hlt hz
      obtain ⟨x, hx'⟩ : ∃ x, xs[k] = x := ⟨_, rfl⟩
      rw [hx'] at e0 e1 HN hsz
      clear hx' s0 s1
      have hlb : b1 < wr.heap.size := Nat.lt_of_lt_of_le hl1 HB.out.size
      have hbw : b1 < w.heap.size := hl1
      have hlw : w.heap.size ≤ wr.heap.size := by omega
      have hlen : (ixs (xs.take k)).length = k := by rw [ixs_len, List.length_take]; omega
      have HLN := Lib.hid hlen
      clear hlen
      go_wp2_with (fail)
      obtain ⟨V, hV⟩ : ∃ V, wr.alloc (.cells #[.string x.name, .string x.value] 110) = V := ⟨_, rfl⟩
      have hVB : Below wr.heap.size wr V := by rw [← hV]; exact (Below.refl _ _).alloc (Nat.le_refl _) _
      have hVs : wr.heap.size < V.heap.size := by rw [← hV]; simp
      have x0 : V.cell? ⟨wr.heap.size, 0, none⟩ = some (.string x.name) := by rw [← hV]; exact box_cell _ _ _ _ _ rfl
      rw [hV]
      clear hV
      replace g0 := (hVB.cell (p := ⟨w.heap.size + 1, 0, none⟩) (by show w.heap.size + 1 < _; omega)).trans g0
      replace g1 := (hVB.cell (p := ⟨w.heap.size + 1, 1, none⟩) (by show w.heap.size + 1 < _; omega)).trans g1
      replace g2 := (hVB.cell (p := ⟨w.heap.size + 1, 2, none⟩) (by show w.heap.size + 1 < _; omega)).trans g2
      replace gf := fun o => (hVB.frozen (p := ⟨w.heap.size + 1, o, none⟩) (by show w.heap.size + 1 < _; omega)).trans (gf o)
      have HR1 := Lib.hid (Row.later HR.out hVB)
      have HB1 := Lib.hid (HB.out.trans (hVB.mono hlw))
      have hzV : w.heap.size + 2 ≤ V.heap.size := by omega
      have HIX := Lib.hid (fun W' (h : Below V.heap.size V W') => impl_IndexOf W' x.name (by omega) (HT.out.later (HB1.out.trans (h.mono (by omega)))))
      have ZF1 := Lib.hid (fun o => (hVB.frozen (p := ⟨w.heap.size, o, none⟩) (by show w.heap.size < _; omega)).trans (ZF.out o))
      have ZZ1 := Lib.hid (And.intro ((hVB.cell (p := ⟨w.heap.size, 0, none⟩) (by show w.heap.size < _; omega)).trans ZZ.out.1) (And.intro ((hVB.cell (p := ⟨w.heap.size, 1, none⟩) (by show w.heap.size < _; omega)).trans ZZ.out.2.1) ((hVB.cell (p := ⟨w.heap.size, 2, none⟩) (by show w.heap.size < _; omega)).trans ZZ.out.2.2)))
      clear hVB e0 e1
      have hok : Flat.ok (indexOf x.name : Int) := (show I64 _ from by have := indexOf_lt x.name; unfold I64; omega)
      obtain ⟨ix, hix⟩ : ∃ ix, indexOf x.name = ix := ⟨_, rfl⟩
      rw [hix] at HIX HN hok
      clear hix
      go_region_law (first | (go_simp; go_at_call 62; refine (HIX.out _ (by first | exact Below.refl _ _ | exact (Below.refl _ _).drew)).mono ?_; rintro e5 w5 ⟨rfl, hb5⟩; have hV5 : Below V.heap.size V w5 := (by first | exact hb5 | exact Below.viad hb5); have hs5 := hV5.size; have hlg5 : w.heap.size + 1 < w5.heap.size := (by omega); have HR5 := Lib.hid (Row.later HR1.out hV5); have g15 := (hV5.cell (p := ⟨w.heap.size + 1, 1, none⟩) (by show w.heap.size + 1 < _; omega)).trans g1; clear hb5) | (refine step_app (α := Int) rfl _ _ rfl rfl HLN.out.symm (HR5.out.allocC _) HC.out.1 HC.out.2 rfl rfl (src1 hok (by first | rfl | simp) rfl) (disj_none_ _) (by omega) ?_; intro A6 c6 w6 h1 h2 h3 h4; have hV6 : Below (w.heap.size + 2) V w6 := (((hV5.mono hzV).alloc (by omega) _).trans (h4.to_below (by simp; omega) (fun b hb => hb))); have hs6 := h4.size; rw [World.size_alloc] at hs6; have hlg6 : w.heap.size + 1 < w6.heap.size := (by omega); have g06 := (hV6.cell (p := ⟨w.heap.size + 1, 0, none⟩) (by show w.heap.size + 1 < _; omega)).trans g0; have g16 := (hV6.cell (p := ⟨w.heap.size + 1, 1, none⟩) (by show w.heap.size + 1 < _; omega)).trans g1; have g26 := (hV6.cell (p := ⟨w.heap.size + 1, 2, none⟩) (by show w.heap.size + 1 < _; omega)).trans g2; have gf6 := fun o => (hV6.frozen (p := ⟨w.heap.size + 1, o, none⟩) (by show w.heap.size + 1 < _; omega)).trans (gf o); have HK6 := Lib.hid (And.intro h1 (And.intro h2 h3)); clear h1 h2 h3 h4 HR5))
      all_goals
        have hN2 : Row true w6 A6 c6 (ixs (xs.take (k + 1))) (nw (w.heap.size + 2)) := by
          rw [HN.out]
          exact row_og HK6.out.2.2 (fun b hb => by show w.heap.size + 2 ≤ b; rw [World.size_alloc] at hb; omega)
        have HNR := Lib.hid hN2
        have HB6 := Lib.hid (HB1.out.trans (hV6.mono (by omega)))
        have HV6 := Lib.hid hV6
        have HW1 := Lib.hid (World.cell?_setCell_same w6 ⟨w.heap.size + 1, 1, none⟩ (.slice A6 (k + 1) c6) g16)
        clear hN2 HN hV6 HR1 hV5 HIX x0
        go_wp2
        go_roundw
        case rel => exact ⟨k + 1, A6, c6, hlt, by go_num, Lib.hid (HNR.out.setC (by show ¬ (w.heap.size + 2 ≤ w.heap.size + 1); omega) _), Lib.hid ⟨HK6.out.1, HK6.out.2.1⟩, Lib.hid (Below.setCell HB6.out (by show w.heap.size ≤ w.heap.size + 1; omega) _), by simp; omega, Lib.hid (fun o => by simpa using (HV6.out.frozen (p := ⟨w.heap.size, o, none⟩) (by show w.heap.size < _; omega)).trans (ZF1.out o)), fun o => by simpa using gf6 o, Lib.hid ⟨(World.cell?_setCell_other _ _ _ _ (by intro h; injection h with h1 h2 h3; omega)).trans ((HV6.out.cell (p := ⟨w.heap.size, 0, none⟩) (by show w.heap.size < _; omega)).trans ZZ1.out.1), (World.cell?_setCell_other _ _ _ _ (by intro h; injection h with h1 h2 h3; omega)).trans ((HV6.out.cell (p := ⟨w.heap.size, 1, none⟩) (by show w.heap.size < _; omega)).trans ZZ1.out.2.1), (World.cell?_setCell_other _ _ _ _ (by intro h; injection h with h1 h2 h3; omega)).trans ((HV6.out.cell (p := ⟨w.heap.size, 2, none⟩) (by show w.heap.size < _; omega)).trans ZZ1.out.2.2)⟩, (World.cell?_setCell_other _ _ _ _ (by intro h; injection h with h1 h2 h3; omega)).trans g06, HW1.out, (World.cell?_setCell_other _ _ _ _ (by intro h; injection h with h1 h2 h3; omega)).trans g26⟩
        case measure => simp [intOf]; omega
    · have hke : k = xs.length := by omega
      subst hke
      have hR2 : Row true wr A2 c (ixs xs) (nw (w.heap.size + 2)) := by have h9 := HR.out; rwa [List.take_of_length_le (Nat.le_refl _)] at h9
      have HR2 := Lib.hid hR2
      have HB2 := Lib.hid HB.out
      have hlg : w.heap.size < wr.heap.size := by omega
      obtain ⟨z0, z1, z2⟩ := ZZ.out
      have zf := ZF.out
      clear hR2 HR ZF ZZ
      go_wp2
      refine bodyPost_ret (v := .agg #[.slice A xs.length cap, .slice A2 xs.length c, .int .i64 n]) (by simp [results, Tryd.results70, go_sem, *]) rfl ?_
      have hns : ∀ o : Nat, ¬ nw (w.heap.size + 2) (⟨w.heap.size, o, none⟩ : Addr).block := fun o => by show ¬ (w.heap.size + 2 ≤ w.heap.size); omega
      exact ⟨A2, c, rfl, ⟨(((HR2.out.setC (hns 0) _).setC (hns 1) _).setC (hns 2) _).mono (fun b hb => Nat.le_trans (Nat.le_add_right _ 2) hb), by rw [ixs_len]; exact HC.out.1, HC.out.2, Below.setCell (Below.setCell (Below.setCell HB2.out (Nat.le_refl _) _) (Nat.le_refl _) _) (Nat.le_refl _) _⟩⟩
end Go.Proofs.YtojbehmbeoemgaaDoor
