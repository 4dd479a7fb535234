/- Walks: names, places, the places above; both sides. -/
import Derived.Test.YtojbehmbeoemgaaDoorKYm
import Derived.Test.YtojbehmbeoemgaaDoorB2
import Derived.Test.YtojbehmbeoemgaaDoorKNm
set_option linter.unusedVariables false
set_option linter.unusedSimpArgs false
namespace Go.Proofs.YtojbehmbeoemgaaDoor
open Go.RowKit Lay Mk
theorem names_bad {xs : List ByteArray} {k : Nat} (h : k < xs.length) (hn : nameOk xs[k] = false) : namesFit xs = false := by
  unfold namesFit
  rw [show xs.all nameOk = false by rw [List.all_eq_false]; exact ⟨_, List.getElem_mem h, by simp [hn]⟩]; rfl
theorem names_long {xs : List ByteArray} (h : 8 < xs.length) : namesFit xs = false := by
  unfold namesFit
  rw [show inB (xs.length : Int) 1 8 = false by simp [inB]; omega, Bool.and_false]
theorem names_all {xs : List ByteArray} (h : ∀ k (hk : k < xs.length), nameOk xs[k] = true) : namesFit xs = inB (xs.length : Int) 1 8 := by
  unfold namesFit
  rw [show xs.all nameOk = true by rw [List.all_eq_true]; intro s hs; obtain ⟨k, hk, rfl⟩ := List.getElem_of_mem hs; exact h k hk]; rfl
set_option maxRecDepth 20000 in set_option maxHeartbeats 4000000 in
theorem impl_namesOk (w : World) (xs : List ByteArray) (A : Option Addr) (cap : Nat) (S : Blks) (hx : Row false w A cap xs S) (hl : xs.length ≤ 1048576) : Calls Tryd.prog 68 #[.slice A xs.length cap] w fun e w' => e = .returned (.bool (namesFit xs)) ∧ Below w.heap.size w w' := by
  go_enter Tryd.func68, Tryd.ntmps68
  go_wp2
  go_loopw [7] (fun i wr => ∃ k : Nat, k ≤ xs.length ∧ i = .int .i64 k ∧ Hid (∀ j (h : j < xs.length), j < k → nameOk xs[j] = true) ∧ k ≤ 8 ∧ Below w.heap.size w wr) (fun i _ => xs.length - (intOf i).toNat)
  case atStart => exact ⟨0, Nat.zero_le _, rfl, Lib.hid (fun j _ h => absurd h (Nat.not_lt_zero _)), by omega, Below.refl _ _⟩
  case round =>
    obtain ⟨k, hk, rfl, HA, hk8, hb⟩ := hrel
    have hz := hb.size
    by_cases hlt : k < xs.length
    · obtain ⟨b1, o1, rfl, hl1, f0, s0⟩ := Row.str hx hlt
      replace f0 := (hb.cell (p := ⟨b1, o1 + k, none⟩) hl1).trans f0
      have hl2 : b1 < wr.heap.size := by omega
      have HB := Lib.hid (names_bad hlt)
      have HN : Hid (nameOk xs[k] = true → ∀ j (h : j < xs.length), j < k + 1 → nameOk xs[j] = true) := Lib.hid (fun h0 j h hj => by rcases Nat.lt_succ_iff_lt_or_eq.1 hj with h1 | h1; exact HA.out j h h1; subst h1; exact h0)
      obtain ⟨x, hxx⟩ : ∃ x, xs[k] = x := ⟨_, rfl⟩
      rw [hxx] at f0 s0
      simp only [hxx] at HB HN
      clear hxx
      by_cases h8 : 8 ≤ k
      · have HL := Lib.hid (names_long (show 8 < xs.length by omega))
        have d8 : decide ((8 : Int) ≤ (k : Int)) = true := by simp; omega
        go_wp2
        go_ret
        exact ⟨ret_bool (by rw [HL.out]), hb⟩
      have d8 : decide ((8 : Int) ≤ (k : Int)) = false := by simp; omega
      cases hn : nameOk x
      · have HF := Lib.hid (HB.out hn)
        go_wp2_with (go_at_call 123; refine (impl_NameOk _ _ s0).mono ?_; rintro e2 w2 ⟨rfl, rfl⟩)
        go_ret
        exact ⟨ret_bool (by rw [HF.out]), hb⟩
      · have HF := Lib.hid (HN.out hn)
        go_wp2_with (go_at_call 123; refine (impl_NameOk _ _ s0).mono ?_; rintro e2 w2 ⟨rfl, rfl⟩)
        go_roundw
        case rel => exact ⟨k + 1, by omega, by go_num, HF, by omega, hb⟩
        case measure => simp [intOf]; omega
    · have hke : k = xs.length := by omega
      subst hke
      have HF := Lib.hid (names_all (fun k hk => HA.out k hk hk))
      have HD : Hid (inB (xs.length : Int) 1 8 = decide ((0 : Int) < (xs.length : Int))) := Lib.hid (by
        by_cases h0 : 0 < xs.length
        · rw [decide_eq_true (by omega)]; simp [inB]; omega
        · rw [decide_eq_false (by omega)]; simp [inB]; omega)
      clear HA
      go_wp2
      go_ret
      exact ⟨ret_bool (by rw [HF.out, HD.out]; first | rfl | (simp; done)), hb⟩
set_option maxRecDepth 20000 in set_option maxHeartbeats 4000000 in
theorem spec_l26Names (w : World) (xs : List ByteArray) (A : Option Addr) (cap : Nat) (S : Blks) (hx : Row false w A cap xs S) (hl : xs.length ≤ 1048576) : Calls Tryd.prog 88 #[.slice A xs.length cap] w fun e w' => e = .returned (.bool (namesFit xs)) ∧ w = w' := by
  go_enter Tryd.func88, Tryd.ntmps88
  go_wp2
  go_loopw [3] (fun i wr => ∃ k : Nat, k ≤ xs.length ∧ i = .int .i64 k ∧ Hid (∀ j (h : j < xs.length), j < k → nameOk xs[j] = true) ∧ w = wr) (fun i _ => xs.length - (intOf i).toNat)
  case atStart => exact ⟨0, Nat.zero_le _, rfl, Lib.hid (fun j _ h => absurd h (Nat.not_lt_zero _)), rfl⟩
  case round =>
    obtain ⟨k, hk, rfl, HA, rfl⟩ := hrel
    by_cases hlt : k < xs.length
    · obtain ⟨b1, o1, rfl, hl1, f0, s0⟩ := Row.str hx hlt
      have HB := Lib.hid (names_bad hlt)
      have HN : Hid (nameOk xs[k] = true → ∀ j (h : j < xs.length), j < k + 1 → nameOk xs[j] = true) := Lib.hid (fun h0 j h hj => by rcases Nat.lt_succ_iff_lt_or_eq.1 hj with h1 | h1; exact HA.out j h h1; subst h1; exact h0)
      obtain ⟨x, hxx⟩ : ∃ x, xs[k] = x := ⟨_, rfl⟩
      rw [hxx] at f0 s0
      simp only [hxx] at HB HN
      clear hxx
      cases hn : nameOk x
      · have HF := Lib.hid (HB.out hn)
        go_wp2_with (go_at_call 75; refine (spec_NameOk _ _ s0).mono ?_; rintro e2 w2 ⟨rfl, rfl⟩)
        go_ret
        exact ⟨ret_bool (by rw [HF.out]), rfl⟩
      · have HF := Lib.hid (HN.out hn)
        go_wp2_with (go_at_call 75; refine (spec_NameOk _ _ s0).mono ?_; rintro e2 w2 ⟨rfl, rfl⟩)
        go_roundw
        case rel => exact ⟨k + 1, by omega, by go_num, HF, trivial⟩
        case measure => simp [intOf]; omega
    · have hke : k = xs.length := by omega
      subst hke
      have HF := Lib.hid (names_all (fun k hk => HA.out k hk hk))
      clear HA
      go_wp2_with (go_at_call 50; refine (spec_in _ _ _ _).mono ?_; rintro e2 w2 ⟨rfl, rfl⟩)
      go_ret
      exact ⟨ret_bool (by rw [HF.out]), rfl⟩
set_option maxRecDepth 20000 in set_option maxHeartbeats 4000000 in
theorem spec_l26In (w : World) (xs : List Int) (A : Option Addr) (cap : Nat) (S : Blks) (hx : Row false w A cap xs S) (hl : xs.length ≤ 1048576) (v : Int) : Calls Tryd.prog 91 #[.slice A xs.length cap, .int .i64 v] w fun e w' => e = .returned (.bool (decide (v ∈ xs))) ∧ w = w' := by
  go_enter Tryd.func91, Tryd.ntmps91
  go_wp2
  go_loopw [5] (fun i wr => ∃ k : Nat, k ≤ xs.length ∧ i = .int .i64 k ∧ Hid (∀ j (h : j < xs.length), j < k → ¬ xs[j] = v) ∧ w = wr) (fun i _ => xs.length - (intOf i).toNat)
  case atStart => exact ⟨0, Nat.zero_le _, rfl, Lib.hid (fun j _ h => absurd h (Nat.not_lt_zero _)), rfl⟩
  case round =>
    obtain ⟨k, hk, rfl, HA, rfl⟩ := hrel
    by_cases hlt : k < xs.length
    · obtain ⟨b1, o1, rfl, hl1, f0, s0⟩ := Row.int hx hlt
      have HB : Hid (xs[k] = v → v ∈ xs) := Lib.hid (fun h => by rw [← h]; exact List.getElem_mem hlt)
      have HN : Hid (¬ xs[k] = v → ∀ j (h : j < xs.length), j < k + 1 → ¬ xs[j] = v) := Lib.hid (fun h0 j h hj => by rcases Nat.lt_succ_iff_lt_or_eq.1 hj with h1 | h1; exact HA.out j h h1; subst h1; exact h0)
      obtain ⟨x, hxx⟩ : ∃ x, xs[k] = x := ⟨_, rfl⟩
      rw [hxx] at f0 s0
      simp only [hxx] at HB HN
      clear hxx
      by_cases hn : x = v
      · have HF := Lib.hid (HB.out hn)
        have hq : (x == v) = true := beq_iff_eq.2 hn
        clear hn HB HN
        go_wp2
        go_ret
        exact ⟨ret_bool (by rw [decide_eq_true HF.out]), rfl⟩
      · have HF := Lib.hid (HN.out hn)
        have hq : (x == v) = false := beq_eq_false_iff_ne.2 hn
        clear hn HB HN
        go_wp2
        go_roundw
        case rel => exact ⟨k + 1, by omega, by go_num, HF, trivial⟩
        case measure => simp [intOf]; omega
    · have hke : k = xs.length := by omega
      subst hke
      have HF : Hid (¬ v ∈ xs) := Lib.hid (fun h => by obtain ⟨j, hj, e⟩ := List.getElem_of_mem h; exact HA.out j hj hj e)
      clear HA
      go_wp2
      go_ret
      exact ⟨ret_bool (by rw [decide_eq_false HF.out]), rfl⟩
theorem castL_at {ks : List Nat} {k : Nat} (h : k < ks.length) : (castL ks)[k]'(by rw [castL_len]; exact h) = ((ks.getD k 0 : Nat) : Int) := by unfold castL; rw [getD_ h]; simp
theorem castL_mem {ks : List Nat} {q : Nat} : ((q : Nat) : Int) ∈ castL ks ↔ q ∈ ks := by
  unfold castL; rw [List.mem_map]
  constructor
  · rintro ⟨a, ha, e⟩
    have : a = q := by omega
    subst this; exact ha
  · intro h; exact ⟨q, h, rfl⟩
theorem castL_snoc (ks : List Nat) (q : Nat) : castL (ks ++ [q]) = castL ks ++ [(q : Int)] := by unfold castL; simp
theorem castL_i64 {ks : List Nat} (h : ∀ k ∈ ks, k < 256) : ∀ x ∈ castL ks, I64 x := by
  intro x hx; unfold castL at hx
  obtain ⟨a, ha, rfl⟩ := List.mem_map.1 hx
  have := h a ha
  unfold I64; omega
theorem above_lt {ks : List Nat} (h : ∀ k ∈ ks, k < 256) : ∀ q ∈ aboveU ks, q < 256 := by
  intro q hq
  obtain ⟨p, hp, rfl⟩ := mem_above.1 hq
  have := h p hp
  omega
theorem above_take_len (ks : List Nat) : ∀ k, k ≤ ks.length → (aboveU (ks.take k)).length ≤ k
  | 0, _ => by simp [aboveU]
  | k + 1, h => by
    rw [takeY_snoc (by omega), above_snoc]
    have := above_take_len ks k (by omega)
    unfold insU
    split
    · omega
    · simp; omega
set_option maxRecDepth 20000 in set_option maxHeartbeats 4000000 in
theorem spec_l26Above (w : World) (ks : List Nat) (hks : ∀ k ∈ ks, k < 256) (A : Option Addr) (cap : Nat) (S : Blks) (hx : Row false w A cap (castL ks) S) (hl : ks.length ≤ 1048576) : Calls Tryd.prog 83 #[.slice A ks.length cap] w (OwnRes (castL (aboveU ks)) w) := by
  have HKS := Lib.hid hks
  clear hks
  go_enter Tryd.func83, Tryd.ntmps83
  go_wp2
  have HO := Lib.hid (Own.litAt (α := Int) (Below.refl w.heap.size w) 3 rfl (b := w.heap.size) rfl)
  go_loopw [3, 4] (fun u i wr => ∃ (k : Nat) (L : List Int) (A2 : Option Addr) (c : Nat), k ≤ ks.length ∧ i = .int .i64 k ∧ u = .slice A2 L.length c ∧ Hid (L = castL (aboveU (ks.take k))) ∧ L.length ≤ k ∧ Own w wr A2 c L) (fun _ i _ => ks.length - (intOf i).toNat)
  case atStart => exact ⟨0, [], some ⟨w.heap.size, 0, none⟩, 0, Nat.zero_le _, rfl, rfl, Lib.hid rfl, by simp, HO.out⟩
  case round =>
    clear HO
    obtain ⟨k, L, A2, c, hk, rfl, rfl, HL, hLl, hown⟩ := hrel
    have hb := hown.bl
    have hz := hb.size
    by_cases hlt : k < ks.length
    · obtain ⟨b1, o1, rfl, hl1, f0, s0⟩ := Row.int hx (i := k) (by rw [castL_len]; exact hlt)
      rw [castL_at hlt] at f0 s0
      replace f0 := (hb.cell (p := ⟨b1, o1 + k, none⟩) hl1).trans f0
      have hl2 : b1 < wr.heap.size := by omega
      have hp256 : ks.getD k 0 < 256 := HKS.out _ (by rw [getD_ hlt]; exact List.getElem_mem hlt)
      have HS : Hid (aboveU (ks.take (k + 1)) = insU (aboveU (ks.take k)) (ks.getD k 0 / 2)) := Lib.hid (by rw [takeY_snoc hlt, above_snoc])
      obtain ⟨p, hp⟩ : ∃ p, ks.getD k 0 = p := ⟨_, rfl⟩
      rw [hp] at f0 s0 hp256 HS
      clear hp
      obtain ⟨q, hq⟩ : ∃ q, p / 2 = q := ⟨_, rfl⟩
      have hq256 : q < 256 := by omega
      rw [hq] at HS
      have hqu : Int.tdiv (p : Int) 2 = ((p / 2 : Nat) : Int) := rfl
      have HWQ : Hid ((p : Int) / 2 = (q : Int)) := Lib.hid (by omega)
      have HIN := Lib.hid (fun W (h : Below wr.heap.size wr W) (v : Int) (hv : v = (q : Int)) => (show Calls Tryd.prog 91 #[.slice A2 L.length c, .int .i64 v] W fun e w' => e = .returned (.bool (decide ((q : Int) ∈ L))) ∧ W = w' by subst hv; exact spec_l26In W L A2 c _ (Row.later hown.row.weak h) (by omega) (q : Int)))
      have HOW := Lib.hid hown
      have HB := Lib.hid hb
      clear hq hown hb
      by_cases hm : (q : Int) ∈ L
      · rw [decide_eq_true hm] at HIN
        have HF : Hid (L = castL (aboveU (ks.take (k + 1)))) := Lib.hid (by rw [HS.out, insU, if_pos, ← HL.out]; rw [HL.out, castL_mem] at hm; exact hm)
        clear hm HS
        go_wp2_with (go_at_call 91; refine (HIN.out _ (Below.refl _ _) _ HWQ.out).mono ?_; rintro e2 w2 ⟨rfl, rfl⟩)
        go_roundw
        case rel => exact ⟨k + 1, L, A2, c, hlt, by go_num, rfl, HF, by omega, HOW.out⟩
        case measure => simp [intOf]; omega
      · rw [decide_eq_false hm] at HIN
        have HF : Hid (L ++ [(q : Int)] = castL (aboveU (ks.take (k + 1)))) := Lib.hid (by rw [HS.out, insU, if_neg, castL_snoc, ← HL.out]; intro h; rw [HL.out, castL_mem] at hm; exact hm h)
        have hqi : I64 (q : Int) := by unfold I64; omega
        clear hm HS
        go_wp2_with (first | (go_at_call 91; refine (HIN.out _ (Below.refl _ _) _ HWQ.out).mono ?_; rintro e2 w2 ⟨rfl, rfl⟩) | (at_builtin; refine wpList_push (α := Int) rfl _ _ rfl rfl rfl (HOW.out.alloc _) rfl rfl (src_newb _ (q : Int) hqi _ _ _ (by first | rfl | simp) (by rw [HWQ.out]; rfl)) (by omega) ?_; intro A6 c6 w6 o6 z6))
        go_roundw
        case rel => exact ⟨k + 1, L ++ [(q : Int)], A6, c6, hlt, by go_num, by simp, HF, by simp; omega, o6⟩
        case measure => simp [intOf]; omega
    · have hke : k = ks.length := by omega
      subst hke
      have HE : Hid (castL (aboveU ks) = L) := Lib.hid (by rw [HL.out, List.take_length])
      have HOW := Lib.hid hown
      clear hown hb
      go_wp2
      go_ret
      exact OwnRes.mk HOW.out HE.out rfl
end Go.Proofs.YtojbehmbeoemgaaDoor
