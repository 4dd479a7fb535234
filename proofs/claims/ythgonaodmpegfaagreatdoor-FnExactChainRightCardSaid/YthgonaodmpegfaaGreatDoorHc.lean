/- Walks: the head behind a chain; is a list of heads a chain; is a client valid. -/
import Derived.Test.YthgonaodmpegfaaGreatDoorHo
import Derived.Test.YthgonaodmpegfaaGreatDoorGr
set_option linter.unusedVariables false
set_option linter.unusedSimpArgs false
namespace Go.Proofs.YthgonaodmpegfaaGreatDoor
open Go.RowKit Lay Mk
theorem row_pre {α : Type} [Lay α] {w : World} {A : Option Addr} {cap : Nat} {xs : List α} {S : Blks} (h : Row false w A cap xs S) (cap' k : Nat) : Row false w A cap' (xs.take k) S := by
  intro hne
  have h0 : xs ≠ [] := by rintro rfl; simp at hne
  obtain ⟨b, off, e, hb, T, h1, h2, h3⟩ := h h0
  refine ⟨b, off, e, hb, T, h1, h2, fun i hi => ?_⟩
  have hi' : i < xs.length := by rw [List.length_take] at hi; omega
  obtain ⟨cs, h4, h5⟩ := h3 i hi'
  exact ⟨cs, h4, by rw [List.getElem_take]; exact h5⟩
def lastHash (ys : List Head) : ByteArray := match ys.getLast? with
  | none => ⟨#[]⟩
  | some y => headHash y
def nextHead (ys : List Head) (house : Int) (root : ByteArray) : Head := ⟨house, ys.length + 1, root, lastHash ys⟩
theorem lastHash_at {ys : List Head} {k : Nat} (h : ys.length = k + 1) : lastHash ys = headHash (ys[k]'(by omega)) := by
  have : ys.getLast? = some (ys[k]'(by omega)) := by
    rw [List.getLast?_eq_getElem?, show ys.length - 1 = k by omega, List.getElem?_eq_getElem (by omega)]
  unfold lastHash; rw [this]
theorem lastHash_nil {ys : List Head} (h : ys.length = 0) : lastHash ys = ⟨#[]⟩ := by
  have : ys = [] := List.eq_nil_of_length_eq_zero h
  subst this; rfl
theorem lastHash_le (ys : List Head) : (lastHash ys).size ≤ 32 := by
  unfold lastHash; split
  · exact Nat.zero_le _
  · exact headHash_le _
def chainP (xs : List Head) (house : Int) (k : Nat) : Bool := match xs[k]? with
  | none => false
  | some x => headOk x && decide (x.house = house) && decide (x.epoch = k + 1) && decide (x.prev = lastHash (xs.take k))
def chainOk (xs : List Head) (house : Int) : Bool := allN xs.length (chainP xs house)
theorem chainP_at {xs : List Head} {house : Int} {k : Nat} (h : k < xs.length) : chainP xs house k = (headOk xs[k] && decide (xs[k].house = house) && decide (xs[k].epoch = k + 1) && decide (xs[k].prev = lastHash (xs.take k))) := by
  unfold chainP; rw [List.getElem?_eq_getElem h]
theorem chainOk_bad {xs : List Head} {house : Int} {k : Nat} (h : k < xs.length) (hp : chainP xs house k = false) : chainOk xs house = false := allN_bad h hp
theorem chainOk_end {xs : List Head} {house : Int} (h : ∀ k, k < xs.length → chainP xs house k = true) : chainOk xs house = true := allN_end h
theorem chain_prev0 {x : Head} (h : headOk x = true) (he : x.epoch = 1) : x.prev = ⟨#[]⟩ := by
  simp only [headOk, Bool.and_eq_true] at h
  obtain ⟨_, h4⟩ := h
  rw [if_pos he] at h4
  simpa using h4
theorem last_take {xs : List Head} {k : Nat} (h : k < xs.length) : lastHash (xs.take (k + 1)) = headHash xs[k] := by
  rw [lastHash_at (k := k) (by rw [List.length_take]; omega), List.getElem_take]
set_option maxRecDepth 20000 in set_option maxHeartbeats 4000000 in
theorem impl_nextHead (w : World) (ys : List Head) (A : Option Addr) (cap : Nat) (S : Blks) (hx : Row false w A cap ys S) (hl : ys.length ≤ 4000000000) (house : Int) (root : ByteArray) (hT : Tabs w) : Calls Tryz.prog 97 #[.slice A ys.length cap, .int .i64 house, .string root] w fun e w' => e = .returned (.agg (Head.cs (nextHead ys house root)).toArray) ∧ Below w.heap.size w w' := by
  rcases Nat.eq_zero_or_pos ys.length with h0 | h0
  · have HL := Lib.hid (lastHash_nil h0)
    have HN : Hid (nextHead ys house root = ⟨house, 1, root, ⟨#[]⟩⟩) := Lib.hid (by unfold nextHead; rw [HL.out, h0]; rfl)
    rw [h0]
    clear hx
    go_enter Tryz.func97, Tryz.ntmps97
    go_wp2
    refine bodyPost_ret (v := .agg #[.int .i64 house, .int .i64 1, .string root, .string ⟨#[]⟩]) (by simp [results, Tryz.results97, go_sem]) rfl ⟨by rw [HN.out]; rfl, by ((repeat (first | with_reducible exact Below.refl _ _ | with_reducible apply Below.drew | with_reducible refine Below.alloc ?_ ?_ _ | with_reducible refine Below.setCell ?_ ?_ _)); all_goals (simp))⟩
  · obtain ⟨k, hk⟩ : ∃ k, ys.length = k + 1 := ⟨ys.length - 1, by omega⟩
    have hkl : k < ys.length := by omega
    have HN : Hid (nextHead ys house root = ⟨house, (k : Int) + 1 + 1, root, headHash ys[k]⟩) := Lib.hid (by unfold nextHead; rw [lastHash_at hk]; congr 1; omega)
    obtain ⟨b1, o1, rfl, hl1, f0, f1, f2, f3, -, -, -, -⟩ := Row.atHead hx hkl
    obtain ⟨y, hy⟩ : ∃ y, ys[k] = y := ⟨_, rfl⟩
    rw [hy] at f0 f1 f2 f3 HN
    clear hy hx h0
    rw [hk]
    have hk2 : IntKind.i64.wrap ((k : Int) + 1 - 1) = k := by rw [IntWalk.i64_in] <;> omega
    have hk3 : (k : Int) + 1 - 1 = k := by omega
    go_enter Tryz.func97, Tryz.ntmps97
    go_wp2_with (fail)
    generalize hW : (w.alloc (.cells #[.int .i64 0, .int .i64 0, .string ⟨#[]⟩, .string ⟨#[]⟩] 96)).alloc (.cells #[.int .i64 house, .int .i64 ((k : Int) + 1 + 1), .string root, .string ⟨#[]⟩] 96) = W
    have hWB : Below w.heap.size w W := by rw [← hW]; exact ((Below.refl _ _).alloc (Nat.le_refl _) _).alloc (by simp) _
    have hWz : W.heap.size = w.heap.size + 1 + 1 := by rw [← hW]; simp
    have e0 : W.heap[w.heap.size]? = some (.cells #[.int .i64 0, .int .i64 0, .string ⟨#[]⟩, .string ⟨#[]⟩] 96) := by
      rw [← hW, ((Below.refl (w.heap.size + 1) _).alloc (by simp) _).block w.heap.size (by omega)]; exact heap_alloc_new w _
    have e1 : W.heap[w.heap.size + 1]? = some (.cells #[.int .i64 house, .int .i64 ((k : Int) + 1 + 1), .string root, .string ⟨#[]⟩] 96) := by
      rw [← hW]; have := heap_alloc_new (w.alloc (.cells #[.int .i64 0, .int .i64 0, .string ⟨#[]⟩, .string ⟨#[]⟩] 96)) (.cells #[.int .i64 house, .int .i64 ((k : Int) + 1 + 1), .string root, .string ⟨#[]⟩] 96); simpa using this
    clear hW
    refine (impl_HeadHash y W (hT.later hWB)).mono ?_
    rintro e2 w1 ⟨rfl, hb⟩
    rw [← hb.block _ (by omega)] at e0 e1
    have hB1 := hWB.trans (hb.mono (by omega))
    have hz1 := hb.size
    obtain ⟨hh, hhe⟩ : ∃ h, headHash y = h := ⟨_, rfl⟩
    rw [hhe] at HN ⊢
    clear hhe hb hWB hWz f0 f1 f2 f3 hT
    have c0 := cell_of_row w1 w.heap.size 0 _ _ _ e0
    have c1 := cell_of_row w1 w.heap.size 1 _ _ _ e0
    have c2 := cell_of_row w1 w.heap.size 2 _ _ _ e0
    have c3 := cell_of_row w1 w.heap.size 3 _ _ _ e0
    have d0 := cell_of_row w1 (w.heap.size + 1) 0 _ _ _ e1
    have d1 := cell_of_row w1 (w.heap.size + 1) 1 _ _ _ e1
    have d2 := cell_of_row w1 (w.heap.size + 1) 2 _ _ _ e1
    have d3 := cell_of_row w1 (w.heap.size + 1) 3 _ _ _ e1
    have hf0 : ∀ o, w1.frozen? ⟨w.heap.size, o, none⟩ = false := fun o => frozen_of_row _ _ o _ _ e0
    have hf1 : ∀ o, w1.frozen? ⟨w.heap.size + 1, o, none⟩ = false := fun o => frozen_of_row _ _ o _ _ e1
    clear e0 e1
    simp at c0 c1 c2 c3 d0 d1 d2 d3
    go_wp2
    refine bodyPost_ret (v := .agg #[.int .i64 house, .int .i64 ((k : Int) + 1 + 1), .string root, .string hh]) (by simp [results, Tryz.results97, go_sem, *]) rfl ⟨by rw [HN.out]; rfl, by ((repeat (first | exact hB1 | with_reducible refine Below.setCell ?_ ?_ _)); all_goals (first | with_reducible exact Nat.le_refl _ | omega | (simp; done) | (simp; omega)))⟩
set_option maxRecDepth 20000 in set_option maxHeartbeats 8000000 in
theorem impl_ChainOk (w : World) (xs : List Head) (A : Option Addr) (cap : Nat) (S : Blks) (hx : Row false w A cap xs S) (hl : xs.length ≤ 4000000000) (hcap : xs.length ≤ cap) (house : Int) (hT : Tabs w) : Calls Tryz.prog 48 #[.slice A xs.length cap, .int .i64 house] w fun e w' => e = .returned (.bool (chainOk xs house)) ∧ Below w.heap.size w w' := by
  go_enter Tryz.func48, Tryz.ntmps48
  go_wp2
  go_loopw [9] (fun i wr => ∃ k : Nat, k ≤ xs.length ∧ i = .int .i64 k ∧ Hid (∀ j, j < k → chainP xs house j = true) ∧ Below w.heap.size w wr) (fun i _ => xs.length - (intOf i).toNat)
  case atStart => exact ⟨0, Nat.zero_le _, rfl, Lib.hid upto_zero, Below.refl _ _⟩
  case round =>
    obtain ⟨k, hk, rfl, hall, hB⟩ := hrel
    have hz := hB.size
    by_cases hlt : k < xs.length
    · obtain ⟨b1, o1, rfl, hl1, f0, f1, f2, f3, -, -, -, -⟩ := Row.atHead hx hlt
      replace f0 := (hB.cell (p := ⟨b1, o1 + k * 4, none⟩) hl1).trans f0
      replace f1 := (hB.cell (p := ⟨b1, o1 + k * 4 + 1, none⟩) hl1).trans f1
      replace f2 := (hB.cell (p := ⟨b1, o1 + k * 4 + 2, none⟩) hl1).trans f2
      replace f3 := (hB.cell (p := ⟨b1, o1 + k * 4 + 3, none⟩) hl1).trans f3
      have hl2 : b1 < wr.heap.size := by omega
      have HP := Lib.hid (chainP_at (house := house) hlt)
      have HBd := Lib.hid (chainOk_bad (house := house) hlt)
      have HN := Lib.hid (upto_succ (p := chainP xs house) hall.out)
      have htk : (xs.take k).length = k := by rw [List.length_take]; omega
      obtain ⟨x, hxx⟩ : ∃ x, xs[k] = x := ⟨_, rfl⟩
      rw [hxx] at f0 f1 f2 f3 HP
      have HNX : Hid (nextHead (xs.take k) house x.root = ⟨house, (k : Int) + 1, x.root, lastHash (xs.take k)⟩) := Lib.hid (by unfold nextHead; rw [htk])
      clear hxx
      go_wp2
      generalize hW : wr.alloc (.cells #[.int .i64 x.house, .int .i64 x.epoch, .string x.root, .string x.prev] 96) = W
      have hBW : Below w.heap.size w W := by rw [← hW]; exact hB.alloc hz _
      obtain ⟨B, hBe⟩ : ∃ B, wr.heap.size = B := ⟨_, rfl⟩
      have hBlt : B < W.heap.size := by rw [← hW, ← hBe]; simp
      have q0 : W.cell? ⟨B, 0, none⟩ = some (.int .i64 x.house) := by rw [← hW, ← hBe]; exact box_cell _ _ _ _ _ rfl
      have q1 : W.cell? ⟨B, 1, none⟩ = some (.int .i64 x.epoch) := by rw [← hW, ← hBe]; exact box_cell _ _ _ _ _ rfl
      have q2 : W.cell? ⟨B, 2, none⟩ = some (.string x.root) := by rw [← hW, ← hBe]; exact box_cell _ _ _ _ _ rfl
      have q3 : W.cell? ⟨B, 3, none⟩ = some (.string x.prev) := by rw [← hW, ← hBe]; exact box_cell _ _ _ _ _ rfl
      have c0 := Grown.cell q0
      have c1 := Grown.cell q1
      have c2 := Grown.cell q2
      have c3 := Grown.cell q3
      have hrow : Hid (Row false W (some ⟨b1, o1, none⟩) cap (xs.take k) S) := Lib.hid (row_pre (hx.later hBW) cap k)
      have HTb : Hid (Tabs W) := Lib.hid (hT.later hBW)
      have hBz : Hid (Below w.heap.size w W ∧ w.heap.size ≤ W.heap.size) := Lib.hid ⟨hBW, hBW.size⟩
      have hkc : k ≤ cap := by omega
      rw [hBe]
      clear hBe hBW hW q0 q1 q2 q3 f0 f1 f2 f3 hl1 hl2 hB hz
      obtain ⟨lh, hlh⟩ : ∃ l, lastHash (xs.take k) = l := ⟨_, rfl⟩
      have HNH : Hid (∀ W', Below W.heap.size W W' → Calls Tryz.prog 97 #[.slice (some ⟨b1, o1, none⟩) k cap, .int .i64 house, .string x.root] W' fun e w' => e = .returned (.agg #[.int .i64 house, .int .i64 ((k : Int) + 1), .string x.root, .string lh]) ∧ Below W'.heap.size W' w') := Lib.hid (fun W' h => by
        have h1 := impl_nextHead W' (xs.take k) _ cap S (hrow.out.later h) (by omega) house x.root (HTb.out.later h)
        rw [htk, HNX.out, hlh] at h1
        exact h1)
      rw [hlh] at HP
      clear hlh HNX hrow HTb htk
      obtain ⟨xh, xe, xr, xp⟩ := x
      dsimp only at HP HNH c0 c1 c2 c3 ⊢
      cases hok : headOk ⟨xh, xe, xr, xp⟩
      · have HF : Hid (chainOk xs house = false) := Lib.hid (HBd.out (by rw [HP.out, hok]; rfl))
        refine wp_region_grown (by kernel_rfl) (by kernel_rfl) ?_
        repeat (go_big_quiet_step (first | (go_at_call 94; exact grown_call (impl_HeadOk ⟨_, _, _, _⟩ _)) | (go_at_call 97; exact grown_call (HNH.out _ (Grown.ok _)))))
        refine wpQuiet_nil ?_
        intro w2 hw2
        have hR := grown_below hw2
        clear hw2
        go_wp2
        go_ret
        exact ⟨ret_bool (by rw [HF.out]), hBz.out.1.trans (hR.mono hBz.out.2)⟩
      · have HG : Hid (chainP xs house k = (decide (xh = house) && decide (xe = k + 1) && decide (xp = lh))) := Lib.hid (by rw [HP.out, hok]; simp)
        have hte : (xp.toList = lh.toList) = (xp = lh) := by apply propext; exact ⟨toList_inj, fun h => by rw [h]⟩
        by_cases h1 : xh = house
        · by_cases h2 : xe = k + 1
          · by_cases h3 : xp = lh
            · have HF : Hid (∀ q, q < k + 1 → chainP xs house q = true) := Lib.hid (HN.out (by rw [HG.out, decide_eq_true h1, decide_eq_true h2, decide_eq_true h3]; rfl))
              subst h1 h2 h3
              clear hte
              refine wp_region_grown (by kernel_rfl) (by kernel_rfl) ?_
              repeat (go_big_quiet_step (first | (go_at_call 94; exact grown_call (impl_HeadOk ⟨_, _, _, _⟩ _)) | (go_at_call 97; exact grown_call (HNH.out _ (Grown.ok _)))))
              refine wpQuiet_nil ?_
              intro w2 hw2
              have hR := grown_below hw2
              clear hw2
              go_wp2
              go_roundw
              case rel => exact ⟨k + 1, hlt, by go_num, HF, hBz.out.1.trans (hR.mono hBz.out.2)⟩
              case measure => simp [intOf]; omega
            · have HF : Hid (chainOk xs house = false) := Lib.hid (HBd.out (by rw [HG.out, decide_eq_false h3]; simp))
              subst h1 h2
              refine wp_region_grown (by kernel_rfl) (by kernel_rfl) ?_
              repeat (go_big_quiet_step (first | (go_at_call 94; exact grown_call (impl_HeadOk ⟨_, _, _, _⟩ _)) | (go_at_call 97; exact grown_call (HNH.out _ (Grown.ok _)))))
              refine wpQuiet_nil ?_
              intro w2 hw2
              have hR := grown_below hw2
              clear hw2
              go_wp2
              go_ret
              exact ⟨ret_bool (by rw [HF.out]), hBz.out.1.trans (hR.mono hBz.out.2)⟩
          · have HF : Hid (chainOk xs house = false) := Lib.hid (HBd.out (by rw [HG.out, decide_eq_false h2]; simp))
            subst h1
            refine wp_region_grown (by kernel_rfl) (by kernel_rfl) ?_
            repeat (go_big_quiet_step (first | (go_at_call 94; exact grown_call (impl_HeadOk ⟨_, _, _, _⟩ _)) | (go_at_call 97; exact grown_call (HNH.out _ (Grown.ok _)))))
            refine wpQuiet_nil ?_
            intro w2 hw2
            have hR := grown_below hw2
            clear hw2
            go_wp2
            go_ret
            exact ⟨ret_bool (by rw [HF.out]), hBz.out.1.trans (hR.mono hBz.out.2)⟩
        · have HF : Hid (chainOk xs house = false) := Lib.hid (HBd.out (by rw [HG.out, decide_eq_false h1]; simp))
          refine wp_region_grown (by kernel_rfl) (by kernel_rfl) ?_
          repeat (go_big_quiet_step (first | (go_at_call 94; exact grown_call (impl_HeadOk ⟨_, _, _, _⟩ _)) | (go_at_call 97; exact grown_call (HNH.out _ (Grown.ok _)))))
          refine wpQuiet_nil ?_
          intro w2 hw2
          have hR := grown_below hw2
          clear hw2
          go_wp2
          go_ret
          exact ⟨ret_bool (by rw [HF.out]), hBz.out.1.trans (hR.mono hBz.out.2)⟩
    · have hke : k = xs.length := by omega
      subst hke
      have HE := Lib.hid (chainOk_end hall.out)
      go_wp2
      go_ret
      exact ⟨ret_bool (by rw [HE.out]), hB⟩
end Go.Proofs.YthgonaodmpegfaaGreatDoor
