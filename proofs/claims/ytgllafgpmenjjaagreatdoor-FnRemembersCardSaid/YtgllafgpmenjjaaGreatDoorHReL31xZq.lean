/- A part of the proof: what the laws need of it. -/
import Derived.Test.YtgllafgpmenjjaaGreatDoorHReZp
import Derived.Test.YtgllafgpmenjjaaGreatDoorHReTy
import Derived.Deep.DeepCutAuto
import Derived.Test.YtgllafgpmenjjaaGreatDoorHReL20xSi
import Derived.Test.YtgllafgpmenjjaaGreatDoorHReL28xPh
import Derived.Test.YtgllafgpmenjjaaGreatDoorHReL11xDp
import Derived.Test.YtgllafgpmenjjaaGreatDoorHReL24xPu
import Derived.Test.YtgllafgpmenjjaaGreatDoorHReL21xPr
import Derived.Test.YtgllafgpmenjjaaGreatDoorHReL27xNz
set_option linter.unusedVariables false
set_option linter.unusedSimpArgs false
set_option linter.unusedVariables false
set_option linter.unusedSimpArgs false
namespace Go.Proofs.YtgllafgpmenjjaaGreatDoor
open Go.RowKit Lay Mk
theorem szL_bytes {m : Nat} : ∀ {l : List ByteArray}, (∀ s ∈ l, s.size ≤ m) → szL l ≤ l.length * (m + 1)
  | [], _ => by simp [szL]
  | s :: r, h => by
    have h1 := szL_bytes (l := r) (m := m) (fun x hx => h x (List.mem_cons_of_mem _ hx))
    have h2 := h s (List.mem_cons_self ..)
    have h3 : sz s = s.size := rfl
    simp only [szL, List.map_cons, List.sum_cons, List.length_cons, Nat.add_mul] at h1 ⊢
    omega
theorem nameOk_12 {s : ByteArray} (h : nameOk s = true) : s.size ≤ 12 := by
  unfold nameOk inB at h
  simp only [Bool.and_eq_true, decide_eq_true_eq] at h
  omega
theorem valueOk_12 {s : ByteArray} (h : valueOk s = true) : s.size ≤ 12 := by
  unfold valueOk inB at h
  simp only [Bool.and_eq_true, decide_eq_true_eq] at h
  omega
theorem leaf_24 {x : Leaf} (h : nameOk x.name = true ∧ valueOk x.value = true) : sz x ≤ 24 := by
  have h1 := nameOk_12 h.1
  have h2 := valueOk_12 h.2
  have h3 : sz x = x.name.size + x.value.size := rfl
  omega
theorem szL_leaves : ∀ {l : List Leaf}, (∀ x ∈ l, nameOk x.name = true ∧ valueOk x.value = true) → szL l ≤ l.length * 25
  | [], _ => by simp [szL]
  | s :: r, h => by
    have h1 := szL_leaves (l := r) (fun x hx => h x (List.mem_cons_of_mem _ hx))
    have h2 := leaf_24 (h s (List.mem_cons_self ..))
    simp only [szL, List.map_cons, List.sum_cons, List.length_cons] at h1 ⊢
    omega
theorem leaves_600 {l : List Leaf} (h : leavesOk l = true) : szL l ≤ 600 ∧ l.length ≤ 24 := by
  have h1 := szL_leaves (leavesOk_all h)
  have h2 := leavesOk_len h
  omega
theorem bytes_16 {l : List ByteArray} {k : Nat} (h : ∀ s ∈ l, s.size = 16) (hk : l.length ≤ k) : szL l ≤ 17 * k := by
  have h1 := szL_bytes (l := l) (m := 16) (fun s hs => by rw [h s hs]; exact Nat.le_refl _)
  omega
theorem wideOk_16 {l : List ByteArray} {k : Nat} (h : wideOk l k = true) : (∀ s ∈ l, s.size = 16) ∧ l.length = k := by
  unfold wideOk at h
  rw [Bool.and_eq_true, List.all_eq_true, decide_eq_true_eq] at h
  exact ⟨fun s hs => by simpa using h.1 s hs, h.2⟩
theorem sealOf_sz {seed : ByteArray} (hs : seed.size ≤ 100) {x : Head} (hx : headOk x = true) : (sealOf seed x).sz ≤ 400 := by
  have hf := sign_form hs (seal_at hx).2 (headHash x)
  unfold sigForm at hf
  simp only [Bool.and_eq_true] at hf
  obtain ⟨⟨⟨-, h1⟩, h2⟩, h3⟩ := hf
  obtain ⟨a1, b1⟩ := wideOk_16 h1
  obtain ⟨a2, b2⟩ := wideOk_16 h2
  obtain ⟨a3, b3⟩ := wideOk_16 h3
  have q1 := bytes_16 a1 (Nat.le_of_eq b1)
  have q2 := bytes_16 a2 (Nat.le_of_eq b2)
  have q3 := bytes_16 a3 (Nat.le_of_eq b3)
  have q4 := headOk_b hx
  show x.root.size + x.prev.size + (szL (signSig seed (x.epoch.toNat - 1) (headHash x)).open_ + szL (signSig seed (x.epoch.toNat - 1) (headHash x)).shut + szL (signSig seed (x.epoch.toNat - 1) (headHash x)).sides) ≤ 400
  omega
theorem pastHead_ok {house : Int} {hs : List Head} {l : List Leaf} (hh : 0 ≤ house ∧ house ≤ 2) (hc : chainOk hs house = true) (h3 : hs.length ≤ 3) : headOk (pastHead house hs l) = true := nextHead_ok hh hc h3 (node_16 _ _ _)
theorem pastWhole_sz {k house : Int} {name : ByteArray} {hs : List Head} {l : List Leaf} (hh : 0 ≤ house ∧ house ≤ 2) (hc : chainOk hs house = true) (h3 : hs.length ≤ 3) (hl : leavesOk l = true) : (pastWhole k house name hs l).sz ≤ 1500 := by
  have h1 := leaves_600 (leavesOk_filter hl (fun x => decide ((indexOf x.name : Int) = indexOf name)))
  have h2 := bytes_16 (k := 8) (sidesD_16 (indexOf name) l (8 - k.toNat)) (by rw [sidesD_len]; omega)
  have h4 := bytes_16 (k := 8) (l := (sidesD 16 (indexOf name) l 8).drop (8 - k.toNat)) (fun s hs => sidesD_16 _ _ _ s (List.mem_of_mem_drop hs)) (by rw [List.length_drop, sidesD_len]; omega)
  have h5 := sealOf_sz (seedOf_le house) (pastHead_ok (l := l) hh hc h3)
  have h6 : (pastWhole k house name hs l).sz = szL (bucketOf l (indexOf name)) + szL (sidesD 16 (indexOf name) l (8 - k.toNat)) + szL ((sidesD 16 (indexOf name) l 8).drop (8 - k.toNat)) + (sealOf (seedOf house) (pastHead house hs l)).sz + szL ([] : List Stamp) := rfl
  have h7 : szL ([] : List Stamp) = 0 := rfl
  have h8 : szL (bucketOf l (indexOf name)) ≤ 600 := h1.1
  rw [h6]
  omega
theorem made_sz {k house : Int} {name : ByteArray} {xs : List Whole} {hs : List Head} (h : Made k house name xs hs) (hh : 0 ≤ house ∧ house ≤ 2) {i : Nat} (hi : i < xs.length) : sz xs[i] ≤ 1500 := by
  have h2 : i < hs.length := by rw [h.len]; exact hi
  have hm := h.most
  obtain ⟨l, h4, h5, -⟩ := h.at_ i hi h2
  rw [h5]
  exact pastWhole_sz hh (chain_take h.chain i) (by rw [List.length_take]; omega) h4
theorem szL_each {α : Type} [Lay α] [Mk α] {m : Nat} : ∀ {l : List α}, (∀ s ∈ l, sz s ≤ m) → szL l ≤ l.length * (m + 1)
  | [], _ => by simp [szL]
  | s :: r, h => by
    have h1 := szL_each (l := r) (m := m) (fun x hx => h x (List.mem_cons_of_mem _ hx))
    have h2 := h s (List.mem_cons_self ..)
    simp only [szL, List.map_cons, List.sum_cons, List.length_cons, Nat.add_mul] at h1 ⊢
    omega
theorem trust_sz_past (k : Int) : (pastTrust k).sz ≤ 60 := by
  have h1 := bytes_16 (k := 3) pastRoots_16 (by decide)
  show szL pastRoots ≤ 60
  omega
end Go.Proofs.YtgllafgpmenjjaaGreatDoor

set_option linter.unusedVariables false
set_option linter.unusedSimpArgs false
namespace Go.Proofs.YtgllafgpmenjjaaGreatDoor
open Go.RowKit Lay Mk
theorem box4 (w : World) (a b c d : Value) (t : TypeId) : Below w.heap.size w (w.alloc (.cells #[a, b, c, d] t)) ∧ (w.alloc (.cells #[a, b, c, d] t)).heap.size = w.heap.size + 1 ∧ (w.alloc (.cells #[a, b, c, d] t)).heap[w.heap.size]? = some (.cells #[a, b, c, d] t (0, 0)) :=
  ⟨(Below.refl _ _).alloc (Nat.le_refl _) _, by simp, heap_alloc_new w _⟩
set_option maxRecDepth 20000 in set_option maxHeartbeats 8000000 in
theorem spec_NextHead_ok (w : World) (ys : List Head) (A : Option Addr) (cap : Nat) (S : Blks) (hx : Row false w A cap ys S) (hl : ys.length ≤ 3) (house : Int) (root : ByteArray) (hc : chainOk ys house = true) (ho : headOk (nextHead ys house root) = true) : Calls Tryz.prog 114 #[.slice A ys.length cap, .int .i64 house, .string root] w fun e w' => e = .returned (.tuple #[.agg (Head.cs (nextHead ys house root)).toArray, .bool true]) ∧ Below w.heap.size w w' := by
  have HC := Lib.hid (fun W (h : Below w.heap.size w W) => spec_ChainOk W ys A cap S (Row.later hx h) (by omega) house)
  have HO := Lib.hid (fun W => spec_HeadOk (nextHead ys house root) W)
  rw [hc] at HC
  rw [ho] at HO
  clear hc ho
  rcases Nat.eq_zero_or_pos ys.length with h0 | h0
  · have HN : Hid (nextHead ys house root = ⟨house, 1, root, ⟨#[]⟩⟩) := Lib.hid (by unfold nextHead; rw [lastHash_nil h0, h0]; rfl)
    rw [HN.out] at HO ⊢
    rw [h0] at HC ⊢
    clear hx HN hl
    simp only [Head.cs] at HO ⊢
    go_enter Tryz.func114, Tryz.ntmps114
    go_wp2_with (fail)
    obtain ⟨W1, hW1⟩ : ∃ W, w.alloc (.cells #[.int .i64 0, .int .i64 0, .string ⟨#[]⟩, .string ⟨#[]⟩] 58) = W := ⟨_, rfl⟩
    obtain ⟨b1, s1, y1⟩ := box4 w (.int .i64 0) (.int .i64 0) (.string ⟨#[]⟩) (.string ⟨#[]⟩) 58
    rw [hW1] at b1 s1 y1 ⊢
    obtain ⟨W2, hW2⟩ : ∃ W, W1.alloc (.cells #[.int .i64 house, .int .i64 1, .string root, .string ⟨#[]⟩] 58) = W := ⟨_, rfl⟩
    obtain ⟨b2, s2, y2⟩ := box4 W1 (.int .i64 house) (.int .i64 1) (.string root) (.string ⟨#[]⟩) 58
    rw [hW2] at b2 s2 y2 ⊢
    clear hW1 hW2
    have y1 := (b2.block w.heap.size (by omega)).trans y1
    have bW := b1.trans (b2.mono (by omega))
    clear b1 b2
    rw [s1] at y2
    refine (HC.out W2 bW).mono ?_
    rintro e1 w1 ⟨rfl, hb1⟩
    have y1 := (hb1.block w.heap.size (by omega)).trans y1
    have y2 := (hb1.block (w.heap.size + 1) (by omega)).trans y2
    have bW := bW.trans (hb1.mono (by omega))
    have z1 := hb1.size
    have d0 := box_at (i := 0) y2 rfl
    have d1 := box_at (i := 1) y2 rfl
    have d2 := box_at (i := 2) y2 rfl
    have d3 := box_at (i := 3) y2 rfl
    have df := box_fz y2
    clear hb1
    go_wp2_with (fail)
    refine (HO.out w1).mono ?_
    rintro e2 w2 ⟨rfl, hb2⟩
    have y1 := (hb2.block w.heap.size (by omega)).trans y1
    have y2 := (hb2.block (w.heap.size + 1) (by omega)).trans y2
    have bW := bW.trans (hb2.mono (by omega))
    have z2 := hb2.size
    clear d0 d1 d2 d3 df hb2
    have d0 := box_at (i := 0) y2 rfl
    have d1 := box_at (i := 1) y2 rfl
    have d2 := box_at (i := 2) y2 rfl
    have d3 := box_at (i := 3) y2 rfl
    have df := box_fz y2
    have c0 := box_at (i := 0) y1 rfl
    have c1 := box_at (i := 1) y1 rfl
    have c2 := box_at (i := 2) y1 rfl
    have c3 := box_at (i := 3) y1 rfl
    have cf := box_fz y1
    clear y1 y2 HC HO
    go_wp2
    refine bodyPost_ret (v := .tuple #[.agg #[.int .i64 house, .int .i64 1, .string root, .string ⟨#[]⟩], .bool true]) (by simp [results, Tryz.results114, go_sem, *]) rfl ⟨rfl, by ((repeat (first | exact bW | with_reducible refine Below.setCell ?_ ?_ _)); all_goals (first | with_reducible exact Nat.le_refl _ | omega | (simp; done) | (simp; omega)))⟩
  · obtain ⟨k, hk⟩ : ∃ k, ys.length = k + 1 := ⟨ys.length - 1, by omega⟩
    have hkl : k < ys.length := by omega
    have HN : Hid (nextHead ys house root = ⟨house, (k : Int) + 1 + 1, root, headHash ys[k]⟩) := Lib.hid (by unfold nextHead; rw [lastHash_at hk]; congr 1; omega)
    rw [HN.out] at HO ⊢
    clear HN
    obtain ⟨b1, o1, rfl, hl1, f0, f1, f2, f3, -, -, -, -⟩ := Row.atHead hx hkl
    obtain ⟨y, hy⟩ : ∃ y, ys[k] = y := ⟨_, rfl⟩
    rw [hy] at f0 f1 f2 f3 HO ⊢
    clear hy hx h0
    have hk3 : k ≤ 2 := by omega
    rw [hk] at HC ⊢
    clear hl hk hkl
    obtain ⟨hh, hhe⟩ : ∃ h, headHash y = h := ⟨_, rfl⟩
    have HHH := Lib.hid (fun W => spec_HeadHash y W)
    rw [hhe] at HO HHH ⊢
    clear hhe
    simp only [Head.cs] at HO HHH ⊢
    have hk2 : IntKind.i64.wrap ((k : Int) + 1 - 1) = k := by rw [IntWalk.i64_in] <;> omega
    have hk4 : (k : Int) + 1 - 1 = k := by omega
    have hkp : (0 : Int) < (k : Int) + 1 := by omega
    go_enter Tryz.func114, Tryz.ntmps114
    go_wp2_with (fail)
    obtain ⟨W1, hW1⟩ : ∃ W, w.alloc (.cells #[.int .i64 0, .int .i64 0, .string ⟨#[]⟩, .string ⟨#[]⟩] 58) = W := ⟨_, rfl⟩
    obtain ⟨bb1, s1, y1⟩ := box4 w (.int .i64 0) (.int .i64 0) (.string ⟨#[]⟩) (.string ⟨#[]⟩) 58
    rw [hW1] at bb1 s1 y1 ⊢
    obtain ⟨W2, hW2⟩ : ∃ W, W1.alloc (.cells #[.int .i64 house, .int .i64 ((k : Int) + 1 + 1), .string root, .string ⟨#[]⟩] 58) = W := ⟨_, rfl⟩
    obtain ⟨bb2, s2, y2⟩ := box4 W1 (.int .i64 house) (.int .i64 ((k : Int) + 1 + 1)) (.string root) (.string ⟨#[]⟩) 58
    rw [hW2] at bb2 s2 y2 ⊢
    clear hW1 hW2
    have y1 := (bb2.block w.heap.size (by omega)).trans y1
    have bW := bb1.trans (bb2.mono (by omega))
    clear bb1 bb2
    rw [s1] at y2
    refine (HHH.out W2).mono ?_
    rintro e1 w1 ⟨rfl, hb1⟩
    have y1 := (hb1.block w.heap.size (by omega)).trans y1
    have y2 := (hb1.block (w.heap.size + 1) (by omega)).trans y2
    have bW := bW.trans (hb1.mono (by omega))
    have z1 := hb1.size
    have d0 := box_at (i := 0) y2 rfl
    have d1 := box_at (i := 1) y2 rfl
    have d2 := box_at (i := 2) y2 rfl
    have d3 := box_at (i := 3) y2 rfl
    have df := box_fz y2
    have h1s : w1.heap.size = w1.heap.size := rfl
    clear hb1
    go_wp2_with (fail)
    obtain ⟨w3, hw3⟩ : ∃ W, w1.setCell ⟨w.heap.size + 1, 3, none⟩ (.string hh) = W := ⟨_, rfl⟩
    have hw3f : w3.heap[w.heap.size + 1]? = some (.cells #[.int .i64 house, .int .i64 ((k : Int) + 1 + 1), .string root, .string hh] 58 (0, 0)) ∧ w3.heap.size = w1.heap.size ∧ Below w.heap.size w w3 ∧ w3.heap[w.heap.size]? = some (.cells #[.int .i64 0, .int .i64 0, .string ⟨#[]⟩, .string ⟨#[]⟩] 58 (0, 0)) := by
      rw [← hw3]
      refine ⟨?_, by simp, Below.setCell bW (by show w.heap.size ≤ w.heap.size + 1; omega) _, ?_⟩
      · simp only [World.setCell, Array.getElem?_modify, y2]; simp
      · simp only [World.setCell, Array.getElem?_modify, y1]; simp
    rw [hw3]
    clear hw3 y1 y2 bW d0 d1 d2 d3 df
    obtain ⟨y2, s3, bW, y1⟩ := hw3f
    refine (HC.out w3 bW).mono ?_
    rintro e4 w4 ⟨rfl, hb4⟩
    have y1 := (hb4.block w.heap.size (by omega)).trans y1
    have y2 := (hb4.block (w.heap.size + 1) (by omega)).trans y2
    have bW := bW.trans (hb4.mono (by omega))
    have z4 := hb4.size
    have d0 := box_at (i := 0) y2 rfl
    have d1 := box_at (i := 1) y2 rfl
    have d2 := box_at (i := 2) y2 rfl
    have d3 := box_at (i := 3) y2 rfl
    have df := box_fz y2
    clear hb4
    go_wp2_with (fail)
    refine (HO.out w4).mono ?_
    rintro e5 w5 ⟨rfl, hb5⟩
    have y1 := (hb5.block w.heap.size (by omega)).trans y1
    have y2 := (hb5.block (w.heap.size + 1) (by omega)).trans y2
    have bW := bW.trans (hb5.mono (by omega))
    have z5 := hb5.size
    clear d0 d1 d2 d3 df hb5
    have d0 := box_at (i := 0) y2 rfl
    have d1 := box_at (i := 1) y2 rfl
    have d2 := box_at (i := 2) y2 rfl
    have d3 := box_at (i := 3) y2 rfl
    have df := box_fz y2
    have c0 := box_at (i := 0) y1 rfl
    have c1 := box_at (i := 1) y1 rfl
    have c2 := box_at (i := 2) y1 rfl
    have c3 := box_at (i := 3) y1 rfl
    have cf := box_fz y1
    clear y1 y2 HC HO HHH f0 f1 f2 f3
    go_wp2
    refine bodyPost_ret (v := .tuple #[.agg #[.int .i64 house, .int .i64 ((k : Int) + 1 + 1), .string root, .string hh], .bool true]) (by simp [results, Tryz.results114, go_sem, *]) rfl ⟨rfl, by ((repeat (first | exact bW | with_reducible refine Below.setCell ?_ ?_ _)); all_goals (first | with_reducible exact Nat.le_refl _ | omega | (simp; done) | (simp; omega)))⟩
set_option maxRecDepth 20000 in set_option maxHeartbeats 4000000 in
theorem spec_RootOf_ok (w : World) (xs : List Leaf) (A : Option Addr) (cap : Nat) (S : Blks) (hx : Row false w A cap xs S) (hok : leavesOk xs = true) (hz : szL xs ≤ 600) : Calls Tryz.prog 115 #[.slice A xs.length cap, .int .i64 16] w fun e w' => e = .returned (.string (nodeD 16 8 0 xs)) ∧ Below w.heap.size w w' := by
  have h24 := leavesOk_len hok
  have HN : Hid (nodeHash xs 0 0 16 = nodeD 16 8 0 xs) := Lib.hid (by unfold nodeHash; rw [hok]; rfl)
  have HR := Lib.hid (fun W (h : Below w.heap.size w W) => spec_NodeHash0 W xs A cap S (Row.later hx h) (by omega) (by omega) 0)
  rw [HN.out] at HR
  clear HN hx hok
  go_enter Tryz.func115, Tryz.ntmps115
  go_wp2_with (fail)
  refine (HR.out w (Below.refl _ _)).mono ?_
  rintro e1 w1 ⟨rfl, hb⟩
  go_wp2
  go_ret
  exact ⟨rfl, hb⟩
end Go.Proofs.YtgllafgpmenjjaaGreatDoor

set_option linter.unusedVariables false
set_option linter.unusedSimpArgs false
namespace Go.Proofs.YtgllafgpmenjjaaGreatDoor
open Go.RowKit Lay Mk
instance slStrS : SlTy (List ByteArray) := ⟨160⟩
instance inf_StrS : Inf (List ByteArray) := ⟨⟨.slice none 0 0, 24, by kernel_rfl, rfl, by decide⟩, by kernel_rfl⟩
def poolsTo (k : Nat) : List (List ByteArray) := (List.range k).map (fun i : Nat => poolOf (seedOf (i : Int)))
def rootsTo (k : Nat) : List ByteArray := (List.range k).map (fun i : Nat => poolRoot (poolOf (seedOf (i : Int))))
theorem poolsTo_snoc (k : Nat) : poolsTo (k + 1) = poolsTo k ++ [poolOf (seedOf (k : Int))] := by simp [poolsTo, List.range_succ]
theorem rootsTo_snoc (k : Nat) : rootsTo (k + 1) = rootsTo k ++ [poolRoot (poolOf (seedOf (k : Int)))] := by simp [rootsTo, List.range_succ]
theorem poolsTo_len (k : Nat) : (poolsTo k).length = k := by simp [poolsTo]
theorem rootsTo_len (k : Nat) : (rootsTo k).length = k := by simp [rootsTo]
theorem map_three (f : Int → ByteArray) : (List.range 3).map (fun i : Nat => f (i : Int)) = three f := rfl
theorem rootsTo_3 : rootsTo 3 = pastRoots := map_three (fun i => poolRoot (poolOf (seedOf i)))
theorem poolOf_len (s : ByteArray) : (poolOf s).length = 16 := poolTo_len s 16
theorem wpList_twoN {α β : Type} [Lay α] [SlTy α] [Inf α] [Lay β] {ops : Array Oper} {rest : List Oper} {o : Oper} {a : Act} {Q : Exit → Act → World → Prop} {w1 w : World} {B : Nat} (hgd : o.guard = none) (s x : Operand)
    (ho : o.op = .call { callee := .builtin .append, args := #[s, x], argTypes := #[SlTy.st α, SlTy.st α] })
    {A A' : Option Addr} {c c' c2 k b : Nat} {L : List α} {M : List β} {y : α} {T : Blks} {cs : Array Value} {t : TypeId} (hs : a.eval s = .slice A k c) (hk : k = L.length) (two : Two B w1 A c L A' c' M) (hBw : B ≤ w1.heap.size) (hb : Below w1.heap.size w1 w)
    (hy : rd true w cs.toList y T) (hT : ∀ b, T b → w1.heap.size ≤ b) (hx : a.eval x = .slice (some ⟨b, 0, none⟩) 1 c2) (hbb : b = w.heap.size) (hlim : k ≤ 2000000000)
    (h : ∀ A3 c3 w', Two B w' A3 c3 (L ++ [y]) A' c' M → Below B w w' → w.heap.size < w'.heap.size → wpList Tryz.prog ops Q rest (a.put o.dst (.slice A3 (k + 1) c3)) w') :
    wpList Tryz.prog ops Q (o :: rest) a (w.alloc (.cells cs t)) := by
  subst hk
  obtain ⟨U, V, h1, h2, h3, h4, h5⟩ := two.ex
  have hbw : Below w1.heap.size w1 (w.alloc (.cells cs t)) := hb.alloc hb.size _
  have h7 := hb.size
  refine wpList_app (α := α) hgd s x ho hs rfl (Row.later h1.tight hbw) two.l1 two.m1 hx rfl (srcR w y cs t b hbb hy) (fun q x1 x2 => ?_) (by simp; omega) ?_
  · have h8 := hT q x2.1
    have h9 := x1.2
    omega
  intro A3 c3 w' q1 q2 q3 q4
  have h8 := q4.size
  rw [World.size_alloc] at h8
  refine h A3 c3 w' ⟨⟨_, _, q3, Row.chgS q4 (Row.later h2.tight hbw) (fun b x _ y => h3 b y.1 x.1), ?_, ?_, fun b x => h5 b x.1⟩, by rw [List.length_append]; exact q1, q2, two.l2, two.m2⟩ ?_ (by omega)
  · rintro b (x | x | x) y
    · exact h3 b x.1 y.1
    · have := hT b x.1; have := y.2; omega
    · have := x.1; have := y.2; rw [World.size_alloc] at *; omega
  · rintro b (x | x | x)
    · exact h4 b x.1
    · have := hT b x.1; omega
    · have := x.1; rw [World.size_alloc] at *; omega
  · exact ((Below.refl _ _).alloc (by omega) _).trans (q4.to_below (by rw [World.size_alloc]; omega) (fun q hq => h4 q hq.1))
theorem two_lits {α β : Type} [Lay α] [Lay β] (w : World) (t1 t2 : TypeId) (h1 : t1 = ty α) (h2 : t2 = ty β) : Two (α := α) (β := β) w.heap.size ((w.alloc (.cells #[] t1)).alloc (.cells #[] t2)) (some ⟨w.heap.size, 0, none⟩) 0 [] (some ⟨w.heap.size + 1, 0, none⟩) 0 [] := by
  refine ⟨⟨fun b => b = w.heap.size, fun b => b = w.heap.size + 1, Row.later (row_lit0 w t1 _ h1 rfl) ((Below.refl _ _).alloc (Nat.le_refl _) _), ?_, fun b x y => by have x : b = _ := x; have y : b = _ := y; omega, fun b x => by have x : b = _ := x; omega, fun b x => by have x : b = _ := x; omega⟩, Nat.le_refl _, by decide, Nat.le_refl _, by decide⟩
  have := row_lit0 (α := β) (w.alloc (.cells #[] t1)) t2 (fun b => b = w.heap.size + 1) h2 (by simp)
  rw [World.size_alloc] at this
  exact this
theorem Row.listS {α : Type} [Lay α] [SlTy α] {m : Bool} {w : World} {A : Option Addr} {cap : Nat} {xs : List (List α)} {S : Blks} (h : Row m w A cap xs S) {i : Nat} (hi : i < xs.length) :
    ∃ b off A2 c2 T, A = some ⟨b, off, none⟩ ∧ b < w.heap.size ∧ w.cell? ⟨b, off + i, none⟩ = some (.slice A2 xs[i].length c2) ∧ xs[i].length ≤ c2 ∧ c2 ≤ maxLen ∧ Row m w A2 c2 xs[i] T ∧ sub T S := by
  obtain ⟨b, off, cs, T, e, hb, ha, hr, hs, _⟩ := Row.at_ h hi
  obtain ⟨A2, c2, rfl, h1, h2, h3⟩ := open_list hr
  have := ha 0 _ rfl
  exact ⟨b, off, A2, c2, T, e, hb, by simpa [show n (List α) = 1 from rfl] using this, h1, h2, h3, hs⟩
theorem Two.last {α β : Type} [Lay α] [SlTy α] [Lay β] {B : Nat} {w : World} {A A' : Option Addr} {c c' k : Nat} {L : List (List α)} {y : List α} {M : List β} (h : Two B w A c (L ++ [y]) A' c' M) (hk : L.length = k) :
    ∃ b off A2 c2 T, A = some ⟨b, off, none⟩ ∧ b < w.heap.size ∧ w.cell? ⟨b, off + k, none⟩ = some (.slice A2 y.length c2) ∧ Row false w A2 c2 y T := by
  subst hk
  obtain ⟨b, off, A2, c2, T, e, h1, h2, h3, h4, h5, h6⟩ := Row.listS h.fst (i := L.length) (by simp)
  rw [List.getElem_append_right (Nat.le_refl _)] at h2 h5
  simp only [Nat.sub_self, List.getElem_cons_zero] at h2 h5
  exact ⟨b, off, A2, c2, T, e, h1, h2, h5⟩
theorem src_newB {α : Type} [Lay α] [Flat α] (w : World) (b : Nat) (hb : b = w.heap.size) (y : α) (ok : Flat.ok y) (cs : Array Value) (t : TypeId) (h : cs.toList = Flat.cs y) : Src (w.alloc (.cells cs t)) (some ⟨b, 0, none⟩) [y] none_ := by
  subst hb; exact src_new w y ok cs t h
set_option maxRecDepth 20000 in set_option maxHeartbeats 4000000 in
theorem spec_l22Roots (w : World) : Calls Tryz.prog 111 #[] w fun e w' => ∃ A1 c1 A2 c2, e = .returned (.tuple #[.slice A1 3 c1, .slice A2 3 c2]) ∧ 3 ≤ c1 ∧ c1 ≤ maxLen ∧ Row false w' A1 c1 pastRoots (nw w.heap.size) ∧ Row false w' A2 c2 (poolsTo 3) (nw w.heap.size) ∧ Below w.heap.size w w' := by
  go_enter Tryz.func111, Tryz.ntmps111
  go_wp2
  go_loopw [2, 3, 4] (fun u v i wr => ∃ (k : Nat) (R : List ByteArray) (P : List (List ByteArray)) (A1 : Option Addr) (c1 : Nat) (A2 : Option Addr) (c2 : Nat), k ≤ 3 ∧ i = .int .i64 k ∧ u = .slice A1 k c1 ∧ v = .slice A2 k c2 ∧ Hid (R = rootsTo k ∧ P = poolsTo k) ∧ Hid (Two w.heap.size wr A1 c1 R A2 c2 P) ∧ Hid (Below w.heap.size w wr)) (fun _ _ i _ => 3 - (intOf i).toNat)
  case atStart => exact ⟨0, [], [], _, 0, _, 0, by omega, rfl, rfl, by first | rfl | simp, Lib.hid ⟨rfl, rfl⟩, Lib.hid (two_lits w _ _ rfl rfl), Lib.hid (((Below.refl _ _).alloc (Nat.le_refl _) _).alloc (by simp) _)⟩
  case round =>
    obtain ⟨k, R, P, A1, c1, A2, c2, hk, rfl, rfl, rfl, HE, HT, HB⟩ := hrel
    have hz := HB.out.size
    by_cases hlt : k < 3
    · have hd : decide ((k : Int) < 3) = true := decide_eq_true (by omega)
      have HR1 : Hid (R.length = k ∧ P.length = k) := Lib.hid ⟨by rw [HE.out.1, rootsTo_len], by rw [HE.out.2, poolsTo_len]⟩
      have HS := Lib.hid (show R ++ [poolRoot (poolOf (seedOf (k : Int)))] = rootsTo (k + 1) ∧ P ++ [poolOf (seedOf (k : Int))] = poolsTo (k + 1) from ⟨by rw [HE.out.1, rootsTo_snoc], by rw [HE.out.2, poolsTo_snoc]⟩)
      have hsl := seedOf_le (k : Int)
      have HSD := Lib.hid (fun W => spec_SeedOf W (k : Int) (by unfold I64; omega))
      have hp16 := poolOf_len (seedOf (k : Int))
      obtain ⟨sd, hsd⟩ : ∃ s, seedOf (k : Int) = s := ⟨_, rfl⟩
      rw [hsd] at HS hsl HSD hp16
      clear hsd HE
      have HPO := Lib.hid (fun W => spec_PoolOf W sd (by unfold maxLen; omega))
      have hrt := poolRoot_size sd
      obtain ⟨pl, hpl⟩ : ∃ p, poolOf sd = p := ⟨_, rfl⟩
      rw [hpl] at HS HPO hp16 hrt
      clear hpl
      obtain ⟨rt, hrt2⟩ : ∃ r, poolRoot pl = r := ⟨_, rfl⟩
      have HPR := Lib.hid (fun (W : World) (A : Option Addr) (c : Nat) (S : Blks) (h : Row false W A c pl S) => spec_PoolRoot W pl A c S h (by omega))
      rw [hrt2] at HS HPR hrt
      have HL16 := Lib.hid hp16
      clear hrt2 hp16
      go_wp2_with (fail)
      refine (HSD.out wr).mono ?_
      rintro e1 w1 ⟨rfl, hb1⟩
      go_wp2_with (fail)
      refine (HPO.out w1).mono ?_
      rintro e2 w2 ⟨A3, c3, rfl, o3⟩
      have hb2 : Below wr.heap.size wr w2 := hb1.trans (o3.bl.mono hb1.size)
      have HY := Lib.hid (show rd true w2 [.slice A3 pl.length c3] pl (nw w1.heap.size) from ⟨A3, c3, rfl, o3.le, o3.cm, o3.row⟩)
      have hz1 := hb1.size
      have HB2 := Lib.hid hb2
      have hz2 := hb2.size
      clear hb1 o3 hb2
      go_wp2_with (at_builtin; refine wpList_twoN (α := List ByteArray) (w1 := wr) rfl _ _ rfl rfl HR1.out.2.symm (Two.swap HT.out) hz HB2.out HY.out (fun b h => Nat.le_trans hz1 h) rfl (by first | rfl | simp) (by omega) ?_; intro A6 c6 w6 t6 hb6 hz6; have HT6 := Lib.hid t6; have HB6 := Lib.hid ((HB.out.trans (HB2.out.mono hz)).trans hb6); obtain ⟨b7, o7, A7, c7, T7, rfl, hl7, f7, r7⟩ := t6.last HR1.out.2; have HR7 := Lib.hid r7; clear t6 hb6 r7)
      refine (HPR.out w6 A7 c7 _ HR7.out).mono ?_
      rintro e8 w8 ⟨rfl, hb8⟩
      have HB8 := Lib.hid (HB6.out.trans (hb8.mono (by have := HB6.out.size; omega)))
      have HT8 := Lib.hid (Two.later HT6.out hb8)
      have hz8 := hb8.size
      clear hb8 f7 HR7 HT6 HB6
      go_wp2_with (at_builtin; refine wpList_two (α := ByteArray) rfl _ _ rfl rfl HR1.out.1.symm (Two.later HT8.out.swap ((Below.refl _ _).alloc (Nat.le_refl _) _)) (by simp; omega) rfl rfl (src_newB _ _ (by first | rfl | simp) rt (show rt.size ≤ maxLen by unfold maxLen; omega) _ _ rfl) (by simp; omega) ?_; intro A9 c9 w9 t9 hb9 hz9; have HT9 := Lib.hid t9; have HB9 := Lib.hid ((HB8.out.alloc (by omega) _).trans hb9); clear t9 hb9)
      go_roundw
      case rel => exact ⟨k + 1, R ++ [rt], P ++ [pl], A9, c9, _, c6, by omega, by go_num, rfl, rfl, Lib.hid HS.out, HT9, HB9⟩
      case measure => simp [intOf]; omega
    · have hke : k = 3 := by omega
      subst hke
      have hd : decide (((3 : Nat) : Int) < 3) = false := by decide
      go_wp2
      refine bodyPost_ret (v := .tuple #[.slice A1 3 c1, .slice A2 3 c2]) (by simp [results, Tryz.results111, go_sem, *]) rfl ?_
      refine ⟨A1, c1, A2, c2, rfl, ?_, HT.out.m1, ?_, ?_, HB.out⟩
      · have := HT.out.l1; rw [HE.out.1, rootsTo_len] at this; exact this
      · have := HT.out.fst; rw [HE.out.1, rootsTo_3] at this; exact this
      · have := HT.out.swap.fst; rw [HE.out.2] at this; exact this
end Go.Proofs.YtgllafgpmenjjaaGreatDoor
