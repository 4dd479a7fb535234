/- Are a provider's views those of its changes: what is computed. -/
import Derived.Test.YtaoefbkfccnenaaMr
import Derived.Test.YtaoefbkfccnenaaLa
set_option linter.unusedVariables false
set_option linter.unusedSimpArgs false
namespace Go.Proofs.Ytaoefbkfccnenaa
open Go.RowKit Lay Mk
theorem row_take {α : Type} [Lay α] {w : World} {A : Option Addr} {cap : Nat} {xs : List α} {S : Blks} (h : Row false w A cap xs S) (cap' k : Nat) : Row false w A cap' (xs.take k) S := by
  intro hx
  obtain ⟨b, off, e, hS, T, h1, h2, h3⟩ := h (by rintro rfl; simp at hx)
  refine ⟨b, off, e, hS, T, h1, h2, fun i hi => ?_⟩
  have hi' : i < xs.length := by simp at hi; omega
  obtain ⟨cs, h4, h5⟩ := h3 i hi'
  exact ⟨cs, h4, by rw [List.getElem_take]; exact h5⟩
theorem szL_take_le {α : Type} [Lay α] [Mk α] (xs : List α) (k : Nat) : szL (xs.take k) ≤ szL xs := by
  unfold szL
  rw [List.map_take]
  have := sum_take_le (xs.map sz) k
  have : (xs.take k).length ≤ xs.length := by simp; omega
  omega
def prevT (x : Server) (e : Nat) : Int := match e with
  | 0 => 0
  | j + 1 => x.taken.getD j 0
def stepR (x : Server) (e : Nat) : Bool := decide (prevT x e ≤ x.taken.getD e 0) && decide (x.taken.getD e 0 ≤ x.all.length) && decide (x.views.getD e [] = applyAll [] (x.all.take (x.taken.getD e 0).toNat))
def serverR (x : Server) : Bool := decide (x.taken.length = x.views.length) && decide (x.taken.length ≠ 0) && allN x.taken.length (stepR x)
def servR (xs : List Server) (k : Nat) : Bool := match xs[k]? with
  | none => false
  | some x => serverR x
def modelRight (h : House) : Bool := allN h.servers.length (servR h.servers)
theorem servR_at {xs : List Server} {k : Nat} (h : k < xs.length) : servR xs k = serverR xs[k] := by unfold servR; rw [List.getElem?_eq_getElem h]
theorem modelRight_bad {h : House} {k : Nat} (hk : k < h.servers.length) (hp : servR h.servers k = false) : modelRight h = false := allN_bad hk hp
theorem modelRight_end {h : House} (hp : ∀ k, k < h.servers.length → servR h.servers k = true) : modelRight h = true := allN_end hp
theorem serverR_bad {x : Server} {e : Nat} (h : e < x.taken.length) (hp : stepR x e = false) : serverR x = false := by unfold serverR; rw [allN_bad h hp]; simp
theorem serverR_end {x : Server} (h1 : x.taken.length = x.views.length) (h2 : x.taken.length ≠ 0) (hp : ∀ k, k < x.taken.length → stepR x k = true) : serverR x = true := by
  unfold serverR; rw [allN_end hp, decide_eq_true h1, decide_eq_true h2]; rfl
theorem serverR_len {x : Server} (h1 : ¬ x.taken.length = x.views.length) : serverR x = false := by unfold serverR; rw [decide_eq_false h1]; rfl
theorem serverR_nil {x : Server} (h1 : x.taken.length = 0) : serverR x = false := by unfold serverR; rw [decide_eq_false (p := x.taken.length ≠ 0) (fun h => h h1)]; simp
theorem prevT_nonneg {x : Server} : ∀ (e : Nat), (∀ j, j < e → stepR x j = true) → 0 ≤ prevT x e
  | 0, _ => Int.le_refl _
  | e + 1, h => by
    have h1 := prevT_nonneg e (fun j hj => h j (by omega))
    have h2 := h e (by omega)
    simp only [stepR, Bool.and_eq_true, decide_eq_true_eq] at h2
    show 0 ≤ x.taken.getD e 0
    omega
theorem stepR_in {x : Server} {e : Nat} (h : ¬ (prevT x e ≤ x.taken.getD e 0 ∧ x.taken.getD e 0 ≤ x.all.length)) : stepR x e = false := by
  unfold stepR
  by_cases h1 : prevT x e ≤ x.taken.getD e 0
  · rw [decide_eq_false (p := x.taken.getD e 0 ≤ x.all.length) (fun h2 => h ⟨h1, h2⟩)]; simp
  · rw [decide_eq_false h1]; rfl
theorem stepR_go {x : Server} {e : Nat} (h1 : prevT x e ≤ x.taken.getD e 0) (h2 : x.taken.getD e 0 ≤ x.all.length) : stepR x e = decide (x.views.getD e [] = applyAll [] (x.all.take (x.taken.getD e 0).toNat)) := by
  unfold stepR; rw [decide_eq_true h1, decide_eq_true h2]; rfl
theorem house_server {h : House} (hz : h.sz ≤ 1048576) {k : Nat} (hk : k < h.servers.length) : h.servers[k].sz ≤ 1048576 := by
  have h1 : szL h.servers ≤ h.sz := by simp only [House.sz]; omega
  have := sz_le_L h.servers k hk
  have e : Mk.sz h.servers[k] = h.servers[k].sz := rfl
  omega
theorem house_servers {h : House} (hz : h.sz ≤ 1048576) : h.servers.length ≤ 1048576 := by
  have h1 : szL h.servers ≤ h.sz := by simp only [House.sz]; omega
  have := szT_le h.servers 0
  omega
theorem server_lens {x : Server} (hz : x.sz ≤ 1048576) : x.views.length ≤ 1048576 ∧ x.taken.length ≤ 1048576 ∧ szL x.all ≤ 1048576 ∧ x.all.length ≤ 1048576 ∧ szL x.views ≤ 1048576 := by
  simp only [Server.sz] at hz
  have := szT_le x.views 0
  have := szT_le x.taken 0
  have := szT_le x.all 0
  omega
theorem views_el {x : Server} (hz : x.sz ≤ 1048576) {e : Nat} (h : e < x.views.length) : (x.views[e]).length ≤ 1048576 := by
  have h1 := (server_lens hz).2.2.2.2
  have h2 := sz_le_L x.views e h
  have h3 : Mk.sz (x.views[e]) = szL (x.views[e]) := rfl
  have := szT_le (x.views[e]) 0
  omega
theorem impl_AllTake (w : World) (us : List Change) (Au : Option Addr) (capu : Nat) (Su : Blks) (hu : Row false w Au capu us Su) (hle : us.length ≤ capu) (hcmu : capu ≤ maxLen) (hzu : szL us ≤ 1048576) (k : Nat) (hk : k ≤ us.length) : Calls Try.prog 22 #[.slice none 0 0, .slice Au k capu] w fun e w' => ∃ A' cap', e = .returned (.slice A' (applyAll [] (us.take k)).length cap') ∧ Row true w' A' cap' (applyAll [] (us.take k)) (rng w.heap.size w'.heap.size) ∧ Below w.heap.size w w' := by
  have hlk : (us.take k).length = k := by simp; omega
  have h := impl_ApplyAll w [] none 0 none_ (Row.weak (row_nil _ _)) (by simp) (by decide) (by simp [szL]) (us.take k) Au capu Su (row_take hu _ _) (by rw [hlk]; omega) hcmu (Nat.le_trans (szL_take_le _ _) hzu)
  rw [hlk] at h
  exact h.mono (fun e w' ⟨A', cap', h1, _, _, h4, h5⟩ => ⟨A', cap', h1, h4, h5⟩)
theorem spec_AllTake (w : World) (A0 : Option Addr) (cap0 : Nat) (S : Blks) (hx : Row false w A0 cap0 ([] : List Leaf) S) (hcm : cap0 ≤ maxLen) (us : List Change) (Au : Option Addr) (capu : Nat) (Su : Blks) (hu : Row false w Au capu us Su) (hle : us.length ≤ capu) (hcmu : capu ≤ maxLen) (hzu : szL us ≤ 1048576) (k : Nat) (hk : k ≤ us.length) : Calls Try.prog 15 #[.slice A0 0 cap0, .slice Au k capu] w fun e w' => ∃ A' cap', e = .returned (.slice A' (applyAll [] (us.take k)).length cap') ∧ Row true w' A' cap' (applyAll [] (us.take k)) (rng w.heap.size w'.heap.size) ∧ Below w.heap.size w w' := by
  have hlk : (us.take k).length = k := by simp; omega
  have h := spec_ApplyAll w [] A0 cap0 S hx (by simp) hcm (by simp [szL]) (us.take k) Au capu Su (row_take hu _ _) (by rw [hlk]; omega) hcmu (Nat.le_trans (szL_take_le _ _) hzu)
  rw [hlk] at h
  exact h.mono (fun e w' ⟨A', cap', h1, _, _, h4, h5⟩ => ⟨A', cap', h1, h4, h5⟩)
/-- an element that is itself a list: its slice lies in one cell -/
theorem Row.list {α : Type} [Lay α] [SlTy α] {m : Bool} {w : World} {A : Option Addr} {cap : Nat} {xs : List (List α)} {S : Blks} (h : Row m w A cap xs S) {i : Nat} (hi : i < xs.length) :
    ∃ b off A2 c2 T, A = some ⟨b, off, none⟩ ∧ b < w.heap.size ∧ w.cell? ⟨b, off + i, none⟩ = some (.slice A2 xs[i].length c2) ∧ xs[i].length ≤ c2 ∧ c2 ≤ maxLen ∧ Row m w A2 c2 xs[i] T := by
  obtain ⟨b, off, cs, T, e, hb, ha, hr, _, _⟩ := Row.at_ h hi
  obtain ⟨A2, c2, rfl, h1, h2, h3⟩ := open_list hr
  have := ha 0 _ rfl
  exact ⟨b, off, A2, c2, T, e, hb, by simpa [show n (List α) = 1 from rfl] using this, h1, h2, h3⟩
end Go.Proofs.Ytaoefbkfccnenaa
