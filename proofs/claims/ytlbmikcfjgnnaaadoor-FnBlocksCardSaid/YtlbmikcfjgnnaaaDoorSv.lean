/- One block of the digest on numbers: what is computed; a store into a row of integers. -/
import Derived.Test.YtlbmikcfjgnnaaaDoorDg
import Derived.Test.YtlbmikcfjgnnaaaDoorInf
import Derived.Test.YtlbmikcfjgnnaaaDoorIn
import Derived.Test.YtlbmikcfjgnnaaaDoorFd
set_option linter.unusedVariables false
set_option linter.unusedSimpArgs false
namespace Go.Proofs.YtlbmikcfjgnnaaaDoor
open Go.RowKit Lay Mk
def s8of (st : List Int) : S8 := ⟨st.getD 0 0, st.getD 1 0, st.getD 2 0, st.getD 3 0, st.getD 4 0, st.getD 5 0, st.getD 6 0, st.getD 7 0⟩
def wordsOk (st : List Int) : Bool := st.all (fun x => inB x 0 4294967295)
def shaBl (st : List Int) (b : ByteArray) : List Int := if st.length = 8 ∧ b.size = 64 ∧ wordsOk st = true then (comp (s8of st) b).l else st
theorem s8of_l {st : List Int} (h : st.length = 8) : (s8of st).l = st := by
  match st, h with
  | [a, b, c, d, e, f, g, i], _ => rfl
theorem words_at {st : List Int} (h : wordsOk st = true) {k : Nat} (hk : k < st.length) : 0 ≤ st[k] ∧ st[k] ≤ 4294967295 := by
  unfold wordsOk at h; rw [List.all_eq_true] at h
  have := h _ (List.getElem_mem hk)
  simpa [inB] using this
theorem words_bad {st : List Int} {k : Nat} (hk : k < st.length) (hp : inB st[k] 0 4294967295 = false) : wordsOk st = false := by
  unfold wordsOk; rw [List.all_eq_false]; exact ⟨_, List.getElem_mem hk, by simp [hp]⟩
theorem words_end {st : List Int} (h : ∀ k (hk : k < st.length), inB st[k] 0 4294967295 = true) : wordsOk st = true := by
  unfold wordsOk; rw [List.all_eq_true]; intro x hx
  obtain ⟨k, hk, rfl⟩ := List.getElem_of_mem hx
  exact h k hk
theorem s8of_ok {st : List Int} (hl : st.length = 8) (h : wordsOk st = true) : (s8of st).Ok := by
  have hw : ∀ k, k < 8 → W32 (st.getD k 0) := fun k hk => by
    have h1 := words_at h (k := k) (by omega)
    rw [List.getD_eq_getElem?_getD, List.getElem?_eq_getElem (by omega), Option.getD_some]
    unfold W32; omega
  exact ⟨hw 0 (by omega), hw 1 (by omega), hw 2 (by omega), hw 3 (by omega), hw 4 (by omega), hw 5 (by omega), hw 6 (by omega), hw 7 (by omega)⟩
theorem shaBl_len {st : List Int} {b : ByteArray} (h : st.length ≠ 8) : shaBl st b = st := by unfold shaBl; rw [if_neg (fun x => h x.1)]
theorem shaBl_size {st : List Int} {b : ByteArray} (h : b.size ≠ 64) : shaBl st b = st := by unfold shaBl; rw [if_neg (fun x => h x.2.1)]
theorem shaBl_words {st : List Int} {b : ByteArray} (h : wordsOk st = false) : shaBl st b = st := by unfold shaBl; rw [if_neg (fun x => by rw [h] at x; exact absurd x.2.2 (by simp))]
theorem shaBl_go {st : List Int} {b : ByteArray} (h1 : st.length = 8) (h2 : b.size = 64) (h3 : wordsOk st = true) : shaBl st b = (comp (s8of st) b).l := by unfold shaBl; rw [if_pos ⟨h1, h2, h3⟩]
theorem shaBl_length (st : List Int) (b : ByteArray) : (shaBl st b).length = st.length := by
  unfold shaBl; split
  · rename_i h; rw [h.1]; rfl
  · rfl
theorem set_mix {L st : List Int} {k : Nat} (hL : L.length = 8) (hs : st.length = 8) (hk : k < 8) : (L.take k ++ st.drop k).set k (L.getD k 0) = L.take (k + 1) ++ st.drop (k + 1) := by
  match L, hL, st, hs with
  | [a, b, c, d, e, f, g, i], _, [a', b', c', d', e', f', g', i'], _ =>
    rcases (show k = 0 ∨ k = 1 ∨ k = 2 ∨ k = 3 ∨ k = 4 ∨ k = 5 ∨ k = 6 ∨ k = 7 by omega) with rfl | rfl | rfl | rfl | rfl | rfl | rfl | rfl <;> rfl
theorem padz_full {st : List Int} (h : st.length = 8) : padz (st.take 8) 8 = st := by
  rw [List.take_of_length_le (by omega)]; unfold padz; rw [h]; simp
/-- a store into a row of integers of one's own -/
theorem row_seti {w : World} {A : Option Addr} {cap : Nat} {ys : List Int} {S : Blks} (h : Row true w A cap ys S) {k : Nat} (hk : k < ys.length) (hc : ys.length ≤ cap) {v : Int} (hv : I64 v) :
    ∃ g, A = some ⟨g, 0, none⟩ ∧ S g ∧ g < w.heap.size ∧ (w.cell? ⟨g, k, none⟩).isSome = true ∧ w.frozen? ⟨g, k, none⟩ = false ∧ Row true (w.setCell ⟨g, k, none⟩ (.int .i64 v)) A cap (ys.set k v) S := by
  rcases h with ⟨_, h, _⟩ | ⟨g, cur, rfl, hg, hb, hs, hE⟩
  · subst h; simp at hk
  have hlt : g < w.heap.size := (Array.getElem?_eq_some_iff.1 hb).1
  rw [show n Int = 1 from rfl, Nat.mul_one] at hs
  have hkc : k < cur.size := by omega
  refine ⟨g, rfl, hg, hlt, ?_, frozen_of_row _ _ k _ _ hb, .inr ⟨g, cur.setIfInBounds k (.int .i64 v), rfl, hg, ?_, by simp [hs, show n Int = 1 from rfl], ?_⟩⟩
  · rw [cell_of_row _ _ k _ _ _ hb, Array.getElem?_eq_getElem hkc]; rfl
  · simp only [World.setCell, Array.getElem?_modify, hb]
    simp
  · obtain ⟨T, h1, h2, h3⟩ := hE
    have hnew : (w.setCell ⟨g, k, none⟩ (.int .i64 v)).heap[g]? = some (.cells (cur.setIfInBounds k (.int .i64 v)) (ty Int) (0, 0)) := by
      simp only [World.setCell, Array.getElem?_modify, hb]
      simp
    refine ⟨fun _ => none_, fun _ _ x => x.elim, fun _ _ _ _ _ x => x.elim, fun i hi => ?_⟩
    have hi' : i < ys.length := by simpa using hi
    obtain ⟨cs, h4, h5⟩ := h3 i hi'
    obtain ⟨rfl, hok⟩ := open_int h5
    have h6 := h4 0 _ rfl
    rw [show 0 + i * n Int + 0 = i by rw [show n Int = 1 from rfl]; omega, cell_of_row _ _ i _ _ _ hb] at h6
    refine ⟨[.int .i64 (ys.set k v)[i]], fun j u hu => ?_, ⟨rfl, ?_⟩⟩
    · have hj := (List.getElem?_eq_some_iff.1 hu).1
      have hj : j = 0 := by simpa using hj
      subst hj
      rw [← hu, show 0 + i * n Int + 0 = i by rw [show n Int = 1 from rfl]; omega, cell_of_row _ _ i _ _ _ hnew]
      by_cases e : k = i
      · subst e; simp [hkc]
      · rw [Array.getElem?_setIfInBounds_ne e, h6]; simp [List.getElem_set, e]
    · rw [List.getElem_set]; split
      · exact hv
      · exact hok
end Go.Proofs.YtlbmikcfjgnnaaaDoor
