/- Walks: a new client; where a list of values changes. -/
import Derived.Test.YticdcndpbnbkhaaRd
namespace Go.Proofs.Yticdcndpbnbkhaa
open Go.RowKit Lay Mk
def clientNew (h : Int) : Client := ⟨h, []⟩
theorem cnb_clientNew (h : Int) : (clientNew h).ct ≤ 1000000000000 := by simp [clientNew, Client.ct, cnL]
theorem impl_ClientNew (w : World) (h : Int) (hh : I64 h) : Calls Try.prog 22 #[.int .i64 h] w fun e w' => ∃ c, e = .returned (.agg c.toArray) ∧ rd true w' c (clientNew h) (rng w.heap.size w'.heap.size) ∧ Below w.heap.size w w' := by
  go_enter Try.func22, Try.ntmps22
  go_wp2
  refine bodyPost_ret (v := .agg #[.int .i64 h, .slice none 0 0]) (by simp [results, Try.results22, go_sem]) rfl ⟨[.int .i64 h, .slice none 0 0], rfl, ?_, (Below.refl _ _).alloc (Nat.le_refl _) _⟩
  exact Client.mk' (x := clientNew h) hh (by simp [clientNew]) (by decide) (row_nil _ (fun _ => False)) (fun _ x => x.elim)
theorem spec_ClientNew (w : World) (h : Int) (hh : I64 h) : Calls Try.prog 21 #[.int .i64 h] w fun e w' => ∃ c, e = .returned (.agg c.toArray) ∧ rd true w' c (clientNew h) (rng w.heap.size w'.heap.size) ∧ Below w.heap.size w w' := by
  go_enter Try.func21, Try.ntmps21
  go_wp2
  refine bodyPost_ret (v := .agg #[.int .i64 h, .slice none 0 0]) (by simp [results, Try.results21, go_sem]) rfl ⟨[.int .i64 h, .slice none 0 0], rfl, ?_, (Below.refl _ _).alloc (Nat.le_refl _) _⟩
  exact Client.mk' (x := clientNew h) hh (by simp [clientNew]) (by decide) (row_nil _ (fun _ => False)) (fun _ x => x.elim)
end Go.Proofs.Yticdcndpbnbkhaa
