/- What the check of a past computes. -/
import Derived.Test.YtcbbjfafmmcfiaaGreatDoorKVf
set_option linter.unusedVariables false
set_option linter.unusedSimpArgs false
namespace Go.Proofs.YtcbbjfafmmcfiaaGreatDoor
open Go.RowKit Lay Mk
def codeAt (t : Trust) (house : Int) (name : ByteArray) (xs : List Whole) (i : Nat) : Int := match xs[i]? with
  | some x => (verify t house name ((i : Int) + 1) x).2.2
  | none => 0
def pastV (t : Trust) (house : Int) (name : ByteArray) (xs : List Whole) (k : Nat) : List ByteArray := (List.range k).map (fun (i : Nat) => match xs[i]? with
  | some x => (verify t house name ((i : Int) + 1) x).1
  | none => ⟨#[]⟩)
def prevBad (xs : List Whole) (i : Nat) : Bool := match xs[i]?, xs[i - 1]? with
  | some x, some y => !(x.seal_.head.prev.toList == (headHash y.seal_.head).toList)
  | _, _ => false
def checkPast (t : Trust) (house : Int) (name : ByteArray) (xs : List Whole) : List ByteArray × Int :=
  if xs.length = 0 then ([], 6) else
  match (List.range xs.length).find? (fun i => codeAt t house name xs i != 0) with
  | some i => ([], codeAt t house name xs i)
  | none => if (List.range xs.length).any (fun i => decide (1 ≤ i) && prevBad xs i) then ([], 6) else (pastV t house name xs xs.length, 0)
theorem codeAt_at {t : Trust} {house : Int} {name : ByteArray} {xs : List Whole} {i : Nat} (h : i < xs.length) : codeAt t house name xs i = (verify t house name ((i : Int) + 1) xs[i]).2.2 := by
  unfold codeAt; rw [List.getElem?_eq_getElem h]
theorem pastV_snoc {t : Trust} {house : Int} {name : ByteArray} {xs : List Whole} {k : Nat} (h : k < xs.length) : pastV t house name xs (k + 1) = pastV t house name xs k ++ [(verify t house name ((k : Int) + 1) xs[k]).1] := by
  unfold pastV; rw [List.range_succ, List.map_append]; simp only [List.map_cons, List.map_nil, List.getElem?_eq_getElem h]
theorem pastV_len {t : Trust} {house : Int} {name : ByteArray} {xs : List Whole} {k : Nat} : (pastV t house name xs k).length = k := by unfold pastV; simp
theorem prevBad_at {xs : List Whole} {i : Nat} (h : i + 1 < xs.length) : prevBad xs (i + 1) = !((xs[i + 1]).seal_.head.prev.toList == (headHash (xs[i]'(by omega)).seal_.head).toList) := by
  unfold prevBad; rw [Nat.add_sub_cancel, List.getElem?_eq_getElem h, List.getElem?_eq_getElem (by omega)]
theorem cp_empty {t : Trust} {house : Int} {name : ByteArray} {xs : List Whole} (h : xs.length = 0) : checkPast t house name xs = ([], 6) := by unfold checkPast; rw [if_pos h]
theorem cp_bad {t : Trust} {house : Int} {name : ByteArray} {xs : List Whole} {k : Nat} (h : k < xs.length) (h0 : ∀ i, i < k → codeAt t house name xs i = 0) (h1 : codeAt t house name xs k ≠ 0) : checkPast t house name xs = ([], codeAt t house name xs k) := by
  unfold checkPast; rw [if_neg (by omega)]
  rw [show (List.range xs.length).find? (fun i => codeAt t house name xs i != 0) = some k from List.find?_range_eq_some.2 ⟨by simpa using h1, List.mem_range.2 h, fun j hj => by simpa using h0 j hj⟩]
theorem cp_none {t : Trust} {house : Int} {name : ByteArray} {xs : List Whole} (h0 : ∀ i, i < xs.length → codeAt t house name xs i = 0) : (List.range xs.length).find? (fun i => codeAt t house name xs i != 0) = none :=
  List.find?_range_eq_none.2 (fun j hj => by simpa using h0 j hj)
theorem cp_prev {t : Trust} {house : Int} {name : ByteArray} {xs : List Whole} {k : Nat} (h0 : ∀ i, i < xs.length → codeAt t house name xs i = 0) (hk1 : 1 ≤ k) (hk : k < xs.length) (hp : prevBad xs k = true) : checkPast t house name xs = ([], 6) := by
  unfold checkPast; rw [if_neg (by omega), cp_none h0]
  simp only []
  rw [if_pos (List.any_eq_true.2 ⟨k, List.mem_range.2 hk, by rw [hp, decide_eq_true hk1]; rfl⟩)]
theorem cp_ok {t : Trust} {house : Int} {name : ByteArray} {xs : List Whole} (hn : xs.length ≠ 0) (h0 : ∀ i, i < xs.length → codeAt t house name xs i = 0) (hp : ∀ i, 1 ≤ i → i < xs.length → prevBad xs i = false) : checkPast t house name xs = (pastV t house name xs xs.length, 0) := by
  unfold checkPast; rw [if_neg hn, cp_none h0]
  simp only []
  rw [if_neg]
  intro ha
  obtain ⟨k, hk, hb⟩ := List.any_eq_true.1 ha
  simp only [Bool.and_eq_true, decide_eq_true_eq] at hb
  rw [hp k hb.1 (List.mem_range.1 hk)] at hb
  cases hb.2
end Go.Proofs.YtcbbjfafmmcfiaaGreatDoor
