/- A part of the proof. -/
import Derived.WalkKit
import Derived.WalkLawsBesides
import Derived.WalkSpells
import Derived.StillTailTactics
import Derived.Shelf.Strconv.Itoa0
import Derived.Shelf.Strconv.Itoa1
import Derived.Shelf.LaysM
import Derived.Shelf.Strconv.Itoa2
import Derived.Shelf.Strconv.Itoa3
import Derived.Test.YtlfnmbcnehaikaaGreatDoorProg
import Derived.Lib.Hide
set_option linter.unusedVariables false
set_option linter.unusedSimpArgs false
namespace Go.Proofs.YtlfnmbcnehaikaaGreatDoor
theorem zd {p : Prop} (h : p) : RowKit.Hid p := Lib.hid h
theorem zz0 {p : Prop} (h : p := by first | with_reducible exact Nat.le_refl _ | omega | (simp; done) | (simp; omega)) : p := h
theorem zz1 {p : Prop} (h : p := by (repeat (first | exact zh | exact Below.refl _ _ | apply Below.drew | refine Below.alloc ?_ (by first | with_reducible exact Nat.le_refl _ | omega | (simp; done) | (simp; omega)) _))) : p := h
theorem zz2 {p : Prop} (h : p := by ((repeat (first | with_reducible exact zh | with_reducible exact Below.refl _ _ | with_reducible apply Below.drew | with_reducible refine Below.alloc ?_ ?_ _ | with_reducible refine Below.setCell ?_ ?_ _)); all_goals (first | with_reducible exact Nat.le_refl _ | omega | (simp; done) | (simp; omega)))) : p := h
theorem zz3 {p : Prop} (h : p := by (repeat (first | exact Below.refl _ _ | apply Below.drew | refine Below.alloc ?_ (by first | with_reducible exact Nat.le_refl _ | omega | (simp; done) | (simp; omega)) _))) : p := h
theorem zz4 {p : Prop} (h : p := by omega) : p := h
theorem zz5 {p : Prop} (h : p := by ((repeat (first | with_reducible exact Below.refl _ _ | with_reducible apply Below.drew | with_reducible refine Below.alloc ?_ ?_ _ | with_reducible refine Below.setCell ?_ ?_ _)); all_goals (first | with_reducible exact Nat.le_refl _ | omega | (simp; done) | (simp; omega)))) : p := h
theorem zz6 {p : Prop} (h : p := by (repeat (first | with_reducible exact zh | with_reducible apply Row.drewC | with_reducible refine Row.allocC ?_ _ | with_reducible refine Row.setC ?_ ?_ _ | exact (fun h => by unfold rng at h; simp only at h; omega)))) : p := h
theorem zz7 {p : Prop} (h : p := by first | (repeat (first | exact zh | exact Below.refl _ _ | apply Below.drew | refine Below.alloc ?_ (by first | with_reducible exact Nat.le_refl _ | omega | (simp; done) | (simp; omega)) _)); done | (first | with_reducible exact Nat.le_refl _ | omega | (simp; done) | (simp; omega))) : p := h
theorem zz9 {p : Prop} (h : p := by first | (repeat (first | exact Below.refl _ _ | apply Below.drew | refine Below.alloc ?_ (by first | with_reducible exact Nat.le_refl _ | omega | (simp; done) | (simp; omega)) _)); done | (first | with_reducible exact Nat.le_refl _ | omega | (simp; done) | (simp; omega))) : p := h
theorem zz13 {p : Prop} (h : p := by first | ((repeat (first | exact zh | exact Below.refl _ _ | apply Below.drew | refine Below.alloc ?_ (by first | with_reducible exact Nat.le_refl _ | omega | (simp; done) | (simp; omega)) _)); done) | (first | with_reducible exact Nat.le_refl _ | omega | (simp; done) | (simp; omega))) : p := h
theorem zz16 {p : Prop} (h : p := by rw [IntWalk.i64_in] <;> omega) : p := h
theorem zz17 {p : Prop} (h : p := by simp) : p := h
theorem zz18 {p : Prop} (h : p := by unfold rng at h; simp only at h; omega) : p := h
theorem zz19 {p : Prop} (h : p := by rw [← hwa]; exact (Below.refl _ _).alloc (Nat.le_refl _) _) : p := h
theorem zz21 {p : Prop} (h : p := by rw [decide_eq_false_iff_not]; omega) : p := h
theorem zz22 {p : Prop} (h : p := by rfl) : p := h
theorem zz23 {p : Prop} (h : p := by simp; omega) : p := h
theorem zz24 {p : Prop} (h : p := by rw [HF.out]) : p := h
theorem zz25 {p : Prop} (h : p := by rw [← hwa]; exact rowTwo (Lay.later HSa.out HV.out) (Lay.later HSb.out HV.out) rfl) : p := h
theorem zz26 {p : Prop} (h : p := by rw [← hwa]; exact rowTwo (Lay.later HUa.out HV.out) (Lay.later HUb.out HV.out) rfl) : p := h
theorem zz27 {p : Prop} (h : p := by rw [HB.out]; exact ret_int (by rw [i64_and1]; omega)) : p := h
theorem zz28 {p : Prop} (h : p := by have := hb1.size; (try simp at this); omega) : p := h
theorem zz29 {p : Prop} (h : p := by intro h; apply ho; rw [h]; omega) : p := h
theorem zz30 {p : Prop} (h : p := by unfold I64; omega) : p := h
theorem zz31 {p : Prop} (h : p := by rw [← hW]; exact ya2 _ _ _ _ _ rfl) : p := h
theorem zz32 {p : Prop} (h : p := by unfold rng at h ⊢; (try simp at h); omega) : p := h
theorem zz33 {p : Prop} (h : p := by rw [← hV]; exact ⟨(Below.refl _ _).alloc (Nat.le_refl _) _, by simp, Bx.new _ _ _⟩) : p := h
theorem zz34 {p : Prop} (h : p := by replace h1 := h1.2; replace h2 := h2.2; unfold rng at h1 h2; omega) : p := h
theorem zz35 {p : Prop} (h : p := by have := hb2.size; (try simp at this); omega) : p := h
theorem zz36 {p : Prop} (h : p := by rcases hb with rfl | hb; exact Nat.le_refl _; exact Nat.le_of_lt hb.1) : p := h
theorem zz37 {p : Prop} (h : p := by rw [List.length_append]; simp; omega) : p := h
theorem zz38 {p : Prop} (h : p := by intro hh; rcases hh with hh | hh; exact absurd hh (by omega); exact absurd hh (by omega)) : p := h
theorem zz39 {p : Prop} (h : p := by rintro rfl; have := Lay.len hr1; cases this) : p := h
theorem zz40 {p : Prop} (h : p := by rw [HE.out]; rfl) : p := h
theorem zz41 {p : Prop} (h : p := by replace h := h.2; unfold rng at h ⊢; simp; omega) : p := h
theorem zz42 {p : Prop} (h : p := by (repeat (first | with_reducible exact zh | with_reducible apply Shp.drew | with_reducible refine Shp.alloc ?_ _ | with_reducible refine Shp.set ?_ _ _))) : p := h
theorem zz43 {p : Prop} (h : p := by simp [dig32, b4]) : p := h
theorem zz44 {p : Prop} (h : p := by decide) : p := h
theorem zz45 {p : Prop} (h : p := by rcases Nat.lt_succ_iff_lt_or_eq.1 hj with h1 | h1; exact HS.out j h h2 h1; subst h1; exact h0) : p := h
theorem zz46 {p : Prop} (h : p := by rcases Nat.lt_succ_iff_lt_or_eq.1 hi with h | h; exact HS.out i h; subst h; rw [HAT.out, HRO.out, hot, hok]; rfl) : p := h
theorem zz47 {p : Prop} (h : p := by rw [decide_eq_true_iff]; omega) : p := h
theorem zz48 {p : Prop} (h : p := by rw [← HG.out]; exact HB.out.size) : p := h
theorem zz49 {p : Prop} (h : p := by rw [← hW]; exact Lib.hid ((Below.refl _ _).alloc (Nat.le_refl _) _)) : p := h
theorem zz50 {p : Prop} (h : p := by rw [HOK.out]; simp [sameHd, HQ.out]) : p := h
theorem zz51 {p : Prop} (h : p := by rw [HE.out]; exact ret_rv (congrArg (fun q : Nat => (q : Int)) HMM.out) (by omega)) : p := h
theorem zz52 {p : Prop} (h : p := by rw [ByteArray.size_extract]; omega) : p := h
theorem zz53 {p : Prop} (h : p := by rw [List.length_append]; exact hy5) : p := h
theorem zz54 {p : Prop} (h : p := by rw [hlen]; decide) : p := h
theorem zz55 {p : Prop} (h : p := by rw [World.size_alloc]; omega) : p := h
theorem zz56 {p : Prop} (h : p := by simp [S8.l]) : p := h
end Go.Proofs.YtlfnmbcnehaikaaGreatDoor
