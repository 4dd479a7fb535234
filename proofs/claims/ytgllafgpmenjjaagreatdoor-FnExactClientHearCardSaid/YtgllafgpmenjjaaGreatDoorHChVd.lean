/- A part of the proof. -/
import Derived.Test.YtgllafgpmenjjaaGreatDoorHChPq
import Derived.Test.YtgllafgpmenjjaaGreatDoorHChKt
set_option linter.unusedVariables false
set_option linter.unusedSimpArgs false
namespace Go.Proofs.YtgllafgpmenjjaaGreatDoor
open Go.RowKit Lay Mk
def stampP (t : Trust) (house : Int) (h : Head) (s : Stamp) : Bool:=inB s.by_ 0 ((t.roots.length : Int) - 1) && (!decide (s.by_ = house) && stampOk (t.roots.getD s.by_.toNat ⟨#[]⟩) h s.sig)
def rootUp (t : Trust) (name : ByteArray) (x : Whole) : ByteArray:=foldUp 16 (proofHash name x.proof 16) (indexOf name) t.k x.tops
def verify (t : Trust) (house : Int) (name : ByteArray) (epoch : Int) (x : Whole) : ByteArray × Bool × Int :=
 if wholeForm t house name x = false then (⟨#[]⟩,false,1)
 else if x.seal_.head.house ≠ house ∨ x.seal_.head.epoch ≠ epoch then (⟨#[]⟩,false,2)
 else if sealOk (t.roots.getD house.toNat ⟨#[]⟩) x.seal_ = false then (⟨#[]⟩,false,3)
 else if rootUp t name x ≠ x.seal_.head.root then (⟨#[]⟩,false,4)
 else if ((x.stamps.countP (stampP t house x.seal_.head) : Nat) : Int) < t.need then (⟨#[]⟩,false,5)
 else ((leafGet x.proof.bucket name).1,(leafGet x.proof.bucket name).2,0)
theorem count_snoc {α : Type} {p : α → Bool} {l : List α} {k : Nat} (h : k < l.length) : (l.take (k + 1)).countP p = (l.take k).countP p + (if p l[k] = true then 1 else 0):=by
 rw [List.take_succ_eq_append_getElem h,List.countP_append,List.countP_singleton]
theorem form_facts {t : Trust} {house : Int} {name : ByteArray} {x : Whole} (h : wholeForm t house name x = true) : (∃ k : Nat,house = k ∧ k < t.roots.length) ∧ (0 ≤ t.k ∧ t.k ≤ 2) ∧ (0 ≤ t.need ∧ t.need ≤ 2) ∧ (1 ≤ t.roots.length ∧ t.roots.length ≤ 3):=by
 unfold wholeForm trustOk at h
 simp only [Bool.and_eq_true] at h
 obtain ⟨⟨h1,_,h3,h4⟩,h5,_⟩:=h
 have a1 : 1 ≤ (t.roots.length : Int) ∧ (t.roots.length : Int) ≤ 3:=by simpa [inB] using h1
 have a2 : 0 ≤ t.k ∧ t.k ≤ 2:=by simpa [inB] using h3
 have a3 : 0 ≤ t.need ∧ t.need ≤ 2:=by simpa [inB] using h4
 have a4 : 0 ≤ house ∧ house ≤ (t.roots.length : Int) - 1:=by simpa [inB] using h5
 exact ⟨⟨house.toNat,zz8,zz8⟩,a2,a3,zz8⟩
theorem getD_ltv {l : List ByteArray} {k : Nat} (h : k < l.length) : l.getD k ⟨#[]⟩ = l[k]:=by
 rw [List.getD_eq_getElem?_getD,List.getElem?_eq_getElem h,Option.getD_some]
theorem ver_1 {t : Trust} {house : Int} {name : ByteArray} {epoch : Int} {x : Whole} (h : wholeForm t house name x = false) : verify t house name epoch x = (⟨#[]⟩,false,1):=by unfold verify; rw [if_pos h]
theorem ver_2 {t : Trust} {house : Int} {name : ByteArray} {epoch : Int} {x : Whole} (h : wholeForm t house name x = true) (h2 : x.seal_.head.house ≠ house ∨ x.seal_.head.epoch ≠ epoch) : verify t house name epoch x = (⟨#[]⟩,false,2):=by unfold verify; rw [if_neg (by simp [h]),if_pos h2]
theorem ver_3 {t : Trust} {house : Int} {name : ByteArray} {epoch : Int} {x : Whole} (h : wholeForm t house name x = true) (h2 : x.seal_.head.house = house) (h3 : x.seal_.head.epoch = epoch) (h4 : sealOk (t.roots.getD house.toNat ⟨#[]⟩) x.seal_ = false) : verify t house name epoch x = (⟨#[]⟩,false,3):=by unfold verify; rw [if_neg (by simp [h]),if_neg (by simp [h2,h3]),if_pos h4]
theorem ver_4 {t : Trust} {house : Int} {name : ByteArray} {epoch : Int} {x : Whole} (h : wholeForm t house name x = true) (h2 : x.seal_.head.house = house) (h3 : x.seal_.head.epoch = epoch) (h4 : sealOk (t.roots.getD house.toNat ⟨#[]⟩) x.seal_ = true) (h5 : rootUp t name x ≠ x.seal_.head.root) : verify t house name epoch x = (⟨#[]⟩,false,4):=by unfold verify; rw [if_neg (by simp [h]),if_neg (by simp [h2,h3]),if_neg (by rw [h4]; simp),if_pos h5]
theorem ver_5 {t : Trust} {house : Int} {name : ByteArray} {epoch : Int} {x : Whole} (h : wholeForm t house name x = true) (h2 : x.seal_.head.house = house) (h3 : x.seal_.head.epoch = epoch) (h4 : sealOk (t.roots.getD house.toNat ⟨#[]⟩) x.seal_ = true) (h5 : rootUp t name x = x.seal_.head.root) (h6 : ((x.stamps.countP (stampP t house x.seal_.head) : Nat) : Int) < t.need) : verify t house name epoch x = (⟨#[]⟩,false,5):=by unfold verify; rw [if_neg (by simp [h]),if_neg (by simp [h2,h3]),if_neg (by rw [h4]; simp),if_neg (by simp [h5]),if_pos h6]
theorem ver_0 {t : Trust} {house : Int} {name : ByteArray} {epoch : Int} {x : Whole} (h : wholeForm t house name x = true) (h2 : x.seal_.head.house = house) (h3 : x.seal_.head.epoch = epoch) (h4 : sealOk (t.roots.getD house.toNat ⟨#[]⟩) x.seal_ = true) (h5 : rootUp t name x = x.seal_.head.root) (h6 : ¬ ((x.stamps.countP (stampP t house x.seal_.head) : Nat) : Int) < t.need) : verify t house name epoch x = ((leafGet x.proof.bucket name).1,(leafGet x.proof.bucket name).2,0):=by unfold verify; rw [if_neg (by simp [h]),if_neg (by simp [h2,h3]),if_neg (by rw [h4]; simp),if_neg (by simp [h5]),if_neg h6]
theorem stampP_at {t : Trust} {house : Int} {h : Head} {s : Stamp} {k : Nat} (hb : s.by_ = k) (hk : k < t.roots.length) : stampP t house h s = (!decide (s.by_ = house) && stampOk t.roots[k] h s.sig):=by
 unfold stampP
 have : inB s.by_ 0 ((t.roots.length : Int) - 1) = true:=by rw [hb]; unfold inB; simp; omega
 rw [this,hb,Int.toNat_natCast,getD_ltv hk]
 rfl
theorem stampP_no {t : Trust} {house : Int} {h : Head} {s : Stamp} (hb : inB s.by_ 0 ((t.roots.length : Int) - 1) = false) : stampP t house h s = false:=by unfold stampP; rw [hb]; rfl
end Go.Proofs.YtgllafgpmenjjaaGreatDoor
