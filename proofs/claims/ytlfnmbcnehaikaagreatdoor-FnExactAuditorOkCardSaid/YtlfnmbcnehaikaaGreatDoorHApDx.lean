/- A part of the proof. -/
import Derived.Test.YtlfnmbcnehaikaaGreatDoorHApDs
set_option linter.unusedVariables false
set_option linter.unusedSimpArgs false
set_option maxRecDepth 20000
namespace Go.Proofs.YtlfnmbcnehaikaaGreatDoor
open Go.RowKit Lay Mk
def cutDigest (t : ByteArray) (n : Int) : ByteArray:=if 1 ≤ n ∧ n ≤ 32 then (digest t).extract 0 n.toNat else ⟨#[]⟩
theorem cutDigest_size {t : ByteArray} {n : Int} (h : 1 ≤ n ∧ n ≤ 32) : (cutDigest t n).size = n.toNat:=by
 unfold cutDigest; rw [if_pos h,ByteArray.size_extract,digest_size]; omega
theorem cutDigest_le (t : ByteArray) (n : Int) : (cutDigest t n).size ≤ 32:=by
 by_cases h : 1 ≤ n ∧ n ≤ 32
 ·rw [cutDigest_size h]; omega
 ·unfold cutDigest; rw [if_neg h]; decide
theorem cut_yes {t : ByteArray} {n : Int} (h1 : 1 ≤ n) (h2 : n ≤ 32) : cutDigest t n = (digest t).extract 0 n.toNat:=by unfold cutDigest; rw [if_pos ⟨h1,h2⟩]
theorem cut_no {t : ByteArray} {n : Int} (h : ¬ (1 ≤ n ∧ n ≤ 32)) : cutDigest t n = ⟨#[]⟩:=by unfold cutDigest; rw [if_neg h]
theorem inB_yes {n lo hi : Int} (h1 : lo ≤ n) (h2 : n ≤ hi) : inB n lo hi = true:=by simp [inB,h1,h2]
theorem inB_no {n lo hi : Int} (h : ¬ (lo ≤ n ∧ n ≤ hi)) : inB n lo hi = false:=by simp [inB]; omega
theorem impl_isWide (n : Int) (w : World) : Calls Tryz.prog 188 #[.int .i64 n] w fun e w' => e = .returned (.bool (inB n 1 32)) ∧ w = w':=by
 go_enter Tryz.func188,Tryz.ntmps188
 go_wp2_with (go_at_call 62; refine (impl_in _ _ _ _).mono ?_; rintro e w' ⟨rfl,rfl⟩)
 go_ret
 exact ⟨rfl,rfl⟩
theorem impl_CutDigest (w : World) (t : ByteArray) (ht : t.size ≤ 100000000) (n : Int) (_hn : I64 n) (hT : Tabs w) : Calls Tryz.prog 149 #[.string t, .int .i64 n] w fun e w' => e = .returned (.string (cutDigest t n)) ∧ Below w.heap.size w w':=by
 by_cases h : 1 ≤ n ∧ n ≤ 32
 ·obtain ⟨h1,h2⟩:=h
  have HC:=zd (cut_yes (t:=t) h1 h2)
  have hi:=inB_yes h1 h2
  have hds:=zd (digest_size t)
  go_enter Tryz.func149,Tryz.ntmps149
  go_wp2_with (go_at_call 188; refine (impl_isWide _ _).mono ?_; rintro e w' ⟨rfl,rfl⟩)
  go_wp2_with (fail)
  refine (impl_Digest _ t ht hT).mono ?_
  rintro e1 w1 ⟨rfl,hb⟩
  obtain ⟨d,hd⟩ : ∃ d,digest t = d:=⟨_,rfl⟩
  rw [hd] at HC hds ⊢
  clear hd
  have hn32 : n ≤ (d.size : Int):=by rw [hds.out]; exact h2
  have hn0 : 0 ≤ n:=zz4
  go_wp2
  go_ret
  exact ⟨by rw [HC.out]; rfl,hb⟩
 ·have HC:=zd (cut_no (t:=t) h)
  have hi:=inB_no h
  clear h
  go_enter Tryz.func149,Tryz.ntmps149
  go_wp2_with (go_at_call 188; refine (impl_isWide _ _).mono ?_; rintro e w' ⟨rfl,rfl⟩)
  go_ret
  exact ⟨by rw [HC.out]; rfl,Below.refl _ _⟩
theorem spec_CutDigest (w : World) (t : ByteArray) (ht : t.size ≤ 100000000) (n : Int) (_hn : I64 n) : Calls Tryz.prog 175 #[.string t, .int .i64 n] w fun e w' => e = .returned (.string (cutDigest t n)) ∧ Below w.heap.size w w':=by
 by_cases h : 1 ≤ n ∧ n ≤ 32
 ·obtain ⟨h1,h2⟩:=h
  have HC:=zd (cut_yes (t:=t) h1 h2)
  have hi:=inB_yes h1 h2
  have hds:=zd (digest_size t)
  go_enter Tryz.func175,Tryz.ntmps175
  go_wp2_with (go_at_call 48; refine (spec_in _ _ _ _).mono ?_; rintro e w' ⟨rfl,rfl⟩)
  go_wp2_with (fail)
  refine (spec_Digest _ t ht).mono ?_
  rintro e1 w1 ⟨rfl,hb⟩
  obtain ⟨d,hd⟩ : ∃ d,digest t = d:=⟨_,rfl⟩
  rw [hd] at HC hds ⊢
  clear hd
  have hn32 : n ≤ (d.size : Int):=by rw [hds.out]; exact h2
  have hn0 : 0 ≤ n:=zz4
  go_wp2
  go_ret
  exact ⟨by rw [HC.out]; rfl,hb⟩
 ·have HC:=zd (cut_no (t:=t) h)
  have hi:=inB_no h
  clear h
  go_enter Tryz.func175,Tryz.ntmps175
  go_wp2_with (go_at_call 48; refine (spec_in _ _ _ _).mono ?_; rintro e w' ⟨rfl,rfl⟩)
  go_ret
  exact ⟨by rw [HC.out]; rfl,Below.refl _ _⟩
end Go.Proofs.YtlfnmbcnehaikaaGreatDoor
