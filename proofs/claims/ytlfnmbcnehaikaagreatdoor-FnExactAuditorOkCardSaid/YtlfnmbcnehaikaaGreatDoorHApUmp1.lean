/- A part of the proof. -/
import Derived.Test.YtlfnmbcnehaikaaGreatDoorHApUk
set_option linter.unusedVariables false
set_option linter.unusedSimpArgs false
set_option maxHeartbeats 4000000
namespace Go.Proofs.YtlfnmbcnehaikaaGreatDoor
open Go.RowKit Lay Mk
theorem aok_pne {x y : Auditor} {k : Nat} (hk : k < x.pairs.length) (hk2 : k < y.pairs.length) (h : ¬ x.pairs[k] = y.pairs[k]) : sameNew x y = false:=by
 unfold sameNew; rw [sameL_bad hk hk2 h]; simp
theorem aok_plen {x y : Auditor} (h : ¬ x.pairs.length = y.pairs.length) : sameNew x y = false:=by
 unfold sameNew; rw [sameL_len h]; simp
theorem aok_peq {x y : Auditor} (h1 : x.pool = y.pool) (h2 : x.pins = y.pins) (hl : x.pairs.length = y.pairs.length) (h : ∀ k (h1 : k < x.pairs.length) (h2 : k < y.pairs.length),x.pairs[k] = y.pairs[k]) : sameNew x y = true:=by
 unfold sameNew; rw [decide_eq_true h1,decide_eq_true h2,sameL_end hl h]; rfl
theorem auditorNew_len (house : Int) (d : Disk) : (auditorNew house d).pool.length ≤ 4000000000 ∧ (auditorNew house d).pins.length ≤ 4000000000:=by
 have h1:=recsAt_good (logTexts d.files pinsName) ([], []) (fun s hs => by cases hs) (fun s hs => by cases hs)
 have h2:=logTexts_len d.files pinsName
 obtain ⟨-, -,g3, -⟩:=h1
 simp only [List.length_nil,Nat.zero_add] at g3
 refine ⟨?_,?_⟩
 ·show (poolOf (seedOf house)).length ≤ _
  unfold poolOf; rw [poolTo_len]; decide
 ·show (recsAt (logTexts d.files pinsName) ([], [])).1.length ≤ _
  omega
theorem pair_two {s u : Pair} : ([s.a,s.b] = [u.a,u.b]) ↔ s = u:=by
 constructor
 ·intro h; cases s; cases u; simp_all
 ·rintro rfl; rfl
theorem rowTwo {v : World} {s u : Seal} {c1 c2 : List Value} {S1 S2 : Blks} {cs : Array Value} {ty : TypeId} (h1 : rd false v c1 s S1) (h2 : rd false v c2 u S2) (hc : cs.toList = c1 ++ c2) : Row false (v.alloc (.cells cs ty)) (some ⟨v.heap.size,0,none⟩) 2 [s,u] All:=by
 intro _
 have hl : c1.length = 8:=Lay.len h1
 have hb : Below v.heap.size v (v.alloc (.cells cs ty)):=(Below.refl _ _).alloc (Nat.le_refl _) _
 refine ⟨_,_,rfl,trivial,fun i => All,fun i b x => trivial,fun h => (by cases h),fun i hi => ?_⟩
 have hi2 : i < 2:=hi
 rcases (show i = 0 ∨ i = 1 by omega) with rfl | rfl
 ·refine ⟨c1,fun j w hw => ?_,(Lay.mono (Lay.later h1 hb) (fun _ _ => trivial))⟩
  rw [World.cell?_alloc_mark]
  have : cs.toList[j]? = some w:=by rw [hc,List.getElem?_append_left (List.getElem?_eq_some_iff.1 hw).1]; exact hw
  simpa using this
 ·refine ⟨c2,fun j w hw => ?_,(Lay.mono (Lay.later h2 hb) (fun _ _ => trivial))⟩
  rw [World.cell?_alloc_mark]
  have : cs.toList[0 + 1 * Lay.n Seal + j]? = some w:=by rw [hc,List.getElem?_append_right (by rw [hl]; show 8 ≤ 0 + 1 * 8 + j; omega),hl, ← hw]; congr 1; show 0 + 1 * 8 + j - 8 = j; omega
  simpa using this
theorem wp_buildTwo {ops : Array Oper} {o : Oper} {a : Act} {w : World} {K : Act → World → Prop} {Q : Exit → Act → World → Prop} {E : Prop} (hgd : o.guard = none) (x y : Operand) (ho : o.op = .buildSlice 30 2 #[(0,x),(1,y)]) {u0 u1 u2 u3 u4 u5 u6 u7 u8 u9 u10 u11 u12 u13 u14 u15 : Value} (hx : a.eval x = .agg #[u0,u1,u2,u3,u4,u5,u6,u7]) (hy : a.eval y = .agg #[u8,u9,u10,u11,u12,u13,u14,u15]) (h : K (a.put o.dst (.slice (some ⟨w.heap.size,0,none⟩) 2 2)) (w.alloc (.cells #[u0,u1,u2,u3,u4,u5,u6,u7,u8,u9,u10,u11,u12,u13,u14,u15] 76))) : if Region.wanted o (yielded ops a.tmps) = true then Oper.wp Tryz.prog o a w K Q else E:=by
 have hw : Region.wanted o (yielded ops a.tmps) = true:=by simp [Region.wanted,hgd]
 rw [if_pos hw]
 unfold Oper.wp execOp
 simp only [ho]
 simp only [List.map_toArray,List.map_cons,List.map_nil,hx,hy]
 clear hx hy ho hgd hw
 go_simp
 exact h
end Go.Proofs.YtlfnmbcnehaikaaGreatDoor
