/- What the row's listed tables give the walks; the door's own heap meets the condition; the named variables read behind the call as before. -/
import Derived.Test.YtojbehmbeoemgaaDoorB2
import Derived.LaidMore
import Derived.LaidLaws
import Derived.LaidHandle
import Derived.Handed
import Derived.Lib.LaidTab
import Derived.OpenShut
import Derived.SevenTiedAt
set_option linter.unusedVariables false
set_option linter.unusedSimpArgs false
namespace Go.Proofs.YtojbehmbeoemgaaDoor
open Go.RowKit Go.WideShapes Go.ChangeShapes Go.ChangeAt Lay Mk
def laidSha : List (String × DataW Unit) := [("loop.example/g00284/impl.roundWords", Rows.laid_loop_example_g00284_impl_roundWords), ("loop.example/g00284/impl.startWords", Rows.laid_loop_example_g00284_impl_startWords)]
theorem gRound : Tryd.prog.globalNamed "loop.example/g00284/impl.roundWords" = some 1 := by kernel_rfl
theorem gStart : Tryd.prog.globalNamed "loop.example/g00284/impl.startWords" = some 0 := by kernel_rfl
theorem tRound : (Tryd.prog.globals[1]?).map (·.type) = some 146 := by kernel_rfl
theorem tStart : (Tryd.prog.globals[0]?).map (·.type) = some 144 := by kernel_rfl
set_option maxRecDepth 100000 in
theorem laidRound_tab : (Rows.laid_loop_example_g00284_impl_roundWords : DataW Unit) = Go.Lib.tabData .u32 shaKeys := by kernel_rfl
set_option maxRecDepth 100000 in
theorem laidStart_tab : (Rows.laid_loop_example_g00284_impl_startWords : DataW Unit) = Go.Lib.tabData .u32 shaFirst.l := by kernel_rfl
/-- the tables' cells -/
theorem tabs_of_laid {W : World} (h : laidMetH Tryd.prog laidSha W) : Tabs W := by
  rw [MakeChecks.laidMetH_plain _ _ _ (by kernel_rfl)] at h
  obtain ⟨ps, ⟨g0, t0, cs0, f0, p0, q0, hg0, ht0, hv0, hd0, ⟨g1, t1, cs1, f1, p1, q1, hg1, ht1, hv1, hd1, _, _⟩, _⟩, _, _⟩ := h
  obtain rfl := Option.some.inj (gRound.symm.trans hg0)
  obtain rfl := Option.some.inj (gStart.symm.trans hg1)
  obtain rfl := Option.some.inj (tRound.symm.trans ht0)
  obtain rfl := Option.some.inj (tStart.symm.trans ht1)
  rw [laidRound_tab] at hd0
  rw [laidStart_tab] at hd1
  have e0 := Go.Lib.cells_of_tab Tryd.underlying146 Tryd.underlying143 (by kernel_rfl) (by kernel_rfl) hd0
  have e1 := Go.Lib.cells_of_tab Tryd.underlying144 Tryd.underlying143 (by kernel_rfl) (by kernel_rfl) hd1
  have k0 : shaKeys.length = 64 := rfl
  have k1 : shaFirst.l.length = 8 := rfl
  refine ⟨fun i hi => ?_, fun i hi => ?_⟩
  · have h := World.var?_cell hg0 hv0 i
    rw [h]
    have : cs0.toList[i]? = some (.int .u32 (shaKeys.getD i 0)) := by
      rw [e0, List.getElem?_map, List.getElem?_eq_getElem (by omega), Option.map_some, List.getD_eq_getElem?_getD, List.getElem?_eq_getElem (by omega)]; rfl
    simpa using this
  · have h := World.var?_cell hg1 hv1 i
    rw [h]
    have : cs1.toList[i]? = some (.int .u32 (shaFirst.l.getD i 0)) := by
      rw [e1, List.getElem?_map, List.getElem?_eq_getElem (by omega), Option.map_some, List.getD_eq_getElem?_getD, List.getElem?_eq_getElem (by omega)]; rfl
    simpa using this
set_option maxRecDepth 100000 in
/-- the door's own heap meets the condition -/
theorem door_met (os : Os) (args : Array Value) : laidMetH Tryd.prog laidSha ((World.doorLaid Tryd.prog 34 os).forCall (fun _ _ => 0) ⟨#[], args, []⟩).memory :=
  laidMetH_of_parts3 (fuel := 8) (laidMet_of_run' 8 (by kernel_rfl) (by kernel_rfl)) (by kernel_rfl) (by kernel_rfl)
def rowedVars (P : Program) (ns : List String) : Bool := ns.all fun n => ((P.globalNamed n).bind (P.globals[·]?)).all fun gl => P.readableRec gl.type && decide (gl.type < P.types.size)
/-- the named variables, unopened, behind a call that has only made memory -/
theorem trodVars_stays {H : Type} {enc : TypeId × Value → H} {P : Program} (hl : laidOutB P = true) {W W' : World} {sp : Nat → Bool} (hb : Below W.heap.size W W') :
    ∀ {ns : List String} {gs : List (DataW H)} {ps : List MemPlace}, rowedVars P ns = true → DataW.TrodVars enc P W (fun _ => true) ns gs ps → (∀ x ∈ ps, sp x.block = true) → DataW.TrodVars enc P W' sp ns gs ps
  | [], [], _, _, h, _ => h
  | [], _ :: _, _, _, h, _ => h.elim
  | _ :: _, [], _, _, h, _ => h.elim
  | n :: ns, d :: ds, ps, hv, h, hsp => by
    have hlt := h.lt
    obtain ⟨g, t, cs, fuel, p, q, h1, h2, h3, h4, hs, e⟩ := h
    simp only [rowedVars, List.all_cons, Bool.and_eq_true] at hv
    have ht : P.readableRec t = true ∧ t < P.types.size := by
      have := hv.1
      rw [h1] at this
      cases hg : P.globals[g]? with
      | none => rw [hg] at h2; cases h2
      | some gl =>
        rw [hg] at h2
        obtain rfl : gl.type = t := Option.some.inj h2
        simpa [hg] using this
    have hp : ∀ x ∈ p, x.block < W.heap.size := fun x hx => hlt x (by rw [e]; simp [hx])
    have h3' : W'.var? P n = some cs := by
      unfold World.var? at h3 ⊢
      rw [h1] at h3 ⊢
      simp only [Option.bind_some] at h3 ⊢
      have hg : g < W.heap.size := by
        cases hh : W.heap[g]? with
        | none => rw [hh] at h3; cases h3
        | some o => exact (Array.getElem?_eq_some_iff.1 hh).1
      rw [hb.block g hg]; exact h3
    exact ⟨g, t, cs, fuel, p, q, h1, h2, h3', DataW.trod_stays (kids_book hl ht.1) (book_sized ht.1) (fun h => by cases h) ⟨ht.2, book_self t⟩ h4 (fun x hx => hb.same (hp x hx)) (fun x hx => hsp x (by rw [e]; simp [hx])),
      trodVars_stays hl hb (by simpa [rowedVars] using hv.2) hs (fun x hx => hsp x (by rw [e]; simp [hx])), e⟩
end Go.Proofs.YtojbehmbeoemgaaDoor
