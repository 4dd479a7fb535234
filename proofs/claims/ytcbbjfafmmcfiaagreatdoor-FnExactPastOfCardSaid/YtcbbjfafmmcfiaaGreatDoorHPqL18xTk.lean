/- A part of the proof. -/
import Derived.Test.YtcbbjfafmmcfiaaGreatDoorHPqL17xWg
set_option linter.unusedVariables false
set_option linter.unusedSimpArgs false
namespace Go.Proofs.YtcbbjfafmmcfiaaGreatDoor
open Go.RowKit Lay Mk
theorem impl_isSplit (n:Int) (w:World):Calls Tryz.prog 71 #[.int .i64 n] w fun e w' => e = .returned (.bool (inB n 0 2))∧w=w':=by
 go_enter Tryz.func71,Tryz.ntmps71
 go_wp2_with (go_at_call 70; refine (impl_in _ _ _ _).mono ?_; rintro e w' ⟨rfl,rfl⟩)
 go_ret
 exact ⟨rfl,rfl⟩
end Go.Proofs.YtcbbjfafmmcfiaaGreatDoor
namespace Go.Proofs.YtcbbjfafmmcfiaaGreatDoor
open Go.RowKit Lay Mk
theorem row_box {w:World} {b:Nat} (cap:Nat) (l:List ByteArray) (hc:∀ j (h:j<l.length),w.cell? ⟨b,j,none⟩=some (.string l[j])∧l[j].size≤maxLen):Row false w (some ⟨b,0,none⟩) cap l (fun q => q=b):=by
 intro _
 refine ⟨b,0,rfl,rfl,fun _ => none_,fun _ _ x => x.elim,fun h => by simp at h,fun i hi => ⟨[.string l[i]],fun j u hu => ?_,⟨rfl,(hc i hi).2⟩⟩⟩
 have hj:=(List.getElem?_eq_some_iff.1 hu).1
 have hj:j=0:=by simpa using hj
 subst hj
 rw [← hu,show 0+i*n ByteArray+0=i by rw [show n ByteArray=1 from rfl]; omega]
 exact (hc i hi).1
end Go.Proofs.YtcbbjfafmmcfiaaGreatDoor
