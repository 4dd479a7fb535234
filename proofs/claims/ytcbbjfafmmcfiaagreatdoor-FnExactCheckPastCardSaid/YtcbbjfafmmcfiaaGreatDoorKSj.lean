/- Signatures: the closure that gathers the texts. -/
import Derived.Test.YtcbbjfafmmcfiaaGreatDoorKSi
set_option linter.unusedVariables false
set_option linter.unusedSimpArgs false
namespace Go.Proofs.YtcbbjfafmmcfiaaGreatDoor
open Go.RowKit Lay Mk
set_option maxRecDepth 20000 in set_option maxHeartbeats 4000000 in
theorem impl_SigAdd (w : World) (kind : Int) (hkind : I64 kind) (xs : List ByteArray) (A : Option Addr) (cap : Nat) (S : Blks) (hx : Row false w A cap xs S) (hl : xs.length ≤ 1000) (g : Nat) (ys : List ByteArray) (Ao : Option Addr) (co : Nat) (So : Blks) (hg : One w g 34 (.slice Ao ys.length co)) (hco : ys.length ≤ co) (hcm : co ≤ maxLen) (ho : Row true w Ao co ys So) (hSo : ∀ b, So b → g < b) (hyl : ys.length ≤ 1000) (w0 : World) (hT : Tabs w0) (h0 : Below w0.heap.size w0 w) (hg0 : w0.heap.size ≤ g) :
    Calls Tryz.prog 296 #[.int .i64 kind, .slice A xs.length cap, .pointer (some ⟨g, 0, none⟩)] w fun e w' => ∃ A' c', e = .returned (.string (cutDigest (tagText kind xs) 16)) ∧ One w' g 34 (.slice A' (ys.length + 1) c') ∧ ys.length + 1 ≤ c' ∧ c' ≤ maxLen ∧ Row true w' A' c' (ys ++ [tagText kind xs]) (fun b => So b ∨ rng w.heap.size w'.heap.size b) ∧ Chg (fun b => b = g ∨ So b) w w' := by
  have htl := tagText_le kind xs
  go_enter Tryz.func296, Tryz.ntmps296
  go_wp2_with (fail)
  refine (impl_TagText _ kind hkind xs A cap S hx (by omega)).mono ?_
  rintro e1 w1 ⟨rfl, hb1⟩
  have hg1 := hg.later hb1
  have ho1 := Row.later ho hb1
  have hSg : ¬ So g := fun h => absurd (hSo g h) (Nat.lt_irrefl _)
  have hgl := hg.lt
  have hz1 := hb1.size
  have hC1 : Chg (fun b => b = g ∨ So b) w w1 := (Chg.refl _ w).below hb1 (Nat.le_refl _)
  clear hx ho
  obtain ⟨t, ht⟩ : ∃ t, tagText kind xs = t := ⟨_, rfl⟩
  rw [ht] at htl
  simp only [ht]
  have HTX := Lib.hid ht
  clear ht
  have c1 := hg1.cell
  have HT := Lib.hid hT; have H0 := Lib.hid h0; have HSo := Lib.hid hSo; have HC1 := Lib.hid hC1; have HO1 := Lib.hid ho1; have HG1 := Lib.hid hg1
  clear hT h0 hSo hC1 ho1 hg1 hg
  go_wp2_with (first | (at_builtin; refine wpList_app (α := ByteArray) (xs := ys) rfl _ _ rfl rfl rfl (HO1.out.allocC _) hco hcm rfl rfl (src_newb _ t (show t.size ≤ maxLen from ml htl (by omega)) _ _ _ (by first | rfl | simp) rfl) (disj_none_ _) (by omega) ?_; intro A' cap' w4 h1 h2 h3 h4; have HG4 := Lib.hid ((HG1.out.alloc _).chg h4 hSg); have hq4 := HG4.out.cell; have hf4 := HG4.out.frozen; have H3 := Lib.hid h3; have H4 := Lib.hid h4; clear h3 h4) | (go_at_call 261; have hC4 : Chg (fun b => b = g ∨ So b) w w4 := (HC1.out.alloc _).trans (H4.out.mono (fun b _ hb => .inr hb)); have hC5 := hC4.setCell (p := ⟨g, 0, none⟩) (.inl (.inl rfl)) (.slice A' (ys.length + 1) cap'); have hT5 := HT.out.later (H0.out.trans (hC5.to_below H0.out.size (fun b hb => hb.elim (fun e => e ▸ hg0) (fun e => Nat.le_trans hg0 (Nat.le_of_lt (HSo.out b e)))))); refine (impl_CutDigest _ t (by omega) 16 (by unfold I64; omega) hT5).mono ?_; rintro e5 w5 ⟨rfl, hb5⟩))
  have hg5 := (HG4.out.set (.slice A' (ys.length + 1) cap')).later hb5
  have hr5 := Row.later (H3.out.setC (p := ⟨g, 0, none⟩) (fun h => by
    rcases h with x | x | x
    · exact absurd (HSo.out g x) (Nat.lt_irrefl _)
    · exact x.elim
    · have hx1 : _ ≤ g := x.1; rw [World.size_alloc] at hx1; omega) (.slice A' (ys.length + 1) cap')) hb5
  have hC6 := hC5.below hb5 hC5.size
  go_ret
  rw [HTX.out]
  exact ⟨A', cap', rfl, hg5, h1, h2, hr5.mono (fun b hb => by
    rcases hb with x | x | x
    · exact .inl x
    · exact x.elim
    · refine .inr ⟨?_, ?_⟩
      · have hx1 := x.1; rw [World.size_alloc] at hx1; omega
      · have hx2 := x.2; have hx3 := hb5.size; simp only [World.size_setCell] at hx3; omega), hC6⟩
end Go.Proofs.YtcbbjfafmmcfiaaGreatDoor
