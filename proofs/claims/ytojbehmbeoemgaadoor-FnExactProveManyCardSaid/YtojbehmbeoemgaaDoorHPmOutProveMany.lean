/- A part of the proof: what the laws need of it. -/
import Derived.Test.YtojbehmbeoemgaaDoorTie
import Derived.Test.YtojbehmbeoemgaaDoorCards
import Derived.Test.YtojbehmbeoemgaaDoorHPmL7xLw
import Derived.Test.YtojbehmbeoemgaaDoorHPmL5xTop
import Derived.Test.YtojbehmbeoemgaaDoorHPmMa
import Derived.Test.YtojbehmbeoemgaaDoorHPmL5xHd
import Derived.Test.YtojbehmbeoemgaaDoorHPmL13xDl
import Derived.Test.YtojbehmbeoemgaaDoorHPmL12xDh
import Derived.Test.YtojbehmbeoemgaaDoorHPmYw
import Derived.Test.YtojbehmbeoemgaaDoorHPmL29xYk
import Derived.Test.YtojbehmbeoemgaaDoorHPmJProveMany
set_option linter.unusedVariables false
set_option linter.unusedSimpArgs false
set_option linter.unusedVariables false
set_option linter.unusedSimpArgs false
namespace Go.Proofs.YtojbehmbeoemgaaDoor
open Go.RowKit Go.WideShapes Go.ChangeShapes Go.ChangeAt Lay Mk
set_option maxRecDepth 20000 in set_option maxHeartbeats 8000000 in
theorem law_ProveMany (w : World) (p0 : List Leaf) (Ap0 : Option Addr) (kp0 : Nat) (Sp0 : Blks) (hp0 : Row false w Ap0 kp0 p0 Sp0) (lp0 : p0.length ≤ kp0) (mp0 : kp0 ≤ maxLen) (p1 : List ByteArray) (Ap1 : Option Addr) (kp1 : Nat) (Sp1 : Blks) (hp1 : Row false w Ap1 kp1 p1 Sp1) (lp1 : p1.length ≤ kp1) (mp1 : kp1 ≤ maxLen) (p2 : Int) (hp2 : I64 p2) (hT : Tabs w) : Calls Tryd.prog 7 #[.slice Ap0 p0.length kp0, .slice Ap1 p1.length kp1, .int .i64 p2] w fun e w' => e = .returned (.bool true) ∧ Below w.heap.size w w' := by
  have HTb := Lib.hid hT; clear hT
  replace hp0 := old_rngR hp0
  have HR_p0 := Lib.hid hp0; clear hp0
  replace hp1 := old_rngR hp1
  have HR_p1 := Lib.hid hp1; clear hp1
  go_enter Tryd.func7, Tryd.ntmps7
  go_wp2_with (fail)
  refine (sz_LeafS p0 _ Ap0 kp0 _ _ HR_p0.out (Nat.le_trans lp0 mp0) (by omega) (by omega)).mono ?_
  rintro e1 w1 ⟨⟨n1, rfl, hn1⟩, hb1⟩
  have hl1 := hb1
  have hB1 : Below w.heap.size w w1 := hl1
  have hz1 : w.heap.size + 0 ≤ w1.heap.size := by have := hb1.size; (try simp at this); omega
  replace HR_p0 := Lib.hid (Row.later HR_p0.out hl1)
  replace HR_p1 := Lib.hid (Row.later HR_p1.out hl1)
  rcases szR_cases hn1 (by omega) with rfl | ⟨hn1a, hn1b, sz_p0⟩
  · go_wp2_with (fail)
    go_ret; exact ⟨rfl, hB1⟩
  clear hn1
  go_wp2_with (fail)
  refine (sz_StringS p1 _ Ap1 kp1 _ _ HR_p1.out (Nat.le_trans lp1 mp1) (by omega) (by omega)).mono ?_
  rintro e2 w2 ⟨⟨n2, rfl, hn2⟩, hb2⟩
  have hl2 := hb2
  have hB2 : Below w.heap.size w w2 := Below.step hB1 hl2
  have hz2 : w1.heap.size + 0 ≤ w2.heap.size := by have := hb2.size; (try simp at this); omega
  replace HR_p0 := Lib.hid (Row.later HR_p0.out hl2)
  replace HR_p1 := Lib.hid (Row.later HR_p1.out hl2)
  rcases szR_cases hn2 (by omega) with rfl | ⟨hn2a, hn2b, sz_p1⟩
  · go_wp2_with (fail)
    go_ret; exact ⟨rfl, hB2⟩
  clear hn2
  go_wp2_with (fail)
  refine (to_LeafS p0 _ Ap0 kp0 _ HR_p0.out sz_p0).mono ?_
  rintro e3 w3 ⟨A_t3, c_t3, rfl, lt3, mt3, hr_, hb3⟩
  have hl3 := hb3
  have hB3 : Below w.heap.size w w3 := Below.step hB2 hl3
  have hz3 : w2.heap.size + 0 ≤ w3.heap.size := by have := hb3.size; (try simp at this); omega
  replace HR_p0 := Lib.hid (Row.later HR_p0.out hl3)
  replace HR_p1 := Lib.hid (Row.later HR_p1.out hl3)
  have HR_t3 := Lib.hid (Row.mono hr_ (S' := rng (w2.heap.size) (w3.heap.size)) (fun b h => by unfold rng at h ⊢; (try simp at h); omega)); clear hr_
  have sb_t3 : sub (rng (w2.heap.size) (w3.heap.size)) (rng (w2.heap.size) (w3.heap.size)) := sub_refl _
  go_wp2_with (fail)
  refine (to_StringS p1 _ Ap1 kp1 _ HR_p1.out sz_p1).mono ?_
  rintro e4 w4 ⟨A_t4, c_t4, rfl, lt4, mt4, hr_, hb4⟩
  have hl4 := hb4
  have hB4 : Below w.heap.size w w4 := Below.step hB3 hl4
  have hz4 : w3.heap.size + 0 ≤ w4.heap.size := by have := hb4.size; (try simp at this); omega
  replace HR_p0 := Lib.hid (Row.later HR_p0.out hl4)
  replace HR_p1 := Lib.hid (Row.later HR_p1.out hl4)
  replace HR_t3 := Lib.hid (Row.later HR_t3.out hl4)
  have HR_t4 := Lib.hid (Row.mono hr_ (S' := rng (w3.heap.size) (w4.heap.size)) (fun b h => by unfold rng at h ⊢; (try simp at h); omega)); clear hr_
  have sb_t4 : sub (rng (w3.heap.size) (w4.heap.size)) (rng (w3.heap.size) (w4.heap.size)) := sub_refl _
  go_wp2_with (fail)
  refine (spec_ProveMany _ p0 A_t3 c_t3 _ (Row.weak HR_t3.out) lt3 mt3 sz_p0 p1 A_t4 c_t4 _ (Row.weak HR_t4.out) lt4 mt4 sz_p1 p2 hp2).mono ?_
  rintro e5 w5 ⟨c_w0, rfl, hr_w0, hb5⟩
  have hl5 := hb5
  have hB5 : Below w.heap.size w w5 := Below.step hB4 hl5
  have hz5 : w4.heap.size + 0 ≤ w5.heap.size := by have := hb5.size; (try simp at this); omega
  replace HR_p0 := Lib.hid (Row.later HR_p0.out hl5)
  replace HR_p1 := Lib.hid (Row.later HR_p1.out hl5)
  replace HR_t3 := Lib.hid (Row.later HR_t3.out hl5)
  replace HR_t4 := Lib.hid (Row.later HR_t4.out hl5)
  have hr_ := hr_w0; clear hr_w0
  have HR_w0 := Lib.hid (Lay.mono hr_ (S' := rng (w4.heap.size) (w5.heap.size)) (fun b h => by unfold rng at h ⊢; (try simp at h); omega)); clear hr_
  have sb_w0 : sub (rng (w4.heap.size) (w5.heap.size)) (rng (w4.heap.size) (w5.heap.size)) := sub_refl _
  clear HR_t3
  clear HR_t4
  have ln_w0 := Lay.len HR_w0.out
  have on_w0 := Lay.one HR_w0.out
  have k_w0 : (Tryd.prog.info? 51).map (·.size) = some (Lay.n Many) := by kernel_rfl
  go_wp2_with (first | (refine wpList_storeNew (cs := c_w0.toArray) rfl _ _ _ rfl rfl rfl rfl (k_w0.trans (congrArg some ln_w0.symm)) (Eq.trans (b := Lay.n Many) rfl ln_w0.symm) (by simpa using on_w0) ?_) | (refine wpList_loadT rfl _ _ rfl rfl (At.new _ c_w0 _ (0, 0)) Tryd.underlying51 k_w0 ln_w0 ?_) | (refine wpList_loadTG (by first | rfl | simp [Region.wanted, yielded]) _ _ rfl rfl (At.new _ c_w0 _ (0, 0)) Tryd.underlying51 k_w0 ln_w0 ?_))
  refine (to_LeafS p0 _ Ap0 kp0 _ (Row.later HR_p0.out ((Below.refl _ _).alloc (Nat.le_refl _) _)) sz_p0).mono ?_
  rintro e6 w6 ⟨A_x0, c_x0, rfl, lx0, mx0, hr_, hb6⟩
  have hl6 : Below w5.heap.size w5 w6 := (Below.via hb6)
  have hB6 : Below w.heap.size w w6 := Below.step hB5 hl6
  have hz6 : w5.heap.size + 1 ≤ w6.heap.size := by have := hb6.size; (try simp at this); omega
  replace HR_p0 := Lib.hid (Row.later HR_p0.out hl6)
  replace HR_p1 := Lib.hid (Row.later HR_p1.out hl6)
  replace HR_w0 := Lib.hid (Lay.later HR_w0.out hl6)
  have HA_w0 : Hid (At w6 (w5.heap.size) 0 c_w0) := Lib.hid (by have := (At.new w5 c_w0 _ (0, 0)).below (b := w5.heap.size) hb6 (by simp); simpa using this)
  have lt_w0 : w5.heap.size < w6.heap.size := by omega
  have HR_x0 := Lib.hid (Row.mono hr_ (S' := rng (w5.heap.size + 1) (w6.heap.size)) (fun b h => by unfold rng at h ⊢; (try simp at h); omega)); clear hr_
  have sb_x0 : sub (rng (w5.heap.size + 1) (w6.heap.size)) (rng (w5.heap.size + 1) (w6.heap.size)) := sub_refl _
  go_wp2_with (first | (refine wpList_loadT rfl _ _ rfl rfl HA_w0.out Tryd.underlying51 k_w0 ln_w0 ?_) | (refine wpList_loadTG (by first | rfl | simp [Region.wanted, yielded]) _ _ rfl rfl HA_w0.out Tryd.underlying51 k_w0 ln_w0 ?_))
  refine (to_StringS p1 _ Ap1 kp1 _ HR_p1.out sz_p1).mono ?_
  rintro e7 w7 ⟨A_x1, c_x1, rfl, lx1, mx1, hr_, hb7⟩
  have hl7 := hb7
  have hB7 : Below w.heap.size w w7 := Below.step hB6 hl7
  have hz7 : w6.heap.size + 0 ≤ w7.heap.size := by have := hb7.size; (try simp at this); omega
  replace HR_p0 := Lib.hid (Row.later HR_p0.out hl7)
  replace HR_p1 := Lib.hid (Row.later HR_p1.out hl7)
  replace HR_w0 := Lib.hid (Lay.later HR_w0.out hl7)
  replace HR_x0 := Lib.hid (Row.later HR_x0.out hl7)
  replace HA_w0 := Lib.hid (HA_w0.out.below hl7 lt_w0); replace lt_w0 := Nat.lt_of_lt_of_le lt_w0 hl7.size
  have HR_x1 := Lib.hid (Row.mono hr_ (S' := rng (w6.heap.size) (w7.heap.size)) (fun b h => by unfold rng at h ⊢; (try simp at h); omega)); clear hr_
  have sb_x1 : sub (rng (w6.heap.size) (w7.heap.size)) (rng (w6.heap.size) (w7.heap.size)) := sub_refl _
  go_wp2_with (first | (refine wpList_loadT rfl _ _ rfl rfl HA_w0.out Tryd.underlying51 k_w0 ln_w0 ?_) | (refine wpList_loadTG (by first | rfl | simp [Region.wanted, yielded]) _ _ rfl rfl HA_w0.out Tryd.underlying51 k_w0 ln_w0 ?_))
  refine (impl_ProveMany _ p0 A_x0 c_x0 _ (Row.weak HR_x0.out) lx0 mx0 sz_p0 p1 A_x1 c_x1 _ (Row.weak HR_x1.out) lx1 mx1 sz_p1 p2 hp2 (Tabs.later HTb.out hB7)).mono ?_
  rintro e8 w8 ⟨c_g0, rfl, hr_g0, hb8⟩
  have hl8 := hb8
  have hB8 : Below w.heap.size w w8 := Below.step hB7 hl8
  have hz8 : w7.heap.size + 0 ≤ w8.heap.size := by have := hb8.size; (try simp at this); omega
  replace HR_p0 := Lib.hid (Row.later HR_p0.out hl8)
  replace HR_p1 := Lib.hid (Row.later HR_p1.out hl8)
  replace HR_w0 := Lib.hid (Lay.later HR_w0.out hl8)
  replace HR_x0 := Lib.hid (Row.later HR_x0.out hl8)
  replace HR_x1 := Lib.hid (Row.later HR_x1.out hl8)
  replace HA_w0 := Lib.hid (HA_w0.out.below hl8 lt_w0); replace lt_w0 := Nat.lt_of_lt_of_le lt_w0 hl8.size
  have hr_ := hr_g0; clear hr_g0
  have HR_g0 := Lib.hid (Lay.mono hr_ (S' := rng (w7.heap.size) (w8.heap.size)) (fun b h => by unfold rng at h ⊢; (try simp at h); omega)); clear hr_
  have sb_g0 : sub (rng (w7.heap.size) (w8.heap.size)) (rng (w7.heap.size) (w8.heap.size)) := sub_refl _
  have ln_g0 := Lay.len HR_g0.out
  have on_g0 := Lay.one HR_g0.out
  have k_g0 : (Tryd.prog.info? 51).map (·.size) = some (Lay.n Many) := by kernel_rfl
  go_wp2_with (first | (refine wpList_storeNew (cs := c_g0.toArray) rfl _ _ _ rfl rfl rfl rfl (k_g0.trans (congrArg some ln_g0.symm)) (Eq.trans (b := Lay.n Many) rfl ln_g0.symm) (by simpa using on_g0) ?_) | (refine wpList_loadT rfl _ _ rfl rfl (At.new _ c_g0 _ (0, 0)) Tryd.underlying51 k_g0 ln_g0 ?_) | (refine wpList_loadTG (by first | rfl | simp [Region.wanted, yielded]) _ _ rfl rfl (At.new _ c_g0 _ (0, 0)) Tryd.underlying51 k_g0 ln_g0 ?_) | (refine wpList_loadT rfl _ _ rfl rfl (HA_w0.out.alloc lt_w0 _) Tryd.underlying51 k_w0 ln_w0 ?_) | (refine wpList_loadTG (by first | rfl | simp [Region.wanted, yielded]) _ _ rfl rfl (HA_w0.out.alloc lt_w0 _) Tryd.underlying51 k_w0 ln_w0 ?_))
  refine (eq_Many (proveMany p0 p1 p2).1 _ _ _ _ _ (Lay.weak (Lay.later HR_g0.out ((Below.refl _ _).alloc (Nat.le_refl _) _))) (Lay.weak (Lay.later HR_w0.out ((Below.refl _ _).alloc (Nat.le_refl _) _)))).mono ?_
  rintro e9 w9 ⟨rfl, hb9⟩
  have hl9 : Below w8.heap.size w8 w9 := (Below.via hb9)
  have hB9 : Below w.heap.size w w9 := Below.step hB8 hl9
  have hz9 : w8.heap.size + 1 ≤ w9.heap.size := by have := hb9.size; (try simp at this); omega
  replace HR_p0 := Lib.hid (Row.later HR_p0.out hl9)
  replace HR_p1 := Lib.hid (Row.later HR_p1.out hl9)
  replace HR_w0 := Lib.hid (Lay.later HR_w0.out hl9)
  replace HR_x0 := Lib.hid (Row.later HR_x0.out hl9)
  replace HR_x1 := Lib.hid (Row.later HR_x1.out hl9)
  replace HR_g0 := Lib.hid (Lay.later HR_g0.out hl9)
  replace HA_w0 := Lib.hid (HA_w0.out.below hl9 lt_w0); replace lt_w0 := Nat.lt_of_lt_of_le lt_w0 hl9.size
  have HA_g0 : Hid (At w9 (w8.heap.size) 0 c_g0) := Lib.hid (by have := (At.new w8 c_g0 _ (0, 0)).below (b := w8.heap.size) hb9 (by simp); simpa using this)
  have lt_g0 : w8.heap.size < w9.heap.size := by omega
  go_wp2_with (first | (refine wpList_loadT rfl _ _ rfl rfl HA_w0.out Tryd.underlying51 k_w0 ln_w0 ?_) | (refine wpList_loadTG (by first | rfl | simp [Region.wanted, yielded]) _ _ rfl rfl HA_w0.out Tryd.underlying51 k_w0 ln_w0 ?_) | (refine wpList_loadT rfl _ _ rfl rfl HA_g0.out Tryd.underlying51 k_g0 ln_g0 ?_) | (refine wpList_loadTG (by first | rfl | simp [Region.wanted, yielded]) _ _ rfl rfl HA_g0.out Tryd.underlying51 k_g0 ln_g0 ?_))
  refine (to_LeafS p0 _ Ap0 kp0 _ HR_p0.out sz_p0).mono ?_
  rintro e10 w10 ⟨A_t10, c_t10, rfl, lt10, mt10, hr_, hb10⟩
  have hl10 := hb10
  have hB10 : Below w.heap.size w w10 := Below.step hB9 hl10
  have hz10 : w9.heap.size + 0 ≤ w10.heap.size := by have := hb10.size; (try simp at this); omega
  replace HR_p0 := Lib.hid (Row.later HR_p0.out hl10)
  replace HR_p1 := Lib.hid (Row.later HR_p1.out hl10)
  replace HR_w0 := Lib.hid (Lay.later HR_w0.out hl10)
  replace HR_x0 := Lib.hid (Row.later HR_x0.out hl10)
  replace HR_x1 := Lib.hid (Row.later HR_x1.out hl10)
  replace HR_g0 := Lib.hid (Lay.later HR_g0.out hl10)
  replace HA_w0 := Lib.hid (HA_w0.out.below hl10 lt_w0); replace lt_w0 := Nat.lt_of_lt_of_le lt_w0 hl10.size
  replace HA_g0 := Lib.hid (HA_g0.out.below hl10 lt_g0); replace lt_g0 := Nat.lt_of_lt_of_le lt_g0 hl10.size
  have HR_t10 := Lib.hid (Row.mono hr_ (S' := rng (w9.heap.size) (w10.heap.size)) (fun b h => by unfold rng at h ⊢; (try simp at h); omega)); clear hr_
  have sb_t10 : sub (rng (w9.heap.size) (w10.heap.size)) (rng (w9.heap.size) (w10.heap.size)) := sub_refl _
  go_wp2_with (first | (refine wpList_loadT rfl _ _ rfl rfl HA_w0.out Tryd.underlying51 k_w0 ln_w0 ?_) | (refine wpList_loadTG (by first | rfl | simp [Region.wanted, yielded]) _ _ rfl rfl HA_w0.out Tryd.underlying51 k_w0 ln_w0 ?_) | (refine wpList_loadT rfl _ _ rfl rfl HA_g0.out Tryd.underlying51 k_g0 ln_g0 ?_) | (refine wpList_loadTG (by first | rfl | simp [Region.wanted, yielded]) _ _ rfl rfl HA_g0.out Tryd.underlying51 k_g0 ln_g0 ?_))
  refine (eq_LeafS p0 _ A_x0 A_t10 c_x0 c_t10 _ _ (Row.weak HR_x0.out) (Row.weak HR_t10.out) (Nat.le_trans lx0 mx0)).mono ?_
  rintro e11 w11 ⟨rfl, hb11⟩
  have hl11 := hb11
  have hB11 : Below w.heap.size w w11 := Below.step hB10 hl11
  have hz11 : w10.heap.size + 0 ≤ w11.heap.size := by have := hb11.size; (try simp at this); omega
  replace HR_p0 := Lib.hid (Row.later HR_p0.out hl11)
  replace HR_p1 := Lib.hid (Row.later HR_p1.out hl11)
  replace HR_w0 := Lib.hid (Lay.later HR_w0.out hl11)
  replace HR_x0 := Lib.hid (Row.later HR_x0.out hl11)
  replace HR_x1 := Lib.hid (Row.later HR_x1.out hl11)
  replace HR_g0 := Lib.hid (Lay.later HR_g0.out hl11)
  replace HR_t10 := Lib.hid (Row.later HR_t10.out hl11)
  replace HA_w0 := Lib.hid (HA_w0.out.below hl11 lt_w0); replace lt_w0 := Nat.lt_of_lt_of_le lt_w0 hl11.size
  replace HA_g0 := Lib.hid (HA_g0.out.below hl11 lt_g0); replace lt_g0 := Nat.lt_of_lt_of_le lt_g0 hl11.size
  clear HR_t10
  go_wp2_with (first | (refine wpList_loadT rfl _ _ rfl rfl HA_w0.out Tryd.underlying51 k_w0 ln_w0 ?_) | (refine wpList_loadTG (by first | rfl | simp [Region.wanted, yielded]) _ _ rfl rfl HA_w0.out Tryd.underlying51 k_w0 ln_w0 ?_) | (refine wpList_loadT rfl _ _ rfl rfl HA_g0.out Tryd.underlying51 k_g0 ln_g0 ?_) | (refine wpList_loadTG (by first | rfl | simp [Region.wanted, yielded]) _ _ rfl rfl HA_g0.out Tryd.underlying51 k_g0 ln_g0 ?_))
  refine (to_StringS p1 _ Ap1 kp1 _ HR_p1.out sz_p1).mono ?_
  rintro e12 w12 ⟨A_t12, c_t12, rfl, lt12, mt12, hr_, hb12⟩
  have hl12 := hb12
  have hB12 : Below w.heap.size w w12 := Below.step hB11 hl12
  have hz12 : w11.heap.size + 0 ≤ w12.heap.size := by have := hb12.size; (try simp at this); omega
  replace HR_p0 := Lib.hid (Row.later HR_p0.out hl12)
  replace HR_p1 := Lib.hid (Row.later HR_p1.out hl12)
  replace HR_w0 := Lib.hid (Lay.later HR_w0.out hl12)
  replace HR_x0 := Lib.hid (Row.later HR_x0.out hl12)
  replace HR_x1 := Lib.hid (Row.later HR_x1.out hl12)
  replace HR_g0 := Lib.hid (Lay.later HR_g0.out hl12)
  replace HA_w0 := Lib.hid (HA_w0.out.below hl12 lt_w0); replace lt_w0 := Nat.lt_of_lt_of_le lt_w0 hl12.size
  replace HA_g0 := Lib.hid (HA_g0.out.below hl12 lt_g0); replace lt_g0 := Nat.lt_of_lt_of_le lt_g0 hl12.size
  have HR_t12 := Lib.hid (Row.mono hr_ (S' := rng (w11.heap.size) (w12.heap.size)) (fun b h => by unfold rng at h ⊢; (try simp at h); omega)); clear hr_
  have sb_t12 : sub (rng (w11.heap.size) (w12.heap.size)) (rng (w11.heap.size) (w12.heap.size)) := sub_refl _
  go_wp2_with (first | (refine wpList_loadT rfl _ _ rfl rfl HA_w0.out Tryd.underlying51 k_w0 ln_w0 ?_) | (refine wpList_loadTG (by first | rfl | simp [Region.wanted, yielded]) _ _ rfl rfl HA_w0.out Tryd.underlying51 k_w0 ln_w0 ?_) | (refine wpList_loadT rfl _ _ rfl rfl HA_g0.out Tryd.underlying51 k_g0 ln_g0 ?_) | (refine wpList_loadTG (by first | rfl | simp [Region.wanted, yielded]) _ _ rfl rfl HA_g0.out Tryd.underlying51 k_g0 ln_g0 ?_))
  refine (eq_StringS p1 _ A_x1 A_t12 c_x1 c_t12 _ _ (Row.weak HR_x1.out) (Row.weak HR_t12.out) (Nat.le_trans lx1 mx1)).mono ?_
  rintro e13 w13 ⟨rfl, hb13⟩
  have hl13 := hb13
  have hB13 : Below w.heap.size w w13 := Below.step hB12 hl13
  have hz13 : w12.heap.size + 0 ≤ w13.heap.size := by have := hb13.size; (try simp at this); omega
  replace HR_p0 := Lib.hid (Row.later HR_p0.out hl13)
  replace HR_p1 := Lib.hid (Row.later HR_p1.out hl13)
  replace HR_w0 := Lib.hid (Lay.later HR_w0.out hl13)
  replace HR_x0 := Lib.hid (Row.later HR_x0.out hl13)
  replace HR_x1 := Lib.hid (Row.later HR_x1.out hl13)
  replace HR_g0 := Lib.hid (Lay.later HR_g0.out hl13)
  replace HR_t12 := Lib.hid (Row.later HR_t12.out hl13)
  replace HA_w0 := Lib.hid (HA_w0.out.below hl13 lt_w0); replace lt_w0 := Nat.lt_of_lt_of_le lt_w0 hl13.size
  replace HA_g0 := Lib.hid (HA_g0.out.below hl13 lt_g0); replace lt_g0 := Nat.lt_of_lt_of_le lt_g0 hl13.size
  clear HR_t12
  go_wp2_with (first | (refine wpList_loadT rfl _ _ rfl rfl HA_w0.out Tryd.underlying51 k_w0 ln_w0 ?_) | (refine wpList_loadTG (by first | rfl | simp [Region.wanted, yielded]) _ _ rfl rfl HA_w0.out Tryd.underlying51 k_w0 ln_w0 ?_) | (refine wpList_loadT rfl _ _ rfl rfl HA_g0.out Tryd.underlying51 k_g0 ln_g0 ?_) | (refine wpList_loadTG (by first | rfl | simp [Region.wanted, yielded]) _ _ rfl rfl HA_g0.out Tryd.underlying51 k_g0 ln_g0 ?_))
  have cb1 : cnL p0 ≤ 1000000000000 := by have := cnb_LeafS p0; have := sz_p0; omega
  refine (mark_LeafS p0 _ A_x0 c_x0 _ _ 1 (by first | rfl | simp) (by omega) HR_x0.out (Nat.le_trans lx0 mx0)).mono ?_
  obtain ⟨K1, hK_K1⟩ : ∃ K, 1 + cnL p0 = K := ⟨_, rfl⟩
  rw [hK_K1]
  have bK_K1 : K1 ≤ 2000000000004 := by omega
  rintro e14 w14 ⟨rfl, hr_, hb14⟩
  have hB14 : Below w.heap.size w w14 := Below.stepc hB13 hb14 (fun x hx => by have := sb_x0 x hx; unfold rng at this; have := hB13.size; omega)
  have hz14 : w13.heap.size ≤ w14.heap.size := hb14.size
  replace HR_p0 := Lib.hid (Row.chg HR_p0.out hb14 (disjS (sub_refl _) sb_x0 (by omega)))
  replace HR_p1 := Lib.hid (Row.chg HR_p1.out hb14 (disjS (sub_refl _) sb_x0 (by omega)))
  replace HR_w0 := Lib.hid (Lay.chg HR_w0.out hb14 (disjS sb_w0 sb_x0 (by omega)))
  replace HR_x1 := Lib.hid (Row.chg HR_x1.out hb14 (disjS sb_x1 sb_x0 (by omega)))
  replace HR_g0 := Lib.hid (Lay.chg HR_g0.out hb14 (disjS sb_g0 sb_x0 (by omega)))
  replace HA_w0 := Lib.hid (HA_w0.out.chg hb14 lt_w0 (not_rng sb_x0 (by omega))); replace lt_w0 := Nat.lt_of_lt_of_le lt_w0 hb14.size
  replace HA_g0 := Lib.hid (HA_g0.out.chg hb14 lt_g0 (not_rng sb_x0 (by omega))); replace lt_g0 := Nat.lt_of_lt_of_le lt_g0 hb14.size
  replace HR_x0 := Lib.hid hr_; clear hr_
  go_wp2_with (first | (refine wpList_loadT rfl _ _ rfl rfl HA_w0.out Tryd.underlying51 k_w0 ln_w0 ?_) | (refine wpList_loadTG (by first | rfl | simp [Region.wanted, yielded]) _ _ rfl rfl HA_w0.out Tryd.underlying51 k_w0 ln_w0 ?_) | (refine wpList_loadT rfl _ _ rfl rfl HA_g0.out Tryd.underlying51 k_g0 ln_g0 ?_) | (refine wpList_loadTG (by first | rfl | simp [Region.wanted, yielded]) _ _ rfl rfl HA_g0.out Tryd.underlying51 k_g0 ln_g0 ?_))
  have cb2 : cnL p1 ≤ 1000000000000 := by have := cnb_StringS p1; have := sz_p1; omega
  refine (mark_StringS p1 _ A_x1 c_x1 _ _ K1 (by first | rfl | simp) (by omega) HR_x1.out (Nat.le_trans lx1 mx1)).mono ?_
  obtain ⟨K2, hK_K2⟩ : ∃ K, K1 + cnL p1 = K := ⟨_, rfl⟩
  rw [hK_K2]
  have bK_K2 : K2 ≤ 3000000000006 := by omega
  rintro e15 w15 ⟨rfl, hr_, hb15⟩
  have hB15 : Below w.heap.size w w15 := Below.stepc hB14 hb15 (fun x hx => by have := sb_x1 x hx; unfold rng at this; have := hB14.size; omega)
  have hz15 : w14.heap.size ≤ w15.heap.size := hb15.size
  replace HR_p0 := Lib.hid (Row.chg HR_p0.out hb15 (disjS (sub_refl _) sb_x1 (by omega)))
  replace HR_p1 := Lib.hid (Row.chg HR_p1.out hb15 (disjS (sub_refl _) sb_x1 (by omega)))
  replace HR_w0 := Lib.hid (Lay.chg HR_w0.out hb15 (disjS sb_w0 sb_x1 (by omega)))
  replace HR_x0 := Lib.hid (Row.chg HR_x0.out hb15 (disjS sb_x0 sb_x1 (by omega)))
  replace HR_g0 := Lib.hid (Lay.chg HR_g0.out hb15 (disjS sb_g0 sb_x1 (by omega)))
  replace HA_w0 := Lib.hid (HA_w0.out.chg hb15 lt_w0 (not_rng sb_x1 (by omega))); replace lt_w0 := Nat.lt_of_lt_of_le lt_w0 hb15.size
  replace HA_g0 := Lib.hid (HA_g0.out.chg hb15 lt_g0 (not_rng sb_x1 (by omega))); replace lt_g0 := Nat.lt_of_lt_of_le lt_g0 hb15.size
  replace HR_x1 := Lib.hid hr_; clear hr_
  go_wp2_with (first | (refine wpList_loadT rfl _ _ rfl rfl HA_w0.out Tryd.underlying51 k_w0 ln_w0 ?_) | (refine wpList_loadTG (by first | rfl | simp [Region.wanted, yielded]) _ _ rfl rfl HA_w0.out Tryd.underlying51 k_w0 ln_w0 ?_) | (refine wpList_loadT rfl _ _ rfl rfl HA_g0.out Tryd.underlying51 k_g0 ln_g0 ?_) | (refine wpList_loadTG (by first | rfl | simp [Region.wanted, yielded]) _ _ rfl rfl HA_g0.out Tryd.underlying51 k_g0 ln_g0 ?_))
  refine (eq_Many (proveMany p0 p1 p2).1 _ _ _ _ _ (Lay.weak HR_g0.out) (Lay.weak HR_w0.out)).mono ?_
  rintro e16 w16 ⟨rfl, hb16⟩
  have hl16 := hb16
  have hB16 : Below w.heap.size w w16 := Below.step hB15 hl16
  have hz16 : w15.heap.size + 0 ≤ w16.heap.size := by have := hb16.size; (try simp at this); omega
  replace HR_p0 := Lib.hid (Row.later HR_p0.out hl16)
  replace HR_p1 := Lib.hid (Row.later HR_p1.out hl16)
  replace HR_w0 := Lib.hid (Lay.later HR_w0.out hl16)
  replace HR_x0 := Lib.hid (Row.later HR_x0.out hl16)
  replace HR_x1 := Lib.hid (Row.later HR_x1.out hl16)
  replace HR_g0 := Lib.hid (Lay.later HR_g0.out hl16)
  replace HA_w0 := Lib.hid (HA_w0.out.below hl16 lt_w0); replace lt_w0 := Nat.lt_of_lt_of_le lt_w0 hl16.size
  replace HA_g0 := Lib.hid (HA_g0.out.below hl16 lt_g0); replace lt_g0 := Nat.lt_of_lt_of_le lt_g0 hl16.size
  go_wp2_with (first | (refine wpList_loadT rfl _ _ rfl rfl HA_w0.out Tryd.underlying51 k_w0 ln_w0 ?_) | (refine wpList_loadTG (by first | rfl | simp [Region.wanted, yielded]) _ _ rfl rfl HA_w0.out Tryd.underlying51 k_w0 ln_w0 ?_) | (refine wpList_loadT rfl _ _ rfl rfl HA_g0.out Tryd.underlying51 k_g0 ln_g0 ?_) | (refine wpList_loadTG (by first | rfl | simp [Region.wanted, yielded]) _ _ rfl rfl HA_g0.out Tryd.underlying51 k_g0 ln_g0 ?_))
  have cb3 : (proveMany p0 p1 p2).1.ct ≤ 1000000000000 := cnb_proveMany p0 p1 p2 sz_p0 sz_p1
  refine (mark_Many (proveMany p0 p1 p2).1 _ _ _ _ 1 (by first | rfl | simp) (by omega) HR_g0.out).mono ?_
  obtain ⟨K3, hK_K3⟩ : ∃ K, 1 + (proveMany p0 p1 p2).1.ct = K := ⟨_, rfl⟩
  rw [hK_K3]
  have bK_K3 : K3 ≤ 4000000000008 := by omega
  rintro e17 w17 ⟨rfl, hr_, hb17⟩
  have hB17 : Below w.heap.size w w17 := Below.stepc hB16 hb17 (fun x hx => by have := sb_g0 x hx; unfold rng at this; have := hB16.size; omega)
  have hz17 : w16.heap.size ≤ w17.heap.size := hb17.size
  replace HR_p0 := Lib.hid (Row.chg HR_p0.out hb17 (disjS (sub_refl _) sb_g0 (by omega)))
  replace HR_p1 := Lib.hid (Row.chg HR_p1.out hb17 (disjS (sub_refl _) sb_g0 (by omega)))
  replace HR_w0 := Lib.hid (Lay.chg HR_w0.out hb17 (disjS sb_w0 sb_g0 (by omega)))
  replace HR_x0 := Lib.hid (Row.chg HR_x0.out hb17 (disjS sb_x0 sb_g0 (by omega)))
  replace HR_x1 := Lib.hid (Row.chg HR_x1.out hb17 (disjS sb_x1 sb_g0 (by omega)))
  replace HA_w0 := Lib.hid (HA_w0.out.chg hb17 lt_w0 (not_rng sb_g0 (by omega))); replace lt_w0 := Nat.lt_of_lt_of_le lt_w0 hb17.size
  replace HA_g0 := Lib.hid (HA_g0.out.chg hb17 lt_g0 (not_rng sb_g0 (by omega))); replace lt_g0 := Nat.lt_of_lt_of_le lt_g0 hb17.size
  replace HR_g0 := Lib.hid hr_; clear hr_
  go_wp2_with (first | (refine wpList_loadT rfl _ _ rfl rfl HA_w0.out Tryd.underlying51 k_w0 ln_w0 ?_) | (refine wpList_loadTG (by first | rfl | simp [Region.wanted, yielded]) _ _ rfl rfl HA_w0.out Tryd.underlying51 k_w0 ln_w0 ?_) | (refine wpList_loadT rfl _ _ rfl rfl HA_g0.out Tryd.underlying51 k_g0 ln_g0 ?_) | (refine wpList_loadTG (by first | rfl | simp [Region.wanted, yielded]) _ _ rfl rfl HA_g0.out Tryd.underlying51 k_g0 ln_g0 ?_))
  refine (held_Many (proveMany p0 p1 p2).1 _ _ _ _ 1 (by first | rfl | simp) (by omega) (Lay.weak HR_g0.out)).mono ?_
  rw [hK_K3]
  rintro e18 w18 ⟨rfl, hb18⟩
  have hl18 := hb18
  have hB18 : Below w.heap.size w w18 := Below.step hB17 hl18
  have hz18 : w17.heap.size + 0 ≤ w18.heap.size := by have := hb18.size; (try simp at this); omega
  replace HR_p0 := Lib.hid (Row.later HR_p0.out hl18)
  replace HR_p1 := Lib.hid (Row.later HR_p1.out hl18)
  replace HR_w0 := Lib.hid (Lay.later HR_w0.out hl18)
  replace HR_x0 := Lib.hid (Row.later HR_x0.out hl18)
  replace HR_x1 := Lib.hid (Row.later HR_x1.out hl18)
  replace HR_g0 := Lib.hid (Lay.later HR_g0.out hl18)
  replace HA_w0 := Lib.hid (HA_w0.out.below hl18 lt_w0); replace lt_w0 := Nat.lt_of_lt_of_le lt_w0 hl18.size
  replace HA_g0 := Lib.hid (HA_g0.out.below hl18 lt_g0); replace lt_g0 := Nat.lt_of_lt_of_le lt_g0 hl18.size
  go_wp2_with (first | (refine wpList_loadT rfl _ _ rfl rfl HA_w0.out Tryd.underlying51 k_w0 ln_w0 ?_) | (refine wpList_loadTG (by first | rfl | simp [Region.wanted, yielded]) _ _ rfl rfl HA_w0.out Tryd.underlying51 k_w0 ln_w0 ?_) | (refine wpList_loadT rfl _ _ rfl rfl HA_g0.out Tryd.underlying51 k_g0 ln_g0 ?_) | (refine wpList_loadTG (by first | rfl | simp [Region.wanted, yielded]) _ _ rfl rfl HA_g0.out Tryd.underlying51 k_g0 ln_g0 ?_))
  refine (to_LeafS p0 _ Ap0 kp0 _ HR_p0.out sz_p0).mono ?_
  rintro e19 w19 ⟨A_t19, c_t19, rfl, lt19, mt19, hr_, hb19⟩
  have hl19 := hb19
  have hB19 : Below w.heap.size w w19 := Below.step hB18 hl19
  have hz19 : w18.heap.size + 0 ≤ w19.heap.size := by have := hb19.size; (try simp at this); omega
  replace HR_p0 := Lib.hid (Row.later HR_p0.out hl19)
  replace HR_p1 := Lib.hid (Row.later HR_p1.out hl19)
  replace HR_w0 := Lib.hid (Lay.later HR_w0.out hl19)
  replace HR_x0 := Lib.hid (Row.later HR_x0.out hl19)
  replace HR_x1 := Lib.hid (Row.later HR_x1.out hl19)
  replace HR_g0 := Lib.hid (Lay.later HR_g0.out hl19)
  replace HA_w0 := Lib.hid (HA_w0.out.below hl19 lt_w0); replace lt_w0 := Nat.lt_of_lt_of_le lt_w0 hl19.size
  replace HA_g0 := Lib.hid (HA_g0.out.below hl19 lt_g0); replace lt_g0 := Nat.lt_of_lt_of_le lt_g0 hl19.size
  have HR_t19 := Lib.hid (Row.mono hr_ (S' := rng (w18.heap.size) (w19.heap.size)) (fun b h => by unfold rng at h ⊢; (try simp at h); omega)); clear hr_
  have sb_t19 : sub (rng (w18.heap.size) (w19.heap.size)) (rng (w18.heap.size) (w19.heap.size)) := sub_refl _
  go_wp2_with (first | (refine wpList_loadT rfl _ _ rfl rfl HA_w0.out Tryd.underlying51 k_w0 ln_w0 ?_) | (refine wpList_loadTG (by first | rfl | simp [Region.wanted, yielded]) _ _ rfl rfl HA_w0.out Tryd.underlying51 k_w0 ln_w0 ?_) | (refine wpList_loadT rfl _ _ rfl rfl HA_g0.out Tryd.underlying51 k_g0 ln_g0 ?_) | (refine wpList_loadTG (by first | rfl | simp [Region.wanted, yielded]) _ _ rfl rfl HA_g0.out Tryd.underlying51 k_g0 ln_g0 ?_))
  refine (to_StringS p1 _ Ap1 kp1 _ HR_p1.out sz_p1).mono ?_
  rintro e20 w20 ⟨A_t20, c_t20, rfl, lt20, mt20, hr_, hb20⟩
  have hl20 := hb20
  have hB20 : Below w.heap.size w w20 := Below.step hB19 hl20
  have hz20 : w19.heap.size + 0 ≤ w20.heap.size := by have := hb20.size; (try simp at this); omega
  replace HR_p0 := Lib.hid (Row.later HR_p0.out hl20)
  replace HR_p1 := Lib.hid (Row.later HR_p1.out hl20)
  replace HR_w0 := Lib.hid (Lay.later HR_w0.out hl20)
  replace HR_x0 := Lib.hid (Row.later HR_x0.out hl20)
  replace HR_x1 := Lib.hid (Row.later HR_x1.out hl20)
  replace HR_g0 := Lib.hid (Lay.later HR_g0.out hl20)
  replace HR_t19 := Lib.hid (Row.later HR_t19.out hl20)
  replace HA_w0 := Lib.hid (HA_w0.out.below hl20 lt_w0); replace lt_w0 := Nat.lt_of_lt_of_le lt_w0 hl20.size
  replace HA_g0 := Lib.hid (HA_g0.out.below hl20 lt_g0); replace lt_g0 := Nat.lt_of_lt_of_le lt_g0 hl20.size
  have HR_t20 := Lib.hid (Row.mono hr_ (S' := rng (w19.heap.size) (w20.heap.size)) (fun b h => by unfold rng at h ⊢; (try simp at h); omega)); clear hr_
  have sb_t20 : sub (rng (w19.heap.size) (w20.heap.size)) (rng (w19.heap.size) (w20.heap.size)) := sub_refl _
  go_wp2_with (first | (refine wpList_loadT rfl _ _ rfl rfl HA_w0.out Tryd.underlying51 k_w0 ln_w0 ?_) | (refine wpList_loadTG (by first | rfl | simp [Region.wanted, yielded]) _ _ rfl rfl HA_w0.out Tryd.underlying51 k_w0 ln_w0 ?_) | (refine wpList_loadT rfl _ _ rfl rfl HA_g0.out Tryd.underlying51 k_g0 ln_g0 ?_) | (refine wpList_loadTG (by first | rfl | simp [Region.wanted, yielded]) _ _ rfl rfl HA_g0.out Tryd.underlying51 k_g0 ln_g0 ?_))
  refine (impl_ProveMany _ p0 A_t19 c_t19 _ (Row.weak HR_t19.out) lt19 mt19 sz_p0 p1 A_t20 c_t20 _ (Row.weak HR_t20.out) lt20 mt20 sz_p1 p2 hp2 (Tabs.later HTb.out hB20)).mono ?_
  rintro e21 w21 ⟨c_h0, rfl, hr_h0, hb21⟩
  have hl21 := hb21
  have hB21 : Below w.heap.size w w21 := Below.step hB20 hl21
  have hz21 : w20.heap.size + 0 ≤ w21.heap.size := by have := hb21.size; (try simp at this); omega
  replace HR_p0 := Lib.hid (Row.later HR_p0.out hl21)
  replace HR_p1 := Lib.hid (Row.later HR_p1.out hl21)
  replace HR_w0 := Lib.hid (Lay.later HR_w0.out hl21)
  replace HR_x0 := Lib.hid (Row.later HR_x0.out hl21)
  replace HR_x1 := Lib.hid (Row.later HR_x1.out hl21)
  replace HR_g0 := Lib.hid (Lay.later HR_g0.out hl21)
  replace HR_t19 := Lib.hid (Row.later HR_t19.out hl21)
  replace HR_t20 := Lib.hid (Row.later HR_t20.out hl21)
  replace HA_w0 := Lib.hid (HA_w0.out.below hl21 lt_w0); replace lt_w0 := Nat.lt_of_lt_of_le lt_w0 hl21.size
  replace HA_g0 := Lib.hid (HA_g0.out.below hl21 lt_g0); replace lt_g0 := Nat.lt_of_lt_of_le lt_g0 hl21.size
  have hr_ := hr_h0; clear hr_h0
  have HR_h0 := Lib.hid (Lay.mono hr_ (S' := rng (w20.heap.size) (w21.heap.size)) (fun b h => by unfold rng at h ⊢; (try simp at h); omega)); clear hr_
  have sb_h0 : sub (rng (w20.heap.size) (w21.heap.size)) (rng (w20.heap.size) (w21.heap.size)) := sub_refl _
  clear HR_t19
  clear HR_t20
  have ln_h0 := Lay.len HR_h0.out
  have on_h0 := Lay.one HR_h0.out
  have k_h0 : (Tryd.prog.info? 51).map (·.size) = some (Lay.n Many) := by kernel_rfl
  go_wp2_with (first | (refine wpList_storeNew (cs := c_h0.toArray) rfl _ _ _ rfl rfl rfl rfl (k_h0.trans (congrArg some ln_h0.symm)) (Eq.trans (b := Lay.n Many) rfl ln_h0.symm) (by simpa using on_h0) ?_) | (refine wpList_loadT rfl _ _ rfl rfl (At.new _ c_h0 _ (0, 0)) Tryd.underlying51 k_h0 ln_h0 ?_) | (refine wpList_loadTG (by first | rfl | simp [Region.wanted, yielded]) _ _ rfl rfl (At.new _ c_h0 _ (0, 0)) Tryd.underlying51 k_h0 ln_h0 ?_) | (refine wpList_loadT rfl _ _ rfl rfl (HA_w0.out.alloc lt_w0 _) Tryd.underlying51 k_w0 ln_w0 ?_) | (refine wpList_loadTG (by first | rfl | simp [Region.wanted, yielded]) _ _ rfl rfl (HA_w0.out.alloc lt_w0 _) Tryd.underlying51 k_w0 ln_w0 ?_) | (refine wpList_loadT rfl _ _ rfl rfl (HA_g0.out.alloc lt_g0 _) Tryd.underlying51 k_g0 ln_g0 ?_) | (refine wpList_loadTG (by first | rfl | simp [Region.wanted, yielded]) _ _ rfl rfl (HA_g0.out.alloc lt_g0 _) Tryd.underlying51 k_g0 ln_g0 ?_))
  refine (eq_Many (proveMany p0 p1 p2).1 _ _ _ _ _ (Lay.weak (Lay.later HR_h0.out ((Below.refl _ _).alloc (Nat.le_refl _) _))) (Lay.weak (Lay.later HR_w0.out ((Below.refl _ _).alloc (Nat.le_refl _) _)))).mono ?_
  rintro e22 w22 ⟨rfl, hb22⟩
  have hl22 : Below w21.heap.size w21 w22 := (Below.via hb22)
  have hB22 : Below w.heap.size w w22 := Below.step hB21 hl22
  have hz22 : w21.heap.size + 1 ≤ w22.heap.size := by have := hb22.size; (try simp at this); omega
  replace HR_p0 := Lib.hid (Row.later HR_p0.out hl22)
  replace HR_p1 := Lib.hid (Row.later HR_p1.out hl22)
  replace HR_w0 := Lib.hid (Lay.later HR_w0.out hl22)
  replace HR_x0 := Lib.hid (Row.later HR_x0.out hl22)
  replace HR_x1 := Lib.hid (Row.later HR_x1.out hl22)
  replace HR_g0 := Lib.hid (Lay.later HR_g0.out hl22)
  replace HR_h0 := Lib.hid (Lay.later HR_h0.out hl22)
  replace HA_w0 := Lib.hid (HA_w0.out.below hl22 lt_w0); replace lt_w0 := Nat.lt_of_lt_of_le lt_w0 hl22.size
  replace HA_g0 := Lib.hid (HA_g0.out.below hl22 lt_g0); replace lt_g0 := Nat.lt_of_lt_of_le lt_g0 hl22.size
  have HA_h0 : Hid (At w22 (w21.heap.size) 0 c_h0) := Lib.hid (by have := (At.new w21 c_h0 _ (0, 0)).below (b := w21.heap.size) hb22 (by simp); simpa using this)
  have lt_h0 : w21.heap.size < w22.heap.size := by omega
  go_wp2_with (first | (refine wpList_loadT rfl _ _ rfl rfl HA_w0.out Tryd.underlying51 k_w0 ln_w0 ?_) | (refine wpList_loadTG (by first | rfl | simp [Region.wanted, yielded]) _ _ rfl rfl HA_w0.out Tryd.underlying51 k_w0 ln_w0 ?_) | (refine wpList_loadT rfl _ _ rfl rfl HA_g0.out Tryd.underlying51 k_g0 ln_g0 ?_) | (refine wpList_loadTG (by first | rfl | simp [Region.wanted, yielded]) _ _ rfl rfl HA_g0.out Tryd.underlying51 k_g0 ln_g0 ?_) | (refine wpList_loadT rfl _ _ rfl rfl HA_h0.out Tryd.underlying51 k_h0 ln_h0 ?_) | (refine wpList_loadTG (by first | rfl | simp [Region.wanted, yielded]) _ _ rfl rfl HA_h0.out Tryd.underlying51 k_h0 ln_h0 ?_))
  refine (held_Many (proveMany p0 p1 p2).1 _ _ _ _ 1 (by first | rfl | simp) (by omega) (Lay.weak HR_g0.out)).mono ?_
  rw [hK_K3]
  rintro e23 w23 ⟨rfl, hb23⟩
  have hl23 := hb23
  have hB23 : Below w.heap.size w w23 := Below.step hB22 hl23
  have hz23 : w22.heap.size + 0 ≤ w23.heap.size := by have := hb23.size; (try simp at this); omega
  replace HR_p0 := Lib.hid (Row.later HR_p0.out hl23)
  replace HR_p1 := Lib.hid (Row.later HR_p1.out hl23)
  replace HR_w0 := Lib.hid (Lay.later HR_w0.out hl23)
  replace HR_x0 := Lib.hid (Row.later HR_x0.out hl23)
  replace HR_x1 := Lib.hid (Row.later HR_x1.out hl23)
  replace HR_g0 := Lib.hid (Lay.later HR_g0.out hl23)
  replace HR_h0 := Lib.hid (Lay.later HR_h0.out hl23)
  replace HA_w0 := Lib.hid (HA_w0.out.below hl23 lt_w0); replace lt_w0 := Nat.lt_of_lt_of_le lt_w0 hl23.size
  replace HA_g0 := Lib.hid (HA_g0.out.below hl23 lt_g0); replace lt_g0 := Nat.lt_of_lt_of_le lt_g0 hl23.size
  replace HA_h0 := Lib.hid (HA_h0.out.below hl23 lt_h0); replace lt_h0 := Nat.lt_of_lt_of_le lt_h0 hl23.size
  go_wp2_with (first | (refine wpList_loadT rfl _ _ rfl rfl HA_w0.out Tryd.underlying51 k_w0 ln_w0 ?_) | (refine wpList_loadTG (by first | rfl | simp [Region.wanted, yielded]) _ _ rfl rfl HA_w0.out Tryd.underlying51 k_w0 ln_w0 ?_) | (refine wpList_loadT rfl _ _ rfl rfl HA_g0.out Tryd.underlying51 k_g0 ln_g0 ?_) | (refine wpList_loadTG (by first | rfl | simp [Region.wanted, yielded]) _ _ rfl rfl HA_g0.out Tryd.underlying51 k_g0 ln_g0 ?_) | (refine wpList_loadT rfl _ _ rfl rfl HA_h0.out Tryd.underlying51 k_h0 ln_h0 ?_) | (refine wpList_loadTG (by first | rfl | simp [Region.wanted, yielded]) _ _ rfl rfl HA_h0.out Tryd.underlying51 k_h0 ln_h0 ?_))
  go_ret; exact ⟨rfl, hB23⟩
set_option maxRecDepth 100000 in
theorem lifted_ProveMany (os : Os) (started : os.Started) (H : Type) (enc : TypeId × Value → H) :
    ReturnsInHanded {} Tryd.checked os 7 .any (fun w args => (Rows.fnExactProveManySpec.pre enc Tryd.prog Tryd.f7 [] false w args ∧ laidMetH Tryd.prog laidSha w) ∧ sizedMet enc Tryd.prog Tryd.f7 (OpenSpec.ofChange Rows.fnExactProveManySpec) false w args)
      (Rows.fnExactProveManySpec.post enc Tryd.prog Tryd.f7 false true false false) := by
  refine returnsInHanded_of_change_and (C := Tryd.checked) (X := fun w _ => laidMetH Tryd.prog laidSha w) (fun _ _ _ hh h => h.of_heap hh) own_ started (by kernel_rfl) Tryd.func7
    (ChangeSpec.witness_shaped (enc := enc) (C := Tryd.checked) (os := os) (X := fun w _ => laidMetH Tryd.prog laidSha w) false (World.doorLaid Tryd.prog 34 os) #[.slice none 0 0, .slice none 0 0, .int .i64 0] 8 rfl (World.shaped_of_RefB (by kernel_rfl) (by kernel_rfl)) (by kernel_rfl) (by kernel_rfl) (by kernel_rfl) (door_met os _)) ?_
  intro W base args ds gs before hval0 hW hcnd _ hLaid _
  have hval : ∀ (j : Nat) t v, Tryd.f7.params[j]? = some t → args[j]? = some v → Value.okWide Tryd.prog W .any base t v := hval0
  have hW' := hW
  obtain ⟨p, q, hA0, hV, rfl, hfz, hnd⟩ := hW
  have hA : DataW.TrodAll enc Tryd.prog W 0 (fun _ => true) true Tryd.f7.params.toList args.toList ds p := hA0
  rw [Tryd.params7] at hA hval
  have hA2 := hA
  obtain ⟨v0, vs0, d0, ds0, p0, q0, hargs0, rfl, rfl, h0, r0⟩ := trodAll_cons hA
  obtain ⟨v1, vs1, d1, ds1, p1, q1, hargs1, rfl, rfl, h1, r1⟩ := trodAll_cons r0
  obtain ⟨v2, vs2, d2, ds2, p2, q2, hargs2, rfl, rfl, h2, r2⟩ := trodAll_cons r1
  obtain ⟨rfl, rfl, rfl⟩ := trodAll_nil r2
  try subst hargs1
  try subst hargs2
  obtain rfl : args = #[v0, v1, v2] := by cases args; simp_all
  have hV2 := hV
  obtain ⟨_, _, _, _, g0, _, _, _, _, _, g1, _, hgs, _⟩ := trodVars_two hV2
  subst hgs
  have ng0 := nagg_slice Tryd.underlying72 (hval 0 72 v0 rfl rfl)
  obtain ⟨fu0, hf0⟩ := h0
  obtain ⟨x0, hx0⟩ := rdb_LeafS H enc W 0 _ _ fu0 _ _ hf0
  obtain ⟨A0, k0, hc0, hl0, hm0, hr0⟩ := open_list hx0
  obtain rfl := cells_one hc0 ng0
  have ng1 := nagg_slice Tryd.underlying26 (hval 1 26 v1 rfl rfl)
  obtain ⟨fu1, hf1⟩ := h1
  obtain ⟨x1, hx1⟩ := rdb_StringS H enc W 0 _ _ fu1 _ _ hf1
  obtain ⟨A1, k1, hc1, hl1, hm1, hr1⟩ := open_list hx1
  obtain rfl := cells_one hc1 ng1
  have ng2 := nagg_int Tryd.underlying3 (hval 2 3 v2 rfl rfl)
  obtain ⟨fu2, hf2⟩ := h2
  obtain ⟨x2, hx2⟩ := rdb_int (Tryd.underlying3) H enc W 0 _ _ fu2 _ _ hf2
  obtain ⟨hc2, hi2⟩ := open_int hx2
  obtain rfl := cells_one hc2 ng2
  refine (law_ProveMany W x0 A0 k0 All hr0 hl0 hm0 x1 A1 k1 All hr1 hl1 hm1 x2 hi2 (tabs_of_laid hLaid)).mono fun e W' ⟨he, hb⟩ => ?_
  subst he
  refine ⟨_, rfl, post_below (pa := p0 ++ (p1 ++ (p2 ++ []))) (pv := q) hW' (fun _ _ _ => trodAll_mk1 (shut_bool Tryd.underlying4 true)) (fun sp hsp => ?_) (fun sp hsp => trodVars_stays laidOut_ hb (by kernel_rfl) hV (fun x hx => hsp x (by simp [hx]))) (by simp) hb (ok_one (by kernel_rfl) rfl (okWide_bool_mk Tryd.underlying4 true))⟩
  rw [show Tryd.f7.params.toList = _ from congrArg Array.toList Tryd.params7]
  exact trodAll_stays laidOut_ hb _ _ _ _ (by intro t ht; simp at ht; rcases ht with rfl | rfl | rfl <;> exact ⟨by kernel_rfl, by decide +kernel⟩) hA2 (fun x hx => hW'.lt x (by first | (simpa using Or.inl hx) | (simp at hx ⊢; rcases hx with hx | hx | hx | hx | hx <;> simp [hx]) | (simp at hx ⊢; rcases hx with hx | hx | hx | hx <;> simp [hx]) | (simp at hx ⊢; rcases hx with hx | hx | hx <;> simp [hx]) | (simp at hx ⊢; rcases hx with hx | hx <;> simp [hx]))) (fun x hx => hsp x (by first | (simpa using Or.inl hx) | (simp at hx ⊢; rcases hx with hx | hx | hx | hx | hx <;> simp [hx]) | (simp at hx ⊢; rcases hx with hx | hx | hx | hx <;> simp [hx]) | (simp at hx ⊢; rcases hx with hx | hx | hx <;> simp [hx]) | (simp at hx ⊢; rcases hx with hx | hx <;> simp [hx])))
theorem row_ProveMany : Rows.FnExactProveManySaid :=
  OpenClaim.holds_of_wide 7 Tryd.f7 rfl rfl rfl rfl rfl rfl rfl ⟨rfl, rfl, rfl, rfl, rfl⟩ rfl rfl rfl rfl rfl (by kernel_rfl) Tryd.func7 joined_ProveMany
    (of_decide_eq_true (by kernel_rfl)) (by unfold Func.isWrapper; first | (rw [if_pos (by decide +kernel)]; kernel_rfl) | (rw [if_neg (by decide +kernel)]; exact ⟨rfl, rfl⟩))
    (fun os started H enc _ => lifted_ProveMany os started H enc)
theorem holds_ProveMany : Rows.FnExactProveManyCardSaid :=
  Claim7.holds_tied_plain_at .later [] Rows.fnExactProveManyCard.laidKinds true Rows.fnExactProveManyCard.stood.harness false
    row_ProveMany (fun _ h => by cases h) (by as_aux_lemma => kernel_rfl) (fun _ h => by cases h) fnExactProveMany_row_tie rfl ⟨rfl, rfl⟩ (by as_aux_lemma => kernel_rfl) rfl
    (fun f fn hf hfn => by
      obtain rfl : f = 7 := Option.some.inj ((show Tryd.prog.funcNamed "loop.example/g00284/laws.FnExactProveMany" = some 7 by as_aux_lemma => kernel_rfl).symm.trans hf) |>.symm
      obtain rfl : fn = Tryd.f7 := (Option.some.inj (Tryd.func7.symm.trans hfn)).symm
      exact ⟨by as_aux_lemma => kernel_rfl, fun j t ht => by
        rw [Tryd.params7] at ht
        have hm : t ∈ [72, 26, 3] := by simpa using Array.mem_of_getElem? ht
        have hall : ([72, 26, 3].all fun u => !Tryd.prog.wantsStandIn u) = true := by as_aux_lemma => kernel_rfl
        exact (show Tryd.prog.wantsStandIn t = false by simpa using List.all_eq_true.1 hall t hm)⟩)
    (by as_aux_lemma => kernel_rfl)
end Go.Proofs.YtojbehmbeoemgaaDoor
