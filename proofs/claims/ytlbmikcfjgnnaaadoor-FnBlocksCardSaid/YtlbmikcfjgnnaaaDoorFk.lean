/- The walk of the law FnBlocks. -/
import Derived.Test.YtlbmikcfjgnnaaaDoorSw
import Derived.Test.YtlbmikcfjgnnaaaDoorSx
import Derived.Test.YtlbmikcfjgnnaaaDoorSt
import Derived.Test.YtlbmikcfjgnnaaaDoorBg
import Derived.Test.YtlbmikcfjgnnaaaDoorDo
import Derived.Test.YtlbmikcfjgnnaaaDoorDz
import Derived.Test.YtlbmikcfjgnnaaaDoorDs
import Derived.Test.YtlbmikcfjgnnaaaDoorDx
import Derived.Test.YtlbmikcfjgnnaaaDoorLw
import Derived.Deep.RegionHeld3
import Derived.BigQuiet
set_option linter.unusedVariables false
set_option linter.unusedSimpArgs false
namespace Go.Proofs.YtlbmikcfjgnnaaaDoor
open Go.RowKit Lay Mk
theorem pad_head (s : ByteArray) : (pad s).extract 0 s.size = s := by
  apply ByteArray.ext
  rw [ByteArray.data_extract]
  unfold pad bs padL
  apply Array.ext'
  simp [List.append_assoc]
theorem wordsOk_l {s : S8} (h : s.Ok) : wordsOk s.l = true := words_end (fun k hk => by
  have hk8 : k < 8 := hk
  have h1 := S8.get_ok h hk8
  rw [List.getD_eq_getElem?_getD, List.getElem?_eq_getElem hk, Option.getD_some] at h1
  obtain ⟨h2, h3⟩ := h1
  simp [inB]; omega)
theorem shaBl_l {s : S8} (h : s.Ok) {b : ByteArray} (hb : b.size = 64) : shaBl s.l b = (comp s b).l := shaBl_go rfl hb (wordsOk_l h)
theorem at_drew {w : World} {b o : Nat} {cs : List Value} (h : At w b o cs) : At w.drew b o cs := fun j u hu => h j u hu
theorem run_bytes_lit [hI : Inf UInt8] (w : World) (l : List UInt8) (vs : Array Value) (t : TypeId) (h : vs.toList = l.map u8c) :
    (convert (SlTy.st UInt8) (ty ByteArray) (.slice (some ⟨w.heap.size, 0, none⟩) l.length l.length)).run Tryd.prog (w.alloc (.cells vs t)).drew = .ok (.string (bs l)) (w.alloc (.cells vs t)).drew :=
  run_convert_bytes_back _ _ _ (ty UInt8) ⟨w.heap.size, 0, none⟩ _ l Inf.st Tryd.underlying5 Tryd.underlying9 (fun j hj => by rw [add_none]; exact at_drew (at_lit w vs t (0, 0) l h) j _ (by simp [u8c, hj]))
theorem run_four (w : World) (x : Nat) : (convert 22 9 (.slice (some ⟨w.heap.size, 0, none⟩) 4 4)).run Tryd.prog (w.alloc (.cells #[.int .u8 (IntKind.u8.wrap ((x : Int) / 16777216)), .int .u8 (IntKind.u8.wrap ((x : Int) / 65536)), .int .u8 (IntKind.u8.wrap ((x : Int) / 256)), .int .u8 (IntKind.u8.wrap (x : Int))] 5)).drew = .ok (.string (fourB x)) (w.alloc (.cells #[.int .u8 (IntKind.u8.wrap ((x : Int) / 16777216)), .int .u8 (IntKind.u8.wrap ((x : Int) / 65536)), .int .u8 (IntKind.u8.wrap ((x : Int) / 256)), .int .u8 (IntKind.u8.wrap (x : Int))] 5)).drew :=
  run_bytes_lit w [UInt8.ofNat (x / 16777216), UInt8.ofNat (x / 65536), UInt8.ofNat (x / 256), UInt8.ofNat x] _ _ (by simp [u8c, IntKind.wrap_u8'])
def Since (w v W : World) : Prop := Below w.heap.size w W ∧ Below v.heap.size v W
theorem Since.first {w v : World} (h : Below w.heap.size w v) : Since w v v.drew := ⟨h.drew, (Below.refl _ _).drew⟩
theorem Since.step {w v W W' : World} (h : Since w v W) (k : Below W.heap.size W W') : Since w v W' := ⟨Below.step h.1 k, Below.step h.2 k⟩
theorem Since.tabs {w v W : World} (h : Since w v W) (k : Tabs w) : Tabs W := k.later h.1
theorem Since.row {w v W : World} (h : Since w v W) {α : Type} [Lay α] {m : Bool} {A : Option Addr} {cap : Nat} {xs : List α} {S : Blks} (k : Row m v A cap xs S) : Row m W A cap xs S := k.later h.2
set_option maxRecDepth 100000 in set_option maxHeartbeats 8000000 in
theorem law_FnBlocks (w : World) (p0 : List UInt8) (A0 : Option Addr) (k0 : Nat) (S0 : Blks) (hp0 : Row false w A0 k0 p0 S0) (lp0 : p0.length ≤ k0) (mp0 : k0 ≤ maxLen) (hT : Tabs w) : Calls Tryd.prog 3 #[.slice A0 p0.length k0] w fun e w' => e = .returned (.bool true) ∧ Below w.heap.size w w' := by
  have HT := Lib.hid hT; clear hT
  replace hp0 := old_rngR hp0
  by_cases hbig : (1048576 : Int) < p0.length
  · have hd := decide_eq_true hbig
    go_enter Tryd.func3, Tryd.ntmps3
    go_wp2_with (go_at_call 4; refine (laws_big _ _ _ _).mono ?_; rintro e w' ⟨rfl, rfl⟩)
    go_ret; exact ⟨rfl, Below.refl _ _⟩
  have hd := decide_eq_false hbig
  have hlen : p0.length ≤ 1048576 := by omega
  clear hbig
  go_enter Tryd.func3, Tryd.ntmps3
  go_wp2_with (go_at_call 4; refine (laws_big _ _ _ _).mono ?_; rintro e w' ⟨rfl, rfl⟩)
  refine (spec_DrawTextOf _ p0 _ _ _ hp0 (fun b hb => hb.2) hlen).mono ?_
  rintro e1 w1 ⟨t, rfl, ht, hb1⟩
  go_wp2_with (fail)
  refine (impl_PadText _ t (by omega)).mono ?_
  rintro e2 w2 ⟨rfl, hb2⟩
  have hB2 := hb1.trans (hb2.mono hb1.size)
  go_wp2_with (fail)
  refine (impl_ShaStart _ (HT.out.later hB2)).mono ?_
  rintro e3 w3 ⟨A3, c3, rfl, hl3, hm3, hr3, hb3⟩
  have hB3 := hB2.trans (hb3.mono hB2.size)
  have hr3' := hr3.weak
  have HP0 := Lib.hid hp0
  clear hp0 hb1 hb2 hb3 hr3 hB2 hd
  have hp := pad_size t
  have hm := pad_mod t
  have hhd := pad_head t
  have HDg : Hid (digest t = bs (dig32 (digS t))) := Lib.hid rfl
  have HS : Hid (digS t = shaRun ((pad t).size / 64) shaFirst (pad t)) := Lib.hid rfl
  have HOK := Lib.hid (digS_ok t)
  obtain ⟨D, hD⟩ : ∃ D, digS t = D := ⟨_, rfl⟩
  rw [hD] at HDg HS HOK
  clear hD
  obtain ⟨P, hP⟩ : ∃ P, pad t = P := ⟨_, rfl⟩
  rw [hP] at hp hm hhd HS ⊢
  clear hP
  have hPz : P.size = 64 * (0 + P.size / 64) := by omega
  have hPs : P.size ≤ 6000 := by have := hp; unfold padZ at this; omega
  have q1 : ((P.size : Int) % 64 != 0) = false := by rw [bne_eq_false_iff_eq]; omega
  have q1b : ((P.size : Int).tmod 64 != 0) = false := by rw [Int.tmod_eq_emod_of_nonneg (by omega)]; exact q1
  have q2 : ((P.size : Int) < (t.size : Int) + 9) = False := by simp; omega
  have q3 : (t.size : Int) ≤ (P.size : Int) := by omega
  have q4 := str_eq hhd
  have HPZ := Lib.hid hPz
  have HS0 : Hid (D = shaRun (P.size / 64) shaFirst (P.extract (64 * 0) P.size)) := Lib.hid (by rw [HS.out]; congr 1; exact (ByteArray.extract_zero_size).symm)
  clear hPz hp hm hhd HS
  go_wp2

  go_loopw [5, 6] (fun u i wr => ∃ (n k : Nat) (s : S8) (A : Option Addr) (c : Nat) (S : Blks), u = .slice A 8 c ∧ i = .int .i64 (64 * (k : Int)) ∧ s.Ok ∧ Hid (P.size = 64 * (k + n)) ∧ Hid (D = shaRun n s (P.extract (64 * k) P.size)) ∧ 8 ≤ c ∧ c ≤ maxLen ∧ Row false wr A c s.l S ∧ Below w.heap.size w wr) (fun _ i _ => P.size - (intOf i).toNat)
  case atStart => exact ⟨P.size / 64, 0, shaFirst, A3, c3, _, rfl, by simp, first_ok, HPZ, HS0, hl3, hm3, hr3', hB3⟩
  case round =>
    clear hr3' hB3 HPZ HS0 q1 q1b q2 q3 q4
    obtain ⟨n, k, s, A, c, S, rfl, rfl, hs, hr, hrun, hlc, hcm, hrw, hB⟩ := hrel
    have hz := hB.size
    cases n with
    | succ n =>
      have hPk : 64 * k + 64 ≤ P.size := by have := hr.out; omega
      have hlt : 64 * (k : Int) < (P.size : Int) := by omega
      have hm : Hid (D = shaRun n (comp s (P.extract (64 * k) (64 * k + 64))) (P.extract (64 * (k + 1)) P.size)) := Lib.hid (by rw [hrun.out]; show shaRun n (comp s ((P.extract (64 * k) P.size).extract 0 64)) ((P.extract (64 * k) P.size).extract 64 (P.extract (64 * k) P.size).size) = _; rw [ext_head P k hPk, ext_tail P k hPk])
      have HX1 : Hid ((P.extract (64 * k) (64 * k + 64)).size = 64) := Lib.hid (by rw [ByteArray.size_extract]; omega)
      have hr2 : Hid (P.size = 64 * (k + 1 + n)) := Lib.hid (by have := hr.out; omega)
      have hok' := comp_ok s (P.extract (64 * k) (64 * k + 64))
      have HL := Lib.hid (shaBl_l hs HX1.out)
      clear hrun hr
      have e1 : IntKind.i64.wrap (64 * (k : Int) + 64) = 64 * (k : Int) + 64 := IntWalk.i64_in _ (by omega)
      have n1 : (64 * (k : Int) + 64).toNat = 64 * k + 64 := by omega
      have n0 : (64 * (k : Int)).toNat = 64 * k := by omega
      have m0 : 0 ≤ 64 * (k : Int) := by omega
      have m1 : 0 ≤ 64 * (k : Int) + 64 := by omega
      have l1 : 64 * (k : Int) + 64 ≤ (P.size : Int) := by omega
      have l0 : 64 * (k : Int) ≤ 64 * (k : Int) + 64 := by omega
      go_wp2_with (fail)
      refine (impl_ShaBlock _ s.l A c S hrw (show s.l.length ≤ 1048576 by have : s.l.length = 8 := rfl; omega) (P.extract (64 * k) (64 * k + 64)) (HT.out.later hB)).mono ?_
      rintro e4 w4 ⟨A4, c4, rfl, h4l, h4m, h4r, hb4⟩
      rw [HL.out] at h4l h4r ⊢
      replace h4r := h4r.weak
      have hB2 := hB.trans (hb4.mono hz)
      obtain ⟨s2, hs2⟩ : ∃ s2, comp s (P.extract (64 * k) (64 * k + 64)) = s2 := ⟨_, rfl⟩
      rw [hs2] at hok' hm h4l h4r ⊢
      have hl8 : s2.l.length = 8 := rfl
      rw [hl8] at h4l ⊢
      clear hs2 HL HX1 hrw hB
      go_wp2
      go_roundw
      case rel => exact ⟨n, k + 1, s2, A4, c4, _, rfl, by rw [show (64 * ((k + 1 : Nat) : Int)) = 64 * (k : Int) + 64 from by omega], hok', hr2, hm, h4l, h4m, h4r, hB2⟩
      case measure => simp [intOf]; omega
    | zero =>
      have hge : ¬ 64 * (k : Int) < (P.size : Int) := by have := hr.out; omega
      have HE : Hid (D = s) := Lib.hid hrun.out
      clear hrun hr
      go_wp2
      go_loopw [7, 8] (fun u i wr => ∃ (k : Nat), k ≤ 8 ∧ i = .int .i64 k ∧ u = .string (bs ((dig32 s).take (4 * k))) ∧ Row false wr A c s.l S ∧ Below w.heap.size w wr) (fun _ i _ => 8 - (intOf i).toNat)
      case atStart => exact ⟨0, by omega, rfl, rfl, hrw, hB⟩
      case round =>
        clear hrw hB hz
        obtain ⟨k, hk, rfl, rfl, hrw, hB⟩ := hrel
        have hz := hB.size
        by_cases hlt : k < 8
        · have hw := S8.get_ok hs hlt
          have hst := Lib.hid (dig_step s hlt)
          have hk8 : k < s.l.length := hlt
          obtain ⟨b1, o1, rfl, hl1, f0, i0⟩ := Row.int hrw hk8
          have hgd : s.l.getD k 0 = s.l[k]'hk8 := by rw [List.getD_eq_getElem?_getD, List.getElem?_eq_getElem hk8, Option.getD_some]
          rw [hgd] at hw hst
          obtain ⟨x, hx⟩ : ∃ x, s.l[k]'hk8 = x := ⟨_, rfl⟩
          rw [hx] at hw hst f0
          clear hx hgd i0
          obtain ⟨hw0, hw1⟩ := hw
          obtain ⟨x, rfl⟩ : ∃ n : Nat, x = n := ⟨x.toNat, by omega⟩
          rw [← fourB_b4] at hst
          have hc : (bs ((dig32 s).take (4 * k))).size ≤ 32 := by rw [bs_size, List.length_take]; have : (dig32 s).length = 32 := rfl; omega
          have h4 := fourB_size x
          have hcat : ¬ 9223372036854775807 < (bs ((dig32 s).take (4 * k))).size + (fourB x).size := by omega
          clear h4 hc
          obtain ⟨q, hq⟩ : ∃ q, bs ((dig32 s).take (4 * k)) = q := ⟨_, rfl⟩
          rw [hq] at hst hcat ⊢
          clear hq
          have hx4 : x < 4294967296 := by omega
          clear hw0 hw1 hk8
          have hcv := run_four wr x
          go_wp2_with (fail)
          go_region_held (fun w' => w'.cell? ⟨b1, o1 + k, none⟩ = some (.int .i64 x) ∧ Below wr.heap.size wr w')
            (first | (refine And.intro ?_ ?_ <;> first | exact (Below.refl _ _).drew | exact ((Below.refl _ wr).drew.cell (p := ⟨b1, o1 + k, none⟩) hl1).trans f0 | exact ((Below.refl _ _).alloc (Nat.le_refl _) _).drew | exact (((Below.refl wr.heap.size wr).alloc (Nat.le_refl _) _).drew.cell (p := ⟨b1, o1 + k, none⟩) hl1).trans f0 | (go_keep; done)))
            (fail)
          clear hcv
          go_wp2
          go_roundw
          case rel => exact ⟨k + 1, by omega, by go_num, by rw [hst.out], Row.later hrw ((Below.refl _ _).alloc (Nat.le_refl _) _).drew, Below.step hB ((Below.refl _ _).alloc (Nat.le_refl _) _).drew⟩
          case measure => simp [intOf]; omega
        · have hke : k = 8 := by omega
          subst hke
          have hq : bs ((dig32 s).take (4 * 8)) = digest t := by rw [HDg.out, HE.out]; rfl
          have HDI := Lib.hid (fun W h => impl_Digest W t (by omega) h)
          have HDS := Lib.hid (fun W => spec_Digest W t (by omega))
          have HCD := Lib.hid (fun W h => impl_CutDigest W t (by omega) 5 (by unfold I64; omega) h)
          rw [cut_yes (t := t) (n := 5) (by omega) (by omega)] at HCD
          rw [show (5 : Int).toNat = 5 from rfl] at HCD
          have hqs := digest_size t
          rw [hq]
          clear hq HDg HE HOK hs hrw hlt hk
          obtain ⟨q, hq⟩ : ∃ q, digest t = q := ⟨_, rfl⟩
          rw [hq] at HDI HDS HCD hqs ⊢
          clear hq
          go_wp2_with (fail)
          refine (spec_DrawShaBlock _ p0 A0 k0 _ (Row.later HP0.out hB) (fun b hb => Nat.lt_of_lt_of_le hb.2 hz) hlen).mono ?_
          rintro e5 w5 ⟨t2, st, A5, c5, S5, rfl, ht2, hst8, hlc5, hcm5, hr5, hb5⟩
          have hB5 := Below.step hB hb5
          have HR5 := Lib.hid hr5
          have v1 := str_eq (rfl : q = q)
          have v2 : ((q.size : Int) == 32) = true := by rw [beq_iff_eq]; omega
          have v3 : (5 : Int) ≤ (q.size : Int) := by omega
          have v4 := str_eq (rfl : q.extract 0 5 = q.extract 0 5)
          have hsl : (shaBl st t2).length ≤ 4000000000 := by rw [shaBl_length]; omega
          clear hB hb5 hr5 hz hqs hlc hcm hge hPs
          go_wp2_with (fail)
          go_region_held (fun w' => Since w w5 w')
            (first | exact Since.first hB5 | exact Since.step (by assumption) hb8 | exact Since.step (by assumption) hb7 | exact Since.step (by assumption) hb6 | exact Since.step (by assumption) hb3 | exact Since.step (by assumption) hb2 | exact Since.step (by assumption) hb1)
            (first
              | (go_at_call 10; refine (HDI.out _ (Since.tabs (by assumption) HT.out)).mono ?_; rintro e1 w1 ⟨rfl, hb1⟩)
              | (go_at_call 11; refine (HDS.out _).mono ?_; rintro e1 w1 ⟨rfl, hb2⟩)
              | (go_at_call 12; refine (HCD.out _ (Since.tabs (by assumption) HT.out)).mono ?_; rintro e1 w1 ⟨rfl, hb3⟩)
              | (go_at_call 8; refine (impl_ShaBlock _ st A5 c5 S5 (Since.row (by assumption) HR5.out) (by omega) t2 (Since.tabs (by assumption) HT.out)).mono ?_; rintro e1 w1 ⟨A6, c6, rfl, h6l, h6m, h6r, hb6⟩)
              | (go_at_call 14; refine (spec_ShaBlock _ st A5 c5 S5 (Since.row (by assumption) HR5.out) (by omega) t2).mono ?_; rintro e1 w1 ⟨A7, c7, rfl, h7l, h7m, h7r, hb7⟩)
              | (go_at_call 13; (first | refine (laws_sameInts _ (shaBl st t2) A6 c6 _ (Row.later h6r.weak hb7) A7 c7 _ h7r.weak hsl).mono ?_ | refine (laws_sameInts _ (shaBl st t2) A6 c6 _ h6r.weak A7 c7 _ (Row.later h7r.weak hb6) hsl).mono ?_); rintro e1 w1 ⟨rfl, hb8⟩))
          all_goals (go_wp2; go_ret; exact ⟨rfl, (show Since w w5 _ by assumption).1⟩)
end Go.Proofs.YtlbmikcfjgnnaaaDoor
