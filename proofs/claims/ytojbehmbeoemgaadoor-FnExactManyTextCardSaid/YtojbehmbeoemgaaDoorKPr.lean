/- Hashes joined two by two; the root of a pool. -/
import Derived.Test.YtojbehmbeoemgaaDoorKSi
import Derived.Test.YtojbehmbeoemgaaDoorB2
set_option linter.unusedVariables false
set_option linter.unusedSimpArgs false
namespace Go.Proofs.YtojbehmbeoemgaaDoor
open Go.RowKit Lay Mk
def aboveT (n : Int) (l : List ByteArray) : Nat → List ByteArray
  | 0 => []
  | k + 1 => aboveT n l k ++ [tagHash 3 [l.getD (2 * k) ⟨#[]⟩, l.getD (2 * k + 1) ⟨#[]⟩] n]
def aboveL (n : Int) (l : List ByteArray) : List ByteArray := aboveT n l (l.length / 2)
theorem aboveT_len (n : Int) (l : List ByteArray) : ∀ k, (aboveT n l k).length = k
  | 0 => rfl
  | k + 1 => by unfold aboveT; rw [List.length_append, aboveT_len n l k]; rfl
theorem aboveL_len (n : Int) (l : List ByteArray) : (aboveL n l).length = l.length / 2 := aboveT_len n l _
def topOf (n : Int) : Nat → List ByteArray → ByteArray
  | 0, l => l.getD 0 ⟨#[]⟩
  | d + 1, l => topOf n d (aboveL n l)
def poolRoot (l : List ByteArray) : ByteArray := if l.length = 16 then topOf 16 4 l else ⟨#[]⟩
theorem getD_lt {l : List ByteArray} {k : Nat} (h : k < l.length) : l.getD k ⟨#[]⟩ = l[k] := by
  rw [List.getD_eq_getElem?_getD, List.getElem?_eq_getElem h, Option.getD_some]
def lenV : Value → Nat
  | .slice _ n _ => n
  | _ => 0
theorem row_pairAt (w : World) (s t : ByteArray) (hs : s.size ≤ maxLen) (ht : t.size ≤ maxLen) (ty : TypeId) (b : Nat) (hb : b = w.heap.size) : Row false (w.alloc (.cells #[.string s, .string t] ty)) (some ⟨b, 0, none⟩) 2 [s, t] (fun q => q = b) := by
  subst hb; exact row_pair w s t hs ht ty
theorem hash_max (k : Int) (l : List ByteArray) (n : Int) : (tagHash k l n).size ≤ maxLen := ml (tagHash_le k l n) (by omega)
set_option maxRecDepth 20000 in set_option maxHeartbeats 4000000 in
theorem spec_l05Up (w : World) (l : List ByteArray) (A : Option Addr) (cap : Nat) (S : Blks) (hx : Row false w A cap l S) (hl : l.length ≤ 1048576) : Calls Tryd.prog 113 #[.slice A l.length cap] w (OwnRes (aboveL 16 l) w) := by
  have HF : Hid (aboveL 16 l = aboveT 16 l (l.length / 2)) := Lib.hid rfl
  go_enter Tryd.func113, Tryd.ntmps113
  go_wp2
  have HO := Lib.hid (Own.litAt (α := ByteArray) (Below.refl w.heap.size w) 9 rfl (b := w.heap.size) rfl)
  go_loopw [3, 4] (fun u i wr => ∃ (m k : Nat) (L : List ByteArray) (A2 : Option Addr) (c : Nat), Hid (m = 2 * k) ∧ m ≤ l.length ∧ i = .int .i64 m ∧ u = .slice A2 L.length c ∧ Hid (L = aboveT 16 l k) ∧ L.length ≤ m ∧ Own w wr A2 c L) (fun _ i _ => l.length - (intOf i).toNat)
  case atStart => exact ⟨0, 0, [], some ⟨w.heap.size, 0, none⟩, 0, Lib.hid rfl, Nat.zero_le _, rfl, rfl, Lib.hid rfl, by simp, HO.out⟩
  case round =>
    clear HO
    obtain ⟨m, k, L, A2, c, hmk, hm, rfl, rfl, HL, hLl, hown⟩ := hrel
    by_cases hlt : m + 1 < l.length
    · obtain ⟨b1, o1, rfl, hl1, f0, s0⟩ := Row.str hx (i := m) (by omega)
      obtain ⟨b2, o2, e2, hl2, f1, s1⟩ := Row.str hx (i := m + 1) hlt
      cases e2
      have hb := hown.bl
      have HN : Hid (aboveT 16 l (k + 1) = L ++ [tagHash 3 [l[m]'(by omega), l[m + 1]] 16]) := Lib.hid (by
        have e := hmk.out
        subst e
        rw [aboveT, ← HL.out, getD_lt (k := 2 * k) (by omega), getD_lt (k := 2 * k + 1) hlt])
      obtain ⟨a, ha⟩ : ∃ a, l[m]'(by omega) = a := ⟨_, rfl⟩
      obtain ⟨b, hb'⟩ : ∃ b, l[m + 1] = b := ⟨_, rfl⟩
      rw [ha] at f0 s0 HN
      rw [hb'] at f1 s1 HN
      have hm2 : (m : Int) + 1 < (l.length : Int) := by omega
      have hmz : (m : Int) < (l.length : Int) := by omega
      have hm3 : IntKind.i64.wrap ((m : Int) + 1) = (m : Int) + 1 := IntWalk.i64_in _ (by omega)
      have hm4 : (0 : Int) ≤ (m : Int) + 1 := by omega
      have hm5 : ((m : Int) + 1).toNat = m + 1 := by omega
      have HOW := Lib.hid hown
      have hlr : b1 < wr.heap.size := Nat.lt_of_lt_of_le hl1 hb.size
      have hBw := hb
      have hBws := hb.size
      have hwl := hb.size
      clear ha hb' hown hb hl2
      have HN2 := Lib.hid (fun (h : ByteArray) (hh : tagHash 3 [a, b] 16 = h) => (show aboveT 16 l (k + 1) = L ++ [h] by rw [HN.out, hh]))
      obtain ⟨h, hh⟩ : ∃ h, tagHash 3 [a, b] 16 = h := ⟨_, rfl⟩
      have HNh := Lib.hid (HN2.out h hh)
      have hhm := hash_max 3 [a, b] 16
      rw [hh] at hhm
      have HC := Lib.hid (fun W (h1 : Row false W (some ⟨W.heap.size - 1, 0, none⟩) 2 [a, b] (fun q => q = W.heap.size - 1)) => h1)
      have hB := Below.refl wr.heap.size wr
      have HM := Lib.hid (fun (w' : World) (h : Below w.heap.size w w') => (⟨(h.cell (p := ⟨b1, o1 + m, none⟩) hl1).trans f0, (h.cell (p := ⟨b1, o1 + (m + 1), none⟩) hl1).trans f1, h⟩ : w'.cell? ⟨b1, o1 + m, none⟩ = some (.string a) ∧ w'.cell? ⟨b1, o1 + (m + 1), none⟩ = some (.string b) ∧ Below w.heap.size w w'))
      have HH := Lib.hid hh
      clear f0 f1 HN HN2 hh HC
      go_wp2_with (fail)
      go_region_held3 (fun w' => w'.cell? ⟨b1, o1 + m, none⟩ = some (.string a) ∧ w'.cell? ⟨b1, o1 + (m + 1), none⟩ = some (.string b) ∧ Below w.heap.size w w')
        (first | exact HM.out _ hE | exact HM.out _ (hBw.trans (Below.mono (w := wr) (by (repeat (first | with_reducible exact hB | with_reducible apply Below.drew | with_reducible refine Below.alloc ?_ ?_ _)); all_goals (first | omega | (simp; done) | (simp; omega))) hBws)))
        (first | (go_at_call 82; refine (spec_TagHash _ 3 (by unfold I64; omega) [a, b] _ _ _ (by first | exact row_pairAt _ a b s0 s1 _ _ (by first | rfl | simp) | exact Row.drewC (row_pairAt _ a b s0 s1 _ _ (by first | rfl | simp))) (by simp) 16 (by unfold I64; omega)).mono ?_; rintro e5 w5 ⟨rfl, hb5⟩; (try simp only [HH.out]); have hB := Below.step (a := wr) (by (repeat (first | with_reducible exact hB | with_reducible apply Below.drew | with_reducible refine Below.alloc ?_ ?_ _)); all_goals (first | omega | (simp; done) | (simp; omega))) hb5; have hs5 := hB.size) | ((refine step_push (α := ByteArray) (w0 := w) rfl _ _ rfl rfl rfl (HOW.out.later (by (repeat (first | with_reducible exact hB | with_reducible apply Below.drew | with_reducible refine Below.alloc ?_ ?_ _)); all_goals (first | omega | (simp; done) | (simp; omega)))) rfl rfl (src1 hhm (by first | rfl | simp) rfl) (by omega) ?_); intro A6 c6 w6 o6 hE))
      go_wp2
      go_roundw
      case rel => exact ⟨m + 2, k + 1, L ++ [h], A6, c6, Lib.hid (by have := hmk.out; omega), by omega, by go_num, by simp, Lib.hid HNh.out.symm, by simp; omega, o6⟩
      case measure => simp [intOf]; omega
    · have HE : Hid (aboveL 16 l = L) := Lib.hid (by rw [HF.out, HL.out]; congr 1; have := hmk.out; omega)
      have HOW := Lib.hid hown
      clear hown
      go_wp2
      go_ret
      exact OwnRes.mk HOW.out HE.out rfl
set_option maxRecDepth 20000 in set_option maxHeartbeats 4000000 in
theorem spec_PoolRoot (w : World) (l : List ByteArray) (A : Option Addr) (cap : Nat) (S : Blks) (hx : Row false w A cap l S) (hl : l.length ≤ 1048576) : Calls Tryd.prog 107 #[.slice A l.length cap] w fun e w' => e = .returned (.string (poolRoot l)) ∧ Below w.heap.size w w' := by
  by_cases h16 : l.length = 16
  rotate_left
  · have HF : Hid (poolRoot l = ⟨#[]⟩) := Lib.hid (by unfold poolRoot; rw [if_neg h16])
    have hq : ((l.length : Int) != 16) = true := by rw [bne_iff_ne]; omega
    clear h16
    go_enter Tryd.func107, Tryd.ntmps107
    go_wp2
    go_ret
    exact ⟨ret_str (by rw [HF.out]), Below.refl _ _⟩
  have HF : Hid (poolRoot l = topOf 16 4 l) := Lib.hid (by unfold poolRoot; rw [if_pos h16])
  have hq : ((l.length : Int) != 16) = false := by rw [bne_eq_false_iff_eq]; omega
  have H16 := Lib.hid h16
  clear h16
  go_enter Tryd.func107, Tryd.ntmps107
  have HO := Lib.hid (Own.litAt (α := ByteArray) (Below.refl w.heap.size w) 9 rfl (b := w.heap.size) rfl)
  have HS := Lib.hid (fun (W : World) (h : Below w.heap.size w W) => Src.flat (Row.later hx h))
  go_wp2_with (at_builtin; refine wpList_push (α := ByteArray) rfl _ _ rfl rfl rfl HO.out rfl rfl (HS.out _ ((Below.refl _ _).alloc (Nat.le_refl _) _)) (by simp; omega) ?_; intro A6 c6 w6 o6 z6)
  have HO6 := Lib.hid o6
  clear o6 HO HS
  go_loopw [3] (fun u wr => ∃ (d : Nat) (L : List ByteArray) (A2 : Option Addr) (c : Nat) (S2 : Blks), u = .slice A2 L.length c ∧ Hid (L.length = 2 ^ d) ∧ L.length ≤ 1048576 ∧ Hid (poolRoot l = topOf 16 d L) ∧ Row false wr A2 c L S2 ∧ Below w.heap.size w wr) (fun u _ => lenV u)
  case atStart => exact ⟨4, l, A6, c6, _, by simp, H16, by omega, Lib.hid HF.out, by simpa using HO6.out.weak, HO6.out.bl⟩
  case round =>
    clear hx HF H16 HO6
    obtain ⟨d, L, A2, c, S2, rfl, HD, hLl, HR, hrow, hb⟩ := hrel
    have HB := Lib.hid hb
    cases d with
    | zero =>
      have h1 : L.length = 1 := HD.out
      obtain ⟨b1, o1, rfl, hl1, f0, s0⟩ := Row.str hrow (i := 0) (by omega)
      have HR2 : Hid (poolRoot l = L[0]'(by omega)) := Lib.hid (by rw [HR.out, topOf, getD_lt])
      obtain ⟨y, hy⟩ : ∃ y, L[0]'(by omega) = y := ⟨_, rfl⟩
      rw [hy] at f0 HR2
      simp only [Nat.add_zero] at f0
      rw [h1]
      clear hy s0 h1 HD HR hrow hb
      go_wp2
      go_ret
      exact ⟨ret_str (by rw [HR2.out]), HB.out⟩
    | succ d =>
      have h2 : 1 < L.length := by have := HD.out; rw [this, Nat.pow_succ]; have := Nat.one_le_two_pow (n := d); omega
      have h2' : (1 : Int) < (L.length : Int) := by omega
      have HD2 : Hid (L.length / 2 = 2 ^ d) := Lib.hid (by rw [HD.out, Nat.pow_succ]; omega)
      go_wp2_with (fail)
      refine (spec_l05Up _ L A2 c S2 hrow hLl).mono ?_
      rintro e5 w5 ⟨A5, c5, rfl, own⟩
      have hlen := aboveL_len 16 L
      have HR2 : Hid (poolRoot l = topOf 16 d (aboveL 16 L)) := Lib.hid (by rw [HR.out, topOf])
      obtain ⟨L5, hL5⟩ : ∃ L5, aboveL 16 L = L5 := ⟨_, rfl⟩
      rw [hL5] at own hlen HR2
      simp only [hL5]
      clear hL5 hrow hb
      have HO := Lib.hid own
      have HL5 := Lib.hid hlen
      have hlt5 : L5.length < L.length := by omega
      clear own hlen
      go_wp2
      go_roundw
      case rel => exact ⟨d, L5, A5, c5, _, rfl, Lib.hid (by rw [HL5.out]; exact HD2.out), by omega, HR2, HO.out.weak, HB.out.trans (HO.out.bl.mono HB.out.size)⟩
      case measure => simp [lenV]; omega
end Go.Proofs.YtojbehmbeoemgaaDoor
