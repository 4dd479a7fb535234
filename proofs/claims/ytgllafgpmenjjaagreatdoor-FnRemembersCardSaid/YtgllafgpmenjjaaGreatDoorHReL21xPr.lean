/- A part of the proof: what the laws need of it. -/
import Derived.Test.YtgllafgpmenjjaaGreatDoorHReL20xSi
import Derived.Test.YtgllafgpmenjjaaGreatDoorHReL11xDp
import Derived.Deep.RegionHeld3
import Derived.Test.YtgllafgpmenjjaaGreatDoorHReL10xDt
set_option linter.unusedVariables false
set_option linter.unusedSimpArgs false
set_option linter.unusedVariables false
set_option linter.unusedSimpArgs false
namespace Go.Proofs.YtgllafgpmenjjaaGreatDoor
open Go.RowKit Lay Mk
def aboveT (n : Int) (l : List ByteArray) : Nat → List ByteArray
  | 0 => []
  | k + 1 => aboveT n l k ++ [tagHash 3 [l.getD (2 * k) ⟨#[]⟩, l.getD (2 * k + 1) ⟨#[]⟩] n]
def aboveL (n : Int) (l : List ByteArray) : List ByteArray := aboveT n l (l.length / 2)
theorem aboveT_len (n : Int) (l : List ByteArray) : ∀ k, (aboveT n l k).length = k
  | 0 => rfl
  | k + 1 => by unfold aboveT; rw [List.length_append, aboveT_len n l k]; rfl
theorem aboveL_len (n : Int) (l : List ByteArray) : (aboveL n l).length = l.length / 2 := aboveT_len n l _
def topOf (n : Int) : Nat → List ByteArray → ByteArray
  | 0, l => l.getD 0 ⟨#[]⟩
  | d + 1, l => topOf n d (aboveL n l)
def poolRoot (l : List ByteArray) : ByteArray := if l.length = 16 then topOf 16 4 l else ⟨#[]⟩
theorem getD_lt {l : List ByteArray} {k : Nat} (h : k < l.length) : l.getD k ⟨#[]⟩ = l[k] := by
  rw [List.getD_eq_getElem?_getD, List.getElem?_eq_getElem h, Option.getD_some]
def lenV : Value → Nat
  | .slice _ n _ => n
  | _ => 0
theorem row_pairAt (w : World) (s t : ByteArray) (hs : s.size ≤ maxLen) (ht : t.size ≤ maxLen) (ty : TypeId) (b : Nat) (hb : b = w.heap.size) : Row false (w.alloc (.cells #[.string s, .string t] ty)) (some ⟨b, 0, none⟩) 2 [s, t] (fun q => q = b) := by
  subst hb; exact row_pair w s t hs ht ty
theorem hash_max (k : Int) (l : List ByteArray) (n : Int) : (tagHash k l n).size ≤ maxLen := ml (tagHash_le k l n) (by omega)
set_option maxRecDepth 20000 in set_option maxHeartbeats 4000000 in
theorem spec_l05Up (w : World) (l : List ByteArray) (A : Option Addr) (cap : Nat) (S : Blks) (hx : Row false w A cap l S) (hl : l.length ≤ 1048576) : Calls Tryz.prog 193 #[.slice A l.length cap] w (OwnRes (aboveL 16 l) w) := by
  have HF : Hid (aboveL 16 l = aboveT 16 l (l.length / 2)) := Lib.hid rfl
  go_enter Tryz.func193, Tryz.ntmps193
  go_wp2
  have HO := Lib.hid (Own.litAt (α := ByteArray) (Below.refl w.heap.size w) 9 rfl (b := w.heap.size) rfl)
  go_loopw [3, 4] (fun u i wr => ∃ (m k : Nat) (L : List ByteArray) (A2 : Option Addr) (c : Nat), Hid (m = 2 * k) ∧ m ≤ l.length ∧ i = .int .i64 m ∧ u = .slice A2 L.length c ∧ Hid (L = aboveT 16 l k) ∧ L.length ≤ m ∧ Own w wr A2 c L) (fun _ i _ => l.length - (intOf i).toNat)
  case atStart => exact ⟨0, 0, [], some ⟨w.heap.size, 0, none⟩, 0, Lib.hid rfl, Nat.zero_le _, rfl, rfl, Lib.hid rfl, by simp, HO.out⟩
  case round =>
    clear HO
    obtain ⟨m, k, L, A2, c, hmk, hm, rfl, rfl, HL, hLl, hown⟩ := hrel
    by_cases hlt : m + 1 < l.length
    · obtain ⟨b1, o1, rfl, hl1, f0, s0⟩ := Row.str hx (i := m) (by omega)
      obtain ⟨b2, o2, e2, hl2, f1, s1⟩ := Row.str hx (i := m + 1) hlt
      cases e2
      have hb := hown.bl
      have HN : Hid (aboveT 16 l (k + 1) = L ++ [tagHash 3 [l[m]'(by omega), l[m + 1]] 16]) := Lib.hid (by
        have e := hmk.out
        subst e
        rw [aboveT, ← HL.out, getD_lt (k := 2 * k) (by omega), getD_lt (k := 2 * k + 1) hlt])
      obtain ⟨a, ha⟩ : ∃ a, l[m]'(by omega) = a := ⟨_, rfl⟩
      obtain ⟨b, hb'⟩ : ∃ b, l[m + 1] = b := ⟨_, rfl⟩
      rw [ha] at f0 s0 HN
      rw [hb'] at f1 s1 HN
      have hm2 : (m : Int) + 1 < (l.length : Int) := by omega
      have hmz : (m : Int) < (l.length : Int) := by omega
      have hm3 : IntKind.i64.wrap ((m : Int) + 1) = (m : Int) + 1 := IntWalk.i64_in _ (by omega)
      have hm4 : (0 : Int) ≤ (m : Int) + 1 := by omega
      have hm5 : ((m : Int) + 1).toNat = m + 1 := by omega
      have HOW := Lib.hid hown
      have hlr : b1 < wr.heap.size := Nat.lt_of_lt_of_le hl1 hb.size
      have hBw := hb
      have hBws := hb.size
      have hwl := hb.size
      clear ha hb' hown hb hl2
      have HN2 := Lib.hid (fun (h : ByteArray) (hh : tagHash 3 [a, b] 16 = h) => (show aboveT 16 l (k + 1) = L ++ [h] by rw [HN.out, hh]))
      obtain ⟨h, hh⟩ : ∃ h, tagHash 3 [a, b] 16 = h := ⟨_, rfl⟩
      have HNh := Lib.hid (HN2.out h hh)
      have hhm := hash_max 3 [a, b] 16
      rw [hh] at hhm
      have HC := Lib.hid (fun W (h1 : Row false W (some ⟨W.heap.size - 1, 0, none⟩) 2 [a, b] (fun q => q = W.heap.size - 1)) => h1)
      have hB := Below.refl wr.heap.size wr
      have HM := Lib.hid (fun (w' : World) (h : Below w.heap.size w w') => (⟨(h.cell (p := ⟨b1, o1 + m, none⟩) hl1).trans f0, (h.cell (p := ⟨b1, o1 + (m + 1), none⟩) hl1).trans f1, h⟩ : w'.cell? ⟨b1, o1 + m, none⟩ = some (.string a) ∧ w'.cell? ⟨b1, o1 + (m + 1), none⟩ = some (.string b) ∧ Below w.heap.size w w'))
      have HH := Lib.hid hh
      clear f0 f1 HN HN2 hh HC
      go_wp2_with (fail)
      go_region_held3 (fun w' => w'.cell? ⟨b1, o1 + m, none⟩ = some (.string a) ∧ w'.cell? ⟨b1, o1 + (m + 1), none⟩ = some (.string b) ∧ Below w.heap.size w w')
        (first | exact HM.out _ hE | exact HM.out _ (hBw.trans (Below.mono (w := wr) (by (repeat (first | with_reducible exact hB | with_reducible apply Below.drew | with_reducible refine Below.alloc ?_ ?_ _)); all_goals (first | omega | (simp; done) | (simp; omega))) hBws)))
        (first | (go_at_call 127; refine (spec_TagHash _ 3 (by unfold I64; omega) [a, b] _ _ _ (by first | exact row_pairAt _ a b s0 s1 _ _ (by first | rfl | simp) | exact Row.drewC (row_pairAt _ a b s0 s1 _ _ (by first | rfl | simp))) (by simp) 16 (by unfold I64; omega)).mono ?_; rintro e5 w5 ⟨rfl, hb5⟩; (try simp only [HH.out]); have hB := Below.step (a := wr) (by (repeat (first | with_reducible exact hB | with_reducible apply Below.drew | with_reducible refine Below.alloc ?_ ?_ _)); all_goals (first | omega | (simp; done) | (simp; omega))) hb5; have hs5 := hB.size) | ((refine step_push (α := ByteArray) (w0 := w) rfl _ _ rfl rfl rfl (HOW.out.later (by (repeat (first | with_reducible exact hB | with_reducible apply Below.drew | with_reducible refine Below.alloc ?_ ?_ _)); all_goals (first | omega | (simp; done) | (simp; omega)))) rfl rfl (src1 hhm (by first | rfl | simp) rfl) (by omega) ?_); intro A6 c6 w6 o6 hE))
      go_wp2
      go_roundw
      case rel => exact ⟨m + 2, k + 1, L ++ [h], A6, c6, Lib.hid (by have := hmk.out; omega), by omega, by go_num, by simp, Lib.hid HNh.out.symm, by simp; omega, o6⟩
      case measure => simp [intOf]; omega
    · have HE : Hid (aboveL 16 l = L) := Lib.hid (by rw [HF.out, HL.out]; congr 1; have := hmk.out; omega)
      have HOW := Lib.hid hown
      clear hown
      go_wp2
      go_ret
      exact OwnRes.mk HOW.out HE.out rfl
set_option maxRecDepth 20000 in set_option maxHeartbeats 4000000 in
theorem spec_PoolRoot (w : World) (l : List ByteArray) (A : Option Addr) (cap : Nat) (S : Blks) (hx : Row false w A cap l S) (hl : l.length ≤ 1048576) : Calls Tryz.prog 156 #[.slice A l.length cap] w fun e w' => e = .returned (.string (poolRoot l)) ∧ Below w.heap.size w w' := by
  by_cases h16 : l.length = 16
  rotate_left
  · have HF : Hid (poolRoot l = ⟨#[]⟩) := Lib.hid (by unfold poolRoot; rw [if_neg h16])
    have hq : ((l.length : Int) != 16) = true := by rw [bne_iff_ne]; omega
    clear h16
    go_enter Tryz.func156, Tryz.ntmps156
    go_wp2
    go_ret
    exact ⟨ret_str (by rw [HF.out]), Below.refl _ _⟩
  have HF : Hid (poolRoot l = topOf 16 4 l) := Lib.hid (by unfold poolRoot; rw [if_pos h16])
  have hq : ((l.length : Int) != 16) = false := by rw [bne_eq_false_iff_eq]; omega
  have H16 := Lib.hid h16
  clear h16
  go_enter Tryz.func156, Tryz.ntmps156
  have HO := Lib.hid (Own.litAt (α := ByteArray) (Below.refl w.heap.size w) 9 rfl (b := w.heap.size) rfl)
  have HS := Lib.hid (fun (W : World) (h : Below w.heap.size w W) => Src.flat (Row.later hx h))
  go_wp2_with (at_builtin; refine wpList_push (α := ByteArray) rfl _ _ rfl rfl rfl HO.out rfl rfl (HS.out _ ((Below.refl _ _).alloc (Nat.le_refl _) _)) (by simp; omega) ?_; intro A6 c6 w6 o6 z6)
  have HO6 := Lib.hid o6
  clear o6 HO HS
  go_loopw [3] (fun u wr => ∃ (d : Nat) (L : List ByteArray) (A2 : Option Addr) (c : Nat) (S2 : Blks), u = .slice A2 L.length c ∧ Hid (L.length = 2 ^ d) ∧ L.length ≤ 1048576 ∧ Hid (poolRoot l = topOf 16 d L) ∧ Row false wr A2 c L S2 ∧ Below w.heap.size w wr) (fun u _ => lenV u)
  case atStart => exact ⟨4, l, A6, c6, _, by simp, H16, by omega, Lib.hid HF.out, by simpa using HO6.out.weak, HO6.out.bl⟩
  case round =>
    clear hx HF H16 HO6
    obtain ⟨d, L, A2, c, S2, rfl, HD, hLl, HR, hrow, hb⟩ := hrel
    have HB := Lib.hid hb
    cases d with
    | zero =>
      have h1 : L.length = 1 := HD.out
      obtain ⟨b1, o1, rfl, hl1, f0, s0⟩ := Row.str hrow (i := 0) (by omega)
      have HR2 : Hid (poolRoot l = L[0]'(by omega)) := Lib.hid (by rw [HR.out, topOf, getD_lt])
      obtain ⟨y, hy⟩ : ∃ y, L[0]'(by omega) = y := ⟨_, rfl⟩
      rw [hy] at f0 HR2
      simp only [Nat.add_zero] at f0
      rw [h1]
      clear hy s0 h1 HD HR hrow hb
      go_wp2
      go_ret
      exact ⟨ret_str (by rw [HR2.out]), HB.out⟩
    | succ d =>
      have h2 : 1 < L.length := by have := HD.out; rw [this, Nat.pow_succ]; have := Nat.one_le_two_pow (n := d); omega
      have h2' : (1 : Int) < (L.length : Int) := by omega
      have HD2 : Hid (L.length / 2 = 2 ^ d) := Lib.hid (by rw [HD.out, Nat.pow_succ]; omega)
      go_wp2_with (fail)
      refine (spec_l05Up _ L A2 c S2 hrow hLl).mono ?_
      rintro e5 w5 ⟨A5, c5, rfl, own⟩
      have hlen := aboveL_len 16 L
      have HR2 : Hid (poolRoot l = topOf 16 d (aboveL 16 L)) := Lib.hid (by rw [HR.out, topOf])
      obtain ⟨L5, hL5⟩ : ∃ L5, aboveL 16 L = L5 := ⟨_, rfl⟩
      rw [hL5] at own hlen HR2
      simp only [hL5]
      clear hL5 hrow hb
      have HO := Lib.hid own
      have HL5 := Lib.hid hlen
      have hlt5 : L5.length < L.length := by omega
      clear own hlen
      go_wp2
      go_roundw
      case rel => exact ⟨d, L5, A5, c5, _, rfl, Lib.hid (by rw [HL5.out]; exact HD2.out), by omega, HR2, HO.out.weak, HB.out.trans (HO.out.bl.mono HB.out.size)⟩
      case measure => simp [lenV]; omega
end Go.Proofs.YtgllafgpmenjjaaGreatDoor

set_option linter.unusedVariables false
set_option linter.unusedSimpArgs false
namespace Go.Proofs.YtgllafgpmenjjaaGreatDoor
open Go.RowKit Lay Mk
def secretIn (seed : ByteArray) (a b v : Int) : Bool := decide (seed.size ≤ 100) && (inB a 0 15 && (inB b 0 7 && inB v 0 1))
def secretTx (a b v : Nat) : ByteArray := bs [UInt8.ofNat a, UInt8.ofNat b, UInt8.ofNat v]
def secretOf (seed : ByteArray) (a b v : Int) : ByteArray := if secretIn seed a b v = true then tagHash 5 [seed, secretTx a.toNat b.toNat v.toNat] 16 else ⟨#[]⟩
theorem in_nat {n lo hi : Int} (h : inB n lo hi = true) (h0 : 0 ≤ lo) : ∃ k : Nat, n = k ∧ lo ≤ k ∧ (k : Int) ≤ hi := by
  have h1 : lo ≤ n ∧ n ≤ hi := by simpa [inB] using h
  exact ⟨n.toNat, by omega, by omega, by omega⟩
theorem secretTx_size (a b v : Nat) : (secretTx a b v).size = 3 := by unfold secretTx; rw [bs_size]; rfl
theorem two_ok {kind : Int} {s t : ByteArray} (hk : inB kind 1 8 = true) (hs : s.size ≤ 200) (ht : t.size ≤ 200) : tagOk kind [s, t] = true := tag_two hk hs ht
theorem secretOf_size {seed : ByteArray} {a b v : Int} (h : secretIn seed a b v = true) : (secretOf seed a b v).size = 16 := by
  have h100 : seed.size ≤ 100 := by unfold secretIn at h; rw [Bool.and_eq_true] at h; simpa using h.1
  unfold secretOf; rw [if_pos h]
  exact tagHash_size (two_ok (by decide) (by omega) (by rw [secretTx_size]; omega))
theorem secretOf_le (seed : ByteArray) (a b v : Int) : (secretOf seed a b v).size ≤ 16 := by
  by_cases h : secretIn seed a b v = true
  · rw [secretOf_size h]; omega
  · unfold secretOf; rw [if_neg h]; exact Nat.zero_le _
theorem row_two (w : World) (s t : ByteArray) (hs : s.size ≤ maxLen) (ht : t.size ≤ maxLen) (ty : TypeId) (b : Nat) (hb : b = w.heap.size) : Row false (w.alloc (.cells #[.string s, .string t] ty)) (some ⟨b, 0, none⟩) 2 [s, t] (fun q => q = b) := by
  subst hb; exact row_pair w s t hs ht ty
set_option maxRecDepth 20000 in set_option maxHeartbeats 4000000 in
theorem spec_SecretOf (w : World) (seed : ByteArray) (hs : seed.size ≤ maxLen) (a b v : Int) : Calls Tryz.prog 195 #[.string seed, .int .i64 a, .int .i64 b, .int .i64 v] w fun e w' => e = .returned (.string (secretOf seed a b v)) ∧ Below w.heap.size w w' := by
  by_cases h100 : 100 < seed.size
  · have HC : Hid (secretOf seed a b v = ⟨#[]⟩) := Lib.hid (by unfold secretOf secretIn; rw [decide_eq_false (by omega)]; rfl)
    go_enter Tryz.func195, Tryz.ntmps195
    go_wp2_with (go_at_call 87; refine (spec_in _ _ _ _).mono ?_; rintro e2 w2 ⟨rfl, rfl⟩)
    go_ret
    exact ⟨by rw [HC.out]; rfl, Below.refl _ _⟩
  cases ha : inB a 0 15
  · have HC : Hid (secretOf seed a b v = ⟨#[]⟩) := Lib.hid (by unfold secretOf secretIn; rw [ha]; simp)
    go_enter Tryz.func195, Tryz.ntmps195
    go_wp2_with (go_at_call 87; refine (spec_in _ _ _ _).mono ?_; rintro e2 w2 ⟨rfl, rfl⟩)
    go_ret
    exact ⟨by rw [HC.out]; rfl, Below.refl _ _⟩
  cases hb : inB b 0 7
  · have HC : Hid (secretOf seed a b v = ⟨#[]⟩) := Lib.hid (by unfold secretOf secretIn; rw [hb]; simp)
    go_enter Tryz.func195, Tryz.ntmps195
    go_wp2_with (go_at_call 87; refine (spec_in _ _ _ _).mono ?_; rintro e2 w2 ⟨rfl, rfl⟩)
    go_ret
    exact ⟨by rw [HC.out]; rfl, Below.refl _ _⟩
  cases hv : inB v 0 1
  · have HC : Hid (secretOf seed a b v = ⟨#[]⟩) := Lib.hid (by unfold secretOf secretIn; rw [hv]; simp)
    go_enter Tryz.func195, Tryz.ntmps195
    go_wp2_with (go_at_call 87; refine (spec_in _ _ _ _).mono ?_; rintro e2 w2 ⟨rfl, rfl⟩)
    go_ret
    exact ⟨by rw [HC.out]; rfl, Below.refl _ _⟩
  have HC : Hid (secretOf seed a b v = tagHash 5 [seed, secretTx a.toNat b.toNat v.toNat] 16) := Lib.hid (by unfold secretOf secretIn; rw [ha, hb, hv, decide_eq_true (by omega)]; rfl)
  obtain ⟨a, rfl, ha0, ha1⟩ := in_nat ha (by omega)
  obtain ⟨b, rfl, hb0, hb1⟩ := in_nat hb (by omega)
  obtain ⟨v, rfl, hv0, hv1⟩ := in_nat hv (by omega)
  simp only [Int.toNat_natCast] at HC
  have wa : IntKind.u8.wrap (a : Int) = a := by rw [IntKind.wrap_u8']; omega
  have wb : IntKind.u8.wrap (b : Int) = b := by rw [IntKind.wrap_u8']; omega
  have wv : IntKind.u8.wrap (v : Int) = v := by rw [IntKind.wrap_u8']; omega
  have HR0 := Lib.hid (fun W : World => show BR (W.alloc (.cells #[.int .u8 (a : Int), .int .u8 (b : Int), .int .u8 (v : Int)] 5)) (some ⟨W.heap.size, 0, none⟩) 3 [UInt8.ofNat a, UInt8.ofNat b, UInt8.ofNat v] (fun q => W.heap.size ≤ q) from br_lit W _ _ [UInt8.ofNat a, UInt8.ofNat b, UInt8.ofNat v] (by
    have e1 : a % 256 = a := by omega
    have e2 : b % 256 = b := by omega
    have e3 : v % 256 = v := by omega
    simp [u8c, e1, e2, e3]; try omega))
  go_enter Tryz.func195, Tryz.ntmps195
  go_wp2_with (first | (go_at_call 87; refine (spec_in _ _ _ _).mono ?_; rintro e2 w2 ⟨rfl, rfl⟩) | (go_at_call 127; fail) | (refine wpList_strB rfl _ rfl Tryz.underlying5 Tryz.underlying9 rfl rfl (HR0.out _) ?_))
  refine (spec_TagHash _ 5 (by unfold I64; omega) [seed, secretTx a b v] _ _ _ (row_two _ seed (secretTx a b v) hs (ml (Nat.le_of_eq (secretTx_size a b v)) (by omega)) _ _ (by simp)) (by simp) 16 (by unfold I64; omega)).mono ?_
  rintro e5 w5 ⟨rfl, hb5⟩
  go_wp2
  go_ret
  exact ⟨by rw [HC.out]; rfl, Below.via (Below.via hb5)⟩
end Go.Proofs.YtgllafgpmenjjaaGreatDoor

set_option linter.unusedVariables false
set_option linter.unusedSimpArgs false
namespace Go.Proofs.YtgllafgpmenjjaaGreatDoor
open Go.RowKit Lay Mk
set_option maxRecDepth 20000 in set_option maxHeartbeats 4000000 in
theorem impl_SigAdd (w : World) (kind : Int) (hkind : I64 kind) (xs : List ByteArray) (A : Option Addr) (cap : Nat) (S : Blks) (hx : Row false w A cap xs S) (hl : xs.length ≤ 1000) (g : Nat) (ys : List ByteArray) (Ao : Option Addr) (co : Nat) (So : Blks) (hg : One w g 25 (.slice Ao ys.length co)) (hco : ys.length ≤ co) (hcm : co ≤ maxLen) (ho : Row true w Ao co ys So) (hSo : ∀ b, So b → g < b) (hyl : ys.length ≤ 1000) (w0 : World) (hT : Tabs w0) (h0 : Below w0.heap.size w0 w) (hg0 : w0.heap.size ≤ g) :
    Calls Tryz.prog 190 #[.int .i64 kind, .slice A xs.length cap, .pointer (some ⟨g, 0, none⟩)] w fun e w' => ∃ A' c', e = .returned (.string (cutDigest (tagText kind xs) 16)) ∧ One w' g 25 (.slice A' (ys.length + 1) c') ∧ ys.length + 1 ≤ c' ∧ c' ≤ maxLen ∧ Row true w' A' c' (ys ++ [tagText kind xs]) (fun b => So b ∨ rng w.heap.size w'.heap.size b) ∧ Chg (fun b => b = g ∨ So b) w w' := by
  have htl := tagText_le kind xs
  go_enter Tryz.func190, Tryz.ntmps190
  go_wp2_with (fail)
  refine (impl_TagText _ kind hkind xs A cap S hx (by omega)).mono ?_
  rintro e1 w1 ⟨rfl, hb1⟩
  have hg1 := hg.later hb1
  have ho1 := Row.later ho hb1
  have hSg : ¬ So g := fun h => absurd (hSo g h) (Nat.lt_irrefl _)
  have hgl := hg.lt
  have hz1 := hb1.size
  have hC1 : Chg (fun b => b = g ∨ So b) w w1 := (Chg.refl _ w).below hb1 (Nat.le_refl _)
  clear hx ho
  obtain ⟨t, ht⟩ : ∃ t, tagText kind xs = t := ⟨_, rfl⟩
  rw [ht] at htl
  simp only [ht]
  have HTX := Lib.hid ht
  clear ht
  have c1 := hg1.cell
  have HT := Lib.hid hT; have H0 := Lib.hid h0; have HSo := Lib.hid hSo; have HC1 := Lib.hid hC1; have HO1 := Lib.hid ho1; have HG1 := Lib.hid hg1
  clear hT h0 hSo hC1 ho1 hg1 hg
  go_wp2_with (first | (at_builtin; refine wpList_app (α := ByteArray) (xs := ys) rfl _ _ rfl rfl rfl (HO1.out.allocC _) hco hcm rfl rfl (src_newb _ t (show t.size ≤ maxLen from ml htl (by omega)) _ _ _ (by first | rfl | simp) rfl) (disj_none_ _) (by omega) ?_; intro A' cap' w4 h1 h2 h3 h4; have HG4 := Lib.hid ((HG1.out.alloc _).chg h4 hSg); have hq4 := HG4.out.cell; have hf4 := HG4.out.frozen; have H3 := Lib.hid h3; have H4 := Lib.hid h4; clear h3 h4) | (go_at_call 147; have hC4 : Chg (fun b => b = g ∨ So b) w w4 := (HC1.out.alloc _).trans (H4.out.mono (fun b _ hb => .inr hb)); have hC5 := hC4.setCell (p := ⟨g, 0, none⟩) (.inl (.inl rfl)) (.slice A' (ys.length + 1) cap'); have hT5 := HT.out.later (H0.out.trans (hC5.to_below H0.out.size (fun b hb => hb.elim (fun e => e ▸ hg0) (fun e => Nat.le_trans hg0 (Nat.le_of_lt (HSo.out b e)))))); refine (impl_CutDigest _ t (by omega) 16 (by unfold I64; omega) hT5).mono ?_; rintro e5 w5 ⟨rfl, hb5⟩))
  have hg5 := (HG4.out.set (.slice A' (ys.length + 1) cap')).later hb5
  have hr5 := Row.later (H3.out.setC (p := ⟨g, 0, none⟩) (fun h => by
    rcases h with x | x | x
    · exact absurd (HSo.out g x) (Nat.lt_irrefl _)
    · exact x.elim
    · have hx1 : _ ≤ g := x.1; rw [World.size_alloc] at hx1; omega) (.slice A' (ys.length + 1) cap')) hb5
  have hC6 := hC5.below hb5 hC5.size
  go_ret
  rw [HTX.out]
  exact ⟨A', cap', rfl, hg5, h1, h2, hr5.mono (fun b hb => by
    rcases hb with x | x | x
    · exact .inl x
    · exact x.elim
    · refine .inr ⟨?_, ?_⟩
      · have hx1 := x.1; rw [World.size_alloc] at hx1; omega
      · have hx2 := x.2; have hx3 := hb5.size; simp only [World.size_setCell] at hx3; omega), hC6⟩
end Go.Proofs.YtgllafgpmenjjaaGreatDoor

set_option linter.unusedVariables false
set_option linter.unusedSimpArgs false
namespace Go.Proofs.YtgllafgpmenjjaaGreatDoor
open Go.RowKit Lay Mk
def bucketParts (xs : List Leaf) : List ByteArray := xs.flatMap (fun l => [l.name, l.value])
def bucketKind (xs : List Leaf) : Int := if xs.isEmpty then 1 else 2
def bucketTx (xs : List Leaf) : ByteArray := tagText (bucketKind xs) (bucketParts xs)
def bucketOf (xs : List Leaf) (i : Int) : List Leaf := xs.filter (fun l => decide ((indexOf l.name : Int) = i))
theorem parts_snoc {xs : List Leaf} {k : Nat} (h : k < xs.length) : bucketParts (xs.take (k + 1)) = bucketParts (xs.take k) ++ [xs[k].name, xs[k].value] := by
  unfold bucketParts; rw [List.take_succ_eq_append_getElem h, List.flatMap_append]; simp
theorem parts_len (xs : List Leaf) : (bucketParts xs).length = 2 * xs.length := by
  unfold bucketParts
  induction xs with
  | nil => rfl
  | cons x r ih => rw [List.flatMap_cons, List.length_append, ih]; simp; omega
theorem row_pairB (w : World) (s t : ByteArray) (hs : s.size ≤ maxLen) (ht : t.size ≤ maxLen) (ty : TypeId) (b : Nat) (hb : b = w.heap.size) : Row false (w.alloc (.cells #[.string s, .string t] ty)) (some ⟨b, 0, none⟩) 2 [s, t] (fun q => q = b) := by
  subst hb; exact row_pair w s t hs ht ty
theorem bucket_snoc {xs : List Leaf} {i : Int} {k : Nat} (h : k < xs.length) : bucketOf (xs.take (k + 1)) i = bucketOf (xs.take k) i ++ (if (indexOf xs[k].name : Int) = i then [xs[k]] else []) := by
  unfold bucketOf; rw [List.take_succ_eq_append_getElem h, List.filter_append]
  congr 1
  by_cases hc : (indexOf xs[k].name : Int) = i <;> simp [hc]
set_option maxRecDepth 20000 in set_option maxHeartbeats 4000000 in
theorem impl_bucketText (w : World) (xs : List Leaf) (A : Option Addr) (cap : Nat) (S : Blks) (hx : Row false w A cap xs S) (hl : xs.length ≤ 1048576) : Calls Tryz.prog 185 #[.slice A xs.length cap] w fun e w' => e = .returned (.string (bucketTx xs)) ∧ Below w.heap.size w w' := by
  go_enter Tryz.func185, Tryz.ntmps185
  go_wp2
  have HO := Lib.hid (Own.start (α := ByteArray) (Below.refl w.heap.size w))
  go_loopw [3, 4, 11] (fun z u i wr => ∃ (k : Nat) (kd : Int) (L : List ByteArray) (A2 : Option Addr) (c : Nat), k ≤ xs.length ∧ i = .int .i64 k ∧ z = .int .i64 kd ∧ Hid (kd = if k = 0 then 1 else 2) ∧ u = .slice A2 L.length c ∧ Hid (L = bucketParts (xs.take k)) ∧ L.length ≤ 2 * k ∧ Own w wr A2 c L) (fun _ _ i _ => xs.length - (intOf i).toNat)
  case atStart => exact ⟨0, 1, [], none, 0, by omega, rfl, rfl, Lib.hid rfl, rfl, Lib.hid rfl, by simp, HO.out⟩
  case round =>
    clear HO
    obtain ⟨k, kd, L, A2, c, hk, rfl, rfl, HK, rfl, HL, hLk, hown⟩ := hrel
    have hb := hown.bl
    have HOW := Lib.hid hown
    by_cases hlt : k < xs.length
    · obtain ⟨b1, o1, cc, T1, rfl, hl1, ha, hr, _, _⟩ := Row.at_ hx hlt
      replace ha := ha.keep (hb.block b1 hl1)
      have HN : Hid (bucketParts (xs.take (k + 1)) = L ++ [xs[k].name, xs[k].value]) := Lib.hid (by rw [parts_snoc hlt, HL.out])
      obtain ⟨l, hl_⟩ : ∃ l, xs[k] = l := ⟨_, rfl⟩
      rw [hl_] at hr HN
      clear hl_
      obtain ⟨rfl, f0, f1⟩ := Leaf.open hr
      clear hr
      rw [show Lay.n Leaf = 2 from rfl] at ha
      have e0 := ha 0 _ rfl
      have e1 := ha 1 _ rfl
      simp only [Nat.add_zero] at e0
      have hl3 : b1 < wr.heap.size := Nat.lt_of_lt_of_le hl1 hb.size
      clear ha hown hb
      go_wp2_with (at_builtin; refine wpList_push (α := ByteArray) rfl _ _ rfl rfl rfl ((HOW.out.alloc _).alloc _) rfl rfl (Src.flat (row_pairB _ l.name l.value f0 f1 _ _ (by first | rfl | simp))) (by simp; omega) ?_; intro A6 c6 w6 o6 z6)
      go_roundw
      case rel => exact ⟨k + 1, 2, L ++ [l.name, l.value], A6, c6, hlt, by go_num, rfl, Lib.hid (by simp), by simp, Lib.hid HN.out.symm, by simp; omega, o6⟩
      case measure => simp [intOf]; omega
    · have hke : k = xs.length := by omega
      have HE : Hid (bucketTx xs = tagText kd L) := Lib.hid (by
        unfold bucketTx bucketKind
        rw [HL.out, HK.out, List.take_of_length_le (by omega), hke]
        congr 1
        cases xs <;> simp)
      have hki : I64 kd := by rw [HK.out]; unfold I64; split <;> omega
      clear hown hb HK HL
      go_wp2_with (fail)
      refine (impl_TagText _ kd hki L A2 c _ HOW.out.weak (by omega)).mono ?_
      rintro e5 w5 ⟨rfl, hb5⟩
      go_wp2
      go_ret
      exact ⟨ret_str (by rw [HE.out]), HOW.out.bl.trans (hb5.mono HOW.out.size)⟩
set_option maxRecDepth 20000 in set_option maxHeartbeats 4000000 in
theorem spec_BucketText (w : World) (xs : List Leaf) (A : Option Addr) (cap : Nat) (S : Blks) (hx : Row false w A cap xs S) (hl : xs.length ≤ 1048576) (hz : szL xs ≤ 1048576) (hok : leavesOk xs = true) : Calls Tryz.prog 173 #[.slice A xs.length cap] w fun e w' => e = .returned (.tuple #[.string (bucketTx xs), .bool (tagOk (bucketKind xs) (bucketParts xs))]) ∧ Below w.heap.size w w' := by
  have HLV := Lib.hid (spec_LeavesOk w xs A cap S hx (by omega))
  rw [hok] at HLV
  clear hok
  by_cases h0 : xs.length = 0
  · have HE : Hid (bucketTx xs = tagText 1 [] ∧ tagOk (bucketKind xs) (bucketParts xs) = tagOk 1 []) := Lib.hid (by cases xs with | nil => exact ⟨rfl, rfl⟩ | cons a b => simp at h0)
    rw [h0] at HLV ⊢
    clear h0 hl
    go_enter Tryz.func173, Tryz.ntmps173
    go_wp2_with (fail)
    refine HLV.out.mono ?_
    rintro e0 w0 ⟨rfl, hb0⟩
    have HB0 := Lib.hid hb0
    go_wp2_with (fail)
    refine (spec_TagText _ 1 (by unfold I64; omega) [] _ _ _ (Row.weak (row_lit0 w0 9 (fun b => w0.heap.size ≤ b) rfl (Nat.le_refl _))) (by simp)).mono ?_
    rintro e5 w5 ⟨rfl, hb5⟩
    go_wp2
    go_ret2
    exact ⟨by rw [HE.out.1, HE.out.2]; rfl, (HB0.out.alloc HB0.out.size _).trans (hb5.mono (by have := HB0.out.size; simp; omega))⟩
  have hpos : (0 : Int) < (xs.length : Int) := by omega
  have hq0 : ((xs.length : Int) == 0) = false := by rw [beq_eq_false_iff_ne]; omega
  have HE : Hid (bucketTx xs = tagText 2 (bucketParts xs) ∧ tagOk (bucketKind xs) (bucketParts xs) = tagOk 2 (bucketParts xs)) := Lib.hid (by cases xs with | nil => simp at h0 | cons a b => exact ⟨rfl, rfl⟩)
  clear h0
  go_enter Tryz.func173, Tryz.ntmps173
  go_wp2_with (fail)
  refine HLV.out.mono ?_
  rintro e0 w0 ⟨rfl, hb0⟩
  have HB0 := Lib.hid hb0
  have HO := Lib.hid (Own.litAt (α := ByteArray) (Below.refl w0.heap.size w0) 9 rfl (b := w0.heap.size) rfl)
  replace hx := Row.later hx hb0
  clear hb0
  go_wp2_with (fail)
  go_loopw [4, 5] (fun u i wr => ∃ (k : Nat) (L : List ByteArray) (A2 : Option Addr) (c : Nat), k ≤ xs.length ∧ i = .int .i64 k ∧ u = .slice A2 L.length c ∧ Hid (L = bucketParts (xs.take k)) ∧ L.length ≤ 2 * k ∧ Own w0 wr A2 c L) (fun _ i _ => xs.length - (intOf i).toNat)
  case atStart => exact ⟨0, [], some ⟨w0.heap.size, 0, none⟩, 0, by omega, rfl, rfl, Lib.hid rfl, by simp, HO.out⟩
  case round =>
    clear HO
    obtain ⟨k, L, A2, c, hk, rfl, rfl, HL, hLk, hown⟩ := hrel
    have hb := hown.bl
    have HOW := Lib.hid hown
    by_cases hlt : k < xs.length
    · obtain ⟨b1, o1, cc, T1, rfl, hl1, ha, hr, _, _⟩ := Row.at_ hx hlt
      have HN : Hid (bucketParts (xs.take (k + 1)) = L ++ [xs[k].name, xs[k].value]) := Lib.hid (by rw [parts_snoc hlt, HL.out])
      obtain ⟨l, hl_⟩ : ∃ l, xs[k] = l := ⟨_, rfl⟩
      rw [hl_] at hr HN
      clear hl_
      obtain ⟨rfl, f0, f1⟩ := Leaf.open hr
      clear hr
      rw [show Lay.n Leaf = 2 from rfl] at ha
      have e0 := ha 0 _ rfl
      have e1 := ha 1 _ rfl
      simp only [Nat.add_zero] at e0
      have hki : (k : Int) < (xs.length : Int) := by omega
      have hk0 : (0 : Int) ≤ (k : Int) := by omega
      have hB := Below.refl wr.heap.size wr
      have hBw := hb
      have hBws := hb.size
      have HM := Lib.hid (fun (w' : World) (h : Below w0.heap.size w0 w') => (⟨(h.cell (p := ⟨b1, o1 + k * 2, none⟩) hl1).trans e0, (h.cell (p := ⟨b1, o1 + k * 2 + 1, none⟩) hl1).trans e1, h⟩ : w'.cell? ⟨b1, o1 + k * 2, none⟩ = some (.string l.name) ∧ w'.cell? ⟨b1, o1 + k * 2 + 1, none⟩ = some (.string l.value) ∧ Below w0.heap.size w0 w'))
      clear ha hown hb e0 e1
      go_wp2_with (fail)
      go_region_held3 (fun w' => w'.cell? ⟨b1, o1 + k * 2, none⟩ = some (.string l.name) ∧ w'.cell? ⟨b1, o1 + k * 2 + 1, none⟩ = some (.string l.value) ∧ Below w0.heap.size w0 w')
        (first | exact HM.out _ hE | exact HM.out _ (hBw.trans (Below.mono (w := wr) (by (repeat (first | with_reducible exact hB | with_reducible apply Below.drew | with_reducible refine Below.alloc ?_ ?_ _)); all_goals (first | omega | (simp; done) | (simp; omega))) hBws)))
        (((refine step_push (α := ByteArray) (w0 := w0) rfl _ _ rfl rfl rfl (HOW.out.later (by (repeat (first | with_reducible exact hB | with_reducible apply Below.drew | with_reducible refine Below.alloc ?_ ?_ _)); all_goals (first | omega | (simp; done) | (simp; omega)))) rfl rfl (Src.flat (by first | exact row_pairB _ l.name l.value f0 f1 _ _ (by first | rfl | simp) | exact Row.drewC (row_pairB _ l.name l.value f0 f1 _ _ (by first | rfl | simp)))) (by simp; omega) ?_); intro A6 c6 w6 o6 hE))
      go_wp2
      go_roundw
      case rel => exact ⟨k + 1, L ++ [l.name, l.value], A6, c6, hlt, by go_num, by simp, Lib.hid HN.out.symm, by simp; omega, o6⟩
      case measure => simp [intOf]; omega
    · have HE2 : Hid (bucketParts xs = L) := Lib.hid (by rw [HL.out, List.take_of_length_le (by omega)])
      clear hown hb HL
      go_wp2_with (fail)
      refine (spec_TagText _ 2 (by unfold I64; omega) L A2 c _ HOW.out.weak (by omega)).mono ?_
      rintro e5 w5 ⟨rfl, hb5⟩
      go_wp2
      go_ret2
      exact ⟨by rw [HE.out.1, HE.out.2, HE2.out]; rfl, HB0.out.trans ((HOW.out.bl.trans (hb5.mono HOW.out.size)).mono HB0.out.size)⟩
theorem leaf_size {xs : List Leaf} {k : Nat} (hk : k < xs.length) (hz : szL xs ≤ 1048576) : xs[k].name.size ≤ 1048576 := by
  have h1 := sz_le_L xs k hk
  have h2 : Mk.sz xs[k] = xs[k].sz := rfl
  simp only [Leaf.sz] at h2
  omega
set_option maxRecDepth 20000 in set_option maxHeartbeats 4000000 in
theorem impl_BucketOf (w : World) (xs : List Leaf) (A : Option Addr) (cap : Nat) (S : Blks) (hx : Row false w A cap xs S) (hl : xs.length ≤ 1048576) (hz : szL xs ≤ 1048576) (ix : Int) (hT : Tabs w) : Calls Tryz.prog 182 #[.slice A xs.length cap, .int .i64 ix] w (OwnRes (bucketOf xs ix) w) := by
  have HT := Lib.hid hT
  clear hT
  go_enter Tryz.func182, Tryz.ntmps182
  go_wp2
  have HO := Lib.hid (Own.start (α := Leaf) (Below.refl w.heap.size w))
  go_loopw [5, 10] (fun u i wr => ∃ (k : Nat) (L : List Leaf) (A2 : Option Addr) (c : Nat), k ≤ xs.length ∧ i = .int .i64 k ∧ u = .slice A2 L.length c ∧ Hid (L = bucketOf (xs.take k) ix) ∧ L.length ≤ k ∧ Own w wr A2 c L) (fun _ i _ => xs.length - (intOf i).toNat)
  case atStart => exact ⟨0, [], none, 0, by omega, rfl, rfl, Lib.hid rfl, by simp, HO.out⟩
  case round =>
    clear HO
    obtain ⟨k, L, A2, c, hk, rfl, rfl, HL, hLk, hown⟩ := hrel
    have hb := hown.bl
    have HOW := Lib.hid hown
    by_cases hlt : k < xs.length
    · obtain ⟨b1, o1, cc, T1, rfl, hl1, ha, hr, _, _⟩ := Row.at_ hx hlt
      replace ha := ha.keep (hb.block b1 hl1)
      have hsz := leaf_size hlt hz
      have HN := Lib.hid (bucket_snoc (i := ix) hlt)
      obtain ⟨l, hl_⟩ : ∃ l, xs[k] = l := ⟨_, rfl⟩
      rw [hl_] at hr HN hsz
      clear hl_
      obtain ⟨rfl, f0, f1⟩ := Leaf.open hr
      have hok : Flat.ok l := (⟨f0, f1⟩ : l.name.size ≤ maxLen ∧ l.value.size ≤ maxLen)
      clear hr
      rw [show Lay.n Leaf = 2 from rfl] at ha
      have e0 := ha 0 _ rfl
      have e1 := ha 1 _ rfl
      simp only [Nat.add_zero] at e0
      have hl3 : b1 < wr.heap.size := Nat.lt_of_lt_of_le hl1 hb.size
      have HIX := Lib.hid (fun W (h' : Below wr.heap.size wr W) => impl_IndexOf W l.name (by omega) (HT.out.later (hb.trans (h'.mono hb.size))))
      obtain ⟨z, hzz⟩ : ∃ z, indexOf l.name = z := ⟨_, rfl⟩
      rw [hzz] at HIX HN
      have HBl := Lib.hid hb
      clear hzz ha hown hb
      by_cases hc : (z : Int) = ix
      · have HN2 : Hid (bucketOf (xs.take (k + 1)) ix = L ++ [l]) := Lib.hid (by rw [HN.out, if_pos hc, HL.out])
        have hq : ((z : Int) == ix) = true := beq_iff_eq.2 hc
        clear hc HN
        go_wp2_with (fail)
        refine (HIX.out _ ((Below.refl _ _).alloc (Nat.le_refl _) _)).mono ?_
        rintro e5 w5 ⟨rfl, hb5⟩
        have HO5 := Lib.hid ((HOW.out.alloc _).later hb5)
        replace e0 := (hb5.cell (p := ⟨wr.heap.size, 0, none⟩) (by simp)).trans (box_cell wr #[.string l.name, .string l.value] _ 0 _ rfl)
        replace e1 := (hb5.cell (p := ⟨wr.heap.size, 1, none⟩) (by simp)).trans (box_cell wr #[.string l.name, .string l.value] _ 1 _ rfl)
        clear hb5
        go_wp2_with (at_builtin; refine wpList_push (α := Leaf) rfl _ _ rfl rfl rfl (HO5.out.alloc _) rfl rfl (src1 hok (by first | rfl | simp) rfl) (by omega) ?_; intro A6 c6 w6 o6 z6)
        go_roundw
        case rel => exact ⟨k + 1, L ++ [l], A6, c6, hlt, by go_num, by simp, Lib.hid HN2.out.symm, by simp; omega, o6⟩
        case measure => simp [intOf]; omega
      · have HN2 : Hid (bucketOf (xs.take (k + 1)) ix = L) := Lib.hid (by rw [HN.out, if_neg hc, HL.out, List.append_nil])
        have hq : ((z : Int) == ix) = false := beq_eq_false_iff_ne.2 hc
        clear hc HN
        go_wp2_with (fail)
        refine (HIX.out _ ((Below.refl _ _).alloc (Nat.le_refl _) _)).mono ?_
        rintro e5 w5 ⟨rfl, hb5⟩
        have HO5 := Lib.hid ((HOW.out.alloc _).later hb5)
        replace e0 := (hb5.cell (p := ⟨wr.heap.size, 0, none⟩) (by simp)).trans (box_cell wr #[.string l.name, .string l.value] _ 0 _ rfl)
        replace e1 := (hb5.cell (p := ⟨wr.heap.size, 1, none⟩) (by simp)).trans (box_cell wr #[.string l.name, .string l.value] _ 1 _ rfl)
        clear hb5
        go_wp2
        go_roundw
        case rel => exact ⟨k + 1, L, A2, c, hlt, by go_num, rfl, Lib.hid HN2.out.symm, by omega, HO5.out⟩
        case measure => simp [intOf]; omega
    · have HE : Hid (bucketOf xs ix = L) := Lib.hid (by rw [HL.out, List.take_of_length_le (by omega)])
      clear hown hb
      go_wp2
      go_ret
      exact OwnRes.mk HOW.out HE.out rfl
set_option maxRecDepth 20000 in set_option maxHeartbeats 4000000 in
theorem spec_BucketOf (w : World) (xs : List Leaf) (A : Option Addr) (cap : Nat) (S : Blks) (hx : Row false w A cap xs S) (hl : xs.length ≤ 1048576) (hz : szL xs ≤ 1048576) (ix : Int) : Calls Tryz.prog 160 #[.slice A xs.length cap, .int .i64 ix] w (OwnRes (bucketOf xs ix) w) := by
  go_enter Tryz.func160, Tryz.ntmps160
  go_wp2
  have HO := Lib.hid (Own.litAt (α := Leaf) (Below.refl w.heap.size w) 180 rfl (b := w.heap.size) rfl)
  go_loopw [5, 6] (fun u i wr => ∃ (k : Nat) (L : List Leaf) (A2 : Option Addr) (c : Nat), k ≤ xs.length ∧ i = .int .i64 k ∧ u = .slice A2 L.length c ∧ Hid (L = bucketOf (xs.take k) ix) ∧ L.length ≤ k ∧ Own w wr A2 c L) (fun _ i _ => xs.length - (intOf i).toNat)
  case atStart => exact ⟨0, [], some ⟨w.heap.size, 0, none⟩, 0, by omega, rfl, rfl, Lib.hid rfl, by simp, HO.out⟩
  case round =>
    clear HO
    obtain ⟨k, L, A2, c, hk, rfl, rfl, HL, hLk, hown⟩ := hrel
    have hb := hown.bl
    have HOW := Lib.hid hown
    by_cases hlt : k < xs.length
    · obtain ⟨b1, o1, cc, T1, rfl, hl1, ha, hr, _, _⟩ := Row.at_ hx hlt
      replace ha := ha.keep (hb.block b1 hl1)
      have hsz := leaf_size hlt hz
      have HN := Lib.hid (bucket_snoc (i := ix) hlt)
      obtain ⟨l, hl_⟩ : ∃ l, xs[k] = l := ⟨_, rfl⟩
      rw [hl_] at hr HN hsz
      clear hl_
      obtain ⟨rfl, f0, f1⟩ := Leaf.open hr
      have hok : Flat.ok l := (⟨f0, f1⟩ : l.name.size ≤ maxLen ∧ l.value.size ≤ maxLen)
      clear hr
      rw [show Lay.n Leaf = 2 from rfl] at ha
      have e0 := ha 0 _ rfl
      have e1 := ha 1 _ rfl
      simp only [Nat.add_zero] at e0
      have hl3 : b1 < wr.heap.size := Nat.lt_of_lt_of_le hl1 hb.size
      have HIX := Lib.hid (fun W (h' : Below wr.heap.size wr W) => spec_IndexOf W l.name (by omega))
      obtain ⟨z, hzz⟩ : ∃ z, indexOf l.name = z := ⟨_, rfl⟩
      rw [hzz] at HIX HN
      have HBl := Lib.hid hb
      clear hzz ha hown hb
      by_cases hc : (z : Int) = ix
      · have HN2 : Hid (bucketOf (xs.take (k + 1)) ix = L ++ [l]) := Lib.hid (by rw [HN.out, if_pos hc, HL.out])
        have hq : ((z : Int) == ix) = true := beq_iff_eq.2 hc
        clear hc HN
        go_wp2_with (fail)
        refine (HIX.out _ (Below.refl _ _)).mono ?_
        rintro e5 w5 ⟨rfl, hb5⟩
        have HO5 := Lib.hid ((HOW.out).later hb5)
        replace e0 := (hb5.cell (p := ⟨b1, o1 + k * 2, none⟩) hl3).trans e0
        replace e1 := (hb5.cell (p := ⟨b1, o1 + k * 2 + 1, none⟩) hl3).trans e1
        clear hb5
        go_wp2_with (at_builtin; refine wpList_push (α := Leaf) rfl _ _ rfl rfl rfl (HO5.out.alloc _) rfl rfl (src1 hok (by first | rfl | simp) rfl) (by omega) ?_; intro A6 c6 w6 o6 z6)
        go_roundw
        case rel => exact ⟨k + 1, L ++ [l], A6, c6, hlt, by go_num, by simp, Lib.hid HN2.out.symm, by simp; omega, o6⟩
        case measure => simp [intOf]; omega
      · have HN2 : Hid (bucketOf (xs.take (k + 1)) ix = L) := Lib.hid (by rw [HN.out, if_neg hc, HL.out, List.append_nil])
        have hq : ((z : Int) == ix) = false := beq_eq_false_iff_ne.2 hc
        clear hc HN
        go_wp2_with (fail)
        refine (HIX.out _ (Below.refl _ _)).mono ?_
        rintro e5 w5 ⟨rfl, hb5⟩
        have HO5 := Lib.hid ((HOW.out).later hb5)
        replace e0 := (hb5.cell (p := ⟨b1, o1 + k * 2, none⟩) hl3).trans e0
        replace e1 := (hb5.cell (p := ⟨b1, o1 + k * 2 + 1, none⟩) hl3).trans e1
        clear hb5
        go_wp2
        go_roundw
        case rel => exact ⟨k + 1, L, A2, c, hlt, by go_num, rfl, Lib.hid HN2.out.symm, by omega, HO5.out⟩
        case measure => simp [intOf]; omega
    · have HE : Hid (bucketOf xs ix = L) := Lib.hid (by rw [HL.out, List.take_of_length_le (by omega)])
      clear hown hb
      go_wp2
      go_ret
      exact OwnRes.mk HOW.out HE.out rfl
end Go.Proofs.YtgllafgpmenjjaaGreatDoor

set_option linter.unusedVariables false
set_option linter.unusedSimpArgs false
namespace Go.Proofs.YtgllafgpmenjjaaGreatDoor
open Go.RowKit Lay Mk
def clientOk (x : Client) : Bool := inB x.house 0 2 && chainOk x.seen x.house
theorem client_seen (x : Client) (hz : x.sz ≤ 1048576) : x.seen.length ≤ 1048576 := by
  have h1 : szL x.seen ≤ x.sz := Nat.le_refl _
  have := szT_le x.seen 0
  omega
set_option maxRecDepth 20000 in set_option maxHeartbeats 4000000 in
theorem impl_ClientOk (w : World) (x : Client) (cs : List Value) (S : Blks) (hx : rd false w cs x S) (hz : x.sz ≤ 1048576) (hT : Tabs w) : Calls Tryz.prog 31 #[.agg cs.toArray] w fun e w' => e = .returned (.bool (clientOk x)) ∧ Below w.heap.size w w' := by
  have hl := client_seen x hz
  obtain ⟨A0, k0, S0, rfl, f0, a0, b0, r0, s0⟩ := Client.open hx
  clear hx
  simp only [Client.cs]
  cases hi : inB x.house 0 2
  · have HC : Hid (clientOk x = false) := Lib.hid (by unfold clientOk; rw [hi]; rfl)
    go_enter Tryz.func31, Tryz.ntmps31
    go_wp2_with (go_at_call 74; refine (house_in _ _).mono ?_; rintro e w2 ⟨rfl, rfl⟩)
    go_ret
    exact ⟨by rw [HC.out]; rfl, (Below.refl _ _).alloc (Nat.le_refl _) _⟩
  · have HC : Hid (clientOk x = chainOk x.seen x.house) := Lib.hid (by unfold clientOk; rw [hi]; rfl)
    go_enter Tryz.func31, Tryz.ntmps31
    go_wp2_with (go_at_call 74; refine (house_in _ _).mono ?_; rintro e w2 ⟨rfl, rfl⟩)
    refine (impl_ChainOk _ x.seen _ _ _ (r0.later ((Below.refl _ _).alloc (Nat.le_refl _) _)) (by omega) a0 x.house (hT.later ((Below.refl _ _).alloc (Nat.le_refl _) _))).mono ?_
    rintro e0 w1 ⟨rfl, hb⟩
    go_wp2
    go_ret
    exact ⟨by rw [HC.out]; rfl, ((Below.refl _ _).alloc (Nat.le_refl _) _).trans (hb.mono (by simp))⟩
end Go.Proofs.YtgllafgpmenjjaaGreatDoor
