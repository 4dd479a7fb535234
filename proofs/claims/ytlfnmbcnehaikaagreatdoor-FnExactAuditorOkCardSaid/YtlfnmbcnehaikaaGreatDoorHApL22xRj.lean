/- A part of the proof. -/
import Derived.Test.YtlfnmbcnehaikaaGreatDoorHApL21xRb
import Derived.Sort.Walk0
set_option linter.unusedVariables false
set_option linter.unusedSimpArgs false
set_option maxRecDepth 20000
set_option maxHeartbeats 8000000
namespace Go.Proofs.YtlfnmbcnehaikaaGreatDoor
open Go.RowKit Lay Mk
def rsV (o : Option (ByteArray × Nat)) : Value:=match o with
 | none => .tuple #[.string ⟨#[]⟩, .int .i64 0, .bool false]
 | some (s,x) => .tuple #[.string s, .int .i64 x, .bool true]
theorem ret_rs {s u : ByteArray} {x : Nat} {j : Int} (h1 : s = u) (h2 : j = x) : Ending.returned (.tuple #[.string s, .int .i64 j, .bool true]) = Ending.returned (rsV (some (u,x))):=by rw [h1,h2]; rfl
theorem impl_ReadShort (w : World) (t : ByteArray) (ht : t.size ≤ 1048576) (a : Nat) (ha : a ≤ t.size) : Calls Tryz.prog 181 #[.string t, .int .i64 a] w fun e w' => e = .returned (rsV (rdShort t a)) ∧ w = w':=by
 have h0:=impl_ReadVar w t ht a ha
 cases hv : rdVar t a with
 | none =>
  have HR:=zd (rdShort_no hv)
  rw [hv] at h0
  have HV : Hid (Calls Tryz.prog 178 #[.string t, .int .i64 a] w fun e w' => e = .returned (.tuple #[.int .i64 0, .int .i64 0, .bool false]) ∧ w = w'):=zd h0
  clear h0 hv
  go_enter Tryz.func181,Tryz.ntmps181
  go_wp2_with (go_at_call 178; refine HV.out.mono ?_; rintro e w' ⟨rfl,rfl⟩)
  refine bodyPost_ret (v:=.tuple #[.string ⟨#[]⟩, .int .i64 0, .bool false]) (by simp [results,Tryz.results181,go_sem, *]) rfl ?_
  exact ⟨by rw [HR.out]; rfl,rfl⟩
 | some q =>
  obtain ⟨n,x⟩:=q
  have h1:=rdVar_some hv
  have HR:=zd (rdShort_at hv)
  rw [hv] at h0
  have HV : Hid (Calls Tryz.prog 178 #[.string t, .int .i64 a] w fun e w' => e = .returned (.tuple #[.int .i64 n, .int .i64 x, .bool true]) ∧ w = w'):=zd h0
  clear h0 hv
  have hws : IntKind.i64.wrap ((t.size : Int) - x) = (t.size : Int) - x:=zz16
  by_cases hn : n ≤ 20000
  rotate_left
  ·have HE : Hid (rdShort t a = none):=zd (by rw [HR.out,if_neg (fun h => hn h.1)])
   have d1 : decide ((20000 : Int) < (n : Int)) = true:=zz47
   go_enter Tryz.func181,Tryz.ntmps181
   go_wp2_with (go_at_call 178; refine HV.out.mono ?_; rintro e w' ⟨rfl,rfl⟩)
   refine bodyPost_ret (v:=.tuple #[.string ⟨#[]⟩, .int .i64 0, .bool false]) (by simp [results,Tryz.results181,go_sem, *]) rfl ?_
   exact ⟨zz40,rfl⟩
  have d1 : decide ((20000 : Int) < (n : Int)) = false:=zz21
  by_cases hs : n ≤ t.size - x
  rotate_left
  ·have HE : Hid (rdShort t a = none):=zd (by rw [HR.out,if_neg (fun h => hs h.2)])
   have d2 : decide ((t.size : Int) - (x : Int) < (n : Int)) = true:=zz47
   go_enter Tryz.func181,Tryz.ntmps181
   go_wp2_with (go_at_call 178; refine HV.out.mono ?_; rintro e w' ⟨rfl,rfl⟩)
   refine bodyPost_ret (v:=.tuple #[.string ⟨#[]⟩, .int .i64 0, .bool false]) (by simp [results,Tryz.results181,go_sem, *]) rfl ?_
   exact ⟨zz40,rfl⟩
  have HE : Hid (rdShort t a = some (t.extract x (x + n),x + n)):=zd (by rw [HR.out,if_pos ⟨hn,hs⟩])
  have d2 : decide ((t.size : Int) - (x : Int) < (n : Int)) = false:=zz21
  have hwa : IntKind.i64.wrap ((x : Int) + n) = (x : Int) + n:=zz16
  have b1 : (x : Int) ≤ (x : Int) + n:=zz4
  have b2 : (x : Int) + n ≤ (t.size : Int):=zz4
  go_enter Tryz.func181,Tryz.ntmps181
  go_wp2_with (go_at_call 178; refine HV.out.mono ?_; rintro e w' ⟨rfl,rfl⟩)
  refine bodyPost_ret (v:=.tuple #[.string (t.extract x (x + n)), .int .i64 ((x : Int) + n), .bool true]) (by simp [results,Tryz.results181,go_sem, *]) rfl ?_
  exact ⟨by rw [HE.out]; exact ret_rs rfl zz4,rfl⟩
theorem spec_ReadShort (w : World) (t : ByteArray) (ht : t.size ≤ 1048576) (a : Nat) (ha : a ≤ t.size) : Calls Tryz.prog 124 #[.string t, .int .i64 a] w fun e w' => e = .returned (rsV (rdShort t a)) ∧ Below w.heap.size w w':=by
 have h0:=spec_ReadVar w t ht a ha
 cases hv : rdVar t a with
 | none =>
  have HR:=zd (rdShort_no hv)
  rw [hv] at h0
  have HV : Hid (Calls Tryz.prog 172 #[.string t, .int .i64 a] w fun e w' => e = .returned (.tuple #[.int .i64 0, .int .i64 0, .bool false]) ∧ Below w.heap.size w w'):=zd h0
  clear h0 hv
  go_enter Tryz.func124,Tryz.ntmps124
  go_wp2_with (go_at_call 172; refine HV.out.mono ?_; rintro e w' ⟨rfl,hb⟩)
  refine bodyPost_ret (v:=.tuple #[.string ⟨#[]⟩, .int .i64 0, .bool false]) (by simp [results,Tryz.results124,go_sem, *]) rfl ?_
  exact ⟨by rw [HR.out]; rfl,hb⟩
 | some q =>
  obtain ⟨n,x⟩:=q
  have h1:=rdVar_some hv
  have HR:=zd (rdShort_at hv)
  rw [hv] at h0
  have HV : Hid (Calls Tryz.prog 172 #[.string t, .int .i64 a] w fun e w' => e = .returned (.tuple #[.int .i64 n, .int .i64 x, .bool true]) ∧ Below w.heap.size w w'):=zd h0
  clear h0 hv
  have hws : IntKind.i64.wrap ((t.size : Int) - x) = (t.size : Int) - x:=zz16
  by_cases hn : n ≤ 20000
  rotate_left
  ·have HE : Hid (rdShort t a = none):=zd (by rw [HR.out,if_neg (fun h => hn h.1)])
   have d1 : decide ((20000 : Int) < (n : Int)) = true:=zz47
   go_enter Tryz.func124,Tryz.ntmps124
   go_wp2_with (go_at_call 172; refine HV.out.mono ?_; rintro e w' ⟨rfl,hb⟩)
   refine bodyPost_ret (v:=.tuple #[.string ⟨#[]⟩, .int .i64 0, .bool false]) (by simp [results,Tryz.results124,go_sem, *]) rfl ?_
   exact ⟨zz40,hb⟩
  have d1 : decide ((20000 : Int) < (n : Int)) = false:=zz21
  by_cases hs : n ≤ t.size - x
  rotate_left
  ·have HE : Hid (rdShort t a = none):=zd (by rw [HR.out,if_neg (fun h => hs h.2)])
   have d2 : decide ((t.size : Int) - (x : Int) < (n : Int)) = true:=zz47
   go_enter Tryz.func124,Tryz.ntmps124
   go_wp2_with (go_at_call 172; refine HV.out.mono ?_; rintro e w' ⟨rfl,hb⟩)
   refine bodyPost_ret (v:=.tuple #[.string ⟨#[]⟩, .int .i64 0, .bool false]) (by simp [results,Tryz.results124,go_sem, *]) rfl ?_
   exact ⟨zz40,hb⟩
  have HE : Hid (rdShort t a = some (t.extract x (x + n),x + n)):=zd (by rw [HR.out,if_pos ⟨hn,hs⟩])
  have d2 : decide ((t.size : Int) - (x : Int) < (n : Int)) = false:=zz21
  have hwa : IntKind.i64.wrap ((x : Int) + n) = (x : Int) + n:=zz16
  have b1 : (x : Int) ≤ (x : Int) + n:=zz4
  have b2 : (x : Int) + n ≤ (t.size : Int):=zz4
  go_enter Tryz.func124,Tryz.ntmps124
  go_wp2_with (go_at_call 172; refine HV.out.mono ?_; rintro e w' ⟨rfl,hb⟩)
  refine bodyPost_ret (v:=.tuple #[.string (t.extract x (x + n)), .int .i64 ((x : Int) + n), .bool true]) (by simp [results,Tryz.results124,go_sem, *]) rfl ?_
  exact ⟨by rw [HE.out]; exact ret_rs rfl zz4,hb⟩
theorem spec_Frame (w : World) (s : ByteArray) (hs : s.size ≤ 1048576) : Calls Tryz.prog 173 #[.string s] w fun e w' => e = .returned (.tuple #[.string (if inB s.size 1 9000 then frameT s else ⟨#[]⟩), .bool (inB s.size 1 9000)]) ∧ Below w.heap.size w w':=by
 have hv:=varT_le (n:=s.size) zz4
 have hf:=fourB_size (sumOf s)
 have q1 : ¬ 9223372036854775807 < (varT s.size).size + (fourB (sumOf s)).size:=zz4
 have q2 : ¬ 9223372036854775807 < (varT s.size ++ fourB (sumOf s)).size + s.size:=by rw [ByteArray.size_append]; omega
 have q2b : ¬ 9223372036854775807 < (varT s.size).size + (fourB (sumOf s)).size + s.size:=zz4
 cases hin : inB s.size 1 9000
 ·go_enter Tryz.func173,Tryz.ntmps173
  go_wp2_with (go_at_call 48; refine (spec_in _ _ _ _).mono ?_; rintro e w' ⟨rfl,rfl⟩)
  refine bodyPost_ret (v:=.tuple #[.string ⟨#[]⟩, .bool false]) (by simp [results,Tryz.results173,go_sem, *]) rfl ?_
  exact ⟨rfl,Below.refl _ _⟩
 ·go_enter Tryz.func173,Tryz.ntmps173
  go_wp2_with (first | (go_at_call 48; refine (spec_in _ _ _ _).mono ?_; rintro e w' ⟨rfl,rfl⟩) | (go_at_call 109; refine (spec_l01Var s.size _ zz4).mono ?_; rintro e1 w1 ⟨rfl,hb1⟩) | (go_at_call 204; refine (spec_SumOf _ s hs).mono ?_; rintro e2 w2 ⟨rfl,rfl⟩) | (go_at_call 203; refine (spec_l02Four _ _ (sumOf_lt s)).mono ?_; rintro e3 w3 ⟨rfl,hb3⟩))
  refine bodyPost_ret (v:=.tuple #[.string (frameT s), .bool true]) (by simp [results,Tryz.results173,go_sem,frameT, *]) rfl ?_
  exact ⟨rfl,hb1.trans (hb3.mono hb1.size)⟩
end Go.Proofs.YtlfnmbcnehaikaaGreatDoor
namespace Go.Proofs.YtlfnmbcnehaikaaGreatDoor
open Go.RowKit Lay Mk
theorem impl_fname (s : ByteArray) (w : World) : Calls Tryz.prog 177 #[.string s] w fun e w' => e = .returned (.bool (inB s.size 1 8)) ∧ w = w':=by
 go_enter Tryz.func177,Tryz.ntmps177
 go_wp2_with (go_at_call 62; refine (impl_in _ _ _ _).mono ?_; rintro e w' ⟨rfl,rfl⟩)
 go_ret
 exact ⟨rfl,rfl⟩
theorem spec_fname (s : ByteArray) (w : World) : Calls Tryz.prog 170 #[.string s] w fun e w' => e = .returned (.bool (inB s.size 1 8)) ∧ w = w':=by
 go_enter Tryz.func170,Tryz.ntmps170
 go_wp2_with (go_at_call 48; refine (spec_in _ _ _ _).mono ?_; rintro e w' ⟨rfl,rfl⟩)
 go_ret
 exact ⟨rfl,rfl⟩
theorem impl_DiskOk (w : World) (xs : List File) (A : Option Addr) (cap : Nat) (S : Blks) (hx : Row false w A cap xs S) (hl : xs.length ≤ 4000000000) : Calls Tryz.prog 130 #[.agg #[.slice A xs.length cap]] w fun e w' => e = .returned (.bool (diskOk xs)) ∧ Below w.heap.size w w':=by
 go_enter Tryz.func130,Tryz.ntmps130
 go_wp2_with (fail)
 obtain ⟨W,hW⟩ : ∃ W,w.alloc (.cells #[.slice A xs.length cap] 28) = W:=⟨_,rfl⟩
 have hWf : Below w.heap.size w W ∧ W.heap.size = w.heap.size + 1 ∧ W.cell? ⟨w.heap.size,0,none⟩ = some (.slice A xs.length cap):=by
  rw [← hW]
  exact ⟨(Below.refl _ _).alloc (Nat.le_refl _) _,zz17,ya2 _ _ _ _ _ rfl⟩
 rw [hW]
 clear hW
 obtain ⟨bW,sW,cW⟩:=hWf
 have hxW:=Row.later hx bW
 clear hx
 go_loopw [8] (fun i wr => ∃ k : Nat,k ≤ xs.length ∧ i = .int .i64 k ∧ Hid (∀ j,j < k → fileP xs j = true) ∧ Below W.heap.size W wr) (fun i _ => xs.length - (intOf i).toNat)
 case atStart => exact ⟨0,Nat.zero_le _,rfl,zd upto_zero,Below.refl _ _⟩
 case round =>
  obtain ⟨k,hk,rfl,hall,hb⟩:=hrel
  have hz:=hb.size
  have c0:=(hb.cell (p:=⟨w.heap.size,0,none⟩) (by show w.heap.size < _; omega)).trans cW
  by_cases hlt : k < xs.length
  ·obtain ⟨b1,o1,rfl,hl1,f0,f1,f2,s0,s1,i2⟩:=Row.atFile hxW hlt
   replace f0:=(hb.cell (p:=⟨b1,o1 + k * 3,none⟩) hl1).trans f0
   replace f1:=(hb.cell (p:=⟨b1,o1 + k * 3 + 1,none⟩) hl1).trans f1
   replace f2:=(hb.cell (p:=⟨b1,o1 + k * 3 + 2,none⟩) hl1).trans f2
   have hl2 : b1 < wr.heap.size:=zz4
   have hlw : w.heap.size < wr.heap.size:=zz4
   have HP:=zd (fileP_at hlt)
   have HB:=zd (diskOk_bad hlt)
   have HN:=zd (upto_succ (p:=fileP xs) hall.out)
   obtain ⟨x,hxx⟩ : ∃ x,xs[k] = x:=⟨_,rfl⟩
   rw [hxx] at f0 f1 f2 s0 s1 i2 HP
   have HX:=zd hxx; clear hxx
   have HFT : Hid (fileFits x = (inB x.name.size 1 8 && decide (x.text.size ≤ 20000) && inB x.kept 0 x.text.size)):=zd rfl
   have hBl : Below W.heap.size W (wr.alloc (.cells #[.string x.name, .string x.text, .int .i64 x.kept] 102)):=hb.alloc hz _
   cases hn : inB x.name.size 1 8
   ·have HF : Hid (diskOk xs = false):=zd (HB.out (by rw [HP.out,HFT.out,hn]; first | rfl | simp))
    go_wp2
    go_quiet ((first | (go_at_call 177; exact quiet_w (impl_fname _ _)) | (go_at_call 62; exact quiet_w (impl_in _ _ _ _))))
    go_wp2
    go_ret
    exact ⟨ya1 zz24,bW.trans ((Below.drewN hBl _).mono bW.size)⟩
   by_cases hv : x.text.size ≤ 20000
   rotate_left
   ·have dv : decide ((20000 : Int) < (x.text.size : Int)) = true:=by rw [decide_eq_true_iff]; omega
    have dv2 : decide (x.text.size ≤ 20000) = false:=zz21
    have HF : Hid (diskOk xs = false):=zd (HB.out (by rw [HP.out,HFT.out,hn,dv2]; first | rfl | simp))
    go_wp2
    go_quiet ((first | (go_at_call 177; exact quiet_w (impl_fname _ _)) | (go_at_call 62; exact quiet_w (impl_in _ _ _ _))))
    go_wp2
    go_ret
    exact ⟨ya1 zz24,bW.trans ((Below.drewN hBl _).mono bW.size)⟩
   have dv : decide ((20000 : Int) < (x.text.size : Int)) = false:=zz21
   have dv2 : decide (x.text.size ≤ 20000) = true:=zz47
   have HV:=zd dv2; clear dv2
   cases hq : inB x.kept 0 x.text.size
   ·have HF : Hid (diskOk xs = false):=zd (HB.out (by rw [HP.out,HFT.out,hn,HV.out,hq]; first | rfl | simp))
    go_wp2
    go_quiet ((first | (go_at_call 177; exact quiet_w (impl_fname _ _)) | (go_at_call 62; exact quiet_w (impl_in _ _ _ _))))
    go_wp2
    go_ret
    exact ⟨ya1 zz24,bW.trans ((Below.drewN hBl _).mono bW.size)⟩
   rcases Nat.eq_zero_or_pos k with h0 | h0
   ·subst h0
    simp only [Nat.zero_mul,Nat.add_zero] at f0 f1 f2
    have d0 : decide ((0 : Int) < ((0 : Nat) : Int)) = false:=rfl
    have d1 : decide ((0 : Int) < 0) = false:=rfl
    have HF : Hid (∀ q,q < 0 + 1 → fileP xs q = true):=zd (by exact HN.out (by rw [HP.out,HFT.out,hn,HV.out,hq]; rfl))
    go_wp2
    go_quiet ((first | (go_at_call 177; exact quiet_w (impl_fname _ _)) | (go_at_call 62; exact quiet_w (impl_in _ _ _ _))))
    go_wp2
    go_roundw
    case rel => exact ⟨0 + 1,zz4,by go_num,HF,Below.drewN hBl _⟩
    case measure => simp [intOf]; omega
   obtain ⟨j,rfl⟩ : ∃ j,k = j + 1:=⟨k - 1,zz4⟩
   have HPL:=zd (prevFile_succ hlt x)
   obtain ⟨b3,o3,e3,_,g0,_,_,t0,_,_⟩  :=Row.atFile hxW (show j < xs.length by omega)
   injection e3 with e3
   injection e3 with e3 e4
   subst e3; subst e4
   replace g0:=(hb.cell (p:=⟨b1,o1 + j * 3,none⟩) hl1).trans g0
   obtain ⟨y,hyy⟩ : ∃ y,xs[j].name = y:=⟨_,rfl⟩
   rw [hyy] at g0 HPL
   have HY:=zd hyy; clear hyy t0
   have d2 : decide ((0 : Int) < (j : Int) + 1) = true:=by rw [decide_eq_true_eq]; omega
   cases hp : Op.bytesLess y.toList x.name.toList
   ·have HF : Hid (diskOk xs = false):=zd (HB.out (by rw [HP.out,HFT.out,hn,HV.out,hq,HPL.out,show fLess y x.name = false from hp]; first | rfl | simp))
    go_wp2
    go_quiet ((first | (go_at_call 177; exact quiet_w (impl_fname _ _)) | (go_at_call 62; exact quiet_w (impl_in _ _ _ _))))
    go_wp2
    go_ret
    exact ⟨ya1 zz24,bW.trans ((Below.drewN hBl _).mono bW.size)⟩
   ·have HF : Hid (∀ q,q < j + 1 + 1 → fileP xs q = true):=zd (by exact HN.out (by rw [HP.out,HFT.out,hn,HV.out,hq,HPL.out,show fLess y x.name = true from hp]; rfl))
    go_wp2
    go_quiet ((first | (go_at_call 177; exact quiet_w (impl_fname _ _)) | (go_at_call 62; exact quiet_w (impl_in _ _ _ _))))
    go_wp2
    go_roundw
    case rel => exact ⟨j + 1 + 1,zz4,by go_num,HF,Below.drewN hBl _⟩
    case measure => simp [intOf]; omega
  ·have hke : k = xs.length:=by omega
   subst hke
   have HE:=zd (diskOk_end hall.out)
   go_wp2_with (fail)
   go_ret
   exact ⟨ya1 (by rw [HE.out]; first | rfl | (congr 1; simp; done) | (apply decide_eq_decide.2; omega)),bW.trans (hb.mono bW.size)⟩
theorem spec_DiskOk (w : World) (xs : List File) (A : Option Addr) (cap : Nat) (S : Blks) (hx : Row false w A cap xs S) (hl : xs.length ≤ 4000000000) : Calls Tryz.prog 121 #[.agg #[.slice A xs.length cap]] w fun e w' => e = .returned (.bool (diskOk xs)) ∧ Below w.heap.size w w':=by
 by_cases hlen : xs.length ≤ 30
 rotate_left
 ·have HL:=zd (diskOk_long (xs:=xs) zz4)
  have d30 : decide ((30 : Int) < (xs.length : Int)) = true:=zz47
  go_enter Tryz.func121,Tryz.ntmps121
  go_wp2_with (fail)
  go_ret
  exact ⟨ya1 (by rw [HL.out]),(Below.refl _ _).alloc (Nat.le_refl _) _⟩
 have d30 : decide ((30 : Int) < (xs.length : Int)) = false:=zz21
 go_enter Tryz.func121,Tryz.ntmps121
 go_wp2_with (fail)
 obtain ⟨W,hW⟩ : ∃ W,w.alloc (.cells #[.slice A xs.length cap] 28) = W:=⟨_,rfl⟩
 have hWf : Below w.heap.size w W ∧ W.heap.size = w.heap.size + 1 ∧ W.cell? ⟨w.heap.size,0,none⟩ = some (.slice A xs.length cap):=by
  rw [← hW]
  exact ⟨(Below.refl _ _).alloc (Nat.le_refl _) _,zz17,ya2 _ _ _ _ _ rfl⟩
 rw [hW]
 clear hW
 obtain ⟨bW,sW,cW⟩:=hWf
 have hxW:=Row.later hx bW
 clear hx
 go_loopw [3] (fun i wr => ∃ k : Nat,k ≤ xs.length ∧ i = .int .i64 k ∧ Hid (∀ j,j < k → fileP xs j = true) ∧ Below W.heap.size W wr) (fun i _ => xs.length - (intOf i).toNat)
 case atStart => exact ⟨0,Nat.zero_le _,rfl,zd upto_zero,Below.refl _ _⟩
 case round =>
  obtain ⟨k,hk,rfl,hall,hb⟩:=hrel
  have hz:=hb.size
  have c0:=(hb.cell (p:=⟨w.heap.size,0,none⟩) (by show w.heap.size < _; omega)).trans cW
  by_cases hlt : k < xs.length
  ·obtain ⟨b1,o1,rfl,hl1,f0,f1,f2,s0,s1,i2⟩:=Row.atFile hxW hlt
   replace f0:=(hb.cell (p:=⟨b1,o1 + k * 3,none⟩) hl1).trans f0
   replace f1:=(hb.cell (p:=⟨b1,o1 + k * 3 + 1,none⟩) hl1).trans f1
   replace f2:=(hb.cell (p:=⟨b1,o1 + k * 3 + 2,none⟩) hl1).trans f2
   have hl2 : b1 < wr.heap.size:=zz4
   have hlw : w.heap.size < wr.heap.size:=zz4
   have HP:=zd (fileP_at hlt)
   have HB:=zd (diskOk_bad hlt)
   have HN:=zd (upto_succ (p:=fileP xs) hall.out)
   obtain ⟨x,hxx⟩ : ∃ x,xs[k] = x:=⟨_,rfl⟩
   rw [hxx] at f0 f1 f2 s0 s1 i2 HP
   have HX:=zd hxx; clear hxx
   have HFT : Hid (fileFits x = (inB x.name.size 1 8 && decide (x.text.size ≤ 20000) && inB x.kept 0 x.text.size)):=zd rfl
   have hBl : Below W.heap.size W (wr.alloc (.cells #[.string x.name, .string x.text, .int .i64 x.kept] 102)):=hb.alloc hz _
   cases hn : inB x.name.size 1 8
   ·have HF : Hid (diskOk xs = false):=zd (HB.out (by rw [HP.out,HFT.out,hn]; first | rfl | simp))
    go_wp2
    go_quiet ((first | (go_at_call 170; exact quiet_w (spec_fname _ _)) | (go_at_call 48; exact quiet_w (spec_in _ _ _ _))))
    go_wp2
    go_ret
    exact ⟨ya1 zz24,bW.trans ((Below.drewN hBl _).mono bW.size)⟩
   by_cases hv : x.text.size ≤ 20000
   rotate_left
   ·have dv : decide ((20000 : Int) < (x.text.size : Int)) = true:=by rw [decide_eq_true_iff]; omega
    have dv2 : decide (x.text.size ≤ 20000) = false:=zz21
    have HF : Hid (diskOk xs = false):=zd (HB.out (by rw [HP.out,HFT.out,hn,dv2]; first | rfl | simp))
    go_wp2
    go_quiet ((first | (go_at_call 170; exact quiet_w (spec_fname _ _)) | (go_at_call 48; exact quiet_w (spec_in _ _ _ _))))
    go_wp2
    go_ret
    exact ⟨ya1 zz24,bW.trans ((Below.drewN hBl _).mono bW.size)⟩
   have dv : decide ((20000 : Int) < (x.text.size : Int)) = false:=zz21
   have dv2 : decide (x.text.size ≤ 20000) = true:=zz47
   have HV:=zd dv2; clear dv2
   cases hq : inB x.kept 0 x.text.size
   ·have HF : Hid (diskOk xs = false):=zd (HB.out (by rw [HP.out,HFT.out,hn,HV.out,hq]; first | rfl | simp))
    go_wp2
    go_quiet ((first | (go_at_call 170; exact quiet_w (spec_fname _ _)) | (go_at_call 48; exact quiet_w (spec_in _ _ _ _))))
    go_wp2
    go_ret
    exact ⟨ya1 zz24,bW.trans ((Below.drewN hBl _).mono bW.size)⟩
   rcases Nat.eq_zero_or_pos k with h0 | h0
   ·subst h0
    simp only [Nat.zero_mul,Nat.add_zero] at f0 f1 f2
    have d0 : decide ((0 : Int) < ((0 : Nat) : Int)) = false:=rfl
    have d1 : decide ((0 : Int) < 0) = false:=rfl
    have HF : Hid (∀ q,q < 0 + 1 → fileP xs q = true):=zd (by exact HN.out (by rw [HP.out,HFT.out,hn,HV.out,hq]; rfl))
    go_wp2
    go_quiet ((first | (go_at_call 170; exact quiet_w (spec_fname _ _)) | (go_at_call 48; exact quiet_w (spec_in _ _ _ _))))
    go_wp2
    go_roundw
    case rel => exact ⟨0 + 1,zz4,by go_num,HF,Below.drewN hBl _⟩
    case measure => simp [intOf]; omega
   obtain ⟨j,rfl⟩ : ∃ j,k = j + 1:=⟨k - 1,zz4⟩
   have HPL:=zd (prevFile_succ hlt x)
   obtain ⟨b3,o3,e3,_,g0,_,_,t0,_,_⟩  :=Row.atFile hxW (show j < xs.length by omega)
   injection e3 with e3
   injection e3 with e3 e4
   subst e3; subst e4
   replace g0:=(hb.cell (p:=⟨b1,o1 + j * 3,none⟩) hl1).trans g0
   obtain ⟨y,hyy⟩ : ∃ y,xs[j].name = y:=⟨_,rfl⟩
   rw [hyy] at g0 HPL
   have HY:=zd hyy; clear hyy t0
   have d2 : decide ((0 : Int) < (j : Int) + 1) = true:=by rw [decide_eq_true_eq]; omega
   cases hp : Op.bytesLess y.toList x.name.toList
   ·have HF : Hid (diskOk xs = false):=zd (HB.out (by rw [HP.out,HFT.out,hn,HV.out,hq,HPL.out,show fLess y x.name = false from hp]; first | rfl | simp))
    go_wp2
    go_quiet ((first | (go_at_call 170; exact quiet_w (spec_fname _ _)) | (go_at_call 48; exact quiet_w (spec_in _ _ _ _))))
    go_wp2
    go_ret
    exact ⟨ya1 zz24,bW.trans ((Below.drewN hBl _).mono bW.size)⟩
   ·have HF : Hid (∀ q,q < j + 1 + 1 → fileP xs q = true):=zd (by exact HN.out (by rw [HP.out,HFT.out,hn,HV.out,hq,HPL.out,show fLess y x.name = true from hp]; rfl))
    go_wp2
    go_quiet ((first | (go_at_call 170; exact quiet_w (spec_fname _ _)) | (go_at_call 48; exact quiet_w (spec_in _ _ _ _))))
    go_wp2
    go_roundw
    case rel => exact ⟨j + 1 + 1,zz4,by go_num,HF,Below.drewN hBl _⟩
    case measure => simp [intOf]; omega
  ·have hke : k = xs.length:=by omega
   subst hke
   have HE:=zd (diskOk_end hall.out)
   have HD:=zd (decide_eq_true hlen)
   go_wp2_with (fail)
   go_ret
   exact ⟨ya1 (by rw [HE.out,HD.out]),bW.trans (hb.mono bW.size)⟩
end Go.Proofs.YtlfnmbcnehaikaaGreatDoor
