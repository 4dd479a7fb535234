/- A part of the proof. -/
import Derived.Outline
import Derived.Test.YtlfnmbcnehaikaaGreatDoorHApL9xAr
set_option linter.unusedVariables false
set_option linter.unusedSimpArgs false
set_option maxRecDepth 20000
set_option maxHeartbeats 8000000
namespace Go.Proofs.YtlfnmbcnehaikaaGreatDoor
open Go.RowKit Lay Mk
theorem or_comm32 (a b : Int) : bits .or .u32 a b = bits .or .u32 b a:=by
 unfold bits; simp only [BitVec.or_comm]
def rotr (p q : Int) (x : Int) : Int:=bits .or .u32 (x / p) (x * q % 4294967296)
theorem wrap32_lt (x : Int) : 0 ≤ IntKind.u32.wrap x ∧ IntKind.u32.wrap x < 4294967296:=by rw [IntKind.wrap_u32']; omega
theorem bits32_lt (op : BinOp) (a b : Int) : 0 ≤ bits op .u32 a b ∧ bits op .u32 a b < 4294967296:=by
 unfold bits
 split <;> exact wrap32_lt _
def turnsAll : List Int:=[7,18,17,19,6,11,25,2,13,22]
def rotI (n x : Int) : Int:=rotr (2 ^ n.toNat) (2 ^ (32 - n.toNat)) x
theorem rotI7 (x : Int) : rotI 7 x = rotr 128 33554432 x:=by unfold rotI; rfl
theorem rotI18 (x : Int) : rotI 18 x = rotr 262144 16384 x:=by unfold rotI; rfl
theorem rotI17 (x : Int) : rotI 17 x = rotr 131072 32768 x:=by unfold rotI; rfl
theorem rotI19 (x : Int) : rotI 19 x = rotr 524288 8192 x:=by unfold rotI; rfl
theorem rotI6 (x : Int) : rotI 6 x = rotr 64 67108864 x:=by unfold rotI; rfl
theorem rotI11 (x : Int) : rotI 11 x = rotr 2048 2097152 x:=by unfold rotI; rfl
theorem rotI25 (x : Int) : rotI 25 x = rotr 33554432 128 x:=by unfold rotI; rfl
theorem rotI2 (x : Int) : rotI 2 x = rotr 4 1073741824 x:=by unfold rotI; rfl
theorem rotI13 (x : Int) : rotI 13 x = rotr 8192 524288 x:=by unfold rotI; rfl
theorem rotI22 (x : Int) : rotI 22 x = rotr 4194304 1024 x:=by unfold rotI; rfl
theorem spec_turn7 (x : Int) (w : World) (h0 : 0 ≤ x) (h1 : x < 4294967296) : Calls Tryz.prog 234 #[.int .u32 x, .int .u64 7] w fun e w' => e = .returned (.int .u32 (rotr 128 33554432 x)) ∧ w = w':=by
 go_enter Tryz.func234,Tryz.ntmps234
 go_wp2
 go_ret
 exact ⟨rfl,rfl⟩
theorem rot7 (x : Int) (w : World) (h0 : 0 ≤ x) (h1 : x < 4294967296) : Calls Tryz.prog 229 #[.int .u32 x, .int .i64 (-7)] w fun e w' => e = .returned (.int .u32 (rotr 128 33554432 x)) ∧ w = w':=by
 have k7 : bits .and .u64 (IntKind.u64.wrap (-7)) 31 = 25:=zz44
 go_enter Tryz.func229,Tryz.ntmps229
 go_wp2
 go_ret
 exact ⟨by unfold rotr; rw [or_comm32]; rfl,rfl⟩
theorem impl_turn7 (x : Int) (w : World) (h0 : 0 ≤ x) (h1 : x < 4294967296) : Calls Tryz.prog 228 #[.int .u32 x, .int .i64 7] w fun e w' => e = .returned (.int .u32 (rotr 128 33554432 x)) ∧ w = w':=by
 go_enter Tryz.func228,Tryz.ntmps228
 go_wp2_with (go_at_call 229; refine (rot7 _ _ h0 h1).mono ?_; rintro e w' ⟨rfl,rfl⟩)
 go_ret
 exact ⟨rfl,rfl⟩
theorem spec_turn18 (x : Int) (w : World) (h0 : 0 ≤ x) (h1 : x < 4294967296) : Calls Tryz.prog 234 #[.int .u32 x, .int .u64 18] w fun e w' => e = .returned (.int .u32 (rotr 262144 16384 x)) ∧ w = w':=by
 go_enter Tryz.func234,Tryz.ntmps234
 go_wp2
 go_ret
 exact ⟨rfl,rfl⟩
theorem rot18 (x : Int) (w : World) (h0 : 0 ≤ x) (h1 : x < 4294967296) : Calls Tryz.prog 229 #[.int .u32 x, .int .i64 (-18)] w fun e w' => e = .returned (.int .u32 (rotr 262144 16384 x)) ∧ w = w':=by
 have k7 : bits .and .u64 (IntKind.u64.wrap (-18)) 31 = 14:=zz44
 go_enter Tryz.func229,Tryz.ntmps229
 go_wp2
 go_ret
 exact ⟨by unfold rotr; rw [or_comm32]; rfl,rfl⟩
theorem impl_turn18 (x : Int) (w : World) (h0 : 0 ≤ x) (h1 : x < 4294967296) : Calls Tryz.prog 228 #[.int .u32 x, .int .i64 18] w fun e w' => e = .returned (.int .u32 (rotr 262144 16384 x)) ∧ w = w':=by
 go_enter Tryz.func228,Tryz.ntmps228
 go_wp2_with (go_at_call 229; refine (rot18 _ _ h0 h1).mono ?_; rintro e w' ⟨rfl,rfl⟩)
 go_ret
 exact ⟨rfl,rfl⟩
theorem spec_turn17 (x : Int) (w : World) (h0 : 0 ≤ x) (h1 : x < 4294967296) : Calls Tryz.prog 234 #[.int .u32 x, .int .u64 17] w fun e w' => e = .returned (.int .u32 (rotr 131072 32768 x)) ∧ w = w':=by
 go_enter Tryz.func234,Tryz.ntmps234
 go_wp2
 go_ret
 exact ⟨rfl,rfl⟩
theorem rot17 (x : Int) (w : World) (h0 : 0 ≤ x) (h1 : x < 4294967296) : Calls Tryz.prog 229 #[.int .u32 x, .int .i64 (-17)] w fun e w' => e = .returned (.int .u32 (rotr 131072 32768 x)) ∧ w = w':=by
 have k7 : bits .and .u64 (IntKind.u64.wrap (-17)) 31 = 15:=zz44
 go_enter Tryz.func229,Tryz.ntmps229
 go_wp2
 go_ret
 exact ⟨by unfold rotr; rw [or_comm32]; rfl,rfl⟩
theorem impl_turn17 (x : Int) (w : World) (h0 : 0 ≤ x) (h1 : x < 4294967296) : Calls Tryz.prog 228 #[.int .u32 x, .int .i64 17] w fun e w' => e = .returned (.int .u32 (rotr 131072 32768 x)) ∧ w = w':=by
 go_enter Tryz.func228,Tryz.ntmps228
 go_wp2_with (go_at_call 229; refine (rot17 _ _ h0 h1).mono ?_; rintro e w' ⟨rfl,rfl⟩)
 go_ret
 exact ⟨rfl,rfl⟩
theorem spec_turn19 (x : Int) (w : World) (h0 : 0 ≤ x) (h1 : x < 4294967296) : Calls Tryz.prog 234 #[.int .u32 x, .int .u64 19] w fun e w' => e = .returned (.int .u32 (rotr 524288 8192 x)) ∧ w = w':=by
 go_enter Tryz.func234,Tryz.ntmps234
 go_wp2
 go_ret
 exact ⟨rfl,rfl⟩
theorem rot19 (x : Int) (w : World) (h0 : 0 ≤ x) (h1 : x < 4294967296) : Calls Tryz.prog 229 #[.int .u32 x, .int .i64 (-19)] w fun e w' => e = .returned (.int .u32 (rotr 524288 8192 x)) ∧ w = w':=by
 have k7 : bits .and .u64 (IntKind.u64.wrap (-19)) 31 = 13:=zz44
 go_enter Tryz.func229,Tryz.ntmps229
 go_wp2
 go_ret
 exact ⟨by unfold rotr; rw [or_comm32]; rfl,rfl⟩
theorem impl_turn19 (x : Int) (w : World) (h0 : 0 ≤ x) (h1 : x < 4294967296) : Calls Tryz.prog 228 #[.int .u32 x, .int .i64 19] w fun e w' => e = .returned (.int .u32 (rotr 524288 8192 x)) ∧ w = w':=by
 go_enter Tryz.func228,Tryz.ntmps228
 go_wp2_with (go_at_call 229; refine (rot19 _ _ h0 h1).mono ?_; rintro e w' ⟨rfl,rfl⟩)
 go_ret
 exact ⟨rfl,rfl⟩
theorem spec_turn6 (x : Int) (w : World) (h0 : 0 ≤ x) (h1 : x < 4294967296) : Calls Tryz.prog 234 #[.int .u32 x, .int .u64 6] w fun e w' => e = .returned (.int .u32 (rotr 64 67108864 x)) ∧ w = w':=by
 go_enter Tryz.func234,Tryz.ntmps234
 go_wp2
 go_ret
 exact ⟨rfl,rfl⟩
theorem rot6 (x : Int) (w : World) (h0 : 0 ≤ x) (h1 : x < 4294967296) : Calls Tryz.prog 229 #[.int .u32 x, .int .i64 (-6)] w fun e w' => e = .returned (.int .u32 (rotr 64 67108864 x)) ∧ w = w':=by
 have k7 : bits .and .u64 (IntKind.u64.wrap (-6)) 31 = 26:=zz44
 go_enter Tryz.func229,Tryz.ntmps229
 go_wp2
 go_ret
 exact ⟨by unfold rotr; rw [or_comm32]; rfl,rfl⟩
theorem impl_turn6 (x : Int) (w : World) (h0 : 0 ≤ x) (h1 : x < 4294967296) : Calls Tryz.prog 228 #[.int .u32 x, .int .i64 6] w fun e w' => e = .returned (.int .u32 (rotr 64 67108864 x)) ∧ w = w':=by
 go_enter Tryz.func228,Tryz.ntmps228
 go_wp2_with (go_at_call 229; refine (rot6 _ _ h0 h1).mono ?_; rintro e w' ⟨rfl,rfl⟩)
 go_ret
 exact ⟨rfl,rfl⟩
theorem spec_turn11 (x : Int) (w : World) (h0 : 0 ≤ x) (h1 : x < 4294967296) : Calls Tryz.prog 234 #[.int .u32 x, .int .u64 11] w fun e w' => e = .returned (.int .u32 (rotr 2048 2097152 x)) ∧ w = w':=by
 go_enter Tryz.func234,Tryz.ntmps234
 go_wp2
 go_ret
 exact ⟨rfl,rfl⟩
theorem rot11 (x : Int) (w : World) (h0 : 0 ≤ x) (h1 : x < 4294967296) : Calls Tryz.prog 229 #[.int .u32 x, .int .i64 (-11)] w fun e w' => e = .returned (.int .u32 (rotr 2048 2097152 x)) ∧ w = w':=by
 have k7 : bits .and .u64 (IntKind.u64.wrap (-11)) 31 = 21:=zz44
 go_enter Tryz.func229,Tryz.ntmps229
 go_wp2
 go_ret
 exact ⟨by unfold rotr; rw [or_comm32]; rfl,rfl⟩
theorem impl_turn11 (x : Int) (w : World) (h0 : 0 ≤ x) (h1 : x < 4294967296) : Calls Tryz.prog 228 #[.int .u32 x, .int .i64 11] w fun e w' => e = .returned (.int .u32 (rotr 2048 2097152 x)) ∧ w = w':=by
 go_enter Tryz.func228,Tryz.ntmps228
 go_wp2_with (go_at_call 229; refine (rot11 _ _ h0 h1).mono ?_; rintro e w' ⟨rfl,rfl⟩)
 go_ret
 exact ⟨rfl,rfl⟩
theorem spec_turn25 (x : Int) (w : World) (h0 : 0 ≤ x) (h1 : x < 4294967296) : Calls Tryz.prog 234 #[.int .u32 x, .int .u64 25] w fun e w' => e = .returned (.int .u32 (rotr 33554432 128 x)) ∧ w = w':=by
 go_enter Tryz.func234,Tryz.ntmps234
 go_wp2
 go_ret
 exact ⟨rfl,rfl⟩
theorem rot25 (x : Int) (w : World) (h0 : 0 ≤ x) (h1 : x < 4294967296) : Calls Tryz.prog 229 #[.int .u32 x, .int .i64 (-25)] w fun e w' => e = .returned (.int .u32 (rotr 33554432 128 x)) ∧ w = w':=by
 have k7 : bits .and .u64 (IntKind.u64.wrap (-25)) 31 = 7:=zz44
 go_enter Tryz.func229,Tryz.ntmps229
 go_wp2
 go_ret
 exact ⟨by unfold rotr; rw [or_comm32]; rfl,rfl⟩
theorem impl_turn25 (x : Int) (w : World) (h0 : 0 ≤ x) (h1 : x < 4294967296) : Calls Tryz.prog 228 #[.int .u32 x, .int .i64 25] w fun e w' => e = .returned (.int .u32 (rotr 33554432 128 x)) ∧ w = w':=by
 go_enter Tryz.func228,Tryz.ntmps228
 go_wp2_with (go_at_call 229; refine (rot25 _ _ h0 h1).mono ?_; rintro e w' ⟨rfl,rfl⟩)
 go_ret
 exact ⟨rfl,rfl⟩
theorem spec_turn2 (x : Int) (w : World) (h0 : 0 ≤ x) (h1 : x < 4294967296) : Calls Tryz.prog 234 #[.int .u32 x, .int .u64 2] w fun e w' => e = .returned (.int .u32 (rotr 4 1073741824 x)) ∧ w = w':=by
 go_enter Tryz.func234,Tryz.ntmps234
 go_wp2
 go_ret
 exact ⟨rfl,rfl⟩
theorem rot2 (x : Int) (w : World) (h0 : 0 ≤ x) (h1 : x < 4294967296) : Calls Tryz.prog 229 #[.int .u32 x, .int .i64 (-2)] w fun e w' => e = .returned (.int .u32 (rotr 4 1073741824 x)) ∧ w = w':=by
 have k7 : bits .and .u64 (IntKind.u64.wrap (-2)) 31 = 30:=zz44
 go_enter Tryz.func229,Tryz.ntmps229
 go_wp2
 go_ret
 exact ⟨by unfold rotr; rw [or_comm32]; rfl,rfl⟩
theorem impl_turn2 (x : Int) (w : World) (h0 : 0 ≤ x) (h1 : x < 4294967296) : Calls Tryz.prog 228 #[.int .u32 x, .int .i64 2] w fun e w' => e = .returned (.int .u32 (rotr 4 1073741824 x)) ∧ w = w':=by
 go_enter Tryz.func228,Tryz.ntmps228
 go_wp2_with (go_at_call 229; refine (rot2 _ _ h0 h1).mono ?_; rintro e w' ⟨rfl,rfl⟩)
 go_ret
 exact ⟨rfl,rfl⟩
theorem spec_turn13 (x : Int) (w : World) (h0 : 0 ≤ x) (h1 : x < 4294967296) : Calls Tryz.prog 234 #[.int .u32 x, .int .u64 13] w fun e w' => e = .returned (.int .u32 (rotr 8192 524288 x)) ∧ w = w':=by
 go_enter Tryz.func234,Tryz.ntmps234
 go_wp2
 go_ret
 exact ⟨rfl,rfl⟩
theorem rot13 (x : Int) (w : World) (h0 : 0 ≤ x) (h1 : x < 4294967296) : Calls Tryz.prog 229 #[.int .u32 x, .int .i64 (-13)] w fun e w' => e = .returned (.int .u32 (rotr 8192 524288 x)) ∧ w = w':=by
 have k7 : bits .and .u64 (IntKind.u64.wrap (-13)) 31 = 19:=zz44
 go_enter Tryz.func229,Tryz.ntmps229
 go_wp2
 go_ret
 exact ⟨by unfold rotr; rw [or_comm32]; rfl,rfl⟩
theorem impl_turn13 (x : Int) (w : World) (h0 : 0 ≤ x) (h1 : x < 4294967296) : Calls Tryz.prog 228 #[.int .u32 x, .int .i64 13] w fun e w' => e = .returned (.int .u32 (rotr 8192 524288 x)) ∧ w = w':=by
 go_enter Tryz.func228,Tryz.ntmps228
 go_wp2_with (go_at_call 229; refine (rot13 _ _ h0 h1).mono ?_; rintro e w' ⟨rfl,rfl⟩)
 go_ret
 exact ⟨rfl,rfl⟩
theorem spec_turn22 (x : Int) (w : World) (h0 : 0 ≤ x) (h1 : x < 4294967296) : Calls Tryz.prog 234 #[.int .u32 x, .int .u64 22] w fun e w' => e = .returned (.int .u32 (rotr 4194304 1024 x)) ∧ w = w':=by
 go_enter Tryz.func234,Tryz.ntmps234
 go_wp2
 go_ret
 exact ⟨rfl,rfl⟩
theorem rot22 (x : Int) (w : World) (h0 : 0 ≤ x) (h1 : x < 4294967296) : Calls Tryz.prog 229 #[.int .u32 x, .int .i64 (-22)] w fun e w' => e = .returned (.int .u32 (rotr 4194304 1024 x)) ∧ w = w':=by
 have k7 : bits .and .u64 (IntKind.u64.wrap (-22)) 31 = 10:=zz44
 go_enter Tryz.func229,Tryz.ntmps229
 go_wp2
 go_ret
 exact ⟨by unfold rotr; rw [or_comm32]; rfl,rfl⟩
theorem impl_turn22 (x : Int) (w : World) (h0 : 0 ≤ x) (h1 : x < 4294967296) : Calls Tryz.prog 228 #[.int .u32 x, .int .i64 22] w fun e w' => e = .returned (.int .u32 (rotr 4194304 1024 x)) ∧ w = w':=by
 go_enter Tryz.func228,Tryz.ntmps228
 go_wp2_with (go_at_call 229; refine (rot22 _ _ h0 h1).mono ?_; rintro e w' ⟨rfl,rfl⟩)
 go_ret
 exact ⟨rfl,rfl⟩
theorem spec_turn (n : Int) (x : Int) (w : World) (hn : n ∈ turnsAll) (h0 : 0 ≤ x) (h1 : x < 4294967296) : Calls Tryz.prog 234 #[.int .u32 x, .int .u64 n] w fun e w' => e = .returned (.int .u32 (rotI n x)) ∧ w = w':=by
 simp only [turnsAll,List.mem_cons,List.mem_nil_iff,or_false] at hn
 rcases hn with rfl | rfl | rfl | rfl | rfl | rfl | rfl | rfl | rfl | rfl
 ·rw [rotI7]; exact spec_turn7 x w h0 h1
 ·rw [rotI18]; exact spec_turn18 x w h0 h1
 ·rw [rotI17]; exact spec_turn17 x w h0 h1
 ·rw [rotI19]; exact spec_turn19 x w h0 h1
 ·rw [rotI6]; exact spec_turn6 x w h0 h1
 ·rw [rotI11]; exact spec_turn11 x w h0 h1
 ·rw [rotI25]; exact spec_turn25 x w h0 h1
 ·rw [rotI2]; exact spec_turn2 x w h0 h1
 ·rw [rotI13]; exact spec_turn13 x w h0 h1
 ·rw [rotI22]; exact spec_turn22 x w h0 h1
theorem impl_turn (n : Int) (x : Int) (w : World) (hn : n ∈ turnsAll) (h0 : 0 ≤ x) (h1 : x < 4294967296) : Calls Tryz.prog 228 #[.int .u32 x, .int .i64 n] w fun e w' => e = .returned (.int .u32 (rotI n x)) ∧ w = w':=by
 simp only [turnsAll,List.mem_cons,List.mem_nil_iff,or_false] at hn
 rcases hn with rfl | rfl | rfl | rfl | rfl | rfl | rfl | rfl | rfl | rfl
 ·rw [rotI7]; exact impl_turn7 x w h0 h1
 ·rw [rotI18]; exact impl_turn18 x w h0 h1
 ·rw [rotI17]; exact impl_turn17 x w h0 h1
 ·rw [rotI19]; exact impl_turn19 x w h0 h1
 ·rw [rotI6]; exact impl_turn6 x w h0 h1
 ·rw [rotI11]; exact impl_turn11 x w h0 h1
 ·rw [rotI25]; exact impl_turn25 x w h0 h1
 ·rw [rotI2]; exact impl_turn2 x w h0 h1
 ·rw [rotI13]; exact impl_turn13 x w h0 h1
 ·rw [rotI22]; exact impl_turn22 x w h0 h1
end Go.Proofs.YtlfnmbcnehaikaaGreatDoor
namespace Go.Proofs.YtlfnmbcnehaikaaGreatDoor
open Go.RowKit Lay Mk
structure Grown (W : World) where
 w : World
 ok : Below W.heap.size W w
instance {W : World} : Nonempty (Grown W):=⟨⟨W,Below.refl _ _⟩⟩
theorem Grown.size {W : World} (g : Grown W) : W.heap.size ≤ g.w.heap.size:=g.ok.size
theorem Grown.cell {W : World} {p : Addr} {v : Value} (h : W.cell? p = some v) : ∀ g : Grown W,g.w.cell? p = some v:=fun g => (g.ok.cell (p:=p) (World.block_lt_of_cell? W p h)).trans h
theorem ya4 {P : Program} {f : FuncId} {args : Array Value} {W : World} {v : Value} {g : Grown W} (h : Calls P f args g.w fun e w' => e = .returned v ∧ Below g.w.heap.size g.w w') : Calls P f args g.w fun e w' => e = .returned v ∧ ∃ g' : Grown W,w' = g'.w :=
 h.mono fun _ _ ⟨he,hb⟩ => ⟨he,⟨_,g.ok.trans (hb.mono g.size)⟩,rfl⟩
theorem grown_same {P : Program} {f : FuncId} {args : Array Value} {W : World} {v : Value} {g : Grown W} (h : Calls P f args g.w fun e w' => e = .returned v ∧ g.w = w') : Calls P f args g.w fun e w' => e = .returned v ∧ ∃ g' : Grown W,w' = g'.w :=
 h.mono fun _ _ ⟨he,hb⟩ => ⟨he,g,hb.symm⟩
theorem ya5 {W w : World} (h : ∃ g : Grown W,w = g.w) : Below W.heap.size W w:=by
 obtain ⟨g,rfl⟩:=h
 exact g.ok
theorem ya0 {P : Program} {id : Nat} {Q : Exit → Act → World → Prop} {a : Act} {W : World} {l : List Oper} (hm : P.follows .mixedOrders = true) (hB : Region.lexB .any l.toArray = true)
  (h : wpQuiet P l.toArray (fun w' => ∃ g : Grown W,w' = g.w) (fun a' => ∀ w',(∃ g : Grown W,w' = g.w) → Q .normal a' w') l a) : (Code.region id l.toArray true).wp P Q a W :=
 wp_region_quiet (C:=fun w' => ∃ g : Grown W,w' = g.w) hm hB ⟨⟨_,(Below.refl _ _).drew⟩,rfl⟩ (by simpa using h)
end Go.Proofs.YtlfnmbcnehaikaaGreatDoor
namespace Go.Proofs.YtlfnmbcnehaikaaGreatDoor
open Go.RowKit Lay Mk
theorem step_app {α : Type} [Lay α] [SlTy α] [Inf α] {ops : Array Oper} {o : Oper} {a : Act} {K : Act → World → Prop} {Q : Exit → Act → World → Prop} {E : Prop} {w : World} (hgd : o.guard = none) (s x : Operand)
  (ho : o.op = .call { callee:=.builtin .append,args:=#[s,x],argTypes:=#[SlTy.st α,SlTy.st α] })
  {A A2 : Option Addr} {cap c2 k m : Nat} {xs ys : List α} {S T : Blks} (hs : a.eval s = .slice A k cap) (hk : k = xs.length) (hrow : Row true w A cap xs S) (hle : k ≤ cap) (hcm : cap ≤ maxLen)
  (hx : a.eval x = .slice A2 m c2) (hm : m = ys.length) (hsrc : Src w A2 ys T) (hd : disj S T) (hb : k + m ≤ 4000000000)
  (h : ∀ A' cap' w',k + m ≤ cap' → cap' ≤ maxLen → Row true w' A' cap' (xs ++ ys) (fun b => S b ∨ T b ∨ (w.heap.size ≤ b ∧ b < w'.heap.size)) → Chg S w w' → K (a.put o.dst (.slice A' (k + m) cap')) w') :
  if Region.wanted o (yielded ops a.tmps) = true then Oper.wp Tryz.prog o a w K Q else E:=by
 have hw : Region.wanted o (yielded ops a.tmps) = true:=by simp [Region.wanted,hgd]
 rw [if_pos hw]
 subst hk; subst hm
 obtain ⟨z,bytes,e,hz,hby⟩:=Inf.ex (α:=α)
 obtain ⟨i,hi,h0,h1,h2⟩:=info_parts e
 obtain ⟨A',cap',w',hr,h3,h4,h5,h6⟩:=run_app (P:=Tryz.prog) (c2:=c2) (SlTy.st α) o.type i z bytes Inf.st hi h0 h1 h2 hz hrow hle hcm hsrc hd (by unfold maxLen; omega)
  (Nat.le_trans (Nat.mul_le_mul hb hby) zz44)
 unfold Oper.wp execOp
 simp only [ho,resolve,invoke,builtin,Sem.run_bind,Sem.run_pure,Result.andThen_ok,List.map_toArray,List.map_cons,List.map_nil,hs,hx,hr]
 exact h A' cap' w' h3 h4 h5 h6
end Go.Proofs.YtlfnmbcnehaikaaGreatDoor
namespace Go.Proofs.YtlfnmbcnehaikaaGreatDoor
open Go.RowKit Lay Mk
def rdGo (t : ByteArray) (a : Nat) : Nat → Nat → Nat → Option (Nat × Nat)
 | 0,_,_ => none
 | f + 1,k,n =>
  if h : a + k < t.size then
   if t[a + k].toNat < 128 then
    (if (t[a + k].toNat = 0 ∧ 0 < k) ∨ 1000000000 < n + t[a + k].toNat % 128 * 128 ^ k then none else some (n + t[a + k].toNat % 128 * 128 ^ k,a + k + 1))
   else rdGo t a f (k + 1) (n + t[a + k].toNat % 128 * 128 ^ k)
  else none
def rdVar (t : ByteArray) (a : Nat) : Option (Nat × Nat):=rdGo t a 5 0 0
theorem rdGo_end (t : ByteArray) (a k n : Nat) : rdGo t a 0 k n = none:=rfl
theorem rdGo_out {t : ByteArray} {a f k n : Nat} (h : ¬ a + k < t.size) : rdGo t a f k n = none:=by
 cases f with
 | zero => rfl
 | succ f => simp only [rdGo,dif_neg h]
theorem rdGo_more {t : ByteArray} {a f k n : Nat} (h : a + k < t.size) (hx : ¬ t[a + k].toNat < 128) : rdGo t a (f + 1) k n = rdGo t a f (k + 1) (n + t[a + k].toNat % 128 * 128 ^ k):=by
 simp only [rdGo,dif_pos h,if_neg hx]
theorem rdGo_bad {t : ByteArray} {a f k n : Nat} (h : a + k < t.size) (hx : t[a + k].toNat < 128) (hb : (t[a + k].toNat = 0 ∧ 0 < k) ∨ 1000000000 < n + t[a + k].toNat % 128 * 128 ^ k) : rdGo t a (f + 1) k n = none:=by
 simp only [rdGo,dif_pos h,if_pos hx,if_pos hb]
theorem rdGo_good {t : ByteArray} {a f k n : Nat} (h : a + k < t.size) (hx : t[a + k].toNat < 128) (hb : ¬ ((t[a + k].toNat = 0 ∧ 0 < k) ∨ 1000000000 < n + t[a + k].toNat % 128 * 128 ^ k)) : rdGo t a (f + 1) k n = some (n + t[a + k].toNat % 128 * 128 ^ k,a + k + 1):=by
 simp only [rdGo,dif_pos h,if_pos hx,if_neg hb]
theorem rdGo_some : ∀ {f : Nat} {t : ByteArray} {a k n m x : Nat},rdGo t a f k n = some (m,x) → m ≤ 1000000000 ∧ a + k < x ∧ x ≤ a + k + f ∧ x ≤ t.size
 | 0,t,a,k,n,m,x,h => by simp [rdGo] at h
 | f + 1,t,a,k,n,m,x,h => by
  by_cases h1 : a + k < t.size
  ·by_cases h2 : t[a + k].toNat < 128
   ·by_cases h3 : (t[a + k].toNat = 0 ∧ 0 < k) ∨ 1000000000 < n + t[a + k].toNat % 128 * 128 ^ k
    ·rw [rdGo_bad h1 h2 h3] at h; simp at h
    ·rw [rdGo_good h1 h2 h3] at h
     injection h with h
     injection h with ha hb
     omega
   ·rw [rdGo_more h1 h2] at h
    have:=rdGo_some h
    omega
  ·rw [rdGo_out h1] at h; simp at h
theorem rdVar_some {t : ByteArray} {a m x : Nat} (h : rdVar t a = some (m,x)) : m ≤ 1000000000 ∧ a < x ∧ x ≤ a + 5 ∧ x ≤ t.size:=by
 have:=rdGo_some h; omega
def cutB (t : ByteArray) (a b : Nat) : List UInt8:=(t.extract a b).data.toList
theorem cutB_nil (t : ByteArray) (a : Nat) : cutB t a a = []:=by simp [cutB]
theorem cutB_one {t : ByteArray} {a k : Nat} (h : a + k < t.size) : cutB t a (a + k + 1) = cutB t a (a + k) ++ [t[a + k]]:=by
 have h1 : a + k < t.data.size:=h
 have e : t[a + k] = t.data[a + k]:=rfl
 simp only [cutB,ByteArray.data_extract,e]
 have h2 : (t.data.extract a (a + k)).push t.data[a + k] = t.data.extract (min a (a + k)) (a + k + 1):=Array.push_extract_getElem h1
 rw [Nat.min_eq_left zz4] at h2
 rw [← h2,Array.toList_push]
theorem cutB_len {t : ByteArray} {a b : Nat} (h : b ≤ t.size) : (cutB t a b).length = b - a:=by
 have h1 : b ≤ t.data.size:=h
 simp only [cutB,ByteArray.data_extract,Array.length_toList,Array.size_extract]
 omega
structure Pre (t : ByteArray) (a k n : Nat) : Prop where
 lt : n < 128 ^ k
 le : a + k ≤ t.size
 go : ∀ m,0 < m → varB (n + m * 128 ^ k) = cutB t a (a + k) ++ varB m
theorem Pre.start {t : ByteArray} {a : Nat} (h : a ≤ t.size) : Pre t a 0 0:=⟨zz17,h,fun m _ => by simp [cutB_nil]⟩
theorem u8_self (x : UInt8) : UInt8.ofNat x.toNat = x:=by simp
theorem Pre.step {t : ByteArray} {a k n : Nat} (h : Pre t a k n) (hl : a + k < t.size) (hx : ¬ t[a + k].toNat < 128) : Pre t a (k + 1) (n + t[a + k].toNat % 128 * 128 ^ k):=by
 have hb : t[a + k].toNat < 256:=t[a + k].toNat_lt
 obtain ⟨x,e⟩ : ∃ x,t[a + k].toNat = x:=⟨_,rfl⟩
 have he : UInt8.ofNat x = t[a + k]:=by rw [← e]; exact u8_self _
 rw [e] at hx hb ⊢
 have hp : 0 < 128 ^ k:=Nat.pow_pos zz4
 have h1:=h.lt
 have h2 : x % 128 * 128 ^ k ≤ 127 * 128 ^ k:=Nat.mul_le_mul_right _ zz4
 refine ⟨?_,hl,fun m hm => ?_⟩
 ·rw [Nat.pow_succ]; omega
 ·have e1 : n + x % 128 * 128 ^ k + m * 128 ^ (k + 1) = n + (x % 128 + m * 128) * 128 ^ k:=by
   rw [Nat.pow_succ,Nat.add_mul,Nat.mul_assoc m 128,Nat.mul_comm (128 ^ k) 128,Nat.add_assoc]
  rw [e1,h.go _ zz4,varB_more zz4,show (x % 128 + m * 128) / 128 = m from by omega,show 128 + (x % 128 + m * 128) % 128 = x from by omega,he,show a + (k + 1) = a + k + 1 from rfl,cutB_one hl]
  simp
theorem bs_cut (t : ByteArray) (a b : Nat) : t.extract a b = bs (cutB t a b):=by
 apply ByteArray.ext
 simp only [bs,cutB,ByteArray.data_extract,Array.toArray_toList]
theorem bs_inj {l m : List UInt8} (h : bs l = bs m) : l = m:=by
 have:=congrArg (fun t => t.data.toList) h
 simpa [bs] using this
theorem Pre.last {t : ByteArray} {a k n : Nat} (h : Pre t a k n) (hl : a + k < t.size) (hx : t[a + k].toNat < 128) : (varT (n + t[a + k].toNat % 128 * 128 ^ k) = t.extract a (a + k + 1)) ↔ ¬ (t[a + k].toNat = 0 ∧ 0 < k):=by
 have hb : t[a + k].toNat < 256:=t[a + k].toNat_lt
 rw [bs_cut]
 have hc : varT (n + t[a + k].toNat % 128 * 128 ^ k) = bs (varB (n + t[a + k].toNat % 128 * 128 ^ k)):=rfl
 rw [hc,cutB_one hl]
 obtain ⟨x,e⟩ : ∃ x,t[a + k].toNat = x:=⟨_,rfl⟩
 have he : UInt8.ofNat x = t[a + k]:=by rw [← e]; exact u8_self _
 rw [e] at hx hb ⊢
 rw [← he,Nat.mod_eq_of_lt hx]
 constructor
 ·rintro h1 ⟨rfl,hk⟩
  have h2:=congrArg List.length (bs_inj h1)
  rw [List.length_append,cutB_len zz4] at h2
  obtain ⟨j,rfl⟩ : ∃ j,k = j + 1:=⟨k - 1,zz4⟩
  have h3:=varB_len j n h.lt
  simp only [Nat.zero_mul,Nat.add_zero,List.length_cons,List.length_nil] at h2
  omega
 ·intro h1
  by_cases h0 : x = 0
  ·subst h0
   have hk : k = 0:=zz4
   subst hk
   have hn:=h.lt
   have hn0 : n = 0:=by simpa using hn
   subst hn0
   rw [varB_last zz4,show a + 0 = a from rfl,cutB_nil]
   simp
  ·rw [h.go x zz4,varB_last zz4]
def rdShort (t : ByteArray) (a : Nat) : Option (ByteArray × Nat) :=
 match rdVar t a with
 | none => none
 | some (n,x) => if n ≤ 20000 ∧ n ≤ t.size - x then some (t.extract x (x + n),x + n) else none
theorem rdShort_some {t s : ByteArray} {a x : Nat} (h : rdShort t a = some (s,x)) : a < x ∧ x ≤ t.size ∧ s.size ≤ 20000 ∧ s.size ≤ t.size:=by
 unfold rdShort at h
 split at h
 ·simp at h
 ·rename_i n y e
  have h1:=rdVar_some e
  split at h
  ·rename_i h2
   injection h with h
   injection h with ha hb
   subst ha; subst hb
   rw [ByteArray.size_extract]
   omega
  ·simp at h
theorem rdGo_back : ∀ {f : Nat} {t : ByteArray} {a k n m x : Nat},Pre t a k n → rdGo t a f k n = some (m,x) → varT m = bs (cutB t a x)
 | 0,t,a,k,n,m,x,_,h => by simp [rdGo] at h
 | f + 1,t,a,k,n,m,x,hp,h => by
  by_cases h1 : a + k < t.size
  ·by_cases h2 : t[a + k].toNat < 128
   ·by_cases h3 : (t[a + k].toNat = 0 ∧ 0 < k) ∨ 1000000000 < n + t[a + k].toNat % 128 * 128 ^ k
    ·rw [rdGo_bad h1 h2 h3] at h; simp at h
    ·rw [rdGo_good h1 h2 h3] at h
     injection h with h
     injection h with ha hb
     rw [← ha, ← hb, ← bs_cut]
     exact (hp.last h1 h2).2 (fun hh => h3 (.inl hh))
   ·rw [rdGo_more h1 h2] at h
    exact rdGo_back (hp.step h1 h2) h
  ·rw [rdGo_out h1] at h; simp at h
theorem rdVar_back {t : ByteArray} {a m x : Nat} (ha : a ≤ t.size) (h : rdVar t a = some (m,x)) : varT m = bs (cutB t a x):=rdGo_back (Pre.start ha) h
theorem rdShort_no {t : ByteArray} {a : Nat} (h : rdVar t a = none) : rdShort t a = none:=by unfold rdShort; rw [h]
theorem rdShort_at {t : ByteArray} {a n x : Nat} (h : rdVar t a = some (n,x)) : rdShort t a = if n ≤ 20000 ∧ n ≤ t.size - x then some (t.extract x (x + n),x + n) else none:=by unfold rdShort; simp only [h]
end Go.Proofs.YtlfnmbcnehaikaaGreatDoor
namespace Go.Proofs.YtlfnmbcnehaikaaGreatDoor
open Go.RowKit Lay Mk
def padZ (n : Nat) : Nat:=(119 - n % 64) % 64
def lenB (n k : Nat) : UInt8:=UInt8.ofNat (8 * n / 2 ^ (8 * k))
def lens (n : Nat) : List UInt8:=[lenB n 7,lenB n 6,lenB n 5,lenB n 4,lenB n 3,lenB n 2,lenB n 1,lenB n 0]
def padL (s : ByteArray) : List UInt8:=s.data.toList ++ [128] ++ List.replicate (padZ s.size) 0 ++ lens s.size
def pad (s : ByteArray) : ByteArray:=bs (padL s)
theorem pad_size (s : ByteArray) : (pad s).size = s.size + 9 + padZ s.size:=by
 have : s.data.size = s.size:=rfl
 unfold pad padL; rw [bs_size]; simp [lens]; omega
theorem pad_mod (s : ByteArray) : (pad s).size % 64 = 0:=by rw [pad_size]; unfold padZ; omega
theorem lenB_int (n k : Nat) (z : Int) (h : z = ((8 * n / 2 ^ (8 * k) : Nat) : Int) % 256) : z = ((lenB n k).toNat : Int):=by
 subst h
 unfold lenB
 rw [UInt8.toNat_ofNat']
 omega
theorem padZ_test {n z : Nat} (h : z ≤ padZ n) : (n + 1 + z) % 64 = 56 ↔ z = padZ n:=by unfold padZ at *; omega
def slLen : Value → Nat
 | .slice _ n _ => n
 | _ => 0
theorem dlen (s : ByteArray) : s.data.toList.length = s.size:=rfl
theorem impl_PadText (w : World) (s : ByteArray) (hs : s.size ≤ 100000000) : Calls Tryz.prog 208 #[.string s] w fun e w' => e = .returned (.string (pad s)) ∧ Below w.heap.size w w':=by
 have hd:=dlen s
 have HD:=zd hd; clear hd
 have hz64 : padZ s.size < 64:=by unfold padZ; omega
 have E1 : Hid ((119 - (s.size : Int)) % 64 = ((padZ s.size : Nat) : Int)):=zd (by unfold padZ; omega)
 obtain ⟨z,hz⟩ : ∃ z,padZ s.size = z:=⟨_,rfl⟩
 rw [hz] at E1 hz64
 have HZ:=zd hz; clear hz
 go_enter Tryz.func208,Tryz.ntmps208
 go_wp2_with (first | (refine wpList_ofStr rfl _ rfl Tryz.underlying5 Tryz.underlying9 rfl zz4 ?_; intro g cap w1 h1 h2 hg h3 h4; subst hg) | (at_builtin; refine wpList_appB rfl _ _ rfl rfl HD.out.symm (h3.alloc _) h1 h2 [128] rfl rfl (at_lit _ _ _ _ _ rfl) zz4 ?_; intro A2 cap2 w2 p1 p2 p3 p4; have HL2 : Hid (s.size + 1 = (s.data.toList ++ [128]).length):=zd (by rw [List.length_append]; rfl); clear h1 h2 h3) | (at_builtin; refine wpList_appZ rfl _ _ rfl Tryz.underlying3 z rfl HL2.out p3 p1 p2 (congrArg (Value.int IntKind.i64) E1.out) zz4 ?_; intro A3 cap3 w3 q1 q2 q3 q4))
 have hB3 : Below w.heap.size w w3:=((h4.alloc h4.size _).trans (p4.to_below (by have:=h4.size; simp; omega) (fun b hb => hb))).trans (q4.to_below (by have:=h4.size; have:=p4.size; simp at this; omega) (fun b hb => hb.elim id (fun x => by have:=h4.size; simp at x; omega)))
 have r3 : BR w3 A3 cap3 (s.data.toList ++ [128] ++ List.replicate z 0) (fun b => w.heap.size ≤ b):=q3.mono (fun b hb => hb.elim (fun x => x.elim id (fun y => by have:=h4.size; simp at y; omega)) (fun x => by have:=h4.size; have:=p4.size; simp at this; omega))
 obtain ⟨base,hbase⟩ : ∃ l,s.data.toList ++ [128] ++ List.replicate z 0 = l:=⟨_,rfl⟩
 have HL : Hid (s.size + 1 + z = base.length):=zd (by rw [← hbase]; simp; omega)
 have HPd : Hid (pad s = bs (base ++ lens s.size)):=zd (by unfold pad padL; rw [HZ.out,hbase])
 rw [hbase] at r3
 clear hbase q3 q4 p3 p4 p1 p2 h4 HL2 E1
 go_loopw [4,5] (fun u i wr => ∃ (j : Nat) (A : Option Addr) (cap : Nat),j ≤ 8 ∧ i = .int .i64 (7 - (j : Int)) ∧ u = .slice A (s.size + 1 + z + j) cap ∧ s.size + 1 + z + j ≤ cap ∧ cap ≤ maxLen ∧ BR wr A cap (base ++ (lens s.size).take j) (fun b => w.heap.size ≤ b) ∧ Below w.heap.size w wr) (fun _ i _ => (intOf i + 1).toNat)
 case atStart => exact ⟨0,A3,cap3,zz4,zz17,zz17,zz4,q2,by simpa using r3,hB3⟩
 case round =>
  clear r3 hB3 q1 q2
  obtain ⟨j,A,cap,hj,rfl,rfl,c1,c2,r3,hB⟩:=hrel
  have hz:=hB.size
  by_cases hlt : j < 8
  ·have HL3 : Hid (s.size + 1 + z + j = (base ++ (lens s.size).take j).length):=zd (by rw [List.length_append, ← HL.out]; simp [lens]; omega)
   rcases (show j = 0 ∨ j = 1 ∨ j = 2 ∨ j = 3 ∨ j = 4 ∨ j = 5 ∨ j = 6 ∨ j = 7 by omega) with rfl | rfl | rfl | rfl | rfl | rfl | rfl | rfl
   ·have HV : Hid (∀ q : Int,q = ((8 * s.size / 72057594037927936 : Nat) : Int) % 256 → q = ((lenB s.size 7).toNat : Int)):=zd (fun q h => lenB_int _ _ q h)
    go_wp2_with (at_builtin; refine wpList_appB rfl _ _ rfl rfl HL3.out (r3.alloc _) c1 c2 [lenB s.size 7] rfl rfl (at_lit _ _ _ _ _ (congrArg (fun q => [Value.int IntKind.u8 q]) (HV.out _ zz4))) zz4 ?_; intro A5 cap5 w5 d1 d2 d3 d4)
    go_roundw
    case rel => exact ⟨0 + 1,A5,cap5,zz4,zz17,rfl,d1,d2,by rw [show base ++ (lens s.size).take (0 + 1) = base ++ (lens s.size).take 0 ++ [lenB s.size 7] from by rw [List.append_assoc]; rfl]; exact d3.mono (fun b hb => hb.elim id (fun y => by simp at y; omega)),(hB.alloc hz _).trans (d4.to_below zz23 (fun b hb => hb))⟩
    case measure => simp [intOf]
   ·have HV : Hid (∀ q : Int,q = ((8 * s.size / 281474976710656 : Nat) : Int) % 256 → q = ((lenB s.size 6).toNat : Int)):=zd (fun q h => lenB_int _ _ q h)
    go_wp2_with (at_builtin; refine wpList_appB rfl _ _ rfl rfl HL3.out (r3.alloc _) c1 c2 [lenB s.size 6] rfl rfl (at_lit _ _ _ _ _ (congrArg (fun q => [Value.int IntKind.u8 q]) (HV.out _ zz4))) zz4 ?_; intro A5 cap5 w5 d1 d2 d3 d4)
    go_roundw
    case rel => exact ⟨1 + 1,A5,cap5,zz4,zz17,rfl,d1,d2,by rw [show base ++ (lens s.size).take (1 + 1) = base ++ (lens s.size).take 1 ++ [lenB s.size 6] from by rw [List.append_assoc]; rfl]; exact d3.mono (fun b hb => hb.elim id (fun y => by simp at y; omega)),(hB.alloc hz _).trans (d4.to_below zz23 (fun b hb => hb))⟩
    case measure => simp [intOf]
   ·have HV : Hid (∀ q : Int,q = ((8 * s.size / 1099511627776 : Nat) : Int) % 256 → q = ((lenB s.size 5).toNat : Int)):=zd (fun q h => lenB_int _ _ q h)
    go_wp2_with (at_builtin; refine wpList_appB rfl _ _ rfl rfl HL3.out (r3.alloc _) c1 c2 [lenB s.size 5] rfl rfl (at_lit _ _ _ _ _ (congrArg (fun q => [Value.int IntKind.u8 q]) (HV.out _ zz4))) zz4 ?_; intro A5 cap5 w5 d1 d2 d3 d4)
    go_roundw
    case rel => exact ⟨2 + 1,A5,cap5,zz4,zz17,rfl,d1,d2,by rw [show base ++ (lens s.size).take (2 + 1) = base ++ (lens s.size).take 2 ++ [lenB s.size 5] from by rw [List.append_assoc]; rfl]; exact d3.mono (fun b hb => hb.elim id (fun y => by simp at y; omega)),(hB.alloc hz _).trans (d4.to_below zz23 (fun b hb => hb))⟩
    case measure => simp [intOf]
   ·have HV : Hid (∀ q : Int,q = ((8 * s.size / 4294967296 : Nat) : Int) % 256 → q = ((lenB s.size 4).toNat : Int)):=zd (fun q h => lenB_int _ _ q h)
    go_wp2_with (at_builtin; refine wpList_appB rfl _ _ rfl rfl HL3.out (r3.alloc _) c1 c2 [lenB s.size 4] rfl rfl (at_lit _ _ _ _ _ (congrArg (fun q => [Value.int IntKind.u8 q]) (HV.out _ zz4))) zz4 ?_; intro A5 cap5 w5 d1 d2 d3 d4)
    go_roundw
    case rel => exact ⟨3 + 1,A5,cap5,zz4,zz17,rfl,d1,d2,by rw [show base ++ (lens s.size).take (3 + 1) = base ++ (lens s.size).take 3 ++ [lenB s.size 4] from by rw [List.append_assoc]; rfl]; exact d3.mono (fun b hb => hb.elim id (fun y => by simp at y; omega)),(hB.alloc hz _).trans (d4.to_below zz23 (fun b hb => hb))⟩
    case measure => simp [intOf]
   ·have HV : Hid (∀ q : Int,q = ((8 * s.size / 16777216 : Nat) : Int) % 256 → q = ((lenB s.size 3).toNat : Int)):=zd (fun q h => lenB_int _ _ q h)
    go_wp2_with (at_builtin; refine wpList_appB rfl _ _ rfl rfl HL3.out (r3.alloc _) c1 c2 [lenB s.size 3] rfl rfl (at_lit _ _ _ _ _ (congrArg (fun q => [Value.int IntKind.u8 q]) (HV.out _ zz4))) zz4 ?_; intro A5 cap5 w5 d1 d2 d3 d4)
    go_roundw
    case rel => exact ⟨4 + 1,A5,cap5,zz4,zz17,rfl,d1,d2,by rw [show base ++ (lens s.size).take (4 + 1) = base ++ (lens s.size).take 4 ++ [lenB s.size 3] from by rw [List.append_assoc]; rfl]; exact d3.mono (fun b hb => hb.elim id (fun y => by simp at y; omega)),(hB.alloc hz _).trans (d4.to_below zz23 (fun b hb => hb))⟩
    case measure => simp [intOf]
   ·have HV : Hid (∀ q : Int,q = ((8 * s.size / 65536 : Nat) : Int) % 256 → q = ((lenB s.size 2).toNat : Int)):=zd (fun q h => lenB_int _ _ q h)
    go_wp2_with (at_builtin; refine wpList_appB rfl _ _ rfl rfl HL3.out (r3.alloc _) c1 c2 [lenB s.size 2] rfl rfl (at_lit _ _ _ _ _ (congrArg (fun q => [Value.int IntKind.u8 q]) (HV.out _ zz4))) zz4 ?_; intro A5 cap5 w5 d1 d2 d3 d4)
    go_roundw
    case rel => exact ⟨5 + 1,A5,cap5,zz4,zz17,rfl,d1,d2,by rw [show base ++ (lens s.size).take (5 + 1) = base ++ (lens s.size).take 5 ++ [lenB s.size 2] from by rw [List.append_assoc]; rfl]; exact d3.mono (fun b hb => hb.elim id (fun y => by simp at y; omega)),(hB.alloc hz _).trans (d4.to_below zz23 (fun b hb => hb))⟩
    case measure => simp [intOf]
   ·have HV : Hid (∀ q : Int,q = ((8 * s.size / 256 : Nat) : Int) % 256 → q = ((lenB s.size 1).toNat : Int)):=zd (fun q h => lenB_int _ _ q h)
    go_wp2_with (at_builtin; refine wpList_appB rfl _ _ rfl rfl HL3.out (r3.alloc _) c1 c2 [lenB s.size 1] rfl rfl (at_lit _ _ _ _ _ (congrArg (fun q => [Value.int IntKind.u8 q]) (HV.out _ zz4))) zz4 ?_; intro A5 cap5 w5 d1 d2 d3 d4)
    go_roundw
    case rel => exact ⟨6 + 1,A5,cap5,zz4,zz17,rfl,d1,d2,by rw [show base ++ (lens s.size).take (6 + 1) = base ++ (lens s.size).take 6 ++ [lenB s.size 1] from by rw [List.append_assoc]; rfl]; exact d3.mono (fun b hb => hb.elim id (fun y => by simp at y; omega)),(hB.alloc hz _).trans (d4.to_below zz23 (fun b hb => hb))⟩
    case measure => simp [intOf]
   ·have HV : Hid (∀ q : Int,q = ((8 * s.size / 1 : Nat) : Int) % 256 → q = ((lenB s.size 0).toNat : Int)):=zd (fun q h => lenB_int _ _ q h)
    go_wp2_with (at_builtin; refine wpList_appB rfl _ _ rfl rfl HL3.out (r3.alloc _) c1 c2 [lenB s.size 0] rfl rfl (at_lit _ _ _ _ _ (congrArg (fun q => [Value.int IntKind.u8 q]) (HV.out _ zz4))) zz4 ?_; intro A5 cap5 w5 d1 d2 d3 d4)
    go_roundw
    case rel => exact ⟨7 + 1,A5,cap5,zz4,zz17,rfl,d1,d2,by rw [show base ++ (lens s.size).take (7 + 1) = base ++ (lens s.size).take 7 ++ [lenB s.size 0] from by rw [List.append_assoc]; rfl]; exact d3.mono (fun b hb => hb.elim id (fun y => by simp at y; omega)),(hB.alloc hz _).trans (d4.to_below zz23 (fun b hb => hb))⟩
    case measure => simp [intOf]
  ·have hje : j = 8:=by omega
   subst hje
   have HL4 : Hid (s.size + 1 + z + 8 = (base ++ (lens s.size).take 8).length):=zd (by rw [List.length_append, ← HL.out]; rfl)
   go_wp2_with (refine wpList_strB rfl _ rfl Tryz.underlying5 Tryz.underlying9 rfl HL4.out r3 ?_)
   go_ret
   exact ⟨by rw [HPd.out]; rfl,hB⟩
theorem spec_PadText (w : World) (s : ByteArray) (hs : s.size ≤ 100000000) : Calls Tryz.prog 222 #[.string s] w fun e w' => e = .returned (.string (pad s)) ∧ Below w.heap.size w w':=by
 have hd:=dlen s
 have HD:=zd hd; clear hd
 have hz64 : padZ s.size < 64:=by unfold padZ; omega
 have HT:=zd (fun q => padZ_test (n:=s.size) (z:=q))
 obtain ⟨z,hz⟩ : ∃ z,padZ s.size = z:=⟨_,rfl⟩
 rw [hz] at HT hz64
 have HZ:=zd hz; clear hz
 go_enter Tryz.func222,Tryz.ntmps222
 go_wp2_with (first | (refine wpList_ofStr rfl _ rfl Tryz.underlying5 Tryz.underlying9 rfl zz4 ?_; intro g cap w1 h1 h2 hg h3 h4; subst hg) | (at_builtin; refine wpList_appB rfl _ _ rfl rfl HD.out.symm (h3.alloc _) h1 h2 [128] rfl rfl (at_lit _ _ _ _ _ rfl) zz4 ?_; intro A2 cap2 w2 p1 p2 p3 p4; clear h1 h2 h3))
 have hB2 : Below w.heap.size w w2:=((h4.alloc h4.size _).trans (p4.to_below (by have:=h4.size; simp; omega) (fun b hb => hb)))
 have r2 : BR w2 A2 cap2 (s.data.toList ++ [128] ++ List.replicate 0 0) (fun b => w.heap.size ≤ b):=by
  rw [List.replicate_zero,List.append_nil]
  exact p3.mono (fun b hb => hb.elim id (fun x => by have:=h4.size; simp at x; omega))
 obtain ⟨bas,hbas⟩ : ∃ l,s.data.toList ++ [128] = l:=⟨_,rfl⟩
 have HL0 : Hid (s.size + 1 = bas.length):=zd (by rw [← hbas]; simp)
 have HPd : Hid (pad s = bs (bas ++ List.replicate z 0 ++ lens s.size)):=zd (by unfold pad padL; rw [HZ.out,hbas])
 rw [hbas] at r2
 clear hbas p3 p4 h4
 go_loopw [3] (fun u wr => ∃ (q : Nat) (A : Option Addr) (cap : Nat),q ≤ z ∧ u = .slice A (s.size + 1 + q) cap ∧ s.size + 1 + q ≤ cap ∧ cap ≤ maxLen ∧ BR wr A cap (bas ++ List.replicate q 0) (fun b => w.heap.size ≤ b) ∧ Below w.heap.size w wr) (fun u _ => s.size + 1 + z - slLen u)
 case atStart => exact ⟨0,A2,cap2,zz4,zz17,by simpa using p1,p2,r2,hB2⟩
 case round =>
  clear r2 hB2 p1 p2
  obtain ⟨q,A3,cap3,hq,rfl,q1,q2,r3,hB3⟩:=hrel
  have hz3:=hB3.size
  have ht:=HT.out q hq
  by_cases hlt : q < z
  ·have ht1 : ¬ (s.size + 1 + q) % 64 = 56:=by omega
   have hb1 : (((s.size : Int) + 1 + (q : Int)) % 64 != 56) = true:=by rw [bne_iff_ne]; omega
   have HL3 : Hid (s.size + 1 + q = (bas ++ List.replicate q 0).length):=zd (by rw [List.length_append, ← HL0.out]; simp)
   clear ht
   go_wp2_with (at_builtin; refine wpList_appB rfl _ _ rfl rfl HL3.out (r3.alloc _) q1 q2 [0] rfl rfl (at_lit _ _ _ _ _ rfl) zz4 ?_; intro A5 cap5 w5 d1 d2 d3 d4)
   go_roundw
   case rel => exact ⟨q + 1,A5,cap5,zz4,rfl,d1,d2,by rw [List.replicate_succ', ← List.append_assoc]; exact d3.mono (fun b hb => hb.elim id (fun y => by simp at y; omega)),(hB3.alloc hz3 _).trans (d4.to_below zz23 (fun b hb => hb))⟩
   case measure => simp [slLen]; omega
  ·have hqe : q = z:=by omega
   subst hqe
   have ht1 : (s.size + 1 + q) % 64 = 56:=ht.2 rfl
   have hb1 : (((s.size : Int) + 1 + (q : Int)) % 64 != 56) = false:=by rw [bne_eq_false_iff_eq]; omega
   clear ht hlt hq HT
   have HT1:=zd ht1; clear ht1
   go_wp2
   obtain ⟨base,hbase⟩ : ∃ l,bas ++ List.replicate q 0 = l:=⟨_,rfl⟩
   have HL : Hid (s.size + 1 + q = base.length):=zd (by rw [← hbase,List.length_append, ← HL0.out]; simp)
   rw [hbase] at r3 HPd
   clear hbase hb1
   go_loopw [3,5] (fun u i wr => ∃ (j : Nat) (A : Option Addr) (cap : Nat),j ≤ 8 ∧ i = .int .i64 (7 - (j : Int)) ∧ u = .slice A (s.size + 1 + q + j) cap ∧ s.size + 1 + q + j ≤ cap ∧ cap ≤ maxLen ∧ BR wr A cap (base ++ (lens s.size).take j) (fun b => w.heap.size ≤ b) ∧ Below w.heap.size w wr) (fun _ i _ => (intOf i + 1).toNat)
   case atStart => exact ⟨0,A3,cap3,zz4,zz17,zz17,zz4,q2,by simpa using r3,hB3⟩
   case round =>
    clear r3 hB3 q1 q2
    obtain ⟨j,A,cap,hj,rfl,rfl,c1,c2,r3,hB⟩:=hrel
    have hz:=hB.size
    by_cases hlt : j < 8
    ·have HL3 : Hid (s.size + 1 + q + j = (base ++ (lens s.size).take j).length):=zd (by rw [List.length_append, ← HL.out]; simp [lens]; omega)
     rcases (show j = 0 ∨ j = 1 ∨ j = 2 ∨ j = 3 ∨ j = 4 ∨ j = 5 ∨ j = 6 ∨ j = 7 by omega) with rfl | rfl | rfl | rfl | rfl | rfl | rfl | rfl
     ·have HV : Hid (∀ q : Int,q = ((8 * s.size / 72057594037927936 : Nat) : Int) % 256 → q = ((lenB s.size 7).toNat : Int)):=zd (fun q h => lenB_int _ _ q h)
      go_wp2_with (at_builtin; refine wpList_appB rfl _ _ rfl rfl HL3.out (r3.alloc _) c1 c2 [lenB s.size 7] rfl rfl (at_lit _ _ _ _ _ (congrArg (fun q => [Value.int IntKind.u8 q]) (HV.out _ zz4))) zz4 ?_; intro A5 cap5 w5 d1 d2 d3 d4)
      go_roundw
      case rel => exact ⟨0 + 1,A5,cap5,zz4,zz17,rfl,d1,d2,by rw [show base ++ (lens s.size).take (0 + 1) = base ++ (lens s.size).take 0 ++ [lenB s.size 7] from by rw [List.append_assoc]; rfl]; exact d3.mono (fun b hb => hb.elim id (fun y => by simp at y; omega)),(hB.alloc hz _).trans (d4.to_below zz23 (fun b hb => hb))⟩
      case measure => simp [intOf]
     ·have HV : Hid (∀ q : Int,q = ((8 * s.size / 281474976710656 : Nat) : Int) % 256 → q = ((lenB s.size 6).toNat : Int)):=zd (fun q h => lenB_int _ _ q h)
      go_wp2_with (at_builtin; refine wpList_appB rfl _ _ rfl rfl HL3.out (r3.alloc _) c1 c2 [lenB s.size 6] rfl rfl (at_lit _ _ _ _ _ (congrArg (fun q => [Value.int IntKind.u8 q]) (HV.out _ zz4))) zz4 ?_; intro A5 cap5 w5 d1 d2 d3 d4)
      go_roundw
      case rel => exact ⟨1 + 1,A5,cap5,zz4,zz17,rfl,d1,d2,by rw [show base ++ (lens s.size).take (1 + 1) = base ++ (lens s.size).take 1 ++ [lenB s.size 6] from by rw [List.append_assoc]; rfl]; exact d3.mono (fun b hb => hb.elim id (fun y => by simp at y; omega)),(hB.alloc hz _).trans (d4.to_below zz23 (fun b hb => hb))⟩
      case measure => simp [intOf]
     ·have HV : Hid (∀ q : Int,q = ((8 * s.size / 1099511627776 : Nat) : Int) % 256 → q = ((lenB s.size 5).toNat : Int)):=zd (fun q h => lenB_int _ _ q h)
      go_wp2_with (at_builtin; refine wpList_appB rfl _ _ rfl rfl HL3.out (r3.alloc _) c1 c2 [lenB s.size 5] rfl rfl (at_lit _ _ _ _ _ (congrArg (fun q => [Value.int IntKind.u8 q]) (HV.out _ zz4))) zz4 ?_; intro A5 cap5 w5 d1 d2 d3 d4)
      go_roundw
      case rel => exact ⟨2 + 1,A5,cap5,zz4,zz17,rfl,d1,d2,by rw [show base ++ (lens s.size).take (2 + 1) = base ++ (lens s.size).take 2 ++ [lenB s.size 5] from by rw [List.append_assoc]; rfl]; exact d3.mono (fun b hb => hb.elim id (fun y => by simp at y; omega)),(hB.alloc hz _).trans (d4.to_below zz23 (fun b hb => hb))⟩
      case measure => simp [intOf]
     ·have HV : Hid (∀ q : Int,q = ((8 * s.size / 4294967296 : Nat) : Int) % 256 → q = ((lenB s.size 4).toNat : Int)):=zd (fun q h => lenB_int _ _ q h)
      go_wp2_with (at_builtin; refine wpList_appB rfl _ _ rfl rfl HL3.out (r3.alloc _) c1 c2 [lenB s.size 4] rfl rfl (at_lit _ _ _ _ _ (congrArg (fun q => [Value.int IntKind.u8 q]) (HV.out _ zz4))) zz4 ?_; intro A5 cap5 w5 d1 d2 d3 d4)
      go_roundw
      case rel => exact ⟨3 + 1,A5,cap5,zz4,zz17,rfl,d1,d2,by rw [show base ++ (lens s.size).take (3 + 1) = base ++ (lens s.size).take 3 ++ [lenB s.size 4] from by rw [List.append_assoc]; rfl]; exact d3.mono (fun b hb => hb.elim id (fun y => by simp at y; omega)),(hB.alloc hz _).trans (d4.to_below zz23 (fun b hb => hb))⟩
      case measure => simp [intOf]
     ·have HV : Hid (∀ q : Int,q = ((8 * s.size / 16777216 : Nat) : Int) % 256 → q = ((lenB s.size 3).toNat : Int)):=zd (fun q h => lenB_int _ _ q h)
      go_wp2_with (at_builtin; refine wpList_appB rfl _ _ rfl rfl HL3.out (r3.alloc _) c1 c2 [lenB s.size 3] rfl rfl (at_lit _ _ _ _ _ (congrArg (fun q => [Value.int IntKind.u8 q]) (HV.out _ zz4))) zz4 ?_; intro A5 cap5 w5 d1 d2 d3 d4)
      go_roundw
      case rel => exact ⟨4 + 1,A5,cap5,zz4,zz17,rfl,d1,d2,by rw [show base ++ (lens s.size).take (4 + 1) = base ++ (lens s.size).take 4 ++ [lenB s.size 3] from by rw [List.append_assoc]; rfl]; exact d3.mono (fun b hb => hb.elim id (fun y => by simp at y; omega)),(hB.alloc hz _).trans (d4.to_below zz23 (fun b hb => hb))⟩
      case measure => simp [intOf]
     ·have HV : Hid (∀ q : Int,q = ((8 * s.size / 65536 : Nat) : Int) % 256 → q = ((lenB s.size 2).toNat : Int)):=zd (fun q h => lenB_int _ _ q h)
      go_wp2_with (at_builtin; refine wpList_appB rfl _ _ rfl rfl HL3.out (r3.alloc _) c1 c2 [lenB s.size 2] rfl rfl (at_lit _ _ _ _ _ (congrArg (fun q => [Value.int IntKind.u8 q]) (HV.out _ zz4))) zz4 ?_; intro A5 cap5 w5 d1 d2 d3 d4)
      go_roundw
      case rel => exact ⟨5 + 1,A5,cap5,zz4,zz17,rfl,d1,d2,by rw [show base ++ (lens s.size).take (5 + 1) = base ++ (lens s.size).take 5 ++ [lenB s.size 2] from by rw [List.append_assoc]; rfl]; exact d3.mono (fun b hb => hb.elim id (fun y => by simp at y; omega)),(hB.alloc hz _).trans (d4.to_below zz23 (fun b hb => hb))⟩
      case measure => simp [intOf]
     ·have HV : Hid (∀ q : Int,q = ((8 * s.size / 256 : Nat) : Int) % 256 → q = ((lenB s.size 1).toNat : Int)):=zd (fun q h => lenB_int _ _ q h)
      go_wp2_with (at_builtin; refine wpList_appB rfl _ _ rfl rfl HL3.out (r3.alloc _) c1 c2 [lenB s.size 1] rfl rfl (at_lit _ _ _ _ _ (congrArg (fun q => [Value.int IntKind.u8 q]) (HV.out _ zz4))) zz4 ?_; intro A5 cap5 w5 d1 d2 d3 d4)
      go_roundw
      case rel => exact ⟨6 + 1,A5,cap5,zz4,zz17,rfl,d1,d2,by rw [show base ++ (lens s.size).take (6 + 1) = base ++ (lens s.size).take 6 ++ [lenB s.size 1] from by rw [List.append_assoc]; rfl]; exact d3.mono (fun b hb => hb.elim id (fun y => by simp at y; omega)),(hB.alloc hz _).trans (d4.to_below zz23 (fun b hb => hb))⟩
      case measure => simp [intOf]
     ·have HV : Hid (∀ q : Int,q = ((8 * s.size / 1 : Nat) : Int) % 256 → q = ((lenB s.size 0).toNat : Int)):=zd (fun q h => lenB_int _ _ q h)
      go_wp2_with (at_builtin; refine wpList_appB rfl _ _ rfl rfl HL3.out (r3.alloc _) c1 c2 [lenB s.size 0] rfl rfl (at_lit _ _ _ _ _ (congrArg (fun q => [Value.int IntKind.u8 q]) (HV.out _ zz4))) zz4 ?_; intro A5 cap5 w5 d1 d2 d3 d4)
      go_roundw
      case rel => exact ⟨7 + 1,A5,cap5,zz4,zz17,rfl,d1,d2,by rw [show base ++ (lens s.size).take (7 + 1) = base ++ (lens s.size).take 7 ++ [lenB s.size 0] from by rw [List.append_assoc]; rfl]; exact d3.mono (fun b hb => hb.elim id (fun y => by simp at y; omega)),(hB.alloc hz _).trans (d4.to_below zz23 (fun b hb => hb))⟩
      case measure => simp [intOf]
    ·have hje : j = 8:=by omega
     subst hje
     have HL4 : Hid (s.size + 1 + q + 8 = (base ++ (lens s.size).take 8).length):=zd (by rw [List.length_append, ← HL.out]; rfl)
     go_wp2_with (refine wpList_strB rfl _ rfl Tryz.underlying5 Tryz.underlying9 rfl HL4.out r3 ?_)
     go_ret
     exact ⟨by rw [HPd.out]; rfl,hB⟩
end Go.Proofs.YtlfnmbcnehaikaaGreatDoor
namespace Go.Proofs.YtlfnmbcnehaikaaGreatDoor
open Go.RowKit Lay Mk
def crcS (n : Nat) : Nat:=if n % 2 = 1 then (n / 2) ^^^ 3558460437 else n / 2
def crcJ (n : Nat) : Nat → Nat
 | 0 => n
 | j + 1 => crcS (crcJ n j)
def sumM (s : ByteArray) (n : Nat) : Nat → Nat
 | 0 => n
 | k + 1 => crcJ (sumM s n k ^^^ (s.data.getD k 0).toNat) 8
def sumMore (n : Nat) (s : ByteArray) : Nat:=sumM s n s.size
theorem crcS_lt {n : Nat} (h : n < 4294967296) : crcS n < 4294967296:=by
 unfold crcS; split
 ·exact Nat.xor_lt_two_pow (n:=32) zz4 zz4
 ·omega
theorem crcJ_lt {n : Nat} (h : n < 4294967296) : ∀ j,crcJ n j < 4294967296
 | 0 => h
 | j + 1 => crcS_lt (crcJ_lt h j)
theorem byte_lt (b : UInt8) : b.toNat < 256:=b.toNat_lt
theorem xor_lt {n : Nat} (h : n < 4294967296) (b : UInt8) : n ^^^ b.toNat < 4294967296:=Nat.xor_lt_two_pow (n:=32) h (by have:=byte_lt b; omega)
theorem sumM_lt (s : ByteArray) {n : Nat} (h : n < 4294967296) : ∀ k,sumM s n k < 4294967296
 | 0 => h
 | k + 1 => crcJ_lt (xor_lt (sumM_lt s h k) _) 8
theorem sumM_succ {s : ByteArray} {n k : Nat} (hk : k < s.size) : sumM s n (k + 1) = crcJ (sumM s n k ^^^ s[k].toNat) 8:=by
 have : s.data.getD k 0 = s[k]:=by unfold Array.getD; rw [dif_pos (show k < s.data.size from hk)]; rfl
 simp only [sumM,this]
theorem crcS_odd {n : Nat} (h : n % 2 = 1) : crcS n = (n / 2) ^^^ 3558460437:=by simp [crcS,h]
theorem crcS_even {n : Nat} (h : ¬ n % 2 = 1) : crcS n = n / 2:=by simp [crcS,h]
theorem impl_SumMore (w : World) (n : Nat) (s : ByteArray) (hn : n < 4294967296) (hs : s.size ≤ 1048576) : Calls Tryz.prog 206 #[.int .u32 n, .string s] w fun e w' => e = .returned (.int .u32 (sumMore n s)) ∧ w = w':=by
 go_enter Tryz.func206,Tryz.ntmps206
 go_wp2
 go_loop [0,5] (fun v i => ∃ k : Nat,k ≤ s.size ∧ i = .int .i64 k ∧ v = .int .u32 (sumM s n k)) (fun _ i => s.size - (intOf i).toNat)
 case atStart => exact ⟨0,Nat.zero_le _,rfl,rfl⟩
 case round =>
  obtain ⟨k,hk,rfl,rfl⟩:=hrel
  have hm:=sumM_lt s hn k
  by_cases hlt : k < s.size
  ·have HS:=zd (sumM_succ (n:=n) hlt)
   obtain ⟨m,hmm⟩ : ∃ m,sumM s n k = m:=⟨_,rfl⟩
   rw [hmm] at hm ⊢
   have HM:=zd hmm; clear hmm
   have hb:=byte_lt s[k]
   have hx:=u32_xor_nat m s[k].toNat hm zz4
   have hm2:=xor_lt hm s[k]
   go_wp2
   obtain ⟨p,hp⟩ : ∃ p,m ^^^ s[k].toNat = p:=⟨_,rfl⟩
   rw [hp] at hm2 ⊢
   have HP:=zd hp; clear hp hx
   go_loop [0,19] (fun v i => ∃ j : Nat,j ≤ 8 ∧ i = .int .i64 j ∧ v = .int .u32 (crcJ p j)) (fun _ i => 8 - (intOf i).toNat)
   case atStart => exact ⟨0,zz4,rfl,rfl⟩
   case round =>
    obtain ⟨j,hj,rfl,rfl⟩:=hrel
    have hq:=crcJ_lt hm2 j
    by_cases hj8 : j < 8
    ·obtain ⟨q,hqq⟩ : ∃ q,crcJ p j = q:=⟨_,rfl⟩
     rw [hqq] at hq ⊢
     have hand : bits .and .u32 (q : Int) 1 = ((q % 2 : Nat) : Int):=by have:=u32_and_nat q 1 hq zz4; rw [nat_mask1] at this; exact this
     have hxor : bits .xor .u32 ((q : Int) / 2) 3558460437 = ((q / 2 ^^^ 3558460437 : Nat) : Int):=u32_xor_nat (q / 2) 3558460437 zz4 zz4
     by_cases ho : q % 2 = 1
     ·have HN : Hid (crcJ p (j + 1) = (q / 2) ^^^ 3558460437):=zd (by show crcS (crcJ p j) = _; rw [hqq]; exact crcS_odd ho)
      rw [ho] at hand
      go_wp2
      go_round
      case rel => exact ⟨j + 1,zz4,by go_num,by rw [HN.out]⟩
      case measure => simp [intOf]; omega
     ·have HN : Hid (crcJ p (j + 1) = q / 2):=zd (by show crcS (crcJ p j) = _; rw [hqq]; exact crcS_even ho)
      have h0 : q % 2 = 0:=zz4
      rw [h0] at hand
      go_wp2
      go_round
      case rel => exact ⟨j + 1,zz4,by go_num,by rw [HN.out]; congr 1⟩
      case measure => simp [intOf]; omega
    ·have hje : j = 8:=by omega
     subst hje
     go_wp2
     go_round
     case rel => exact ⟨k + 1,zz4,by go_num,by rw [HS.out,HM.out,HP.out]⟩
     case measure => simp [intOf]; omega
  ·have hke : k = s.size:=by omega
   subst hke
   go_wp2
   go_ret
   exact ⟨rfl,rfl⟩
theorem spec_SumMore (w : World) (n : Nat) (s : ByteArray) (hn : n < 4294967296) (hs : s.size ≤ 1048576) : Calls Tryz.prog 219 #[.int .u32 n, .string s] w fun e w' => e = .returned (.int .u32 (sumMore n s)) ∧ w = w':=by
 go_enter Tryz.func219,Tryz.ntmps219
 go_wp2
 go_loop [0,5] (fun v i => ∃ k : Nat,k ≤ s.size ∧ i = .int .i64 k ∧ v = .int .u32 (sumM s n k)) (fun _ i => s.size - (intOf i).toNat)
 case atStart => exact ⟨0,Nat.zero_le _,rfl,rfl⟩
 case round =>
  obtain ⟨k,hk,rfl,rfl⟩:=hrel
  have hm:=sumM_lt s hn k
  by_cases hlt : k < s.size
  ·have HS:=zd (sumM_succ (n:=n) hlt)
   obtain ⟨m,hmm⟩ : ∃ m,sumM s n k = m:=⟨_,rfl⟩
   rw [hmm] at hm ⊢
   have HM:=zd hmm; clear hmm
   have hb:=byte_lt s[k]
   have hx:=u32_xor_nat m s[k].toNat hm zz4
   have hm2:=xor_lt hm s[k]
   go_wp2
   obtain ⟨p,hp⟩ : ∃ p,m ^^^ s[k].toNat = p:=⟨_,rfl⟩
   rw [hp] at hm2 ⊢
   have HP:=zd hp; clear hp hx
   go_loop [0,6] (fun v i => ∃ j : Nat,j ≤ 8 ∧ i = .int .i64 j ∧ v = .int .u32 (crcJ p j)) (fun _ i => 8 - (intOf i).toNat)
   case atStart => exact ⟨0,zz4,rfl,rfl⟩
   case round =>
    obtain ⟨j,hj,rfl,rfl⟩:=hrel
    have hq:=crcJ_lt hm2 j
    by_cases hj8 : j < 8
    ·obtain ⟨q,hqq⟩ : ∃ q,crcJ p j = q:=⟨_,rfl⟩
     rw [hqq] at hq ⊢
     have hand : True:=trivial
     have hxor : bits .xor .u32 ((q : Int) / 2) 3558460437 = ((q / 2 ^^^ 3558460437 : Nat) : Int):=u32_xor_nat (q / 2) 3558460437 zz4 zz4
     by_cases ho : q % 2 = 1
     ·have HN : Hid (crcJ p (j + 1) = (q / 2) ^^^ 3558460437):=zd (by show crcS (crcJ p j) = _; rw [hqq]; exact crcS_odd ho)
      have hd : ((q : Int) % 2 == 1) = true:=by rw [beq_iff_eq]; omega
      go_wp2
      go_round
      case rel => exact ⟨j + 1,zz4,by go_num,by rw [HN.out]⟩
      case measure => simp [intOf]; omega
     ·have HN : Hid (crcJ p (j + 1) = q / 2):=zd (by show crcS (crcJ p j) = _; rw [hqq]; exact crcS_even ho)
      have h0 : q % 2 = 0:=zz4
      have hd : ((q : Int) % 2 == 1) = false:=by rw [beq_eq_false_iff_ne]; omega
      go_wp2
      go_round
      case rel => exact ⟨j + 1,zz4,by go_num,by rw [HN.out]; congr 1⟩
      case measure => simp [intOf]; omega
    ·have hje : j = 8:=by omega
     subst hje
     go_wp2
     go_round
     case rel => exact ⟨k + 1,zz4,by go_num,by rw [HS.out,HM.out,HP.out]⟩
     case measure => simp [intOf]; omega
  ·have hke : k = s.size:=by omega
   subst hke
   go_wp2
   go_ret
   exact ⟨rfl,rfl⟩
def sumOf (s : ByteArray) : Nat:=sumMore 4294967295 s
theorem sumOf_lt (s : ByteArray) : sumOf s < 4294967296:=sumM_lt s zz4 _
theorem impl_SumOf (w : World) (s : ByteArray) (hs : s.size ≤ 1048576) : Calls Tryz.prog 180 #[.string s] w fun e w' => e = .returned (.int .u32 (sumOf s)) ∧ w = w':=by
 go_enter Tryz.func180,Tryz.ntmps180
 go_wp2_with (go_at_call 206; refine (impl_SumMore _ 4294967295 _ zz4 hs).mono ?_; rintro e w' ⟨rfl,rfl⟩)
 go_ret; exact ⟨rfl,rfl⟩
theorem spec_SumOf (w : World) (s : ByteArray) (hs : s.size ≤ 1048576) : Calls Tryz.prog 204 #[.string s] w fun e w' => e = .returned (.int .u32 (sumOf s)) ∧ w = w':=by
 go_enter Tryz.func204,Tryz.ntmps204
 go_wp2_with (go_at_call 219; refine (spec_SumMore _ 4294967295 _ zz4 hs).mono ?_; rintro e w' ⟨rfl,rfl⟩)
 go_ret; exact ⟨rfl,rfl⟩
end Go.Proofs.YtlfnmbcnehaikaaGreatDoor
namespace Go.Proofs.YtlfnmbcnehaikaaGreatDoor
open Go.RowKit Lay Mk
def pinP (h : Int) (s : Seal) : Bool:=decide (s.head.house = h)
def pinsOf (a : Auditor) (h : Int) : List Head:=a.pins.foldl (gath (pinP h) (·.head)) []
theorem pinsOf_all (a : Auditor) (h : Int) : foldT (gath (pinP h) (·.head)) [] a.pins a.pins.length = pinsOf a h:=foldT_all _ _ _
theorem impl_PinsOf (w : World) (x : Auditor) (cs : List Value) (S : Blks) (hx : rd false w cs x S) (hsz : x.sz ≤ 1048576) (h : Int) (hh : I64 h) : Calls Tryz.prog 66 #[.agg cs.toArray, .int .i64 h] w fun e w' => ∃ A' cap',e = .returned (.slice A' (pinsOf x h).length cap') ∧ (pinsOf x h).length ≤ cap' ∧ cap' ≤ maxLen ∧ Row true w' A' cap' (pinsOf x h) (rng w.heap.size w'.heap.size) ∧ Below w.heap.size w w':=by
 have hll : x.pins.length ≤ 1048576:=by
  have h1 : szL x.pins ≤ x.sz:=by simp only [Auditor.sz]; omega
  have:=szT_le x.pins 0
  omega
 obtain ⟨A0,k0,S0,A1,k1,S1,A2,k2,S2,A3,k3,S3,rfl,f0,a0,b0,r0,s0,a1,b1,r1,s1,a2,b2,r2,s2,a3,b3,r3,s3,pw⟩:=Auditor.open hx
 clear hx r0 r1 r3 s0 s1 s3 pw a0 b0 a1 b1 a3 b3 S0 S1 S3
 have HE:=zd (pinsOf_all x h)
 simp only [Auditor.cs]
 obtain ⟨xs,hxs⟩ : ∃ xs,x.pins = xs:=⟨_,rfl⟩
 rw [hxs] at r2 a2 hll HE
 go_enter Tryz.func66,Tryz.ntmps66
 go_wp2
 rw [hxs]
 clear hxs
 generalize hW : w.alloc (.cells #[_,_,_,_,_,_] _) = W
 have hWB : Below w.heap.size w W:=by rw [← hW]; exact (Below.refl _ _).alloc (Nat.le_refl _) _
 have hWs : w.heap.size < W.heap.size:=by rw [← hW]; simp
 have q4 : W.cell? ⟨w.heap.size,4,none⟩ = some (.slice A2 xs.length k2):=zz31
 replace r2:=Row.later r2 hWB
 have hWl : w.heap.size ≤ W.heap.size:=zz4
 have hWe : Hid (w.heap.size + 1 = W.heap.size):=zd (by rw [← hW]; simp)
 clear hW
 go_loopw [5,11] (fun u i wr => ∃ (k : Nat) (ys : List Head) (A : Option Addr) (cap : Nat),k ≤ xs.length ∧ i = .int .i64 k ∧ u = .slice A ys.length cap ∧ Hid (ys = foldT (gath (pinP h) (·.head)) [] xs k) ∧ ys.length ≤ k ∧ ys.length ≤ cap ∧ cap ≤ maxLen ∧ Row true wr A cap ys (nw W.heap.size) ∧ Below W.heap.size W wr) (fun _ i _ => xs.length - (intOf i).toNat)
 case atStart => exact ⟨0, [],none,0,Nat.zero_le _,rfl,rfl,zd rfl,zz17,zz17,zz44,row_nil _ _,Below.refl _ _⟩
 case round =>
  obtain ⟨k,ys,A,cap,hk,rfl,rfl,hys,hyk,hle,hcm2,hrow,hb⟩:=hrel
  have hz:=hb.size
  have q4':=(hb.cell (p:=⟨w.heap.size,4,none⟩) hWs).trans q4
  by_cases hlt : k < xs.length
  ·obtain ⟨b1,o1,cc,T,rfl,hl1,ha,hr,_,_⟩:=Row.at_ r2 hlt
   replace ha:=ha.keep (hb.block b1 hl1)
   have hN:=zd (gathT_no (p:=pinP h) (g:=(·.head)) hlt)
   have hY:=zd (gathT_yes (p:=pinP h) (g:=(·.head)) hlt)
   obtain ⟨s,hss⟩ : ∃ s,xs[k] = s:=⟨_,rfl⟩
   rw [hss] at hr hN hY
   clear hss
   obtain ⟨B0,j0,T0,B1,j1,T1,B2,j2,T2,rfl,g0,g1,g2,g3,g4,_⟩:=Seal.open hr
   clear hr
   rw [show Lay.n Seal = 8 from rfl] at ha
   have c0:=ha 0 _ rfl
   have c1:=ha 1 _ rfl
   have c2:=ha 2 _ rfl
   have c3:=ha 3 _ rfl
   have c4:=ha 4 _ rfl
   have c5:=ha 5 _ rfl
   have c6:=ha 6 _ rfl
   have c7:=ha 7 _ rfl
   simp only [Nat.add_zero] at c0
   clear ha
   have hl2 : b1 < wr.heap.size:=zz4
   have hok : Flat.ok s.head:=(⟨g0,g1,g2,g3⟩ : I64 s.head.house ∧ I64 s.head.epoch ∧ s.head.root.size ≤ maxLen ∧ s.head.prev.size ≤ maxLen)
   have hlb : w.heap.size < wr.heap.size:=zz4
   by_cases hc : s.head.house = h
   ·have HY:=zd (hY.out (by simpa [pinP] using hc))
    have hd : (s.head.house == h) = true:=by simpa using hc
    clear hc
    go_wp2_with (at_builtin; refine wpList_app (α:=Head) rfl _ _ rfl rfl rfl ((hrow.allocC _).allocC _) hle hcm2 rfl rfl (src_newb _ s.head hok _ _ _ zz17 rfl) (disj_none_ _) zz4 ?_; intro A' cap' w' h1 h2 h3 h4)
    have hz2 : W.heap.size ≤ ((wr.alloc (.cells #[.int .i64 s.head.house, .int .i64 s.head.epoch, .string s.head.root, .string s.head.prev, .int .i64 s.sig.at_, .slice B0 s.sig.open_.length j0, .slice B1 s.sig.shut.length j1, .slice B2 s.sig.sides.length j2] 76)).alloc (.cells #[.int .i64 s.head.house, .int .i64 s.head.epoch, .string s.head.root, .string s.head.prev] 72)).heap.size:=zz23
    go_roundw
    case rel => first | exact ⟨k + 1,ys ++ [s.head],A',cap',zz4,by go_num,zz17,zd (by rw [HY.out,hys.out]),zz23,by simpa using h1,h2,row_step h3 hz2,((hb.alloc hz _).alloc zz23 _).trans (h4.nw hz2 (ya8 _))⟩ | ((repeat apply Exists.intro); exact ⟨⟨k + 1,ys ++ [s.head],A',cap',zz4,by go_num,zz17,zd (by rw [HY.out,hys.out]),zz23,by simpa using h1,h2,row_step h3 hz2,((hb.alloc hz _).alloc zz23 _).trans (h4.nw hz2 (ya8 _))⟩,rfl⟩)
    case measure => simp [intOf]; omega
   ·have HN:=zd (hN.out (by simpa [pinP] using hc))
    have hd : (s.head.house == h) = false:=by simpa using hc
    clear hc
    go_wp2
    go_roundw
    case rel => exact ⟨k + 1,ys,A,cap,zz4,by go_num,rfl,zd (by rw [HN.out,hys.out]),zz4,hle,hcm2,hrow.allocC _,hb.alloc hz _⟩
    case measure => simp [intOf]; omega
  ·have hke : k = xs.length:=by omega
   subst hke
   have hyy:=hys.out.trans HE.out
   subst hyy
   go_wp2
   go_ret
   exact ⟨A,cap,rfl,hle,hcm2,(to_rng hrow).mono (rngS hWl (Nat.le_refl _)),hWB.trans (hb.mono hWl)⟩
theorem spec_PinsOf (w : World) (x : Auditor) (cs : List Value) (S : Blks) (hx : rd false w cs x S) (hsz : x.sz ≤ 1048576) (h : Int) (hh : I64 h) : Calls Tryz.prog 54 #[.agg cs.toArray, .int .i64 h] w fun e w' => ∃ A' cap',e = .returned (.slice A' (pinsOf x h).length cap') ∧ (pinsOf x h).length ≤ cap' ∧ cap' ≤ maxLen ∧ Row true w' A' cap' (pinsOf x h) (rng w.heap.size w'.heap.size) ∧ Below w.heap.size w w':=by
 have hll : x.pins.length ≤ 1048576:=by
  have h1 : szL x.pins ≤ x.sz:=by simp only [Auditor.sz]; omega
  have:=szT_le x.pins 0
  omega
 obtain ⟨A0,k0,S0,A1,k1,S1,A2,k2,S2,A3,k3,S3,rfl,f0,a0,b0,r0,s0,a1,b1,r1,s1,a2,b2,r2,s2,a3,b3,r3,s3,pw⟩:=Auditor.open hx
 clear hx r0 r1 r3 s0 s1 s3 pw a0 b0 a1 b1 a3 b3 S0 S1 S3
 have HE:=zd (pinsOf_all x h)
 simp only [Auditor.cs]
 obtain ⟨xs,hxs⟩ : ∃ xs,x.pins = xs:=⟨_,rfl⟩
 rw [hxs] at r2 a2 hll HE
 go_enter Tryz.func54,Tryz.ntmps54
 go_wp2
 rw [hxs]
 clear hxs
 generalize hW : w.alloc (.cells #[_,_,_,_,_,_] _) = W
 have hWB : Below w.heap.size w W:=by rw [← hW]; exact (Below.refl _ _).alloc (Nat.le_refl _) _
 have hWs : w.heap.size < W.heap.size:=by rw [← hW]; simp
 have q4 : W.cell? ⟨w.heap.size,4,none⟩ = some (.slice A2 xs.length k2):=zz31
 replace r2:=Row.later r2 hWB
 have hWl : w.heap.size ≤ W.heap.size:=zz4
 have hWe : Hid (w.heap.size + 1 = W.heap.size):=zd (by rw [← hW]; simp)
 clear hW
 go_loopw [5,6] (fun u i wr => ∃ (k : Nat) (ys : List Head) (A : Option Addr) (cap : Nat),k ≤ xs.length ∧ i = .int .i64 k ∧ u = .slice A ys.length cap ∧ Hid (ys = foldT (gath (pinP h) (·.head)) [] xs k) ∧ ys.length ≤ k ∧ ys.length ≤ cap ∧ cap ≤ maxLen ∧ Row true wr A cap ys (nw W.heap.size) ∧ Below W.heap.size W wr) (fun _ i _ => xs.length - (intOf i).toNat)
 case atStart => exact ⟨0, [],_,_,Nat.zero_le _,rfl,rfl,zd rfl,zz17,zz17,zz44,row_lit0b _ _ _ _ hWe.out rfl (Nat.le_refl _),(Below.refl _ _).alloc (Nat.le_refl _) _⟩
 case round =>
  obtain ⟨k,ys,A,cap,hk,rfl,rfl,hys,hyk,hle,hcm2,hrow,hb⟩:=hrel
  have hz:=hb.size
  have q4':=(hb.cell (p:=⟨w.heap.size,4,none⟩) hWs).trans q4
  by_cases hlt : k < xs.length
  ·obtain ⟨b1,o1,cc,T,rfl,hl1,ha,hr,_,_⟩:=Row.at_ r2 hlt
   replace ha:=ha.keep (hb.block b1 hl1)
   have hN:=zd (gathT_no (p:=pinP h) (g:=(·.head)) hlt)
   have hY:=zd (gathT_yes (p:=pinP h) (g:=(·.head)) hlt)
   obtain ⟨s,hss⟩ : ∃ s,xs[k] = s:=⟨_,rfl⟩
   rw [hss] at hr hN hY
   clear hss
   obtain ⟨B0,j0,T0,B1,j1,T1,B2,j2,T2,rfl,g0,g1,g2,g3,g4,_⟩:=Seal.open hr
   clear hr
   rw [show Lay.n Seal = 8 from rfl] at ha
   have c0:=ha 0 _ rfl
   have c1:=ha 1 _ rfl
   have c2:=ha 2 _ rfl
   have c3:=ha 3 _ rfl
   have c4:=ha 4 _ rfl
   have c5:=ha 5 _ rfl
   have c6:=ha 6 _ rfl
   have c7:=ha 7 _ rfl
   simp only [Nat.add_zero] at c0
   clear ha
   have hl2 : b1 < wr.heap.size:=zz4
   have hok : Flat.ok s.head:=(⟨g0,g1,g2,g3⟩ : I64 s.head.house ∧ I64 s.head.epoch ∧ s.head.root.size ≤ maxLen ∧ s.head.prev.size ≤ maxLen)
   have hlb : w.heap.size < wr.heap.size:=zz4
   by_cases hc : s.head.house = h
   ·have HY:=zd (hY.out (by simpa [pinP] using hc))
    have hd : (s.head.house == h) = true:=by simpa using hc
    clear hc
    go_wp2_with (at_builtin; refine wpList_app (α:=Head) rfl _ _ rfl rfl rfl (hrow.allocC _) hle hcm2 rfl rfl (src_newb _ s.head hok _ _ _ zz17 rfl) (disj_none_ _) zz4 ?_; intro A' cap' w' h1 h2 h3 h4)
    have hz2 : W.heap.size ≤ (wr.alloc (.cells #[.int .i64 s.head.house, .int .i64 s.head.epoch, .string s.head.root, .string s.head.prev] 72)).heap.size:=zz23
    go_roundw
    case rel => first | exact ⟨k + 1,ys ++ [s.head],A',cap',zz4,by go_num,zz17,zd (by rw [HY.out,hys.out]),zz23,by simpa using h1,h2,row_step h3 hz2,(hb.alloc hz _).trans (h4.nw hz2 (ya8 _))⟩ | ((repeat apply Exists.intro); exact ⟨⟨k + 1,ys ++ [s.head],A',cap',zz4,by go_num,zz17,zd (by rw [HY.out,hys.out]),zz23,by simpa using h1,h2,row_step h3 hz2,(hb.alloc hz _).trans (h4.nw hz2 (ya8 _))⟩,rfl⟩)
    case measure => simp [intOf]; omega
   ·have HN:=zd (hN.out (by simpa [pinP] using hc))
    have hd : (s.head.house == h) = false:=by simpa using hc
    clear hc
    go_wp2
    go_roundw
    case rel => exact ⟨k + 1,ys,A,cap,zz4,by go_num,rfl,zd (by rw [HN.out,hys.out]),zz4,hle,hcm2,hrow,hb⟩
    case measure => simp [intOf]; omega
  ·have hke : k = xs.length:=by omega
   subst hke
   have hyy:=hys.out.trans HE.out
   subst hyy
   go_wp2
   go_ret
   exact ⟨A,cap,rfl,hle,hcm2,(to_rng hrow).mono (rngS hWl (Nat.le_refl _)),hWB.trans (hb.mono hWl)⟩
end Go.Proofs.YtlfnmbcnehaikaaGreatDoor
