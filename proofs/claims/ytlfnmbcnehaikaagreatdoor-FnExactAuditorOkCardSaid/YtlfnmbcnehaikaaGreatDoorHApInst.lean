/- A part of the proof. -/
import Derived.Test.YtlfnmbcnehaikaaGreatDoorHApL1xLay
set_option linter.unusedVariables false
set_option linter.unusedSimpArgs false
namespace Go.Proofs.YtlfnmbcnehaikaaGreatDoor
open Go.RowKit Lay
instance instInt : Lay Int where
 ty:=3
 n:=1
 rd _ _ cs a _:=cs = [.int .i64 a] ∧ I64 a
 pos:=by decide
 len h:=by rw [h.1]; rfl
 keep h _:=h
 mono h _:=h
 weak h:=h
 tight h:=h
 one h:=by rw [h.1]; simp [Value.oneCell']
instance instBool : Lay Bool where
 ty:=4
 n:=1
 rd _ _ cs a _:=cs = [.bool a]
 pos:=by decide
 len h:=by rw [h]; rfl
 keep h _:=h
 mono h _:=h
 weak h:=h
 tight h:=h
 one h:=by rw [h]; simp [Value.oneCell']
instance instStr : Lay ByteArray where
 ty:=9
 n:=1
 rd _ _ cs a _:=cs = [.string a] ∧ a.size ≤ maxLen
 pos:=by decide
 len h:=by rw [h.1]; rfl
 keep h _:=h
 mono h _:=h
 weak h:=h
 tight h:=h
 one h:=by rw [h.1]; simp [Value.oneCell']
class SlTy (α : Type) where
 st : TypeId
instance instList {α : Type} [Lay α] [SlTy α] : Lay (List α) where
 ty:=SlTy.st α
 n:=1
 rd m w cs xs S:=rdS m w cs xs S
 pos:=by decide
 len h:=by obtain ⟨A,cap,rfl,_⟩:=h; rfl
 keep h k:=by obtain ⟨A,cap,e,h1,h2,h3⟩:=h; exact ⟨A,cap,e,h1,h2,h3.keep k⟩
 mono h k:=by obtain ⟨A,cap,e,h1,h2,h3⟩:=h; exact ⟨A,cap,e,h1,h2,h3.mono k⟩
 weak h:=by obtain ⟨A,cap,e,h1,h2,h3⟩:=h; exact ⟨A,cap,e,h1,h2,h3.weak⟩
 tight h:=by obtain ⟨A,cap,e,h1,h2,h3⟩:=h; exact ⟨A,cap,e,h1,h2,h3.tight⟩
 one h:=by obtain ⟨A,cap,rfl,_⟩:=h; simp [Value.oneCell']
instance instProd {α β : Type} [Lay α] [Lay β] : Lay (α × β) where
 ty:=0
 n:=n α + n β
 rd m w cs p S:=rdP m w cs p S
 pos:=by have:=Lay.pos (α:=α); omega
 len h:=h.len
 keep h k:=h.keep k
 mono h k:=h.mono k
 weak h:=h.weak
 tight h:=h.tight
 one h:=h.one
abbrev layVia {α β : Type} [Lay β] (t : TypeId) (f : α → β) : Lay α where
 ty:=t
 n:=n β
 rd m w cs a S:=rd m w cs (f a) S
 pos:=Lay.pos
 len h:=Lay.len h
 keep h k:=Lay.keep h k
 mono h k:=Lay.mono h k
 weak h:=Lay.weak h
 tight h:=Lay.tight h
 one h:=Lay.one h
section
variable {β : Type} [Lay β] {m : Bool} {w : World} {cs : List Value} {S : Blks}
theorem open_int {a : Int} (h : rd m w cs a S) : cs = [.int .i64 a] ∧ I64 a:=h
theorem open_bool {a : Bool} (h : rd m w cs a S) : cs = [.bool a]:=h
theorem open_str {a : ByteArray} (h : rd m w cs a S) : cs = [.string a] ∧ a.size ≤ maxLen:=h
theorem open_list {α : Type} [Lay α] [SlTy α] {xs : List α} (h : rd m w cs xs S) : ∃ A cap,cs = [.slice A xs.length cap] ∧ xs.length ≤ cap ∧ cap ≤ maxLen ∧ Row m w A cap xs S:=h
theorem open_int2 {a : Int} {b : β} (h : rd m w cs (a,b) S) : ∃ c,cs = .int .i64 a :: c ∧ I64 a ∧ rd m w c b S:=by
 obtain ⟨c1,c2,S1,S2,e,h3,h4,h5,h1,h2⟩:=h
 obtain ⟨h1,h6⟩:=h1
 subst h1
 exact ⟨c2,e,h6,Lay.mono h2 h4⟩
theorem open_bool2 {a : Bool} {b : β} (h : rd m w cs (a,b) S) : ∃ c,cs = .bool a :: c ∧ rd m w c b S:=by
 obtain ⟨c1,c2,S1,S2,e,h3,h4,h5,h1,h2⟩:=h
 have h1 : c1 = [.bool a]:=h1
 subst h1
 exact ⟨c2,e,Lay.mono h2 h4⟩
theorem open_str2 {a : ByteArray} {b : β} (h : rd m w cs (a,b) S) : ∃ c,cs = .string a :: c ∧ a.size ≤ maxLen ∧ rd m w c b S:=by
 obtain ⟨c1,c2,S1,S2,e,h3,h4,h5,h1,h2⟩:=h
 obtain ⟨h1,h6⟩:=h1
 subst h1
 exact ⟨c2,e,h6,Lay.mono h2 h4⟩
theorem open_list2 {α : Type} [Lay α] [SlTy α] {xs : List α} {b : β} (h : rd m w cs (xs,b) S) :
  ∃ A cap c S1 S2,cs = .slice A xs.length cap :: c ∧ xs.length ≤ cap ∧ cap ≤ maxLen ∧ Row m w A cap xs S1 ∧ sub S1 S ∧ sub S2 S ∧ (m = true → disj S1 S2) ∧ rd m w c b S2:=by
 obtain ⟨c1,c2,S1,S2,e,h3,h4,h5,h1,h2⟩:=h
 obtain ⟨A,cap,h1,h6,h7,h8⟩:=h1
 subst h1
 exact ⟨A,cap,c2,S1,S2,e,h6,h7,h8,h3,h4,h5,h2⟩
theorem open_two {α : Type} [Lay α] {a : α} {b : β} (h : rd m w cs (a,b) S) :
  ∃ c1 c2 S1 S2,cs = c1 ++ c2 ∧ sub S1 S ∧ sub S2 S ∧ (m = true → disj S1 S2) ∧ rd m w c1 a S1 ∧ rd m w c2 b S2:=h
theorem mk_int2 {a : Int} {b : β} {c : List Value} (ha : I64 a) (h : rd m w c b S) : rd m w (.int .i64 a :: c) (a,b) S :=
 ⟨[.int .i64 a],c,fun _ => False,S,rfl,(fun _ x => x.elim),ya8 S,(fun _ _ x => x.elim),⟨rfl,ha⟩,h⟩
theorem mk_bool2 {a : Bool} {b : β} {c : List Value} (h : rd m w c b S) : rd m w (.bool a :: c) (a,b) S :=
 ⟨[.bool a],c,fun _ => False,S,rfl,(fun _ x => x.elim),ya8 S,(fun _ _ x => x.elim),rfl,h⟩
theorem mk_str2 {a : ByteArray} {b : β} {c : List Value} (ha : a.size ≤ maxLen) (h : rd m w c b S) : rd m w (.string a :: c) (a,b) S :=
 ⟨[.string a],c,fun _ => False,S,rfl,(fun _ x => x.elim),ya8 S,(fun _ _ x => x.elim),⟨rfl,ha⟩,h⟩
end
end Go.Proofs.YtlfnmbcnehaikaaGreatDoor
