/- How many marks a datum takes, by its size. Written by a program (gen_cb.py). -/
import Derived.Test.YthgonaodmpegfaaGreatDoorTy
set_option linter.unusedVariables false
set_option linter.unusedSimpArgs false
namespace Go.Proofs.YthgonaodmpegfaaGreatDoor
open Lay Mk
theorem cnL_le {α : Type} [Lay α] [Mk α] (K : Nat) (h : ∀ x : α, cn x ≤ K * (sz x + 1)) : ∀ xs : List α, cnL xs ≤ K * szL xs
  | [] => by simp [cnL, szL]
  | x :: xs => by
    have h1 := h x
    have h2 := cnL_le K h xs
    simp only [cnL, szL, List.map_cons, List.sum_cons, List.length_cons] at *
    have e : K * (xs.length + 1 + (sz x + (xs.map sz).sum)) = K * (sz x + 1) + K * (xs.length + (xs.map sz).sum) := by rw [← Nat.mul_add]; congr 1; omega
    omega
theorem cnb_Int (x : Int) : cn x ≤ 1 * (sz x + 1) := by show 1 ≤ _; omega
theorem cnb_String (x : ByteArray) : cn x ≤ 1 * (sz x + 1) := by show 1 ≤ _; omega
theorem cnb_Head (x : Head) : cn x ≤ 4 * (sz x + 1) := by
  show Head.cn x ≤ 4 * (Head.sz x + 1)
  skip
  simp only [Head.cn, Head.sz] <;> omega
theorem ctb_Head (x : Head) : x.ct ≤ 4 * (x.sz + 1) := by
  skip
  simp only [Head.ct, Head.sz] <;> omega
theorem cnb_StringS (xs : List ByteArray) : cnL xs ≤ 1 * szL xs := cnL_le 1 cnb_String xs
theorem cnb_Sig (x : Sig) : cn x ≤ 4 * (sz x + 1) := by
  show Sig.cn x ≤ 4 * (Sig.sz x + 1)
  have := cnb_StringS x.open_; have := cnb_StringS x.shut; have := cnb_StringS x.sides
  simp only [Sig.cn, Sig.sz] <;> omega
theorem ctb_Sig (x : Sig) : x.ct ≤ 4 * (x.sz + 1) := by
  have := cnb_StringS x.open_; have := cnb_StringS x.shut; have := cnb_StringS x.sides
  simp only [Sig.ct, Sig.sz] <;> omega
theorem cnb_File (x : File) : cn x ≤ 3 * (sz x + 1) := by
  show File.cn x ≤ 3 * (File.sz x + 1)
  skip
  simp only [File.cn, File.sz] <;> omega
theorem ctb_File (x : File) : x.ct ≤ 3 * (x.sz + 1) := by
  skip
  simp only [File.ct, File.sz] <;> omega
theorem cnb_FileS (xs : List File) : cnL xs ≤ 3 * szL xs := cnL_le 3 cnb_File xs
theorem cnb_Disk (x : Disk) : cn x ≤ 3 * (sz x + 1) := by
  show Disk.cn x ≤ 3 * (Disk.sz x + 1)
  have := cnb_FileS x.files
  simp only [File.cn, File.sz, Disk.cn, Disk.sz] <;> omega
theorem ctb_Disk (x : Disk) : x.ct ≤ 3 * (x.sz + 1) := by
  have := cnb_FileS x.files
  simp only [File.ct, File.sz, Disk.ct, Disk.sz] <;> omega
theorem cnb_Leaf (x : Leaf) : cn x ≤ 2 * (sz x + 1) := by
  show Leaf.cn x ≤ 2 * (Leaf.sz x + 1)
  skip
  simp only [Leaf.cn, Leaf.sz] <;> omega
theorem ctb_Leaf (x : Leaf) : x.ct ≤ 2 * (x.sz + 1) := by
  skip
  simp only [Leaf.ct, Leaf.sz] <;> omega
theorem cnb_LeafS (xs : List Leaf) : cnL xs ≤ 2 * szL xs := cnL_le 2 cnb_Leaf xs
theorem cnb_Proof (x : Proof) : cn x ≤ 3 * (sz x + 1) := by
  show Proof.cn x ≤ 3 * (Proof.sz x + 1)
  have := cnb_LeafS x.bucket; have := cnb_StringS x.sides
  simp only [Leaf.cn, Leaf.sz, Proof.cn, Proof.sz] <;> omega
theorem ctb_Proof (x : Proof) : x.ct ≤ 3 * (x.sz + 1) := by
  have := cnb_LeafS x.bucket; have := cnb_StringS x.sides
  simp only [Leaf.ct, Leaf.sz, Proof.ct, Proof.sz] <;> omega
theorem cnb_Seal (x : Seal) : cn x ≤ 8 * (sz x + 1) := by
  show Seal.cn x ≤ 8 * (Seal.sz x + 1)
  have := cnb_StringS x.sig.open_; have := cnb_StringS x.sig.shut; have := cnb_StringS x.sig.sides
  simp only [Head.cn, Head.sz, Sig.cn, Sig.sz, Seal.cn, Seal.sz] <;> omega
theorem ctb_Seal (x : Seal) : x.ct ≤ 8 * (x.sz + 1) := by
  have := cnb_StringS x.sig.open_; have := cnb_StringS x.sig.shut; have := cnb_StringS x.sig.sides
  simp only [Head.ct, Head.sz, Sig.ct, Sig.sz, Seal.ct, Seal.sz] <;> omega
theorem cnb_Trust (x : Trust) : cn x ≤ 3 * (sz x + 1) := by
  show Trust.cn x ≤ 3 * (Trust.sz x + 1)
  have := cnb_StringS x.roots
  simp only [Trust.cn, Trust.sz] <;> omega
theorem ctb_Trust (x : Trust) : x.ct ≤ 3 * (x.sz + 1) := by
  have := cnb_StringS x.roots
  simp only [Trust.ct, Trust.sz] <;> omega
theorem cnb_Stamp (x : Stamp) : cn x ≤ 5 * (sz x + 1) := by
  show Stamp.cn x ≤ 5 * (Stamp.sz x + 1)
  have := cnb_StringS x.sig.open_; have := cnb_StringS x.sig.shut; have := cnb_StringS x.sig.sides
  simp only [Sig.cn, Sig.sz, Stamp.cn, Stamp.sz] <;> omega
theorem ctb_Stamp (x : Stamp) : x.ct ≤ 5 * (x.sz + 1) := by
  have := cnb_StringS x.sig.open_; have := cnb_StringS x.sig.shut; have := cnb_StringS x.sig.sides
  simp only [Sig.ct, Sig.sz, Stamp.ct, Stamp.sz] <;> omega
theorem cnb_StampS (xs : List Stamp) : cnL xs ≤ 5 * szL xs := cnL_le 5 cnb_Stamp xs
theorem cnb_Whole (x : Whole) : cn x ≤ 17 * (sz x + 1) := by
  show Whole.cn x ≤ 17 * (Whole.sz x + 1)
  have := cnb_LeafS x.proof.bucket; have := cnb_StringS x.proof.sides; have := cnb_StringS x.tops; have := cnb_StringS x.seal_.sig.open_; have := cnb_StringS x.seal_.sig.shut; have := cnb_StringS x.seal_.sig.sides; have := cnb_StampS x.stamps
  simp only [Head.cn, Head.sz, Sig.cn, Sig.sz, Leaf.cn, Leaf.sz, Proof.cn, Proof.sz, Seal.cn, Seal.sz, Stamp.cn, Stamp.sz, Whole.cn, Whole.sz] <;> omega
theorem ctb_Whole (x : Whole) : x.ct ≤ 17 * (x.sz + 1) := by
  have := cnb_LeafS x.proof.bucket; have := cnb_StringS x.proof.sides; have := cnb_StringS x.tops; have := cnb_StringS x.seal_.sig.open_; have := cnb_StringS x.seal_.sig.shut; have := cnb_StringS x.seal_.sig.sides; have := cnb_StampS x.stamps
  simp only [Head.ct, Head.sz, Sig.ct, Sig.sz, Leaf.ct, Leaf.sz, Proof.ct, Proof.sz, Seal.ct, Seal.sz, Stamp.ct, Stamp.sz, Whole.ct, Whole.sz] <;> omega
theorem cnb_Change (x : Change) : cn x ≤ 3 * (sz x + 1) := by
  show Change.cn x ≤ 3 * (Change.sz x + 1)
  skip
  simp only [Change.cn, Change.sz] <;> omega
theorem ctb_Change (x : Change) : x.ct ≤ 3 * (x.sz + 1) := by
  skip
  simp only [Change.ct, Change.sz] <;> omega
theorem cnb_Letter (x : Letter) : cn x ≤ 6 * (sz x + 1) := by
  show Letter.cn x ≤ 6 * (Letter.sz x + 1)
  skip
  simp only [Letter.cn, Letter.sz] <;> omega
theorem ctb_Letter (x : Letter) : x.ct ≤ 6 * (x.sz + 1) := by
  skip
  simp only [Letter.ct, Letter.sz] <;> omega
theorem cnb_Ready (x : Ready) : cn x ≤ 3 * (sz x + 1) := by
  show Ready.cn x ≤ 3 * (Ready.sz x + 1)
  skip
  simp only [Ready.cn, Ready.sz] <;> omega
theorem ctb_Ready (x : Ready) : x.ct ≤ 3 * (x.sz + 1) := by
  skip
  simp only [Ready.ct, Ready.sz] <;> omega
theorem cnb_Bool (x : Bool) : cn x ≤ 1 * (sz x + 1) := by show 1 ≤ _; omega
theorem cnb_LeafSS (xs : List (List Leaf)) : cnL xs ≤ 2 * szL xs := cnL_le 2 (fun x => Nat.le_trans (cnb_LeafS x) (Nat.mul_le_mul_left _ (Nat.le_succ _))) xs
theorem cnb_IntS (xs : List Int) : cnL xs ≤ 1 * szL xs := cnL_le 1 cnb_Int xs
theorem cnb_ChangeS (xs : List Change) : cnL xs ≤ 3 * szL xs := cnL_le 3 cnb_Change xs
theorem cnb_Server (x : Server) : cn x ≤ 16 * (sz x + 1) := by
  show Server.cn x ≤ 16 * (Server.sz x + 1)
  have := cnb_FileS x.disk.files; have := cnb_LeafSS x.views; have := cnb_IntS x.taken; have := cnb_ChangeS x.all
  simp only [File.cn, File.sz, Disk.cn, Disk.sz, Leaf.cn, Leaf.sz, Change.cn, Change.sz, Ready.cn, Ready.sz, Server.cn, Server.sz] <;> omega
theorem ctb_Server (x : Server) : x.ct ≤ 16 * (x.sz + 1) := by
  have := cnb_FileS x.disk.files; have := cnb_LeafSS x.views; have := cnb_IntS x.taken; have := cnb_ChangeS x.all
  simp only [File.ct, File.sz, Disk.ct, Disk.sz, Leaf.ct, Leaf.sz, Change.ct, Change.sz, Ready.ct, Ready.sz, Server.ct, Server.sz] <;> omega
theorem cnb_SealS (xs : List Seal) : cnL xs ≤ 8 * szL xs := cnL_le 8 cnb_Seal xs
theorem cnb_BoolS (xs : List Bool) : cnL xs ≤ 1 * szL xs := cnL_le 1 cnb_Bool xs
theorem cnb_Coord (x : Coord) : cn x ≤ 20 * (sz x + 1) := by
  show Coord.cn x ≤ 20 * (Coord.sz x + 1)
  have := cnb_FileS x.disk.files; have := cnb_StringS x.pool; have := cnb_SealS x.seals; have := cnb_IntS x.tries; have := cnb_StringS x.votes; have := cnb_BoolS x.dones
  simp only [Head.cn, Head.sz, Sig.cn, Sig.sz, File.cn, File.sz, Disk.cn, Disk.sz, Seal.cn, Seal.sz, Coord.cn, Coord.sz] <;> omega
theorem ctb_Coord (x : Coord) : x.ct ≤ 20 * (x.sz + 1) := by
  have := cnb_FileS x.disk.files; have := cnb_StringS x.pool; have := cnb_SealS x.seals; have := cnb_IntS x.tries; have := cnb_StringS x.votes; have := cnb_BoolS x.dones
  simp only [Head.ct, Head.sz, Sig.ct, Sig.sz, File.ct, File.sz, Disk.ct, Disk.sz, Seal.ct, Seal.sz, Coord.ct, Coord.sz] <;> omega
theorem cnb_ServerS (xs : List Server) : cnL xs ≤ 16 * szL xs := cnL_le 16 cnb_Server xs
theorem cnb_House (x : House) : cn x ≤ 38 * (sz x + 1) := by
  show House.cn x ≤ 38 * (House.sz x + 1)
  have := cnb_FileS x.coord.disk.files; have := cnb_StringS x.coord.pool; have := cnb_SealS x.coord.seals; have := cnb_IntS x.coord.tries; have := cnb_StringS x.coord.votes; have := cnb_BoolS x.coord.dones; have := cnb_ServerS x.servers; have := cnb_StringS x.net; have := cnb_IntS x.codes
  simp only [Head.cn, Head.sz, Sig.cn, Sig.sz, File.cn, File.sz, Disk.cn, Disk.sz, Leaf.cn, Leaf.sz, Seal.cn, Seal.sz, Change.cn, Change.sz, Ready.cn, Ready.sz, Server.cn, Server.sz, Coord.cn, Coord.sz, House.cn, House.sz] <;> omega
theorem ctb_House (x : House) : x.ct ≤ 38 * (x.sz + 1) := by
  have := cnb_FileS x.coord.disk.files; have := cnb_StringS x.coord.pool; have := cnb_SealS x.coord.seals; have := cnb_IntS x.coord.tries; have := cnb_StringS x.coord.votes; have := cnb_BoolS x.coord.dones; have := cnb_ServerS x.servers; have := cnb_StringS x.net; have := cnb_IntS x.codes
  simp only [Head.ct, Head.sz, Sig.ct, Sig.sz, File.ct, File.sz, Disk.ct, Disk.sz, Leaf.ct, Leaf.sz, Seal.ct, Seal.sz, Change.ct, Change.sz, Ready.ct, Ready.sz, Server.ct, Server.sz, Coord.ct, Coord.sz, House.ct, House.sz] <;> omega
theorem cnb_Pair (x : Pair) : cn x ≤ 16 * (sz x + 1) := by
  show Pair.cn x ≤ 16 * (Pair.sz x + 1)
  have := cnb_StringS x.a.sig.open_; have := cnb_StringS x.a.sig.shut; have := cnb_StringS x.a.sig.sides; have := cnb_StringS x.b.sig.open_; have := cnb_StringS x.b.sig.shut; have := cnb_StringS x.b.sig.sides
  simp only [Head.cn, Head.sz, Sig.cn, Sig.sz, Seal.cn, Seal.sz, Pair.cn, Pair.sz] <;> omega
theorem ctb_Pair (x : Pair) : x.ct ≤ 16 * (x.sz + 1) := by
  have := cnb_StringS x.a.sig.open_; have := cnb_StringS x.a.sig.shut; have := cnb_StringS x.a.sig.sides; have := cnb_StringS x.b.sig.open_; have := cnb_StringS x.b.sig.shut; have := cnb_StringS x.b.sig.sides
  simp only [Head.ct, Head.sz, Sig.ct, Sig.sz, Seal.ct, Seal.sz, Pair.ct, Pair.sz] <;> omega
theorem cnb_PairS (xs : List Pair) : cnL xs ≤ 16 * szL xs := cnL_le 16 cnb_Pair xs
theorem cnb_Auditor (x : Auditor) : cn x ≤ 30 * (sz x + 1) := by
  show Auditor.cn x ≤ 30 * (Auditor.sz x + 1)
  have := cnb_FileS x.disk.files; have := cnb_StringS x.pool; have := cnb_SealS x.pins; have := cnb_PairS x.pairs
  simp only [Head.cn, Head.sz, Sig.cn, Sig.sz, File.cn, File.sz, Disk.cn, Disk.sz, Seal.cn, Seal.sz, Pair.cn, Pair.sz, Auditor.cn, Auditor.sz] <;> omega
theorem ctb_Auditor (x : Auditor) : x.ct ≤ 30 * (x.sz + 1) := by
  have := cnb_FileS x.disk.files; have := cnb_StringS x.pool; have := cnb_SealS x.pins; have := cnb_PairS x.pairs
  simp only [Head.ct, Head.sz, Sig.ct, Sig.sz, File.ct, File.sz, Disk.ct, Disk.sz, Seal.ct, Seal.sz, Pair.ct, Pair.sz, Auditor.ct, Auditor.sz] <;> omega
theorem cnb_Note (x : Note) : cn x ≤ 2 * (sz x + 1) := by
  show Note.cn x ≤ 2 * (Note.sz x + 1)
  skip
  simp only [Note.cn, Note.sz] <;> omega
theorem ctb_Note (x : Note) : x.ct ≤ 2 * (x.sz + 1) := by
  skip
  simp only [Note.ct, Note.sz] <;> omega
theorem cnb_Given (x : Given) : cn x ≤ 7 * (sz x + 1) := by
  show Given.cn x ≤ 7 * (Given.sz x + 1)
  have := cnb_StringS x.stamp.sig.open_; have := cnb_StringS x.stamp.sig.shut; have := cnb_StringS x.stamp.sig.sides
  simp only [Sig.cn, Sig.sz, Stamp.cn, Stamp.sz, Given.cn, Given.sz] <;> omega
theorem ctb_Given (x : Given) : x.ct ≤ 7 * (x.sz + 1) := by
  have := cnb_StringS x.stamp.sig.open_; have := cnb_StringS x.stamp.sig.shut; have := cnb_StringS x.stamp.sig.sides
  simp only [Sig.ct, Sig.sz, Stamp.ct, Stamp.sz, Given.ct, Given.sz] <;> omega
theorem cnb_HouseS (xs : List House) : cnL xs ≤ 38 * szL xs := cnL_le 38 cnb_House xs
theorem cnb_AuditorS (xs : List Auditor) : cnL xs ≤ 30 * szL xs := cnL_le 30 cnb_Auditor xs
theorem cnb_NoteS (xs : List Note) : cnL xs ≤ 2 * szL xs := cnL_le 2 cnb_Note xs
theorem cnb_GivenS (xs : List Given) : cnL xs ≤ 7 * szL xs := cnL_le 7 cnb_Given xs
theorem cnb_Wrld (x : Wrld) : cn x ≤ 79 * (sz x + 1) := by
  show Wrld.cn x ≤ 79 * (Wrld.sz x + 1)
  have := cnb_HouseS x.houses; have := cnb_AuditorS x.auditors; have := cnb_NoteS x.notes; have := cnb_GivenS x.given; have := cnb_BoolS x.evil; have := cnb_IntS x.codes
  simp only [Head.cn, Head.sz, Sig.cn, Sig.sz, File.cn, File.sz, Disk.cn, Disk.sz, Leaf.cn, Leaf.sz, Seal.cn, Seal.sz, Stamp.cn, Stamp.sz, Change.cn, Change.sz, Ready.cn, Ready.sz, Server.cn, Server.sz, Coord.cn, Coord.sz, House.cn, House.sz, Pair.cn, Pair.sz, Auditor.cn, Auditor.sz, Note.cn, Note.sz, Given.cn, Given.sz, Wrld.cn, Wrld.sz] <;> omega
theorem ctb_Wrld (x : Wrld) : x.ct ≤ 79 * (x.sz + 1) := by
  have := cnb_HouseS x.houses; have := cnb_AuditorS x.auditors; have := cnb_NoteS x.notes; have := cnb_GivenS x.given; have := cnb_BoolS x.evil; have := cnb_IntS x.codes
  simp only [Head.ct, Head.sz, Sig.ct, Sig.sz, File.ct, File.sz, Disk.ct, Disk.sz, Leaf.ct, Leaf.sz, Seal.ct, Seal.sz, Stamp.ct, Stamp.sz, Change.ct, Change.sz, Ready.ct, Ready.sz, Server.ct, Server.sz, Coord.ct, Coord.sz, House.ct, House.sz, Pair.ct, Pair.sz, Auditor.ct, Auditor.sz, Note.ct, Note.sz, Given.ct, Given.sz, Wrld.ct, Wrld.sz] <;> omega
theorem cnb_WholeS (xs : List Whole) : cnL xs ≤ 17 * szL xs := cnL_le 17 cnb_Whole xs
theorem cnb_Past (x : Past) : cn x ≤ 17 * (sz x + 1) := by
  show Past.cn x ≤ 17 * (Past.sz x + 1)
  have := cnb_WholeS x.wholes
  simp only [Head.cn, Head.sz, Sig.cn, Sig.sz, Leaf.cn, Leaf.sz, Proof.cn, Proof.sz, Seal.cn, Seal.sz, Stamp.cn, Stamp.sz, Whole.cn, Whole.sz, Past.cn, Past.sz] <;> omega
theorem ctb_Past (x : Past) : x.ct ≤ 17 * (x.sz + 1) := by
  have := cnb_WholeS x.wholes
  simp only [Head.ct, Head.sz, Sig.ct, Sig.sz, Leaf.ct, Leaf.sz, Proof.ct, Proof.sz, Seal.ct, Seal.sz, Stamp.ct, Stamp.sz, Whole.ct, Whole.sz, Past.ct, Past.sz] <;> omega
end Go.Proofs.YthgonaodmpegfaaGreatDoor
