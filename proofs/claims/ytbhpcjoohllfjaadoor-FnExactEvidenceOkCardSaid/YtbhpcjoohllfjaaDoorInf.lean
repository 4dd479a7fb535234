/- What the program's table says of the element types; layouts without rows. Written by a program (gen_inf.py). -/
import Derived.Test.YtbhpcjoohllfjaaDoorAq
set_option linter.unusedVariables false
set_option linter.unusedSimpArgs false
namespace Go.Proofs.YtbhpcjoohllfjaaDoor
open Go.RowKit Lay
instance inf_U8 : Inf UInt8 := ⟨⟨.int .u8 0, 1, by kernel_rfl, rfl, by decide⟩, by kernel_rfl⟩
instance flat_U8 : Flat UInt8 := ⟨fun a => [.int .u8 a.toNat], fun _ => True, by intros; simp [rd]⟩
instance inf_String : Inf ByteArray := ⟨⟨.string ⟨#[]⟩, 16, by kernel_rfl, rfl, by decide⟩, by kernel_rfl⟩
instance flat_String : Flat ByteArray := ⟨fun a => [.string a], fun a => a.size ≤ maxLen, Iff.rfl⟩
instance inf_Int : Inf Int := ⟨⟨.int .i64 0, 8, by kernel_rfl, rfl, by decide⟩, by kernel_rfl⟩
instance flat_Int : Flat Int := ⟨fun a => [.int .i64 a], I64, Iff.rfl⟩
end Go.Proofs.YtbhpcjoohllfjaaDoor
