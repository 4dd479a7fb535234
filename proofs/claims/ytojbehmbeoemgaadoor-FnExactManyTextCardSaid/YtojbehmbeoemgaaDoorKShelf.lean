/- The library contract, laid at this program in plain words (by the shelf's own tools lay-shelf.mjs and lay-plain.mjs). -/
import Derived.Shelf.Sort.Plain
import Derived.Shelf.Slices.In.SortNone
import Derived.Shelf.Slices.In.SortNone2
import Derived.Test.YtojbehmbeoemgaaDoorProg
set_option linter.unusedVariables false
set_option linter.unusedSimpArgs false
namespace Go.Proofs
open Go.Shelf
def Tryd.lays191_ren : Go.Shelf.Ren := ⟨fun | 191 => 78 | 189 => 130 | 125 => 153 | 257 => 152 | 128 => 170 | 129 => 171 | 294 => 161 | 295 => 162 | 296 => 163 | 297 => 164 | 298 => 165 | 299 => 166 | 216 => 167 | 300 => 168 | 301 => 169 | 328 => 172 | 329 => 173 | 330 => 174 | 331 => 175 | 332 => 176 | 215 => 177 | 343 => 178 | n => n, fun | 28 => 33 | 0 => 0 | 3 => 3 | 46 => 134 | 51 => 143 | 53 => 176 | 4 => 4 | 183 => 167 | 182 => 166 | 131 => 172 | 5 => 5 | 9 => 9 | 218 => 177 | 222 => 181 | 228 => 183 | 229 => 184 | n => n, fun | n => n⟩
theorem Tryd.lays191 : Go.Proofs.Lays.n191 Tryd.prog Tryd.lays191_ren := {
  mixed := by kernel_rfl
  f125 := Tryd.func153.trans (congrArg some (by kernel_rfl))
  f128 := Tryd.func170.trans (congrArg some (by kernel_rfl))
  f129 := Tryd.func171.trans (congrArg some (by kernel_rfl))
  f189 := Tryd.func130.trans (congrArg some (by kernel_rfl))
  f191 := Tryd.func78.trans (congrArg some (by kernel_rfl))
  f215 := Tryd.func177.trans (congrArg some (by kernel_rfl))
  f216 := Tryd.func167.trans (congrArg some (by kernel_rfl))
  f257 := Tryd.func152.trans (congrArg some (by kernel_rfl))
  f294 := Tryd.func161.trans (congrArg some (by kernel_rfl))
  f295 := Tryd.func162.trans (congrArg some (by kernel_rfl))
  f296 := Tryd.func163.trans (congrArg some (by kernel_rfl))
  f297 := Tryd.func164.trans (congrArg some (by kernel_rfl))
  f298 := Tryd.func165.trans (congrArg some (by kernel_rfl))
  f299 := Tryd.func166.trans (congrArg some (by kernel_rfl))
  f300 := Tryd.func168.trans (congrArg some (by kernel_rfl))
  f301 := Tryd.func169.trans (congrArg some (by kernel_rfl))
  f328 := Tryd.func172.trans (congrArg some (by kernel_rfl))
  f329 := Tryd.func173.trans (congrArg some (by kernel_rfl))
  f330 := Tryd.func174.trans (congrArg some (by kernel_rfl))
  f331 := Tryd.func175.trans (congrArg some (by kernel_rfl))
  f332 := Tryd.func176.trans (congrArg some (by kernel_rfl))
  f343 := Tryd.func178.trans (congrArg some (by kernel_rfl))
  t0 := Tryd.underlying0
  a0 := Tryd.isAgg0
  z0 := Tryd.sizeOf0
  v0 := Tryd.zeroValue0
  t3 := Tryd.underlying3
  a3 := Tryd.isAgg3
  z3 := Tryd.sizeOf3
  v3 := Tryd.zeroValue3
  t4 := Tryd.underlying4
  a4 := Tryd.isAgg4
  z4 := Tryd.sizeOf4
  v4 := Tryd.zeroValue4
  t5 := Tryd.underlying5
  a5 := Tryd.isAgg5
  z5 := Tryd.sizeOf5
  v5 := Tryd.zeroValue5
  t9 := Tryd.underlying9
  a9 := Tryd.isAgg9
  z9 := Tryd.sizeOf9
  v9 := Tryd.zeroValue9
  t28 := Tryd.underlying33
  a28 := Tryd.isAgg33
  z28 := Tryd.sizeOf33
  v28 := Tryd.zeroValue33
  t46 := Tryd.underlying134
  a46 := Tryd.isAgg134
  z46 := Tryd.sizeOf134
  v46 := Tryd.zeroValue134
  t51 := Tryd.underlying143
  a51 := Tryd.isAgg143
  z51 := Tryd.sizeOf143
  v51 := Tryd.zeroValue143
  t53 := Tryd.underlying176
  a53 := Tryd.isAgg176
  z53 := Tryd.sizeOf176
  v53 := Tryd.zeroValue176
  t131 := Tryd.underlying172
  a131 := Tryd.isAgg172
  z131 := Tryd.sizeOf172
  v131 := Tryd.zeroValue172
  t182 := Tryd.underlying166
  a182 := Tryd.isAgg166
  z182 := Tryd.sizeOf166
  v182 := Tryd.zeroValue166
  t183 := Tryd.underlying167
  a183 := Tryd.isAgg167
  z183 := Tryd.sizeOf167
  v183 := Tryd.zeroValue167
  t218 := Tryd.underlying177
  a218 := Tryd.isAgg177
  z218 := Tryd.sizeOf177
  v218 := Tryd.zeroValue177
  t222 := Tryd.underlying181
  a222 := Tryd.isAgg181
  z222 := Tryd.sizeOf181
  v222 := Tryd.zeroValue181
  t228 := Tryd.underlying183
  a228 := Tryd.isAgg183
  z228 := Tryd.sizeOf183
  v228 := Tryd.zeroValue183
  t229 := Tryd.underlying184
  a229 := Tryd.isAgg184
  z229 := Tryd.sizeOf184
  v229 := Tryd.zeroValue184 }
open Go.Sort Go.RowKit in
theorem Tryd.sort_Ints (blk off cap : Nat) (zs : List Int) (w : World) (hH : Holds (Value.int .i64) w blk off zs.toArray) (hblk : blk < w.heap.size) (hsz : zs.length < 4611686018427387904) :
    Calls Tryd.prog 78 #[.slice (some ⟨blk, off, none⟩) zs.length cap] w fun e w' =>
      e = .returned (.tuple #[]) ∧ ∃ n os, w' = grow (putRow (Value.int .i64) (Sort.ahead w n) blk off (zs.mergeSort fun x y => decide (x ≤ y)).toArray) os := Any.sort_Ints Tryd.lays191 blk off cap zs w hH hblk hsz
open Go.RowKit Go.Sort in
/-- .. and plain. (LAID: no walk: one application.) -/
theorem Tryd.sort_Ints_none (p : Option Addr) (cap : Nat) (w : World) :
    Calls Tryd.prog 78 #[.slice p 0 cap] w fun e w' => e = .returned (.tuple #[]) ∧ w' = w := Any.sort_Ints_none Tryd.lays191 p cap w
end Go.Proofs
