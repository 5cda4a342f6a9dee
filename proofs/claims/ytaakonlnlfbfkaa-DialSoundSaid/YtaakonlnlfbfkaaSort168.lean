/-
  slices.SortFunc's family lies at this program as at the library's own: the laying, in plain words (printed by the kit's lay-plain.mjs).
-/
import Derived.Shelf.SlSortCmp.NoneTotal
import Derived.Test.YtaakonlnlfbfkaaProg
namespace Go.Proofs.Ytaakonlnlfbfkaa
open Go.Shelf
def sort168_ren : Go.Shelf.Ren := ⟨fun | 6 => 168 | 15 => 177 | 14 => 176 | 28 => 188 | 29 => 163 | 20 => 180 | 21 => 181 | 22 => 182 | 23 => 183 | 24 => 184 | 25 => 185 | 26 => 186 | 27 => 187 | 46 => 191 | 47 => 192 | 48 => 193 | 49 => 194 | 50 => 195 | 57 => 197 | n => n, fun | 22 => 232 | 24 => 81 | 25 => 168 | 3 => 3 | 39 => 222 | 0 => 0 | 53 => 215 | 55 => 31 | 4 => 4 | 46 => 249 | 45 => 248 | 50 => 90 | 5 => 5 | 9 => 9 | 66 => 256 | 70 => 260 | 76 => 263 | 77 => 264 | n => n, fun | n => n⟩
theorem sort168 : Go.Proofs.SlLaysF0.n6 Try.prog sort168_ren := {
  mixed := by kernel_rfl
  f6 := ⟨Try.f168.name, by decide, Try.func168.trans (congrArg some (by kernel_rfl))⟩
  f14 := ⟨Try.f176.name, by decide, Try.func176.trans (congrArg some (by kernel_rfl))⟩
  f15 := Try.func177.trans (congrArg some (by kernel_rfl))
  f20 := ⟨Try.f180.name, by decide, Try.func180.trans (congrArg some (by kernel_rfl))⟩
  f21 := ⟨Try.f181.name, by decide, Try.func181.trans (congrArg some (by kernel_rfl))⟩
  f22 := ⟨Try.f182.name, by decide, Try.func182.trans (congrArg some (by kernel_rfl))⟩
  f23 := ⟨Try.f183.name, by decide, Try.func183.trans (congrArg some (by kernel_rfl))⟩
  f24 := ⟨Try.f184.name, by decide, Try.func184.trans (congrArg some (by kernel_rfl))⟩
  f25 := ⟨Try.f185.name, by decide, Try.func185.trans (congrArg some (by kernel_rfl))⟩
  f26 := ⟨Try.f186.name, by decide, Try.func186.trans (congrArg some (by kernel_rfl))⟩
  f27 := ⟨Try.f187.name, by decide, Try.func187.trans (congrArg some (by kernel_rfl))⟩
  f28 := Try.func188.trans (congrArg some (by kernel_rfl))
  f29 := Try.func163.trans (congrArg some (by kernel_rfl))
  f46 := ⟨Try.f191.name, by decide, Try.func191.trans (congrArg some (by kernel_rfl))⟩
  f47 := Try.func192.trans (congrArg some (by kernel_rfl))
  f48 := Try.func193.trans (congrArg some (by kernel_rfl))
  f49 := ⟨Try.f194.name, by decide, Try.func194.trans (congrArg some (by kernel_rfl))⟩
  f50 := ⟨Try.f195.name, by decide, Try.func195.trans (congrArg some (by kernel_rfl))⟩
  f57 := ⟨Try.f197.name, by decide, Try.func197.trans (congrArg some (by kernel_rfl))⟩
  t0 := Try.underlying0
  a0 := Try.isAgg0
  z0 := Try.sizeOf0
  v0 := Try.zeroValue0
  t3 := Try.underlying3
  a3 := Try.isAgg3
  z3 := Try.sizeOf3
  v3 := Try.zeroValue3
  t4 := Try.underlying4
  a4 := Try.isAgg4
  z4 := Try.sizeOf4
  v4 := Try.zeroValue4
  t5 := Try.underlying5
  a5 := Try.isAgg5
  z5 := Try.sizeOf5
  v5 := Try.zeroValue5
  t9 := Try.underlying9
  a9 := Try.isAgg9
  z9 := Try.sizeOf9
  v9 := Try.zeroValue9
  t22 := Try.underlying232
  a22 := Try.isAgg232
  z22 := Try.sizeOf232
  v22 := Try.zeroValue232
  t25 := Try.underlying168
  a25 := Try.isAgg168
  z25 := Try.sizeOf168
  v25 := Try.zeroValue168
  t39 := Try.underlying222
  a39 := Try.isAgg222
  z39 := Try.sizeOf222
  v39 := Try.zeroValue222
  t45 := Try.underlying248
  a45 := Try.isAgg248
  z45 := Try.sizeOf248
  v45 := Try.zeroValue248
  t46 := Try.underlying249
  a46 := Try.isAgg249
  z46 := Try.sizeOf249
  v46 := Try.zeroValue249
  t50 := Try.underlying90
  a50 := Try.isAgg90
  z50 := Try.sizeOf90
  v50 := Try.zeroValue90
  t53 := Try.underlying215
  a53 := Try.isAgg215
  z53 := Try.sizeOf215
  v53 := Try.zeroValue215
  t55 := Try.underlying31
  a55 := Try.isAgg31
  z55 := Try.sizeOf31
  v55 := Try.zeroValue31
  t66 := Try.underlying256
  a66 := Try.isAgg256
  z66 := Try.sizeOf256
  v66 := Try.zeroValue256
  t70 := Try.underlying260
  a70 := Try.isAgg260
  z70 := Try.sizeOf260
  v70 := Try.zeroValue260
  t76 := Try.underlying263
  a76 := Try.isAgg263
  z76 := Try.sizeOf263
  v76 := Try.zeroValue263
  t77 := Try.underlying264
  a77 := Try.isAgg264
  z77 := Try.sizeOf264
  v77 := Try.zeroValue264 }
end Go.Proofs.Ytaakonlnlfbfkaa
