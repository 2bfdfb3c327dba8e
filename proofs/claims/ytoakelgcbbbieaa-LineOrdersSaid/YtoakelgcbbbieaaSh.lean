/- The library's sort, as it stands in this program: a table of numbers and one fact a field. -/
import Derived.Shelf.SlLaysF0
import Derived.Test.YtoakelgcbbbieaaChecked
namespace Go.Proofs.Ytoakelgcbbbieaa
open Go.Shelf
set_option maxRecDepth 100000

def layF_ren : Go.Shelf.Ren := ⟨fun | 6 => 97 | 15 => 104 | 14 => 103 | 28 => 115 | 29 => 116 | 20 => 107 | 21 => 108 | 22 => 109 | 23 => 110 | 24 => 111 | 25 => 112 | 26 => 113 | 27 => 114 | 46 => 117 | 47 => 118 | 48 => 119 | 49 => 120 | 50 => 121 | 57 => 122 | n => n, fun | 22 => 107 | 24 => 113 | 25 => 190 | 3 => 3 | 39 => 88 | 0 => 0 | 53 => 213 | 55 => 215 | 4 => 4 | 46 => 207 | 45 => 206 | 50 => 30 | 5 => 5 | 9 => 9 | 66 => 216 | 70 => 220 | 76 => 222 | 77 => 158 | n => n, fun | n => n⟩
theorem layF : Go.Proofs.SlLaysF0.n6 Try.prog layF_ren := {
  mixed := by kernel_rfl
  f6 := ⟨Try.f97.name, by decide, Try.func97.trans (congrArg some (by kernel_rfl))⟩
  f14 := ⟨Try.f103.name, by decide, Try.func103.trans (congrArg some (by kernel_rfl))⟩
  f15 := Try.func104.trans (congrArg some (by kernel_rfl))
  f20 := ⟨Try.f107.name, by decide, Try.func107.trans (congrArg some (by kernel_rfl))⟩
  f21 := ⟨Try.f108.name, by decide, Try.func108.trans (congrArg some (by kernel_rfl))⟩
  f22 := ⟨Try.f109.name, by decide, Try.func109.trans (congrArg some (by kernel_rfl))⟩
  f23 := ⟨Try.f110.name, by decide, Try.func110.trans (congrArg some (by kernel_rfl))⟩
  f24 := ⟨Try.f111.name, by decide, Try.func111.trans (congrArg some (by kernel_rfl))⟩
  f25 := ⟨Try.f112.name, by decide, Try.func112.trans (congrArg some (by kernel_rfl))⟩
  f26 := ⟨Try.f113.name, by decide, Try.func113.trans (congrArg some (by kernel_rfl))⟩
  f27 := ⟨Try.f114.name, by decide, Try.func114.trans (congrArg some (by kernel_rfl))⟩
  f28 := Try.func115.trans (congrArg some (by kernel_rfl))
  f29 := Try.func116.trans (congrArg some (by kernel_rfl))
  f46 := ⟨Try.f117.name, by decide, Try.func117.trans (congrArg some (by kernel_rfl))⟩
  f47 := Try.func118.trans (congrArg some (by kernel_rfl))
  f48 := Try.func119.trans (congrArg some (by kernel_rfl))
  f49 := ⟨Try.f120.name, by decide, Try.func120.trans (congrArg some (by kernel_rfl))⟩
  f50 := ⟨Try.f121.name, by decide, Try.func121.trans (congrArg some (by kernel_rfl))⟩
  f57 := ⟨Try.f122.name, by decide, Try.func122.trans (congrArg some (by kernel_rfl))⟩
  t0 := Try.underlying0
  a0 := Try.isAgg0
  z0 := Try.sizeOf0
  v0 := Try.zeroValue0
  t3 := Try.underlying3
  a3 := Try.isAgg3
  z3 := Try.sizeOf3
  v3 := Try.zeroValue3
  t4 := Try.underlying4
  a4 := Try.isAgg4
  z4 := Try.sizeOf4
  v4 := Try.zeroValue4
  t5 := Try.underlying5
  a5 := Try.isAgg5
  z5 := Try.sizeOf5
  v5 := Try.zeroValue5
  t9 := Try.underlying9
  a9 := Try.isAgg9
  z9 := Try.sizeOf9
  v9 := Try.zeroValue9
  t22 := Try.underlying107
  a22 := Try.isAgg107
  z22 := Try.sizeOf107
  v22 := Try.zeroValue107
  t25 := Try.underlying190
  a25 := Try.isAgg190
  z25 := Try.sizeOf190
  v25 := Try.zeroValue190
  t39 := Try.underlying88
  a39 := Try.isAgg88
  z39 := Try.sizeOf88
  v39 := Try.zeroValue88
  t45 := Try.underlying206
  a45 := Try.isAgg206
  z45 := Try.sizeOf206
  v45 := Try.zeroValue206
  t46 := Try.underlying207
  a46 := Try.isAgg207
  z46 := Try.sizeOf207
  v46 := Try.zeroValue207
  t50 := Try.underlying30
  a50 := Try.isAgg30
  z50 := Try.sizeOf30
  v50 := Try.zeroValue30
  t53 := Try.underlying213
  a53 := Try.isAgg213
  z53 := Try.sizeOf213
  v53 := Try.zeroValue213
  t55 := Try.underlying215
  a55 := Try.isAgg215
  z55 := Try.sizeOf215
  v55 := Try.zeroValue215
  t66 := Try.underlying216
  a66 := Try.isAgg216
  z66 := Try.sizeOf216
  v66 := Try.zeroValue216
  t70 := Try.underlying220
  a70 := Try.isAgg220
  z70 := Try.sizeOf220
  v70 := Try.zeroValue220
  t76 := Try.underlying222
  a76 := Try.isAgg222
  z76 := Try.sizeOf222
  v76 := Try.zeroValue222
  t77 := Try.underlying158
  a77 := Try.isAgg158
  z77 := Try.sizeOf158
  v77 := Try.zeroValue158 }
end Go.Proofs.Ytoakelgcbbbieaa
