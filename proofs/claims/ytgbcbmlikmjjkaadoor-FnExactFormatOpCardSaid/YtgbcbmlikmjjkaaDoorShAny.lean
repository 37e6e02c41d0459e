/-
  THE SHELF's CONTRACT OF strings.ContainsAny, AT THIS SEAT's PROGRAM: which numbers its functions and types bear here (printed by the shelf's lay-plain tool).
-/
import Derived.Shelf.Strings.IndexAnyAll
import Derived.Test.YtgbcbmlikmjjkaaDoorTypes
namespace Go.Proofs.YtgbcbmlikmjjkaaDoor
open Go.Shelf
def lShAny_ren : Go.Shelf.Ren := ⟨fun | 150 => 162 | 153 => 172 | 152 => 182 | 226 => 183 | 227 => 184 | 228 => 185 | 137 => 192 | 119 => 193 | 224 => 194 | 225 => 195 | 217 => 196 | 266 => 198 | n => n, fun | 9 => 9 | 4 => 4 | 3 => 3 | 5 => 5 | 21 => 21 | 117 => 173 | 116 => 172 | 0 => 0 | 46 => 168 | 124 => 178 | n => n, fun | n => n⟩
theorem lShAny : Go.Proofs.Lays.n150 Tryd.prog lShAny_ren := {
  mixed := by kernel_rfl
  f119 := Tryd.func193.trans (congrArg some (by kernel_rfl))
  f137 := Tryd.func192.trans (congrArg some (by kernel_rfl))
  f150 := Tryd.func162.trans (congrArg some (by kernel_rfl))
  f152 := Tryd.func182.trans (congrArg some (by kernel_rfl))
  f153 := Tryd.func172.trans (congrArg some (by kernel_rfl))
  f217 := Tryd.func196.trans (congrArg some (by kernel_rfl))
  f224 := Tryd.func194.trans (congrArg some (by kernel_rfl))
  f225 := Tryd.func195.trans (congrArg some (by kernel_rfl))
  f226 := Tryd.func183.trans (congrArg some (by kernel_rfl))
  f227 := Tryd.func184.trans (congrArg some (by kernel_rfl))
  f228 := Tryd.func185.trans (congrArg some (by kernel_rfl))
  f266 := Tryd.func198.trans (congrArg some (by kernel_rfl))
  t0 := Tryd.underlying0
  a0 := Tryd.isAgg0
  z0 := Tryd.sizeOf0
  v0 := Tryd.zeroValue0
  t3 := Tryd.underlying3
  a3 := Tryd.isAgg3
  z3 := Tryd.sizeOf3
  v3 := Tryd.zeroValue3
  t4 := Tryd.underlying4
  a4 := Tryd.isAgg4
  z4 := Tryd.sizeOf4
  v4 := Tryd.zeroValue4
  t5 := Tryd.underlying5
  a5 := Tryd.isAgg5
  z5 := Tryd.sizeOf5
  v5 := Tryd.zeroValue5
  t9 := Tryd.underlying9
  a9 := Tryd.isAgg9
  z9 := Tryd.sizeOf9
  v9 := Tryd.zeroValue9
  t21 := Tryd.underlying21
  a21 := Tryd.isAgg21
  z21 := Tryd.sizeOf21
  v21 := Tryd.zeroValue21
  t46 := Tryd.underlying168
  a46 := Tryd.isAgg168
  z46 := Tryd.sizeOf168
  v46 := Tryd.zeroValue168
  t116 := Tryd.underlying172
  a116 := Tryd.isAgg172
  z116 := Tryd.sizeOf172
  t117 := Tryd.underlying173
  a117 := Tryd.isAgg173
  z117 := Tryd.sizeOf173
  v117 := Tryd.zeroValue173
  t124 := Tryd.underlying178
  a124 := Tryd.isAgg178
  z124 := Tryd.sizeOf178
  v124 := Tryd.zeroValue178 }
end Go.Proofs.YtgbcbmlikmjjkaaDoor
