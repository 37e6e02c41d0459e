/-
  THE SHELF's CONTRACT OF strings.TrimSuffix, AT THIS SEAT's PROGRAM: which numbers its functions and types bear here (printed by the shelf's lay-plain tool).
-/
import Derived.Shelf.Strings.Prefix
import Derived.Test.YtgbcbmlikmjjkaaDoorTypes
namespace Go.Proofs.YtgbcbmlikmjjkaaDoor
open Go.Shelf
def lShTrimS_ren : Go.Shelf.Ren := ⟨fun | 102 => 148 | 209 => 164 | 207 => 173 | n => n, fun | 9 => 9 | 4 => 4 | 3 => 3 | n => n, fun | n => n⟩
theorem lShTrimS : Go.Proofs.Lays.n102 Tryd.prog lShTrimS_ren := {
  mixed := by kernel_rfl
  f102 := Tryd.func148.trans (congrArg some (by kernel_rfl))
  f207 := Tryd.func173.trans (congrArg some (by kernel_rfl))
  f209 := Tryd.func164.trans (congrArg some (by kernel_rfl))
  t3 := Tryd.underlying3
  a3 := Tryd.isAgg3
  z3 := Tryd.sizeOf3
  v3 := Tryd.zeroValue3
  t4 := Tryd.underlying4
  a4 := Tryd.isAgg4
  z4 := Tryd.sizeOf4
  v4 := Tryd.zeroValue4
  t9 := Tryd.underlying9
  a9 := Tryd.isAgg9
  z9 := Tryd.sizeOf9
  v9 := Tryd.zeroValue9 }
end Go.Proofs.YtgbcbmlikmjjkaaDoor
