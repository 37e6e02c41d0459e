/-
  THE ELEMENT TYPES OF []int AND [][]int.
-/
import Derived.Test.YtfieimmlcopbhaaDoorApp
import Derived.Test.YtfieimmlcopbhaaDoorIntss
namespace Go.Proofs.YtfieimmlcopbhaaDoor
open Go.RowKit
theorem elemInt : ElemT Tryd.prog 66 3 intO.n 8 := by
  obtain ⟨i, h1, h2, h3, h4⟩ := info_parts infoInt
  exact ⟨Tryd.underlying66, i, _, h1, h2, h3, h4, rfl⟩
theorem elemInts : ElemT Tryd.prog 121 66 (slO intO).n 24 := by
  obtain ⟨i, h1, h2, h3, h4⟩ := info_parts infoInts
  exact ⟨Tryd.underlying121, i, _, h1, h2, h3, h4, rfl⟩
theorem one_int (x : Int) : ∀ u ∈ (#[Value.int .i64 x] : Array Value).toList, u.oneCell' = true := by simp [Value.oneCell']
theorem one_slice (A : Option Addr) (n c : Nat) : ∀ u ∈ (#[Value.slice A n c] : Array Value).toList, u.oneCell' = true := by simp [Value.oneCell']
theorem own_int (W : World) (x : Int) (h : I64 x) : intO.own W (#[Value.int .i64 x] : Array Value).toList x [] := ⟨⟨rfl, h⟩, rfl⟩
end Go.Proofs.YtfieimmlcopbhaaDoor
