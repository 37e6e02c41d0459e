/-
  THE LAW'S WALK: FnExactParseVerdict.
-/
import Derived.Test.YtfieimmlcopbhaaDoorPVi
import Derived.Test.YtfieimmlcopbhaaDoorVer
namespace Go.Proofs.YtfieimmlcopbhaaDoor
open Go.RowKit

set_option maxHeartbeats 400000 in
set_option maxRecDepth 20000 in
theorem law_ParseVerdict (s : ByteArray) (w : World) (_hs : s.size ≤ maxLen) (N : Env w) :
    Calls Tryd.prog 5 #[.string s] w fun e w2 => e = .returned (.bool true) ∧ Ext w w2 := by
  by_cases hb : 1048576 < s.size
  · go_enter Tryd.func5, Tryd.ntmps5
    go_wp2
    go_ret
    exact ⟨rfl, Ext.refl _⟩
  · have hb2 : s.size ≤ 1048576 := by omega
    go_enter Tryd.func5, Tryd.ntmps5
    go_wp2_with fail
    refine (spec_ParseVerdict s _ hb2).mono ?_
    rintro e w1 ⟨rfl, x1⟩
    obtain ⟨r, hr⟩ : ∃ r, r = pV s := ⟨_, rfl⟩
    rw [← hr]
    have HR := hid hr
    clear hr
    obtain ⟨⟨a, b, q, t⟩, k⟩ := r
    have hk : (k != k) = false := by simp
    simp only [verV]
    have x1a : Ext w (w1.alloc (.cells #[.int .i64 a, .int .i64 b, .bool q, .int .i64 t] 36)) := x1.alloc _
    go_wp2_with fail
    refine (impl_ParseVerdict s _ hb2 (N.mono x1a)).mono ?_
    rintro e w2 ⟨rfl, x2⟩
    rw [← HR.out]
    simp only [verV]
    have x12 := x1a.trans x2
    obtain ⟨cA, fA⟩ := x2.box
    have x2b : Ext w2 (w2.alloc (.cells #[.int .i64 a, .int .i64 b, .bool q, .int .i64 t] 36)) := (Ext.refl w2).alloc _
    have d0 := x2b.cell (cA 0)
    have d1 := x2b.cell (cA 1)
    have d2 := x2b.cell (cA 2)
    have d3 := x2b.cell (cA 3)
    have x12b := x12.trans x2b
    clear x2 x1a x1 cA fA x2b x12
    go_wp2_with fail
    refine (eqVerdict_c ⟨a, b, q, t⟩ ⟨a, b, q, t⟩ _).mono ?_
    rintro e w3 ⟨rfl, x3⟩
    rw [eqB_self]
    go_wp2
    go_ret
    exact ⟨rfl, x12b.trans x3⟩
end Go.Proofs.YtfieimmlcopbhaaDoor
