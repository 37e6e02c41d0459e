/-
  THE LAW'S WALK: FnExactFormatVerdict.
-/
import Derived.Test.YtbhhbdilaihegaaDoorFmtV
namespace Go.Proofs.YtbhhbdilaihegaaDoor
open Go.RowKit

set_option maxHeartbeats 400000 in
theorem law_FormatVerdict (a b : Int) (s : Bool) (t : Int) (w : World) (T : Tab w) :
    Calls Tryd.prog 3 #[.agg #[.int .i64 a, .int .i64 b, .bool s, .int .i64 t]] w fun e w2 => e = .returned (.bool true) ∧ Ext w w2 := by
  go_enter Tryd.func3, Tryd.ntmps3
  go_wp2_with fail
  refine (toVerdict_c a b s t _).mono ?_
  rintro e w1 ⟨rfl, x1⟩
  go_wp2_with fail
  refine (spec_FormatVerdict a b s t _).mono ?_
  rintro e w2 ⟨rfl, x2⟩
  obtain ⟨c2, f2⟩ := (x1.trans x2).box
  go_wp2_with fail
  refine (toVerdict_c a b s t _).mono ?_
  rintro e w3 ⟨rfl, x3⟩
  go_wp2_with fail
  refine (impl_FormatVerdict a b s t _ (T.mono (by repeat (first | with_reducible exact Ext.refl _ | with_reducible assumption | with_reducible refine Ext.drew ?_ | with_reducible refine Ext.alloc ?_ _ | with_reducible refine Ext.trans ?_ (by with_reducible assumption))))).mono ?_
  rintro e w4 ⟨rfl, x4⟩
  have hne : ((fmtV ⟨a, b, s, t⟩).toList != (fmtV ⟨a, b, s, t⟩).toList) = false := by simp
  go_wp2
  all_goals go_ret
  all_goals exact ⟨rfl, (by repeat (first | with_reducible exact Ext.refl _ | with_reducible assumption | with_reducible refine Ext.drew ?_ | with_reducible refine Ext.alloc ?_ _ | with_reducible refine Ext.trans ?_ (by with_reducible assumption)))⟩
end Go.Proofs.YtbhhbdilaihegaaDoor
