/-
  WALKS: within, l1In, isMember, IsValidVerdict (both), toVerdict.
-/
import Derived.Test.YtfieimmlcopbhaaGreatDoorMgEndFnRec0

namespace Go.Proofs.YtfieimmlcopbhaaGreatDoor
open Go.RowKit

def okV (v : Verdict) : Bool := inB v.a 1 399 && inB v.b 1 399 && decide (v.a < v.b) && inB v.time 1 999

set_option maxHeartbeats 400000 in
theorem spec_IsValidVerdict (a b : Int) (s : Bool) (t : Int) (w : World) :
    Calls Tryz.prog 89 #[.agg #[.int .i64 a, .int .i64 b, .bool s, .int .i64 t]] w fun e w2 => e = .returned (.bool (okV ⟨a, b, s, t⟩)) ∧ Ext w w2 := by
  go_enter Tryz.func89, Tryz.ntmps89
  go_wp2_with (go_at_call 74; refine (spec_l1In _ _ _ _).mono ?_; rintro e w2 ⟨rfl, rfl⟩)
  all_goals go_ret
  all_goals refine ⟨?_, by repeat (first | exact Ext.refl _ | refine Ext.alloc ?_ _)⟩
  all_goals (simp_all [okV]; try omega)

set_option maxHeartbeats 400000 in
theorem impl_IsValidVerdict (a b : Int) (s : Bool) (t : Int) (w : World) :
    Calls Tryz.prog 92 #[.agg #[.int .i64 a, .int .i64 b, .bool s, .int .i64 t]] w fun e w2 => e = .returned (.bool (okV ⟨a, b, s, t⟩)) ∧ Ext w w2 := by
  go_enter Tryz.func92, Tryz.ntmps92
  go_wp2_with (first | (go_at_call 128; refine (impl_isMember _ _).mono ?_; rintro e w2 ⟨rfl, rfl⟩) | (go_at_call 95; refine (impl_within _ _ _ _).mono ?_; rintro e w2 ⟨rfl, rfl⟩))
  all_goals go_ret
  all_goals refine ⟨?_, by repeat (first | exact Ext.refl _ | refine Ext.alloc ?_ _)⟩
  all_goals (simp_all [okV]; try omega)

end Go.Proofs.YtfieimmlcopbhaaGreatDoor
