/-
  WALKS: within, l1In, isMember, IsValidVerdict (both), toVerdict.
-/
import Derived.Test.YtmembjjgkideeaaMgEndSpl0

namespace Go.Proofs.Ytmembjjgkideeaa
open Go.RowKit

def okV (v : Verdict) : Bool := inB v.a 1 399 && inB v.b 1 399 && decide (v.a < v.b) && inB v.time 1 999

set_option maxHeartbeats 400000 in
theorem spec_IsValidVerdict (a b : Int) (s : Bool) (t : Int) (w : World) :
    Calls Try.prog 53 #[.agg #[.int .i64 a, .int .i64 b, .bool s, .int .i64 t]] w fun e w2 => e = .returned (.bool (okV ⟨a, b, s, t⟩)) ∧ Ext w w2 := by
  go_enter Try.func53, Try.ntmps53
  go_wp2_with (go_at_call 80; refine (spec_l1In _ _ _ _).mono ?_; rintro e w2 ⟨rfl, rfl⟩)
  all_goals go_ret
  all_goals refine ⟨?_, by repeat (first | exact Ext.refl _ | refine Ext.alloc ?_ _)⟩
  all_goals (simp_all [okV]; try omega)

set_option maxHeartbeats 400000 in
theorem impl_IsValidVerdict (a b : Int) (s : Bool) (t : Int) (w : World) :
    Calls Try.prog 66 #[.agg #[.int .i64 a, .int .i64 b, .bool s, .int .i64 t]] w fun e w2 => e = .returned (.bool (okV ⟨a, b, s, t⟩)) ∧ Ext w w2 := by
  go_enter Try.func66, Try.ntmps66
  go_wp2_with (first | (go_at_call 86; refine (impl_isMember _ _).mono ?_; rintro e w2 ⟨rfl, rfl⟩) | (go_at_call 56; refine (impl_within _ _ _ _).mono ?_; rintro e w2 ⟨rfl, rfl⟩))
  all_goals go_ret
  all_goals refine ⟨?_, by repeat (first | exact Ext.refl _ | refine Ext.alloc ?_ _)⟩
  all_goals (simp_all [okV]; try omega)

set_option maxHeartbeats 400000 in
theorem toVerdict_c (a b : Int) (s : Bool) (t : Int) (w : World) :
    Calls Try.prog 37 #[.agg #[.int .i64 a, .int .i64 b, .bool s, .int .i64 t]] w fun e w2 => e = .returned (.agg #[.int .i64 a, .int .i64 b, .bool s, .int .i64 t]) ∧ Ext w w2 := by
  go_enter Try.func37, Try.ntmps37
  go_wp2
  exact bodyPost_ret (v := .agg #[.int .i64 a, .int .i64 b, .bool s, .int .i64 t]) (by simp [results, Try.results37, go_sem]) rfl ⟨rfl, by repeat (first | exact Ext.refl _ | refine Ext.alloc ?_ _ | refine Ext.setCell ?_ (by simp) _)⟩

end Go.Proofs.Ytmembjjgkideeaa
