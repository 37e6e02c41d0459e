/-
  WALKS: within, l1In, isMember, IsValidVerdict (both), toVerdict.
-/
import Derived.Test.YtoohpjpnbmaobaaTypes
namespace Go.Proofs.Ytoohpjpnbmaobaa
open Go.RowKit

def inB (x a b : Int) : Bool := decide (a ≤ x ∧ x ≤ b)

set_option maxHeartbeats 400000 in
theorem spec_l1In (x a b : Int) (w : World) :
    Calls Try.prog 30 #[.int .i64 x, .int .i64 a, .int .i64 b] w fun e w2 => e = .returned (.bool (inB x a b)) ∧ w = w2 := by
  go_enter Try.func30, Try.ntmps30
  go_wp2
  all_goals go_ret
  all_goals refine ⟨?_, rfl⟩
  all_goals (simp [inB]; try omega)

set_option maxHeartbeats 400000 in
theorem impl_within (x a b : Int) (w : World) :
    Calls Try.prog 32 #[.int .i64 x, .int .i64 a, .int .i64 b] w fun e w2 => e = .returned (.bool (inB x a b)) ∧ w = w2 := by
  go_enter Try.func32, Try.ntmps32
  go_wp2
  all_goals go_ret
  all_goals refine ⟨?_, rfl⟩
  all_goals (simp [inB]; try omega)

set_option maxHeartbeats 400000 in
theorem impl_isMember (x : Int) (w : World) :
    Calls Try.prog 31 #[.int .i64 x] w fun e w2 => e = .returned (.bool (inB x 1 399)) ∧ w = w2 := by
  go_enter Try.func31, Try.ntmps31
  go_wp2_with (go_at_call 32; refine (impl_within _ _ _ _).mono ?_; rintro e w2 ⟨rfl, rfl⟩)
  go_ret
  exact ⟨rfl, rfl⟩

def okV (v : Verdict) : Bool := inB v.a 1 399 && inB v.b 1 399 && decide (v.a < v.b) && inB v.time 1 999

set_option maxHeartbeats 400000 in
theorem spec_IsValidVerdict (a b : Int) (s : Bool) (t : Int) (w : World) :
    Calls Try.prog 11 #[.agg #[.int .i64 a, .int .i64 b, .bool s, .int .i64 t]] w fun e w2 => e = .returned (.bool (okV ⟨a, b, s, t⟩)) ∧ Ext w w2 := by
  go_enter Try.func11, Try.ntmps11
  go_wp2_with (go_at_call 30; refine (spec_l1In _ _ _ _).mono ?_; rintro e w2 ⟨rfl, rfl⟩)
  all_goals go_ret
  all_goals refine ⟨?_, by repeat (first | exact Ext.refl _ | refine Ext.alloc ?_ _)⟩
  all_goals (simp_all [okV]; try omega)

set_option maxHeartbeats 400000 in
theorem impl_IsValidVerdict (a b : Int) (s : Bool) (t : Int) (w : World) :
    Calls Try.prog 13 #[.agg #[.int .i64 a, .int .i64 b, .bool s, .int .i64 t]] w fun e w2 => e = .returned (.bool (okV ⟨a, b, s, t⟩)) ∧ Ext w w2 := by
  go_enter Try.func13, Try.ntmps13
  go_wp2_with (first | (go_at_call 31; refine (impl_isMember _ _).mono ?_; rintro e w2 ⟨rfl, rfl⟩) | (go_at_call 32; refine (impl_within _ _ _ _).mono ?_; rintro e w2 ⟨rfl, rfl⟩))
  all_goals go_ret
  all_goals refine ⟨?_, by repeat (first | exact Ext.refl _ | refine Ext.alloc ?_ _)⟩
  all_goals (simp_all [okV]; try omega)

set_option maxHeartbeats 400000 in
theorem toVerdict_c (a b : Int) (s : Bool) (t : Int) (w : World) :
    Calls Try.prog 12 #[.agg #[.int .i64 a, .int .i64 b, .bool s, .int .i64 t]] w fun e w2 => e = .returned (.agg #[.int .i64 a, .int .i64 b, .bool s, .int .i64 t]) ∧ Ext w w2 := by
  go_enter Try.func12, Try.ntmps12
  go_wp2
  exact bodyPost_ret (v := .agg #[.int .i64 a, .int .i64 b, .bool s, .int .i64 t]) (by simp [results, Try.results12, go_sem]) rfl ⟨rfl, by repeat (first | exact Ext.refl _ | refine Ext.alloc ?_ _ | refine Ext.setCell ?_ (by simp) _)⟩

set_option maxHeartbeats 400000 in
theorem law_IsValidVerdict (a b : Int) (s : Bool) (t : Int) (w : World) :
    Calls Try.prog 4 #[.agg #[.int .i64 a, .int .i64 b, .bool s, .int .i64 t]] w fun e w2 => e = .returned (.bool true) ∧ Ext w w2 := by
  go_enter Try.func4, Try.ntmps4
  go_wp2_with fail
  refine (toVerdict_c a b s t _).mono ?_
  rintro e w1 ⟨rfl, x1⟩
  go_wp2_with fail
  refine (spec_IsValidVerdict a b s t _).mono ?_
  rintro e w2 ⟨rfl, x2⟩
  obtain ⟨c2, f2⟩ := (x1.trans x2).box
  go_wp2_with fail
  refine (toVerdict_c a b s t _).mono ?_
  rintro e w3 ⟨rfl, x3⟩
  go_wp2_with fail
  refine (impl_IsValidVerdict a b s t _).mono ?_
  rintro e w4 ⟨rfl, x4⟩
  go_wp2
  all_goals go_ret
  all_goals exact ⟨rfl, (((((Ext.refl _).alloc _).trans x1).trans x2).trans x3).trans x4⟩

end Go.Proofs.Ytoohpjpnbmaobaa
