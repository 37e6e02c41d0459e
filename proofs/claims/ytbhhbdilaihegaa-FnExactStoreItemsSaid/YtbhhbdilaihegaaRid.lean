/-
  WALKS: RecordID (both).
-/
import Derived.Test.YtbhhbdilaihegaaRec
namespace Go.Proofs.Ytbhhbdilaihegaa
open Go.RowKit

def recID (r : Record) : Int := wrap64 (wrap64 (100 * r.source) + r.key)

set_option maxHeartbeats 400000 in
theorem spec_RecordID (v : Value) (r : Record) (w : World) (h : RecAt w v r) :
    Calls Try.prog 81 #[v] w fun e w2 => e = .returned (.int .i64 (recID r)) ∧ Ext w w2 := by
  obtain ⟨f, rfl, hok, hs⟩ := h
  go_enter Try.func81, Try.ntmps81
  go_wp2
  go_ret
  exact ⟨rfl, (by repeat (first | with_reducible exact Ext.refl _ | with_reducible assumption | with_reducible refine Ext.drew ?_ | with_reducible refine Ext.alloc ?_ _ | with_reducible refine Ext.trans ?_ (by with_reducible assumption)))⟩

set_option maxHeartbeats 400000 in
theorem impl_RecordID (v : Value) (r : Record) (w : World) (h : RecAt w v r) :
    Calls Try.prog 85 #[v] w fun e w2 => e = .returned (.int .i64 (recID r)) ∧ Ext w w2 := by
  obtain ⟨f, rfl, hok, hs⟩ := h
  go_enter Try.func85, Try.ntmps85
  go_wp2
  go_ret
  exact ⟨rfl, (by repeat (first | with_reducible exact Ext.refl _ | with_reducible assumption | with_reducible refine Ext.drew ?_ | with_reducible refine Ext.alloc ?_ _ | with_reducible refine Ext.trans ?_ (by with_reducible assumption)))⟩
end Go.Proofs.Ytbhhbdilaihegaa
