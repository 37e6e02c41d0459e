/-
  PLAIN LAW AND WALK: l8Int.
-/
import Derived.Test.YtblggajfdhjmjaaTypes
namespace Go.Proofs.Ytblggajfdhjmjaa
open Go.RowKit

def cmpI (a b : Int) : Int := if a < b then -1 else if b < a then 1 else 0
theorem cmpI_64 (a b : Int) : I64 (cmpI a b) := by unfold I64 cmpI; split <;> (try split) <;> omega
theorem cmpI_zero {a b : Int} : cmpI a b = 0 ↔ a = b := by unfold cmpI; split <;> (try split) <;> omega
set_option maxHeartbeats 400000 in
theorem spec_l8Int (a b : Int) (w : World) :
    Calls Try.prog 30 #[.int .i64 a, .int .i64 b] w fun e w2 => e = .returned (.int .i64 (cmpI a b)) ∧ w = w2 := by
  go_enter Try.func30, Try.ntmps30
  go_wp2
  all_goals go_ret
  all_goals refine ⟨?_, rfl⟩
  all_goals (simp_all [cmpI]; try omega)

end Go.Proofs.Ytblggajfdhjmjaa
