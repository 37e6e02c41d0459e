/-
  WALKS: IsAssignment, AssignmentValue (both).
-/
import Derived.Test.YtfieimmlcopbhaaDoorMat
import Derived.Test.YtfieimmlcopbhaaDoorFind
namespace Go.Proofs.YtfieimmlcopbhaaDoor
open Go.RowKit

def pickOk (r : List Int) (prev : List Int) (x : Int) : Bool := x == -1 || (inB x 0 ((r.length : Int) - 1) && !(r.getD x.toNat 0 == 0) && !hasI x prev)
def pickAt (m : List (List Int)) (a : List Int) (j : Nat) : Bool := pickOk (m.getD j []) (a.take j) (a.getD j 0)
def okAsg (m : List (List Int)) (a : List Int) : Bool := okMat m && a.length == m.length && (List.range a.length).all (pickAt m a)
theorem okAsg_false {m : List (List Int)} {a : List Int} {k : Nat} (hk : k < a.length) (h : pickAt m a k = false) : okAsg m a = false := by
  unfold okAsg
  have : (List.range a.length).all (pickAt m a) = false := List.all_eq_false.2 ⟨k, List.mem_range.2 hk, by simp [h]⟩
  rw [this, Bool.and_false]
theorem okAsg_true {m : List (List Int)} {a : List Int} (hm : okMat m = true) (hl : a.length = m.length) (h : ∀ j, j < a.length → pickAt m a j = true) : okAsg m a = true := by
  unfold okAsg
  rw [hm, List.all_eq_true.2 (fun j hj => h j (List.mem_range.1 hj))]
  simp [hl]
theorem inB_iff {x a b : Int} : inB x a b = true ↔ a ≤ x ∧ x ≤ b := by simp [inB]
theorem getD_at {α : Type} {l : List α} {k : Nat} {d : α} (h : k < l.length) : l.getD k d = l[k] := by simp [List.getD, h]
theorem pickAt_eq {m : List (List Int)} {a : List Int} {k : Nat} (hm : k < m.length) (ha : k < a.length) : pickAt m a k = pickOk m[k] (a.take k) a[k] := by
  unfold pickAt
  rw [getD_at hm, getD_at ha]
theorem pick_m1 {r prev : List Int} {x : Int} (h : x = -1) : pickOk r prev x = true := by simp [pickOk, h]
theorem pick_out {r prev : List Int} {x : Int} (h : ¬ x = -1) (hi : inB x 0 ((r.length : Int) - 1) = false) : pickOk r prev x = false := by simp [pickOk, h, hi]
theorem pick_zero {r prev : List Int} {x : Int} (h : ¬ x = -1) (hr : x.toNat < r.length) (hz : r[x.toNat] = 0) : pickOk r prev x = false := by
  unfold pickOk; rw [getD_at hr, hz]; simp [h]
theorem pick_has {r prev : List Int} {x : Int} (h : ¬ x = -1) (hh : hasI x prev = true) : pickOk r prev x = false := by simp [pickOk, h, hh]
theorem pick_ok {r prev : List Int} {x : Int} (hi : inB x 0 ((r.length : Int) - 1) = true) (hr : x.toNat < r.length) (hz : ¬ r[x.toNat] = 0) (hh : hasI x prev = false) : pickOk r prev x = true := by
  unfold pickOk; rw [getD_at hr, hi, hh]; simp [hz]
theorem lt_succ_all {p : Nat → Prop} {k : Nat} (h : ∀ j, j < k → p j) (hk : p k) : ∀ j, j < k + 1 → p j := fun j hj => by
  by_cases e : j = k
  · subst e; exact hk
  · exact h j (by omega)

end Go.Proofs.YtfieimmlcopbhaaDoor
