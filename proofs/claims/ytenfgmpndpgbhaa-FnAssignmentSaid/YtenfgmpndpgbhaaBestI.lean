/-
  WALKS: BestAssignment (the program).
-/
import Derived.Test.YtenfgmpndpgbhaaBest
import Derived.Test.YtenfgmpndpgbhaaFn
namespace Go.Proofs.Ytenfgmpndpgbhaa
open Go.RowKit

def upTo (n : Nat) : List Int := (List.range n).map fun (k : Nat) => (k : Int)
theorem upTo_len (n : Nat) : (upTo n).length = n := by simp [upTo]
theorem upTo_succ (n : Nat) : upTo (n + 1) = upTo n ++ [(n : Int)] := by simp [upTo, List.range_succ]
theorem idxF_ff (p : Int → Bool) (q : Nat → Bool) : ∀ (c j : Nat), (∀ k, j ≤ k → k < j + c → p (k : Int) = q k) → idxF p j ((List.range' j c).map fun (k : Nat) => (k : Int)) = ff q j c
  | 0, j, _ => rfl
  | c + 1, j, h => by
    rw [List.range'_succ, List.map_cons, idxF, ff, h j (Nat.le_refl _) (by omega), idxF_ff p q c (j + 1) fun k h1 h2 => h k (by omega) (by omega)]
theorem idxF_upTo (p : Int → Bool) (q : Nat → Bool) (n : Nat) (h : ∀ k, k < n → p (k : Int) = q k) : idxF p 0 (upTo n) = ff q 0 n := by
  have := idxF_ff p q n 0 fun k _ h2 => h k (by omega)
  rw [← this, upTo, List.range_eq_range']

set_option maxHeartbeats 400000 in
theorem impl_allItems (n : Nat) (w : World) (hn : n ≤ 8) :
    Calls Try.prog 107 #[.int .i64 n] w fun e w2 => ∃ v F, e = .returned v ∧ OwnSl intO w2 v (upTo n) F ∧ NewF w F ∧ Ext w w2 := by
  go_enter Try.func107, Try.ntmps107
  go_wp2
  go_loopw [3, 6] (fun out i wr => ∃ k : Nat, k ≤ n ∧ i = .int .i64 k ∧ Bld intO wr w.heap.size 3 out (upTo k) [] ∧ Ext w wr) (fun _ i _ => n - (intOf i).toNat)
  case atStart => exact ⟨0, Nat.zero_le _, rfl, Bld.nil w _ _, Ext.refl _⟩
  case round =>
    obtain ⟨k, hk, rfl, hB, hx⟩ := hrel
    by_cases hlt : k < n
    · have hl := upTo_len k
      go_wp2_with (at_builtin; refine wpList_app1 elemInt (by decide) rfl _ _ rfl hB rfl wr.heap.size 1 rfl rfl (one_int _) (own_int _ _ (by unfold I64; omega)) fresh_nil (by omega) (by decide) hx.size ?_; intro v2 w4 hB3 hE3)
      go_roundw
      case rel => exact ⟨k + 1, by omega, by go_num, by rw [upTo_succ]; exact hB3, hE3 w (Nat.le_refl _) hx⟩
      case measure => simp [intOf]; omega
    · go_wp2
      go_ret
      obtain ⟨F', d1, d2, d3⟩ := hB.done
      rw [show k = n by omega] at d1
      exact ⟨_, F', rfl, d1, ⟨d2, d3⟩, hx⟩
end Go.Proofs.Ytenfgmpndpgbhaa
