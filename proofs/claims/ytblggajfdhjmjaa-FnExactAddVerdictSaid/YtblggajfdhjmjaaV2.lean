/-
  WALKS: cmp.Compare, cmp.Or, CompareVerdicts (both).
-/
import Derived.Test.YtblggajfdhjmjaaV1
import Derived.Test.YtblggajfdhjmjaaCmp0
import Derived.StillTailTactics
import Derived.Deep.QuietTactic
import Derived.BigQuiet
namespace Go.Proofs.Ytblggajfdhjmjaa
open Go.RowKit

def cmpB (a b : Bool) : Int := if a == b then 0 else if b then -1 else 1
/-- the first that is not 0 -/
def firstNZ : List Int → Int
  | [] => 0
  | x :: xs => if x ≠ 0 then x else firstNZ xs
def cmpV (x y : Verdict) : Int := firstNZ [cmpI x.a y.a, cmpI x.b y.b, cmpI x.time y.time, cmpB x.same y.same]

theorem cmpB_64 (a b : Bool) : I64 (cmpB a b) := by unfold I64 cmpB; split <;> (try split) <;> omega

set_option maxHeartbeats 400000 in
theorem cmp_isNaN (a : Int) (w : World) :
    Calls Try.prog 38 #[.int .i64 a] w fun e w2 => e = .returned (.bool false) ∧ w = w2 := by
  go_enter Try.func38, Try.ntmps38
  go_wp2
  all_goals go_ret
  all_goals (refine ⟨?_, rfl⟩; simp)

set_option maxHeartbeats 400000 in
theorem cmp_Compare (a b : Int) (w : World) :
    Calls Try.prog 34 #[.int .i64 a, .int .i64 b] w fun e w2 => e = .returned (.int .i64 (cmpI a b)) ∧ w2 = w := by
  go_enter Try.func34, Try.ntmps34
  go_wp2_with (go_at_call 38; refine (cmp_isNaN _ _).mono ?_; rintro e w2 ⟨rfl, rfl⟩)
  all_goals go_ret
  all_goals refine ⟨?_, rfl⟩
  all_goals (simp_all [cmpI]; try omega)

set_option maxHeartbeats 400000 in
theorem impl_compareSame (a b : Bool) (w : World) :
    Calls Try.prog 35 #[.bool a, .bool b] w fun e w2 => e = .returned (.int .i64 (cmpB a b)) ∧ w2 = w := by
  go_enter Try.func35, Try.ntmps35
  cases a <;> cases b <;> go_wp2
  all_goals go_ret
  all_goals refine ⟨?_, rfl⟩
  all_goals simp [cmpB]

theorem firstNZ_append (l r : List Int) (h : ∀ x ∈ l, x = 0) : firstNZ (l ++ r) = firstNZ r := by
  induction l with
  | nil => rfl
  | cons x l ih => simp [firstNZ, h x (List.mem_cons_self ..), ih (fun y hy => h y (List.mem_cons_of_mem _ hy))]

theorem firstNZ_at (xs : List Int) (k : Nat) (hlt : k < xs.length) (hz : ∀ x ∈ xs.take k, x = 0) (h0 : ¬ xs[k] = 0) : firstNZ xs = xs[k] := by
  have e : xs = xs.take k ++ (xs[k] :: xs.drop (k + 1)) := by simp
  have e2 : firstNZ (xs.take k ++ (xs[k] :: xs.drop (k + 1))) = xs[k] := by
    rw [firstNZ_append _ _ hz]; simp [firstNZ, h0]
  rw [← e] at e2; exact e2
theorem firstNZ_all (xs : List Int) (k : Nat) (hk : ¬ k < xs.length) (hz : ∀ x ∈ xs.take k, x = 0) : firstNZ xs = 0 := by
  rw [List.take_of_length_le (by omega)] at hz
  have := firstNZ_append xs [] hz
  rw [List.append_nil] at this
  exact this

set_option maxHeartbeats 400000 in
theorem cmp_Or (v : Value) (xs : List Int) (w : World) (h : Sl intR w v xs) :
    Calls Try.prog 33 #[v] w fun e w2 => e = .returned (.int .i64 (firstNZ xs)) ∧ w = w2 := by
  obtain ⟨A, cap, rfl, hm⟩ := h.form
  go_enter Try.func33, Try.ntmps33
  go_wp2
  go_loop [5, 8] (fun t i => ∃ k : Nat, k ≤ xs.length ∧ i = .int .i64 k ∧ ∀ x ∈ xs.take k, x = 0) (fun _ i => xs.length - (intOf i).toNat)
  case atStart => exact ⟨0, Nat.zero_le _, rfl, by simp⟩
  case round =>
    obtain ⟨k, hk, rfl, hz⟩ := hrel
    have HZ := hid hz
    clear hz
    by_cases hlt : k < xs.length
    · obtain ⟨b, off, rfl, hb, hc⟩ := h.int hlt
      by_cases h0 : xs[k] = 0
      · have h0' : (xs[k] != 0) = false := by simp [h0]
        have H0 := hid h0
        clear h0
        go_wp2
        go_round
        case rel => exact ⟨k + 1, by omega, by go_num, by
          intro x hx
          rw [List.take_succ_eq_append_getElem hlt] at hx
          rcases List.mem_append.1 hx with hx | hx
          · exact HZ.out x hx
          · simp only [List.mem_singleton] at hx; rw [hx]; exact H0.out⟩
        case measure => simp [intOf]; omega
      · have h0' : (xs[k] != 0) = true := by simp [h0]
        go_wp2
        go_ret
        exact ⟨ret_int (firstNZ_at xs k hlt HZ.out h0).symm, rfl⟩
    · go_wp2
      go_ret
      exact ⟨ret_int (firstNZ_all xs k hlt HZ.out).symm, rfl⟩

set_option maxHeartbeats 400000 in
set_option maxRecDepth 20000 in
theorem impl_CompareVerdicts (x y : Verdict) (w : World) :
    Calls Try.prog 27 #[x.val, y.val] w fun e w2 => e = .returned (.int .i64 (cmpV x y)) ∧ Ext w w2 := by
  obtain ⟨a, b, s, t⟩ := x
  obtain ⟨a', b', s', t'⟩ := y
  unfold Verdict.val
  go_enter Try.func27, Try.ntmps27
  go_wp2
  refine wp_region_still_tail 20 (by kernel_rfl) (by kernel_rfl) ?_
  simp only [List.take_succ_cons, List.take_zero, List.drop_succ_cons, List.drop_zero]
  change wpStill _ _ (World.drew _) _ _ _
  repeat (first | still_step | still_call (cmp_Compare _ _ _) | still_call (impl_compareSame _ _ _))
  refine wpStill_nil ?_
  change wpList _ _ _ _ _ (World.drew _)
  go_wp2_with fail
  refine (cmp_Or _ [cmpI a a', cmpI b b', cmpI t t', cmpB s s'] _ ?_).mono ?_
  · exact (Sl.new_ints _ [cmpI a a', cmpI b b', cmpI t t', cmpB s s'] _ _ _ (by simp) (by simp) (by simp [cmpI_64, cmpB_64]) (by simp [maxLen])).mono (Ext.refl _).drew
  rintro e w2 ⟨rfl, rfl⟩
  go_wp2
  go_ret
  exact ⟨ret_int rfl, (by repeat (first | with_reducible exact Ext.refl _ | with_reducible assumption | with_reducible refine Ext.drew ?_ | with_reducible refine Ext.alloc ?_ _ | with_reducible refine Ext.trans ?_ (by with_reducible assumption)))⟩

set_option maxHeartbeats 400000 in
set_option maxRecDepth 20000 in
theorem spec_CompareVerdicts (x y : Verdict) (w : World) :
    Calls Try.prog 24 #[x.val, y.val] w fun e w2 => e = .returned (.int .i64 (cmpV x y)) ∧ Ext w w2 := by
  obtain ⟨a, b, s, t⟩ := x
  obtain ⟨a', b', s', t'⟩ := y
  unfold Verdict.val
  go_enter Try.func24, Try.ntmps24
  go_wp2_with (go_at_call 30; refine (spec_l8Int _ _ _).mono ?_; rintro e w2 ⟨rfl, rfl⟩)
  all_goals go_ret
  all_goals refine ⟨ret_int ?_, (by repeat (first | with_reducible exact Ext.refl _ | with_reducible assumption | with_reducible refine Ext.drew ?_ | with_reducible refine Ext.alloc ?_ _ | with_reducible refine Ext.trans ?_ (by with_reducible assumption)))⟩
  all_goals (simp_all [cmpV, firstNZ, cmpB]; done)

end Go.Proofs.Ytblggajfdhjmjaa
