/-
  PLAIN LAWS: the order of verdicts; where a verdict belongs in an ascending list; what AddVerdict and RemoveVerdict answer.
-/
import Derived.Test.YtblggajfdhjmjaaVers
import Derived.Test.YtblggajfdhjmjaaIdxV
namespace Go.Proofs.Ytblggajfdhjmjaa
open Go.RowKit

def vlt (x y : Verdict) : Prop := x.a < y.a ∨ x.a = y.a ∧ (x.b < y.b ∨ x.b = y.b ∧ (x.time < y.time ∨ x.time = y.time ∧ x.same = false ∧ y.same = true))
theorem cmpI_cases (a b : Int) : (a < b ∧ cmpI a b = -1) ∨ (a = b ∧ cmpI a b = 0) ∨ (b < a ∧ cmpI a b = 1) := by
  unfold cmpI
  by_cases h : a < b
  · rw [if_pos h]; exact .inl ⟨h, rfl⟩
  · rw [if_neg h]
    by_cases k : b < a
    · rw [if_pos k]; exact .inr (.inr ⟨k, rfl⟩)
    · rw [if_neg k]; exact .inr (.inl ⟨by omega, rfl⟩)
theorem cmpV_cases (x y : Verdict) : (vlt x y ∧ cmpV x y = -1) ∨ (x = y ∧ cmpV x y = 0) ∨ (vlt y x ∧ cmpV x y = 1) := by
  unfold cmpV vlt
  have e : firstNZ [cmpI x.a y.a, cmpI x.b y.b, cmpI x.time y.time, cmpB x.same y.same] = if cmpI x.a y.a = 0 then if cmpI x.b y.b = 0 then if cmpI x.time y.time = 0 then cmpB x.same y.same else cmpI x.time y.time else cmpI x.b y.b else cmpI x.a y.a := by
    simp only [firstNZ]
    by_cases h1 : cmpI x.a y.a = 0 <;> by_cases h2 : cmpI x.b y.b = 0 <;> by_cases h3 : cmpI x.time y.time = 0 <;> by_cases h4 : cmpB x.same y.same = 0 <;> simp [h1, h2, h3, h4]
  rw [e]
  rcases cmpI_cases x.a y.a with ⟨h1, k1⟩ | ⟨h1, k1⟩ | ⟨h1, k1⟩
  · left; rw [k1]; exact ⟨.inl h1, rfl⟩
  · rw [k1, if_pos rfl]
    rcases cmpI_cases x.b y.b with ⟨h2, k2⟩ | ⟨h2, k2⟩ | ⟨h2, k2⟩
    · left; rw [k2]; exact ⟨.inr ⟨h1, .inl h2⟩, rfl⟩
    · rw [k2, if_pos rfl]
      rcases cmpI_cases x.time y.time with ⟨h3, k3⟩ | ⟨h3, k3⟩ | ⟨h3, k3⟩
      · left; rw [k3]; exact ⟨.inr ⟨h1, .inr ⟨h2, .inl h3⟩⟩, rfl⟩
      · rw [k3, if_pos rfl]
        obtain ⟨xa, xb, xs, xt⟩ := x
        obtain ⟨ya, yb, ys, yt⟩ := y
        simp only at h1 h2 h3 ⊢
        subst h1; subst h2; subst h3
        cases xs <;> cases ys <;> simp [cmpB]
      · right; right; rw [k3]; exact ⟨.inr ⟨h1.symm, .inr ⟨h2.symm, .inl h3⟩⟩, rfl⟩
    · right; right; rw [k2]; exact ⟨.inr ⟨h1.symm, .inl h2⟩, rfl⟩
  · right; right; rw [k1]; exact ⟨.inl h1, rfl⟩
theorem vlt_irr (x : Verdict) : ¬ vlt x x := by
  unfold vlt
  cases x.same <;> simp
theorem vlt_trans {x y z : Verdict} (h : vlt x y) (k : vlt y z) : vlt x z := by
  unfold vlt at *
  rcases h with h | ⟨h1, h | ⟨h2, h | ⟨h3, h4, h5⟩⟩⟩ <;> rcases k with k | ⟨k1, k | ⟨k2, k | ⟨k3, k4, k5⟩⟩⟩
  all_goals first
    | (left; omega)
    | (right; refine ⟨by omega, ?_⟩; left; omega)
    | (right; refine ⟨by omega, ?_⟩; right; refine ⟨by omega, ?_⟩; left; omega)
    | (rw [h5] at k4; cases k4)
theorem cmpV_lt {x y : Verdict} : cmpV x y < 0 ↔ vlt x y := by
  rcases cmpV_cases x y with ⟨h, k⟩ | ⟨h, k⟩ | ⟨h, k⟩
  · rw [k]; exact ⟨fun _ => h, fun _ => by decide⟩
  · rw [k, h]; exact ⟨fun e => by omega, fun e => absurd e (vlt_irr _)⟩
  · rw [k]; exact ⟨fun e => by omega, fun e => absurd (vlt_trans e h) (vlt_irr _)⟩
theorem cmpV_zero {x y : Verdict} : cmpV x y = 0 ↔ x = y := by
  rcases cmpV_cases x y with ⟨h, k⟩ | ⟨h, k⟩ | ⟨h, k⟩
  · rw [k]; exact ⟨fun e => by omega, fun e => absurd (e ▸ h) (vlt_irr _)⟩
  · exact ⟨fun _ => h, fun _ => k⟩
  · rw [k]; exact ⟨fun e => by omega, fun e => absurd (e ▸ h) (vlt_irr _)⟩
theorem vlt_tri (x y : Verdict) : vlt x y ∨ x = y ∨ vlt y x := by
  rcases cmpV_cases x y with ⟨h, k⟩ | ⟨h, k⟩ | ⟨h, k⟩
  · exact .inl h
  · exact .inr (.inl h)
  · exact .inr (.inr h)
/-- ascending -/
def Asc (xs : List Verdict) : Prop := ∀ i j (hi : i < xs.length) (hj : j < xs.length), i < j → vlt xs[i] xs[j]
theorem areVers_asc {xs : List Verdict} (h : areVers xs = true) : Asc xs ∧ (∀ x ∈ xs, okV x = true) ∧ xs.length ≤ 8 := by
  unfold areVers at h
  rw [Bool.and_eq_true, decide_eq_true_eq] at h
  have hv : ∀ k (hk : k < xs.length), (okV xs[k] && (k == 0 || decide (cmpV (vAt xs (k - 1)) xs[k] < 0))) = true := fun k hk => by
    rw [← verAt_eq hk]
    exact List.all_eq_true.1 h.1 k (List.mem_range.2 hk)
  refine ⟨?_, fun x hx => ?_, h.2⟩
  · have step : ∀ k (hk : k + 1 < xs.length), vlt xs[k] xs[k + 1] := fun k hk => by
      have h1 := hv (k + 1) hk
      rw [Bool.and_eq_true, Bool.or_eq_true, decide_eq_true_eq] at h1
      rcases h1.2 with h2 | h2
      · simp at h2
      · have e : vAt xs (k + 1 - 1) = xs[k] := vAt_at (by omega)
        rw [e] at h2
        exact cmpV_lt.1 h2
    intro i j hi hj hij
    induction j with
    | zero => omega
    | succ j ih =>
      by_cases e : i = j
      · subst e; exact step i hj
      · exact vlt_trans (ih (by omega) (by omega)) (step j hj)
  · obtain ⟨k, hk, rfl⟩ := List.getElem_of_mem hx
    have h1 := hv k hk
    rw [Bool.and_eq_true] at h1
    exact h1.1
theorem asc_areVers {xs : List Verdict} (h : Asc xs) (h2 : ∀ x ∈ xs, okV x = true) (h3 : xs.length ≤ 8) : areVers xs = true := by
  unfold areVers
  rw [Bool.and_eq_true, decide_eq_true_eq]
  refine ⟨List.all_eq_true.2 fun k hk => ?_, h3⟩
  have hk := List.mem_range.1 hk
  rw [verAt_eq hk, Bool.and_eq_true]
  refine ⟨h2 _ (List.getElem_mem hk), ?_⟩
  rw [Bool.or_eq_true, decide_eq_true_eq]
  cases k with
  | zero => left; rfl
  | succ k =>
    right
    have e : vAt xs (k + 1 - 1) = xs[k] := vAt_at (by omega)
    rw [e]
    exact cmpV_lt.2 (h k (k + 1) (by omega) hk (by omega))
/-- how many stand ahead of v -/
def cntV (xs : List Verdict) (v : Verdict) : Nat := (xs.takeWhile fun x => decide (cmpV x v < 0)).length
theorem cntV_le (xs : List Verdict) (v : Verdict) : cntV xs v ≤ xs.length := by
  unfold cntV
  exact (List.takeWhile_prefix _).length_le
theorem cntV_lt {xs : List Verdict} {v : Verdict} {k : Nat} (hk : k < cntV xs v) (h : k < xs.length) : cmpV xs[k] v < 0 := by
  have hp : xs.takeWhile (fun x => decide (cmpV x v < 0)) <+: xs := List.takeWhile_prefix _
  have e := hp.getElem (i := k) hk
  have hm : (xs.takeWhile fun x => decide (cmpV x v < 0))[k]'hk ∈ xs.takeWhile fun x => decide (cmpV x v < 0) := List.getElem_mem hk
  have hall := List.all_takeWhile (p := fun x => decide (cmpV x v < 0)) (l := xs)
  have := List.all_eq_true.1 hall _ hm
  rw [decide_eq_true_eq, e] at this
  exact this
theorem cntV_at : ∀ {xs : List Verdict} {v : Verdict} (h : cntV xs v < xs.length), ¬ cmpV xs[cntV xs v] v < 0
  | x :: xs, v, h => by
    unfold cntV at h ⊢
    by_cases hx : cmpV x v < 0
    · simp only [List.takeWhile_cons, hx, decide_true, if_true, List.length_cons, List.getElem_cons_succ] at h ⊢
      exact cntV_at (xs := xs) (v := v) (by unfold cntV; omega)
    · simp only [List.takeWhile_cons, hx, decide_false, Bool.false_eq_true, if_false, List.length_nil, List.getElem_cons_zero]
      first | exact hx | exact fun h => h
theorem asc_side {xs : List Verdict} (h : Asc xs) {v : Verdict} {k : Nat} (hk : k < xs.length) : cmpV xs[k] v < 0 ↔ k < cntV xs v := by
  refine ⟨fun hc => ?_, fun hc => cntV_lt hc hk⟩
  apply Classical.byContradiction
  intro hn
  have hlt : cntV xs v < xs.length := by omega
  have h1 := cntV_at hlt
  apply h1
  by_cases e : cntV xs v = k
  · have : xs[cntV xs v] = xs[k] := by congr
    rw [this]; exact hc
  · exact cmpV_lt.2 (vlt_trans (h _ _ hlt hk (by omega)) (cmpV_lt.1 hc))
theorem asc_found {xs : List Verdict} (h : Asc xs) {v : Verdict} : v ∈ xs ↔ ∃ hk : cntV xs v < xs.length, cmpV (xs[cntV xs v]) v = 0 := by
  refine ⟨fun hm => ?_, fun ⟨hk, e⟩ => ?_⟩
  · obtain ⟨k, hk, e⟩ := List.getElem_of_mem hm
    have h1 : ¬ k < cntV xs v := fun hc => by
      have := (asc_side h hk).2 hc
      rw [e] at this
      have := cmpV_zero (x := v) (y := v) |>.2 rfl
      omega
    have hlt : cntV xs v < xs.length := by omega
    refine ⟨hlt, ?_⟩
    by_cases e2 : cntV xs v = k
    · have : xs[cntV xs v] = xs[k] := by congr
      rw [this, e]; exact cmpV_zero.2 rfl
    · have h2 := h _ _ hlt hk (by omega)
      rw [e] at h2
      exact absurd (cmpV_lt.2 h2) (cntV_at hlt)
  · have hm := List.getElem_mem (l := xs) hk
    rwa [cmpV_zero.1 e] at hm
/-- v at its place -/
def putV (xs : List Verdict) (v : Verdict) : List Verdict := xs.take (cntV xs v) ++ v :: xs.drop (cntV xs v)
end Go.Proofs.Ytblggajfdhjmjaa
