/-
  Verdict: how it lies; WALKS: eqVerdict, eqVerdictS, markVerdictS, heldVerdictS.
-/
import Derived.Test.YtddjefbdekinbaaGreatDoorMgEndFnGol0
import Derived.Test.YtddjefbdekinbaaGreatDoorMgEndFnGol4

namespace Go.Proofs.YtddjefbdekinbaaGreatDoor
open Go.RowKit

def verdictO : RepO Verdict := flatO verdictR fun _ _ _ _ h => h
theorem Verdict.eta (x y : Verdict) : x = y ↔ x.a = y.a ∧ x.b = y.b ∧ x.same = y.same ∧ x.time = y.time := by
  cases x; cases y; simp
theorem Sl.verdict {w : World} {A : Option Addr} {n cap : Nat} {xs : List Verdict} (h : Sl verdictR w (.slice A n cap) xs) {i : Nat} (hi : i < xs.length) :
    ∃ b off, A = some ⟨b, off, none⟩ ∧ xs[i].ok ∧ w.cell? ⟨b, off + i * 4, none⟩ = some (.int .i64 xs[i].a) ∧ w.cell? ⟨b, off + i * 4 + 1, none⟩ = some (.int .i64 xs[i].b) ∧ w.cell? ⟨b, off + i * 4 + 2, none⟩ = some (.bool xs[i].same) ∧ w.cell? ⟨b, off + i * 4 + 3, none⟩ = some (.int .i64 xs[i].time) := by
  obtain ⟨b, off, cs, rfl, ⟨rfl, hok⟩, hc⟩ := h.at_ hi
  exact ⟨b, off, rfl, hok, by simpa [verdictR, Verdict.cells] using hc 0 (by simp [verdictR]), by simpa [verdictR, Verdict.cells] using hc 1 (by simp [verdictR]), by simpa [verdictR, Verdict.cells] using hc 2 (by simp [verdictR]), by simpa [verdictR, Verdict.cells] using hc 3 (by simp [verdictR])⟩
theorem OwnSl.verdict_set0 {w : World} {g off n cap : Nat} {xs : List Verdict} {F : List Nat} (h : OwnSl verdictO w (.slice (some ⟨g, off, none⟩) n cap) xs F) (hN : F.Nodup) {i : Nat} (hi : i < xs.length) (u : Int) (hu : I64 u) :
    OwnSl verdictO (w.setCell ⟨g, off + i * 4, none⟩ (.int .i64 u)) (.slice (some ⟨g, off, none⟩) n cap) (xs.set i { xs[i] with a := u }) F ∧ w.cell? ⟨g, off + i * 4, none⟩ = some (.int .i64 xs[i].a) ∧ w.frozen? ⟨g, off + i * 4, none⟩ = false ∧ g ∈ F := by
  obtain ⟨g', off', cap', c, F1, e, hg, _, _, _, ⟨⟨rfl, hok⟩, rfl⟩, _, hc, hf, _, hst⟩ := h.elem hN hi
  injection e with e1 e2 e3
  injection e1 with e1
  injection e1 with e1 e4 _
  subst e1; subst e4
  have h1 : verdictO.n = 4 := rfl
  rw [h1] at hc hst
  refine ⟨?_, by have q := hc 0 (by omega); exact q, hf _, hg⟩
  exact hst 0 (.int .i64 u) { xs[i] with a := u } (by omega) ⟨⟨rfl, ⟨hu, hok.2.1, hok.2.2⟩⟩, rfl⟩
theorem OwnSl.verdict_set1 {w : World} {g off n cap : Nat} {xs : List Verdict} {F : List Nat} (h : OwnSl verdictO w (.slice (some ⟨g, off, none⟩) n cap) xs F) (hN : F.Nodup) {i : Nat} (hi : i < xs.length) (u : Int) (hu : I64 u) :
    OwnSl verdictO (w.setCell ⟨g, off + i * 4 + 1, none⟩ (.int .i64 u)) (.slice (some ⟨g, off, none⟩) n cap) (xs.set i { xs[i] with b := u }) F ∧ w.cell? ⟨g, off + i * 4 + 1, none⟩ = some (.int .i64 xs[i].b) ∧ w.frozen? ⟨g, off + i * 4 + 1, none⟩ = false ∧ g ∈ F := by
  obtain ⟨g', off', cap', c, F1, e, hg, _, _, _, ⟨⟨rfl, hok⟩, rfl⟩, _, hc, hf, _, hst⟩ := h.elem hN hi
  injection e with e1 e2 e3
  injection e1 with e1
  injection e1 with e1 e4 _
  subst e1; subst e4
  have h1 : verdictO.n = 4 := rfl
  rw [h1] at hc hst
  refine ⟨?_, by have q := hc 1 (by omega); exact q, hf _, hg⟩
  exact hst 1 (.int .i64 u) { xs[i] with b := u } (by omega) ⟨⟨rfl, ⟨hok.1, hu, hok.2.2⟩⟩, rfl⟩
theorem OwnSl.verdict_set2 {w : World} {g off n cap : Nat} {xs : List Verdict} {F : List Nat} (h : OwnSl verdictO w (.slice (some ⟨g, off, none⟩) n cap) xs F) (hN : F.Nodup) {i : Nat} (hi : i < xs.length) (u : Bool)  :
    OwnSl verdictO (w.setCell ⟨g, off + i * 4 + 2, none⟩ (.bool u)) (.slice (some ⟨g, off, none⟩) n cap) (xs.set i { xs[i] with same := u }) F ∧ w.cell? ⟨g, off + i * 4 + 2, none⟩ = some (.bool xs[i].same) ∧ w.frozen? ⟨g, off + i * 4 + 2, none⟩ = false ∧ g ∈ F := by
  obtain ⟨g', off', cap', c, F1, e, hg, _, _, _, ⟨⟨rfl, hok⟩, rfl⟩, _, hc, hf, _, hst⟩ := h.elem hN hi
  injection e with e1 e2 e3
  injection e1 with e1
  injection e1 with e1 e4 _
  subst e1; subst e4
  have h1 : verdictO.n = 4 := rfl
  rw [h1] at hc hst
  refine ⟨?_, by have q := hc 2 (by omega); exact q, hf _, hg⟩
  exact hst 2 (.bool u) { xs[i] with same := u } (by omega) ⟨⟨rfl, ⟨hok.1, hok.2.1, hok.2.2⟩⟩, rfl⟩
theorem OwnSl.verdict_set3 {w : World} {g off n cap : Nat} {xs : List Verdict} {F : List Nat} (h : OwnSl verdictO w (.slice (some ⟨g, off, none⟩) n cap) xs F) (hN : F.Nodup) {i : Nat} (hi : i < xs.length) (u : Int) (hu : I64 u) :
    OwnSl verdictO (w.setCell ⟨g, off + i * 4 + 3, none⟩ (.int .i64 u)) (.slice (some ⟨g, off, none⟩) n cap) (xs.set i { xs[i] with time := u }) F ∧ w.cell? ⟨g, off + i * 4 + 3, none⟩ = some (.int .i64 xs[i].time) ∧ w.frozen? ⟨g, off + i * 4 + 3, none⟩ = false ∧ g ∈ F := by
  obtain ⟨g', off', cap', c, F1, e, hg, _, _, _, ⟨⟨rfl, hok⟩, rfl⟩, _, hc, hf, _, hst⟩ := h.elem hN hi
  injection e with e1 e2 e3
  injection e1 with e1
  injection e1 with e1 e4 _
  subst e1; subst e4
  have h1 : verdictO.n = 4 := rfl
  rw [h1] at hc hst
  refine ⟨?_, by have q := hc 3 (by omega); exact q, hf _, hg⟩
  exact hst 3 (.int .i64 u) { xs[i] with time := u } (by omega) ⟨⟨rfl, ⟨hok.1, hok.2.1, hu⟩⟩, rfl⟩

def verdictMk : Mk Verdict := ⟨fun _ => 4, fun k _ y => y = ⟨k, k + 1, ((k + 2) % 3 == 0), k + 3⟩⟩
theorem verdictMk_sum (xs : List Verdict) : verdictMk.sum xs = 4 * xs.length := by
  unfold Mk.sum verdictMk
  induction xs with
  | nil => rfl
  | cons x xs ih => simp only [List.map_cons, List.sum_cons, List.length_cons, ih]; omega
theorem cntVerdictS_le (xs : List Verdict) : (lstMk verdictMk).cnt xs ≤ 4 * xs.length := Nat.le_of_eq (verdictMk_sum xs)

end Go.Proofs.YtddjefbdekinbaaGreatDoor
