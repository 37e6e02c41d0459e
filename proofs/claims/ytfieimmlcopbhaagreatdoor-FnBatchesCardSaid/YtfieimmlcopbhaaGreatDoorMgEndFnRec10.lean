/-
  Verdict: how it lies; WALKS: eqVerdict, eqVerdictS, markVerdictS, heldVerdictS.
-/
import Derived.Test.YtfieimmlcopbhaaGreatDoorMgEndFnRec5
import Derived.Test.YtfieimmlcopbhaaGreatDoorMgEndFnRec2

namespace Go.Proofs.YtfieimmlcopbhaaGreatDoor
open Go.RowKit

def verdictO : RepO Verdict := flatO verdictR fun _ _ _ _ h => h
theorem Verdict.eta (x y : Verdict) : x = y ↔ x.a = y.a ∧ x.b = y.b ∧ x.same = y.same ∧ x.time = y.time := by
  cases x; cases y; simp
theorem Sl.verdict {w : World} {A : Option Addr} {n cap : Nat} {xs : List Verdict} (h : Sl verdictR w (.slice A n cap) xs) {i : Nat} (hi : i < xs.length) :
    ∃ b off, A = some ⟨b, off, none⟩ ∧ xs[i].ok ∧ w.cell? ⟨b, off + i * 4, none⟩ = some (.int .i64 xs[i].a) ∧ w.cell? ⟨b, off + i * 4 + 1, none⟩ = some (.int .i64 xs[i].b) ∧ w.cell? ⟨b, off + i * 4 + 2, none⟩ = some (.bool xs[i].same) ∧ w.cell? ⟨b, off + i * 4 + 3, none⟩ = some (.int .i64 xs[i].time) := by
  obtain ⟨b, off, cs, rfl, ⟨rfl, hok⟩, hc⟩ := h.at_ hi
  exact ⟨b, off, rfl, hok, by simpa [verdictR, Verdict.cells] using hc 0 (by simp [verdictR]), by simpa [verdictR, Verdict.cells] using hc 1 (by simp [verdictR]), by simpa [verdictR, Verdict.cells] using hc 2 (by simp [verdictR]), by simpa [verdictR, Verdict.cells] using hc 3 (by simp [verdictR])⟩
theorem OwnSl.verdict_set0 {w : World} {g off n cap : Nat} {xs : List Verdict} {F : List Nat} (h : OwnSl verdictO w (.slice (some ⟨g, off, none⟩) n cap) xs F) (hN : F.Nodup) {i : Nat} (hi : i < xs.length) (u : Int) (hu : I64 u) :
    OwnSl verdictO (w.setCell ⟨g, off + i * 4, none⟩ (.int .i64 u)) (.slice (some ⟨g, off, none⟩) n cap) (xs.set i { xs[i] with a := u }) F ∧ w.cell? ⟨g, off + i * 4, none⟩ = some (.int .i64 xs[i].a) ∧ w.frozen? ⟨g, off + i * 4, none⟩ = false ∧ g ∈ F := by
  obtain ⟨g', off', cap', c, F1, e, hg, _, _, _, ⟨⟨rfl, hok⟩, rfl⟩, _, hc, hf, _, hst⟩ := h.elem hN hi
  injection e with e1 e2 e3
  injection e1 with e1
  injection e1 with e1 e4 _
  subst e1; subst e4
  have h1 : verdictO.n = 4 := rfl
  rw [h1] at hc hst
  refine ⟨?_, by have q := hc 0 (by omega); exact q, hf _, hg⟩
  exact hst 0 (.int .i64 u) { xs[i] with a := u } (by omega) ⟨⟨rfl, ⟨hu, hok.2.1, hok.2.2⟩⟩, rfl⟩
theorem OwnSl.verdict_set1 {w : World} {g off n cap : Nat} {xs : List Verdict} {F : List Nat} (h : OwnSl verdictO w (.slice (some ⟨g, off, none⟩) n cap) xs F) (hN : F.Nodup) {i : Nat} (hi : i < xs.length) (u : Int) (hu : I64 u) :
    OwnSl verdictO (w.setCell ⟨g, off + i * 4 + 1, none⟩ (.int .i64 u)) (.slice (some ⟨g, off, none⟩) n cap) (xs.set i { xs[i] with b := u }) F ∧ w.cell? ⟨g, off + i * 4 + 1, none⟩ = some (.int .i64 xs[i].b) ∧ w.frozen? ⟨g, off + i * 4 + 1, none⟩ = false ∧ g ∈ F := by
  obtain ⟨g', off', cap', c, F1, e, hg, _, _, _, ⟨⟨rfl, hok⟩, rfl⟩, _, hc, hf, _, hst⟩ := h.elem hN hi
  injection e with e1 e2 e3
  injection e1 with e1
  injection e1 with e1 e4 _
  subst e1; subst e4
  have h1 : verdictO.n = 4 := rfl
  rw [h1] at hc hst
  refine ⟨?_, by have q := hc 1 (by omega); exact q, hf _, hg⟩
  exact hst 1 (.int .i64 u) { xs[i] with b := u } (by omega) ⟨⟨rfl, ⟨hok.1, hu, hok.2.2⟩⟩, rfl⟩
theorem OwnSl.verdict_set2 {w : World} {g off n cap : Nat} {xs : List Verdict} {F : List Nat} (h : OwnSl verdictO w (.slice (some ⟨g, off, none⟩) n cap) xs F) (hN : F.Nodup) {i : Nat} (hi : i < xs.length) (u : Bool)  :
    OwnSl verdictO (w.setCell ⟨g, off + i * 4 + 2, none⟩ (.bool u)) (.slice (some ⟨g, off, none⟩) n cap) (xs.set i { xs[i] with same := u }) F ∧ w.cell? ⟨g, off + i * 4 + 2, none⟩ = some (.bool xs[i].same) ∧ w.frozen? ⟨g, off + i * 4 + 2, none⟩ = false ∧ g ∈ F := by
  obtain ⟨g', off', cap', c, F1, e, hg, _, _, _, ⟨⟨rfl, hok⟩, rfl⟩, _, hc, hf, _, hst⟩ := h.elem hN hi
  injection e with e1 e2 e3
  injection e1 with e1
  injection e1 with e1 e4 _
  subst e1; subst e4
  have h1 : verdictO.n = 4 := rfl
  rw [h1] at hc hst
  refine ⟨?_, by have q := hc 2 (by omega); exact q, hf _, hg⟩
  exact hst 2 (.bool u) { xs[i] with same := u } (by omega) ⟨⟨rfl, ⟨hok.1, hok.2.1, hok.2.2⟩⟩, rfl⟩
theorem OwnSl.verdict_set3 {w : World} {g off n cap : Nat} {xs : List Verdict} {F : List Nat} (h : OwnSl verdictO w (.slice (some ⟨g, off, none⟩) n cap) xs F) (hN : F.Nodup) {i : Nat} (hi : i < xs.length) (u : Int) (hu : I64 u) :
    OwnSl verdictO (w.setCell ⟨g, off + i * 4 + 3, none⟩ (.int .i64 u)) (.slice (some ⟨g, off, none⟩) n cap) (xs.set i { xs[i] with time := u }) F ∧ w.cell? ⟨g, off + i * 4 + 3, none⟩ = some (.int .i64 xs[i].time) ∧ w.frozen? ⟨g, off + i * 4 + 3, none⟩ = false ∧ g ∈ F := by
  obtain ⟨g', off', cap', c, F1, e, hg, _, _, _, ⟨⟨rfl, hok⟩, rfl⟩, _, hc, hf, _, hst⟩ := h.elem hN hi
  injection e with e1 e2 e3
  injection e1 with e1
  injection e1 with e1 e4 _
  subst e1; subst e4
  have h1 : verdictO.n = 4 := rfl
  rw [h1] at hc hst
  refine ⟨?_, by have q := hc 3 (by omega); exact q, hf _, hg⟩
  exact hst 3 (.int .i64 u) { xs[i] with time := u } (by omega) ⟨⟨rfl, ⟨hok.1, hok.2.1, hu⟩⟩, rfl⟩

set_option maxHeartbeats 400000 in
theorem eqVerdict_c (x y : Verdict) (w : World) :
    Calls Tryz.prog 49 #[.agg #[.int .i64 x.a, .int .i64 x.b, .bool x.same, .int .i64 x.time], .agg #[.int .i64 y.a, .int .i64 y.b, .bool y.same, .int .i64 y.time]] w fun e w2 => e = .returned (.bool (eqB x y)) ∧ Ext w w2 := by
  by_cases h0 : x.a = y.a
  · have b0 : (x.a != y.a) = false := by simp [h0]
    have H0 := hid h0
    clear h0
    by_cases h1 : x.b = y.b
    · have b1 : (x.b != y.b) = false := by simp [h1]
      have H1 := hid h1
      clear h1
      by_cases h2 : x.same = y.same
      · have b2 : (x.same == y.same) = true := by simp [h2]
        have H2 := hid h2
        clear h2
        by_cases h3 : x.time = y.time
        · have b3 : (x.time != y.time) = false := by simp [h3]
          have H3 := hid h3
          clear h3
          go_enter Tryz.func49, Tryz.ntmps49
          go_wp2
          go_ret
          exact ⟨ret_bool (eqB_true ((Verdict.eta x y).2 ⟨H0.out, H1.out, H2.out, H3.out⟩)).symm, (by repeat (first | with_reducible exact Ext.refl _ | with_reducible assumption | with_reducible refine Ext.drew ?_ | with_reducible refine Ext.alloc ?_ _ | with_reducible refine Ext.trans ?_ (by with_reducible assumption)))⟩
        · have b3 : (x.time != y.time) = true := by simp [h3]
          have H3 := hid h3
          clear h3
          go_enter Tryz.func49, Tryz.ntmps49
          go_wp2
          go_ret
          exact ⟨ret_bool (eqB_false fun e => H3.out (by rw [e])).symm, (by repeat (first | with_reducible exact Ext.refl _ | with_reducible assumption | with_reducible refine Ext.drew ?_ | with_reducible refine Ext.alloc ?_ _ | with_reducible refine Ext.trans ?_ (by with_reducible assumption)))⟩
      · have b2 : (x.same == y.same) = false := by simp [h2]
        have H2 := hid h2
        clear h2
        go_enter Tryz.func49, Tryz.ntmps49
        go_wp2
        go_ret
        exact ⟨ret_bool (eqB_false fun e => H2.out (by rw [e])).symm, (by repeat (first | with_reducible exact Ext.refl _ | with_reducible assumption | with_reducible refine Ext.drew ?_ | with_reducible refine Ext.alloc ?_ _ | with_reducible refine Ext.trans ?_ (by with_reducible assumption)))⟩
    · have b1 : (x.b != y.b) = true := by simp [h1]
      have H1 := hid h1
      clear h1
      go_enter Tryz.func49, Tryz.ntmps49
      go_wp2
      go_ret
      exact ⟨ret_bool (eqB_false fun e => H1.out (by rw [e])).symm, (by repeat (first | with_reducible exact Ext.refl _ | with_reducible assumption | with_reducible refine Ext.drew ?_ | with_reducible refine Ext.alloc ?_ _ | with_reducible refine Ext.trans ?_ (by with_reducible assumption)))⟩
  · have b0 : (x.a != y.a) = true := by simp [h0]
    have H0 := hid h0
    clear h0
    go_enter Tryz.func49, Tryz.ntmps49
    go_wp2
    go_ret
    exact ⟨ret_bool (eqB_false fun e => H0.out (by rw [e])).symm, (by repeat (first | with_reducible exact Ext.refl _ | with_reducible assumption | with_reducible refine Ext.drew ?_ | with_reducible refine Ext.alloc ?_ _ | with_reducible refine Ext.trans ?_ (by with_reducible assumption)))⟩

def verdictMk : Mk Verdict := ⟨fun _ => 4, fun k _ y => y = ⟨k, k + 1, ((k + 2) % 3 == 0), k + 3⟩⟩
theorem verdictMk_sum (xs : List Verdict) : verdictMk.sum xs = 4 * xs.length := by
  unfold Mk.sum verdictMk
  induction xs with
  | nil => rfl
  | cons x xs ih => simp only [List.map_cons, List.sum_cons, List.length_cons, ih]; omega
theorem cntVerdictS_le (xs : List Verdict) : (lstMk verdictMk).cnt xs ≤ 4 * xs.length := Nat.le_of_eq (verdictMk_sum xs)

end Go.Proofs.YtfieimmlcopbhaaGreatDoor
