/-
  Verdict: how it lies; WALKS: eqVerdict, eqVerdictS, markVerdictS, heldVerdictS.
-/
import Derived.Test.YtmembjjgkideeaaMgEndSpl0
import Derived.Test.YtmembjjgkideeaaMgEndSpl2

namespace Go.Proofs.Ytmembjjgkideeaa
open Go.RowKit

def verdictO : RepO Verdict := flatO verdictR fun _ _ _ _ h => h
theorem Verdict.eta (x y : Verdict) : x = y ↔ x.a = y.a ∧ x.b = y.b ∧ x.same = y.same ∧ x.time = y.time := by
  cases x; cases y; simp
theorem Sl.verdict {w : World} {A : Option Addr} {n cap : Nat} {xs : List Verdict} (h : Sl verdictR w (.slice A n cap) xs) {i : Nat} (hi : i < xs.length) :
    ∃ b off, A = some ⟨b, off, none⟩ ∧ xs[i].ok ∧ w.cell? ⟨b, off + i * 4, none⟩ = some (.int .i64 xs[i].a) ∧ w.cell? ⟨b, off + i * 4 + 1, none⟩ = some (.int .i64 xs[i].b) ∧ w.cell? ⟨b, off + i * 4 + 2, none⟩ = some (.bool xs[i].same) ∧ w.cell? ⟨b, off + i * 4 + 3, none⟩ = some (.int .i64 xs[i].time) := by
  obtain ⟨b, off, cs, rfl, ⟨rfl, hok⟩, hc⟩ := h.at_ hi
  exact ⟨b, off, rfl, hok, by simpa [verdictR, Verdict.cells] using hc 0 (by simp [verdictR]), by simpa [verdictR, Verdict.cells] using hc 1 (by simp [verdictR]), by simpa [verdictR, Verdict.cells] using hc 2 (by simp [verdictR]), by simpa [verdictR, Verdict.cells] using hc 3 (by simp [verdictR])⟩
theorem OwnSl.verdict_set0 {w : World} {g off n cap : Nat} {xs : List Verdict} {F : List Nat} (h : OwnSl verdictO w (.slice (some ⟨g, off, none⟩) n cap) xs F) (hN : F.Nodup) {i : Nat} (hi : i < xs.length) (u : Int) (hu : I64 u) :
    OwnSl verdictO (w.setCell ⟨g, off + i * 4, none⟩ (.int .i64 u)) (.slice (some ⟨g, off, none⟩) n cap) (xs.set i { xs[i] with a := u }) F ∧ w.cell? ⟨g, off + i * 4, none⟩ = some (.int .i64 xs[i].a) ∧ w.frozen? ⟨g, off + i * 4, none⟩ = false ∧ g ∈ F := by
  obtain ⟨g', off', cap', c, F1, e, hg, _, _, _, ⟨⟨rfl, hok⟩, rfl⟩, _, hc, hf, _, hst⟩ := h.elem hN hi
  injection e with e1 e2 e3
  injection e1 with e1
  injection e1 with e1 e4 _
  subst e1; subst e4
  have h1 : verdictO.n = 4 := rfl
  rw [h1] at hc hst
  refine ⟨?_, by have q := hc 0 (by omega); exact q, hf _, hg⟩
  exact hst 0 (.int .i64 u) { xs[i] with a := u } (by omega) ⟨⟨rfl, ⟨hu, hok.2.1, hok.2.2⟩⟩, rfl⟩
theorem OwnSl.verdict_set1 {w : World} {g off n cap : Nat} {xs : List Verdict} {F : List Nat} (h : OwnSl verdictO w (.slice (some ⟨g, off, none⟩) n cap) xs F) (hN : F.Nodup) {i : Nat} (hi : i < xs.length) (u : Int) (hu : I64 u) :
    OwnSl verdictO (w.setCell ⟨g, off + i * 4 + 1, none⟩ (.int .i64 u)) (.slice (some ⟨g, off, none⟩) n cap) (xs.set i { xs[i] with b := u }) F ∧ w.cell? ⟨g, off + i * 4 + 1, none⟩ = some (.int .i64 xs[i].b) ∧ w.frozen? ⟨g, off + i * 4 + 1, none⟩ = false ∧ g ∈ F := by
  obtain ⟨g', off', cap', c, F1, e, hg, _, _, _, ⟨⟨rfl, hok⟩, rfl⟩, _, hc, hf, _, hst⟩ := h.elem hN hi
  injection e with e1 e2 e3
  injection e1 with e1
  injection e1 with e1 e4 _
  subst e1; subst e4
  have h1 : verdictO.n = 4 := rfl
  rw [h1] at hc hst
  refine ⟨?_, by have q := hc 1 (by omega); exact q, hf _, hg⟩
  exact hst 1 (.int .i64 u) { xs[i] with b := u } (by omega) ⟨⟨rfl, ⟨hok.1, hu, hok.2.2⟩⟩, rfl⟩
theorem OwnSl.verdict_set2 {w : World} {g off n cap : Nat} {xs : List Verdict} {F : List Nat} (h : OwnSl verdictO w (.slice (some ⟨g, off, none⟩) n cap) xs F) (hN : F.Nodup) {i : Nat} (hi : i < xs.length) (u : Bool)  :
    OwnSl verdictO (w.setCell ⟨g, off + i * 4 + 2, none⟩ (.bool u)) (.slice (some ⟨g, off, none⟩) n cap) (xs.set i { xs[i] with same := u }) F ∧ w.cell? ⟨g, off + i * 4 + 2, none⟩ = some (.bool xs[i].same) ∧ w.frozen? ⟨g, off + i * 4 + 2, none⟩ = false ∧ g ∈ F := by
  obtain ⟨g', off', cap', c, F1, e, hg, _, _, _, ⟨⟨rfl, hok⟩, rfl⟩, _, hc, hf, _, hst⟩ := h.elem hN hi
  injection e with e1 e2 e3
  injection e1 with e1
  injection e1 with e1 e4 _
  subst e1; subst e4
  have h1 : verdictO.n = 4 := rfl
  rw [h1] at hc hst
  refine ⟨?_, by have q := hc 2 (by omega); exact q, hf _, hg⟩
  exact hst 2 (.bool u) { xs[i] with same := u } (by omega) ⟨⟨rfl, ⟨hok.1, hok.2.1, hok.2.2⟩⟩, rfl⟩
theorem OwnSl.verdict_set3 {w : World} {g off n cap : Nat} {xs : List Verdict} {F : List Nat} (h : OwnSl verdictO w (.slice (some ⟨g, off, none⟩) n cap) xs F) (hN : F.Nodup) {i : Nat} (hi : i < xs.length) (u : Int) (hu : I64 u) :
    OwnSl verdictO (w.setCell ⟨g, off + i * 4 + 3, none⟩ (.int .i64 u)) (.slice (some ⟨g, off, none⟩) n cap) (xs.set i { xs[i] with time := u }) F ∧ w.cell? ⟨g, off + i * 4 + 3, none⟩ = some (.int .i64 xs[i].time) ∧ w.frozen? ⟨g, off + i * 4 + 3, none⟩ = false ∧ g ∈ F := by
  obtain ⟨g', off', cap', c, F1, e, hg, _, _, _, ⟨⟨rfl, hok⟩, rfl⟩, _, hc, hf, _, hst⟩ := h.elem hN hi
  injection e with e1 e2 e3
  injection e1 with e1
  injection e1 with e1 e4 _
  subst e1; subst e4
  have h1 : verdictO.n = 4 := rfl
  rw [h1] at hc hst
  refine ⟨?_, by have q := hc 3 (by omega); exact q, hf _, hg⟩
  exact hst 3 (.int .i64 u) { xs[i] with time := u } (by omega) ⟨⟨rfl, ⟨hok.1, hok.2.1, hu⟩⟩, rfl⟩

set_option maxHeartbeats 400000 in
theorem eqVerdict_c (x y : Verdict) (w : World) :
    Calls Try.prog 38 #[.agg #[.int .i64 x.a, .int .i64 x.b, .bool x.same, .int .i64 x.time], .agg #[.int .i64 y.a, .int .i64 y.b, .bool y.same, .int .i64 y.time]] w fun e w2 => e = .returned (.bool (eqB x y)) ∧ Ext w w2 := by
  by_cases h0 : x.a = y.a
  · have b0 : (x.a != y.a) = false := by simp [h0]
    have H0 := hid h0
    clear h0
    by_cases h1 : x.b = y.b
    · have b1 : (x.b != y.b) = false := by simp [h1]
      have H1 := hid h1
      clear h1
      by_cases h2 : x.same = y.same
      · have b2 : (x.same == y.same) = true := by simp [h2]
        have H2 := hid h2
        clear h2
        by_cases h3 : x.time = y.time
        · have b3 : (x.time != y.time) = false := by simp [h3]
          have H3 := hid h3
          clear h3
          go_enter Try.func38, Try.ntmps38
          go_wp2
          go_ret
          exact ⟨ret_bool (eqB_true ((Verdict.eta x y).2 ⟨H0.out, H1.out, H2.out, H3.out⟩)).symm, (by repeat (first | with_reducible exact Ext.refl _ | with_reducible assumption | with_reducible refine Ext.drew ?_ | with_reducible refine Ext.alloc ?_ _ | with_reducible refine Ext.trans ?_ (by with_reducible assumption)))⟩
        · have b3 : (x.time != y.time) = true := by simp [h3]
          have H3 := hid h3
          clear h3
          go_enter Try.func38, Try.ntmps38
          go_wp2
          go_ret
          exact ⟨ret_bool (eqB_false fun e => H3.out (by rw [e])).symm, (by repeat (first | with_reducible exact Ext.refl _ | with_reducible assumption | with_reducible refine Ext.drew ?_ | with_reducible refine Ext.alloc ?_ _ | with_reducible refine Ext.trans ?_ (by with_reducible assumption)))⟩
      · have b2 : (x.same == y.same) = false := by simp [h2]
        have H2 := hid h2
        clear h2
        go_enter Try.func38, Try.ntmps38
        go_wp2
        go_ret
        exact ⟨ret_bool (eqB_false fun e => H2.out (by rw [e])).symm, (by repeat (first | with_reducible exact Ext.refl _ | with_reducible assumption | with_reducible refine Ext.drew ?_ | with_reducible refine Ext.alloc ?_ _ | with_reducible refine Ext.trans ?_ (by with_reducible assumption)))⟩
    · have b1 : (x.b != y.b) = true := by simp [h1]
      have H1 := hid h1
      clear h1
      go_enter Try.func38, Try.ntmps38
      go_wp2
      go_ret
      exact ⟨ret_bool (eqB_false fun e => H1.out (by rw [e])).symm, (by repeat (first | with_reducible exact Ext.refl _ | with_reducible assumption | with_reducible refine Ext.drew ?_ | with_reducible refine Ext.alloc ?_ _ | with_reducible refine Ext.trans ?_ (by with_reducible assumption)))⟩
  · have b0 : (x.a != y.a) = true := by simp [h0]
    have H0 := hid h0
    clear h0
    go_enter Try.func38, Try.ntmps38
    go_wp2
    go_ret
    exact ⟨ret_bool (eqB_false fun e => H0.out (by rw [e])).symm, (by repeat (first | with_reducible exact Ext.refl _ | with_reducible assumption | with_reducible refine Ext.drew ?_ | with_reducible refine Ext.alloc ?_ _ | with_reducible refine Ext.trans ?_ (by with_reducible assumption)))⟩

set_option maxHeartbeats 400000 in
theorem eqVerdictS_c (v u : Value) (xs ys : List Verdict) (w : World) (h : Sl verdictR w v xs) (k : Sl verdictR w u ys) :
    Calls Try.prog 15 #[v, u] w fun e w2 => e = .returned (.bool (eqB xs ys)) ∧ Ext w w2 := by
  obtain ⟨A, cap, rfl, hm⟩ := h.form
  obtain ⟨B, cap2, rfl, hm2⟩ := k.form
  by_cases hl : xs.length = ys.length
  · have hl' : ((xs.length : Int) != (ys.length : Int)) = false := by simp [hl]
    have HL := hid hl
    clear hl
    go_enter Try.func15, Try.ntmps15
    go_wp2
    go_loopw [5] (fun i wr => ∃ k2 : Nat, k2 ≤ xs.length ∧ i = .int .i64 k2 ∧ xs.take k2 = ys.take k2 ∧ Ext w wr) (fun i _ => xs.length - (intOf i).toNat)
    case atStart => exact ⟨0, Nat.zero_le _, rfl, by simp, Ext.refl _⟩
    case round =>
      obtain ⟨k2, hk, rfl, he, hx⟩ := hrel
      have HE := hid he
      clear he
      by_cases hlt : k2 < xs.length
      · have hlt2 : k2 < ys.length := by have := HL.out; omega
        obtain ⟨b, off, rfl, hok, hc0, hc1, hc2, hc3⟩ := (h.mono hx).verdict hlt
        obtain ⟨b2, off2, rfl, hok2, hd0, hd1, hd2, hd3⟩ := (k.mono hx).verdict hlt2
        have hcz0 : ∀ z : ExtOf wr, z.1.cell? ⟨b, off + k2 * 4, none⟩ = _ := fun z => z.2.cell hc0
        have hdz0 : ∀ z : ExtOf wr, z.1.cell? ⟨b2, off2 + k2 * 4, none⟩ = _ := fun z => z.2.cell hd0
        have hcz1 : ∀ z : ExtOf wr, z.1.cell? ⟨b, off + k2 * 4 + 1, none⟩ = _ := fun z => z.2.cell hc1
        have hdz1 : ∀ z : ExtOf wr, z.1.cell? ⟨b2, off2 + k2 * 4 + 1, none⟩ = _ := fun z => z.2.cell hd1
        have hcz2 : ∀ z : ExtOf wr, z.1.cell? ⟨b, off + k2 * 4 + 2, none⟩ = _ := fun z => z.2.cell hc2
        have hdz2 : ∀ z : ExtOf wr, z.1.cell? ⟨b2, off2 + k2 * 4 + 2, none⟩ = _ := fun z => z.2.cell hd2
        have hcz3 : ∀ z : ExtOf wr, z.1.cell? ⟨b, off + k2 * 4 + 3, none⟩ = _ := fun z => z.2.cell hc3
        have hdz3 : ∀ z : ExtOf wr, z.1.cell? ⟨b2, off2 + k2 * 4 + 3, none⟩ = _ := fun z => z.2.cell hd3
        by_cases h0 : xs[k2] = ys[k2]
        · have H0 := hid h0
          clear h0
          go_wp2_with fail
          refine wp_region_ext (by kernel_rfl) (by kernel_rfl) ?_
          repeat (go_big_quiet_step (((go_at_call 38; exact quiet_ext (eqVerdict_c xs[k2] ys[k2] _)))))
          refine wpQuiet_nil ?_
          rintro w1 ⟨⟨_, x1⟩, rfl⟩
          rw [eqB_true H0.out]
          go_wp2
          go_roundw
          case rel => exact ⟨k2 + 1, by omega, by go_num, take_snoc_eq hlt hlt2 H0.out HE.out, hx.trans x1⟩
          case measure => simp [intOf]; omega
        · have H0 := hid h0
          clear h0
          go_wp2_with fail
          refine wp_region_ext (by kernel_rfl) (by kernel_rfl) ?_
          repeat (go_big_quiet_step (((go_at_call 38; exact quiet_ext (eqVerdict_c xs[k2] ys[k2] _)))))
          refine wpQuiet_nil ?_
          rintro w1 ⟨⟨_, x1⟩, rfl⟩
          rw [eqB_false H0.out]
          go_wp2
          go_ret
          exact ⟨ret_bool (eqB_false (ne_of_at hlt hlt2 H0.out)).symm, hx.trans x1⟩
      · go_wp2
        go_ret
        exact ⟨ret_bool (eqB_true (eq_of_take hlt HL.out HE.out)).symm, hx⟩
  · have hl' : ((xs.length : Int) != (ys.length : Int)) = true := by simp; omega
    go_enter Try.func15, Try.ntmps15
    go_wp2
    go_ret
    exact ⟨ret_bool (eqB_false fun e => hl (by rw [e])).symm, Ext.refl _⟩

def verdictMk : Mk Verdict := ⟨fun _ => 4, fun k _ y => y = ⟨k, k + 1, ((k + 2) % 3 == 0), k + 3⟩⟩
theorem verdictMk_sum (xs : List Verdict) : verdictMk.sum xs = 4 * xs.length := by
  unfold Mk.sum verdictMk
  induction xs with
  | nil => rfl
  | cons x xs ih => simp only [List.map_cons, List.sum_cons, List.length_cons, ih]; omega
theorem cntVerdictS_le (xs : List Verdict) : (lstMk verdictMk).cnt xs ≤ 4 * xs.length := Nat.le_of_eq (verdictMk_sum xs)

set_option maxHeartbeats 400000 in
set_option maxRecDepth 20000 in
theorem markVerdictS_c (v : Value) (xs : List Verdict) (F : List Nat) (k : Int) (w : World) (h : OwnSl verdictO w v xs F) (hN : F.Nodup) (h0 : 0 ≤ k) (hb : k + (lstMk verdictMk).cnt xs ≤ 1152921504606846976) :
    Calls Try.prog 16 #[v, .int .i64 k] w fun e w2 => ∃ ys, e = .returned (.int .i64 (k + ((lstMk verdictMk).cnt xs : Nat))) ∧ OwnSl verdictO w2 v ys F ∧ (lstMk verdictMk).is k xs ys ∧ Chg F w w2 := by
  have hcn : (lstMk verdictMk).cnt xs = 4 * xs.length := verdictMk_sum xs
  rw [hcn] at hb ⊢
  clear hcn
  obtain ⟨A, cap, rfl, hm⟩ := h.form
  go_enter Try.func16, Try.ntmps16
  go_wp2
  go_loopw [1, 5] (fun l i wr => ∃ (j : Nat) (ys : List Verdict), j ≤ xs.length ∧ i = .int .i64 j ∧ l = .int .i64 (k + 4 * (j : Int)) ∧ OwnSl verdictO wr (.slice A xs.length cap) ys F ∧ Part verdictMk k xs ys j ∧ Chg F w wr) (fun _ i _ => xs.length - (intOf i).toNat)
  case atStart => exact ⟨0, xs, Nat.zero_le _, rfl, by simp, h, .zero _ _ _, .refl _ _⟩
  case round =>
    obtain ⟨j, ys, hj, rfl, rfl, ho, hp, hc⟩ := hrel
    by_cases hlt : j < xs.length
    · obtain ⟨hy, _⟩ := hp.at_ hlt
      obtain ⟨g, off, cap2, _, _, e, hg, _⟩ := ho.elem hN hy
      injection e with e1 e2 e3
      subst e1
      clear e2 e3
      have s0 := ho.verdict_set0 hN hy (k + 4 * (j : Int)) (by unfold I64; omega)
      obtain ⟨p0, q0, r0, hg0⟩ := s0
      have s1 := p0.verdict_set1 hN (by rw [List.length_set]; exact hy) (k + 4 * (j : Int) + 1) (by unfold I64; omega)
      obtain ⟨p1, q1, r1, hg1⟩ := s1
      have s2 := p1.verdict_set2 hN (by rw [List.length_set, List.length_set]; exact hy) (((k + 4 * (j : Int) + 1 + 1) % 3 == 0))
      obtain ⟨p2, q2, r2, hg2⟩ := s2
      have s3 := p2.verdict_set3 hN (by rw [List.length_set, List.length_set, List.length_set]; exact hy) (k + 4 * (j : Int) + 1 + 1 + 1) (by unfold I64; omega)
      obtain ⟨p3, q3, r3, hg3⟩ := s3
      have HS := hid p3
      clear p0 p1 p2 p3
      go_wp2
      go_roundw
      case rel =>
        refine ⟨j + 1, ys.set j ⟨k + 4 * (j : Int), k + 4 * (j : Int) + 1, ((k + 4 * (j : Int) + 2) % 3 == 0), k + 4 * (j : Int) + 3⟩, by omega, by go_num, by go_num, ?_, hp.step hlt ?_, (((hc.setCell hg _).setCell hg _).setCell hg _).setCell hg _⟩
        · have := HS.out
          simpa [List.set_set, List.getElem_set_self, Int.add_assoc] using this
        · show _ = _
          rw [verdictMk_sum, List.length_take, Nat.min_eq_left (by omega)]
          simp
      case measure => simp [intOf]; omega
    · go_wp2
      go_ret
      exact ⟨ys, ret_int (by omega), ho, hp.all hlt, hc⟩

set_option maxHeartbeats 400000 in
set_option maxRecDepth 20000 in
theorem heldVerdictS_c (v : Value) (xs ys : List Verdict) (k : Int) (w : World) (h : Sl verdictR w v ys) (hi : (lstMk verdictMk).is k xs ys) (h0 : 0 ≤ k) (hb : k + (lstMk verdictMk).cnt xs ≤ 1152921504606846976) :
    Calls Try.prog 17 #[v, .int .i64 k] w fun e w2 => e = .returned (.int .i64 (k + ((lstMk verdictMk).cnt xs : Nat))) ∧ w = w2 := by
  have hcn : (lstMk verdictMk).cnt xs = 4 * xs.length := verdictMk_sum xs
  rw [hcn] at hb ⊢
  clear hcn
  have hl := hi.1
  obtain ⟨A, cap, rfl, hm⟩ := h.form
  go_enter Try.func17, Try.ntmps17
  go_wp2
  go_loop [1, 5] (fun l i => ∃ j : Nat, j ≤ ys.length ∧ i = .int .i64 j ∧ l = .int .i64 (k + 4 * (j : Int))) (fun _ i => ys.length - (intOf i).toNat)
  case atStart => exact ⟨0, Nat.zero_le _, rfl, by simp⟩
  case round =>
    obtain ⟨j, hj, rfl, rfl⟩ := hrel
    by_cases hlt : j < ys.length
    · obtain ⟨b, off, rfl, hok, hc0, hc1, hc2, hc3⟩ := h.verdict hlt
      have hv := hi.2 j (by omega) hlt
      have hv2 : ys[j] = ⟨k + 4 * (j : Int), k + 4 * (j : Int) + 1, ((k + 4 * (j : Int) + 1 + 1) % 3 == 0), k + 4 * (j : Int) + 1 + 1 + 1⟩ := by
        have e : ys[j] = (fun k : Int => (⟨k, k + 1, ((k + 2) % 3 == 0), k + 3⟩ : Verdict)) (k + (verdictMk.sum (xs.take j) : Nat)) := hv
        rw [e, verdictMk_sum, List.length_take, Nat.min_eq_left (by omega)]
        simp [Int.add_assoc]
      rw [hv2] at hc0 hc1 hc2 hc3
      clear hv2 hv hok
      go_wp2
      go_round
      case rel => exact ⟨j + 1, by omega, by go_num, by go_num⟩
      case measure => simp [intOf]; omega
    · go_wp2
      go_ret
      exact ⟨ret_int (by omega), rfl⟩

end Go.Proofs.Ytmembjjgkideeaa
