/-
  WALKS: RemoveVerdict (both).
-/
import Derived.Test.YtblggajfdhjmjaaDelV
import Derived.Test.YtblggajfdhjmjaaVerO
import Derived.Deep.RegionHeld3
namespace Go.Proofs.Ytblggajfdhjmjaa
open Go.RowKit

/-- what RemoveVerdict answers -/
noncomputable def rmV (xs : List Verdict) (x : Verdict) : List Verdict × Bool :=
  if areVers xs = true ∧ 0 ≤ idxV xs x then (xs.eraseIdx (idxV xs x).toNat, true) else (xs, false)
def VsOut (w : World) (e : Ending) (w2 : World) (r : List Verdict × Bool) : Prop := ∃ v2 F, e = .returned (.tuple #[v2, .bool r.2]) ∧ OwnSl verdictO w2 v2 r.1 F ∧ NewF w F ∧ Ext w w2
theorem rmV_cnt (x : List Verdict) (y : Verdict) (h : x.length ≤ 1048576) : (lstMk verdictMk).cnt (rmV x y).1 ≤ 4194304 := by
  refine Nat.le_trans (cntVerdictS_le _) ?_
  have : (rmV x y).1.length ≤ x.length := by
    unfold rmV
    split
    · rw [List.length_eraseIdx]; split <;> omega
    · exact Nat.le_refl _
  omega
theorem idxF_lt {α : Type} (p : α → Bool) : ∀ (xs : List α) (k : Nat), (idxF p k xs = -1 ∧ ∀ x ∈ xs, p x = false) ∨ ∃ j, j < xs.length ∧ idxF p k xs = ((k + j : Nat) : Int) ∧ ∃ h : j < xs.length, p xs[j] = true
  | [], k => .inl ⟨rfl, fun _ h => by cases h⟩
  | x :: xs, k => by
    by_cases hp : p x = true
    · exact .inr ⟨0, by simp, by simp [idxF, hp], by simp, by simpa using hp⟩
    · have hp' : p x = false := by simpa using hp
      rcases idxF_lt p xs (k + 1) with ⟨e, h⟩ | ⟨j, hj, e, hj2, h⟩
      · refine .inl ⟨by simp [idxF, hp', e], fun y hy => ?_⟩
        rcases List.mem_cons.1 hy with rfl | hy
        · exact hp'
        · exact h y hy
      · exact .inr ⟨j + 1, by simpa using hj, by simp only [idxF, hp', Bool.false_eq_true, if_false, e]; omega, by simpa using hj, by simpa using h⟩
theorem idxV_cases (xs : List Verdict) (x : Verdict) : (idxV xs x = -1 ∧ x ∉ xs) ∨ ∃ j, ∃ hj : j < xs.length, idxV xs x = (j : Int) ∧ xs[j] = x := by
  unfold idxV
  rcases idxF_lt (fun y => eqB y x) xs 0 with ⟨e, h⟩ | ⟨j, hj, e, hj2, h⟩
  · refine .inl ⟨e, fun hm => ?_⟩
    have := h x hm
    rw [eqB_self] at this; cases this
  · refine .inr ⟨j, hj, by rw [e]; simp, ?_⟩
    exact (eqB_iff _ _).1 h
theorem erase_take (xs : List Verdict) (j : Nat) : xs.take j ++ xs.drop (j + 1) = xs.eraseIdx j := (List.eraseIdx_eq_take_drop_succ xs j).symm
/-- 's[k:]' -/
theorem Sl.dropv {w : World} {b off n cap : Nat} {xs : List Verdict} (h : Sl verdictR w (.slice (some ⟨b, off, none⟩) n cap) xs) (k : Nat) (hk : k ≤ xs.length) (hc : ¬ cap = k) :
    Sl verdictR w (.slice (some ⟨b, off + k * 4, none⟩) (n - k) (cap - k)) (xs.drop k) := by
  obtain ⟨A, cap', he, hm, hi⟩ := h
  injection he with e1 e2 e3
  subst e1; subst e2; subst e3
  refine ⟨_, _, by rw [List.length_drop], ⟨by rw [List.length_drop]; omega, by omega⟩, fun i hlt => ?_⟩
  rw [List.length_drop] at hlt
  obtain ⟨b2, off2, cs, e, hr, hc2⟩ := hi (k + i) (by omega)
  injection e with e
  injection e with e4 e5 _
  subst e4; subst e5
  refine ⟨b, off + k * 4, cs, rfl, by rw [List.getElem_drop]; exact hr, fun j hj => ?_⟩
  have h4 : verdictR.n = 4 := rfl
  rw [← hc2 j hj, h4, show off + k * 4 + i * 4 + j = off + (k + i) * 4 + j by rw [Nat.add_mul]; omega]

theorem rmV_no {xs : List Verdict} {x : Verdict} (h : ¬ (areVers xs = true ∧ 0 ≤ idxV xs x)) : rmV xs x = (xs, false) := by unfold rmV; rw [if_neg h]
theorem rmV_yes {xs : List Verdict} {x : Verdict} {j : Nat} (h : areVers xs = true) (h2 : idxV xs x = (j : Int)) : rmV xs x = (xs.eraseIdx j, true) := by unfold rmV; rw [if_pos ⟨h, by rw [h2]; omega⟩, h2]; rfl
/-- 's[k:]', whatever the capacity -/
theorem Sl.tailv {w : World} {b off n cap : Nat} {xs : List Verdict} (h : Sl verdictR w (.slice (some ⟨b, off, none⟩) n cap) xs) (k : Nat) (hk : k ≤ xs.length) :
    ∃ A2 : Option Addr, (if cap = k then (some ⟨b, off, none⟩ : Option Addr) else some ⟨b, off + k * 4, none⟩) = A2 ∧ Hid (∀ W, Ext w W → Sl verdictR W (.slice A2 (xs.length - k) (cap - k)) (xs.drop k)) := by
  have hn := h.cap_
  by_cases hc : cap = k
  · refine ⟨_, rfl, fun W hW => ?_⟩
    rw [if_pos hc, show xs.drop k = [] from List.drop_of_length_le (by omega), show xs.length - k = 0 by omega]
    exact ⟨_, _, rfl, ⟨Nat.zero_le _, by unfold maxLen; omega⟩, fun i hi => absurd hi (Nat.not_lt_zero _)⟩
  · refine ⟨_, rfl, fun W hW => ?_⟩
    rw [if_neg hc, ← hn.1]
    exact (h.mono hW).dropv k hk hc

set_option maxHeartbeats 1000000 in
set_option maxRecDepth 20000 in
theorem spec_RemoveVerdict (v : Value) (xs : List Verdict) (x : Verdict) (w : World) (h : Sl verdictR w v xs) (hl : xs.length ≤ 1048576) :
    Calls Try.prog 6 #[v, .agg #[.int .i64 x.a, .int .i64 x.b, .bool x.same, .int .i64 x.time]] w (VsOut w · · (rmV xs x)) := by
  obtain ⟨A, cap, rfl, hm⟩ := h.form
  have xb : Ext w (w.alloc (.cells #[.int .i64 x.a, .int .i64 x.b, .bool x.same, .int .i64 x.time] 30)) := (Ext.refl w).alloc _
  go_enter Try.func6, Try.ntmps6
  go_wp2_with fail
  refine (spec_l28At _ xs x _ (h.mono xb)).mono ?_
  rintro e w1 ⟨rfl, x1⟩
  have x01 := xb.trans x1
  clear x1
  go_wp2_with fail
  refine (spec_AreVerdicts _ xs _ (h.mono x01)).mono ?_
  rintro e w2 ⟨rfl, x2⟩
  have x02 := x01.trans x2
  clear x01 x2 xb
  cases hv : areVers xs with
  | false =>
    have HR := hid (rmV_no (x := x) (fun k => by rw [hv] at k; cases k.1))
    clear hv
    go_wp2_with fail
    refine (spec_l28Copy _ xs _ (h.mono x02) hl).mono ?_
    rintro e w3 ⟨v3, F3, rfl, o3, n3, x3⟩
    go_wp2
    refine bodyPost_ret (v := .tuple #[v3, .bool false]) (by simp [results, Try.results6, go_sem]) rfl ?_
    exact ⟨_, F3, by rw [HR.out], by rw [HR.out]; exact o3, n3.ext x02, x02.trans x3⟩
  | true =>
    rcases idxV_cases xs x with ⟨hj, _⟩ | ⟨j, hjl, hj, hxj⟩
    · have HR := hid (rmV_no (x := x) (fun k => by rw [hj] at k; exact absurd k.2 (by decide)))
      rw [hj]
      clear hj hv
      go_wp2_with fail
      refine (spec_l28Copy _ xs _ (h.mono x02) hl).mono ?_
      rintro e w3 ⟨v3, F3, rfl, o3, n3, x3⟩
      go_wp2
      refine bodyPost_ret (v := .tuple #[v3, .bool false]) (by simp [results, Try.results6, go_sem]) rfl ?_
      exact ⟨_, F3, by rw [HR.out], by rw [HR.out]; exact o3, n3.ext x02, x02.trans x3⟩
    · have HR := hid (rmV_yes hv hj)
      rw [hj]
      obtain ⟨b, off, hA⟩ : ∃ b off, A = some ⟨b, off, none⟩ := by
        obtain ⟨b, off, _, e, _⟩ := h.at_ hjl
        exact ⟨b, off, e⟩
      subst hA
      have hn := h.cap_
      obtain ⟨A2, hA2, HT⟩ := h.tailv (j + 1) (by omega)
      have HK := hid (h.take (k := j) (by omega))
      have HL1 := hid (show (xs.take j).length ≤ xs.length by rw [List.length_take]; omega)
      have HL2 := hid (show (xs.drop (j + 1)).length ≤ xs.length by rw [List.length_drop]; omega)
      have a1 : (j : Int) ≤ (cap : Int) := by omega
      have a2 : j ≤ cap := by omega
      have a3 : j + 1 ≤ cap := by omega
      have a4 : (0 : Int) ≤ (j : Int) + 1 := by omega
      have a5 : (j : Int) + 1 ≤ (xs.length : Int) := by omega
      have a6 : IntKind.i64.wrap ((j : Int) + 1) = (j : Int) + 1 := by rw [IntKind.wrap_i64]; omega
      have HE := hid (show ((w2.alloc (.cells #[] 30)).drew).heap[w2.heap.size]? = some (.cells #[] 30 (0, 0)) from heap_alloc_new w2 _)
      have hle := hid hl
      clear hxj hj hv hjl hn hl
      go_wp2_with fail
      go_region_held3 (fun _ => True) (exact trivial) (first | (have hfirst := hB1; refine step_appv elemVer (by decide) rfl _ _ rfl hB1 rfl rfl (HT.out _ (by repeat (first | with_reducible exact Ext.refl _ | with_reducible assumption | with_reducible refine Ext.drew ?_ | with_reducible refine Ext.alloc ?_ _ | with_reducible refine Ext.trans ?_ (by with_reducible assumption)))) (by have := HL1.out; have := HL2.out; have := hle.out; omega) xs1.size (w0 := w2) (Nat.le_refl _) xs1 ?_; intro v5 w5 hB2 xs2 _) | (refine step_appv elemVer (by decide) rfl _ _ rfl (Bld.empv (R := verdictO) (base := w2.heap.size) (Nat.le_refl _) HE.out) rfl rfl (HK.out.mono (by repeat (first | with_reducible exact Ext.refl _ | with_reducible assumption | with_reducible refine Ext.drew ?_ | with_reducible refine Ext.alloc ?_ _ | with_reducible refine Ext.trans ?_ (by with_reducible assumption)))) (by have := HL1.out; have := hle.out; simp; omega) (by simp) (w0 := w2) (Nat.le_refl _) (by repeat (first | with_reducible exact Ext.refl _ | with_reducible assumption | with_reducible refine Ext.drew ?_ | with_reducible refine Ext.alloc ?_ _ | with_reducible refine Ext.trans ?_ (by with_reducible assumption))) ?_; intro v4 w4 hB1 xs1 _; rw [List.nil_append] at hB1))
      go_wp2
      obtain ⟨F5, d1, d2, d3⟩ := hB2.done
      obtain ⟨A5, c5, e5, _⟩ := d1.form
      subst e5
      refine bodyPost_ret (v := .tuple #[.slice A5 (xs.take j ++ xs.drop (j + 1)).length c5, .bool true]) (by simp [results, Try.results6, go_sem]) rfl ?_
      exact ⟨_, F5, by rw [HR.out], by rw [HR.out]; show OwnSl verdictO _ _ (xs.eraseIdx j) F5; rw [← erase_take]; exact d1, NewF.ext x02 ⟨d2, d3⟩, x02.trans xs2⟩

set_option maxHeartbeats 400000 in
set_option maxRecDepth 20000 in
theorem impl_RemoveVerdict (v : Value) (xs : List Verdict) (x : Verdict) (w : World) (h : Sl verdictR w v xs) (hl : xs.length ≤ 1048576) :
    Calls Try.prog 9 #[v, .agg #[.int .i64 x.a, .int .i64 x.b, .bool x.same, .int .i64 x.time]] w (VsOut w · · (rmV xs x)) := by
  obtain ⟨A, cap, rfl, hm⟩ := h.form
  have xb : Ext w (w.alloc (.cells #[.int .i64 x.a, .int .i64 x.b, .bool x.same, .int .i64 x.time] 30)) := (Ext.refl w).alloc _
  go_enter Try.func9, Try.ntmps9
  go_wp2_with fail
  refine (slices_Clone_vB _ xs _ (h.mono xb) hl).mono ?_
  rintro e w1 ⟨v1, rfl, hB, x1⟩
  have xb1 := xb.trans x1
  have c0 : w1.cell? ⟨w.heap.size, 0, none⟩ = some (.int .i64 x.a) := x1.box.1 0
  have c1 : w1.cell? ⟨w.heap.size, 1, none⟩ = some (.int .i64 x.b) := x1.box.1 1
  have c2 : w1.cell? ⟨w.heap.size, 2, none⟩ = some (.bool x.same) := x1.box.1 2
  have c3 : w1.cell? ⟨w.heap.size, 3, none⟩ = some (.int .i64 x.time) := x1.box.1 3
  go_wp2_with fail
  refine (slices_Index_v _ xs x _ (h.mono xb1)).mono ?_
  rintro e w2 ⟨rfl, x2⟩
  go_wp2_with fail
  refine (impl_AreVerdicts _ xs _ (h.mono (xb1.trans x2))).mono ?_
  rintro e w3 ⟨rfl, x3⟩
  have x13 := x2.trans x3
  clear x2 x3
  cases hv : areVers xs with
  | false =>
    have HR := hid (rmV_no (x := x) (fun k => by rw [hv] at k; cases k.1))
    clear hv
    obtain ⟨F3, d1, d2, d3⟩ := hB.done
    go_wp2
    refine bodyPost_ret (v := .tuple #[v1, .bool false]) (by simp [results, Try.results9, go_sem]) rfl ?_
    exact ⟨_, F3, by rw [HR.out], by rw [HR.out]; exact d1.ext x13, NewF.ext xb ⟨d2, d3⟩, xb1.trans x13⟩
  | true =>
    rcases idxV_cases xs x with ⟨hj, _⟩ | ⟨j, hjl, hj, hxj⟩
    · have HR := hid (rmV_no (x := x) (fun k => by rw [hj] at k; exact absurd k.2 (by decide)))
      rw [hj]
      clear hj hv
      obtain ⟨F3, d1, d2, d3⟩ := hB.done
      go_wp2
      refine bodyPost_ret (v := .tuple #[v1, .bool false]) (by simp [results, Try.results9, go_sem]) rfl ?_
      exact ⟨_, F3, by rw [HR.out], by rw [HR.out]; exact d1.ext x13, NewF.ext xb ⟨d2, d3⟩, xb1.trans x13⟩
    · have HR := hid (rmV_yes hv hj)
      rw [hj]
      have HJ := hid hjl
      have a5 : (j : Int) + 1 ≤ (xs.length : Int) := by omega
      have a6 : (j : Int) ≤ 1048576 := by omega
      clear hxj hj hv hjl
      go_wp2_with fail
      refine (slices_Delete_v _ xs j _ _ (hB.ext x13) HJ.out hl).mono ?_
      rintro e w4 ⟨v4, rfl, hB4, x4⟩
      obtain ⟨F3, d1, d2, d3⟩ := hB4.done
      go_wp2
      refine bodyPost_ret (v := .tuple #[v4, .bool true]) (by simp [results, Try.results9, go_sem]) rfl ?_
      exact ⟨_, F3, by rw [HR.out], by rw [HR.out]; exact d1, NewF.ext xb ⟨d2, d3⟩, x4 w (by rw [World.size_alloc]; omega) (xb1.trans x13)⟩
end Go.Proofs.Ytblggajfdhjmjaa
