/-
  WALKS: EqualBatches (both), l29Same, slices.EqualFunc at operations.
-/
import Derived.Test.YtbhhbdilaihegaaVerEq
import Derived.Test.YtbhhbdilaihegaaCmpR
import Derived.Test.YtbhhbdilaihegaaBat
namespace Go.Proofs.Ytbhhbdilaihegaa
open Go.RowKit

set_option maxHeartbeats 400000 in
set_option maxRecDepth 20000 in
theorem EqualFunc_op (v u : Value) (xs ys : List Op) (fn : FuncId) (cp : Array Value) (w : World) (h : Sl opR w v xs) (k : Sl opR w u ys)
    (hfn : ∀ (args : Array Value) (W : World), Sem.run Try.prog (callFunc fn args) W = .ok (.enter fn args) W)
    (hf : ∀ wz a b x y, OpAt wz a x → OpAt wz b y → Calls Try.prog fn (#[a, b] ++ cp) wz fun e w2 => e = .returned (.bool (eqB x y)) ∧ Ext wz w2) :
    Calls Try.prog 90 #[v, u, .func (.func fn) #[] cp] w fun e w2 => e = .returned (.bool (eqB xs ys)) ∧ Ext w w2 := by
  obtain ⟨A, cap, rfl, hm⟩ := h.form
  obtain ⟨B, cap2, rfl, hm2⟩ := k.form
  by_cases hl : xs.length = ys.length
  · have hl' : ((xs.length : Int) != (ys.length : Int)) = false := by simp [hl]
    have HL := hid hl
    clear hl
    go_enter Try.func90, Try.ntmps90
    go_wp2
    go_loopw [17] (fun i wr => ∃ k2 : Nat, k2 ≤ xs.length ∧ i = .int .i64 k2 ∧ xs.take k2 = ys.take k2 ∧ Ext w wr) (fun i _ => xs.length - (intOf i).toNat)
    case atStart => exact ⟨0, Nat.zero_le _, rfl, by simp, Ext.refl _⟩
    case round =>
      obtain ⟨k2, hk, rfl, he, hx⟩ := hrel
      have HE := hid he
      clear he
      by_cases hlt : k2 < xs.length
      · have hlt2 : k2 < ys.length := by have := HL.out; omega
        obtain ⟨b, off, A2, cap3, rfl, hok, hi, hc0, hc1, hc2, hc3, hc4, hc5, hc6, hc7, hc8⟩ := (h.mono hx).op hlt
        obtain ⟨b2, off2, A3, cap4, rfl, hok2, hi2, hd0, hd1, hd2, hd3, hd4, hd5, hd6, hd7, hd8⟩ := (k.mono hx).op hlt2
        have xe : Ext wr (wr.alloc (.cells #[.int .i64 xs[k2].kind, .int .i64 xs[k2].record.source, .int .i64 xs[k2].record.key, .int .i64 xs[k2].record.version, .slice A2 xs[k2].record.fields.length cap3, .int .i64 xs[k2].verdict.a, .int .i64 xs[k2].verdict.b, .bool xs[k2].verdict.same, .int .i64 xs[k2].verdict.time] 78)) := (Ext.refl _).alloc _
        have y0 := xe.cell hd0
        have y1 := xe.cell hd1
        have y2 := xe.cell hd2
        have y3 := xe.cell hd3
        have y4 := xe.cell hd4
        have y5 := xe.cell hd5
        have y6 := xe.cell hd6
        have y7 := xe.cell hd7
        have y8 := xe.cell hd8
        go_wp2_with fail
        refine (hf _ _ _ xs[k2] ys[k2] ⟨_, rfl, hok, hi.mono (by repeat (first | with_reducible exact Ext.refl _ | with_reducible assumption | with_reducible refine Ext.drew ?_ | with_reducible refine Ext.alloc ?_ _ | (refine Ext.setCell ?_ (by simp) _) | with_reducible refine Ext.trans ?_ (by with_reducible assumption)))⟩ ⟨_, rfl, hok2, hi2.mono (by repeat (first | with_reducible exact Ext.refl _ | with_reducible assumption | with_reducible refine Ext.drew ?_ | with_reducible refine Ext.alloc ?_ _ | (refine Ext.setCell ?_ (by simp) _) | with_reducible refine Ext.trans ?_ (by with_reducible assumption)))⟩).mono ?_
        rintro e w2 ⟨rfl, x2⟩
        clear xe
        by_cases h0 : xs[k2] = ys[k2]
        · rw [eqB_true h0]
          have H0 := hid h0
          clear h0
          go_wp2
          go_roundw
          case rel => exact ⟨k2 + 1, by omega, by go_num, take_snoc_eq hlt hlt2 H0.out HE.out, (by repeat (first | with_reducible exact Ext.refl _ | with_reducible assumption | with_reducible refine Ext.drew ?_ | with_reducible refine Ext.alloc ?_ _ | with_reducible refine Ext.trans ?_ (by with_reducible assumption)))⟩
          case measure => simp [intOf]; omega
        · rw [eqB_false h0]
          have H0 := hid h0
          clear h0
          go_wp2
          go_ret
          exact ⟨ret_bool (eqB_false (ne_of_at hlt hlt2 H0.out)).symm, (by repeat (first | with_reducible exact Ext.refl _ | with_reducible assumption | with_reducible refine Ext.drew ?_ | with_reducible refine Ext.alloc ?_ _ | with_reducible refine Ext.trans ?_ (by with_reducible assumption)))⟩
      · go_wp2
        go_ret
        exact ⟨ret_bool (eqB_true (eq_of_take hlt HL.out HE.out)).symm, hx⟩
  · have hl' : ((xs.length : Int) != (ys.length : Int)) = true := by simp; omega
    go_enter Try.func90, Try.ntmps90
    go_wp2
    go_ret
    exact ⟨ret_bool (eqB_false fun e => hl (by rw [e])).symm, Ext.refl _⟩

set_option maxHeartbeats 400000 in
set_option maxRecDepth 20000 in
theorem impl_EqualBatches_1 (v u : Value) (x y : Op) (w : World) (h : OpAt w v x) (k : OpAt w u y) :
    Calls Try.prog 91 #[v, u] w fun e w2 => e = .returned (.bool (eqB x y)) ∧ Ext w w2 := by
  obtain ⟨f, rfl, hok, hs⟩ := h
  obtain ⟨g, rfl, hok2, hs2⟩ := k
  by_cases h1 : x.kind = y.kind
  · have b1 : (x.kind == y.kind) = true := by simp [h1]
    have H := hid h1
    clear h1
    go_enter Try.func91, Try.ntmps91
    go_wp2_with fail
    refine (impl_equalRecords _ _ x.record y.record _ ⟨_, rfl, hok.2.1, hs.mono (by repeat (first | with_reducible exact Ext.refl _ | with_reducible assumption | with_reducible refine Ext.drew ?_ | with_reducible refine Ext.alloc ?_ _ | (refine Ext.setCell ?_ (by simp) _) | with_reducible refine Ext.trans ?_ (by with_reducible assumption)))⟩ ⟨_, rfl, hok2.2.1, hs2.mono (by repeat (first | with_reducible exact Ext.refl _ | with_reducible assumption | with_reducible refine Ext.drew ?_ | with_reducible refine Ext.alloc ?_ _ | (refine Ext.setCell ?_ (by simp) _) | with_reducible refine Ext.trans ?_ (by with_reducible assumption)))⟩).mono ?_
    rintro e w2 ⟨rfl, x2⟩
    have c1 := x2.box1.1
    have c0 := ((((Ext.refl _).alloc _) : Ext (w.alloc (.cells #[.int .i64 x.kind, .int .i64 x.record.source, .int .i64 x.record.key, .int .i64 x.record.version, f, .int .i64 x.verdict.a, .int .i64 x.verdict.b, .bool x.verdict.same, .int .i64 x.verdict.time] 78)) _).trans x2).box.1
    by_cases h4 : x.record = y.record
    · rw [eqB_true h4]
      have H4 := hid h4
      clear h4
      rcases ver_cases x.verdict y.verdict with ⟨he, e1, e2, e3, e4⟩ | ⟨hne, hw⟩
      · have H5 := hid he
        clear he
        go_wp2
        go_ret
        exact ⟨ret_bool (eqB_true ((Op.eta x y).2 ⟨H.out, H4.out, H5.out⟩)).symm, (by repeat (first | with_reducible exact Ext.refl _ | with_reducible assumption | with_reducible refine Ext.drew ?_ | with_reducible refine Ext.alloc ?_ _ | (refine Ext.setCell ?_ (by simp) _) | with_reducible refine Ext.trans ?_ (by with_reducible assumption)))⟩
      · have H5 := hid hne
        clear hne
        rcases hw with e1 | ⟨e1, e2⟩ | ⟨e1, e2, e3⟩ | ⟨e1, e2, e3, e4⟩
        all_goals
          go_wp2
          go_ret
          exact ⟨ret_bool (eqB_false fun e => H5.out (by rw [e])).symm, (by repeat (first | with_reducible exact Ext.refl _ | with_reducible assumption | with_reducible refine Ext.drew ?_ | with_reducible refine Ext.alloc ?_ _ | (refine Ext.setCell ?_ (by simp) _) | with_reducible refine Ext.trans ?_ (by with_reducible assumption)))⟩
    · rw [eqB_false h4]
      have H4 := hid h4
      clear h4
      go_wp2
      go_ret
      exact ⟨ret_bool (eqB_false fun e => H4.out (by rw [e])).symm, (by repeat (first | with_reducible exact Ext.refl _ | with_reducible assumption | with_reducible refine Ext.drew ?_ | with_reducible refine Ext.alloc ?_ _ | (refine Ext.setCell ?_ (by simp) _) | with_reducible refine Ext.trans ?_ (by with_reducible assumption)))⟩
  · have b1 : (x.kind == y.kind) = false := by simp [h1]
    have H := hid h1
    clear h1
    go_enter Try.func91, Try.ntmps91
    go_wp2
    go_ret
    exact ⟨ret_bool (eqB_false fun e => H.out (by rw [e])).symm, (by repeat (first | with_reducible exact Ext.refl _ | with_reducible assumption | with_reducible refine Ext.drew ?_ | with_reducible refine Ext.alloc ?_ _ | (refine Ext.setCell ?_ (by simp) _) | with_reducible refine Ext.trans ?_ (by with_reducible assumption)))⟩

set_option maxHeartbeats 400000 in
set_option maxRecDepth 20000 in
theorem spec_l29Same (v u : Value) (x y : Op) (w : World) (h : OpAt w v x) (k : OpAt w u y) :
    Calls Try.prog 88 #[v, u] w fun e w2 => e = .returned (.bool (eqB x y)) ∧ Ext w w2 := by
  obtain ⟨f, rfl, hok, hs⟩ := h
  obtain ⟨g, rfl, hok2, hs2⟩ := k
  by_cases h1 : x.kind = y.kind
  · have b1 : (x.kind == y.kind) = true := by simp [h1]
    have H := hid h1
    clear h1
    have h64 := (cmpR_64 x.record y.record).out
    go_enter Try.func88, Try.ntmps88
    go_wp2_with fail
    refine (spec_CompareRecords _ _ x.record y.record _ ⟨_, rfl, hok.2.1, hs.mono (by repeat (first | with_reducible exact Ext.refl _ | with_reducible assumption | with_reducible refine Ext.drew ?_ | with_reducible refine Ext.alloc ?_ _ | (refine Ext.setCell ?_ (by simp) _) | with_reducible refine Ext.trans ?_ (by with_reducible assumption)))⟩ ⟨_, rfl, hok2.2.1, hs2.mono (by repeat (first | with_reducible exact Ext.refl _ | with_reducible assumption | with_reducible refine Ext.drew ?_ | with_reducible refine Ext.alloc ?_ _ | (refine Ext.setCell ?_ (by simp) _) | with_reducible refine Ext.trans ?_ (by with_reducible assumption)))⟩).mono ?_
    rintro e w2 ⟨rfl, x2⟩
    have c1 := x2.box1.1
    have c0 := ((((Ext.refl _).alloc _) : Ext (w.alloc (.cells #[.int .i64 x.kind, .int .i64 x.record.source, .int .i64 x.record.key, .int .i64 x.record.version, f, .int .i64 x.verdict.a, .int .i64 x.verdict.b, .bool x.verdict.same, .int .i64 x.verdict.time] 78)) _).trans x2).box.1
    by_cases h4 : cmpR x.record y.record = 0
    · have h4' : (cmpR x.record y.record == 0) = true := by simp [h4]
      have H4 := hid h4
      clear h4
      rcases ver_cases x.verdict y.verdict with ⟨he, e1, e2, e3, e4⟩ | ⟨hne, hw⟩
      · have H5 := hid he
        clear he
        go_wp2
        go_ret
        exact ⟨ret_bool (eqB_true ((Op.eta x y).2 ⟨H.out, cmpR_zero.1 H4.out, H5.out⟩)).symm, (by repeat (first | with_reducible exact Ext.refl _ | with_reducible assumption | with_reducible refine Ext.drew ?_ | with_reducible refine Ext.alloc ?_ _ | (refine Ext.setCell ?_ (by simp) _) | with_reducible refine Ext.trans ?_ (by with_reducible assumption)))⟩
      · have H5 := hid hne
        clear hne
        rcases hw with e1 | ⟨e1, e2⟩ | ⟨e1, e2, e3⟩ | ⟨e1, e2, e3, e4⟩
        all_goals
          go_wp2
          go_ret
          exact ⟨ret_bool (eqB_false fun e => H5.out (by rw [e])).symm, (by repeat (first | with_reducible exact Ext.refl _ | with_reducible assumption | with_reducible refine Ext.drew ?_ | with_reducible refine Ext.alloc ?_ _ | (refine Ext.setCell ?_ (by simp) _) | with_reducible refine Ext.trans ?_ (by with_reducible assumption)))⟩
    · have h4' : (cmpR x.record y.record == 0) = false := by simp [h4]
      have H4 := hid h4
      clear h4
      go_wp2
      go_ret
      exact ⟨ret_bool (eqB_false fun e => H4.out (cmpR_zero.2 (by rw [e]))).symm, (by repeat (first | with_reducible exact Ext.refl _ | with_reducible assumption | with_reducible refine Ext.drew ?_ | with_reducible refine Ext.alloc ?_ _ | (refine Ext.setCell ?_ (by simp) _) | with_reducible refine Ext.trans ?_ (by with_reducible assumption)))⟩
  · have b1 : (x.kind == y.kind) = false := by simp [h1]
    have H := hid h1
    clear h1
    go_enter Try.func88, Try.ntmps88
    go_wp2
    go_ret
    exact ⟨ret_bool (eqB_false fun e => H.out (by rw [e])).symm, (by repeat (first | with_reducible exact Ext.refl _ | with_reducible assumption | with_reducible refine Ext.drew ?_ | with_reducible refine Ext.alloc ?_ _ | (refine Ext.setCell ?_ (by simp) _) | with_reducible refine Ext.trans ?_ (by with_reducible assumption)))⟩

set_option maxHeartbeats 400000 in
set_option maxRecDepth 20000 in
theorem impl_EqualBatches (v u : Value) (x y : Batch) (w : World) (h : BatAt w v x) (k : BatAt w u y) :
    Calls Try.prog 46 #[v, u] w fun e w2 => e = .returned (.bool (eqB x y)) ∧ Ext w w2 := by
  obtain ⟨f, rfl, _, hs⟩ := h
  obtain ⟨g, rfl, _, hs2⟩ := k
  go_enter Try.func46, Try.ntmps46
  go_wp2_with fail
  refine (EqualFunc_op _ _ x.ops y.ops 91 #[] _ (hs.mono (by repeat (first | with_reducible exact Ext.refl _ | with_reducible assumption | with_reducible refine Ext.drew ?_ | with_reducible refine Ext.alloc ?_ _ | (refine Ext.setCell ?_ (by simp) _) | with_reducible refine Ext.trans ?_ (by with_reducible assumption)))) (hs2.mono (by repeat (first | with_reducible exact Ext.refl _ | with_reducible assumption | with_reducible refine Ext.drew ?_ | with_reducible refine Ext.alloc ?_ _ | (refine Ext.setCell ?_ (by simp) _) | with_reducible refine Ext.trans ?_ (by with_reducible assumption)))) (fun _ _ => by kernel_rfl) (fun wz a b x y hx hy => impl_EqualBatches_1 a b x y wz hx hy)).mono ?_
  rintro e w2 ⟨rfl, x2⟩
  have hE : eqB x.ops y.ops = eqB x y := by
    by_cases h0 : x.ops = y.ops
    · rw [eqB_true h0, eqB_true ((Batch.eta x y).2 h0)]
    · rw [eqB_false h0, eqB_false fun e => h0 (by rw [e])]
  have HE := hid hE
  clear hE
  go_wp2
  go_ret
  exact ⟨ret_bool HE.out, (by repeat (first | with_reducible exact Ext.refl _ | with_reducible assumption | with_reducible refine Ext.drew ?_ | with_reducible refine Ext.alloc ?_ _ | (refine Ext.setCell ?_ (by simp) _) | with_reducible refine Ext.trans ?_ (by with_reducible assumption)))⟩

set_option maxHeartbeats 400000 in
set_option maxRecDepth 20000 in
theorem spec_EqualBatches (v u : Value) (x y : Batch) (w : World) (h : BatAt w v x) (k : BatAt w u y) :
    Calls Try.prog 44 #[v, u] w fun e w2 => e = .returned (.bool (eqB x y)) ∧ Ext w w2 := by
  obtain ⟨f, rfl, _, hs⟩ := h
  obtain ⟨g, rfl, _, hs2⟩ := k
  obtain ⟨A, cap, rfl, hm⟩ := hs.form
  obtain ⟨B, cap2, rfl, hm2⟩ := hs2.form
  have hS : ∀ W, Ext ((w.alloc (.cells #[.slice A x.ops.length cap] 65)).alloc (.cells #[.slice B y.ops.length cap2] 65)) W →
      W.cell? ⟨w.heap.size, 0, none⟩ = some (.slice A x.ops.length cap) ∧ W.cell? ⟨w.heap.size + 1, 0, none⟩ = some (.slice B y.ops.length cap2) :=
    fun W z => ⟨(((Ext.refl _).alloc _).trans z).box.1 0, z.box1.1 0⟩
  have HK := hid hS
  clear hS
  by_cases h2 : x.ops.length = y.ops.length
  · have b2 : ((x.ops.length : Int) != (y.ops.length : Int)) = false := by simp [h2]
    have H2 := hid h2
    clear h2
    go_enter Try.func44, Try.ntmps44
    go_wp2_with fail
    go_loopw [5] (fun i wr => ∃ k : Nat, k ≤ x.ops.length ∧ i = .int .i64 k ∧ x.ops.take k = y.ops.take k ∧ Ext ((w.alloc (.cells #[.slice A x.ops.length cap] 65)).alloc (.cells #[.slice B y.ops.length cap2] 65)) wr) (fun i _ => x.ops.length - (intOf i).toNat)
    case atStart => exact ⟨0, Nat.zero_le _, rfl, by simp, Ext.refl _⟩
    case round =>
      obtain ⟨k, hk, rfl, he, hx⟩ := hrel
      have HE := hid he
      clear he
      obtain ⟨k1, k2⟩ := HK.out _ hx
      have xw : Ext w wr := ((Ext.refl _).alloc _ |>.alloc _).trans hx
      by_cases hlt : k < x.ops.length
      · have hlt2 : k < y.ops.length := by have := H2.out; omega
        obtain ⟨b, off, A2, cp, rfl, hok, hi, hc0, hc1, hc2, hc3, hc4, hc5, hc6, hc7, hc8⟩ := (hs.mono xw).op hlt
        obtain ⟨b2, off2, A3, cp2, rfl, hok2, hi2, hd0, hd1, hd2, hd3, hd4, hd5, hd6, hd7, hd8⟩ := (hs2.mono xw).op hlt2
        have y0 : ∀ z : ExtOf wr, z.1.cell? ⟨b, off + k * 9, none⟩ = _ := fun z => z.2.cell hc0
        have y1 : ∀ z : ExtOf wr, z.1.cell? ⟨b, off + k * 9 + 1, none⟩ = _ := fun z => z.2.cell hc1
        have y2 : ∀ z : ExtOf wr, z.1.cell? ⟨b, off + k * 9 + 2, none⟩ = _ := fun z => z.2.cell hc2
        have y3 : ∀ z : ExtOf wr, z.1.cell? ⟨b, off + k * 9 + 3, none⟩ = _ := fun z => z.2.cell hc3
        have y4 : ∀ z : ExtOf wr, z.1.cell? ⟨b, off + k * 9 + 4, none⟩ = _ := fun z => z.2.cell hc4
        have y5 : ∀ z : ExtOf wr, z.1.cell? ⟨b, off + k * 9 + 5, none⟩ = _ := fun z => z.2.cell hc5
        have y6 : ∀ z : ExtOf wr, z.1.cell? ⟨b, off + k * 9 + 6, none⟩ = _ := fun z => z.2.cell hc6
        have y7 : ∀ z : ExtOf wr, z.1.cell? ⟨b, off + k * 9 + 7, none⟩ = _ := fun z => z.2.cell hc7
        have y8 : ∀ z : ExtOf wr, z.1.cell? ⟨b, off + k * 9 + 8, none⟩ = _ := fun z => z.2.cell hc8
        have z0 : ∀ z : ExtOf wr, z.1.cell? ⟨b2, off2 + k * 9, none⟩ = _ := fun z => z.2.cell hd0
        have z1 : ∀ z : ExtOf wr, z.1.cell? ⟨b2, off2 + k * 9 + 1, none⟩ = _ := fun z => z.2.cell hd1
        have z2 : ∀ z : ExtOf wr, z.1.cell? ⟨b2, off2 + k * 9 + 2, none⟩ = _ := fun z => z.2.cell hd2
        have z3 : ∀ z : ExtOf wr, z.1.cell? ⟨b2, off2 + k * 9 + 3, none⟩ = _ := fun z => z.2.cell hd3
        have z4 : ∀ z : ExtOf wr, z.1.cell? ⟨b2, off2 + k * 9 + 4, none⟩ = _ := fun z => z.2.cell hd4
        have z5 : ∀ z : ExtOf wr, z.1.cell? ⟨b2, off2 + k * 9 + 5, none⟩ = _ := fun z => z.2.cell hd5
        have z6 : ∀ z : ExtOf wr, z.1.cell? ⟨b2, off2 + k * 9 + 6, none⟩ = _ := fun z => z.2.cell hd6
        have z7 : ∀ z : ExtOf wr, z.1.cell? ⟨b2, off2 + k * 9 + 7, none⟩ = _ := fun z => z.2.cell hd7
        have z8 : ∀ z : ExtOf wr, z.1.cell? ⟨b2, off2 + k * 9 + 8, none⟩ = _ := fun z => z.2.cell hd8
        have z9 : ∀ z : ExtOf wr, z.1.cell? ⟨w.heap.size, 0, none⟩ = _ := fun z => z.2.cell k1
        have z10 : ∀ z : ExtOf wr, z.1.cell? ⟨w.heap.size + 1, 0, none⟩ = _ := fun z => z.2.cell k2
        by_cases h0 : x.ops[k] = y.ops[k]
        · have H0 := hid h0
          have h0' := eqB_true h0
          clear h0
          go_wp2_with fail
          refine wp_region_ext (by kernel_rfl) (by kernel_rfl) ?_
          repeat (go_big_quiet_step ((first | (go_at_call 88; exact quiet_ext (Calls.mono ((spec_l29Same _ _ x.ops[k] y.ops[k] _ ⟨_, rfl, hok, hi.mono (Subtype.property _)⟩ ⟨_, rfl, hok2, hi2.mono (Subtype.property _)⟩)) fun _ _ h9 => ⟨h9.1.trans (ret_bool h0'), h9.2⟩)))))
          refine wpQuiet_nil ?_
          rintro w4 ⟨⟨_, x4⟩, rfl⟩
          go_wp2
          go_roundw
          case rel => exact ⟨k + 1, by omega, by go_num, take_snoc_eq hlt hlt2 H0.out HE.out, hx.trans x4⟩
          case measure => simp [intOf]; omega
        · have H0 := hid h0
          have h0' := eqB_false h0
          clear h0
          go_wp2_with fail
          refine wp_region_ext (by kernel_rfl) (by kernel_rfl) ?_
          repeat (go_big_quiet_step ((first | (go_at_call 88; exact quiet_ext (Calls.mono ((spec_l29Same _ _ x.ops[k] y.ops[k] _ ⟨_, rfl, hok, hi.mono (Subtype.property _)⟩ ⟨_, rfl, hok2, hi2.mono (Subtype.property _)⟩)) fun _ _ h9 => ⟨h9.1.trans (ret_bool h0'), h9.2⟩)))))
          refine wpQuiet_nil ?_
          rintro w4 ⟨⟨_, x4⟩, rfl⟩
          go_wp2
          go_ret
          exact ⟨ret_bool (eqB_false fun e => H0.out (by subst e; rfl)).symm, xw.trans x4⟩
      · go_wp2
        go_ret
        exact ⟨ret_bool (eqB_true ((Batch.eta x y).2 (eq_of_take hlt H2.out HE.out))).symm, xw⟩
  · have b2 : ((x.ops.length : Int) != (y.ops.length : Int)) = true := by simp; omega
    have H2 := hid h2
    clear h2
    go_enter Try.func44, Try.ntmps44
    go_wp2
    go_ret
    exact ⟨ret_bool (eqB_false fun e => H2.out (by rw [e])).symm, (by repeat (first | with_reducible exact Ext.refl _ | with_reducible assumption | with_reducible refine Ext.drew ?_ | with_reducible refine Ext.alloc ?_ _ | (refine Ext.setCell ?_ (by simp) _) | with_reducible refine Ext.trans ?_ (by with_reducible assumption)))⟩
end Go.Proofs.Ytbhhbdilaihegaa
