/-
  WALKS: l28At, slices.Index at verdicts.
-/
import Derived.Test.YtblggajfdhjmjaaVerEq
import Derived.Test.YtblggajfdhjmjaaFn
namespace Go.Proofs.Ytblggajfdhjmjaa
open Go.RowKit

noncomputable def idxV (xs : List Verdict) (x : Verdict) : Int := idxF (fun y => eqB y x) 0 xs

set_option maxHeartbeats 400000 in
set_option maxRecDepth 20000 in
theorem spec_l28At (v : Value) (xs : List Verdict) (x : Verdict) (w : World) (h : Sl verdictR w v xs) :
    Calls Try.prog 15 #[v, .agg #[.int .i64 x.a, .int .i64 x.b, .bool x.same, .int .i64 x.time]] w fun e w2 => e = .returned (.int .i64 (idxV xs x)) ∧ Ext w w2 := by
  obtain ⟨A, cap, rfl, hm⟩ := h.form
  have xB : Ext w (w.alloc (.cells #[.int .i64 x.a, .int .i64 x.b, .bool x.same, .int .i64 x.time] 30)) := (Ext.refl _).alloc _
  have HB := hid (show ∀ W, Ext (w.alloc (.cells #[.int .i64 x.a, .int .i64 x.b, .bool x.same, .int .i64 x.time] 30)) W → W.cell? ⟨w.heap.size, 0, none⟩ = some (.int .i64 x.a) ∧ W.cell? ⟨w.heap.size, 1, none⟩ = some (.int .i64 x.b) ∧ W.cell? ⟨w.heap.size, 2, none⟩ = some (.bool x.same) ∧ W.cell? ⟨w.heap.size, 3, none⟩ = some (.int .i64 x.time) from fun W z => ⟨z.box.1 0, z.box.1 1, z.box.1 2, z.box.1 3⟩)
  go_enter Try.func15, Try.ntmps15
  go_wp2
  go_loopw [5] (fun i wr => ∃ k : Nat, k ≤ xs.length ∧ i = .int .i64 k ∧ (∀ y ∈ xs.take k, eqB y x = false) ∧ Ext (w.alloc (.cells #[.int .i64 x.a, .int .i64 x.b, .bool x.same, .int .i64 x.time] 30)) wr) (fun i _ => xs.length - (intOf i).toNat)
  case atStart => exact ⟨0, Nat.zero_le _, rfl, by simp, Ext.refl _⟩
  case round =>
    obtain ⟨k, hk, rfl, hz, hx⟩ := hrel
    have HZ := hid hz
    clear hz
    have xw : Ext w wr := xB.trans hx
    by_cases hlt : k < xs.length
    · obtain ⟨b, off, rfl, hok, hc0, hc1, hc2, hc3⟩ := (h.mono xw).verdict hlt
      clear hok
      obtain ⟨d0, d1, d2, d3⟩ := HB.out _ hx
      have y0 : ∀ z : ExtOf wr, z.1.cell? ⟨b, off + k * 4, none⟩ = _ := fun z => z.2.cell hc0
      have y1 : ∀ z : ExtOf wr, z.1.cell? ⟨b, off + k * 4 + 1, none⟩ = _ := fun z => z.2.cell hc1
      have y2 : ∀ z : ExtOf wr, z.1.cell? ⟨b, off + k * 4 + 2, none⟩ = _ := fun z => z.2.cell hc2
      have y3 : ∀ z : ExtOf wr, z.1.cell? ⟨b, off + k * 4 + 3, none⟩ = _ := fun z => z.2.cell hc3
      have z0 : ∀ z : ExtOf wr, z.1.cell? ⟨w.heap.size, 0, none⟩ = _ := fun z => z.2.cell d0
      have z1 : ∀ z : ExtOf wr, z.1.cell? ⟨w.heap.size, 1, none⟩ = _ := fun z => z.2.cell d1
      have z2 : ∀ z : ExtOf wr, z.1.cell? ⟨w.heap.size, 2, none⟩ = _ := fun z => z.2.cell d2
      have z3 : ∀ z : ExtOf wr, z.1.cell? ⟨w.heap.size, 3, none⟩ = _ := fun z => z.2.cell d3
      rcases ver_cases xs[k] x with ⟨he, e1, e2, e3, e4⟩ | ⟨hne, hw⟩
      · have H0 := hid he
        clear he
        go_wp2_with fail
        refine wp_region_ext (by kernel_rfl) (by kernel_rfl) ?_
        repeat (go_big_quiet_step ((fail)))
        refine wpQuiet_nil ?_
        rintro w1 ⟨⟨_, x1⟩, rfl⟩
        go_wp2
        go_ret
        exact ⟨ret_int (idxF_at (fun y => eqB y x) xs k hlt HZ.out (eqB_true H0.out)).symm, xw.trans x1⟩
      · have H0 := hid hne
        clear hne
        rcases hw with e1 | ⟨e1, e2⟩ | ⟨e1, e2, e3⟩ | ⟨e1, e2, e3, e4⟩
        all_goals
          go_wp2_with fail
          refine wp_region_ext (by kernel_rfl) (by kernel_rfl) ?_
          repeat (go_big_quiet_step ((fail)))
          refine wpQuiet_nil ?_
          rintro w1 ⟨⟨_, x1⟩, rfl⟩
          go_wp2
          go_roundw
        all_goals try (case rel => exact ⟨k + 1, by omega, by go_num, take_snoc_all (fun y => eqB y x = false) xs k hlt HZ.out (eqB_false H0.out), hx.trans x1⟩)
        all_goals (simp [intOf]; omega)
    · go_wp2
      go_ret
      exact ⟨ret_int (idxF_all (fun y => eqB y x) xs k hlt HZ.out).symm, xw⟩

set_option maxHeartbeats 400000 in
set_option maxRecDepth 20000 in
theorem slices_Index_v (v : Value) (xs : List Verdict) (x : Verdict) (w : World) (h : Sl verdictR w v xs) :
    Calls Try.prog 19 #[v, .agg #[.int .i64 x.a, .int .i64 x.b, .bool x.same, .int .i64 x.time]] w fun e w2 => e = .returned (.int .i64 (idxV xs x)) ∧ Ext w w2 := by
  obtain ⟨A, cap, rfl, hm⟩ := h.form
  have xB : Ext w (w.alloc (.cells #[.int .i64 x.a, .int .i64 x.b, .bool x.same, .int .i64 x.time] 30)) := (Ext.refl _).alloc _
  have HB := hid (show ∀ W, Ext (w.alloc (.cells #[.int .i64 x.a, .int .i64 x.b, .bool x.same, .int .i64 x.time] 30)) W → W.cell? ⟨w.heap.size, 0, none⟩ = some (.int .i64 x.a) ∧ W.cell? ⟨w.heap.size, 1, none⟩ = some (.int .i64 x.b) ∧ W.cell? ⟨w.heap.size, 2, none⟩ = some (.bool x.same) ∧ W.cell? ⟨w.heap.size, 3, none⟩ = some (.int .i64 x.time) from fun W z => ⟨z.box.1 0, z.box.1 1, z.box.1 2, z.box.1 3⟩)
  go_enter Try.func19, Try.ntmps19
  go_wp2
  go_loopw [8] (fun i wr => ∃ k : Nat, k ≤ xs.length ∧ i = .int .i64 k ∧ (∀ y ∈ xs.take k, eqB y x = false) ∧ Ext (w.alloc (.cells #[.int .i64 x.a, .int .i64 x.b, .bool x.same, .int .i64 x.time] 30)) wr) (fun i _ => xs.length - (intOf i).toNat)
  case atStart => exact ⟨0, Nat.zero_le _, rfl, by simp, Ext.refl _⟩
  case round =>
    obtain ⟨k, hk, rfl, hz, hx⟩ := hrel
    have HZ := hid hz
    clear hz
    have xw : Ext w wr := xB.trans hx
    by_cases hlt : k < xs.length
    · obtain ⟨b, off, rfl, hok, hc0, hc1, hc2, hc3⟩ := (h.mono xw).verdict hlt
      clear hok
      obtain ⟨d0, d1, d2, d3⟩ := HB.out _ hx
      have y0 : ∀ z : ExtOf wr, z.1.cell? ⟨b, off + k * 4, none⟩ = _ := fun z => z.2.cell hc0
      have y1 : ∀ z : ExtOf wr, z.1.cell? ⟨b, off + k * 4 + 1, none⟩ = _ := fun z => z.2.cell hc1
      have y2 : ∀ z : ExtOf wr, z.1.cell? ⟨b, off + k * 4 + 2, none⟩ = _ := fun z => z.2.cell hc2
      have y3 : ∀ z : ExtOf wr, z.1.cell? ⟨b, off + k * 4 + 3, none⟩ = _ := fun z => z.2.cell hc3
      have z0 : ∀ z : ExtOf wr, z.1.cell? ⟨w.heap.size, 0, none⟩ = _ := fun z => z.2.cell d0
      have z1 : ∀ z : ExtOf wr, z.1.cell? ⟨w.heap.size, 1, none⟩ = _ := fun z => z.2.cell d1
      have z2 : ∀ z : ExtOf wr, z.1.cell? ⟨w.heap.size, 2, none⟩ = _ := fun z => z.2.cell d2
      have z3 : ∀ z : ExtOf wr, z.1.cell? ⟨w.heap.size, 3, none⟩ = _ := fun z => z.2.cell d3
      rcases ver_cases x xs[k] with ⟨he, e1, e2, e3, e4⟩ | ⟨hne, hw⟩
      · have H0 := hid he
        clear he
        go_wp2_with fail
        refine wp_region_ext (by kernel_rfl) (by kernel_rfl) ?_
        repeat (go_big_quiet_step ((fail)))
        refine wpQuiet_nil ?_
        rintro w1 ⟨⟨_, x1⟩, rfl⟩
        go_wp2
        go_ret
        exact ⟨ret_int (idxF_at (fun y => eqB y x) xs k hlt HZ.out (eqB_true H0.out.symm)).symm, xw.trans x1⟩
      · have H0 := hid hne
        clear hne
        rcases hw with e1 | ⟨e1, e2⟩ | ⟨e1, e2, e3⟩ | ⟨e1, e2, e3, e4⟩
        all_goals
          go_wp2_with fail
          refine wp_region_ext (by kernel_rfl) (by kernel_rfl) ?_
          repeat (go_big_quiet_step ((fail)))
          refine wpQuiet_nil ?_
          rintro w1 ⟨⟨_, x1⟩, rfl⟩
          go_wp2
          go_roundw
        all_goals try (case rel => exact ⟨k + 1, by omega, by go_num, take_snoc_all (fun y => eqB y x = false) xs k hlt HZ.out (eqB_false (fun e => H0.out e.symm)), hx.trans x1⟩)
        all_goals (simp [intOf]; omega)
    · go_wp2
      go_ret
      exact ⟨ret_int (idxF_all (fun y => eqB y x) xs k hlt HZ.out).symm, xw⟩


end Go.Proofs.Ytblggajfdhjmjaa
