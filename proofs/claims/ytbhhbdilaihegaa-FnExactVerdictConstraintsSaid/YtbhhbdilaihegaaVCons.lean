/-
  PLAIN LAW AND WALKS: VerdictConstraints (both).
-/
import Derived.Test.YtbhhbdilaihegaaVerS
import Derived.Test.YtbhhbdilaihegaaCons
import Derived.Test.YtbhhbdilaihegaaFlat
import Derived.Test.YtbhhbdilaihegaaFind
namespace Go.Proofs.Ytbhhbdilaihegaa
open Go.RowKit

theorem infoCons : (Try.prog.info? 93).map (fun i => (i.zero, i.size, i.bytes)) = some (some (.agg #[.int .i64 0, .int .i64 0, .bool false]), 3, 24) := by kernel_rfl
theorem elemCons : ElemT Try.prog 30 93 constraintO.n 24 := by
  obtain ⟨i, h1, h2, h3, h4⟩ := info_parts infoCons
  exact ⟨Try.underlying30, i, _, h1, h2, h3, h4, rfl⟩
theorem one_iib (a b : Int) (c : Bool) : ∀ u ∈ (#[Value.int .i64 a, .int .i64 b, .bool c] : Array Value).toList, u.oneCell' = true := by simp [Value.oneCell']

def vcon (items : List Int) (v : Verdict) : List Constraint := if 0 ≤ idxI v.a items ∧ idxI v.a items < idxI v.b items then [⟨idxI v.a items, idxI v.b items, v.same⟩] else []
def vcons (items : List Int) (xs : List Verdict) : List Constraint := xs.flatMap (vcon items)
theorem vcon_len (items : List Int) (v : Verdict) : (vcon items v).length ≤ 1 := by unfold vcon; split <;> simp
theorem vcon_yes {items : List Int} {v : Verdict} (h : 0 ≤ idxI v.a items) (h2 : idxI v.a items < idxI v.b items) : vcon items v = [⟨idxI v.a items, idxI v.b items, v.same⟩] := by unfold vcon; rw [if_pos ⟨h, h2⟩]
theorem vcon_no {items : List Int} {v : Verdict} (h : ¬ (0 ≤ idxI v.a items ∧ idxI v.a items < idxI v.b items)) : vcon items v = [] := by unfold vcon; rw [if_neg h]

set_option maxHeartbeats 400000 in
set_option maxRecDepth 20000 in
theorem spec_VerdictConstraints (v u : Value) (xs : List Verdict) (items : List Int) (w : World) (h : Sl verdictR w v xs) (k0 : Sl intR w u items) (hb : xs.length ≤ 1048576) :
    Calls Try.prog 21 #[v, u] w fun e w2 => ∃ v2 F, e = .returned v2 ∧ OwnSl constraintO w2 v2 (vcons items xs) F ∧ NewF w F ∧ Ext w w2 := by
  obtain ⟨A, cap, rfl, hm⟩ := h.form
  obtain ⟨B, cap2, rfl, hm2⟩ := k0.form
  go_enter Try.func21, Try.ntmps21
  go_wp2
  go_loopw [5, 6] (fun t i wr => ∃ k : Nat, k ≤ xs.length ∧ i = .int .i64 k ∧ Bld constraintO wr w.heap.size 93 t ((xs.take k).flatMap (vcon items)) [] ∧ Ext w wr) (fun _ i _ => xs.length - (intOf i).toNat)
  case atStart => exact ⟨0, Nat.zero_le _, rfl, Bld.lit w (Nat.le_refl _) _, (Ext.refl _).alloc _⟩
  case round =>
    obtain ⟨k, hk, rfl, hB, hx⟩ := hrel
    by_cases hlt : k < xs.length
    · obtain ⟨b, off, rfl, hok, hc0, hc1, hc2, hc3⟩ := (h.mono hx).verdict hlt
      clear hok
      have HF := hid (flat_step (vcon items) xs k hlt)
      have hbl := flat_take_len (vcon items) (vcon_len items) xs k
      have hir := k0.mono hx
      have ba := idxI_bd xs[k].a items
      have bb := idxI_bd xs[k].b items
      by_cases h0 : 0 ≤ idxI xs[k].a items
      · by_cases h1 : idxI xs[k].a items < idxI xs[k].b items
        · have HY := hid (vcon_yes h0 h1)
          have ia : I64 (idxI xs[k].a items) := by unfold I64; omega
          have ib : I64 (idxI xs[k].b items) := by unfold I64; omega
          go_wp2_with (first | (go_at_call 70; refine (spec_l24Find _ items _ _ hir).mono ?_; rintro e w2 ⟨rfl, rfl⟩) | (at_builtin; refine wpList_app1 (R := constraintO) elemCons (by decide) rfl _ _ rfl hB rfl _ 1 rfl (by simp) (one_iib _ _ _) (y := ⟨idxI xs[k].a items, idxI xs[k].b items, xs[k].same⟩) ⟨⟨rfl, ⟨ia, ib⟩⟩, rfl⟩ fresh_nil (by omega) (by decide) hx.size ?_; intro v9 w9 hB9 hE9))
          go_roundw
          case rel => exact ⟨k + 1, by omega, by go_num, by rw [HF.out, HY.out]; exact hB9, hE9 w (Nat.le_refl _) hx⟩
          case measure => simp [intOf]; omega
        · have HY := hid (vcon_no (items := items) (v := xs[k]) fun h9 => h1 h9.2)
          go_wp2_with (go_at_call 70; refine (spec_l24Find _ items _ _ hir).mono ?_; rintro e w2 ⟨rfl, rfl⟩)
          go_roundw
          case rel => exact ⟨k + 1, by omega, by go_num, by rw [HF.out, HY.out, List.append_nil]; exact hB, hx⟩
          case measure => simp [intOf]; omega
      · have HY := hid (vcon_no (items := items) (v := xs[k]) fun h9 => h0 h9.1)
        have h0' : idxI xs[k].a items < 0 := by omega
        clear h0
        go_wp2_with (go_at_call 70; refine (spec_l24Find _ items _ _ hir).mono ?_; rintro e w2 ⟨rfl, rfl⟩)
        go_roundw
        case rel => exact ⟨k + 1, by omega, by go_num, by rw [HF.out, HY.out, List.append_nil]; exact hB, hx⟩
        case measure => simp [intOf]; omega
    · go_wp2
      go_ret
      rw [List.take_of_length_le (by omega)] at hB
      obtain ⟨F', d1, d2, d3⟩ := hB.done
      exact ⟨_, F', rfl, d1, ⟨d2, d3⟩, hx⟩

set_option maxHeartbeats 400000 in
set_option maxRecDepth 20000 in
theorem impl_VerdictConstraints (v u : Value) (xs : List Verdict) (items : List Int) (w : World) (h : Sl verdictR w v xs) (k0 : Sl intR w u items) (hb : xs.length ≤ 1048576) :
    Calls Try.prog 23 #[v, u] w fun e w2 => ∃ v2 F, e = .returned v2 ∧ OwnSl constraintO w2 v2 (vcons items xs) F ∧ NewF w F ∧ Ext w w2 := by
  obtain ⟨A, cap, rfl, hm⟩ := h.form
  obtain ⟨B, cap2, rfl, hm2⟩ := k0.form
  go_enter Try.func23, Try.ntmps23
  go_wp2
  go_loopw [5, 12] (fun t i wr => ∃ k : Nat, k ≤ xs.length ∧ i = .int .i64 k ∧ Bld constraintO wr w.heap.size 93 t ((xs.take k).flatMap (vcon items)) [] ∧ Ext w wr) (fun _ i _ => xs.length - (intOf i).toNat)
  case atStart => exact ⟨0, Nat.zero_le _, rfl, Bld.nil w _ _, Ext.refl _⟩
  case round =>
    obtain ⟨k, hk, rfl, hB, hx⟩ := hrel
    by_cases hlt : k < xs.length
    · obtain ⟨b, off, rfl, hok, hc0, hc1, hc2, hc3⟩ := (h.mono hx).verdict hlt
      clear hok
      have HF := hid (flat_step (vcon items) xs k hlt)
      have hbl := flat_take_len (vcon items) (vcon_len items) xs k
      have ba := idxI_bd xs[k].a items
      have bb := idxI_bd xs[k].b items
      have hir : ∀ z : ExtOf (wr.alloc (.cells #[.int .i64 xs[k].a, .int .i64 xs[k].b, .bool xs[k].same, .int .i64 xs[k].time] 44)), Sl intR z.1 (.slice B items.length cap2) items := fun z => k0.mono ((hx.alloc _).trans z.2)
      have HIR := hid hir
      clear hir
      have hzb : ∀ z : ExtOf (wr.alloc (.cells #[.int .i64 xs[k].a, .int .i64 xs[k].b, .bool xs[k].same, .int .i64 xs[k].time] 44)), z.1.cell? ⟨wr.heap.size, 0, none⟩ = some (.int .i64 xs[k].a) ∧ z.1.cell? ⟨wr.heap.size, 1, none⟩ = some (.int .i64 xs[k].b) := fun z => ⟨z.2.box.1 0, z.2.box.1 1⟩
      go_wp2_with fail
      refine wp_region_ext (by kernel_rfl) (by kernel_rfl) ?_
      repeat (go_big_quiet_step (((go_at_call 71; exact quiet_same (slices_Index _ items _ _ (HIR.out _))))))
      refine wpQuiet_nil ?_
      rintro w4 ⟨⟨_, x4⟩, rfl⟩
      have c2 : w4.cell? ⟨wr.heap.size, 2, none⟩ = some (.bool xs[k].same) := x4.box.1 2
      have x5 : Ext wr w4 := ((Ext.refl _).alloc _).trans x4
      clear hzb
      by_cases h0 : 0 ≤ idxI xs[k].a items
      · by_cases h1 : idxI xs[k].a items < idxI xs[k].b items
        · have HY := hid (vcon_yes h0 h1)
          have ia : I64 (idxI xs[k].a items) := by unfold I64; omega
          have ib : I64 (idxI xs[k].b items) := by unfold I64; omega
          go_wp2_with (at_builtin; refine wpList_app1 (R := constraintO) elemCons (by decide) rfl _ _ rfl (hB.ext x5) rfl _ 1 rfl (by simp) (one_iib _ _ _) (y := ⟨idxI xs[k].a items, idxI xs[k].b items, xs[k].same⟩) ⟨⟨rfl, ⟨ia, ib⟩⟩, rfl⟩ fresh_nil (by omega) (by decide) (Nat.le_trans hx.size x5.size) ?_; intro v9 w9 hB9 hE9)
          go_roundw
          case rel => exact ⟨k + 1, by omega, by go_num, by rw [HF.out, HY.out]; exact hB9, hE9 w (Nat.le_refl _) (hx.trans x5)⟩
          case measure => simp [intOf]; omega
        · have HY := hid (vcon_no (items := items) (v := xs[k]) fun h9 => h1 h9.2)
          go_wp2
          go_roundw
          case rel => exact ⟨k + 1, by omega, by go_num, by rw [HF.out, HY.out, List.append_nil]; exact hB.ext x5, hx.trans x5⟩
          case measure => simp [intOf]; omega
      · have HY := hid (vcon_no (items := items) (v := xs[k]) fun h9 => h0 h9.1)
        have h0' : idxI xs[k].a items < 0 := by omega
        clear h0
        go_wp2
        go_roundw
        case rel => exact ⟨k + 1, by omega, by go_num, by rw [HF.out, HY.out, List.append_nil]; exact hB.ext x5, hx.trans x5⟩
        case measure => simp [intOf]; omega
    · go_wp2
      go_ret
      rw [List.take_of_length_le (by omega)] at hB
      obtain ⟨F', d1, d2, d3⟩ := hB.done
      exact ⟨_, F', rfl, d1, ⟨d2, d3⟩, hx⟩
end Go.Proofs.Ytbhhbdilaihegaa
