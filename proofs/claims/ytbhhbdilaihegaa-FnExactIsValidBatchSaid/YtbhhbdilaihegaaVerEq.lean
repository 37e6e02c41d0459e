/-
  PLAIN LAW AND WALK: '==' on verdicts; slices.Equal at verdicts.
-/
import Derived.Test.YtbhhbdilaihegaaVerS
namespace Go.Proofs.Ytbhhbdilaihegaa
open Go.RowKit

theorem ver_cases (x y : Verdict) : (x = y ∧ (x.a == y.a) = true ∧ (x.b == y.b) = true ∧ (x.same == y.same) = true ∧ (x.time == y.time) = true) ∨
    (¬ x = y ∧ ((x.a == y.a) = false ∨ ((x.a == y.a) = true ∧ (x.b == y.b) = false) ∨ ((x.a == y.a) = true ∧ (x.b == y.b) = true ∧ (x.same == y.same) = false) ∨ ((x.a == y.a) = true ∧ (x.b == y.b) = true ∧ (x.same == y.same) = true ∧ (x.time == y.time) = false))) := by
  by_cases h1 : x.a = y.a
  · by_cases h2 : x.b = y.b
    · by_cases h3 : x.same = y.same
      · by_cases h4 : x.time = y.time
        · exact .inl ⟨(Verdict.eta x y).2 ⟨h1, h2, h3, h4⟩, by simp [h1], by simp [h2], by simp [h3], by simp [h4]⟩
        · exact .inr ⟨fun e => h4 (by rw [e]), .inr (.inr (.inr ⟨by simp [h1], by simp [h2], by simp [h3], by simp [h4]⟩))⟩
      · exact .inr ⟨fun e => h3 (by rw [e]), .inr (.inr (.inl ⟨by simp [h1], by simp [h2], by simp [h3]⟩))⟩
    · exact .inr ⟨fun e => h2 (by rw [e]), .inr (.inl ⟨by simp [h1], by simp [h2]⟩)⟩
  · exact .inr ⟨fun e => h1 (by rw [e]), .inl (by simp [h1])⟩

set_option maxHeartbeats 400000 in
set_option maxRecDepth 20000 in
theorem slices_Equal_v (v u : Value) (xs ys : List Verdict) (w : World) (h : Sl verdictR w v xs) (k : Sl verdictR w u ys) :
    Calls Try.prog 96 #[v, u] w fun e w2 => e = .returned (.bool (eqB xs ys)) ∧ Ext w w2 := by
  obtain ⟨A, cap, rfl, hm⟩ := h.form
  obtain ⟨B, cap2, rfl, hm2⟩ := k.form
  by_cases hl : xs.length = ys.length
  · have hl' : ((xs.length : Int) != (ys.length : Int)) = false := by simp [hl]
    have HL := hid hl
    clear hl
    go_enter Try.func96, Try.ntmps96
    go_wp2
    go_loopw [13] (fun i wr => ∃ k2 : Nat, k2 ≤ xs.length ∧ i = .int .i64 k2 ∧ xs.take k2 = ys.take k2 ∧ Ext w wr) (fun i _ => xs.length - (intOf i).toNat)
    case atStart => exact ⟨0, Nat.zero_le _, rfl, by simp, Ext.refl _⟩
    case round =>
      obtain ⟨k2, hk, rfl, he, hx⟩ := hrel
      have HE := hid he
      clear he
      by_cases hlt : k2 < xs.length
      · have hlt2 : k2 < ys.length := by have := HL.out; omega
        obtain ⟨b, off, rfl, hok, hc0, hc1, hc2, hc3⟩ := (h.mono hx).verdict hlt
        obtain ⟨b2, off2, rfl, hok2, hd0, hd1, hd2, hd3⟩ := (k.mono hx).verdict hlt2
        clear hok hok2
        have y0 : ∀ z : ExtOf wr, z.1.cell? ⟨b, off + k2 * 4, none⟩ = _ := fun z => z.2.cell hc0
        have y1 : ∀ z : ExtOf wr, z.1.cell? ⟨b, off + k2 * 4 + 1, none⟩ = _ := fun z => z.2.cell hc1
        have y2 : ∀ z : ExtOf wr, z.1.cell? ⟨b, off + k2 * 4 + 2, none⟩ = _ := fun z => z.2.cell hc2
        have y3 : ∀ z : ExtOf wr, z.1.cell? ⟨b, off + k2 * 4 + 3, none⟩ = _ := fun z => z.2.cell hc3
        have z0 : ∀ z : ExtOf wr, z.1.cell? ⟨b2, off2 + k2 * 4, none⟩ = _ := fun z => z.2.cell hd0
        have z1 : ∀ z : ExtOf wr, z.1.cell? ⟨b2, off2 + k2 * 4 + 1, none⟩ = _ := fun z => z.2.cell hd1
        have z2 : ∀ z : ExtOf wr, z.1.cell? ⟨b2, off2 + k2 * 4 + 2, none⟩ = _ := fun z => z.2.cell hd2
        have z3 : ∀ z : ExtOf wr, z.1.cell? ⟨b2, off2 + k2 * 4 + 3, none⟩ = _ := fun z => z.2.cell hd3
        rcases ver_cases xs[k2] ys[k2] with ⟨he, e1, e2, e3, e4⟩ | ⟨hne, hw⟩
        · have H0 := hid he
          clear he
          go_wp2_with fail
          refine wp_region_ext (by kernel_rfl) (by kernel_rfl) ?_
          repeat (go_big_quiet_step ((fail)))
          refine wpQuiet_nil ?_
          rintro w1 ⟨⟨_, x1⟩, rfl⟩
          go_wp2
          go_roundw
          case rel => exact ⟨k2 + 1, by omega, by go_num, take_snoc_eq hlt hlt2 H0.out HE.out, hx.trans x1⟩
          case measure => simp [intOf]; omega
        · have H0 := hid hne
          clear hne
          rcases hw with e1 | ⟨e1, e2⟩ | ⟨e1, e2, e3⟩ | ⟨e1, e2, e3, e4⟩
          all_goals
            go_wp2_with fail
            refine wp_region_ext (by kernel_rfl) (by kernel_rfl) ?_
            repeat (go_big_quiet_step ((fail)))
            refine wpQuiet_nil ?_
            rintro w1 ⟨⟨_, x1⟩, rfl⟩
            go_wp2
            go_ret
            exact ⟨ret_bool (eqB_false (ne_of_at hlt hlt2 H0.out)).symm, hx.trans x1⟩
      · go_wp2
        go_ret
        exact ⟨ret_bool (eqB_true (eq_of_take hlt HL.out HE.out)).symm, hx⟩
  · have hl' : ((xs.length : Int) != (ys.length : Int)) = true := by simp; omega
    go_enter Try.func96, Try.ntmps96
    go_wp2
    go_ret
    exact ⟨ret_bool (eqB_false fun e => hl (by rw [e])).symm, Ext.refl _⟩
end Go.Proofs.Ytbhhbdilaihegaa
