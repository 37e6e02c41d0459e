/-
  WALKS: EqualEntities (both), slices.EqualFunc at entities.
-/
import Derived.Test.YtenfgmpndpgbhaaEnt
import Derived.Test.YtenfgmpndpgbhaaCmpI
namespace Go.Proofs.Ytenfgmpndpgbhaa
open Go.RowKit

set_option maxHeartbeats 400000 in
theorem EqualFunc_ent (v u : Value) (xs ys : List Entity) (fn : FuncId) (cp : Array Value) (w : World) (h : Sl entityR w v xs) (k : Sl entityR w u ys)
    (hfn : ∀ (args : Array Value) (W : World), Sem.run Try.prog (callFunc fn args) W = .ok (.enter fn args) W)
    (hf : ∀ wz a b x y, EntAt wz a x → EntAt wz b y → Calls Try.prog fn (#[a, b] ++ cp) wz fun e w2 => e = .returned (.bool (eqB x y)) ∧ Ext wz w2) :
    Calls Try.prog 80 #[v, u, .func (.func fn) #[] cp] w fun e w2 => e = .returned (.bool (eqB xs ys)) ∧ Ext w w2 := by
  obtain ⟨A, cap, rfl, hm⟩ := h.form
  obtain ⟨B, cap2, rfl, hm2⟩ := k.form
  by_cases hl : xs.length = ys.length
  · have hl' : ((xs.length : Int) != (ys.length : Int)) = false := by simp [hl]
    have HL := hid hl
    clear hl
    go_enter Try.func80, Try.ntmps80
    go_wp2
    go_loopw [17] (fun i wr => ∃ k2 : Nat, k2 ≤ xs.length ∧ i = .int .i64 k2 ∧ xs.take k2 = ys.take k2 ∧ Ext w wr) (fun i _ => xs.length - (intOf i).toNat)
    case atStart => exact ⟨0, Nat.zero_le _, rfl, by simp, Ext.refl _⟩
    case round =>
      obtain ⟨k2, hk, rfl, he, hx⟩ := hrel
      have HE := hid he
      clear he
      by_cases hlt : k2 < xs.length
      · have hlt2 : k2 < ys.length := by have := HL.out; omega
        obtain ⟨b, off, A2, cap3, rfl, hI, hi, hc, hd⟩ := (h.mono hx).ent hlt
        obtain ⟨b2, off2, A3, cap4, rfl, hI2, hi2, hc2, hd2⟩ := (k.mono hx).ent hlt2
        have hc3 : (wr.alloc (.cells #[.int .i64 xs[k2].id, .slice A2 xs[k2].members.length cap3] 62)).cell? ⟨b2, off2 + k2 * 2, none⟩ = _ := ((Ext.refl _).alloc _).cell hc2
        have hd3 : (wr.alloc (.cells #[.int .i64 xs[k2].id, .slice A2 xs[k2].members.length cap3] 62)).cell? ⟨b2, off2 + k2 * 2 + 1, none⟩ = _ := ((Ext.refl _).alloc _).cell hd2
        go_wp2_with fail
        refine (hf _ _ _ xs[k2] ys[k2] ⟨_, rfl, hI, hi.mono (by repeat (first | with_reducible exact Ext.refl _ | with_reducible assumption | with_reducible refine Ext.drew ?_ | with_reducible refine Ext.alloc ?_ _ | (refine Ext.setCell ?_ (by simp) _) | with_reducible refine Ext.trans ?_ (by with_reducible assumption)))⟩ ⟨_, rfl, hI2, hi2.mono (by repeat (first | with_reducible exact Ext.refl _ | with_reducible assumption | with_reducible refine Ext.drew ?_ | with_reducible refine Ext.alloc ?_ _ | (refine Ext.setCell ?_ (by simp) _) | with_reducible refine Ext.trans ?_ (by with_reducible assumption)))⟩).mono ?_
        rintro e w2 ⟨rfl, x2⟩
        by_cases h0 : xs[k2] = ys[k2]
        · rw [eqB_true h0]
          have H0 := hid h0
          clear h0
          go_wp2
          go_roundw
          case rel => exact ⟨k2 + 1, by omega, by go_num, take_snoc_eq hlt hlt2 H0.out HE.out, (by repeat (first | with_reducible exact Ext.refl _ | with_reducible assumption | with_reducible refine Ext.drew ?_ | with_reducible refine Ext.alloc ?_ _ | with_reducible refine Ext.trans ?_ (by with_reducible assumption)))⟩
          case measure => simp [intOf]; omega
        · rw [eqB_false h0]
          have H0 := hid h0
          clear h0
          go_wp2
          go_ret
          exact ⟨ret_bool (eqB_false (ne_of_at hlt hlt2 H0.out)).symm, (by repeat (first | with_reducible exact Ext.refl _ | with_reducible assumption | with_reducible refine Ext.drew ?_ | with_reducible refine Ext.alloc ?_ _ | with_reducible refine Ext.trans ?_ (by with_reducible assumption)))⟩
      · go_wp2
        go_ret
        exact ⟨ret_bool (eqB_true (eq_of_take hlt HL.out HE.out)).symm, hx⟩
  · have hl' : ((xs.length : Int) != (ys.length : Int)) = true := by simp; omega
    go_enter Try.func80, Try.ntmps80
    go_wp2
    go_ret
    exact ⟨ret_bool (eqB_false fun e => hl (by rw [e])).symm, Ext.refl _⟩

set_option maxHeartbeats 400000 in
theorem impl_EqualEntities_1 (v u : Value) (x y : Entity) (w : World) (h : EntAt w v x) (k : EntAt w u y) :
    Calls Try.prog 81 #[v, u] w fun e w2 => e = .returned (.bool (eqB x y)) ∧ Ext w w2 := by
  obtain ⟨f, rfl, hok, hs⟩ := h
  obtain ⟨g, rfl, hok2, hs2⟩ := k
  by_cases h1 : x.id = y.id
  · have b1 : (x.id == y.id) = true := by simp [h1]
    have H := hid h1
    clear h1
    go_enter Try.func81, Try.ntmps81
    go_wp2_with fail
    refine (slices_Equal _ _ x.members y.members _ (hs.mono (by repeat (first | with_reducible exact Ext.refl _ | with_reducible assumption | with_reducible refine Ext.drew ?_ | with_reducible refine Ext.alloc ?_ _ | with_reducible refine Ext.trans ?_ (by with_reducible assumption)))) (hs2.mono (by repeat (first | with_reducible exact Ext.refl _ | with_reducible assumption | with_reducible refine Ext.drew ?_ | with_reducible refine Ext.alloc ?_ _ | with_reducible refine Ext.trans ?_ (by with_reducible assumption))))).mono ?_
    rintro e w2 ⟨rfl, x2⟩
    by_cases h4 : x.members = y.members
    · rw [eqB_true h4]
      have H4 := hid h4
      clear h4
      go_wp2
      go_ret
      exact ⟨ret_bool (eqB_true ((Entity.ext_iff2 x y).2 ⟨H.out, H4.out⟩)).symm, (by repeat (first | with_reducible exact Ext.refl _ | with_reducible assumption | with_reducible refine Ext.drew ?_ | with_reducible refine Ext.alloc ?_ _ | with_reducible refine Ext.trans ?_ (by with_reducible assumption)))⟩
    · rw [eqB_false h4]
      have H4 := hid h4
      clear h4
      go_wp2
      go_ret
      exact ⟨ret_bool (eqB_false fun e => H4.out (by rw [e])).symm, (by repeat (first | with_reducible exact Ext.refl _ | with_reducible assumption | with_reducible refine Ext.drew ?_ | with_reducible refine Ext.alloc ?_ _ | with_reducible refine Ext.trans ?_ (by with_reducible assumption)))⟩
  · have b1 : (x.id == y.id) = false := by simp [h1]
    have H := hid h1
    clear h1
    go_enter Try.func81, Try.ntmps81
    go_wp2
    go_ret
    exact ⟨ret_bool (eqB_false fun e => H.out (by rw [e])).symm, (by repeat (first | with_reducible exact Ext.refl _ | with_reducible assumption | with_reducible refine Ext.drew ?_ | with_reducible refine Ext.alloc ?_ _ | with_reducible refine Ext.trans ?_ (by with_reducible assumption)))⟩

set_option maxHeartbeats 400000 in
theorem impl_EqualEntities (v u : Value) (xs ys : List Entity) (w : World) (h : Sl entityR w v xs) (k : Sl entityR w u ys) :
    Calls Try.prog 44 #[v, u] w fun e w2 => e = .returned (.bool (eqB xs ys)) ∧ Ext w w2 := by
  go_enter Try.func44, Try.ntmps44
  go_wp2_with fail
  refine (EqualFunc_ent _ _ xs ys 81 #[] w h k (fun _ _ => by kernel_rfl) (fun wz a b x y hx hy => impl_EqualEntities_1 a b x y wz hx hy)).mono ?_
  rintro e w2 ⟨rfl, x2⟩
  go_wp2
  go_ret
  exact ⟨rfl, x2⟩

set_option maxHeartbeats 400000 in
theorem spec_EqualEntities (v u : Value) (xs ys : List Entity) (w : World) (h : Sl entityR w v xs) (k : Sl entityR w u ys) :
    Calls Try.prog 43 #[v, u] w fun e w2 => e = .returned (.bool (eqB xs ys)) ∧ Ext w w2 := by
  obtain ⟨A, cap, rfl, hm⟩ := h.form
  obtain ⟨B, cap2, rfl, hm2⟩ := k.form
  by_cases hl : xs.length = ys.length
  · have hl' : ((xs.length : Int) != (ys.length : Int)) = false := by simp [hl]
    have HL := hid hl
    clear hl
    go_enter Try.func43, Try.ntmps43
    go_wp2
    go_loopw [5] (fun i wr => ∃ k2 : Nat, k2 ≤ xs.length ∧ i = .int .i64 k2 ∧ xs.take k2 = ys.take k2 ∧ Ext w wr) (fun i _ => xs.length - (intOf i).toNat)
    case atStart => exact ⟨0, Nat.zero_le _, rfl, by simp, Ext.refl _⟩
    case round =>
      obtain ⟨k2, hk, rfl, he, hx⟩ := hrel
      have HE := hid he
      clear he
      by_cases hlt : k2 < xs.length
      · have hlt2 : k2 < ys.length := by have := HL.out; omega
        obtain ⟨b, off, A2, cap3, rfl, hI, hi, hc, hd⟩ := (h.mono hx).ent hlt
        obtain ⟨b2, off2, A3, cap4, rfl, hI2, hi2, hc2, hd2⟩ := (k.mono hx).ent hlt2
        have hcz : ∀ z : ExtOf wr, z.1.cell? ⟨b, off + k2 * 2, none⟩ = _ := fun z => z.2.cell hc
        have hcz2 : ∀ z : ExtOf wr, z.1.cell? ⟨b2, off2 + k2 * 2, none⟩ = _ := fun z => z.2.cell hc2
        have hdz : ∀ z : ExtOf wr, z.1.cell? ⟨b, off + k2 * 2 + 1, none⟩ = _ := fun z => z.2.cell hd
        have hdz2 : ∀ z : ExtOf wr, z.1.cell? ⟨b2, off2 + k2 * 2 + 1, none⟩ = _ := fun z => z.2.cell hd2
        by_cases h1 : xs[k2].id = ys[k2].id
        · have b1 : (xs[k2].id != ys[k2].id) = false := by simp [h1]
          have H := hid h1
          clear h1
          by_cases h4 : xs[k2].members = ys[k2].members
          · have h5 : cmpL xs[k2].members ys[k2].members = 0 := cmpL_zero.2 h4
            have H4 := hid h4
            clear h4
            go_wp2_with fail
            refine wp_region_ext (by kernel_rfl) (by kernel_rfl) ?_
            repeat (go_big_quiet_step ((first | (go_at_call 79; exact quiet_ext (Calls.mono ((spec_l8Ints _ _ xs[k2].members ys[k2].members _ (hi.mono (Subtype.property _)) (hi2.mono (Subtype.property _)))) fun _ _ h9 => ⟨h9.1.trans (ret_int h5), h9.2⟩)))))
            refine wpQuiet_nil ?_
            rintro w1 ⟨⟨_, x1⟩, rfl⟩
            go_wp2
            go_roundw
            case rel => exact ⟨k2 + 1, by omega, by go_num, take_snoc_eq hlt hlt2 ((Entity.ext_iff2 _ _).2 ⟨H.out, H4.out⟩) HE.out, hx.trans x1⟩
            case measure => simp [intOf]; omega
          · have h5 : (cmpL xs[k2].members ys[k2].members != 0) = true := by simp [cmpL_zero, h4]
            have H4 := hid h4
            have h64 := cmpL_64 xs[k2].members ys[k2].members
            clear h4
            go_wp2_with fail
            refine wp_region_ext (by kernel_rfl) (by kernel_rfl) ?_
            repeat (go_big_quiet_step ((first | (go_at_call 79; exact quiet_ext ((spec_l8Ints _ _ xs[k2].members ys[k2].members _ (hi.mono (Subtype.property _)) (hi2.mono (Subtype.property _))))))))
            refine wpQuiet_nil ?_
            rintro w1 ⟨⟨_, x1⟩, rfl⟩
            go_wp2
            go_ret
            exact ⟨ret_bool (eqB_false (ne_of_at hlt hlt2 fun e => H4.out (by rw [e]))).symm, hx.trans x1⟩
        · have b1 : (xs[k2].id != ys[k2].id) = true := by simp [h1]
          have H := hid h1
          clear h1
          go_wp2_with fail
          refine wp_region_ext (by kernel_rfl) (by kernel_rfl) ?_
          repeat (go_big_quiet_step ((fail)))
          refine wpQuiet_nil ?_
          rintro w1 ⟨⟨_, x1⟩, rfl⟩
          go_wp2
          go_ret
          exact ⟨ret_bool (eqB_false (ne_of_at hlt hlt2 fun e => H.out (by rw [e]))).symm, hx.trans x1⟩
      · go_wp2
        go_ret
        exact ⟨ret_bool (eqB_true (eq_of_take hlt HL.out HE.out)).symm, hx⟩
  · have hl' : ((xs.length : Int) != (ys.length : Int)) = true := by simp; omega
    go_enter Try.func43, Try.ntmps43
    go_wp2
    go_ret
    exact ⟨ret_bool (eqB_false fun e => hl (by rw [e])).symm, Ext.refl _⟩
end Go.Proofs.Ytenfgmpndpgbhaa
