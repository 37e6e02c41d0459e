/-
  WALKS: EqualEntities (both), slices.EqualFunc at entities.
-/
import Derived.Test.YtfcbapaojoecgabMgEndCarId1
import Derived.Test.YtfcbapaojoecgabMgEndCarId0

namespace Go.Proofs.Ytfcbapaojoecgab
open Go.RowKit

set_option maxHeartbeats 400000 in
theorem EqualFunc_ent (v u : Value) (xs ys : List Entity) (fn : FuncId) (cp : Array Value) (w : World) (h : Sl entityR w v xs) (k : Sl entityR w u ys)
    (hfn : ∀ (args : Array Value) (W : World), Sem.run Try.prog (callFunc fn args) W = .ok (.enter fn args) W)
    (hf : ∀ wz a b x y, EntAt wz a x → EntAt wz b y → Calls Try.prog fn (#[a, b] ++ cp) wz fun e w2 => e = .returned (.bool (eqB x y)) ∧ Ext wz w2) :
    Calls Try.prog 57 #[v, u, .func (.func fn) #[] cp] w fun e w2 => e = .returned (.bool (eqB xs ys)) ∧ Ext w w2 := by
  obtain ⟨A, cap, rfl, hm⟩ := h.form
  obtain ⟨B, cap2, rfl, hm2⟩ := k.form
  by_cases hl : xs.length = ys.length
  · have hl' : ((xs.length : Int) != (ys.length : Int)) = false := by simp [hl]
    have HL := hid hl
    clear hl
    go_enter Try.func57, Try.ntmps57
    go_wp2
    go_loopw [17] (fun i wr => ∃ k2 : Nat, k2 ≤ xs.length ∧ i = .int .i64 k2 ∧ xs.take k2 = ys.take k2 ∧ Ext w wr) (fun i _ => xs.length - (intOf i).toNat)
    case atStart => exact ⟨0, Nat.zero_le _, rfl, by simp, Ext.refl _⟩
    case round =>
      obtain ⟨k2, hk, rfl, he, hx⟩ := hrel
      have HE := hid he
      clear he
      by_cases hlt : k2 < xs.length
      · have hlt2 : k2 < ys.length := by have := HL.out; omega
        obtain ⟨b, off, A2, cap3, rfl, hI, hi, hc, hd⟩ := (h.mono hx).ent hlt
        obtain ⟨b2, off2, A3, cap4, rfl, hI2, hi2, hc2, hd2⟩ := (k.mono hx).ent hlt2
        have hc3 : (wr.alloc (.cells #[.int .i64 xs[k2].id, .slice A2 xs[k2].members.length cap3] 42)).cell? ⟨b2, off2 + k2 * 2, none⟩ = _ := ((Ext.refl _).alloc _).cell hc2
        have hd3 : (wr.alloc (.cells #[.int .i64 xs[k2].id, .slice A2 xs[k2].members.length cap3] 42)).cell? ⟨b2, off2 + k2 * 2 + 1, none⟩ = _ := ((Ext.refl _).alloc _).cell hd2
        go_wp2_with fail
        refine (hf _ _ _ xs[k2] ys[k2] ⟨_, rfl, hI, hi.mono (by repeat (first | with_reducible exact Ext.refl _ | with_reducible assumption | with_reducible refine Ext.drew ?_ | with_reducible refine Ext.alloc ?_ _ | (refine Ext.setCell ?_ (by simp) _) | with_reducible refine Ext.trans ?_ (by with_reducible assumption)))⟩ ⟨_, rfl, hI2, hi2.mono (by repeat (first | with_reducible exact Ext.refl _ | with_reducible assumption | with_reducible refine Ext.drew ?_ | with_reducible refine Ext.alloc ?_ _ | (refine Ext.setCell ?_ (by simp) _) | with_reducible refine Ext.trans ?_ (by with_reducible assumption)))⟩).mono ?_
        rintro e w2 ⟨rfl, x2⟩
        by_cases h0 : xs[k2] = ys[k2]
        · rw [eqB_true h0]
          have H0 := hid h0
          clear h0
          go_wp2
          go_roundw
          case rel => exact ⟨k2 + 1, by omega, by go_num, take_snoc_eq hlt hlt2 H0.out HE.out, (by repeat (first | with_reducible exact Ext.refl _ | with_reducible assumption | with_reducible refine Ext.drew ?_ | with_reducible refine Ext.alloc ?_ _ | with_reducible refine Ext.trans ?_ (by with_reducible assumption)))⟩
          case measure => simp [intOf]; omega
        · rw [eqB_false h0]
          have H0 := hid h0
          clear h0
          go_wp2
          go_ret
          exact ⟨ret_bool (eqB_false (ne_of_at hlt hlt2 H0.out)).symm, (by repeat (first | with_reducible exact Ext.refl _ | with_reducible assumption | with_reducible refine Ext.drew ?_ | with_reducible refine Ext.alloc ?_ _ | with_reducible refine Ext.trans ?_ (by with_reducible assumption)))⟩
      · go_wp2
        go_ret
        exact ⟨ret_bool (eqB_true (eq_of_take hlt HL.out HE.out)).symm, hx⟩
  · have hl' : ((xs.length : Int) != (ys.length : Int)) = true := by simp; omega
    go_enter Try.func57, Try.ntmps57
    go_wp2
    go_ret
    exact ⟨ret_bool (eqB_false fun e => hl (by rw [e])).symm, Ext.refl _⟩

set_option maxHeartbeats 400000 in
theorem impl_EqualEntities_1 (v u : Value) (x y : Entity) (w : World) (h : EntAt w v x) (k : EntAt w u y) :
    Calls Try.prog 58 #[v, u] w fun e w2 => e = .returned (.bool (eqB x y)) ∧ Ext w w2 := by
  obtain ⟨f, rfl, hok, hs⟩ := h
  obtain ⟨g, rfl, hok2, hs2⟩ := k
  by_cases h1 : x.id = y.id
  · have b1 : (x.id == y.id) = true := by simp [h1]
    have H := hid h1
    clear h1
    go_enter Try.func58, Try.ntmps58
    go_wp2_with fail
    refine (slices_Equal _ _ x.members y.members _ (hs.mono (by repeat (first | with_reducible exact Ext.refl _ | with_reducible assumption | with_reducible refine Ext.drew ?_ | with_reducible refine Ext.alloc ?_ _ | with_reducible refine Ext.trans ?_ (by with_reducible assumption)))) (hs2.mono (by repeat (first | with_reducible exact Ext.refl _ | with_reducible assumption | with_reducible refine Ext.drew ?_ | with_reducible refine Ext.alloc ?_ _ | with_reducible refine Ext.trans ?_ (by with_reducible assumption))))).mono ?_
    rintro e w2 ⟨rfl, x2⟩
    by_cases h4 : x.members = y.members
    · rw [eqB_true h4]
      have H4 := hid h4
      clear h4
      go_wp2
      go_ret
      exact ⟨ret_bool (eqB_true ((Entity.ext_iff2 x y).2 ⟨H.out, H4.out⟩)).symm, (by repeat (first | with_reducible exact Ext.refl _ | with_reducible assumption | with_reducible refine Ext.drew ?_ | with_reducible refine Ext.alloc ?_ _ | with_reducible refine Ext.trans ?_ (by with_reducible assumption)))⟩
    · rw [eqB_false h4]
      have H4 := hid h4
      clear h4
      go_wp2
      go_ret
      exact ⟨ret_bool (eqB_false fun e => H4.out (by rw [e])).symm, (by repeat (first | with_reducible exact Ext.refl _ | with_reducible assumption | with_reducible refine Ext.drew ?_ | with_reducible refine Ext.alloc ?_ _ | with_reducible refine Ext.trans ?_ (by with_reducible assumption)))⟩
  · have b1 : (x.id == y.id) = false := by simp [h1]
    have H := hid h1
    clear h1
    go_enter Try.func58, Try.ntmps58
    go_wp2
    go_ret
    exact ⟨ret_bool (eqB_false fun e => H.out (by rw [e])).symm, (by repeat (first | with_reducible exact Ext.refl _ | with_reducible assumption | with_reducible refine Ext.drew ?_ | with_reducible refine Ext.alloc ?_ _ | with_reducible refine Ext.trans ?_ (by with_reducible assumption)))⟩

set_option maxHeartbeats 400000 in
theorem impl_EqualEntities (v u : Value) (xs ys : List Entity) (w : World) (h : Sl entityR w v xs) (k : Sl entityR w u ys) :
    Calls Try.prog 19 #[v, u] w fun e w2 => e = .returned (.bool (eqB xs ys)) ∧ Ext w w2 := by
  go_enter Try.func19, Try.ntmps19
  go_wp2_with fail
  refine (EqualFunc_ent _ _ xs ys 58 #[] w h k (fun _ _ => by kernel_rfl) (fun wz a b x y hx hy => impl_EqualEntities_1 a b x y wz hx hy)).mono ?_
  rintro e w2 ⟨rfl, x2⟩
  go_wp2
  go_ret
  exact ⟨rfl, x2⟩

end Go.Proofs.Ytfcbapaojoecgab
