/-
  WALKS: IsValidBatch (both).
-/
import Derived.Test.YtfcbapaojoecgaaGreatMgEndAppB11
import Derived.Test.YtfcbapaojoecgaaGreatMgEndAppB10

namespace Go.Proofs.YtfcbapaojoecgaaGreat
open Go.RowKit

noncomputable def okBat (b : Batch) : Bool := decide (b.ops.length ≤ 6) && b.ops.all okOp
theorem any_okOp (xs : List Op) : (xs.any fun s => !okOp s) = !xs.all okOp := by
  induction xs with
  | nil => rfl
  | cons x xs ih => rw [List.any_cons, List.all_cons, ih]; cases okOp x <;> rfl
theorem okOp_stop (xs : List Op) (k : Nat) (h : k < xs.length) (hb : okOp xs[k] = false) : xs.all okOp = false := by
  cases e : xs.all okOp with
  | false => rfl
  | true => have := List.all_eq_true.1 e xs[k] (List.getElem_mem h); rw [hb] at this; cases this

set_option maxHeartbeats 400000 in
set_option maxRecDepth 20000 in
theorem IndexFunc_op (v : Value) (xs : List Op) (p : Op → Bool) (fn : FuncId) (cp : Array Value) (w : World) (h : Sl opR w v xs)
    (hfn : ∀ (args : Array Value) (W : World), Sem.run Tryz.prog (callFunc fn args) W = .ok (.enter fn args) W)
    (hf : ∀ wz a x, Ext w wz → OpAt wz a x → Calls Tryz.prog fn (#[a] ++ cp) wz fun e w2 => e = .returned (.bool (p x)) ∧ Ext wz w2) :
    Calls Tryz.prog 135 #[v, .func (.func fn) #[] cp] w fun e w2 => e = .returned (.int .i64 (idxF p 0 xs)) ∧ Ext w w2 := by
  obtain ⟨A, cap, rfl, hm⟩ := h.form
  go_enter Tryz.func135, Tryz.ntmps135
  go_wp2
  go_loopw [8] (fun i wr => ∃ k : Nat, k ≤ xs.length ∧ i = .int .i64 k ∧ (∀ x ∈ xs.take k, p x = false) ∧ Ext w wr) (fun i _ => xs.length - (intOf i).toNat)
  case atStart => exact ⟨0, Nat.zero_le _, rfl, by simp, Ext.refl _⟩
  case round =>
    obtain ⟨k, hk, rfl, hz, hx⟩ := hrel
    have HZ := hid hz
    clear hz
    by_cases hlt : k < xs.length
    · obtain ⟨b, off, A2, cap2, rfl, hok, hsl, hc0, hc1, hc2, hc3, hc4, hc5, hc6, hc7, hc8⟩ := (h.mono hx).op hlt
      go_wp2_with fail
      refine (hf wr _ xs[k] hx ⟨_, rfl, hok, hsl⟩).mono ?_
      rintro e w2 ⟨rfl, x2⟩
      by_cases hp : p xs[k] = true
      · rw [hp]
        go_wp2
        go_ret
        exact ⟨ret_int (idxF_at p xs k hlt HZ.out hp).symm, hx.trans x2⟩
      · have hp' : p xs[k] = false := by simpa using hp
        have HP := hid hp'
        rw [hp']
        clear hp hp'
        go_wp2
        go_roundw
        case rel => exact ⟨k + 1, by omega, by go_num, take_snoc_all _ xs k hlt HZ.out HP.out, hx.trans x2⟩
        case measure => simp [intOf]; omega
    · go_wp2
      go_ret
      exact ⟨ret_int (idxF_all p xs k hlt HZ.out).symm, hx⟩

set_option maxHeartbeats 400000 in
theorem ContainsFunc_op (v : Value) (xs : List Op) (p : Op → Bool) (fn : FuncId) (cp : Array Value) (w : World) (h : Sl opR w v xs)
    (hfn : ∀ (args : Array Value) (W : World), Sem.run Tryz.prog (callFunc fn args) W = .ok (.enter fn args) W)
    (hf : ∀ wz a x, Ext w wz → OpAt wz a x → Calls Tryz.prog fn (#[a] ++ cp) wz fun e w2 => e = .returned (.bool (p x)) ∧ Ext wz w2) :
    Calls Tryz.prog 92 #[v, .func (.func fn) #[] cp] w fun e w2 => e = .returned (.bool (xs.any p)) ∧ Ext w w2 := by
  go_enter Tryz.func92, Tryz.ntmps92
  go_wp2_with fail
  refine (IndexFunc_op v xs p fn cp w h hfn hf).mono ?_
  rintro e w2 ⟨rfl, x2⟩
  have ha := idxF_any p xs 0
  go_wp2
  go_ret
  exact ⟨by rw [← ha]; rfl, x2⟩

set_option maxHeartbeats 400000 in
set_option maxRecDepth 20000 in
theorem impl_IsValidBatch_1 (v : Value) (o : Op) (w : World) (h : OpAt w v o) :
    Calls Tryz.prog 93 #[v] w fun e w2 => e = .returned (.bool (!okOp o)) ∧ Ext w w2 := by
  obtain ⟨f, rfl, hok, hs⟩ := h
  go_enter Tryz.func93, Tryz.ntmps93
  go_wp2_with fail
  refine (impl_IsValidOp _ o _ ⟨_, rfl, hok, hs.mono (by repeat (first | with_reducible exact Ext.refl _ | with_reducible assumption | with_reducible refine Ext.drew ?_ | with_reducible refine Ext.alloc ?_ _ | (refine Ext.setCell ?_ (by simp) _) | with_reducible refine Ext.trans ?_ (by with_reducible assumption)))⟩).mono ?_
  rintro e w2 ⟨rfl, x2⟩
  go_wp2
  go_ret
  exact ⟨rfl, (by repeat (first | with_reducible exact Ext.refl _ | with_reducible assumption | with_reducible refine Ext.drew ?_ | with_reducible refine Ext.alloc ?_ _ | (refine Ext.setCell ?_ (by simp) _) | with_reducible refine Ext.trans ?_ (by with_reducible assumption)))⟩

set_option maxHeartbeats 400000 in
set_option maxRecDepth 20000 in
theorem impl_IsValidBatch (v : Value) (b : Batch) (w : World) (h : BatAt w v b) :
    Calls Tryz.prog 45 #[v] w fun e w2 => e = .returned (.bool (okBat b)) ∧ Ext w w2 := by
  obtain ⟨f, rfl, _, hs⟩ := h
  obtain ⟨A, cap, rfl, hm⟩ := hs.form
  by_cases h6 : b.ops.length ≤ 6
  · have H6 := hid h6
    go_enter Tryz.func45, Tryz.ntmps45
    go_wp2_with fail
    refine (ContainsFunc_op _ b.ops (fun s => !okOp s) 93 #[] _ (hs.mono (by repeat (first | with_reducible exact Ext.refl _ | with_reducible assumption | with_reducible refine Ext.drew ?_ | with_reducible refine Ext.alloc ?_ _ | (refine Ext.setCell ?_ (by simp) _) | with_reducible refine Ext.trans ?_ (by with_reducible assumption)))) (fun _ _ => by kernel_rfl) (fun wz a x _ hx => impl_IsValidBatch_1 a x wz hx)).mono ?_
    rintro e w2 ⟨rfl, x2⟩
    rw [any_okOp]
    go_wp2
    go_ret
    exact ⟨ret_bool (by unfold okBat; rw [decide_eq_true H6.out]; simp), (by repeat (first | with_reducible exact Ext.refl _ | with_reducible assumption | with_reducible refine Ext.drew ?_ | with_reducible refine Ext.alloc ?_ _ | (refine Ext.setCell ?_ (by simp) _) | with_reducible refine Ext.trans ?_ (by with_reducible assumption)))⟩
  · have H6 := hid h6
    have h7 : 6 < b.ops.length := by omega
    clear h6
    go_enter Tryz.func45, Tryz.ntmps45
    go_wp2
    go_ret
    exact ⟨ret_bool (by unfold okBat; rw [decide_eq_false H6.out]; rfl), (by repeat (first | with_reducible exact Ext.refl _ | with_reducible assumption | with_reducible refine Ext.drew ?_ | with_reducible refine Ext.alloc ?_ _ | (refine Ext.setCell ?_ (by simp) _) | with_reducible refine Ext.trans ?_ (by with_reducible assumption)))⟩

set_option maxHeartbeats 400000 in
set_option maxRecDepth 20000 in
theorem spec_IsValidBatch (v : Value) (b : Batch) (w : World) (h : BatAt w v b) :
    Calls Tryz.prog 36 #[v] w fun e w2 => e = .returned (.bool (okBat b)) ∧ Ext w w2 := by
  obtain ⟨f, rfl, _, hs⟩ := h
  obtain ⟨A, cap, rfl, hm⟩ := hs.form
  go_enter Tryz.func36, Tryz.ntmps36
  go_wp2
  go_loopw [3] (fun i wr => ∃ k : Nat, k ≤ b.ops.length ∧ i = .int .i64 k ∧ (b.ops.take k).all okOp = true ∧ Ext (w.alloc (.cells #[.slice A b.ops.length cap] 40)) wr) (fun i _ => b.ops.length - (intOf i).toNat)
  case atStart => exact ⟨0, Nat.zero_le _, rfl, rfl, Ext.refl _⟩
  case round =>
    obtain ⟨k, hk, rfl, ha, hx⟩ := hrel
    have HA := hid ha
    clear ha
    have cb := hx.box.1 0
    by_cases hlt : k < b.ops.length
    · obtain ⟨b1, off, A2, cap2, rfl, hok, hsl, hc0, hc1, hc2, hc3, hc4, hc5, hc6, hc7, hc8⟩ := (hs.mono (((Ext.refl _).alloc _).trans hx)).op hlt
      go_wp2_with fail
      refine (spec_IsValidOp _ b.ops[k] _ ⟨_, rfl, hok, hsl⟩).mono ?_
      rintro e w2 ⟨rfl, x2⟩
      cases hf : okOp b.ops[k] with
      | true =>
        have HF := hid hf
        go_wp2
        go_roundw
        case rel => exact ⟨k + 1, by omega, by go_num, by rw [List.take_succ_eq_append_getElem hlt, List.all_append, HA.out]; simp [HF.out], hx.trans x2⟩
        case measure => simp [intOf]; omega
      | false =>
        have HF := hid (okOp_stop _ k hlt hf)
        go_wp2
        go_ret
        exact ⟨ret_bool (by unfold okBat; rw [HF.out]; simp), (by repeat (first | with_reducible exact Ext.refl _ | with_reducible assumption | with_reducible refine Ext.drew ?_ | with_reducible refine Ext.alloc ?_ _ | (refine Ext.setCell ?_ (by simp) _) | with_reducible refine Ext.trans ?_ (by with_reducible assumption)))⟩
    · have HF := hid (show b.ops.all okOp = true by have := HA.out; rw [List.take_of_length_le (by omega)] at this; exact this)
      go_wp2
      go_ret
      exact ⟨ret_bool (by unfold okBat; rw [HF.out]; simp; try omega), (by repeat (first | with_reducible exact Ext.refl _ | with_reducible assumption | with_reducible refine Ext.drew ?_ | with_reducible refine Ext.alloc ?_ _ | (refine Ext.setCell ?_ (by simp) _) | with_reducible refine Ext.trans ?_ (by with_reducible assumption)))⟩
end Go.Proofs.YtfcbapaojoecgaaGreat
