/-
  WALKS: membersOf, l26Groups.
-/
import Derived.Test.YtfieimmlcopbhaaDoorEnt
import Derived.Test.YtfieimmlcopbhaaDoorShr
import Derived.Test.YtfieimmlcopbhaaDoorAppN
namespace Go.Proofs.YtfieimmlcopbhaaDoor
open Go.RowKit

def mems (xs : List Entity) : List (List Int) := xs.map Entity.members
theorem mems_step (xs : List Entity) (k : Nat) (h : k < xs.length) : mems (xs.take (k + 1)) = mems (xs.take k) ++ [xs[k].members] := by
  unfold mems; rw [List.take_succ_eq_append_getElem h, List.map_append]; rfl
theorem mems_len (xs : List Entity) : (mems xs).length = xs.length := by simp [mems]

set_option maxHeartbeats 400000 in
set_option maxRecDepth 20000 in
theorem impl_membersOf (v : Value) (xs : List Entity) (w : World) (h : Sl entityR w v xs) (hb : xs.length ≤ 1099511627775) :
    Calls Tryd.prog 105 #[v] w fun e w2 => ∃ v2, e = .returned v2 ∧ Sl (slR intR) w2 v2 (mems xs) ∧ Ext w w2 := by
  obtain ⟨A, cap, rfl, hm⟩ := h.form
  go_enter Tryd.func105, Tryd.ntmps105
  go_wp2
  go_loopw [3, 8] (fun t i wr => ∃ k : Nat, k ≤ xs.length ∧ i = .int .i64 k ∧ Bld (atO (slR intR) w) wr w.heap.size 66 t (mems (xs.take k)) [] ∧ Ext w wr) (fun _ i _ => xs.length - (intOf i).toNat)
  case atStart => exact ⟨0, Nat.zero_le _, rfl, Bld.nil w _ _, Ext.refl _⟩
  case round =>
    obtain ⟨k, hk, rfl, hB, hx⟩ := hrel
    by_cases hlt : k < xs.length
    · obtain ⟨b, off, A2, cap2, rfl, hI, hsl, hc0, hc1⟩ := h.ent hlt
      have hd0 := hx.cell hc0
      have hd1 := hx.cell hc1
      have hlm : (mems (xs.take k)).length = k := by rw [mems_len, List.length_take]; omega
      have HLM := hid hlm
      have HST := hid (mems_step xs k hlt)
      clear hlm
      go_wp2_with (at_builtin; refine wpList_app1 (R := atO (slR intR) w) elemInts Nat.zero_lt_one rfl _ _ rfl (hB.ext (by repeat (first | with_reducible exact Ext.refl _ | with_reducible assumption | with_reducible refine Ext.drew ?_ | with_reducible refine Ext.alloc ?_ _ | (refine Ext.setCell ?_ (by simp) _) | with_reducible refine Ext.trans ?_ (by with_reducible assumption)))) rfl _ 1 rfl (by simp) (one_slice _ _ _) (y := xs[k].members) ⟨⟨_, rfl, hsl⟩, rfl⟩ fresh_nil (by rw [HLM.out]; omega) (by decide) (Nat.le_trans hx.size (Ext.size (by repeat (first | with_reducible exact Ext.refl _ | with_reducible assumption | with_reducible refine Ext.drew ?_ | with_reducible refine Ext.alloc ?_ _ | (refine Ext.setCell ?_ (by simp) _) | with_reducible refine Ext.trans ?_ (by with_reducible assumption))))) ?_; intro v2 w2 hB3 hE3)
      go_roundw
      case rel => exact ⟨k + 1, by omega, by go_num, by rw [HST.out]; exact hB3, hE3 w (Nat.le_refl _) (by repeat (first | with_reducible exact Ext.refl _ | with_reducible assumption | with_reducible refine Ext.drew ?_ | with_reducible refine Ext.alloc ?_ _ | (refine Ext.setCell ?_ (by simp) _) | with_reducible refine Ext.trans ?_ (by with_reducible assumption)))⟩
      case measure => simp [intOf]; omega
    · go_wp2
      go_ret
      rw [List.take_of_length_le (by omega)] at hB
      exact ⟨_, rfl, hB.sl.of_at hx, hx⟩

set_option maxHeartbeats 400000 in
set_option maxRecDepth 20000 in
theorem spec_l26Groups (v : Value) (xs : List Entity) (w : World) (h : Sl entityR w v xs) (hb : xs.length ≤ 1099511627775) (hb2 : sumMem xs ≤ 1099511627776) :
    Calls Tryd.prog 98 #[v] w fun e w2 => ∃ v2, e = .returned v2 ∧ Sl (slR intR) w2 v2 (mems xs) ∧ Ext w w2 := by
  obtain ⟨A, cap, rfl, hm⟩ := h.form
  go_enter Tryd.func98, Tryd.ntmps98
  go_wp2
  go_loopw [3, 4] (fun t i wr => ∃ (k : Nat) (F : List Nat), k ≤ xs.length ∧ i = .int .i64 k ∧ Bld (slO intO) wr w.heap.size 66 t (mems (xs.take k)) F ∧ Ext w wr) (fun _ i _ => xs.length - (intOf i).toNat)
  case atStart => exact ⟨0, [], Nat.zero_le _, rfl, Bld.lit w (Nat.le_refl _) _, (Ext.refl _).alloc _⟩
  case round =>
    obtain ⟨k, F, hk, rfl, hB, hx⟩ := hrel
    by_cases hlt : k < xs.length
    · obtain ⟨b, off, A2, cap2, rfl, hI, hsl, hc0, hc1⟩ := h.ent hlt
      have hd1 : (wr.alloc (.cells #[] 3)).cell? ⟨b, off + k * 2 + 1, none⟩ = _ := (hx.alloc _).cell hc1
      have hlm : (mems (xs.take k)).length = k := by rw [mems_len, List.length_take]; omega
      have HLM := hid hlm
      have HST := hid (mems_step xs k hlt)
      have hat := sumMem_at xs k hlt
      have hml : ([] : List Int).length + xs[k].members.length ≤ 1099511627776 := by simp only [List.length_nil]; omega
      clear hlm hat
      go_wp2_with (first | (at_builtin; refine wpList_appn elemInt rfl _ _ rfl (Bld.lit wr (Nat.le_refl _) _) rfl rfl (hsl.mono (by repeat (first | with_reducible exact Ext.refl _ | with_reducible assumption | with_reducible refine Ext.drew ?_ | with_reducible refine Ext.alloc ?_ _ | (refine Ext.setCell ?_ (by simp) _) | with_reducible refine Ext.trans ?_ (by with_reducible assumption)))) hml (Ext.size (by repeat (first | with_reducible exact Ext.refl _ | with_reducible assumption | with_reducible refine Ext.drew ?_ | with_reducible refine Ext.alloc ?_ _ | (refine Ext.setCell ?_ (by simp) _) | with_reducible refine Ext.trans ?_ (by with_reducible assumption)))) ?_; intro v2 w2 hB2 hE2; rw [List.nil_append] at hB2; obtain ⟨F1, ho, hn1, hn2⟩ := hB2.done; have hn : NewF wr F1 := ⟨hn1, hn2⟩; have x2 := hE2 wr (Nat.le_refl _) (by repeat (first | with_reducible exact Ext.refl _ | with_reducible assumption | with_reducible refine Ext.drew ?_ | with_reducible refine Ext.alloc ?_ _ | (refine Ext.setCell ?_ (by simp) _) | with_reducible refine Ext.trans ?_ (by with_reducible assumption))); obtain ⟨A9, cap9, e9, _⟩ := ho.form; subst e9) | (at_builtin; refine wpList_app1 elemInts Nat.zero_lt_one rfl _ _ rfl (hB.ext x2) rfl _ 1 rfl rfl (one_slice _ _ _) (y := xs[k].members) ⟨_, rfl, ho⟩ (hB.fresh hn hx.size) (by rw [HLM.out]; omega) (by decide) (Nat.le_trans hx.size x2.size) ?_; intro v3 w3 hB3 hE3))
      go_roundw
      case rel => exact ⟨k + 1, _, by omega, by go_num, by rw [HST.out]; exact hB3, hE3 w (Nat.le_refl _) (by repeat (first | with_reducible exact Ext.refl _ | with_reducible assumption | with_reducible refine Ext.drew ?_ | with_reducible refine Ext.alloc ?_ _ | (refine Ext.setCell ?_ (by simp) _) | with_reducible refine Ext.trans ?_ (by with_reducible assumption)))⟩
      case measure => simp [intOf]; omega
    · go_wp2
      go_ret
      rw [List.take_of_length_le (by omega)] at hB
      exact ⟨_, rfl, hB.sl, hx⟩
end Go.Proofs.YtfieimmlcopbhaaDoor
