/-
  WALKS: IsValidRecord (both), isDeletion, isZeroRecord, l29Gone, l29Zero.
-/
import Derived.Test.YtddjefbdekinbaaGreatDoorMgEndFnGol2
import Derived.Test.YtddjefbdekinbaaGreatDoorMgEndFnGol3

namespace Go.Proofs.YtddjefbdekinbaaGreatDoor
open Go.RowKit

def okH (r : Record) : Bool := inB r.source 0 3 && inB r.key 1 99 && inB r.version 1 999
def okRec (r : Record) : Bool := okH r && ((r.fields.length : Int) == 4) && r.fields.all okF
def goneR (r : Record) : Bool := okH r && ((r.fields.length : Int) == 0)
def zeroRec (r : Record) : Bool := decide (r.source = 0) && decide (r.key = 0) && decide (r.version = 0) && ((r.fields.length : Int) == 0)

theorem okH_cases (r : Record) : (inB r.source 0 3 = false ∧ okH r = false) ∨ (inB r.source 0 3 = true ∧ inB r.key 1 99 = false ∧ okH r = false) ∨ (inB r.source 0 3 = true ∧ inB r.key 1 99 = true ∧ inB r.version 1 999 = false ∧ okH r = false) ∨ (inB r.source 0 3 = true ∧ inB r.key 1 99 = true ∧ inB r.version 1 999 = true ∧ okH r = true) := by
  unfold okH
  cases inB r.source 0 3 <;> cases inB r.key 1 99 <;> cases inB r.version 1 999 <;> simp

set_option maxHeartbeats 400000 in
set_option maxRecDepth 20000 in
theorem impl_IsValidRecord (v : Value) (r : Record) (w : World) (h : RecAt w v r) :
    Calls Tryz.prog 50 #[v] w fun e w2 => e = .returned (.bool (okRec r)) ∧ Ext w w2 := by
  obtain ⟨f, rfl, hok, hs⟩ := h
  obtain ⟨A, cap, rfl, hm⟩ := hs.form
  rcases okH_cases r with ⟨h1, h9⟩ | ⟨h1, h2, h9⟩ | ⟨h1, h2, h3, h9⟩ | ⟨h1, h2, h3, h9⟩
  all_goals try
    (have H9 := hid h9
     clear h9
     have h4 : r.fields.length = r.fields.length := rfl
     go_enter Tryz.func50, Tryz.ntmps50
     go_wp2_with (go_at_call 44; refine (impl_within _ _ _ _).mono ?_; rintro e w2 ⟨rfl, rfl⟩; first | rw [h1] | rw [h2] | rw [h3])
     go_ret
     exact ⟨ret_bool (by unfold okRec; rw [H9.out]; rfl), (by repeat (first | with_reducible exact Ext.refl _ | with_reducible assumption | with_reducible refine Ext.drew ?_ | with_reducible refine Ext.alloc ?_ _ | (refine Ext.setCell ?_ (by simp) _) | with_reducible refine Ext.trans ?_ (by with_reducible assumption)))⟩)
  have H9 := hid h9
  clear h9
  by_cases h4 : r.fields.length = 4
  · have h4' : ((r.fields.length : Int) == 4) = true := by simp; omega
    have H4 := hid h4'
    clear h4
    go_enter Tryz.func50, Tryz.ntmps50
    go_wp2_with (first | (go_at_call 44; refine (impl_within _ _ _ _).mono ?_; rintro e w2 ⟨rfl, rfl⟩; first | rw [h1] | rw [h2] | rw [h3]) | (go_at_call 64; refine (ContainsFunc_str _ r.fields (fun s => !okF s) 65 #[] _ (hs.mono (by repeat (first | with_reducible exact Ext.refl _ | with_reducible assumption | with_reducible refine Ext.drew ?_ | with_reducible refine Ext.alloc ?_ _ | (refine Ext.setCell ?_ (by simp) _) | with_reducible refine Ext.trans ?_ (by with_reducible assumption)))) (fun _ _ => by kernel_rfl) (fun wz x hx => impl_IsValidRecord_1 x wz hx)).mono ?_; rintro e w2 ⟨rfl, x2⟩; rw [any_okF]))
    go_ret
    exact ⟨ret_bool (by unfold okRec; rw [H9.out, H4.out]; simp), (by repeat (first | with_reducible exact Ext.refl _ | with_reducible assumption | with_reducible refine Ext.drew ?_ | with_reducible refine Ext.alloc ?_ _ | (refine Ext.setCell ?_ (by simp) _) | with_reducible refine Ext.trans ?_ (by with_reducible assumption)))⟩
  · have h4' : ((r.fields.length : Int) == 4) = false := by simp; omega
    have H4 := hid h4'
    clear h4
    go_enter Tryz.func50, Tryz.ntmps50
    go_wp2_with (go_at_call 44; refine (impl_within _ _ _ _).mono ?_; rintro e w2 ⟨rfl, rfl⟩; first | rw [h1] | rw [h2] | rw [h3])
    go_ret
    exact ⟨ret_bool (by unfold okRec; rw [H4.out]; simp), (by repeat (first | with_reducible exact Ext.refl _ | with_reducible assumption | with_reducible refine Ext.drew ?_ | with_reducible refine Ext.alloc ?_ _ | (refine Ext.setCell ?_ (by simp) _) | with_reducible refine Ext.trans ?_ (by with_reducible assumption)))⟩

theorem okF_stop (xs : List ByteArray) (k : Nat) (h : k < xs.length) (hb : okF xs[k] = false) : xs.all okF = false := by
  cases e : xs.all okF with
  | false => rfl
  | true => have := List.all_eq_true.1 e xs[k] (List.getElem_mem h); rw [hb] at this; cases this
set_option maxHeartbeats 400000 in
set_option maxRecDepth 20000 in
theorem spec_IsValidRecord (v : Value) (r : Record) (w : World) (h : RecAt w v r) :
    Calls Tryz.prog 41 #[v] w fun e w2 => e = .returned (.bool (okRec r)) ∧ Ext w w2 := by
  obtain ⟨f, rfl, hok, hs0⟩ := h
  have hs := hs0.mono ((Ext.refl w).alloc (.cells #[.int .i64 r.source, .int .i64 r.key, .int .i64 r.version, f] 34))
  obtain ⟨A, cap, rfl, hm⟩ := hs.form
  clear hs0
  go_enter Tryz.func41, Tryz.ntmps41
  go_wp2
  go_loop [3] (fun i => ∃ k : Nat, k ≤ r.fields.length ∧ i = .int .i64 k ∧ (r.fields.take k).all okF = true) (fun i => r.fields.length - (intOf i).toNat)
  case atStart => exact ⟨0, Nat.zero_le _, rfl, rfl⟩
  case round =>
    obtain ⟨k, hk, rfl, ha⟩ := hrel
    have HA := hid ha
    clear ha
    by_cases hlt : k < r.fields.length
    · obtain ⟨b, off, rfl, hI, hc⟩ := hs.str hlt
      cases hf : okF r.fields[k] with
      | true =>
        go_wp2_with (go_at_call 60; refine (spec_l8Field _ _ hI).mono ?_; rintro e w2 ⟨rfl, rfl⟩; rw [hf])
        go_round
        case rel => exact ⟨k + 1, by omega, by go_num, by rw [List.take_succ_eq_append_getElem hlt, List.all_append, HA.out]; simp [hf]⟩
        case measure => simp [intOf]; omega
      | false =>
        have HF := hid (okF_stop _ k hlt hf)
        go_wp2_with (go_at_call 60; refine (spec_l8Field _ _ hI).mono ?_; rintro e w2 ⟨rfl, rfl⟩; rw [hf])
        go_ret
        exact ⟨ret_bool (by unfold okRec; rw [HF.out]; simp), (by repeat (first | with_reducible exact Ext.refl _ | with_reducible assumption | with_reducible refine Ext.drew ?_ | with_reducible refine Ext.alloc ?_ _ | (refine Ext.setCell ?_ (by simp) _) | with_reducible refine Ext.trans ?_ (by with_reducible assumption)))⟩
    · have ha : r.fields.all okF = true := by have := HA.out; rw [List.take_of_length_le (by omega)] at this; exact this
      have HF := hid ha
      clear ha
      rcases okH_cases r with ⟨h1, h9⟩ | ⟨h1, h2, h9⟩ | ⟨h1, h2, h3, h9⟩ | ⟨h1, h2, h3, h9⟩
      all_goals
        have H9 := hid h9
        clear h9
        go_wp2_with (go_at_call 25; refine (spec_l1In _ _ _ _).mono ?_; rintro e w2 ⟨rfl, rfl⟩; first | rw [h1] | rw [h2] | rw [h3])
        all_goals go_ret
        all_goals exact ⟨ret_bool (by unfold okRec; rw [H9.out, HF.out]; simp; try omega), (by repeat (first | with_reducible exact Ext.refl _ | with_reducible assumption | with_reducible refine Ext.drew ?_ | with_reducible refine Ext.alloc ?_ _ | (refine Ext.setCell ?_ (by simp) _) | with_reducible refine Ext.trans ?_ (by with_reducible assumption)))⟩
end Go.Proofs.YtddjefbdekinbaaGreatDoor
