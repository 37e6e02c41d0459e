/-
  PLAIN LAW AND WALKS: EntityOf (both).
-/
import Derived.Test.YtenfgmpndpgbhaaEnts
namespace Go.Proofs.Ytenfgmpndpgbhaa
open Go.RowKit

def firstId (x : Int) : List Entity → Int
  | [] => 0
  | e :: es => if hasI x e.members then e.id else firstId x es
def entOf (xs : List Entity) (x : Int) : Int := if areEnts xs then firstId x xs else 0
theorem firstId_skip (x : Int) (l r : List Entity) (h : ∀ e ∈ l, hasI x e.members = false) : firstId x (l ++ r) = firstId x r := by
  induction l with
  | nil => rfl
  | cons e l ih => rw [List.cons_append, firstId, h e (List.mem_cons_self ..), ih fun y hy => h y (List.mem_cons_of_mem _ hy)]; rfl
theorem firstId_at (x : Int) (xs : List Entity) (k : Nat) (hlt : k < xs.length) (hz : ∀ e ∈ xs.take k, hasI x e.members = false) (h0 : hasI x xs[k].members = true) : firstId x xs = xs[k].id := by
  have e : xs.take k ++ (xs[k] :: xs.drop (k + 1)) = xs := by simp
  have e2 := firstId_skip x (xs.take k) (xs[k] :: xs.drop (k + 1)) hz
  rw [e] at e2
  rw [e2, firstId, h0]; rfl
theorem firstId_all (x : Int) (xs : List Entity) (k : Nat) (hk : ¬ k < xs.length) (hz : ∀ e ∈ xs.take k, hasI x e.members = false) : firstId x xs = 0 := by
  rw [List.take_of_length_le (by omega)] at hz
  have := firstId_skip x xs [] hz
  rw [List.append_nil] at this
  rw [this]; rfl
theorem entOf_no {xs : List Entity} {x : Int} (h : areEnts xs = false) : entOf xs x = 0 := by unfold entOf; rw [h]; rfl
theorem entOf_yes {xs : List Entity} {x : Int} (h : areEnts xs = true) : entOf xs x = firstId x xs := by unfold entOf; rw [h]; rfl
theorem entOf_zero {xs : List Entity} {x : Int} (h : firstId x xs = 0) : entOf xs x = 0 := by unfold entOf; split <;> simp [h]

set_option maxHeartbeats 400000 in
theorem impl_EntityOf (v : Value) (xs : List Entity) (x : Int) (w : World) (h : Sl entityR w v xs) (_hx : I64 x) (hb : msEnts xs ≤ 1048576) :
    Calls Try.prog 46 #[v, .int .i64 x] w fun e w2 => e = .returned (.int .i64 (entOf xs x)) ∧ Ext w w2 := by
  obtain ⟨A, cap, rfl, hm⟩ := h.form
  go_enter Try.func46, Try.ntmps46
  go_wp2_with fail
  refine (impl_AreEntities _ xs _ h hb).mono ?_
  rintro e w1 ⟨rfl, x1⟩
  by_cases hok : areEnts xs = true
  · rw [hok]
    have HO := hid hok
    clear hok
    go_wp2_with fail
    go_loopw [12] (fun i wr => ∃ k : Nat, k ≤ xs.length ∧ i = .int .i64 k ∧ (∀ e ∈ xs.take k, hasI x e.members = false) ∧ Ext w wr) (fun i _ => xs.length - (intOf i).toNat)
    case atStart => exact ⟨0, Nat.zero_le _, rfl, by simp, x1⟩
    case round =>
      obtain ⟨k, hk, rfl, hz, hx⟩ := hrel
      have HZ := hid hz
      clear hz
      by_cases hlt : k < xs.length
      · obtain ⟨b, off, A2, cap2, rfl, hI, hsl, hc0, hc1⟩ := (h.mono hx).ent hlt
        cases hh : hasI x xs[k].members with
        | true =>
          go_wp2_with (go_at_call 67; refine (slices_Contains _ xs[k].members x _ (hsl.mono (by repeat (first | with_reducible exact Ext.refl _ | with_reducible assumption | with_reducible refine Ext.drew ?_ | with_reducible refine Ext.alloc ?_ _ | (refine Ext.setCell ?_ (by simp) _) | with_reducible refine Ext.trans ?_ (by with_reducible assumption))))).mono ?_; rintro e w2 ⟨rfl, rfl⟩; rw [hh])
          go_ret
          exact ⟨ret_int (by rw [entOf_yes HO.out, firstId_at x xs k hlt HZ.out hh]), (by repeat (first | with_reducible exact Ext.refl _ | with_reducible assumption | with_reducible refine Ext.drew ?_ | with_reducible refine Ext.alloc ?_ _ | with_reducible refine Ext.trans ?_ (by with_reducible assumption)))⟩
        | false =>
          have HH := hid hh
          go_wp2_with (go_at_call 67; refine (slices_Contains _ xs[k].members x _ (hsl.mono (by repeat (first | with_reducible exact Ext.refl _ | with_reducible assumption | with_reducible refine Ext.drew ?_ | with_reducible refine Ext.alloc ?_ _ | (refine Ext.setCell ?_ (by simp) _) | with_reducible refine Ext.trans ?_ (by with_reducible assumption))))).mono ?_; rintro e w2 ⟨rfl, rfl⟩; rw [hh])
          go_roundw
          case rel => exact ⟨k + 1, by omega, by go_num, take_snoc_all _ xs k hlt HZ.out HH.out, (by repeat (first | with_reducible exact Ext.refl _ | with_reducible assumption | with_reducible refine Ext.drew ?_ | with_reducible refine Ext.alloc ?_ _ | with_reducible refine Ext.trans ?_ (by with_reducible assumption)))⟩
          case measure => simp [intOf]; omega
      · go_wp2
        go_ret
        exact ⟨ret_int (entOf_zero (firstId_all x xs k hlt HZ.out)).symm, hx⟩
  · have hok' : areEnts xs = false := by simpa using hok
    rw [hok']
    have HO := hid hok'
    clear hok hok'
    go_wp2
    go_ret
    exact ⟨ret_int (entOf_no HO.out).symm, x1⟩

set_option maxHeartbeats 400000 in
theorem spec_EntityOf (v : Value) (xs : List Entity) (x : Int) (w : World) (h : Sl entityR w v xs) (_hx : I64 x) (hb : msEnts xs ≤ 1048576) :
    Calls Try.prog 45 #[v, .int .i64 x] w fun e w2 => e = .returned (.int .i64 (entOf xs x)) ∧ Ext w w2 := by
  obtain ⟨A, cap, rfl, hm⟩ := h.form
  go_enter Try.func45, Try.ntmps45
  go_wp2_with fail
  go_loopw [5] (fun i wr => ∃ k : Nat, k ≤ xs.length ∧ i = .int .i64 k ∧ (∀ e ∈ xs.take k, hasI x e.members = false) ∧ Ext w wr) (fun i _ => xs.length - (intOf i).toNat)
  case atStart => exact ⟨0, Nat.zero_le _, rfl, by simp, Ext.refl _⟩
  case round =>
    obtain ⟨k, hk, rfl, hz, hx⟩ := hrel
    have HZ := hid hz
    clear hz
    by_cases hlt : k < xs.length
    · go_wp2_with fail
      refine (spec_AreEntities _ xs _ (h.mono hx) hb).mono ?_
      rintro e w2 ⟨rfl, x2⟩
      by_cases hok : areEnts xs = true
      · rw [hok]
        have HO := hid hok
        clear hok
        obtain ⟨b, off, A2, cap2, rfl, hI, hsl, hc0, hc1⟩ := (h.mono (hx.trans x2)).ent hlt
        have hbd := idxI_bd x xs[k].members
        have hnn := hid (idxI_nn x xs[k].members)
        by_cases hh : hasI x xs[k].members = true
        · have h0 : 0 ≤ idxI x xs[k].members := by have := hnn.out; rw [hh] at this; simpa using this
          have HH := hid hh
          clear hh
          go_wp2_with (go_at_call 64; refine (spec_l24Find _ xs[k].members x _ hsl).mono ?_; rintro e w2 ⟨rfl, rfl⟩)
          go_ret
          exact ⟨ret_int (by rw [entOf_yes HO.out, firstId_at x xs k hlt HZ.out HH.out]), (by repeat (first | with_reducible exact Ext.refl _ | with_reducible assumption | with_reducible refine Ext.drew ?_ | with_reducible refine Ext.alloc ?_ _ | with_reducible refine Ext.trans ?_ (by with_reducible assumption)))⟩
        · have hh2 : hasI x xs[k].members = false := by simpa using hh
          have h0 : idxI x xs[k].members < 0 := by have := hnn.out; rw [hh2] at this; simpa using this
          have HH := hid hh2
          clear hh hh2
          go_wp2_with (go_at_call 64; refine (spec_l24Find _ xs[k].members x _ hsl).mono ?_; rintro e w2 ⟨rfl, rfl⟩)
          go_roundw
          case rel => exact ⟨k + 1, by omega, by go_num, take_snoc_all _ xs k hlt HZ.out HH.out, (by repeat (first | with_reducible exact Ext.refl _ | with_reducible assumption | with_reducible refine Ext.drew ?_ | with_reducible refine Ext.alloc ?_ _ | with_reducible refine Ext.trans ?_ (by with_reducible assumption)))⟩
          case measure => simp [intOf]; omega
      · have hok' : areEnts xs = false := by simpa using hok
        rw [hok']
        have HO := hid hok'
        clear hok hok'
        go_wp2
        go_ret
        exact ⟨ret_int (entOf_no HO.out).symm, (by repeat (first | with_reducible exact Ext.refl _ | with_reducible assumption | with_reducible refine Ext.drew ?_ | with_reducible refine Ext.alloc ?_ _ | with_reducible refine Ext.trans ?_ (by with_reducible assumption)))⟩
    · go_wp2
      go_ret
      exact ⟨ret_int (entOf_zero (firstId_all x xs k hlt HZ.out)).symm, hx⟩
end Go.Proofs.Ytenfgmpndpgbhaa
