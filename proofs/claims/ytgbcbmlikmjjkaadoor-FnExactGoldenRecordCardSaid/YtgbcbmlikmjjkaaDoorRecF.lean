/-
  WALKS: slices.IndexFunc, slices.ContainsFunc at records; areRecords, goldenRecords, l13Good.
-/
import Derived.Test.YtgbcbmlikmjjkaaDoorRecS
import Derived.Test.YtgbcbmlikmjjkaaDoorVRec
import Derived.Test.YtgbcbmlikmjjkaaDoorFn
namespace Go.Proofs.YtgbcbmlikmjjkaaDoor
open Go.RowKit

set_option maxHeartbeats 400000 in
theorem IndexFunc_rec (v : Value) (xs : List Record) (p : Record → Bool) (fn : FuncId) (cp : Array Value) (w : World) (h : Sl recordR w v xs)
    (hfn : ∀ (args : Array Value) (W : World), Sem.run Tryd.prog (callFunc fn args) W = .ok (.enter fn args) W)
    (hf : ∀ wz a x, Ext w wz → RecAt wz a x → Calls Tryd.prog fn (#[a] ++ cp) wz fun e w2 => e = .returned (.bool (p x)) ∧ Ext wz w2) :
    Calls Tryd.prog 147 #[v, .func (.func fn) #[] cp] w fun e w2 => e = .returned (.int .i64 (idxF p 0 xs)) ∧ Ext w w2 := by
  obtain ⟨A, cap, rfl, hm⟩ := h.form
  go_enter Tryd.func147, Tryd.ntmps147
  go_wp2
  go_loopw [8] (fun i wr => ∃ k : Nat, k ≤ xs.length ∧ i = .int .i64 k ∧ (∀ x ∈ xs.take k, p x = false) ∧ Ext w wr) (fun i _ => xs.length - (intOf i).toNat)
  case atStart => exact ⟨0, Nat.zero_le _, rfl, by simp, Ext.refl _⟩
  case round =>
    obtain ⟨k, hk, rfl, hz, hx⟩ := hrel
    have HZ := hid hz
    clear hz
    by_cases hlt : k < xs.length
    · obtain ⟨b, off, A2, cap2, rfl, hok, hsl, hc0, hc1, hc2, hc3⟩ := (h.mono hx).record hlt
      go_wp2_with fail
      refine (hf wr _ xs[k] hx ⟨_, rfl, hok, hsl⟩).mono ?_
      rintro e w2 ⟨rfl, x2⟩
      by_cases hp : p xs[k] = true
      · rw [hp]
        go_wp2
        go_ret
        exact ⟨ret_int (idxF_at p xs k hlt HZ.out hp).symm, hx.trans x2⟩
      · have hp' : p xs[k] = false := by simpa using hp
        have HP := hid hp'
        rw [hp']
        clear hp hp'
        go_wp2
        go_roundw
        case rel => exact ⟨k + 1, by omega, by go_num, take_snoc_all _ xs k hlt HZ.out HP.out, hx.trans x2⟩
        case measure => simp [intOf]; omega
    · go_wp2
      go_ret
      exact ⟨ret_int (idxF_all p xs k hlt HZ.out).symm, hx⟩

set_option maxHeartbeats 400000 in
theorem ContainsFunc_rec (v : Value) (xs : List Record) (p : Record → Bool) (fn : FuncId) (cp : Array Value) (w : World) (h : Sl recordR w v xs)
    (hfn : ∀ (args : Array Value) (W : World), Sem.run Tryd.prog (callFunc fn args) W = .ok (.enter fn args) W)
    (hf : ∀ wz a x, Ext w wz → RecAt wz a x → Calls Tryd.prog fn (#[a] ++ cp) wz fun e w2 => e = .returned (.bool (p x)) ∧ Ext wz w2) :
    Calls Tryd.prog 126 #[v, .func (.func fn) #[] cp] w fun e w2 => e = .returned (.bool (xs.any p)) ∧ Ext w w2 := by
  go_enter Tryd.func126, Tryd.ntmps126
  go_wp2_with fail
  refine (IndexFunc_rec v xs p fn cp w h hfn hf).mono ?_
  rintro e w2 ⟨rfl, x2⟩
  have ha := idxF_any p xs 0
  go_wp2
  go_ret
  exact ⟨by rw [← ha]; rfl, x2⟩


/-- are they valid, and no more than twelve? -/
def goodRecs (xs : List Record) : Bool := decide (xs.length ≤ 12) && xs.all okRec
def goldRecs (xs : List Record) : List Record := if goodRecs xs = true then xs else []
theorem any_okRec (xs : List Record) : (xs.any fun s => !okRec s) = !xs.all okRec := by
  induction xs with
  | nil => rfl
  | cons x xs ih => simp only [List.any_cons, List.all_cons, ih, Bool.not_and]
theorem okRec_stop (xs : List Record) (k : Nat) (h : k < xs.length) (hb : okRec xs[k] = false) : goodRecs xs = false := by
  unfold goodRecs
  have : xs.all okRec = false := by
    cases e : xs.all okRec with
    | false => rfl
    | true =>
      have := List.all_eq_true.1 e xs[k] (List.getElem_mem h)
      rw [hb] at this; cases this
  rw [this, Bool.and_false]
theorem goodRecs_all {xs : List Record} {k : Nat} (hk : ¬ k < xs.length) (h : ∀ x ∈ xs.take k, okRec x = true) : goodRecs xs = decide (xs.length ≤ 12) := by
  unfold goodRecs
  rw [List.take_of_length_le (by omega)] at h
  rw [List.all_eq_true.2 h, Bool.and_true]
theorem goodRecs_at {xs : List Record} (h : goodRecs xs = true) {r : Record} (hr : r ∈ xs) : okRec r = true := by
  unfold goodRecs at h
  rw [Bool.and_eq_true] at h
  exact List.all_eq_true.1 h.2 r hr
theorem goodRecs_len {xs : List Record} (h : goodRecs xs = true) : xs.length ≤ 12 := by
  unfold goodRecs at h
  rw [Bool.and_eq_true, decide_eq_true_eq] at h
  exact h.1

set_option maxHeartbeats 400000 in
theorem impl_areRecords_1 (v : Value) (r : Record) (w : World) (h : RecAt w v r) :
    Calls Tryd.prog 127 #[v] w fun e w2 => e = .returned (.bool (!okRec r)) ∧ Ext w w2 := by
  obtain ⟨f, rfl, hok, hs⟩ := h
  go_enter Tryd.func127, Tryd.ntmps127
  go_wp2_with fail
  refine (impl_IsValidRecord _ r _ ⟨_, rfl, hok, hs.mono (by repeat (first | with_reducible exact Ext.refl _ | with_reducible assumption | with_reducible refine Ext.drew ?_ | with_reducible refine Ext.alloc ?_ _ | (refine Ext.setCell ?_ (by simp) _) | with_reducible refine Ext.trans ?_ (by with_reducible assumption)))⟩).mono ?_
  rintro e w2 ⟨rfl, x2⟩
  go_wp2
  go_ret
  exact ⟨rfl, (by repeat (first | with_reducible exact Ext.refl _ | with_reducible assumption | with_reducible refine Ext.drew ?_ | with_reducible refine Ext.alloc ?_ _ | with_reducible refine Ext.trans ?_ (by with_reducible assumption)))⟩

set_option maxHeartbeats 400000 in
theorem impl_areRecords (v : Value) (xs : List Record) (w : World) (h : Sl recordR w v xs) :
    Calls Tryd.prog 89 #[v] w fun e w2 => e = .returned (.bool (xs.all okRec)) ∧ Ext w w2 := by
  go_enter Tryd.func89, Tryd.ntmps89
  go_wp2_with fail
  refine (ContainsFunc_rec _ xs (fun r => !okRec r) 127 #[] _ h (fun _ _ => by kernel_rfl) (fun wz a y hx ha => impl_areRecords_1 a y wz ha)).mono ?_
  rintro e w2 ⟨rfl, x2⟩
  rw [any_okRec]
  go_wp2
  go_ret
  exact ⟨by simp, x2⟩

/-- the argument, or nothing -/
def GoldV (v : Value) (xs : List Record) (v2 : Value) : Prop := (v2 = v ∧ goldRecs xs = xs) ∨ (v2 = .slice none 0 0 ∧ goldRecs xs = [])
theorem GoldV.sl {v v2 : Value} {xs : List Record} {w : World} (g : GoldV v xs v2) (h : Sl recordR w v xs) : Sl recordR w v2 (goldRecs xs) := by
  rcases g with ⟨rfl, e⟩ | ⟨rfl, e⟩
  · rw [e]; exact h
  · rw [e]; exact ⟨none, 0, rfl, ⟨Nat.le_refl _, Nat.zero_le _⟩, fun i hi => by simp at hi⟩
set_option maxHeartbeats 400000 in
theorem impl_goldenRecords (v : Value) (xs : List Record) (w : World) (h : Sl recordR w v xs) :
    Calls Tryd.prog 84 #[v] w fun e w2 => ∃ v2, e = .returned v2 ∧ GoldV v xs v2 ∧ Ext w w2 := by
  obtain ⟨A, cap, rfl, hm⟩ := h.form
  by_cases hl : xs.length ≤ 12
  · go_enter Tryd.func84, Tryd.ntmps84
    go_wp2_with fail
    refine (impl_areRecords _ xs _ h).mono ?_
    rintro e w2 ⟨rfl, x2⟩
    cases ha : xs.all okRec with
    | true =>
      have hg := hid (show goldRecs xs = xs by unfold goldRecs goodRecs; rw [if_pos (by simp [ha, hl])])
      clear ha
      go_wp2
      go_ret
      exact ⟨_, rfl, .inl ⟨rfl, hg.out⟩, x2⟩
    | false =>
      have hg := hid (show goldRecs xs = [] by unfold goldRecs goodRecs; rw [if_neg (by simp [ha])])
      clear ha
      go_wp2
      go_ret
      exact ⟨_, rfl, .inr ⟨rfl, hg.out⟩, x2⟩
  · have hg := hid (show goldRecs xs = [] by unfold goldRecs goodRecs; rw [if_neg (by simp [hl])])
    go_enter Tryd.func84, Tryd.ntmps84
    go_wp2
    go_ret
    exact ⟨_, rfl, .inr ⟨rfl, hg.out⟩, Ext.refl _⟩

set_option maxHeartbeats 400000 in
theorem spec_l13Good (v : Value) (xs : List Record) (w : World) (h : Sl recordR w v xs) :
    Calls Tryd.prog 80 #[v] w fun e w2 => e = .returned (.bool (goodRecs xs)) ∧ Ext w w2 := by
  obtain ⟨A, cap, rfl, hm⟩ := h.form
  go_enter Tryd.func80, Tryd.ntmps80
  go_wp2
  go_loopw [3] (fun i wr => ∃ k : Nat, k ≤ xs.length ∧ i = .int .i64 k ∧ (∀ x ∈ xs.take k, okRec x = true) ∧ Ext w wr) (fun i _ => xs.length - (intOf i).toNat)
  case atStart => exact ⟨0, Nat.zero_le _, rfl, by simp, Ext.refl _⟩
  case round =>
    obtain ⟨k, hk, rfl, hz, hx⟩ := hrel
    have HZ := hid hz
    clear hz
    by_cases hlt : k < xs.length
    · obtain ⟨b, off, A2, cap2, rfl, hok, hsl, hc0, hc1, hc2, hc3⟩ := (h.mono hx).record hlt
      go_wp2_with fail
      refine (spec_IsValidRecord _ xs[k] _ ⟨_, rfl, hok, hsl⟩).mono ?_
      rintro e w2 ⟨rfl, x2⟩
      cases hv : okRec xs[k] with
      | false =>
        have HV := hid hv
        clear hv
        go_wp2
        go_ret
        exact ⟨ret_bool (okRec_stop xs k hlt HV.out).symm, (by repeat (first | with_reducible exact Ext.refl _ | with_reducible assumption | with_reducible refine Ext.drew ?_ | with_reducible refine Ext.alloc ?_ _ | with_reducible refine Ext.trans ?_ (by with_reducible assumption)))⟩
      | true =>
        have HV := hid hv
        clear hv
        go_wp2
        go_roundw
        case rel => exact ⟨k + 1, by omega, by go_num, take_snoc_all _ xs k hlt HZ.out HV.out, (by repeat (first | with_reducible exact Ext.refl _ | with_reducible assumption | with_reducible refine Ext.drew ?_ | with_reducible refine Ext.alloc ?_ _ | with_reducible refine Ext.trans ?_ (by with_reducible assumption)))⟩
        case measure => simp [intOf]; omega
    · have hg := hid (goodRecs_all hlt HZ.out)
      clear HZ
      by_cases h12 : xs.length ≤ 12
      all_goals
        go_wp2
        go_ret
        exact ⟨ret_bool (by rw [hg.out]; simp; omega), (by repeat (first | with_reducible exact Ext.refl _ | with_reducible assumption | with_reducible refine Ext.drew ?_ | with_reducible refine Ext.alloc ?_ _ | with_reducible refine Ext.trans ?_ (by with_reducible assumption)))⟩
end Go.Proofs.YtgbcbmlikmjjkaaDoor
