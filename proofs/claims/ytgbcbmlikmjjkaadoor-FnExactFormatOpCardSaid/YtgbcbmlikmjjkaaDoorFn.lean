/-
  WALKS: slices.IndexFunc, slices.ContainsFunc at []int.
-/
import Derived.Test.YtgbcbmlikmjjkaaDoorInts
namespace Go.Proofs.YtgbcbmlikmjjkaaDoor
open Go.RowKit

/-- the index of the first that meets p, from k on, else -1 -/
def idxF {α : Type} (p : α → Bool) : Nat → List α → Int
  | _, [] => -1
  | k, x :: xs => if p x then (k : Int) else idxF p (k + 1) xs
theorem idxF_skip {α : Type} (p : α → Bool) (l r : List α) (k : Nat) (h : ∀ x ∈ l, p x = false) : idxF p k (l ++ r) = idxF p (k + l.length) r := by
  induction l generalizing k with
  | nil => simp
  | cons x l ih =>
    simp only [List.cons_append, idxF, h x (List.mem_cons_self ..), Bool.false_eq_true, if_false, List.length_cons]
    rw [ih (k + 1) (fun y hy => h y (List.mem_cons_of_mem _ hy)), show k + 1 + l.length = k + (l.length + 1) by omega]
theorem idxF_at {α : Type} (p : α → Bool) (xs : List α) (k : Nat) (hlt : k < xs.length) (hz : ∀ x ∈ xs.take k, p x = false) (h0 : p xs[k] = true) : idxF p 0 xs = k := by
  have e : xs.take k ++ (xs[k] :: xs.drop (k + 1)) = xs := by simp
  have e2 := idxF_skip p (xs.take k) (xs[k] :: xs.drop (k + 1)) 0 hz
  rw [e] at e2
  rw [e2]
  simp [idxF, h0]; omega
theorem idxF_all {α : Type} (p : α → Bool) (xs : List α) (k : Nat) (hk : ¬ k < xs.length) (hz : ∀ x ∈ xs.take k, p x = false) : idxF p 0 xs = -1 := by
  rw [List.take_of_length_le (by omega)] at hz
  have := idxF_skip p xs [] 0 hz
  rw [List.append_nil] at this
  rw [this]; rfl
theorem idxF_any {α : Type} (p : α → Bool) (xs : List α) (k : Nat) : decide (0 ≤ idxF p k xs) = xs.any p := by
  induction xs generalizing k with
  | nil => simp [idxF]
  | cons x xs ih =>
    simp only [idxF, List.any_cons]
    by_cases hp : p x = true
    · simp [hp]
    · simp [hp, ih (k + 1)]
theorem take_snoc_all {α : Type} (p : α → Prop) (xs : List α) (k : Nat) (hlt : k < xs.length) (hz : ∀ x ∈ xs.take k, p x) (h0 : p xs[k]) : ∀ x ∈ xs.take (k + 1), p x := by
  intro x hx
  rw [List.take_succ_eq_append_getElem hlt] at hx
  rcases List.mem_append.1 hx with hx | hx
  · exact hz x hx
  · simp only [List.mem_singleton] at hx; rw [hx]; exact h0

set_option maxHeartbeats 400000 in
theorem IndexFunc_int (v : Value) (xs : List Int) (p : Int → Bool) (fn : FuncId) (cp : Array Value) (w : World) (h : Sl intR w v xs)
    (hfn : ∀ (args : Array Value) (W : World), Sem.run Tryd.prog (callFunc fn args) W = .ok (.enter fn args) W)
    (hf : ∀ wz, Ext w wz → ∀ x ∈ xs, Calls Tryd.prog fn (#[.int .i64 x] ++ cp) wz fun e w2 => e = .returned (.bool (p x)) ∧ Ext wz w2) :
    Calls Tryd.prog 154 #[v, .func (.func fn) #[] cp] w fun e w2 => e = .returned (.int .i64 (idxF p 0 xs)) ∧ Ext w w2 := by
  obtain ⟨A, cap, rfl, hm⟩ := h.form
  go_enter Tryd.func154, Tryd.ntmps154
  go_wp2
  go_loopw [8] (fun i wr => ∃ k : Nat, k ≤ xs.length ∧ i = .int .i64 k ∧ (∀ x ∈ xs.take k, p x = false) ∧ Ext w wr) (fun i _ => xs.length - (intOf i).toNat)
  case atStart => exact ⟨0, Nat.zero_le _, rfl, by simp, Ext.refl _⟩
  case round =>
    obtain ⟨k, hk, rfl, hz, hx⟩ := hrel
    have HZ := hid hz
    clear hz
    by_cases hlt : k < xs.length
    · obtain ⟨b, off, rfl, hi, hc⟩ := (h.mono hx).int hlt
      go_wp2_with fail
      refine (hf wr hx _ (List.getElem_mem hlt)).mono ?_
      rintro e w2 ⟨rfl, x2⟩
      by_cases hp : p xs[k] = true
      · rw [hp]
        go_wp2
        go_ret
        exact ⟨ret_int (idxF_at p xs k hlt HZ.out hp).symm, hx.trans x2⟩
      · have hp' : p xs[k] = false := by simpa using hp
        have HP := hid hp'
        rw [hp']
        clear hp hp'
        go_wp2
        go_roundw
        case rel => exact ⟨k + 1, by omega, by go_num, take_snoc_all _ xs k hlt HZ.out HP.out, hx.trans x2⟩
        case measure => simp [intOf]; omega
    · go_wp2
      go_ret
      exact ⟨ret_int (idxF_all p xs k hlt HZ.out).symm, hx⟩

set_option maxHeartbeats 400000 in
theorem ContainsFunc_int (v : Value) (xs : List Int) (p : Int → Bool) (fn : FuncId) (cp : Array Value) (w : World) (h : Sl intR w v xs)
    (hfn : ∀ (args : Array Value) (W : World), Sem.run Tryd.prog (callFunc fn args) W = .ok (.enter fn args) W)
    (hf : ∀ wz, Ext w wz → ∀ x ∈ xs, Calls Tryd.prog fn (#[.int .i64 x] ++ cp) wz fun e w2 => e = .returned (.bool (p x)) ∧ Ext wz w2) :
    Calls Tryd.prog 131 #[v, .func (.func fn) #[] cp] w fun e w2 => e = .returned (.bool (xs.any p)) ∧ Ext w w2 := by
  go_enter Tryd.func131, Tryd.ntmps131
  go_wp2_with fail
  refine (IndexFunc_int v xs p fn cp w h hfn hf).mono ?_
  rintro e w2 ⟨rfl, x2⟩
  have ha := idxF_any p xs 0
  go_wp2
  go_ret
  exact ⟨by rw [← ha]; rfl, x2⟩
end Go.Proofs.YtgbcbmlikmjjkaaDoor
