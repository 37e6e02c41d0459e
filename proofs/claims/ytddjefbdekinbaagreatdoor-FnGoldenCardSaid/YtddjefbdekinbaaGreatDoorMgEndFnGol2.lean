/-
  WALKS: IsText (both), l8Field, isField; slices.ContainsFunc at strings.
-/
import Derived.Test.YtddjefbdekinbaaGreatDoorMgEndFnGol0

namespace Go.Proofs.YtddjefbdekinbaaGreatDoor
open Go.RowKit

def okB (b : UInt8) : Bool := decide (32 ≤ b.toNat ∧ b.toNat ≤ 126)
def okT (s : ByteArray) : Bool := s.data.toList.all okB && decide (s.size ≤ 40)
def noSep (b : UInt8) : Bool := !(b.toNat == 124) && !(b.toNat == 59)
def okF (s : ByteArray) : Bool := s.data.toList.all noSep && okT s
theorem bytes_take (s : ByteArray) (k : Nat) (h : k < s.size) : s.data.toList.take (k + 1) = s.data.toList.take k ++ [s[k]] := by
  rw [List.take_succ_eq_append_getElem (by simpa using h)]; rfl
theorem all_step {p : UInt8 → Bool} (s : ByteArray) (k : Nat) (h : k < s.size) (ha : (s.data.toList.take k).all p = true) (hb : p s[k] = true) : (s.data.toList.take (k + 1)).all p = true := by
  rw [bytes_take s k h, List.all_append, ha]; simp [hb]
theorem all_stop {p : UInt8 → Bool} (s : ByteArray) (k : Nat) (h : k < s.size) (hb : p s[k] = false) : s.data.toList.all p = false := by
  cases e : s.data.toList.all p with
  | false => rfl
  | true =>
    have := List.all_eq_true.1 e s[k] (by show s.data[k] ∈ _; exact Array.getElem_mem_toList _)
    rw [hb] at this; cases this
theorem all_end {p : UInt8 → Bool} (s : ByteArray) (k : Nat) (h : ¬ k < s.size) (ha : (s.data.toList.take k).all p = true) : s.data.toList.all p = true := by
  rw [List.take_of_length_le (by simp; omega)] at ha; exact ha

set_option maxHeartbeats 400000 in
theorem spec_IsText (s : ByteArray) (w : World) (hs : s.size ≤ maxLen) :
    Calls Tryz.prog 77 #[.string s] w fun e w2 => e = .returned (.bool (okT s)) ∧ w = w2 := by
  unfold maxLen at hs
  go_enter Tryz.func77, Tryz.ntmps77
  go_wp2
  go_loop [3] (fun i => ∃ k : Nat, k ≤ s.size ∧ i = .int .i64 k ∧ (s.data.toList.take k).all okB = true) (fun i => s.size - (intOf i).toNat)
  case atStart => exact ⟨0, Nat.zero_le _, rfl, rfl⟩
  case round =>
    obtain ⟨k, hk, rfl, ha⟩ := hrel
    have HA := hid ha
    clear ha
    by_cases hlt : k < s.size
    · have hb := s[k].toNat_lt
      by_cases h1 : s[k].toNat < 32
      · go_wp2
        go_ret
        exact ⟨ret_bool (by unfold okT; rw [all_stop s k hlt (by unfold okB; simp; omega)]; rfl), rfl⟩
      · by_cases h2 : 126 < s[k].toNat
        · go_wp2
          go_ret
          exact ⟨ret_bool (by unfold okT; rw [all_stop s k hlt (by unfold okB; simp; omega)]; rfl), rfl⟩
        · go_wp2
          go_round
          case rel => exact ⟨k + 1, by omega, by go_num, all_step s k hlt HA.out (by unfold okB; simp; omega)⟩
          case measure => simp [intOf]; omega
    · go_wp2
      go_ret
      exact ⟨ret_bool (by unfold okT; rw [all_end s k hlt HA.out]; simp; try omega), rfl⟩

set_option maxHeartbeats 400000 in
theorem impl_IsText (s : ByteArray) (w : World) (hs : s.size ≤ maxLen) :
    Calls Tryz.prog 80 #[.string s] w fun e w2 => e = .returned (.bool (okT s)) ∧ w = w2 := by
  unfold maxLen at hs
  go_enter Tryz.func80, Tryz.ntmps80
  go_wp2
  go_loop [6] (fun i => ∃ k : Nat, k ≤ s.size ∧ i = .int .i64 k ∧ (s.data.toList.take k).all okB = true) (fun i => s.size - (intOf i).toNat)
  case atStart => exact ⟨0, Nat.zero_le _, rfl, rfl⟩
  case round =>
    obtain ⟨k, hk, rfl, ha⟩ := hrel
    have HA := hid ha
    clear ha
    by_cases hlt : k < s.size
    · have hb := s[k].toNat_lt
      by_cases h1 : 32 ≤ s[k].toNat ∧ s[k].toNat ≤ 126
      · have hin : inB (s[k].toNat : Int) 32 126 = true := by unfold inB; simp; omega
        go_wp2_with (go_at_call 44; refine (impl_within _ _ _ _).mono ?_; rintro e w2 ⟨rfl, rfl⟩; rw [hin])
        go_round
        case rel => exact ⟨k + 1, by omega, by go_num, all_step s k hlt HA.out (by unfold okB; simp; omega)⟩
        case measure => simp [intOf]; omega
      · have hin : inB (s[k].toNat : Int) 32 126 = false := by unfold inB; simp; omega
        go_wp2_with (go_at_call 44; refine (impl_within _ _ _ _).mono ?_; rintro e w2 ⟨rfl, rfl⟩; rw [hin])
        go_ret
        exact ⟨ret_bool (by unfold okT; rw [all_stop s k hlt (by unfold okB; simp; omega)]; rfl), rfl⟩
    · go_wp2
      go_ret
      exact ⟨ret_bool (by unfold okT; rw [all_end s k hlt HA.out]; simp; try omega), rfl⟩

set_option maxHeartbeats 400000 in
theorem spec_l8Field (s : ByteArray) (w : World) (hs0 : s.size ≤ maxLen) :
    Calls Tryz.prog 60 #[.string s] w fun e w2 => e = .returned (.bool (okF s)) ∧ w = w2 := by
  have hs := hs0
  unfold maxLen at hs
  have HS0 := hid hs0
  clear hs0
  go_enter Tryz.func60, Tryz.ntmps60
  go_wp2
  go_loop [3] (fun i => ∃ k : Nat, k ≤ s.size ∧ i = .int .i64 k ∧ (s.data.toList.take k).all noSep = true) (fun i => s.size - (intOf i).toNat)
  case atStart => exact ⟨0, Nat.zero_le _, rfl, rfl⟩
  case round =>
    obtain ⟨k, hk, rfl, ha⟩ := hrel
    have HA := hid ha
    clear ha
    by_cases hlt : k < s.size
    · have hb := s[k].toNat_lt
      by_cases h1 : s[k].toNat = 124
      · have H1 := hid h1
        have h1' : ((s[k].toNat : Int) == 124) = true := by simp [h1]
        clear h1
        go_wp2
        go_ret
        exact ⟨ret_bool (by unfold okF; rw [all_stop s k hlt (by unfold noSep; rw [H1.out]; rfl)]; rfl), rfl⟩
      · have h1' : ((s[k].toNat : Int) == 124) = false := by simp; omega
        by_cases h2 : s[k].toNat = 59
        · have H1 := hid h2
          have h2' : ((s[k].toNat : Int) == 59) = true := by simp [h2]
          clear h2
          go_wp2
          go_ret
          exact ⟨ret_bool (by unfold okF; rw [all_stop s k hlt (by unfold noSep; rw [H1.out]; rfl)]; rfl), rfl⟩
        · have h2' : ((s[k].toNat : Int) == 59) = false := by simp; omega
          have HN := hid (And.intro h1 h2)
          clear h1 h2
          go_wp2
          go_round
          case rel => exact ⟨k + 1, by omega, by go_num, all_step s k hlt HA.out (by have := HN.out.1; have := HN.out.2; unfold noSep; simp; omega)⟩
          case measure => simp [intOf]; omega
    · go_wp2_with (go_at_call 77; refine (spec_IsText _ _ HS0.out).mono ?_; rintro e w2 ⟨rfl, rfl⟩)
      go_ret
      exact ⟨ret_bool (by unfold okF; rw [all_end s k hlt HA.out]; rfl), rfl⟩

theorem sep_any (l : List UInt8) : (l.any fun b => [(124 : UInt8), 59].contains b) = !(l.all noSep) := by
  induction l with
  | nil => rfl
  | cons b l ih =>
    rw [List.any_cons, List.all_cons, ih]
    have e1 : (b == 124) = (b.toNat == 124) := by
      by_cases h : b = 124
      · subst h; rfl
      · have : ¬ b.toNat = 124 := fun e => h (UInt8.toNat_inj.1 e)
        rw [beq_eq_false_iff_ne.2 h, beq_eq_false_iff_ne.2 this]
    have e2 : (b == 59) = (b.toNat == 59) := by
      by_cases h : b = 59
      · subst h; rfl
      · have : ¬ b.toNat = 59 := fun e => h (UInt8.toNat_inj.1 e)
        rw [beq_eq_false_iff_ne.2 h, beq_eq_false_iff_ne.2 this]
    have e3 : [(124 : UInt8), 59].contains b = !(noSep b) := by
      unfold noSep
      simp only [List.contains_cons, List.contains_nil, e1, e2]
      cases (b.toNat == 124) <;> cases (b.toNat == 59) <;> rfl
    rw [e3]
    cases noSep b <;> cases l.all noSep <;> rfl

set_option maxHeartbeats 400000 in
theorem impl_isField (s : ByteArray) (w : World) (hs : s.size ≤ maxLen) :
    Calls Tryz.prog 66 #[.string s] w fun e w2 => e = .returned (.bool (okF s)) ∧ Ext w w2 := by
  cases ht : okT s with
  | false =>
    have hf : okF s = false := by unfold okF; rw [ht]; simp
    go_enter Tryz.func66, Tryz.ntmps66
    go_wp2_with (go_at_call 80; refine (impl_IsText _ _ hs).mono ?_; rintro e w2 ⟨rfl, rfl⟩; rw [ht])
    go_ret
    exact ⟨ret_bool hf.symm, (by repeat (first | with_reducible exact Ext.refl _ | with_reducible assumption | with_reducible refine Ext.drew ?_ | with_reducible refine Ext.alloc ?_ _ | (refine Ext.setCell ?_ (by simp) _) | with_reducible refine Ext.trans ?_ (by with_reducible assumption)))⟩
  | true =>
    have h1 : s.data.toList.all okB = true ∧ s.size ≤ 40 := by unfold okT at ht; simpa using ht
    have ha : ∀ (j : Nat) b, s.data.toList[j]? = some b → b.toNat < 128 := fun j b hb => by
      have := List.all_eq_true.1 h1.1 b (List.mem_of_getElem? hb)
      unfold okB at this; simp at this; omega
    have hc : ∀ (j : Nat) (b : UInt8), (⟨#[124, 59]⟩ : ByteArray).data.toList[j]? = some b → b.toNat < 128 := fun j b hb => by
      have := List.mem_of_getElem? hb
      simp at this
      rcases this with rfl | rfl <;> decide
    have hr : Lib.containsAny s.data.toList (⟨#[124, 59]⟩ : ByteArray).data.toList = !okF s := by
      rw [containsAny_any]
      have := sep_any s.data.toList
      unfold okF; rw [ht]; simpa using this
    have HR := hid hr
    have HA := hid ha
    have HC := hid hc
    have HZ := hid h1.2
    clear h1 ha hc hr
    go_enter Tryz.func66, Tryz.ntmps66
    go_wp2_with (first | (go_at_call 80; refine (impl_IsText _ _ hs).mono ?_; rintro e w2 ⟨rfl, rfl⟩; rw [ht]) | (go_at_call 81; refine (strings_ContainsAny_c _ _ _ (by have := HZ.out; omega) (by decide) HA.out HC.out).mono ?_; rintro e w2 ⟨rfl, x2⟩; rw [HR.out]))
    go_ret
    exact ⟨ret_bool (by simp), x2⟩

theorem any_okF (xs : List ByteArray) : (xs.any fun s => !okF s) = !xs.all okF := by
  induction xs with
  | nil => rfl
  | cons x xs ih => rw [List.any_cons, List.all_cons, ih]; cases okF x <;> rfl

set_option maxHeartbeats 400000 in
theorem IndexFunc_str (v : Value) (xs : List ByteArray) (p : ByteArray → Bool) (fn : FuncId) (cp : Array Value) (w : World) (h : Sl strR w v xs)
    (hfn : ∀ (args : Array Value) (W : World), Sem.run Tryz.prog (callFunc fn args) W = .ok (.enter fn args) W)
    (hf : ∀ wz x, x.size ≤ maxLen → Calls Tryz.prog fn (#[.string x] ++ cp) wz fun e w2 => e = .returned (.bool (p x)) ∧ Ext wz w2) :
    Calls Tryz.prog 79 #[v, .func (.func fn) #[] cp] w fun e w2 => e = .returned (.int .i64 (idxF p 0 xs)) ∧ Ext w w2 := by
  obtain ⟨A, cap, rfl, hm⟩ := h.form
  go_enter Tryz.func79, Tryz.ntmps79
  go_wp2
  go_loopw [8] (fun i wr => ∃ k : Nat, k ≤ xs.length ∧ i = .int .i64 k ∧ (∀ x ∈ xs.take k, p x = false) ∧ Ext w wr) (fun i _ => xs.length - (intOf i).toNat)
  case atStart => exact ⟨0, Nat.zero_le _, rfl, by simp, Ext.refl _⟩
  case round =>
    obtain ⟨k, hk, rfl, hz, hx⟩ := hrel
    have HZ := hid hz
    clear hz
    by_cases hlt : k < xs.length
    · obtain ⟨b, off, rfl, hi, hc⟩ := (h.mono hx).str hlt
      go_wp2_with fail
      refine (hf wr _ hi).mono ?_
      rintro e w2 ⟨rfl, x2⟩
      by_cases hp : p xs[k] = true
      · rw [hp]
        go_wp2
        go_ret
        exact ⟨ret_int (idxF_at p xs k hlt HZ.out hp).symm, hx.trans x2⟩
      · have hp' : p xs[k] = false := by simpa using hp
        have HP := hid hp'
        rw [hp']
        clear hp hp'
        go_wp2
        go_roundw
        case rel => exact ⟨k + 1, by omega, by go_num, take_snoc_all _ xs k hlt HZ.out HP.out, hx.trans x2⟩
        case measure => simp [intOf]; omega
    · go_wp2
      go_ret
      exact ⟨ret_int (idxF_all p xs k hlt HZ.out).symm, hx⟩

set_option maxHeartbeats 400000 in
theorem ContainsFunc_str (v : Value) (xs : List ByteArray) (p : ByteArray → Bool) (fn : FuncId) (cp : Array Value) (w : World) (h : Sl strR w v xs)
    (hfn : ∀ (args : Array Value) (W : World), Sem.run Tryz.prog (callFunc fn args) W = .ok (.enter fn args) W)
    (hf : ∀ wz x, x.size ≤ maxLen → Calls Tryz.prog fn (#[.string x] ++ cp) wz fun e w2 => e = .returned (.bool (p x)) ∧ Ext wz w2) :
    Calls Tryz.prog 64 #[v, .func (.func fn) #[] cp] w fun e w2 => e = .returned (.bool (xs.any p)) ∧ Ext w w2 := by
  go_enter Tryz.func64, Tryz.ntmps64
  go_wp2_with fail
  refine (IndexFunc_str v xs p fn cp w h hfn hf).mono ?_
  rintro e w2 ⟨rfl, x2⟩
  have ha := idxF_any p xs 0
  go_wp2
  go_ret
  exact ⟨by rw [← ha]; rfl, x2⟩

set_option maxHeartbeats 400000 in
theorem impl_IsValidRecord_1 (s : ByteArray) (w : World) (hs : s.size ≤ maxLen) :
    Calls Tryz.prog 65 #[.string s] w fun e w2 => e = .returned (.bool (!okF s)) ∧ Ext w w2 := by
  go_enter Tryz.func65, Tryz.ntmps65
  go_wp2_with fail
  refine (impl_isField _ _ hs).mono ?_
  rintro e w2 ⟨rfl, x2⟩
  go_wp2
  go_ret
  exact ⟨rfl, x2⟩
end Go.Proofs.YtddjefbdekinbaaGreatDoor
