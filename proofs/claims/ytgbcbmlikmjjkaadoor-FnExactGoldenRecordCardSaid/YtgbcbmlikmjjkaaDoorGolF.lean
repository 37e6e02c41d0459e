/-
  WALKS: rank, GoldenField (both).
-/
import Derived.Test.YtgbcbmlikmjjkaaDoorUnan
namespace Go.Proofs.YtgbcbmlikmjjkaaDoor
open Go.RowKit

theorem inB_cases {x a b : Int} (h : inB x a b = true) : a ≤ x ∧ x ≤ b := by
  unfold inB at h
  simpa only [decide_eq_true_eq] using h
theorem supC_le (f : Nat) (s : ByteArray) (xs : List Record) : supC f s xs ≤ xs.length := by
  unfold supC
  have : ∀ (n : Nat) (l : List Record), l.foldl (fun n r => open Classical in if normS (fldAt f r) = normS s then n + 1 else n) n ≤ n + l.length := fun n l => by
    induction l generalizing n with
    | nil => exact Nat.le_refl _
    | cons x l ih =>
      simp only [List.foldl_cons, List.length_cons]
      split
      · have := ih (n + 1); omega
      · have := ih n; omega
  have h := this 0 xs
  omega
/-- the rank of a record's value -/
noncomputable def rkN (xs : List Record) (q : Nat) (rule : Int) (r : Record) : Int :=
  if rule = 1 then ((supC q (fldAt q r) xs : Nat) : Int) else if rule = 2 then ((fldAt q r).size : Nat) else if rule = 3 then r.version else 4 - r.source
theorem okRec_in {r : Record} (h : okRec r = true) : (0 ≤ r.source ∧ r.source ≤ 3) ∧ (1 ≤ r.key ∧ r.key ≤ 99) ∧ 1 ≤ r.version ∧ r.version ≤ 999 := by
  have := okRec_H h
  unfold okH at this
  simp only [Bool.and_eq_true] at this
  exact ⟨inB_cases this.1.1, inB_cases this.1.2, inB_cases this.2⟩
theorem rk_four {rule : Int} (h : inB rule 1 4 = true) : rule = 1 ∨ rule = 2 ∨ rule = 3 ∨ rule = 4 := by
  have := inB_cases h; omega
theorem rkN_64 (xs : List Record) (q : Nat) (rule : Int) (r : Record) (h : okRec r = true) (hq : q ≤ 3) (hl : xs.length ≤ 12) : -1 < rkN xs q rule r ∧ rkN xs q rule r ≤ 1000 := by
  have h1 := okRec_in h
  have h2 : q < r.fields.length := by have := okRec_len h; omega
  have h3 := okRec_F h _ (List.getElem_mem h2)
  have h4 := supC_le q (fldAt q r) xs
  unfold rkN
  rw [fldAt_eq h2] at h4 ⊢
  split
  · omega
  · split
    · omega
    · split <;> omega
open Classical in
/-- one record more: the value with the greatest rank, the least of them -/
noncomputable def gfStep (xs : List Record) (q : Nat) (rule : Int) (b : ByteArray × Int) (r : Record) : ByteArray × Int :=
  if normS (fldAt q r) = ⟨#[]⟩ then b
  else if b.2 < rkN xs q rule r ∨ (rkN xs q rule r = b.2 ∧ Op.bytesLess (fldAt q r).toList b.1.toList = true) then (fldAt q r, rkN xs q rule r) else b
noncomputable def gfF (xs : List Record) (q : Nat) (rule : Int) (l : List Record) : ByteArray × Int := l.foldl (gfStep xs q rule) (⟨#[]⟩, -1)
theorem gfF_step (zs : List Record) (q : Nat) (rule : Int) (xs : List Record) (k : Nat) (h : k < xs.length) : gfF zs q rule (xs.take (k + 1)) = gfStep zs q rule (gfF zs q rule (xs.take k)) xs[k] := by
  unfold gfF
  rw [List.take_succ_eq_append_getElem h, List.foldl_append]; rfl
theorem gf_skip {xs : List Record} {q : Nat} {rule : Int} {b : ByteArray × Int} {r : Record} (h : normS (fldAt q r) = ⟨#[]⟩) : gfStep xs q rule b r = b := by
  unfold gfStep; rw [if_pos h]
theorem gf_more {xs : List Record} {q : Nat} {rule : Int} {b : ByteArray × Int} {r : Record} (h : ¬ normS (fldAt q r) = ⟨#[]⟩) (k : b.2 < rkN xs q rule r) : gfStep xs q rule b r = (fldAt q r, rkN xs q rule r) := by
  unfold gfStep; rw [if_neg h, if_pos (Or.inl k)]
theorem gf_less {xs : List Record} {q : Nat} {rule : Int} {b : ByteArray × Int} {r : Record} (h : ¬ normS (fldAt q r) = ⟨#[]⟩) (k : rkN xs q rule r = b.2) (m : Op.bytesLess (fldAt q r).toList b.1.toList = true) : gfStep xs q rule b r = (fldAt q r, rkN xs q rule r) := by
  unfold gfStep; rw [if_neg h, if_pos (Or.inr ⟨k, m⟩)]
theorem gf_keep {xs : List Record} {q : Nat} {rule : Int} {b : ByteArray × Int} {r : Record} (k : ¬ b.2 < rkN xs q rule r) (m : ¬ (rkN xs q rule r = b.2 ∧ Op.bytesLess (fldAt q r).toList b.1.toList = true)) : gfStep xs q rule b r = b := by
  unfold gfStep
  split
  · rfl
  · rw [if_neg (by intro h; rcases h with h | h; exact k h; exact m h)]
open Classical in
noncomputable def gfN (xs : List Record) (f rule : Int) : ByteArray := if goodRecs xs = true ∧ inB f 0 3 = true ∧ inB rule 1 4 = true then (gfF xs f.toNat rule xs).1 else ⟨#[]⟩
theorem gfN_yes {xs : List Record} {f rule : Int} (h : goodRecs xs = true) (k : inB f 0 3 = true) (m : inB rule 1 4 = true) : gfN xs f rule = (gfF xs f.toNat rule xs).1 := by unfold gfN; rw [if_pos ⟨h, k, m⟩]
theorem gfN_no {xs : List Record} {f rule : Int} (h : ¬ (goodRecs xs = true ∧ inB f 0 3 = true ∧ inB rule 1 4 = true)) : gfN xs f rule = ⟨#[]⟩ := by unfold gfN; rw [if_neg h]

set_option maxHeartbeats 400000 in
set_option maxRecDepth 20000 in
theorem impl_rank (v rv : Value) (xs : List Record) (r : Record) (q : Nat) (rule : Int) (w : World) (h : Sl recordR w v xs) (hr : RecAt w rv r) (hg : ∀ r ∈ xs, okRec r = true) (hl : xs.length ≤ 12) (ho : okRec r = true) (hq : q ≤ 3) (hru : inB rule 1 4 = true) (M : ML w) :
    Calls Tryd.prog 93 #[v, rv, .int .i64 (q : Nat), .int .i64 rule] w fun e w2 => e = .returned (.int .i64 (rkN xs q rule r)) ∧ Ext w w2 := by
  obtain ⟨f, rfl, hok, hs⟩ := hr
  have hin := okRec_in ho
  have hq4 : q < r.fields.length := by have := okRec_len ho; omega
  obtain ⟨A2, cap2, rfl, hm2⟩ := hs.form
  obtain ⟨b2, off2, rfl, hf1, hf2⟩ := hs.str hq4
  have hsz : r.fields[q].size ≤ 40 := okRec_F ho _ (List.getElem_mem hq4)
  have hfe := hid (fldAt_eq hq4)
  have hX : Ext w (w.alloc (.cells #[.int .i64 r.source, .int .i64 r.key, .int .i64 r.version, .slice (some ⟨b2, off2, none⟩) r.fields.length cap2] 38)) := (Ext.refl _).alloc _
  have hf3 := hX.cell hf2
  have HX := hid hX
  clear hf2 hX ho
  have HRU := hid hru
  rcases rk_four hru with e | e | e | e
  · subst e
    clear hru
    go_enter Tryd.func93, Tryd.ntmps93
    go_wp2_with fail
    refine (impl_support _ xs q r.fields[q] _ (h.mono HX.out) hg hl hq (by omega) (M.mono HX.out)).mono ?_
    rintro e w2 ⟨rfl, x2⟩
    have HN := hid (show rkN xs q 1 r = (supC q r.fields[q] xs : Nat) by rw [← hfe.out]; rfl)
    go_wp2
    go_ret
    exact ⟨by rw [HN.out]; rfl, HX.out.trans x2⟩
  · subst e
    clear hru
    go_enter Tryd.func93, Tryd.ntmps93
    have HN := hid (show rkN xs q 2 r = (r.fields[q].size : Nat) by rw [← hfe.out]; rfl)
    go_wp2
    go_ret
    exact ⟨by rw [HN.out]; rfl, HX.out⟩
  · subst e
    clear hru
    go_enter Tryd.func93, Tryd.ntmps93
    have HN := hid (show rkN xs q 3 r = r.version by rfl)
    go_wp2
    go_ret
    exact ⟨by rw [HN.out]; rfl, HX.out⟩
  · subst e
    clear hru
    go_enter Tryd.func93, Tryd.ntmps93
    have HN := hid (show rkN xs q 4 r = 4 - r.source by rfl)
    go_wp2
    go_ret
    exact ⟨by rw [HN.out]; rfl, HX.out⟩

set_option maxHeartbeats 400000 in
set_option maxRecDepth 20000 in
theorem spec_l27Rank (v : Value) (xs : List Record) (k q : Nat) (rule : Int) (w : World) (h : Sl recordR w v xs) (hk : k < xs.length) (hg : goodRecs xs = true) (hq : q ≤ 3) (hru : inB rule 1 4 = true) :
    Calls Tryd.prog 91 #[v, .int .i64 (k : Nat), .int .i64 (q : Nat), .int .i64 rule] w fun e w2 => e = .returned (.int .i64 (rkN xs q rule xs[k])) ∧ Ext w w2 := by
  obtain ⟨A, cap, rfl, hm⟩ := h.form
  have ho := goodRecs_at hg (List.getElem_mem hk)
  have hin := okRec_in ho
  obtain ⟨b1, off, A2, cap2, rfl, hok, hsl, hd0, hd1, hd2, hd3⟩ := h.record hk
  have hq4 : q < xs[k].fields.length := by have := okRec_len ho; omega
  obtain ⟨b2, off2, rfl, hf1, hf2⟩ := hsl.str hq4
  have hsz : xs[k].fields[q].size ≤ 40 := okRec_F ho _ (List.getElem_mem hq4)
  have hfe := hid (fldAt_eq hq4)
  have hl := goodRecs_len hg
  have HG := hid hg
  clear ho hsl hg
  have HRU := hid hru
  rcases rk_four hru with e | e | e | e
  · subst e
    clear hru
    go_enter Tryd.func91, Tryd.ntmps91
    go_wp2_with fail
    refine (spec_FieldSupport _ xs (q : Nat) xs[k].fields[q] _ h (by unfold I64; omega) (by omega)).mono ?_
    rintro e w2 ⟨rfl, x2⟩
    have HN := hid (show rkN xs q 1 xs[k] = fsupN xs (q : Nat) xs[k].fields[q] by
      rw [fsupN_yes HG.out (by unfold inB; simp; omega), ← hfe.out]; rfl)
    go_wp2
    go_ret
    exact ⟨by rw [HN.out]; rfl, x2⟩
  · subst e
    clear hru
    go_enter Tryd.func91, Tryd.ntmps91
    have HN := hid (show rkN xs q 2 xs[k] = (xs[k].fields[q].size : Nat) by rw [← hfe.out]; rfl)
    go_wp2
    go_ret
    exact ⟨by rw [HN.out]; rfl, (by repeat (first | with_reducible exact Ext.refl _ | with_reducible assumption | with_reducible refine Ext.drew ?_ | with_reducible refine Ext.alloc ?_ _ | with_reducible refine Ext.trans ?_ (by with_reducible assumption)))⟩
  · subst e
    clear hru
    go_enter Tryd.func91, Tryd.ntmps91
    have HN := hid (show rkN xs q 3 xs[k] = xs[k].version by rfl)
    go_wp2
    go_ret
    exact ⟨by rw [HN.out]; rfl, (by repeat (first | with_reducible exact Ext.refl _ | with_reducible assumption | with_reducible refine Ext.drew ?_ | with_reducible refine Ext.alloc ?_ _ | with_reducible refine Ext.trans ?_ (by with_reducible assumption)))⟩
  · subst e
    clear hru
    go_enter Tryd.func91, Tryd.ntmps91
    have HN := hid (show rkN xs q 4 xs[k] = 4 - xs[k].source by rfl)
    go_wp2
    go_ret
    exact ⟨by rw [HN.out]; rfl, (by repeat (first | with_reducible exact Ext.refl _ | with_reducible assumption | with_reducible refine Ext.drew ?_ | with_reducible refine Ext.alloc ?_ _ | with_reducible refine Ext.trans ?_ (by with_reducible assumption)))⟩
end Go.Proofs.YtgbcbmlikmjjkaaDoor
