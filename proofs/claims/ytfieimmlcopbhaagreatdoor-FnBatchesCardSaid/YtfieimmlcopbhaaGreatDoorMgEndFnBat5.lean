/-
  PLAIN LAWS: what ParseBatch answers.
-/
import Derived.Test.YtfieimmlcopbhaaGreatDoorMgEndFnRec19
import Derived.Test.YtfieimmlcopbhaaGreatDoorMgEndFnBat4

namespace Go.Proofs.YtfieimmlcopbhaaGreatDoor
open Go.RowKit

noncomputable def pB (s : ByteArray) : Batch × Bool := ans okBat fmtB ⟨[]⟩ s
theorem join_cons (c : UInt8) (x : ByteArray) (xs : List ByteArray) : (joinS (x :: xs) ⟨#[c]⟩).data.toList = x.data.toList ++ ((xs.map (·.data.toList)).map fun y => c :: y).flatten := by
  rw [joinS_data, List.map_cons]
  show Go.Lib.join (x.data.toList :: xs.map (·.data.toList)) [c] = _
  generalize xs.map (·.data.toList) = ys
  induction ys generalizing x with
  | nil => simp [Go.Lib.join, List.intercalate]
  | cons y ys ih =>
    have h := ih (bs y)
    rw [bs_data] at h
    unfold Go.Lib.join at h ⊢
    rw [List.map_cons, List.flatten_cons]
    have e : [c].intercalate (x.data.toList :: y :: ys) = x.data.toList ++ ([c] ++ [c].intercalate (y :: ys)) := by
      simp [List.intercalate, List.intersperse]
    rw [e, h]; simp
theorem pcs_join (c : UInt8) (x : ByteArray) (xs : List ByteArray) (h : ∀ y ∈ x :: xs, c ∉ y.data.toList) : pcs c (joinS (x :: xs) ⟨#[c]⟩) = x :: xs := by
  unfold pcs
  rw [join_cons, cutL_join c _ _ (h x (List.mem_cons_self ..)) (fun y hy => by
    obtain ⟨f, hf, rfl⟩ := List.mem_map.1 hy
    exact h f (List.mem_cons_of_mem _ hf)), ← List.map_cons (f := fun x : ByteArray => x.data.toList), map_bs]
theorem okBat_ops {b : Batch} (h : okBat b = true) : ∀ o ∈ b.ops, okOp o = true := by
  unfold okBat at h
  rw [Bool.and_eq_true] at h
  exact fun o ho => List.all_eq_true.1 h.2 o ho
theorem fmtB_yes {b : Batch} (h : okBat b = true) : fmtB b = batT b.ops := by unfold fmtB; rw [if_pos h]
theorem fmtB_ok {b : Batch} {s : ByteArray} (h : fmtB b = s) (hs : s ≠ ⟨#[]⟩) : okBat b = true := by
  cases hv : okBat b with
  | true => rfl
  | false => exact absurd (by rw [← h]; unfold fmtB; rw [if_neg (by simp [hv])]) hs
/-- the operations' texts, joined -/
noncomputable def bIn (b : Batch) : ByteArray := joinS (b.ops.map fmtO) ⟨#[59]⟩
theorem batT_data (b : Batch) : (batT b.ops).data.toList = 91 :: ((bIn b).data.toList ++ [93]) := by
  unfold batT bIn
  rw [app_data, app_data]; rfl
theorem bIn_pcs {b : Batch} (h : okBat b = true) (hne : b.ops ≠ []) : pcs 59 (bIn b) = b.ops.map fmtO := by
  unfold bIn
  cases e : b.ops with
  | nil => exact absurd e hne
  | cons o os =>
    rw [List.map_cons, pcs_join]
    intro y hy
    rw [← List.map_cons, ← e] at hy
    obtain ⟨x, hx, rfl⟩ := List.mem_map.1 hy
    exact fmtO_59 (okBat_ops h x hx)
theorem ops_back {l : List Op} (h : ∀ o ∈ l, okOp o = true) : (l.map fmtO).map (fun p => (pO p).1) = l ∧ ∀ p ∈ l.map fmtO, (pO p).2 = true := by
  constructor
  · rw [List.map_map]
    conv => rhs; rw [← List.map_id l]
    exact List.map_congr_left fun x hx => by show (pO (fmtO x)).1 = x; rw [pO_hit (h x hx)]
  · intro p hp
    obtain ⟨o, ho, rfl⟩ := List.mem_map.1 hp
    rw [pO_hit (h o ho)]
/-- the empty batch's text -/
def sEmp : ByteArray := ⟨#[91, 93]⟩
theorem pB_emp : pB sEmp = (⟨[]⟩, true) := by
  refine ans_yes (c := (⟨[]⟩ : Batch)) (fun x h1 h2 => ?_) rfl ?_
  · have hd := batT_data x
    rw [← fmtB_yes h1, h2] at hd
    have e : (sEmp).data.toList = [91, 93] := rfl
    rw [e] at hd
    injection hd with _ hd
    cases ho : x.ops with
    | nil => cases x; simp only at ho; subst ho; rfl
    | cons o os =>
      exfalso
      have hl := congrArg List.length hd
      rw [List.length_append] at hl
      simp only [List.length_cons, List.length_nil] at hl
      have h0 : (bIn x).data.toList = [] := List.length_eq_zero_iff.1 (by omega)
      have hp := bIn_pcs h1 (by rw [ho]; simp)
      rw [ho, List.map_cons] at hp
      unfold pcs at hp
      rw [h0] at hp
      have e0 : (cutL 59 []).map bs = [bs []] := rfl
      rw [e0] at hp
      injection hp with hp _
      have hO := O_form (okBat_ops h1 o (by rw [ho]; exact List.mem_cons_self ..))
      rw [← hp] at hO
      rcases hO with ⟨_, _, e2⟩ | ⟨_, _, e2⟩ | ⟨_, _, e2⟩ | ⟨_, _, e2⟩ <;> (rw [bs_data] at e2; simp [lPut, lDel, lVer, lRet] at e2)
  · rw [fmtB_yes (b := ⟨[]⟩) rfl]; rfl
/-- what both parsers lay open: the pieces between the brackets -/
theorem pB_A {s : ByteArray} {ps : List ByteArray} (hs : ¬ s = sEmp) (h : ∀ b, okBat b = true → s.data.toList = 91 :: ((bIn b).data.toList ++ [93]) → pcs 59 (bIn b) = ps) :
    ∀ b, okBat b = true → fmtB b = s → b = ⟨ps.map fun p => (pO p).1⟩ ∧ (∀ p ∈ ps, (pO p).2 = true) ∧ ps.length ≤ 6 := fun b h1 h2 => by
  have hd := batT_data b
  rw [← fmtB_yes h1, h2] at hd
  have hne : b.ops ≠ [] := fun e => hs (by
    rw [← bs_mk s, hd]
    unfold bIn
    rw [e]; rfl)
  have hp := (h b h1 hd).symm.trans (bIn_pcs h1 hne)
  obtain ⟨q1, q2⟩ := ops_back (okBat_ops h1)
  rw [hp]
  refine ⟨?_, q2, by rw [List.length_map]; exact okBat_len h1⟩
  rw [q1]
theorem pB_hit {b : Batch} (h : okBat b = true) : pB (batT b.ops) = (b, true) := by
  by_cases hs : batT b.ops = sEmp
  · have e := pB_emp
    rw [hs]
    by_cases ho : b.ops = []
    · rw [e]; cases b; simp only at ho; subst ho; rfl
    · exfalso
      have hd := batT_data b
      rw [hs] at hd
      have e0 : (sEmp).data.toList = [91, 93] := rfl
      rw [e0] at hd
      injection hd with _ hd
      have hl := congrArg List.length hd
      rw [List.length_append] at hl
      simp only [List.length_cons, List.length_nil] at hl
      have h0 : (bIn b).data.toList = [] := List.length_eq_zero_iff.1 (by omega)
      have hx : fmtB b = sEmp := by rw [fmtB_yes h, hs]
      have h9 := ans_yes (ok := okBat) (fmt := fmtB) (z := ⟨[]⟩) (s := sEmp) (c := b) (fun x h1 h2 => by
        have e1 : pB sEmp = (⟨[]⟩, true) := pB_emp
        have hp := bIn_pcs h ho
        cases hoo : b.ops with
        | nil => exact absurd hoo ho
        | cons o os =>
          exfalso
          rw [hoo, List.map_cons] at hp
          unfold pcs at hp
          rw [h0] at hp
          have e0 : (cutL 59 []).map bs = [bs []] := rfl
          rw [e0] at hp
          injection hp with hp _
          have hO := O_form (okBat_ops h o (by rw [hoo]; exact List.mem_cons_self ..))
          rw [← hp] at hO
          rcases hO with ⟨_, _, e2⟩ | ⟨_, _, e2⟩ | ⟨_, _, e2⟩ | ⟨_, _, e2⟩ <;> (rw [bs_data] at e2; simp [lPut, lDel, lVer, lRet] at e2)) h hx
      have h10 : pB sEmp = (b, true) := h9
      rw [e] at h10
      injection h10 with h10 _
      exact ho (by rw [← h10])
  · have hA := pB_A (s := batT b.ops) (ps := pcs 59 (bIn b)) hs (fun x h1 h2 => by
      have hd := batT_data b
      rw [h2] at hd
      injection hd with _ hd
      have e : (bIn x).data.toList = (bIn b).data.toList := List.append_cancel_right hd
      rw [show bIn x = bIn b by rw [← bs_mk (bIn x), e, bs_mk]])
    have hb := (hA b h (fmtB_yes h)).1
    exact ans_yes (c := b) (fun x h1 h2 => (hA x h1 h2).1.trans hb.symm) h (fmtB_yes h)
/-- the middle of a text in brackets, as the program and as the reference take it -/
theorem mid_spec {s : ByteArray} {J : List UInt8} (h : s.data.toList = 91 :: (J ++ [93])) : s.extract 1 (s.size - 1) = bs J := by
  have hsz : s.size = J.length + 2 := by
    have e : s.data.toList.length = s.size := Array.length_toList
    rw [← e, h]; simp
  rw [← bs_mk (s.extract 1 (s.size - 1)), Go.Lib.extract_data, h, hsz]
  congr 1
  simp
theorem mid_impl {s : ByteArray} {J : List UInt8} (h : s.data.toList = 91 :: (J ++ [93])) : Go.Lib.trimSuffix (Go.Lib.trimPrefix s.data.toList [91]) [93] = J := by
  rw [h]
  have e1 : Go.Lib.trimPrefix (91 :: (J ++ [93])) [91] = J ++ [93] := by
    unfold Go.Lib.trimPrefix Go.Lib.hasPrefix
    simp [List.isPrefixOf]
  rw [e1]
  unfold Go.Lib.trimSuffix Go.Lib.hasSuffix
  have e2 : List.isSuffixOf [93] (J ++ [93]) = true := by rw [List.isSuffixOf_iff_suffix]; exact List.suffix_append ..
  rw [if_pos e2]
  simp
end Go.Proofs.YtfieimmlcopbhaaGreatDoor
