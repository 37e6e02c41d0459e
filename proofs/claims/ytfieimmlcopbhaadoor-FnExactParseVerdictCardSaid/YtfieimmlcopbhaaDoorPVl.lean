/-
  PLAIN LAWS: what ParseVerdict answers.
-/
import Derived.Test.YtfieimmlcopbhaaDoorPar
import Derived.Test.YtfieimmlcopbhaaDoorFmtV
import Derived.Lib.IndexAny
namespace Go.Proofs.YtfieimmlcopbhaaDoor
open Go.RowKit

noncomputable def pV (s : ByteArray) : Verdict × Bool := ans okV fmtV ⟨0, 0, false, 0⟩ s
def sgn (b : Bool) : UInt8 := if b = true then 61 else 33
/-- the head of a verdict's text -/
def vHd (v : Verdict) : List UInt8 := Go.Lib.itoa v.a ++ sgn v.same :: Go.Lib.itoa v.b
theorem V_data {v : Verdict} (h : okV v = true) : (fmtV v).data.toList = Go.Lib.itoa v.a ++ sgn v.same :: (Go.Lib.itoa v.b ++ 64 :: Go.Lib.itoa v.time) := by
  unfold fmtV
  rw [if_pos h]
  simp only [app_data, itoaS_data]
  unfold sgn
  cases v.same <;> simp
theorem V_data2 {v : Verdict} (h : okV v = true) : (fmtV v).data.toList = vHd v ++ 64 :: Go.Lib.itoa v.time := by
  rw [V_data h]; unfold vHd; simp
theorem sgn_no (b : Bool) : isDg (sgn b) = false ∧ sgn b ≠ 45 ∧ sgn b ≠ 64 := by cases b <;> decide
theorem itoa_64 (n : Int) : (64 : UInt8) ∉ Go.Lib.itoa n := itoa_no 64 (by decide) (by decide) n
theorem itoa_61 (n : Int) : (61 : UInt8) ∉ Go.Lib.itoa n := itoa_no 61 (by decide) (by decide) n
theorem itoa_33 (n : Int) : (33 : UInt8) ∉ Go.Lib.itoa n := itoa_no 33 (by decide) (by decide) n
theorem itoa_sgn (b : Bool) (n : Int) : sgn b ∉ Go.Lib.itoa n := itoa_no _ (sgn_no b).1 (sgn_no b).2.1 n
theorem vHd_64 (v : Verdict) : (64 : UInt8) ∉ vHd v := by
  unfold vHd
  rw [List.mem_append, List.mem_cons]
  rintro (h | h | h)
  · exact itoa_64 _ h
  · exact (sgn_no v.same).2.2 h.symm
  · exact itoa_64 _ h
theorem V_cut {v : Verdict} {s : ByteArray} (h : okV v = true) (e : fmtV v = s) : pcs 64 s = [bs (vHd v), bs (Go.Lib.itoa v.time)] := by
  subst e
  unfold pcs
  rw [V_data2 h, cutL_hit (vHd_64 v), cutL_all (itoa_64 _)]; rfl
theorem V_cut2 (v : Verdict) (h : v.same = true) : pcs 61 (bs (vHd v)) = [bs (Go.Lib.itoa v.a), bs (Go.Lib.itoa v.b)] := by
  rw [pcs_bs]; unfold vHd sgn
  rw [if_pos h, cutL_hit (itoa_61 _), cutL_all (itoa_61 _)]; rfl
theorem V_cut3 (v : Verdict) (h : v.same = false) : (pcs 61 (bs (vHd v))).length = 1 ∧ pcs 33 (bs (vHd v)) = [bs (Go.Lib.itoa v.a), bs (Go.Lib.itoa v.b)] := by
  rw [pcs_bs, pcs_bs]; unfold vHd sgn
  rw [if_neg (by simp [h])]
  refine ⟨?_, by rw [cutL_hit (itoa_33 _), cutL_all (itoa_33 _)]; rfl⟩
  rw [cutL_all]
  · rfl
  · rw [List.mem_append, List.mem_cons]
    rintro (h | h | h)
    · exact itoa_61 _ h
    · exact absurd h (by decide)
    · exact itoa_61 _ h
theorem okV_r {v : Verdict} (h : okV v = true) : pI (bs (Go.Lib.itoa v.a)) = (v.a, true) ∧ pI (bs (Go.Lib.itoa v.b)) = (v.b, true) ∧ pI (bs (Go.Lib.itoa v.time)) = (v.time, true) := by
  obtain ⟨h1, h2, h3, h4⟩ := okV_bounds h
  exact ⟨pI_itoa (by omega), pI_itoa (by omega), pI_itoa (by omega)⟩

theorem pV_no1 {s : ByteArray} (h : ¬ (pcs 64 s).length = 2) : pV s = (⟨0, 0, false, 0⟩, false) :=
  ans_no fun x h1 h2 => h (by rw [V_cut h1 h2]; rfl)
theorem pV_no2 {s h0 h1 : ByteArray} (h : pcs 64 s = [h0, h1]) (k1 : ¬ (pcs 61 h0).length = 2) (k2 : ¬ (pcs 33 h0).length = 2) : pV s = (⟨0, 0, false, 0⟩, false) :=
  ans_no fun x h1 h2 => by
    have e := (V_cut h1 h2).symm.trans h
    injection e with e1 _
    cases hs : x.same
    · exact k2 (by rw [← e1, (V_cut3 x hs).2]; rfl)
    · exact k1 (by rw [← e1, V_cut2 x hs]; rfl)
theorem pV_A1 {s h0 h1 p0 p1 : ByteArray} (h : pcs 64 s = [h0, h1]) (k : pcs 61 h0 = [p0, p1]) : ∀ x, okV x = true → fmtV x = s → x = ⟨(pI p0).1, (pI p1).1, true, (pI h1).1⟩ := fun x h1 h2 => by
  have e := (V_cut h1 h2).symm.trans h
  injection e with e1 e2
  injection e2 with e2 _
  obtain ⟨r1, r2, r3⟩ := okV_r h1
  cases hs : x.same
  · exfalso
    have := (V_cut3 x hs).1
    rw [e1, k] at this; cases this
  · have q := (V_cut2 x hs).symm.trans (e1 ▸ k)
    injection q with q1 q2
    injection q2 with q2 _
    rw [← q1, ← q2, ← e2, r1, r2, r3, ← hs]
theorem pV_A2 {s h0 h1 p0 p1 : ByteArray} (h : pcs 64 s = [h0, h1]) (k1 : ¬ (pcs 61 h0).length = 2) (k : pcs 33 h0 = [p0, p1]) : ∀ x, okV x = true → fmtV x = s → x = ⟨(pI p0).1, (pI p1).1, false, (pI h1).1⟩ := fun x h1 h2 => by
  have e := (V_cut h1 h2).symm.trans h
  injection e with e1 e2
  injection e2 with e2 _
  obtain ⟨r1, r2, r3⟩ := okV_r h1
  cases hs : x.same
  · have q := (V_cut3 x hs).2.symm.trans (e1 ▸ k)
    injection q with q1 q2
    injection q2 with q2 _
    rw [← q1, ← q2, ← e2, r1, r2, r3, ← hs]
  · exact absurd (show (pcs 61 h0).length = 2 by rw [← e1, V_cut2 x hs]; rfl) k1
/-- the last test -/
theorem fmtV_ok {v : Verdict} {s : ByteArray} (h : fmtV v = s) (hs : s ≠ ⟨#[]⟩) : okV v = true := by
  cases hv : okV v with
  | true => rfl
  | false => exact absurd (by rw [← h, fmtV_none (by simp [hv])]) hs
/-- the program's road: the first sign, then the '@' -/
theorem V_idx {v : Verdict} {s : ByteArray} (h : okV v = true) (e : fmtV v = s) : Go.Lib.indexAny s.data.toList [61, 33] = ((Go.Lib.itoa v.a).length : Int) := by
  subst e
  rw [V_data h]
  refine Go.Lib.indexAny_hit (i := (Go.Lib.itoa v.a).length) (x := sgn v.same) ?_ (by simp) (by cases v.same <;> decide)
  intro j b hj hb
  rw [List.getElem?_append_left hj] at hb
  have hm := List.mem_of_getElem? hb
  cases hc : ([61, 33] : List UInt8).contains b with
  | false => rfl
  | true =>
    simp only [List.contains_cons, List.contains_nil, Bool.or_false, Bool.or_eq_true, beq_iff_eq] at hc
    rcases hc with rfl | rfl
    · exact absurd hm (itoa_61 _)
    · exact absurd hm (itoa_33 _)
theorem V_road {v : Verdict} {s : ByteArray} (h : okV v = true) (e : fmtV v = s) :
    s.data.toList.take (Go.Lib.itoa v.a).length = Go.Lib.itoa v.a ∧ s.data.toList[(Go.Lib.itoa v.a).length]? = some (sgn v.same) ∧ Go.Lib.cut (s.data.toList.drop ((Go.Lib.itoa v.a).length + 1)) [64] = (Go.Lib.itoa v.b, Go.Lib.itoa v.time, true) := by
  subst e
  rw [V_data h]
  refine ⟨by simp, by simp, ?_⟩
  have e1 : (Go.Lib.itoa v.a ++ sgn v.same :: (Go.Lib.itoa v.b ++ 64 :: Go.Lib.itoa v.time)).drop ((Go.Lib.itoa v.a).length + 1) = Go.Lib.itoa v.b ++ 64 :: Go.Lib.itoa v.time := by
    rw [← List.drop_drop, List.drop_left]; rfl
  rw [e1, libcut_hit (itoa_64 _)]
theorem pV_A3 {s : ByteArray} {i : Nat} {x : UInt8} (hi : ∀ v, okV v = true → fmtV v = s → (Go.Lib.itoa v.a).length = i) (hx : s.data.toList[i]? = some x) :
    ∀ v, okV v = true → fmtV v = s → v = ⟨(pI (bs (s.data.toList.take i))).1, (pI (bs (Go.Lib.cut (s.data.toList.drop (i + 1)) [64]).1)).1, x == 61, (pI (bs (Go.Lib.cut (s.data.toList.drop (i + 1)) [64]).2.1)).1⟩ ∧
      (pI (bs (s.data.toList.take i))).2 = true ∧ (pI (bs (Go.Lib.cut (s.data.toList.drop (i + 1)) [64]).1)).2 = true ∧ (pI (bs (Go.Lib.cut (s.data.toList.drop (i + 1)) [64]).2.1)).2 = true := fun v h1 h2 => by
  obtain ⟨t1, t2, t3⟩ := V_road h1 h2
  have hl := hi v h1 h2
  rw [hl] at t1 t2 t3
  obtain ⟨r1, r2, r3⟩ := okV_r h1
  have ex := Option.some.inj (hx.symm.trans t2)
  rw [t1, t3, r1, r2, r3, ex]
  refine ⟨?_, rfl, rfl, rfl⟩
  have es : (sgn v.same == 61) = v.same := by cases v.same <;> decide
  rw [es]
end Go.Proofs.YtfieimmlcopbhaaDoor
