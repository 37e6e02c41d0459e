/-
  WALKS: FormatVerdict (both).
-/
import Derived.Test.YtblggajfdhjmjaaDoorMgEndFnVer2
import Derived.Test.YtblggajfdhjmjaaDoorMgEndFnVer1

namespace Go.Proofs.YtblggajfdhjmjaaDoor
open Go.RowKit

/-- the text of a verdict -/
def fmtV (v : Verdict) : ByteArray := if okV v = true then itoaS v.a ++ (if v.same = true then ⟨#[61]⟩ else ⟨#[33]⟩) ++ itoaS v.b ++ ⟨#[64]⟩ ++ itoaS v.time else ⟨#[]⟩
theorem fmtV_same {a b t : Int} (h : okV ⟨a, b, true, t⟩ = true) : fmtV ⟨a, b, true, t⟩ = itoaS a ++ ⟨#[61]⟩ ++ itoaS b ++ ⟨#[64]⟩ ++ itoaS t := by unfold fmtV; rw [if_pos h]; rfl
theorem fmtV_not {a b t : Int} (h : okV ⟨a, b, false, t⟩ = true) : fmtV ⟨a, b, false, t⟩ = itoaS a ++ ⟨#[33]⟩ ++ itoaS b ++ ⟨#[64]⟩ ++ itoaS t := by unfold fmtV; rw [if_pos h]; rfl
theorem fmtV_none {v : Verdict} (h : ¬ okV v = true) : fmtV v = ⟨#[]⟩ := by unfold fmtV; rw [if_neg h]
theorem okV_bounds {v : Verdict} (h : okV v = true) : (1 ≤ v.a ∧ v.a ≤ 399) ∧ (1 ≤ v.b ∧ v.b ≤ 399) ∧ v.a < v.b ∧ 1 ≤ v.time ∧ v.time ≤ 999 := by
  unfold okV inB at h
  simp only [Bool.and_eq_true, decide_eq_true_eq] at h
  exact ⟨h.1.1.1, h.1.1.2, h.1.2, h.2⟩
theorem fmtV_size (v : Verdict) : (fmtV v).size ≤ 100 := by
  by_cases h : okV v = true
  · obtain ⟨h1, h2, h3, h4⟩ := okV_bounds h
    have s1 := itoaS_size (n := v.a) (by unfold I64; omega)
    have s2 := itoaS_size (n := v.b) (by unfold I64; omega)
    have s3 := itoaS_size (n := v.time) (by unfold I64; omega)
    have e1 : (⟨#[61]⟩ : ByteArray).size = 1 := rfl
    have e2 : (⟨#[33]⟩ : ByteArray).size = 1 := rfl
    have e3 : (⟨#[64]⟩ : ByteArray).size = 1 := rfl
    unfold fmtV
    rw [if_pos h]
    split <;> simp only [ByteArray.size_append, e1, e2, e3] <;> omega
  · rw [fmtV_none h]; decide

set_option maxHeartbeats 400000 in
set_option maxRecDepth 20000 in
theorem impl_FormatVerdict (a b : Int) (s : Bool) (t : Int) (w : World) (T : Tab w) :
    Calls Tryd.prog 13 #[.agg #[.int .i64 a, .int .i64 b, .bool s, .int .i64 t]] w fun e w2 => e = .returned (.string (fmtV ⟨a, b, s, t⟩)) ∧ Ext w w2 := by
  go_enter Tryd.func13, Tryd.ntmps13
  go_wp2_with fail
  refine (impl_IsValidVerdict a b s t _).mono ?_
  rintro e w1 ⟨rfl, x1⟩
  by_cases h : okV ⟨a, b, s, t⟩ = true
  · obtain ⟨h1, h2, h3, h4⟩ := okV_bounds h
    have i1 : I64 a := by simp only at h1; unfold I64; omega
    have i2 : I64 b := by simp only at h2; unfold I64; omega
    have i3 : I64 t := by simp only at h4; unfold I64; omega
    have s1 := itoaS_size i1
    have s2 := itoaS_size i2
    have s3 := itoaS_size i3
    obtain ⟨c, z⟩ := x1.boxes
    have z0 : ∀ q : ExtOf w1, q.1.cell? ⟨w.heap.size, 0, none⟩ = some (.int .i64 a) := fun q => z q 0
    have z1 : ∀ q : ExtOf w1, q.1.cell? ⟨w.heap.size, 1, none⟩ = some (.int .i64 b) := fun q => z q 1
    have z3 : ∀ q : ExtOf w1, q.1.cell? ⟨w.heap.size, 3, none⟩ = some (.int .i64 t) := fun q => z q 3
    have c2 : w1.cell? ⟨w.heap.size, 2, none⟩ = some (.bool s) := c 2
    have TZ : ∀ q : ExtOf w1, Tab q.1 := fun q => T.mono ((((Ext.refl w).alloc _).trans x1).trans q.2)
    clear c z h1 h2 h3 h4
    rw [h]
    have H := hid h
    clear h
    cases s
    all_goals
      go_wp2_with fail
      refine wp_region_ext (by kernel_rfl) (by kernel_rfl) ?_
      repeat (go_big_quiet_step (((go_at_call 29; exact quiet_ext (impl_FormatInt _ _ (by with_reducible assumption) (TZ _))))))
      refine wpQuiet_nil ?_
      rintro w2 ⟨⟨_, x2⟩, rfl⟩
      go_wp2
      go_ret
    · exact ⟨by rw [fmtV_not H.out]; rfl, (by repeat (first | with_reducible exact Ext.refl _ | with_reducible assumption | with_reducible refine Ext.drew ?_ | with_reducible refine Ext.alloc ?_ _ | with_reducible refine Ext.trans ?_ (by with_reducible assumption)))⟩
    · exact ⟨by rw [fmtV_same H.out]; rfl, (by repeat (first | with_reducible exact Ext.refl _ | with_reducible assumption | with_reducible refine Ext.drew ?_ | with_reducible refine Ext.alloc ?_ _ | with_reducible refine Ext.trans ?_ (by with_reducible assumption)))⟩
  · have h' : okV ⟨a, b, s, t⟩ = false := by simpa using h
    have H := hid h
    rw [h']
    clear h h'
    go_wp2
    go_ret
    exact ⟨by rw [fmtV_none H.out]; rfl, (by repeat (first | with_reducible exact Ext.refl _ | with_reducible assumption | with_reducible refine Ext.drew ?_ | with_reducible refine Ext.alloc ?_ _ | with_reducible refine Ext.trans ?_ (by with_reducible assumption)))⟩
end Go.Proofs.YtblggajfdhjmjaaDoor
