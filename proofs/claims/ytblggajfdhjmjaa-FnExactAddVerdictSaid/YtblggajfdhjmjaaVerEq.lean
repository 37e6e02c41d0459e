/-
  PLAIN LAW AND WALK: '==' on verdicts; slices.Equal at verdicts.
-/
import Derived.Test.YtblggajfdhjmjaaVerS
namespace Go.Proofs.Ytblggajfdhjmjaa
open Go.RowKit

theorem ver_cases (x y : Verdict) : (x = y ∧ (x.a == y.a) = true ∧ (x.b == y.b) = true ∧ (x.same == y.same) = true ∧ (x.time == y.time) = true) ∨
    (¬ x = y ∧ ((x.a == y.a) = false ∨ ((x.a == y.a) = true ∧ (x.b == y.b) = false) ∨ ((x.a == y.a) = true ∧ (x.b == y.b) = true ∧ (x.same == y.same) = false) ∨ ((x.a == y.a) = true ∧ (x.b == y.b) = true ∧ (x.same == y.same) = true ∧ (x.time == y.time) = false))) := by
  by_cases h1 : x.a = y.a
  · by_cases h2 : x.b = y.b
    · by_cases h3 : x.same = y.same
      · by_cases h4 : x.time = y.time
        · exact .inl ⟨(Verdict.eta x y).2 ⟨h1, h2, h3, h4⟩, by simp [h1], by simp [h2], by simp [h3], by simp [h4]⟩
        · exact .inr ⟨fun e => h4 (by rw [e]), .inr (.inr (.inr ⟨by simp [h1], by simp [h2], by simp [h3], by simp [h4]⟩))⟩
      · exact .inr ⟨fun e => h3 (by rw [e]), .inr (.inr (.inl ⟨by simp [h1], by simp [h2], by simp [h3]⟩))⟩
    · exact .inr ⟨fun e => h2 (by rw [e]), .inr (.inl ⟨by simp [h1], by simp [h2]⟩)⟩
  · exact .inr ⟨fun e => h1 (by rw [e]), .inl (by simp [h1])⟩

end Go.Proofs.Ytblggajfdhjmjaa
