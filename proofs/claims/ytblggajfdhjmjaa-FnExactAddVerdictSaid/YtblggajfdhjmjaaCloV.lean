/-
  WALK: slices.Clone at verdicts.
-/
import Derived.Test.YtblggajfdhjmjaaAppV
import Derived.Lib.SliceRun
namespace Go.Proofs.Ytblggajfdhjmjaa
open Go.RowKit

set_option maxHeartbeats 400000 in
set_option maxRecDepth 20000 in
theorem slices_Clone_v (v : Value) (xs : List Verdict) (w : World) (h : Sl verdictR w v xs) (hl : xs.length ≤ 1048576) :
    Calls Try.prog 18 #[v] w fun e w2 => ∃ v2 F, e = .returned v2 ∧ OwnSl verdictO w2 v2 xs F ∧ NewF w F ∧ Ext w w2 := by
  obtain ⟨A, cap, rfl, hm⟩ := h.form
  have q := fun (W : World) (a : Option Addr) (n c n' c' : Nat) => Lib.run_eql_slice_nil (P := Try.prog) W 26 30 a n c n' c' Try.underlying26
  cases A with
  | none =>
    have h0 : xs = [] := by
      cases xs with
      | nil => rfl
      | cons y ys =>
        obtain ⟨_, _, _, e, _⟩ := h.at_ (show 0 < (y :: ys).length by simp)
        cases e
    subst h0
    go_enter Try.func18, Try.ntmps18
    go_wp2
    go_ret
    exact ⟨_, [], rfl, .inl ⟨rfl, rfl, none, 0, rfl, Nat.zero_le _⟩, .nil _, Ext.refl _⟩
  | some ad =>
    go_enter Try.func18, Try.ntmps18
    go_wp2_with (at_builtin; refine wpList_appv elemVer (by decide) rfl _ _ rfl (Bld.lit w (Nat.le_refl _) _) rfl rfl (h.mono ((Ext.refl _).alloc _)) (by simp; omega) (by simp) ?_; intro v9 w9 hB9 hE9)
    go_ret
    obtain ⟨F', d1, d2, d3⟩ := hB9.done
    exact ⟨_, F', rfl, by simpa using d1, ⟨d2, d3⟩, hE9 w (Nat.le_refl _) ((Ext.refl _).alloc _)⟩
end Go.Proofs.Ytblggajfdhjmjaa
