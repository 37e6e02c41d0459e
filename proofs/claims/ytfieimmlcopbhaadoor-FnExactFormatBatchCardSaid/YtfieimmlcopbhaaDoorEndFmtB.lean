/-
  FnExactFormatBatch: for every batch the program's FormatBatch and the reference's answer the same. Conditions: the listed tables of Go's library read as the program's text lays them (the card ties them).
-/
import Derived.Test.YtfieimmlcopbhaaDoorLFmtB
import Derived.Test.YtfieimmlcopbhaaDoorKFmtB
import Derived.Test.YtfieimmlcopbhaaDoorBat
import Derived.Test.YtfieimmlcopbhaaDoorDoor
import Derived.Test.YtfieimmlcopbhaaDoorCards
import Derived.Test.YtfieimmlcopbhaaDoorTie
import Derived.SevenTiedAt
namespace Go.Proofs.YtfieimmlcopbhaaDoor
open Go.RowKit Go.ChangeShapes Go.WideShapes Go.ChangeAt

set_option maxHeartbeats 400000 in
set_option maxRecDepth 100000 in
theorem lifted_ExactFormatBatch (os : Os) (started : os.Started) (H : Type) (enc : TypeId × Value → H) :
    ReturnsInHanded {} Tryd.checked os 3 .any (fun w args => (Rows.fnExactFormatBatchSpec.pre enc Tryd.prog Tryd.f3 Rows.fnExactFormatBatchRow.domain false w args ∧ laidMet Tryd.prog Rows.fnExactFormatBatchRow.laid w) ∧ sizedMet enc Tryd.prog Tryd.f3 (OpenSpec.ofChange Rows.fnExactFormatBatchSpec) false w args)
      (Rows.fnExactFormatBatchSpec.post enc Tryd.prog Tryd.f3 false true false false) := by
  refine returnsInHanded_of_change_and (C := Tryd.checked) (X := fun w _ => laidMet Tryd.prog Rows.fnExactFormatBatchRow.laid w) (fun _ _ _ hh h => h.of_heap hh) own started (by kernel_rfl) Tryd.func3
    (ChangeSpec.witness_shaped (enc := enc) (C := Tryd.checked) (os := os) (X := fun w _ => laidMet Tryd.prog Rows.fnExactFormatBatchRow.laid w) false (World.laidAll Tryd.prog os Rows.fnExactFormatBatchRow.laid) #[.agg #[.slice none 0 0]] 8 (World.laidAll_os _ _ _) (World.shaped_of_ZipB (by kernel_rfl) (by kernel_rfl)) (by kernel_rfl) (by kernel_rfl) (by kernel_rfl) (laidMet_laidAll _ (by kernel_rfl) (by kernel_rfl))) ?_
  intro W base args ds gs before hval0 hW _ _ hL _
  have hval : ∀ (j : Nat) t v, Tryd.f3.params[j]? = some t → args[j]? = some v → Value.okWide Tryd.prog W .any base t v := hval0
  have hW2 := hW
  obtain ⟨p, q, hA0, hV, rfl, hfz, hnd⟩ := hW
  have hA : DataW.TrodAll enc Tryd.prog W 0 (fun _ => true) true Tryd.f3.params.toList args.toList ds p := hA0
  rw [Tryd.params3] at hA hval
  have T : Tab W := by
    obtain ⟨ps, h1, _⟩ := hL
    exact tab_mem (g := 3) (by kernel_rfl) (by kernel_rfl) Tryd.underlying161 Tryd.underlying146 (by kernel_rfl) (by kernel_rfl) h1 (by repeat (first | exact List.Mem.head _ | apply List.Mem.tail))
  obtain ⟨v0, d0, rfl, rfl, h0⟩ := trodAll_one hA
  obtain ⟨cs0, x0, rfl, q0_0, rfl, ok0, r0_0⟩ := arg_struct Tryd.underlying24 rLawBatch (hval 0 _ v0 rfl rfl) h0
  have h0x : BatAt W (.agg #[q0_0]) x0 := ⟨_, rfl, ok0, r0_0⟩
  refine law_post laidOut (by rw [Tryd.params3]; intro t ht; simp at ht; first | (subst ht; exact ⟨by kernel_rfl, of_decide_eq_true (by kernel_rfl)⟩) | (rcases ht with rfl | rfl <;> exact ⟨by kernel_rfl, of_decide_eq_true (by kernel_rfl)⟩) | (rcases ht with rfl | rfl | rfl <;> exact ⟨by kernel_rfl, of_decide_eq_true (by kernel_rfl)⟩)) (tb := 4) rfl Tryd.underlying4 rfl rfl hW2 ?_
  exact law_FormatBatch _ x0 W h0x T

theorem ExactFormatBatch_row : Rows.FnExactFormatBatchSaid :=
  OpenClaim.holds_of_wide 3 Tryd.f3 rfl rfl rfl rfl rfl rfl rfl ⟨rfl, rfl, rfl, rfl, rfl⟩ rfl rfl rfl rfl rfl (by kernel_rfl) Tryd.func3 closed_ExactFormatBatch
    (of_decide_eq_true (by kernel_rfl)) (by unfold Func.isWrapper; first | (rw [if_pos (by decide +kernel)]; kernel_rfl) | (rw [if_neg (by decide +kernel)]; exact ⟨rfl, rfl⟩))
    (fun os started H enc _ => lifted_ExactFormatBatch os started H enc)
theorem ExactFormatBatch_holds : Rows.FnExactFormatBatchCardSaid :=
  Claim7.holds_tied_plain_at .later [] Rows.fnExactFormatBatchCard.laidKinds true Rows.fnExactFormatBatchCard.stood.harness Rows.fnExactFormatBatchCard.stood.looks
    ExactFormatBatch_row (fun _ h => by cases h) (by kernel_rfl) (fun _ h => by cases h) fnExactFormatBatch_row_tie rfl ⟨rfl, rfl⟩ (by kernel_rfl) rfl
    (fun f fn hf hfn => by
      obtain rfl : f = 3 := Option.some.inj ((show Tryd.prog.funcNamed "loop.example/g01923/laws.FnExactFormatBatch" = some 3 by kernel_rfl).symm.trans hf) |>.symm
      obtain rfl : fn = Tryd.f3 := (Option.some.inj (Tryd.func3.symm.trans hfn)).symm
      refine ⟨by kernel_rfl, fun j t ht => ?_⟩
      rw [Tryd.params3] at ht
      have hm := Array.mem_of_getElem? ht
      simp only [List.mem_toArray, List.mem_cons, List.not_mem_nil, or_false] at hm
      show Tryd.prog.wantsStandIn t = false
      first | (rw [hm]; kernel_rfl) | (rcases hm with hm | hm <;> (rw [hm]; kernel_rfl)) | (rcases hm with hm | hm | hm <;> (rw [hm]; kernel_rfl)))
    (by kernel_rfl)
end Go.Proofs.YtfieimmlcopbhaaDoor

