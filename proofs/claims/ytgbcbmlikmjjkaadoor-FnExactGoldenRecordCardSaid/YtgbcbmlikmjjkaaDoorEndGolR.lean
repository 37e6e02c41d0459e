/-
  FnExactGoldenRecord: for all records and rules the program's GoldenRecord and the reference's answer the same, leave the arguments as they were and hand back new memory. Conditions: the listed tables of Go's library read as the program's text lays them (the card ties them).
-/
import Derived.Test.YtgbcbmlikmjjkaaDoorLGolR
import Derived.Test.YtgbcbmlikmjjkaaDoorKGolR
import Derived.Test.YtgbcbmlikmjjkaaDoorDoorM
import Derived.Test.YtgbcbmlikmjjkaaDoorCards
import Derived.Test.YtgbcbmlikmjjkaaDoorTie
import Derived.SevenTiedAt
namespace Go.Proofs.YtgbcbmlikmjjkaaDoor
open Go.RowKit Go.ChangeShapes Go.WideShapes Go.ChangeAt

set_option maxHeartbeats 400000 in
set_option maxRecDepth 100000 in
theorem lifted_ExactGoldenRecord (os : Os) (started : os.Started) (H : Type) (enc : TypeId × Value → H) :
    ReturnsInHanded {} Tryd.checked os 11 .any (fun w args => (Rows.fnExactGoldenRecordSpec.pre enc Tryd.prog Tryd.f11 Rows.fnExactGoldenRecordRow.domain false w args ∧ laidMet Tryd.prog Rows.fnExactGoldenRecordRow.laid w) ∧ sizedMet enc Tryd.prog Tryd.f11 (OpenSpec.ofChange Rows.fnExactGoldenRecordSpec) false w args)
      (Rows.fnExactGoldenRecordSpec.post enc Tryd.prog Tryd.f11 false true false false) := by
  refine returnsInHanded_of_change_and_shaped (C := Tryd.checked) (X := fun w _ => laidMet Tryd.prog Rows.fnExactGoldenRecordRow.laid w) (fun _ _ _ hh h => h.of_heap hh) own started (by kernel_rfl) Tryd.func11
    (ChangeSpec.witness_shaped (enc := enc) (C := Tryd.checked) (os := os) (X := fun w _ => laidMet Tryd.prog Rows.fnExactGoldenRecordRow.laid w) false (World.laidAll Tryd.prog os Rows.fnExactGoldenRecordRow.laid) #[.slice none 0 0, .slice none 0 0] 8 (World.laidAll_os _ _ _) (World.shaped_of_ZipB (by kernel_rfl) (by kernel_rfl)) (by kernel_rfl) (by kernel_rfl) (by kernel_rfl) (laidMet_laidAll _ (by kernel_rfl) (by kernel_rfl))) ?_
  intro W base args ds gs before hval0 hW _ _ hSh _ _
  have hval : ∀ (j : Nat) t v, Tryd.f11.params[j]? = some t → args[j]? = some v → Value.okWide Tryd.prog W .any base t v := hval0
  have hW2 := hW
  obtain ⟨p, q, hA0, hV, rfl, hfz, hnd⟩ := hW
  have hA : DataW.TrodAll enc Tryd.prog W 0 (fun _ => true) true Tryd.f11.params.toList args.toList ds p := hA0
  rw [Tryd.params11] at hA hval
  have M : ML W := ML.of_shaped hSh
  obtain ⟨v0, v1, d0, d1, p0, p1, rfl, rfl, rfl, h0, h1⟩ := trodAll_two hA
  obtain ⟨x0, h0x⟩ := arg_slice Tryd.underlying58 rLawRecords (hval 0 _ v0 rfl rfl) h0
  obtain ⟨x1, h1x⟩ := arg_slice Tryd.underlying70 rInts (hval 1 _ v1 rfl rfl) h1
  refine law_post laidOut (by rw [Tryd.params11]; intro t ht; simp at ht; first | (subst ht; exact ⟨by kernel_rfl, of_decide_eq_true (by kernel_rfl)⟩) | (rcases ht with rfl | rfl <;> exact ⟨by kernel_rfl, of_decide_eq_true (by kernel_rfl)⟩) | (rcases ht with rfl | rfl | rfl <;> exact ⟨by kernel_rfl, of_decide_eq_true (by kernel_rfl)⟩)) (tb := 4) rfl Tryd.underlying4 rfl rfl hW2 ?_
  exact law_GoldenRecord _ x0 _ x1 W h0x h1x M

theorem ExactGoldenRecord_row : Rows.FnExactGoldenRecordSaid :=
  OpenClaim.holds_of_wide 11 Tryd.f11 rfl rfl rfl rfl rfl rfl rfl ⟨rfl, rfl, rfl, rfl, rfl⟩ rfl rfl rfl rfl rfl (by kernel_rfl) Tryd.func11 closed_ExactGoldenRecord
    (of_decide_eq_true (by kernel_rfl)) (by unfold Func.isWrapper; first | (rw [if_pos (by decide +kernel)]; kernel_rfl) | (rw [if_neg (by decide +kernel)]; exact ⟨rfl, rfl⟩))
    (fun os started H enc _ => lifted_ExactGoldenRecord os started H enc)
theorem ExactGoldenRecord_holds : Rows.FnExactGoldenRecordCardSaid :=
  Claim7.holds_tied_plain_at .later [] Rows.fnExactGoldenRecordCard.laidKinds true Rows.fnExactGoldenRecordCard.stood.harness false
    ExactGoldenRecord_row (fun _ h => by cases h) (by kernel_rfl) (fun _ h => by cases h) fnExactGoldenRecord_row_tie rfl ⟨rfl, rfl⟩ (by kernel_rfl) rfl
    (fun f fn hf hfn => by
      obtain rfl : f = 11 := Option.some.inj ((show Tryd.prog.funcNamed "loop.example/g01923/laws.FnExactGoldenRecord" = some 11 by kernel_rfl).symm.trans hf) |>.symm
      obtain rfl : fn = Tryd.f11 := (Option.some.inj (Tryd.func11.symm.trans hfn)).symm
      refine ⟨by kernel_rfl, fun j t ht => ?_⟩
      rw [Tryd.params11] at ht
      have hm := Array.mem_of_getElem? ht
      simp only [List.mem_toArray, List.mem_cons, List.not_mem_nil, or_false] at hm
      show Tryd.prog.wantsStandIn t = false
      first | (rw [hm]; kernel_rfl) | (rcases hm with hm | hm <;> (rw [hm]; kernel_rfl)) | (rcases hm with hm | hm | hm <;> (rw [hm]; kernel_rfl)))
    (by kernel_rfl)
end Go.Proofs.YtgbcbmlikmjjkaaDoor

