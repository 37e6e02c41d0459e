/-
  FnBatches: for every code: operations and batches are read back from their formats. Conditions: the listed variables of Go's library read as the program's text lays them (the card ties them).
-/
import Derived.Test.YtfieimmlcopbhaaGreatDoorMgEndFnBat10
import Derived.Test.YtfieimmlcopbhaaGreatDoorMgEndFnBat3
import Derived.Test.YtfieimmlcopbhaaGreatDoorMgEndFnRec5
import Derived.Test.YtfieimmlcopbhaaGreatDoorCards
import Derived.Test.YtfieimmlcopbhaaGreatDoorTie
import Derived.SevenTiedAt

namespace Go.Proofs.YtfieimmlcopbhaaGreatDoor
open Go.RowKit Go.ChangeShapes Go.WideShapes Go.ChangeAt

set_option maxHeartbeats 400000 in
set_option maxRecDepth 100000 in
theorem lifted_Batches (os : Os) (started : os.Started) (H : Type) (enc : TypeId × Value → H) :
    ReturnsInHanded {} Tryz.checked os 7 .any (fun w args => (Rows.fnBatchesSpec.pre enc Tryz.prog Tryz.f7 Rows.fnBatchesRow.domain false w args ∧ laidMet Tryz.prog Rows.fnBatchesRow.laid w) ∧ sizedMet enc Tryz.prog Tryz.f7 (OpenSpec.ofChange Rows.fnBatchesSpec) false w args)
      (Rows.fnBatchesSpec.post enc Tryz.prog Tryz.f7 false true false false) := by
  refine returnsInHanded_of_change_and_shaped (C := Tryz.checked) (X := fun w _ => laidMet Tryz.prog Rows.fnBatchesRow.laid w) (fun _ _ _ hh h => h.of_heap hh) own started (by kernel_rfl) Tryz.func7
    (ChangeSpec.witness_shaped (enc := enc) (C := Tryz.checked) (os := os) (X := fun w _ => laidMet Tryz.prog Rows.fnBatchesRow.laid w) false (World.laidAll Tryz.prog os Rows.fnBatchesRow.laid) #[.slice none 0 0] 8 (World.laidAll_os _ _ _) (World.shaped_of_ZipB (by kernel_rfl) (by kernel_rfl)) (by kernel_rfl) (by kernel_rfl) (by kernel_rfl) (laidMet_laidAll _ (by kernel_rfl) (by kernel_rfl))) ?_
  intro W base args ds gs before hval0 hW _ _ hSh hL _
  have hval : ∀ (j : Nat) t v, Tryz.f7.params[j]? = some t → args[j]? = some v → Value.okWide Tryz.prog W .any base t v := hval0
  have hW2 := hW
  obtain ⟨p, q, hA0, hV, rfl, hfz, hnd⟩ := hW
  have hA : DataW.TrodAll enc Tryz.prog W 0 (fun _ => true) true Tryz.f7.params.toList args.toList ds p := hA0
  rw [Tryz.params7] at hA hval
  have N : Env W := by
    refine ⟨?_, ML.of_shaped hSh, ?_, ?_⟩
    · obtain ⟨ps, h1, _⟩ := hL
      exact tab_mem (g := 5) (by kernel_rfl) (by kernel_rfl) Tryz.underlying176 Tryz.underlying152 (by kernel_rfl) (by kernel_rfl) h1 (by repeat (first | exact List.Mem.head _ | apply List.Mem.tail))
    · exact ev_sent (n := "strconv.ErrSyntax") (hL.tail.tail.tail.tail.tail) (by kernel_rfl) (by kernel_rfl)
    · exact ev_sent (n := "strconv.ErrRange") (hL.tail.tail.tail.tail) (by kernel_rfl) (by kernel_rfl)
  obtain ⟨v0, d0, rfl, rfl, h0⟩ := trodAll_one hA
  obtain ⟨x0, h0x⟩ := arg_slice Tryz.underlying43 rBytes (hval 0 _ v0 rfl rfl) h0
  refine law_post laidOut (by rw [Tryz.params7]; intro t ht; simp at ht; first | (subst ht; exact ⟨by kernel_rfl, of_decide_eq_true (by kernel_rfl)⟩) | (rcases ht with rfl | rfl <;> exact ⟨by kernel_rfl, of_decide_eq_true (by kernel_rfl)⟩) | (rcases ht with rfl | rfl | rfl <;> exact ⟨by kernel_rfl, of_decide_eq_true (by kernel_rfl)⟩)) (tb := 4) rfl Tryz.underlying4 rfl rfl hW2 ?_
  exact law_FnBatches _ x0 W h0x N

theorem Batches_row : Rows.FnBatchesSaid :=
  OpenClaim.holds_of_wide 7 Tryz.f7 rfl rfl rfl rfl rfl rfl rfl ⟨rfl, rfl, rfl, rfl, rfl⟩ rfl rfl rfl rfl rfl (by kernel_rfl) Tryz.func7 closed_Batches
    (of_decide_eq_true (by kernel_rfl)) (by unfold Func.isWrapper; first | (rw [if_pos (by decide +kernel)]; kernel_rfl) | (rw [if_neg (by decide +kernel)]; exact ⟨rfl, rfl⟩))
    (fun os started H enc _ => lifted_Batches os started H enc)
theorem Batches_holds : Rows.FnBatchesCardSaid :=
  Claim7.holds_tied_plain_at .later [] Rows.fnBatchesCard.laidKinds true Rows.fnBatchesCard.stood.harness Rows.fnBatchesCard.stood.looks
    Batches_row (fun _ h => by cases h) (by kernel_rfl) (fun _ h => by cases h) fnBatches_row_tie rfl ⟨rfl, rfl⟩ (by kernel_rfl) rfl
    (fun f fn hf hfn => by
      obtain rfl : f = 7 := Option.some.inj ((show Tryz.prog.funcNamed "loop.example/g01923/laws.FnBatches" = some 7 by kernel_rfl).symm.trans hf) |>.symm
      obtain rfl : fn = Tryz.f7 := (Option.some.inj (Tryz.func7.symm.trans hfn)).symm
      refine ⟨by kernel_rfl, fun j t ht => ?_⟩
      rw [Tryz.params7] at ht
      have hm := Array.mem_of_getElem? ht
      simp only [List.mem_toArray, List.mem_cons, List.not_mem_nil, or_false] at hm
      show Tryz.prog.wantsStandIn t = false
      first | (rw [hm]; kernel_rfl) | (rcases hm with hm | hm <;> (rw [hm]; kernel_rfl)) | (rcases hm with hm | hm | hm <;> (rw [hm]; kernel_rfl)))
    (by kernel_rfl)
end Go.Proofs.YtfieimmlcopbhaaGreatDoor

