/-
  FnExactEncodeEntry: for every version and every batch the program's EncodeEntry and the reference's answer the same. Conditions: the listed tables of Go's library read as the program's text lays them (the card ties them).
-/
import Derived.Test.YtfieimmlcopbhaaDoorLEnc
import Derived.Test.YtfieimmlcopbhaaDoorKEnc
import Derived.Test.YtfieimmlcopbhaaDoorBat
import Derived.Test.YtfieimmlcopbhaaDoorDoor
import Derived.Test.YtfieimmlcopbhaaDoorCards
import Derived.Test.YtfieimmlcopbhaaDoorTie
import Derived.SevenTiedAt
namespace Go.Proofs.YtfieimmlcopbhaaDoor
open Go.RowKit Go.ChangeShapes Go.WideShapes Go.ChangeAt

set_option maxHeartbeats 400000 in
set_option maxRecDepth 100000 in
theorem lifted_ExactEncodeEntry (os : Os) (started : os.Started) (H : Type) (enc : TypeId × Value → H) :
    ReturnsInHanded {} Tryd.checked os 4 .any (fun w args => (Rows.fnExactEncodeEntrySpec.pre enc Tryd.prog Tryd.f4 Rows.fnExactEncodeEntryRow.domain false w args ∧ laidMet Tryd.prog Rows.fnExactEncodeEntryRow.laid w) ∧ sizedMet enc Tryd.prog Tryd.f4 (OpenSpec.ofChange Rows.fnExactEncodeEntrySpec) false w args)
      (Rows.fnExactEncodeEntrySpec.post enc Tryd.prog Tryd.f4 false true false false) := by
  refine returnsInHanded_of_change_and (C := Tryd.checked) (X := fun w _ => laidMet Tryd.prog Rows.fnExactEncodeEntryRow.laid w) (fun _ _ _ hh h => h.of_heap hh) own started (by kernel_rfl) Tryd.func4
    (ChangeSpec.witness_shaped (enc := enc) (C := Tryd.checked) (os := os) (X := fun w _ => laidMet Tryd.prog Rows.fnExactEncodeEntryRow.laid w) false (World.laidAll Tryd.prog os Rows.fnExactEncodeEntryRow.laid) #[.int .i64 0, .agg #[.slice none 0 0]] 8 (World.laidAll_os _ _ _) (World.shaped_of_ZipB (by kernel_rfl) (by kernel_rfl)) (by kernel_rfl) (by kernel_rfl) (by kernel_rfl) (laidMet_laidAll _ (by kernel_rfl) (by kernel_rfl))) ?_
  intro W base args ds gs before hval0 hW _ _ hL _
  have hval : ∀ (j : Nat) t v, Tryd.f4.params[j]? = some t → args[j]? = some v → Value.okWide Tryd.prog W .any base t v := hval0
  have hW2 := hW
  obtain ⟨p, q, hA0, hV, rfl, hfz, hnd⟩ := hW
  have hA : DataW.TrodAll enc Tryd.prog W 0 (fun _ => true) true Tryd.f4.params.toList args.toList ds p := hA0
  rw [Tryd.params4] at hA hval
  have T : Tab W := by
    obtain ⟨ps, h1, _⟩ := hL
    exact tab_mem (g := 3) (by kernel_rfl) (by kernel_rfl) Tryd.underlying161 Tryd.underlying146 (by kernel_rfl) (by kernel_rfl) h1 (by repeat (first | exact List.Mem.head _ | apply List.Mem.tail))
  obtain ⟨v0, v1, d0, d1, p0, p1, rfl, rfl, rfl, h0, h1⟩ := trodAll_two hA
  obtain ⟨x0, rfl, rfl, rfl, h0w⟩ := open_int Tryd.underlying3 (hval 0 _ v0 rfl rfl) h0
  have h0x := wf_i64 h0w
  obtain ⟨cs1, x1, rfl, q1_0, rfl, ok1, r1_0⟩ := arg_struct Tryd.underlying24 rLawBatch (hval 1 _ v1 rfl rfl) h1
  have h1x : BatAt W (.agg #[q1_0]) x1 := ⟨_, rfl, ok1, r1_0⟩
  refine law_post laidOut (by rw [Tryd.params4]; intro t ht; simp at ht; first | (subst ht; exact ⟨by kernel_rfl, of_decide_eq_true (by kernel_rfl)⟩) | (rcases ht with rfl | rfl <;> exact ⟨by kernel_rfl, of_decide_eq_true (by kernel_rfl)⟩) | (rcases ht with rfl | rfl | rfl <;> exact ⟨by kernel_rfl, of_decide_eq_true (by kernel_rfl)⟩)) (tb := 4) rfl Tryd.underlying4 rfl rfl hW2 ?_
  exact law_EncodeEntry x0 _ x1 W h0x h1x T

theorem ExactEncodeEntry_row : Rows.FnExactEncodeEntrySaid :=
  OpenClaim.holds_of_wide 4 Tryd.f4 rfl rfl rfl rfl rfl rfl rfl ⟨rfl, rfl, rfl, rfl, rfl⟩ rfl rfl rfl rfl rfl (by kernel_rfl) Tryd.func4 closed_ExactEncodeEntry
    (of_decide_eq_true (by kernel_rfl)) (by unfold Func.isWrapper; first | (rw [if_pos (by decide +kernel)]; kernel_rfl) | (rw [if_neg (by decide +kernel)]; exact ⟨rfl, rfl⟩))
    (fun os started H enc _ => lifted_ExactEncodeEntry os started H enc)
theorem ExactEncodeEntry_holds : Rows.FnExactEncodeEntryCardSaid :=
  Claim7.holds_tied_plain_at .later [] Rows.fnExactEncodeEntryCard.laidKinds true Rows.fnExactEncodeEntryCard.stood.harness Rows.fnExactEncodeEntryCard.stood.looks
    ExactEncodeEntry_row (fun _ h => by cases h) (by kernel_rfl) (fun _ h => by cases h) fnExactEncodeEntry_row_tie rfl ⟨rfl, rfl⟩ (by kernel_rfl) rfl
    (fun f fn hf hfn => by
      obtain rfl : f = 4 := Option.some.inj ((show Tryd.prog.funcNamed "loop.example/g01923/laws.FnExactEncodeEntry" = some 4 by kernel_rfl).symm.trans hf) |>.symm
      obtain rfl : fn = Tryd.f4 := (Option.some.inj (Tryd.func4.symm.trans hfn)).symm
      refine ⟨by kernel_rfl, fun j t ht => ?_⟩
      rw [Tryd.params4] at ht
      have hm := Array.mem_of_getElem? ht
      simp only [List.mem_toArray, List.mem_cons, List.not_mem_nil, or_false] at hm
      show Tryd.prog.wantsStandIn t = false
      first | (rw [hm]; kernel_rfl) | (rcases hm with hm | hm <;> (rw [hm]; kernel_rfl)) | (rcases hm with hm | hm | hm <;> (rw [hm]; kernel_rfl)))
    (by kernel_rfl)
end Go.Proofs.YtfieimmlcopbhaaDoor

