/-
  FnExactParseEntities: for every string the program's ParseEntities and the reference's answer the same, in new memory. Conditions: the listed variables of Go's library read as the program's text lays them (the card ties them).
-/
import Derived.Test.YtfieimmlcopbhaaDoorLPE
import Derived.Test.YtfieimmlcopbhaaDoorKPE
import Derived.Test.YtfieimmlcopbhaaDoorDoorP
import Derived.Test.YtfieimmlcopbhaaDoorDoorP
import Derived.Test.YtfieimmlcopbhaaDoorCards
import Derived.Test.YtfieimmlcopbhaaDoorTie
import Derived.SevenTiedAt
namespace Go.Proofs.YtfieimmlcopbhaaDoor
open Go.RowKit Go.ChangeShapes Go.WideShapes Go.ChangeAt

set_option maxHeartbeats 400000 in
set_option maxRecDepth 100000 in
theorem lifted_ExactParseEntities (os : Os) (started : os.Started) (H : Type) (enc : TypeId × Value → H) :
    ReturnsInHanded {} Tryd.checked os 6 .any (fun w args => (Rows.fnExactParseEntitiesSpec.pre enc Tryd.prog Tryd.f6 Rows.fnExactParseEntitiesRow.domain false w args ∧ laidMet Tryd.prog Rows.fnExactParseEntitiesRow.laid w) ∧ sizedMet enc Tryd.prog Tryd.f6 (OpenSpec.ofChange Rows.fnExactParseEntitiesSpec) false w args)
      (Rows.fnExactParseEntitiesSpec.post enc Tryd.prog Tryd.f6 false true false false) := by
  refine returnsInHanded_of_change_and_shaped (C := Tryd.checked) (X := fun w _ => laidMet Tryd.prog Rows.fnExactParseEntitiesRow.laid w) (fun _ _ _ hh h => h.of_heap hh) own started (by kernel_rfl) Tryd.func6
    (ChangeSpec.witness_shaped (enc := enc) (C := Tryd.checked) (os := os) (X := fun w _ => laidMet Tryd.prog Rows.fnExactParseEntitiesRow.laid w) false (World.laidAll Tryd.prog os Rows.fnExactParseEntitiesRow.laid) #[.string ⟨#[]⟩] 8 (World.laidAll_os _ _ _) (World.shaped_of_ZipB (by kernel_rfl) (by kernel_rfl)) (by kernel_rfl) (by kernel_rfl) (by kernel_rfl) (laidMet_laidAll _ (by kernel_rfl) (by kernel_rfl))) ?_
  intro W base args ds gs before hval0 hW _ _ hSh hL _
  have hval : ∀ (j : Nat) t v, Tryd.f6.params[j]? = some t → args[j]? = some v → Value.okWide Tryd.prog W .any base t v := hval0
  have hW2 := hW
  obtain ⟨p, q, hA0, hV, rfl, hfz, hnd⟩ := hW
  have hA : DataW.TrodAll enc Tryd.prog W 0 (fun _ => true) true Tryd.f6.params.toList args.toList ds p := hA0
  rw [Tryd.params6] at hA hval
  have N : Env W := by
    refine ⟨?_, ML.of_shaped hSh, ?_, ?_⟩
    · obtain ⟨ps, h1, _⟩ := hL
      exact tab_mem (g := 3) (by kernel_rfl) (by kernel_rfl) Tryd.underlying161 Tryd.underlying146 (by kernel_rfl) (by kernel_rfl) h1 (by repeat (first | exact List.Mem.head _ | apply List.Mem.tail))
    · exact ev_sent (n := "strconv.ErrSyntax") (hL.tail.tail.tail.tail.tail) (by kernel_rfl) (by kernel_rfl)
    · exact ev_sent (n := "strconv.ErrRange") (hL.tail.tail.tail.tail) (by kernel_rfl) (by kernel_rfl)
  obtain ⟨v0, d0, rfl, rfl, h0⟩ := trodAll_one hA
  obtain ⟨x0, rfl, rfl, rfl, h0x⟩ := Go.ChangeMaps.open_string Tryd.underlying9 (hval 0 _ v0 rfl rfl) h0
  refine law_post laidOut (by rw [Tryd.params6]; intro t ht; simp at ht; first | (subst ht; exact ⟨by kernel_rfl, of_decide_eq_true (by kernel_rfl)⟩) | (rcases ht with rfl | rfl <;> exact ⟨by kernel_rfl, of_decide_eq_true (by kernel_rfl)⟩) | (rcases ht with rfl | rfl | rfl <;> exact ⟨by kernel_rfl, of_decide_eq_true (by kernel_rfl)⟩)) (tb := 4) rfl Tryd.underlying4 rfl rfl hW2 ?_
  exact law_ParseEntities x0 W h0x N

theorem ExactParseEntities_row : Rows.FnExactParseEntitiesSaid :=
  OpenClaim.holds_of_wide 6 Tryd.f6 rfl rfl rfl rfl rfl rfl rfl ⟨rfl, rfl, rfl, rfl, rfl⟩ rfl rfl rfl rfl rfl (by kernel_rfl) Tryd.func6 closed_ExactParseEntities
    (of_decide_eq_true (by kernel_rfl)) (by unfold Func.isWrapper; first | (rw [if_pos (by decide +kernel)]; kernel_rfl) | (rw [if_neg (by decide +kernel)]; exact ⟨rfl, rfl⟩))
    (fun os started H enc _ => lifted_ExactParseEntities os started H enc)
theorem ExactParseEntities_holds : Rows.FnExactParseEntitiesCardSaid :=
  Claim7.holds_tied_plain_at .later [] Rows.fnExactParseEntitiesCard.laidKinds true Rows.fnExactParseEntitiesCard.stood.harness Rows.fnExactParseEntitiesCard.stood.looks
    ExactParseEntities_row (fun _ h => by cases h) (by kernel_rfl) (fun _ h => by cases h) fnExactParseEntities_row_tie rfl ⟨rfl, rfl⟩ (by kernel_rfl) rfl
    (fun f fn hf hfn => by
      obtain rfl : f = 6 := Option.some.inj ((show Tryd.prog.funcNamed "loop.example/g01923/laws.FnExactParseEntities" = some 6 by kernel_rfl).symm.trans hf) |>.symm
      obtain rfl : fn = Tryd.f6 := (Option.some.inj (Tryd.func6.symm.trans hfn)).symm
      refine ⟨by kernel_rfl, fun j t ht => ?_⟩
      rw [Tryd.params6] at ht
      have hm := Array.mem_of_getElem? ht
      simp only [List.mem_toArray, List.mem_cons, List.not_mem_nil, or_false] at hm
      show Tryd.prog.wantsStandIn t = false
      first | (rw [hm]; kernel_rfl) | (rcases hm with hm | hm <;> (rw [hm]; kernel_rfl)) | (rcases hm with hm | hm | hm <;> (rw [hm]; kernel_rfl)))
    (by kernel_rfl)
end Go.Proofs.YtfieimmlcopbhaaDoor

