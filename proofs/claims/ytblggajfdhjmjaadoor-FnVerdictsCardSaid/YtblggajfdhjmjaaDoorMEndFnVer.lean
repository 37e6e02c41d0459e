/-
  FnVerdicts: for every code: a verdict that is added can be removed again, current verdicts are the latest ones, and verdicts are read back from their format. Conditions: the listed variables of Go's library read as the program's text lays them (the card ties them).
-/
import Derived.Test.YtblggajfdhjmjaaDoorMgEndFnVer11
import Derived.Test.YtblggajfdhjmjaaDoorMgEndFnVer4
import Derived.Test.YtblggajfdhjmjaaDoorMgEndFnVer5
import Derived.Test.YtblggajfdhjmjaaDoorCards
import Derived.Test.YtblggajfdhjmjaaDoorTie
import Derived.SevenTiedAt

namespace Go.Proofs.YtblggajfdhjmjaaDoor
open Go.RowKit Go.ChangeShapes Go.WideShapes Go.ChangeAt

set_option maxHeartbeats 400000 in
set_option maxRecDepth 100000 in
theorem lifted_Verdicts (os : Os) (started : os.Started) (H : Type) (enc : TypeId × Value → H) :
    ReturnsInHanded {} Tryd.checked os 3 .any (fun w args => (Rows.fnVerdictsSpec.pre enc Tryd.prog Tryd.f3 Rows.fnVerdictsRow.domain false w args ∧ laidMet Tryd.prog Rows.fnVerdictsRow.laid w) ∧ sizedMet enc Tryd.prog Tryd.f3 (OpenSpec.ofChange Rows.fnVerdictsSpec) false w args)
      (Rows.fnVerdictsSpec.post enc Tryd.prog Tryd.f3 false true false false) := by
  refine returnsInHanded_of_change_and_shaped (C := Tryd.checked) (X := fun w _ => laidMet Tryd.prog Rows.fnVerdictsRow.laid w) (fun _ _ _ hh h => h.of_heap hh) own started (by kernel_rfl) Tryd.func3
    (ChangeSpec.witness_shaped (enc := enc) (C := Tryd.checked) (os := os) (X := fun w _ => laidMet Tryd.prog Rows.fnVerdictsRow.laid w) false (World.laidAll Tryd.prog os Rows.fnVerdictsRow.laid) #[.slice none 0 0] 8 (World.laidAll_os _ _ _) (World.shaped_of_ZipB (by kernel_rfl) (by kernel_rfl)) (by kernel_rfl) (by kernel_rfl) (by kernel_rfl) (laidMet_laidAll _ (by kernel_rfl) (by kernel_rfl))) ?_
  intro W base args ds gs before hval0 hW _ _ hSh hL _
  have hval : ∀ (j : Nat) t v, Tryd.f3.params[j]? = some t → args[j]? = some v → Value.okWide Tryd.prog W .any base t v := hval0
  have hW2 := hW
  obtain ⟨p, q, hA0, hV, rfl, hfz, hnd⟩ := hW
  have hA : DataW.TrodAll enc Tryd.prog W 0 (fun _ => true) true Tryd.f3.params.toList args.toList ds p := hA0
  rw [Tryd.params3] at hA hval
  have N : Env W := by
    refine ⟨?_, ML.of_shaped hSh, ?_, ?_⟩
    · obtain ⟨ps, h1, _⟩ := hL
      exact tab_mem (g := 1) (by kernel_rfl) (by kernel_rfl) Tryd.underlying104 Tryd.underlying89 (by kernel_rfl) (by kernel_rfl) h1 (by repeat (first | exact List.Mem.head _ | apply List.Mem.tail))
    · exact ev_sent (n := "strconv.ErrSyntax") (hL.tail.tail.tail.tail) (by kernel_rfl) (by kernel_rfl)
    · exact ev_sent (n := "strconv.ErrRange") (hL.tail.tail.tail) (by kernel_rfl) (by kernel_rfl)
  obtain ⟨v0, d0, rfl, rfl, h0⟩ := trodAll_one hA
  obtain ⟨x0, h0x⟩ := arg_slice Tryd.underlying22 rBytes (hval 0 _ v0 rfl rfl) h0
  refine law_post laidOut (by rw [Tryd.params3]; intro t ht; simp at ht; first | (subst ht; exact ⟨by kernel_rfl, of_decide_eq_true (by kernel_rfl)⟩) | (rcases ht with rfl | rfl <;> exact ⟨by kernel_rfl, of_decide_eq_true (by kernel_rfl)⟩) | (rcases ht with rfl | rfl | rfl <;> exact ⟨by kernel_rfl, of_decide_eq_true (by kernel_rfl)⟩)) (tb := 4) rfl Tryd.underlying4 rfl rfl hW2 ?_
  exact law_FnVerdicts _ x0 W h0x N

theorem Verdicts_row : Rows.FnVerdictsSaid :=
  OpenClaim.holds_of_wide 3 Tryd.f3 rfl rfl rfl rfl rfl rfl rfl ⟨rfl, rfl, rfl, rfl, rfl⟩ rfl rfl rfl rfl rfl (by kernel_rfl) Tryd.func3 closed_Verdicts
    (of_decide_eq_true (by kernel_rfl)) (by unfold Func.isWrapper; first | (rw [if_pos (by decide +kernel)]; kernel_rfl) | (rw [if_neg (by decide +kernel)]; exact ⟨rfl, rfl⟩))
    (fun os started H enc _ => lifted_Verdicts os started H enc)
theorem Verdicts_holds : Rows.FnVerdictsCardSaid :=
  Claim7.holds_tied_plain_at .later [] Rows.fnVerdictsCard.laidKinds true Rows.fnVerdictsCard.stood.harness Rows.fnVerdictsCard.stood.looks
    Verdicts_row (fun _ h => by cases h) (by kernel_rfl) (fun _ h => by cases h) fnVerdicts_row_tie rfl ⟨rfl, rfl⟩ (by kernel_rfl) rfl
    (fun f fn hf hfn => by
      obtain rfl : f = 3 := Option.some.inj ((show Tryd.prog.funcNamed "loop.example/g01923/laws.FnVerdicts" = some 3 by kernel_rfl).symm.trans hf) |>.symm
      obtain rfl : fn = Tryd.f3 := (Option.some.inj (Tryd.func3.symm.trans hfn)).symm
      refine ⟨by kernel_rfl, fun j t ht => ?_⟩
      rw [Tryd.params3] at ht
      have hm := Array.mem_of_getElem? ht
      simp only [List.mem_toArray, List.mem_cons, List.not_mem_nil, or_false] at hm
      show Tryd.prog.wantsStandIn t = false
      first | (rw [hm]; kernel_rfl) | (rcases hm with hm | hm <;> (rw [hm]; kernel_rfl)) | (rcases hm with hm | hm | hm <;> (rw [hm]; kernel_rfl)))
    (by kernel_rfl)
end Go.Proofs.YtblggajfdhjmjaaDoor

