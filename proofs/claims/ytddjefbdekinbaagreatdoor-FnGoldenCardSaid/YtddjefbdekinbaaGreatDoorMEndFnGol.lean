/-
  FnGolden: for every code: a golden record does not depend on the order of the records, and every field is a value of one of them, empty only if all are. Conditions: the listed tables of the library's variables are as laid, and the world is shaped.
-/
import Derived.Test.YtddjefbdekinbaaGreatDoorMgEndFnGol14
import Derived.Test.YtddjefbdekinbaaGreatDoorMgEndFnGol5
import Derived.Test.YtddjefbdekinbaaGreatDoorMgEndFnGol6
import Derived.Test.YtddjefbdekinbaaGreatDoorMgEndFnGol0
import Derived.Test.YtddjefbdekinbaaGreatDoorCards
import Derived.Test.YtddjefbdekinbaaGreatDoorTie
import Derived.SevenTiedAt

namespace Go.Proofs.YtddjefbdekinbaaGreatDoor
open Go.RowKit Go.ChangeShapes Go.WideShapes Go.ChangeAt

set_option maxHeartbeats 400000 in
set_option maxRecDepth 100000 in
theorem lifted_Golden (os : Os) (started : os.Started) (H : Type) (enc : TypeId × Value → H) :
    ReturnsInHanded {} Tryz.checked os 3 .any (fun w args => (Rows.fnGoldenSpec.pre enc Tryz.prog Tryz.f3 Rows.fnGoldenRow.domain false w args ∧ laidMet Tryz.prog Rows.fnGoldenRow.laid w) ∧ sizedMet enc Tryz.prog Tryz.f3 (OpenSpec.ofChange Rows.fnGoldenSpec) false w args)
      (Rows.fnGoldenSpec.post enc Tryz.prog Tryz.f3 false true false false) := by
  refine returnsInHanded_of_change_and_shaped (C := Tryz.checked) (X := fun w _ => laidMet Tryz.prog Rows.fnGoldenRow.laid w) (fun _ _ _ hh h => h.of_heap hh) own started (by kernel_rfl) Tryz.func3
    (ChangeSpec.witness_shaped (enc := enc) (C := Tryz.checked) (os := os) (X := fun w _ => laidMet Tryz.prog Rows.fnGoldenRow.laid w) false (World.laidAll Tryz.prog os Rows.fnGoldenRow.laid) #[.slice none 0 0] 8 (World.laidAll_os _ _ _) (World.shaped_of_ZipB (by kernel_rfl) (by kernel_rfl)) (by kernel_rfl) (by kernel_rfl) (by kernel_rfl) (laidMet_laidAll _ (by kernel_rfl) (by kernel_rfl))) ?_
  intro W base args ds gs before hval0 hW _ _ hSh hL _
  have hval : ∀ (j : Nat) t v, Tryz.f3.params[j]? = some t → args[j]? = some v → Value.okWide Tryz.prog W .any base t v := hval0
  have hW2 := hW
  obtain ⟨p, q, hA0, hV, rfl, hfz, hnd⟩ := hW
  have hA : DataW.TrodAll enc Tryz.prog W 0 (fun _ => true) true Tryz.f3.params.toList args.toList ds p := hA0
  rw [Tryz.params3] at hA hval
  have N : TM W := by
    refine ⟨?_, ML.of_shaped hSh⟩
    obtain ⟨ps, h1, _⟩ := hL
    exact tab_mem (g := 3) (by kernel_rfl) (by kernel_rfl) Tryz.underlying121 Tryz.underlying108 (by kernel_rfl) (by kernel_rfl) h1 (by repeat (first | exact List.Mem.head _ | apply List.Mem.tail))
  obtain ⟨v0, d0, rfl, rfl, h0⟩ := trodAll_one hA
  obtain ⟨x0, h0x⟩ := arg_slice Tryz.underlying22 rBytes (hval 0 _ v0 rfl rfl) h0
  refine law_post laidOut (by rw [Tryz.params3]; intro t ht; simp at ht; first | (subst ht; exact ⟨by kernel_rfl, of_decide_eq_true (by kernel_rfl)⟩) | (rcases ht with rfl | rfl <;> exact ⟨by kernel_rfl, of_decide_eq_true (by kernel_rfl)⟩) | (rcases ht with rfl | rfl | rfl <;> exact ⟨by kernel_rfl, of_decide_eq_true (by kernel_rfl)⟩)) (tb := 4) rfl Tryz.underlying4 rfl rfl hW2 ?_
  exact law_FnGolden _ x0 W h0x N

theorem Golden_row : Rows.FnGoldenSaid :=
  OpenClaim.holds_of_wide 3 Tryz.f3 rfl rfl rfl rfl rfl rfl rfl ⟨rfl, rfl, rfl, rfl, rfl⟩ rfl rfl rfl rfl rfl (by kernel_rfl) Tryz.func3 closed_Golden
    (of_decide_eq_true (by kernel_rfl)) (by unfold Func.isWrapper; first | (rw [if_pos (by decide +kernel)]; kernel_rfl) | (rw [if_neg (by decide +kernel)]; exact ⟨rfl, rfl⟩))
    (fun os started H enc _ => lifted_Golden os started H enc)
theorem Golden_holds : Rows.FnGoldenCardSaid :=
  Claim7.holds_tied_plain_at .later [] Rows.fnGoldenCard.laidKinds true Rows.fnGoldenCard.stood.harness Rows.fnGoldenCard.stood.looks
    Golden_row (fun _ h => by cases h) (by kernel_rfl) (fun _ h => by cases h) fnGolden_row_tie rfl ⟨rfl, rfl⟩ (by kernel_rfl) rfl
    (fun f fn hf hfn => by
      obtain rfl : f = 3 := Option.some.inj ((show Tryz.prog.funcNamed "loop.example/g01923/laws.FnGolden" = some 3 by kernel_rfl).symm.trans hf) |>.symm
      obtain rfl : fn = Tryz.f3 := (Option.some.inj (Tryz.func3.symm.trans hfn)).symm
      refine ⟨by kernel_rfl, fun j t ht => ?_⟩
      rw [Tryz.params3] at ht
      have hm := Array.mem_of_getElem? ht
      simp only [List.mem_toArray, List.mem_cons, List.not_mem_nil, or_false] at hm
      show Tryz.prog.wantsStandIn t = false
      first | (rw [hm]; kernel_rfl) | (rcases hm with hm | hm <;> (rw [hm]; kernel_rfl)) | (rcases hm with hm | hm | hm <;> (rw [hm]; kernel_rfl)))
    (by kernel_rfl)
end Go.Proofs.YtddjefbdekinbaaGreatDoor

