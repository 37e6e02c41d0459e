/-
  FnExactFormatOp: for every operation the program's FormatOp and the reference's answer the same. Conditions: the listed tables of Go's library read as the program's text lays them (the card ties them).
-/
import Derived.Test.YtgbcbmlikmjjkaaDoorLFmtO
import Derived.Test.YtgbcbmlikmjjkaaDoorKFmtO
import Derived.Test.YtgbcbmlikmjjkaaDoorBat
import Derived.Test.YtgbcbmlikmjjkaaDoorDoor
import Derived.Test.YtgbcbmlikmjjkaaDoorCards
import Derived.Test.YtgbcbmlikmjjkaaDoorTie
import Derived.SevenTiedAt
namespace Go.Proofs.YtgbcbmlikmjjkaaDoor
open Go.RowKit Go.ChangeShapes Go.WideShapes Go.ChangeAt

set_option maxHeartbeats 400000 in
set_option maxRecDepth 100000 in
theorem lifted_ExactFormatOp (os : Os) (started : os.Started) (H : Type) (enc : TypeId × Value → H) :
    ReturnsInHanded {} Tryd.checked os 4 .any (fun w args => (Rows.fnExactFormatOpSpec.pre enc Tryd.prog Tryd.f4 Rows.fnExactFormatOpRow.domain false w args ∧ laidMet Tryd.prog Rows.fnExactFormatOpRow.laid w) ∧ sizedMet enc Tryd.prog Tryd.f4 (OpenSpec.ofChange Rows.fnExactFormatOpSpec) false w args)
      (Rows.fnExactFormatOpSpec.post enc Tryd.prog Tryd.f4 false true false false) := by
  refine returnsInHanded_of_change_and (C := Tryd.checked) (X := fun w _ => laidMet Tryd.prog Rows.fnExactFormatOpRow.laid w) (fun _ _ _ hh h => h.of_heap hh) own started (by kernel_rfl) Tryd.func4
    (ChangeSpec.witness_shaped (enc := enc) (C := Tryd.checked) (os := os) (X := fun w _ => laidMet Tryd.prog Rows.fnExactFormatOpRow.laid w) false (World.laidAll Tryd.prog os Rows.fnExactFormatOpRow.laid) #[.agg #[.int .i64 0, .int .i64 0, .int .i64 0, .int .i64 0, .slice none 0 0, .int .i64 0, .int .i64 0, .bool false, .int .i64 0]] 8 (World.laidAll_os _ _ _) (World.shaped_of_ZipB (by kernel_rfl) (by kernel_rfl)) (by kernel_rfl) (by kernel_rfl) (by kernel_rfl) (laidMet_laidAll _ (by kernel_rfl) (by kernel_rfl))) ?_
  intro W base args ds gs before hval0 hW _ _ hL _
  have hval : ∀ (j : Nat) t v, Tryd.f4.params[j]? = some t → args[j]? = some v → Value.okWide Tryd.prog W .any base t v := hval0
  have hW2 := hW
  obtain ⟨p, q, hA0, hV, rfl, hfz, hnd⟩ := hW
  have hA : DataW.TrodAll enc Tryd.prog W 0 (fun _ => true) true Tryd.f4.params.toList args.toList ds p := hA0
  rw [Tryd.params4] at hA hval
  have T : Tab W := by
    obtain ⟨ps, h1, _⟩ := hL
    exact tab_mem (g := 1) (by kernel_rfl) (by kernel_rfl) Tryd.underlying165 Tryd.underlying156 (by kernel_rfl) (by kernel_rfl) h1 (by repeat (first | exact List.Mem.head _ | apply List.Mem.tail))
  obtain ⟨v0, d0, rfl, rfl, h0⟩ := trodAll_one hA
  obtain ⟨cs0, x0, rfl, q0_0, rfl, ok0, r0_0⟩ := arg_struct Tryd.underlying35 rLawOp (hval 0 _ v0 rfl rfl) h0
  have h0x : OpAt W (.agg #[.int .i64 x0.kind, .int .i64 x0.record.source, .int .i64 x0.record.key, .int .i64 x0.record.version, q0_0, .int .i64 x0.verdict.a, .int .i64 x0.verdict.b, .bool x0.verdict.same, .int .i64 x0.verdict.time]) x0 := ⟨_, rfl, ok0, r0_0⟩
  refine law_post laidOut (by rw [Tryd.params4]; intro t ht; simp at ht; first | (subst ht; exact ⟨by kernel_rfl, of_decide_eq_true (by kernel_rfl)⟩) | (rcases ht with rfl | rfl <;> exact ⟨by kernel_rfl, of_decide_eq_true (by kernel_rfl)⟩) | (rcases ht with rfl | rfl | rfl <;> exact ⟨by kernel_rfl, of_decide_eq_true (by kernel_rfl)⟩)) (tb := 4) rfl Tryd.underlying4 rfl rfl hW2 ?_
  exact law_FormatOp _ x0 W h0x T

theorem ExactFormatOp_row : Rows.FnExactFormatOpSaid :=
  OpenClaim.holds_of_wide 4 Tryd.f4 rfl rfl rfl rfl rfl rfl rfl ⟨rfl, rfl, rfl, rfl, rfl⟩ rfl rfl rfl rfl rfl (by kernel_rfl) Tryd.func4 closed_ExactFormatOp
    (of_decide_eq_true (by kernel_rfl)) (by unfold Func.isWrapper; first | (rw [if_pos (by decide +kernel)]; kernel_rfl) | (rw [if_neg (by decide +kernel)]; exact ⟨rfl, rfl⟩))
    (fun os started H enc _ => lifted_ExactFormatOp os started H enc)
theorem ExactFormatOp_holds : Rows.FnExactFormatOpCardSaid :=
  Claim7.holds_tied_plain_at .later [] Rows.fnExactFormatOpCard.laidKinds true Rows.fnExactFormatOpCard.stood.harness false
    ExactFormatOp_row (fun _ h => by cases h) (by kernel_rfl) (fun _ h => by cases h) fnExactFormatOp_row_tie rfl ⟨rfl, rfl⟩ (by kernel_rfl) rfl
    (fun f fn hf hfn => by
      obtain rfl : f = 4 := Option.some.inj ((show Tryd.prog.funcNamed "loop.example/g01923/laws.FnExactFormatOp" = some 4 by kernel_rfl).symm.trans hf) |>.symm
      obtain rfl : fn = Tryd.f4 := (Option.some.inj (Tryd.func4.symm.trans hfn)).symm
      refine ⟨by kernel_rfl, fun j t ht => ?_⟩
      rw [Tryd.params4] at ht
      have hm := Array.mem_of_getElem? ht
      simp only [List.mem_toArray, List.mem_cons, List.not_mem_nil, or_false] at hm
      show Tryd.prog.wantsStandIn t = false
      first | (rw [hm]; kernel_rfl) | (rcases hm with hm | hm <;> (rw [hm]; kernel_rfl)) | (rcases hm with hm | hm | hm <;> (rw [hm]; kernel_rfl)))
    (by kernel_rfl)
end Go.Proofs.YtgbcbmlikmjjkaaDoor

