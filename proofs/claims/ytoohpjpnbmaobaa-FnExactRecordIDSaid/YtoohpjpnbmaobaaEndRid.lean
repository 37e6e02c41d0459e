/-
  FnExactRecordID: for every record the program's RecordID and the reference's answer the same. No condition.
-/
import Derived.Test.YtoohpjpnbmaobaaRid
namespace Go.Proofs.Ytoohpjpnbmaobaa
open Go.RowKit Go.ChangeShapes Go.WideShapes Go.ChangeAt

set_option maxHeartbeats 400000 in
theorem law_RecordID (v : Value) (r : Record) (w : World) (h : RecAt w v r) :
    Calls Try.prog 6 #[v] w fun e w2 => e = .returned (.bool true) ∧ Ext w w2 := by
  obtain ⟨f, rfl, hok, hs⟩ := h
  go_enter Try.func6, Try.ntmps6
  go_wp2_with fail
  have h0 : RecAt (w.alloc (.cells #[.int .i64 r.source, .int .i64 r.key, .int .i64 r.version, f] 36)) (.agg #[.int .i64 r.source, .int .i64 r.key, .int .i64 r.version, f]) r := ⟨f, rfl, hok, hs.mono (by repeat (first | with_reducible exact Ext.refl _ | with_reducible assumption | with_reducible refine Ext.drew ?_ | with_reducible refine Ext.alloc ?_ _ | with_reducible refine Ext.trans ?_ (by with_reducible assumption)))⟩
  refine (szRecord_c _ r _ _ h0 (by omega) (by omega)).mono ?_
  rintro e w0 ⟨rfl, x0⟩
  by_cases hs9 : 1048576 < ((r.fields.length + sumSize r.fields : Nat) : Int)
  · have HS := hid hs9
    rw [szv_neg hs9]
    clear hs9
    go_wp2
    go_ret
    exact ⟨rfl, (by repeat (first | with_reducible exact Ext.refl _ | with_reducible assumption | with_reducible refine Ext.drew ?_ | with_reducible refine Ext.alloc ?_ _ | with_reducible refine Ext.trans ?_ (by with_reducible assumption)))⟩
  · have hs0 := szv_nn hs9
    have hs1 := szv_le (n := ((r.fields.length + sumSize r.fields : Nat) : Int)) (left := 1048576) (by omega) (by omega)
    obtain ⟨L, hL⟩ : ∃ L, L = szv ((r.fields.length + sumSize r.fields : Nat) : Int) 1048576 := ⟨_, rfl⟩
    rw [← hL] at hs0 hs1 ⊢
    have HL := hid hL
    clear hL
    have HS := hid hs9
    clear hs9
    obtain ⟨c0, f0⟩ := x0.box
    go_wp2_with fail
    refine (toRecord_c _ r _ (h0.mono x0) (by have := HS.out; omega)).mono ?_
    rintro e w1 ⟨v1, F1, rfl, o1, n1, x1⟩
    go_wp2_with fail
    refine (spec_RecordID _ r _ o1.at_).mono ?_
    rintro e w2 ⟨rfl, x2⟩
    have y2 := (x0.trans x1).trans x2
    obtain ⟨c2, f2⟩ := y2.box
    go_wp2_with fail
    refine (toRecord_c _ r _ (h0.mono y2) (by have := HS.out; omega)).mono ?_
    rintro e w3 ⟨v3, F3, rfl, o3, n3, x3⟩
    have y3 := y2.trans x3
    have s3 := y3.size
    simp at s3
    obtain ⟨f3, rfl, hok3, hs3⟩ := o3
    obtain ⟨A3, cap3, e3, _⟩ := hs3.form
    subst e3
    obtain ⟨c3, g3⟩ := y3.box
    go_wp2_with fail
    refine (impl_RecordID _ r _ ⟨_, rfl, hok3, (hs3.ext (by repeat (first | with_reducible exact Ext.refl _ | with_reducible assumption | with_reducible refine Ext.drew ?_ | with_reducible refine Ext.alloc ?_ _ | with_reducible refine Ext.trans ?_ (by with_reducible assumption)))).sl⟩).mono ?_
    rintro e w4 ⟨rfl, x4⟩
    go_wp2_with fail
    have y4 := (y3.trans ((Ext.refl _).alloc _)).trans x4
    have hS : ∀ W, Ext w4 W → (∀ i, W.cell? ⟨w3.heap.size, i, none⟩ = #[.int .i64 r.source, .int .i64 r.key, .int .i64 r.version, .slice A3 r.fields.length cap3][i]?) ∧ (∀ i, W.cell? ⟨w.heap.size, i, none⟩ = #[.int .i64 r.source, .int .i64 r.key, .int .i64 r.version, f][i]?) := fun W x => ⟨(x4.trans x).box.1, (y4.trans x).box.1⟩
    have HK := hid hS
    clear hS
    have h4 : RecAt w4 (.agg #[.int .i64 r.source, .int .i64 r.key, .int .i64 r.version, f]) r := ⟨f, rfl, hok, hs.mono (by repeat (first | with_reducible exact Ext.refl _ | with_reducible assumption | with_reducible refine Ext.drew ?_ | with_reducible refine Ext.alloc ?_ _ | with_reducible refine Ext.trans ?_ (by with_reducible assumption)))⟩
    clear y4 y3 y2
    go_region_held3 (fun w' => (∀ i, w'.cell? ⟨w3.heap.size, i, none⟩ = #[.int .i64 r.source, .int .i64 r.key, .int .i64 r.version, .slice A3 r.fields.length cap3][i]?) ∧ (∀ i, w'.cell? ⟨w.heap.size, i, none⟩ = #[.int .i64 r.source, .int .i64 r.key, .int .i64 r.version, f][i]?))
      (exact HK.out _ (by repeat (first | with_reducible exact Ext.refl _ | with_reducible assumption | with_reducible refine Ext.drew ?_ | with_reducible refine Ext.alloc ?_ _ | with_reducible refine Ext.trans ?_ (by with_reducible assumption))))
      (first | (go_at_call 20; refine (toRecord_c _ r _ ?hr (by have := HS.out; omega)).mono ?_; (case hr => exact h4.mono (by repeat (first | with_reducible exact Ext.refl _ | with_reducible assumption | with_reducible refine Ext.drew ?_ | with_reducible refine Ext.alloc ?_ _ | with_reducible refine Ext.trans ?_ (by with_reducible assumption)))); rintro e w5 ⟨v5, F5, rfl, o5, n5, x5⟩) | (go_at_call 22; refine (eqRecord_c _ _ r r _ ?ha ?hb).mono ?_; (case ha => exact ⟨_, rfl, hok3, (hs3.ext (by repeat (first | with_reducible exact Ext.refl _ | with_reducible assumption | with_reducible refine Ext.drew ?_ | with_reducible refine Ext.alloc ?_ _ | with_reducible refine Ext.trans ?_ (by with_reducible assumption)))).sl⟩); (case hb => exact o5.at_); rintro e w6 ⟨rfl, x6⟩; rw [eqB_self]))
    go_wp2
    go_ret
    exact ⟨rfl, (by repeat (first | with_reducible exact Ext.refl _ | with_reducible assumption | with_reducible refine Ext.drew ?_ | with_reducible refine Ext.alloc ?_ _ | with_reducible refine Ext.trans ?_ (by with_reducible assumption)))⟩

set_option maxHeartbeats 400000 in
set_option maxRecDepth 100000 in
theorem lifted_ExactRecordID (os : Os) (started : os.Started) (H : Type) (enc : TypeId × Value → H) :
    ReturnsInHanded {} Try.checked os 6 .any (Rows.fnExactRecordIDSpec.pre6 enc Try.prog Try.f6 Rows.fnExactRecordIDRow.domain false) (Rows.fnExactRecordIDSpec.post enc Try.prog Try.f6 false true false false) := by
  refine returnsInHanded_of_change (C := Try.checked) own started (by kernel_rfl) Try.func6
    (ChangeSpec.witness6 (enc := enc) (C := Try.checked) false ⟨#[], #[.agg #[.int .i64 0, .int .i64 0, .int .i64 0, .slice none 0 0]], []⟩ 8 (by kernel_rfl) (by kernel_rfl) (by kernel_rfl) (by kernel_rfl)) ?_
  intro W base args ds gs before hval0 hW _ _
  have hval : ∀ (j : Nat) t v, Try.f6.params[j]? = some t → args[j]? = some v → Value.okWide Try.prog W .any base t v := hval0
  have hW2 := hW
  obtain ⟨p, q, hA0, hV, rfl, hfz, hnd⟩ := hW
  have hA : DataW.TrodAll enc Try.prog W 0 (fun _ => true) true Try.f6.params.toList args.toList ds p := hA0
  rw [Try.params6] at hA hval
  obtain ⟨v0, d0, rfl, rfl, h0⟩ := trodAll_one hA
  obtain ⟨cs, r, rfl, f, rfl, hok, hs⟩ := arg_struct Try.underlying36 rLawRecord (hval 0 _ v0 rfl rfl) h0
  refine law_post laidOut (by rw [Try.params6]; intro t ht; simp at ht; first | (subst ht; exact ⟨by kernel_rfl, of_decide_eq_true (by kernel_rfl)⟩) | (rcases ht with rfl | rfl <;> exact ⟨by kernel_rfl, of_decide_eq_true (by kernel_rfl)⟩)) (tb := 4) rfl Try.underlying4 rfl rfl hW2 ?_
  exact law_RecordID _ r W ⟨f, rfl, hok, hs⟩

theorem ExactRecordID_holds : Rows.FnExactRecordIDSaid :=
  OpenClaim.holds_of_wide 6 Try.f6 rfl rfl rfl rfl rfl rfl rfl ⟨rfl, rfl, rfl, rfl, rfl⟩ rfl rfl rfl rfl rfl (by kernel_rfl) Try.func6 (by kernel_rfl)
    (of_decide_eq_true (by kernel_rfl)) (by unfold Func.isWrapper; first | (rw [if_pos (by decide +kernel)]; kernel_rfl) | (rw [if_neg (by decide +kernel)]; exact ⟨rfl, rfl⟩))
    (fun os started H enc _ => lifted_ExactRecordID os started H enc)
end Go.Proofs.Ytoohpjpnbmaobaa
