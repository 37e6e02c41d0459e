/-
  WALKS: the reference's FormatOp.
-/
import Derived.Test.YtfieimmlcopbhaaGreatDoorMgEndFnRec19
import Derived.Test.YtfieimmlcopbhaaGreatDoorMgEndFnBat0

namespace Go.Proofs.YtfieimmlcopbhaaGreatDoor
open Go.RowKit

set_option maxHeartbeats 400000 in
set_option maxRecDepth 20000 in
set_option maxHeartbeats 1000000 in
theorem spec_FormatOp (v : Value) (o : Op) (w : World) (h : OpAt w v o) :
    Calls Tryz.prog 39 #[v] w fun e w2 => e = .returned (.string (fmtO o)) ∧ Ext w w2 := by
  obtain ⟨f, rfl, hok, hs⟩ := h
  go_enter Tryz.func39, Tryz.ntmps39
  go_wp2_with fail
  refine (spec_IsValidOp _ o _ ⟨_, rfl, hok, hs.mono (by repeat (first | with_reducible exact Ext.refl _ | with_reducible assumption | with_reducible refine Ext.drew ?_ | with_reducible refine Ext.alloc ?_ _ | (refine Ext.setCell ?_ (by simp) _) | with_reducible refine Ext.trans ?_ (by with_reducible assumption)))⟩).mono ?_
  rintro e w2 ⟨rfl, x2⟩
  have ck0 : w2.cell? ⟨w.heap.size, 0, none⟩ = some (.int .i64 o.kind) := x2.box.1 0
  obtain ⟨⟨c5, c6, c7, c8⟩, ⟨c1, c2, c3, c4⟩⟩ := Op.boxes (o := o) (f := f) (T := 28) (w := w) x2
  have xw : Ext w w2 := ((Ext.refl _).alloc _).trans x2
  by_cases hv : okOp o = true
  · rw [hv]
    rcases okOp_kind hv with ⟨k, h1⟩ | ⟨k, h1⟩ | ⟨k, h1⟩ | ⟨k, h1⟩
    · have HF := hid (fmtO_1 hv k)
      have hfr : fmtR o.record = recT o.record := by unfold fmtR; rw [if_pos h1]
      have s1 := recT_size h1
      rw [← hfr] at s1
      have HR := hid hfr
      have HO := hid hok
      rw [k] at ck0
      clear hv h1 hok hfr
      go_wp2_with fail
      refine (spec_FormatRecord _ o.record _ ⟨_, rfl, HO.out.2.1, hs.mono xw⟩).mono ?_
      rintro e w3 ⟨rfl, x3⟩
      go_wp2
      go_ret
      exact ⟨by rw [HF.out, ← HR.out]; rfl, (by repeat (first | with_reducible exact Ext.refl _ | with_reducible assumption | with_reducible refine Ext.drew ?_ | with_reducible refine Ext.alloc ?_ _ | with_reducible refine Ext.trans ?_ (by with_reducible assumption)))⟩
    · have HF := hid (fmtO_2 hv k)
      have HO := hid hok
      have hb := (okH_bounds h1).1
      have s1 := itoaS_size hok.2.1.2.1
      have s2 := itoaS_size hok.2.1.2.2
      have HB := hid (And.intro hb.1 hb.2)
      have hcv : ∀ W : World, (convert 43 9 (.slice (some ⟨W.heap.size, 0, none⟩) 1 1)).run Tryz.prog (W.alloc (.cells #[.int .u8 (97 + o.record.source)] 5)) = .ok (.string (letter o.record.source)) (W.alloc (.cells #[.int .u8 (97 + o.record.source)] 5)) :=
        fun W => conv_byte (97 + o.record.source.toNat) (by omega) (by omega) (Ext.refl _)
      have hw1 : IntKind.i64.wrap (97 + o.record.source) = 97 + o.record.source := by rw [IntKind.wrap_i64]; omega
      have hw2 : IntKind.u8.wrap (97 + o.record.source) = 97 + o.record.source := by simp [IntKind.wrap, IntKind.bits, IntKind.signed]; omega
      have hN := hid (show ∀ W, Ext w2 W → W.cell? ⟨w.heap.size, 1, none⟩ = some (.int .i64 o.record.source) ∧ W.cell? ⟨w.heap.size, 2, none⟩ = some (.int .i64 o.record.key) ∧ W.cell? ⟨w.heap.size, 3, none⟩ = some (.int .i64 o.record.version) from fun W z => ⟨z.cell c1, z.cell c2, z.cell c3⟩)
      have e1 := letter_size o.record.source
      have q1 := run_cat (P := Tryz.prog) 9 wDel (letter o.record.source) (by rw [e1]; decide)
      have d1 : wDel.size = 7 := rfl
      have q2 := run_cat (P := Tryz.prog) 9 (wDel ++ letter o.record.source) (itoaS o.record.key) (by rw [ByteArray.size_append]; omega)
      have d2 : (⟨#[46]⟩ : ByteArray).size = 1 := rfl
      have q3 := run_cat (P := Tryz.prog) 9 (wDel ++ letter o.record.source ++ itoaS o.record.key) ⟨#[46]⟩ (by rw [ByteArray.size_append, ByteArray.size_append]; omega)
      have q4 := run_cat (P := Tryz.prog) 9 (wDel ++ letter o.record.source ++ itoaS o.record.key ++ ⟨#[46]⟩) (itoaS o.record.version) (by rw [ByteArray.size_append, ByteArray.size_append, ByteArray.size_append]; omega)
      rw [k] at ck0
      clear hv h1 hok hb c1 c2 c3 c4 c5 c6 c7 c8
      unfold wDel at q1 q2 q3 q4
      go_wp2_with fail
      have t1 : ¬ 9223372036854775807 < 8 + (itoaS o.record.key).size := by omega
      have t2 : ¬ 9223372036854775807 < 8 + (itoaS o.record.key).size + 1 := by omega
      have t3 : ¬ 9223372036854775807 < 8 + (itoaS o.record.key).size + 1 + (itoaS o.record.version).size := by omega
      have X : Ext w2 w2.drew := (Ext.refl _).drew
      refine wp_region_K (by kernel_rfl) ?_
      refine wpAnyK_take (i := 0) (v := ?v0) (by simp only [List.getElem?_toArray, List.getElem?_cons_succ, List.getElem?_cons_zero, Option.some.injEq]; exact rfl) (by kernel_rfl) (by kernel_rfl) (by kernel_rfl) (by exact fun _ _ _ h => h) (Or.inl ⟨by rfl, fun w9 hx => ?hy0⟩) ?rest0
      case hy0 =>
        obtain ⟨b0, b1, b2⟩ := hN.out w9 (X.trans hx)
        unfold Oper.quietAt
        go_simp <;> rfl
      intro w9 hx
      replace X := X.trans hx
      clear hx
      try simp only [Act.put, List.setIfInBounds_toArray, List.set_cons_zero, List.set_cons_succ]
      refine wpAnyK_take (i := 1) (v := ?v1) (by simp only [List.getElem?_toArray, List.getElem?_cons_succ, List.getElem?_cons_zero, Option.some.injEq]; exact rfl) (by kernel_rfl) (by kernel_rfl) (by kernel_rfl) (by exact fun _ _ _ h => h) (Or.inl ⟨by rfl, fun w9 hx => ?hy1⟩) ?rest1
      case hy1 =>
        obtain ⟨b0, b1, b2⟩ := hN.out w9 (X.trans hx)
        unfold Oper.quietAt
        go_simp <;> rfl
      intro w9 hx
      replace X := X.trans hx
      clear hx
      try simp only [Act.put, List.setIfInBounds_toArray, List.set_cons_zero, List.set_cons_succ]
      refine wpAnyK_take (i := 2) (v := ?v2) (by simp only [List.getElem?_toArray, List.getElem?_cons_succ, List.getElem?_cons_zero, Option.some.injEq]; exact rfl) (by kernel_rfl) (by kernel_rfl) (by kernel_rfl) (by exact fun _ _ _ h => h) (Or.inl ⟨by rfl, fun w9 hx => ?hy2⟩) ?rest2
      case hy2 =>
        obtain ⟨b0, b1, b2⟩ := hN.out w9 (X.trans hx)
        unfold Oper.quietAt
        go_simp <;> rfl
      intro w9 hx
      replace X := X.trans hx
      clear hx
      try simp only [Act.put, List.setIfInBounds_toArray, List.set_cons_zero, List.set_cons_succ]
      refine wpAnyK_take (i := 3) (v := ?v3) (by simp only [List.getElem?_toArray, List.getElem?_cons_succ, List.getElem?_cons_zero, Option.some.injEq]; exact rfl) (by kernel_rfl) (by kernel_rfl) (by kernel_rfl) (by exact fun _ _ _ h => h) (Or.inl ⟨by rfl, fun w9 hx => ?hy3⟩) ?rest3
      case hy3 =>
        obtain ⟨b0, b1, b2⟩ := hN.out w9 (X.trans hx)
        unfold Oper.quietAt
        go_simp <;> rfl
      intro w9 hx
      replace X := X.trans hx
      clear hx
      try simp only [Act.put, List.setIfInBounds_toArray, List.set_cons_zero, List.set_cons_succ]
      refine wpAnyK_take (i := 4) (v := ?v4) (by simp only [List.getElem?_toArray, List.getElem?_cons_succ, List.getElem?_cons_zero, Option.some.injEq]; exact rfl) (by kernel_rfl) (by kernel_rfl) (by kernel_rfl) (by exact fun _ _ _ h => h) (Or.inl ⟨by rfl, fun w9 hx => ?hy4⟩) ?rest4
      case hy4 =>
        obtain ⟨b0, b1, b2⟩ := hN.out w9 (X.trans hx)
        unfold Oper.quietAt
        go_simp <;> rfl
      intro w9 hx
      replace X := X.trans hx
      clear hx
      try simp only [Act.put, List.setIfInBounds_toArray, List.set_cons_zero, List.set_cons_succ]
      refine wpAnyK_take (i := 8) (v := ?v8) (by simp only [List.getElem?_toArray, List.getElem?_cons_succ, List.getElem?_cons_zero, Option.some.injEq]; exact rfl) (by kernel_rfl) (by kernel_rfl) (by kernel_rfl) (by exact fun _ _ _ h => h) (Or.inl ⟨by rfl, fun w9 hx => ?hy8⟩) ?rest8
      case hy8 =>
        obtain ⟨b0, b1, b2⟩ := hN.out w9 (X.trans hx)
        unfold Oper.quietAt
        go_simp <;> rfl
      intro w9 hx
      replace X := X.trans hx
      clear hx
      try simp only [Act.put, List.setIfInBounds_toArray, List.set_cons_zero, List.set_cons_succ]
      refine wpAnyK_take (i := 9) (v := ?v9) (by simp only [List.getElem?_toArray, List.getElem?_cons_succ, List.getElem?_cons_zero, Option.some.injEq]; exact rfl) (by kernel_rfl) (by kernel_rfl) (by kernel_rfl) (by exact fun _ _ _ h => h) (Or.inl ⟨by rfl, fun w9 hx => ?hy9⟩) ?rest9
      case hy9 =>
        obtain ⟨b0, b1, b2⟩ := hN.out w9 (X.trans hx)
        unfold Oper.quietAt
        go_simp <;> rfl
      intro w9 hx
      replace X := X.trans hx
      clear hx
      try simp only [Act.put, List.setIfInBounds_toArray, List.set_cons_zero, List.set_cons_succ]
      refine wpAnyK_take (i := 10) (v := ?v10) (by simp only [List.getElem?_toArray, List.getElem?_cons_succ, List.getElem?_cons_zero, Option.some.injEq]; exact rfl) (by kernel_rfl) (by kernel_rfl) (by kernel_rfl) (by exact fun _ _ _ h => h) (Or.inl ⟨by rfl, fun w9 hx => ?hy10⟩) ?rest10
      case hy10 =>
        obtain ⟨b0, b1, b2⟩ := hN.out w9 (X.trans hx)
        unfold Oper.quietAt
        go_simp <;> rfl
      intro w9 hx
      replace X := X.trans hx
      clear hx
      try simp only [Act.put, List.setIfInBounds_toArray, List.set_cons_zero, List.set_cons_succ]
      refine wpAnyK_take (i := 11) (v := ?v11) (by simp only [List.getElem?_toArray, List.getElem?_cons_succ, List.getElem?_cons_zero, Option.some.injEq]; exact rfl) (by kernel_rfl) (by kernel_rfl) (by kernel_rfl) (by exact fun _ _ _ h => h) (Or.inl ⟨by rfl, fun w9 hx => ?hy11⟩) ?rest11
      case hy11 =>
        obtain ⟨b0, b1, b2⟩ := hN.out w9 (X.trans hx)
        unfold Oper.quietAt
        go_simp <;> exact (spec_FormatInt _ _ HO.out.2.1.2.1)
      intro w9 hx
      replace X := X.trans hx
      clear hx
      try simp only [Act.put, List.setIfInBounds_toArray, List.set_cons_zero, List.set_cons_succ]
      refine wpAnyK_take (i := 14) (v := ?v14) (by simp only [List.getElem?_toArray, List.getElem?_cons_succ, List.getElem?_cons_zero, Option.some.injEq]; exact rfl) (by kernel_rfl) (by kernel_rfl) (by kernel_rfl) (by exact fun _ _ _ h => h) (Or.inl ⟨by rfl, fun w9 hx => ?hy14⟩) ?rest14
      case hy14 =>
        obtain ⟨b0, b1, b2⟩ := hN.out w9 (X.trans hx)
        unfold Oper.quietAt
        go_simp <;> rfl
      intro w9 hx
      replace X := X.trans hx
      clear hx
      try simp only [Act.put, List.setIfInBounds_toArray, List.set_cons_zero, List.set_cons_succ]
      refine wpAnyK_take (i := 15) (v := ?v15) (by simp only [List.getElem?_toArray, List.getElem?_cons_succ, List.getElem?_cons_zero, Option.some.injEq]; exact rfl) (by kernel_rfl) (by kernel_rfl) (by kernel_rfl) (by exact fun _ _ _ h => h) (Or.inl ⟨by rfl, fun w9 hx => ?hy15⟩) ?rest15
      case hy15 =>
        obtain ⟨b0, b1, b2⟩ := hN.out w9 (X.trans hx)
        unfold Oper.quietAt
        go_simp <;> rfl
      intro w9 hx
      replace X := X.trans hx
      clear hx
      try simp only [Act.put, List.setIfInBounds_toArray, List.set_cons_zero, List.set_cons_succ]
      refine wpAnyK_take (i := 16) (v := ?v16) (by simp only [List.getElem?_toArray, List.getElem?_cons_succ, List.getElem?_cons_zero, Option.some.injEq]; exact rfl) (by kernel_rfl) (by kernel_rfl) (by kernel_rfl) (by exact fun _ _ _ h => h) (Or.inl ⟨by rfl, fun w9 hx => ?hy16⟩) ?rest16
      case hy16 =>
        obtain ⟨b0, b1, b2⟩ := hN.out w9 (X.trans hx)
        unfold Oper.quietAt
        go_simp <;> rfl
      intro w9 hx
      replace X := X.trans hx
      clear hx
      try simp only [Act.put, List.setIfInBounds_toArray, List.set_cons_zero, List.set_cons_succ]
      refine wpAnyK_take (i := 17) (v := ?v17) (by simp only [List.getElem?_toArray, List.getElem?_cons_succ, List.getElem?_cons_zero, Option.some.injEq]; exact rfl) (by kernel_rfl) (by kernel_rfl) (by kernel_rfl) (by exact fun _ _ _ h => h) (Or.inl ⟨by rfl, fun w9 hx => ?hy17⟩) ?rest17
      case hy17 =>
        obtain ⟨b0, b1, b2⟩ := hN.out w9 (X.trans hx)
        unfold Oper.quietAt
        go_simp <;> exact (spec_FormatInt _ _ HO.out.2.1.2.2)
      intro w9 hx
      replace X := X.trans hx
      clear hx
      try simp only [Act.put, List.setIfInBounds_toArray, List.set_cons_zero, List.set_cons_succ]
      have hcw : ∀ W : World, Ext (w9.alloc (.cells #[.int .u8 (97 + o.record.source)] 5)) W → (convert 43 9 (.slice (some ⟨w9.heap.size, 0, none⟩) 1 1)).run Tryz.prog W = .ok (.string (letter o.record.source)) W := fun W z => conv_byte (97 + o.record.source.toNat) (by have := HB.out; omega) (by have := HB.out; omega) z
      refine wpAnyK_one (i := 5) (by simp only [List.getElem?_toArray, List.getElem?_cons_succ, List.getElem?_cons_zero, Option.some.injEq]; exact rfl) (by kernel_rfl) (fun K hK => ?_)
      go_simp
      refine hK _ _ (by repeat (first | with_reducible exact Ext.refl _ | with_reducible assumption | with_reducible refine Ext.drew ?_ | with_reducible refine Ext.alloc ?_ _ | (refine Ext.setCell ?_ (by simp) _) | with_reducible refine Ext.trans ?_ (by with_reducible assumption))) (fun w10 hx10 => ?_)
      have Y : Ext (w9.alloc (.cells #[.int .u8 (97 + o.record.source)] 5)) w10 := (by repeat (first | with_reducible exact Ext.refl _ | with_reducible assumption | with_reducible refine Ext.drew ?_ | with_reducible refine Ext.alloc ?_ _ | (refine Ext.setCell ?_ (by simp) _) | with_reducible refine Ext.trans ?_ (by with_reducible assumption)))
      replace X := X.trans (((Ext.refl w9).alloc _).trans Y)
      clear hx10 hK K
      try simp only [Act.put, List.setIfInBounds_toArray, List.set_cons_zero, List.set_cons_succ]
      refine wpAnyK_take (i := 6) (v := ?v6) (by simp only [List.getElem?_toArray, List.getElem?_cons_succ, List.getElem?_cons_zero, Option.some.injEq]; exact rfl) (by kernel_rfl) (by kernel_rfl) (by kernel_rfl) (by exact fun _ _ _ h => h) (Or.inl ⟨by rfl, fun w9 hx => ?hy6⟩) ?rest6
      case hy6 =>
        obtain ⟨b0, b1, b2⟩ := hN.out w9 (X.trans hx)
        have hcq := hcw w9 (Y.trans hx)
        unfold Oper.quietAt
        go_simp <;> rfl
      intro w9 hx
      replace X := X.trans hx
      replace Y := Y.trans hx
      clear hx
      try simp only [Act.put, List.setIfInBounds_toArray, List.set_cons_zero, List.set_cons_succ]
      refine wpAnyK_take (i := 7) (v := ?v7) (by simp only [List.getElem?_toArray, List.getElem?_cons_succ, List.getElem?_cons_zero, Option.some.injEq]; exact rfl) (by kernel_rfl) (by kernel_rfl) (by kernel_rfl) (by exact fun _ _ _ h => h) (Or.inl ⟨by rfl, fun w9 hx => ?hy7⟩) ?rest7
      case hy7 =>
        obtain ⟨b0, b1, b2⟩ := hN.out w9 (X.trans hx)
        have hcq := hcw w9 (Y.trans hx)
        unfold Oper.quietAt
        go_simp <;> rfl
      intro w9 hx
      replace X := X.trans hx
      replace Y := Y.trans hx
      clear hx
      try simp only [Act.put, List.setIfInBounds_toArray, List.set_cons_zero, List.set_cons_succ]
      refine wpAnyK_take (i := 12) (v := ?v12) (by simp only [List.getElem?_toArray, List.getElem?_cons_succ, List.getElem?_cons_zero, Option.some.injEq]; exact rfl) (by kernel_rfl) (by kernel_rfl) (by kernel_rfl) (by exact fun _ _ _ h => h) (Or.inl ⟨by rfl, fun w9 hx => ?hy12⟩) ?rest12
      case hy12 =>
        obtain ⟨b0, b1, b2⟩ := hN.out w9 (X.trans hx)
        have hcq := hcw w9 (Y.trans hx)
        unfold Oper.quietAt
        go_simp <;> rfl
      intro w9 hx
      replace X := X.trans hx
      replace Y := Y.trans hx
      clear hx
      try simp only [Act.put, List.setIfInBounds_toArray, List.set_cons_zero, List.set_cons_succ]
      refine wpAnyK_take (i := 13) (v := ?v13) (by simp only [List.getElem?_toArray, List.getElem?_cons_succ, List.getElem?_cons_zero, Option.some.injEq]; exact rfl) (by kernel_rfl) (by kernel_rfl) (by kernel_rfl) (by exact fun _ _ _ h => h) (Or.inl ⟨by rfl, fun w9 hx => ?hy13⟩) ?rest13
      case hy13 =>
        obtain ⟨b0, b1, b2⟩ := hN.out w9 (X.trans hx)
        have hcq := hcw w9 (Y.trans hx)
        unfold Oper.quietAt
        go_simp <;> rfl
      intro w9 hx
      replace X := X.trans hx
      replace Y := Y.trans hx
      clear hx
      try simp only [Act.put, List.setIfInBounds_toArray, List.set_cons_zero, List.set_cons_succ]
      refine wpAnyK_take (i := 18) (v := ?v18) (by simp only [List.getElem?_toArray, List.getElem?_cons_succ, List.getElem?_cons_zero, Option.some.injEq]; exact rfl) (by kernel_rfl) (by kernel_rfl) (by kernel_rfl) (by exact fun _ _ _ h => h) (Or.inl ⟨by rfl, fun w9 hx => ?hy18⟩) ?rest18
      case hy18 =>
        obtain ⟨b0, b1, b2⟩ := hN.out w9 (X.trans hx)
        have hcq := hcw w9 (Y.trans hx)
        unfold Oper.quietAt
        go_simp <;> rfl
      intro w9 hx
      replace X := X.trans hx
      replace Y := Y.trans hx
      clear hx
      try simp only [Act.put, List.setIfInBounds_toArray, List.set_cons_zero, List.set_cons_succ]
      refine wpAnyK_take (i := 19) (v := ?v19) (by simp only [List.getElem?_toArray, List.getElem?_cons_succ, List.getElem?_cons_zero, Option.some.injEq]; exact rfl) (by kernel_rfl) (by kernel_rfl) (by kernel_rfl) (by exact fun _ _ _ h => h) (Or.inl ⟨by rfl, fun w9 hx => ?hy19⟩) ?rest19
      case hy19 =>
        obtain ⟨b0, b1, b2⟩ := hN.out w9 (X.trans hx)
        have hcq := hcw w9 (Y.trans hx)
        unfold Oper.quietAt
        go_simp <;> rfl
      intro w9 hx
      replace X := X.trans hx
      replace Y := Y.trans hx
      clear hx
      try simp only [Act.put, List.setIfInBounds_toArray, List.set_cons_zero, List.set_cons_succ]
      refine wpAnyK_done (by kernel_rfl) ?_ _
      go_wp2
      go_ret
      exact ⟨by rw [HF.out]; rfl, xw.trans X⟩
    · have HF := hid (fmtO_3 hv k)
      have s1 := fmtV_size ⟨o.verdict.a, o.verdict.b, o.verdict.same, o.verdict.time⟩
      rw [k] at ck0
      clear hv h1 hok
      go_wp2_with fail
      refine (spec_FormatVerdict _ _ _ _ _).mono ?_
      rintro e w3 ⟨rfl, x3⟩
      go_wp2
      go_ret
      exact ⟨by rw [HF.out]; rfl, (by repeat (first | with_reducible exact Ext.refl _ | with_reducible assumption | with_reducible refine Ext.drew ?_ | with_reducible refine Ext.alloc ?_ _ | with_reducible refine Ext.trans ?_ (by with_reducible assumption)))⟩
    · have HF := hid (fmtO_4 hv k)
      have s1 := fmtV_size ⟨o.verdict.a, o.verdict.b, o.verdict.same, o.verdict.time⟩
      rw [k] at ck0
      clear hv h1 hok
      go_wp2_with fail
      refine (spec_FormatVerdict _ _ _ _ _).mono ?_
      rintro e w3 ⟨rfl, x3⟩
      go_wp2
      go_ret
      exact ⟨by rw [HF.out]; rfl, (by repeat (first | with_reducible exact Ext.refl _ | with_reducible assumption | with_reducible refine Ext.drew ?_ | with_reducible refine Ext.alloc ?_ _ | with_reducible refine Ext.trans ?_ (by with_reducible assumption)))⟩
  · have hv' : okOp o = false := by simpa using hv
    rw [hv']
    have HF := hid (fmtO_no hv)
    clear hv hv'
    go_wp2
    go_ret
    exact ⟨by rw [HF.out]; rfl, (by repeat (first | with_reducible exact Ext.refl _ | with_reducible assumption | with_reducible refine Ext.drew ?_ | with_reducible refine Ext.alloc ?_ _ | with_reducible refine Ext.trans ?_ (by with_reducible assumption)))⟩
end Go.Proofs.YtfieimmlcopbhaaGreatDoor
