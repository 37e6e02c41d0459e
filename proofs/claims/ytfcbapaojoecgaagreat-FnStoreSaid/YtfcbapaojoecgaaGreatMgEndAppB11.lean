/-
  WALKS: IsValidOp (both).
-/
import Derived.Test.YtfcbapaojoecgaaGreatMgEndAppB7
import Derived.Test.YtfcbapaojoecgaaGreatMgEndAppB9
import Derived.Test.YtfcbapaojoecgaaGreatMgEndAppB8
import Derived.Test.YtfcbapaojoecgaaGreatMgEndAppB1

namespace Go.Proofs.YtfcbapaojoecgaaGreat
open Go.RowKit

def zeroVer : Verdict := ⟨0, 0, false, 0⟩
noncomputable def okOp (o : Op) : Bool :=
  if o.kind = 1 then okRec o.record && eqB o.verdict zeroVer
  else if o.kind = 2 then goneR o.record && eqB o.verdict zeroVer
  else if o.kind = 3 ∨ o.kind = 4 then okV o.verdict && zeroRec o.record
  else false
theorem okOp_1 {o : Op} (h : o.kind = 1) : okOp o = (okRec o.record && eqB o.verdict zeroVer) := by unfold okOp; rw [if_pos h]
theorem okOp_2 {o : Op} (h : o.kind = 2) : okOp o = (goneR o.record && eqB o.verdict zeroVer) := by unfold okOp; rw [if_neg (by omega), if_pos h]
theorem okOp_3 {o : Op} (h : o.kind = 3 ∨ o.kind = 4) : okOp o = (okV o.verdict && zeroRec o.record) := by unfold okOp; rw [if_neg (by omega), if_neg (by omega), if_pos h]
theorem okOp_5 {o : Op} (h1 : ¬ o.kind = 1) (h2 : ¬ o.kind = 2) (h3 : ¬ o.kind = 3) (h4 : ¬ o.kind = 4) : okOp o = false := by unfold okOp; rw [if_neg h1, if_neg h2, if_neg (by omega)]
theorem zver (x : Verdict) : (eqB x zeroVer = true ∧ (x.a == 0) = true ∧ (x.b == 0) = true ∧ (x.same == false) = true ∧ (x.time == 0) = true) ∨
    (eqB x zeroVer = false ∧ ((x.a == 0) = false ∨ ((x.a == 0) = true ∧ (x.b == 0) = false) ∨ ((x.a == 0) = true ∧ (x.b == 0) = true ∧ (x.same == false) = false) ∨ ((x.a == 0) = true ∧ (x.b == 0) = true ∧ (x.same == false) = true ∧ (x.time == 0) = false))) := by
  rcases ver_cases x zeroVer with ⟨h, k⟩ | ⟨h, k⟩
  · exact .inl ⟨eqB_true h, k⟩
  · exact .inr ⟨eqB_false h, k⟩
theorem Op.boxes {w W : World} {o : Op} {f : Value} {T : TypeId} (h : Ext (w.alloc (.cells #[.int .i64 o.kind, .int .i64 o.record.source, .int .i64 o.record.key, .int .i64 o.record.version, f, .int .i64 o.verdict.a, .int .i64 o.verdict.b, .bool o.verdict.same, .int .i64 o.verdict.time] T)) W) :
    (W.cell? ⟨w.heap.size, 5, none⟩ = some (.int .i64 o.verdict.a) ∧ W.cell? ⟨w.heap.size, 6, none⟩ = some (.int .i64 o.verdict.b) ∧ W.cell? ⟨w.heap.size, 7, none⟩ = some (.bool o.verdict.same) ∧ W.cell? ⟨w.heap.size, 8, none⟩ = some (.int .i64 o.verdict.time))
    ∧ (W.cell? ⟨w.heap.size, 1, none⟩ = some (.int .i64 o.record.source) ∧ W.cell? ⟨w.heap.size, 2, none⟩ = some (.int .i64 o.record.key) ∧ W.cell? ⟨w.heap.size, 3, none⟩ = some (.int .i64 o.record.version) ∧ W.cell? ⟨w.heap.size, 4, none⟩ = some f) :=
  ⟨⟨h.box.1 5, h.box.1 6, h.box.1 7, h.box.1 8⟩, ⟨h.box.1 1, h.box.1 2, h.box.1 3, h.box.1 4⟩⟩

set_option maxHeartbeats 400000 in
set_option maxRecDepth 20000 in
theorem impl_IsValidOp (v : Value) (o : Op) (w : World) (h : OpAt w v o) :
    Calls Tryz.prog 94 #[v] w fun e w2 => e = .returned (.bool (okOp o)) ∧ Ext w w2 := by
  obtain ⟨f, rfl, hok, hs⟩ := h
  by_cases hk1 : o.kind = 1
  · have b1 : (o.kind == 1) = true := by simp [hk1]
    have HO := hid (okOp_1 hk1)
    clear hk1
    cases hr : okRec o.record with
    | false =>
      go_enter Tryz.func94, Tryz.ntmps94
      go_wp2_with fail
      refine (impl_IsValidRecord _ o.record _ ⟨_, rfl, hok.2.1, hs.mono (by repeat (first | with_reducible exact Ext.refl _ | with_reducible assumption | with_reducible refine Ext.drew ?_ | with_reducible refine Ext.alloc ?_ _ | (refine Ext.setCell ?_ (by simp) _) | with_reducible refine Ext.trans ?_ (by with_reducible assumption)))⟩).mono ?_
      rintro e w2 ⟨rfl, x2⟩
      obtain ⟨⟨c5, c6, c7, c8⟩, ⟨c1, c2, c3, c4⟩⟩ := Op.boxes (o := o) (f := f) (T := 76) (w := w) x2
      rw [hr]
      go_wp2
      go_ret
      exact ⟨ret_bool (by rw [HO.out, hr]; rfl), (by repeat (first | with_reducible exact Ext.refl _ | with_reducible assumption | with_reducible refine Ext.drew ?_ | with_reducible refine Ext.alloc ?_ _ | (refine Ext.setCell ?_ (by simp) _) | with_reducible refine Ext.trans ?_ (by with_reducible assumption)))⟩
    | true =>
      rcases zver o.verdict with ⟨hz, e1, e2, e3, e4⟩ | ⟨hz, hw⟩
      · have HZ := hid hz
        clear hz
        go_enter Tryz.func94, Tryz.ntmps94
        go_wp2_with fail
        refine (impl_IsValidRecord _ o.record _ ⟨_, rfl, hok.2.1, hs.mono (by repeat (first | with_reducible exact Ext.refl _ | with_reducible assumption | with_reducible refine Ext.drew ?_ | with_reducible refine Ext.alloc ?_ _ | (refine Ext.setCell ?_ (by simp) _) | with_reducible refine Ext.trans ?_ (by with_reducible assumption)))⟩).mono ?_
        rintro e w2 ⟨rfl, x2⟩
        obtain ⟨⟨c5, c6, c7, c8⟩, ⟨c1, c2, c3, c4⟩⟩ := Op.boxes (o := o) (f := f) (T := 76) (w := w) x2
        rw [hr]
        go_wp2
        go_ret
        exact ⟨ret_bool (by rw [HO.out, hr, HZ.out]; rfl), (by repeat (first | with_reducible exact Ext.refl _ | with_reducible assumption | with_reducible refine Ext.drew ?_ | with_reducible refine Ext.alloc ?_ _ | (refine Ext.setCell ?_ (by simp) _) | with_reducible refine Ext.trans ?_ (by with_reducible assumption)))⟩
      · have HZ := hid hz
        clear hz
        rcases hw with e1 | ⟨e1, e2⟩ | ⟨e1, e2, e3⟩ | ⟨e1, e2, e3, e4⟩
        all_goals
          go_enter Tryz.func94, Tryz.ntmps94
          go_wp2_with fail
          refine (impl_IsValidRecord _ o.record _ ⟨_, rfl, hok.2.1, hs.mono (by repeat (first | with_reducible exact Ext.refl _ | with_reducible assumption | with_reducible refine Ext.drew ?_ | with_reducible refine Ext.alloc ?_ _ | (refine Ext.setCell ?_ (by simp) _) | with_reducible refine Ext.trans ?_ (by with_reducible assumption)))⟩).mono ?_
          rintro e w2 ⟨rfl, x2⟩
          obtain ⟨⟨c5, c6, c7, c8⟩, ⟨c1, c2, c3, c4⟩⟩ := Op.boxes (o := o) (f := f) (T := 76) (w := w) x2
          rw [hr]
          go_wp2
          go_ret
          exact ⟨ret_bool (by rw [HO.out, hr, HZ.out]; rfl), (by repeat (first | with_reducible exact Ext.refl _ | with_reducible assumption | with_reducible refine Ext.drew ?_ | with_reducible refine Ext.alloc ?_ _ | (refine Ext.setCell ?_ (by simp) _) | with_reducible refine Ext.trans ?_ (by with_reducible assumption)))⟩
  have n1 : (o.kind == 1) = false := by simp [hk1]
  by_cases hk2 : o.kind = 2
  · have b2 : (o.kind == 2) = true := by simp [hk2]
    have HO := hid (okOp_2 hk2)
    clear hk2 hk1
    cases hr : goneR o.record with
    | false =>
      go_enter Tryz.func94, Tryz.ntmps94
      go_wp2_with fail
      refine (impl_isDeletion _ o.record _ ⟨_, rfl, hok.2.1, hs.mono (by repeat (first | with_reducible exact Ext.refl _ | with_reducible assumption | with_reducible refine Ext.drew ?_ | with_reducible refine Ext.alloc ?_ _ | (refine Ext.setCell ?_ (by simp) _) | with_reducible refine Ext.trans ?_ (by with_reducible assumption)))⟩).mono ?_
      rintro e w2 ⟨rfl, x2⟩
      obtain ⟨⟨c5, c6, c7, c8⟩, ⟨c1, c2, c3, c4⟩⟩ := Op.boxes (o := o) (f := f) (T := 76) (w := w) x2
      rw [hr]
      go_wp2
      go_ret
      exact ⟨ret_bool (by rw [HO.out, hr]; rfl), (by repeat (first | with_reducible exact Ext.refl _ | with_reducible assumption | with_reducible refine Ext.drew ?_ | with_reducible refine Ext.alloc ?_ _ | (refine Ext.setCell ?_ (by simp) _) | with_reducible refine Ext.trans ?_ (by with_reducible assumption)))⟩
    | true =>
      rcases zver o.verdict with ⟨hz, e1, e2, e3, e4⟩ | ⟨hz, hw⟩
      · have HZ := hid hz
        clear hz
        go_enter Tryz.func94, Tryz.ntmps94
        go_wp2_with fail
        refine (impl_isDeletion _ o.record _ ⟨_, rfl, hok.2.1, hs.mono (by repeat (first | with_reducible exact Ext.refl _ | with_reducible assumption | with_reducible refine Ext.drew ?_ | with_reducible refine Ext.alloc ?_ _ | (refine Ext.setCell ?_ (by simp) _) | with_reducible refine Ext.trans ?_ (by with_reducible assumption)))⟩).mono ?_
        rintro e w2 ⟨rfl, x2⟩
        obtain ⟨⟨c5, c6, c7, c8⟩, ⟨c1, c2, c3, c4⟩⟩ := Op.boxes (o := o) (f := f) (T := 76) (w := w) x2
        rw [hr]
        go_wp2
        go_ret
        exact ⟨ret_bool (by rw [HO.out, hr, HZ.out]; rfl), (by repeat (first | with_reducible exact Ext.refl _ | with_reducible assumption | with_reducible refine Ext.drew ?_ | with_reducible refine Ext.alloc ?_ _ | (refine Ext.setCell ?_ (by simp) _) | with_reducible refine Ext.trans ?_ (by with_reducible assumption)))⟩
      · have HZ := hid hz
        clear hz
        rcases hw with e1 | ⟨e1, e2⟩ | ⟨e1, e2, e3⟩ | ⟨e1, e2, e3, e4⟩
        all_goals
          go_enter Tryz.func94, Tryz.ntmps94
          go_wp2_with fail
          refine (impl_isDeletion _ o.record _ ⟨_, rfl, hok.2.1, hs.mono (by repeat (first | with_reducible exact Ext.refl _ | with_reducible assumption | with_reducible refine Ext.drew ?_ | with_reducible refine Ext.alloc ?_ _ | (refine Ext.setCell ?_ (by simp) _) | with_reducible refine Ext.trans ?_ (by with_reducible assumption)))⟩).mono ?_
          rintro e w2 ⟨rfl, x2⟩
          obtain ⟨⟨c5, c6, c7, c8⟩, ⟨c1, c2, c3, c4⟩⟩ := Op.boxes (o := o) (f := f) (T := 76) (w := w) x2
          rw [hr]
          go_wp2
          go_ret
          exact ⟨ret_bool (by rw [HO.out, hr, HZ.out]; rfl), (by repeat (first | with_reducible exact Ext.refl _ | with_reducible assumption | with_reducible refine Ext.drew ?_ | with_reducible refine Ext.alloc ?_ _ | (refine Ext.setCell ?_ (by simp) _) | with_reducible refine Ext.trans ?_ (by with_reducible assumption)))⟩
  have n2 : (o.kind == 2) = false := by simp [hk2]
  by_cases hk3 : o.kind = 3
  · have b3 : (o.kind == 3) = true := by simp [hk3]
    have HO := hid (okOp_3 (.inl hk3))
    clear hk3 hk1 hk2
    cases hr : okV o.verdict with
    | false =>
      go_enter Tryz.func94, Tryz.ntmps94
      go_wp2_with fail
      refine (impl_IsValidVerdict o.verdict.a o.verdict.b o.verdict.same o.verdict.time _).mono ?_
      rintro e w2 ⟨rfl, x2⟩
      obtain ⟨⟨c5, c6, c7, c8⟩, ⟨c1, c2, c3, c4⟩⟩ := Op.boxes (o := o) (f := f) (T := 76) (w := w) x2
      rw [show okV ⟨o.verdict.a, o.verdict.b, o.verdict.same, o.verdict.time⟩ = okV o.verdict from rfl, hr]
      go_wp2
      go_ret
      exact ⟨ret_bool (by rw [HO.out, hr]; rfl), (by repeat (first | with_reducible exact Ext.refl _ | with_reducible assumption | with_reducible refine Ext.drew ?_ | with_reducible refine Ext.alloc ?_ _ | (refine Ext.setCell ?_ (by simp) _) | with_reducible refine Ext.trans ?_ (by with_reducible assumption)))⟩
    | true =>
      go_enter Tryz.func94, Tryz.ntmps94
      go_wp2_with fail
      refine (impl_IsValidVerdict o.verdict.a o.verdict.b o.verdict.same o.verdict.time _).mono ?_
      rintro e w2 ⟨rfl, x2⟩
      obtain ⟨⟨c5, c6, c7, c8⟩, ⟨c1, c2, c3, c4⟩⟩ := Op.boxes (o := o) (f := f) (T := 76) (w := w) x2
      rw [show okV ⟨o.verdict.a, o.verdict.b, o.verdict.same, o.verdict.time⟩ = okV o.verdict from rfl, hr]
      go_wp2_with fail
      refine (impl_isZeroRecord _ o.record _ ⟨_, rfl, hok.2.1, hs.mono (by repeat (first | with_reducible exact Ext.refl _ | with_reducible assumption | with_reducible refine Ext.drew ?_ | with_reducible refine Ext.alloc ?_ _ | (refine Ext.setCell ?_ (by simp) _) | with_reducible refine Ext.trans ?_ (by with_reducible assumption)))⟩).mono ?_
      rintro e w3 ⟨rfl, x3⟩
      go_wp2
      go_ret
      exact ⟨ret_bool (by rw [HO.out, hr]; rfl), (by repeat (first | with_reducible exact Ext.refl _ | with_reducible assumption | with_reducible refine Ext.drew ?_ | with_reducible refine Ext.alloc ?_ _ | (refine Ext.setCell ?_ (by simp) _) | with_reducible refine Ext.trans ?_ (by with_reducible assumption)))⟩
  have n3 : (o.kind == 3) = false := by simp [hk3]
  by_cases hk4 : o.kind = 4
  · have b4 : (o.kind == 4) = true := by simp [hk4]
    have HO := hid (okOp_3 (.inr hk4))
    clear hk4 hk1 hk2 hk3
    cases hr : okV o.verdict with
    | false =>
      go_enter Tryz.func94, Tryz.ntmps94
      go_wp2_with fail
      refine (impl_IsValidVerdict o.verdict.a o.verdict.b o.verdict.same o.verdict.time _).mono ?_
      rintro e w2 ⟨rfl, x2⟩
      obtain ⟨⟨c5, c6, c7, c8⟩, ⟨c1, c2, c3, c4⟩⟩ := Op.boxes (o := o) (f := f) (T := 76) (w := w) x2
      rw [show okV ⟨o.verdict.a, o.verdict.b, o.verdict.same, o.verdict.time⟩ = okV o.verdict from rfl, hr]
      go_wp2
      go_ret
      exact ⟨ret_bool (by rw [HO.out, hr]; rfl), (by repeat (first | with_reducible exact Ext.refl _ | with_reducible assumption | with_reducible refine Ext.drew ?_ | with_reducible refine Ext.alloc ?_ _ | (refine Ext.setCell ?_ (by simp) _) | with_reducible refine Ext.trans ?_ (by with_reducible assumption)))⟩
    | true =>
      go_enter Tryz.func94, Tryz.ntmps94
      go_wp2_with fail
      refine (impl_IsValidVerdict o.verdict.a o.verdict.b o.verdict.same o.verdict.time _).mono ?_
      rintro e w2 ⟨rfl, x2⟩
      obtain ⟨⟨c5, c6, c7, c8⟩, ⟨c1, c2, c3, c4⟩⟩ := Op.boxes (o := o) (f := f) (T := 76) (w := w) x2
      rw [show okV ⟨o.verdict.a, o.verdict.b, o.verdict.same, o.verdict.time⟩ = okV o.verdict from rfl, hr]
      go_wp2_with fail
      refine (impl_isZeroRecord _ o.record _ ⟨_, rfl, hok.2.1, hs.mono (by repeat (first | with_reducible exact Ext.refl _ | with_reducible assumption | with_reducible refine Ext.drew ?_ | with_reducible refine Ext.alloc ?_ _ | (refine Ext.setCell ?_ (by simp) _) | with_reducible refine Ext.trans ?_ (by with_reducible assumption)))⟩).mono ?_
      rintro e w3 ⟨rfl, x3⟩
      go_wp2
      go_ret
      exact ⟨ret_bool (by rw [HO.out, hr]; rfl), (by repeat (first | with_reducible exact Ext.refl _ | with_reducible assumption | with_reducible refine Ext.drew ?_ | with_reducible refine Ext.alloc ?_ _ | (refine Ext.setCell ?_ (by simp) _) | with_reducible refine Ext.trans ?_ (by with_reducible assumption)))⟩
  have n4 : (o.kind == 4) = false := by simp [hk4]
  have HO := hid (okOp_5 hk1 hk2 hk3 hk4)
  clear hk1 hk2 hk3 hk4
  go_enter Tryz.func94, Tryz.ntmps94
  go_wp2
  go_ret
  exact ⟨ret_bool HO.out.symm, (by repeat (first | with_reducible exact Ext.refl _ | with_reducible assumption | with_reducible refine Ext.drew ?_ | with_reducible refine Ext.alloc ?_ _ | (refine Ext.setCell ?_ (by simp) _) | with_reducible refine Ext.trans ?_ (by with_reducible assumption)))⟩

set_option maxHeartbeats 400000 in
set_option maxRecDepth 20000 in
theorem spec_IsValidOp (v : Value) (o : Op) (w : World) (h : OpAt w v o) :
    Calls Tryz.prog 86 #[v] w fun e w2 => e = .returned (.bool (okOp o)) ∧ Ext w w2 := by
  obtain ⟨f, rfl, hok, hs⟩ := h
  by_cases hk1 : o.kind = 1
  · have b1 : (o.kind == 1) = true := by simp [hk1]
    have HO := hid (okOp_1 hk1)
    clear hk1
    cases hr : okRec o.record with
    | false =>
      go_enter Tryz.func86, Tryz.ntmps86
      go_wp2_with fail
      refine (spec_IsValidRecord _ o.record _ ⟨_, rfl, hok.2.1, hs.mono (by repeat (first | with_reducible exact Ext.refl _ | with_reducible assumption | with_reducible refine Ext.drew ?_ | with_reducible refine Ext.alloc ?_ _ | (refine Ext.setCell ?_ (by simp) _) | with_reducible refine Ext.trans ?_ (by with_reducible assumption)))⟩).mono ?_
      rintro e w2 ⟨rfl, x2⟩
      obtain ⟨⟨c5, c6, c7, c8⟩, ⟨c1, c2, c3, c4⟩⟩ := Op.boxes (o := o) (f := f) (T := 76) (w := w) (((Ext.refl _).alloc _).trans x2)
      rw [hr]
      go_wp2
      go_ret
      exact ⟨ret_bool (by rw [HO.out, hr]; rfl), (by repeat (first | with_reducible exact Ext.refl _ | with_reducible assumption | with_reducible refine Ext.drew ?_ | with_reducible refine Ext.alloc ?_ _ | (refine Ext.setCell ?_ (by simp) _) | with_reducible refine Ext.trans ?_ (by with_reducible assumption)))⟩
    | true =>
      rcases zver o.verdict with ⟨hz, e1, e2, e3, e4⟩ | ⟨hz, hw⟩
      · have HZ := hid hz
        clear hz
        go_enter Tryz.func86, Tryz.ntmps86
        go_wp2_with fail
        refine (spec_IsValidRecord _ o.record _ ⟨_, rfl, hok.2.1, hs.mono (by repeat (first | with_reducible exact Ext.refl _ | with_reducible assumption | with_reducible refine Ext.drew ?_ | with_reducible refine Ext.alloc ?_ _ | (refine Ext.setCell ?_ (by simp) _) | with_reducible refine Ext.trans ?_ (by with_reducible assumption)))⟩).mono ?_
        rintro e w2 ⟨rfl, x2⟩
        obtain ⟨⟨c5, c6, c7, c8⟩, ⟨c1, c2, c3, c4⟩⟩ := Op.boxes (o := o) (f := f) (T := 76) (w := w) (((Ext.refl _).alloc _).trans x2)
        have cz := x2.box1.1
        have z0 := cz 0
        have z1 := cz 1
        have z2 := cz 2
        have z3 := cz 3
        clear cz
        rw [hr]
        go_wp2
        go_ret
        exact ⟨ret_bool (by rw [HO.out, hr, HZ.out]; rfl), (by repeat (first | with_reducible exact Ext.refl _ | with_reducible assumption | with_reducible refine Ext.drew ?_ | with_reducible refine Ext.alloc ?_ _ | (refine Ext.setCell ?_ (by simp) _) | with_reducible refine Ext.trans ?_ (by with_reducible assumption)))⟩
      · have HZ := hid hz
        clear hz
        rcases hw with e1 | ⟨e1, e2⟩ | ⟨e1, e2, e3⟩ | ⟨e1, e2, e3, e4⟩
        all_goals
          go_enter Tryz.func86, Tryz.ntmps86
          go_wp2_with fail
          refine (spec_IsValidRecord _ o.record _ ⟨_, rfl, hok.2.1, hs.mono (by repeat (first | with_reducible exact Ext.refl _ | with_reducible assumption | with_reducible refine Ext.drew ?_ | with_reducible refine Ext.alloc ?_ _ | (refine Ext.setCell ?_ (by simp) _) | with_reducible refine Ext.trans ?_ (by with_reducible assumption)))⟩).mono ?_
          rintro e w2 ⟨rfl, x2⟩
          obtain ⟨⟨c5, c6, c7, c8⟩, ⟨c1, c2, c3, c4⟩⟩ := Op.boxes (o := o) (f := f) (T := 76) (w := w) (((Ext.refl _).alloc _).trans x2)
          have cz := x2.box1.1
          have z0 := cz 0
          have z1 := cz 1
          have z2 := cz 2
          have z3 := cz 3
          clear cz
          rw [hr]
          go_wp2
          go_ret
          exact ⟨ret_bool (by rw [HO.out, hr, HZ.out]; rfl), (by repeat (first | with_reducible exact Ext.refl _ | with_reducible assumption | with_reducible refine Ext.drew ?_ | with_reducible refine Ext.alloc ?_ _ | (refine Ext.setCell ?_ (by simp) _) | with_reducible refine Ext.trans ?_ (by with_reducible assumption)))⟩
  have n1 : (o.kind == 1) = false := by simp [hk1]
  by_cases hk2 : o.kind = 2
  · have b2 : (o.kind == 2) = true := by simp [hk2]
    have HO := hid (okOp_2 hk2)
    clear hk2 hk1
    cases hr : goneR o.record with
    | false =>
      go_enter Tryz.func86, Tryz.ntmps86
      go_wp2_with fail
      refine (spec_l29Gone _ o.record _ ⟨_, rfl, hok.2.1, hs.mono (by repeat (first | with_reducible exact Ext.refl _ | with_reducible assumption | with_reducible refine Ext.drew ?_ | with_reducible refine Ext.alloc ?_ _ | (refine Ext.setCell ?_ (by simp) _) | with_reducible refine Ext.trans ?_ (by with_reducible assumption)))⟩).mono ?_
      rintro e w2 ⟨rfl, x2⟩
      obtain ⟨⟨c5, c6, c7, c8⟩, ⟨c1, c2, c3, c4⟩⟩ := Op.boxes (o := o) (f := f) (T := 76) (w := w) (((Ext.refl _).alloc _).trans x2)
      rw [hr]
      go_wp2
      go_ret
      exact ⟨ret_bool (by rw [HO.out, hr]; rfl), (by repeat (first | with_reducible exact Ext.refl _ | with_reducible assumption | with_reducible refine Ext.drew ?_ | with_reducible refine Ext.alloc ?_ _ | (refine Ext.setCell ?_ (by simp) _) | with_reducible refine Ext.trans ?_ (by with_reducible assumption)))⟩
    | true =>
      rcases zver o.verdict with ⟨hz, e1, e2, e3, e4⟩ | ⟨hz, hw⟩
      · have HZ := hid hz
        clear hz
        go_enter Tryz.func86, Tryz.ntmps86
        go_wp2_with fail
        refine (spec_l29Gone _ o.record _ ⟨_, rfl, hok.2.1, hs.mono (by repeat (first | with_reducible exact Ext.refl _ | with_reducible assumption | with_reducible refine Ext.drew ?_ | with_reducible refine Ext.alloc ?_ _ | (refine Ext.setCell ?_ (by simp) _) | with_reducible refine Ext.trans ?_ (by with_reducible assumption)))⟩).mono ?_
        rintro e w2 ⟨rfl, x2⟩
        obtain ⟨⟨c5, c6, c7, c8⟩, ⟨c1, c2, c3, c4⟩⟩ := Op.boxes (o := o) (f := f) (T := 76) (w := w) (((Ext.refl _).alloc _).trans x2)
        have cz := x2.box1.1
        have z0 := cz 0
        have z1 := cz 1
        have z2 := cz 2
        have z3 := cz 3
        clear cz
        rw [hr]
        go_wp2
        go_ret
        exact ⟨ret_bool (by rw [HO.out, hr, HZ.out]; rfl), (by repeat (first | with_reducible exact Ext.refl _ | with_reducible assumption | with_reducible refine Ext.drew ?_ | with_reducible refine Ext.alloc ?_ _ | (refine Ext.setCell ?_ (by simp) _) | with_reducible refine Ext.trans ?_ (by with_reducible assumption)))⟩
      · have HZ := hid hz
        clear hz
        rcases hw with e1 | ⟨e1, e2⟩ | ⟨e1, e2, e3⟩ | ⟨e1, e2, e3, e4⟩
        all_goals
          go_enter Tryz.func86, Tryz.ntmps86
          go_wp2_with fail
          refine (spec_l29Gone _ o.record _ ⟨_, rfl, hok.2.1, hs.mono (by repeat (first | with_reducible exact Ext.refl _ | with_reducible assumption | with_reducible refine Ext.drew ?_ | with_reducible refine Ext.alloc ?_ _ | (refine Ext.setCell ?_ (by simp) _) | with_reducible refine Ext.trans ?_ (by with_reducible assumption)))⟩).mono ?_
          rintro e w2 ⟨rfl, x2⟩
          obtain ⟨⟨c5, c6, c7, c8⟩, ⟨c1, c2, c3, c4⟩⟩ := Op.boxes (o := o) (f := f) (T := 76) (w := w) (((Ext.refl _).alloc _).trans x2)
          have cz := x2.box1.1
          have z0 := cz 0
          have z1 := cz 1
          have z2 := cz 2
          have z3 := cz 3
          clear cz
          rw [hr]
          go_wp2
          go_ret
          exact ⟨ret_bool (by rw [HO.out, hr, HZ.out]; rfl), (by repeat (first | with_reducible exact Ext.refl _ | with_reducible assumption | with_reducible refine Ext.drew ?_ | with_reducible refine Ext.alloc ?_ _ | (refine Ext.setCell ?_ (by simp) _) | with_reducible refine Ext.trans ?_ (by with_reducible assumption)))⟩
  have n2 : (o.kind == 2) = false := by simp [hk2]
  by_cases hk3 : o.kind = 3
  · have b3 : (o.kind == 3) = true := by simp [hk3]
    have HO := hid (okOp_3 (.inl hk3))
    clear hk3 hk1 hk2
    cases hr : okV o.verdict with
    | false =>
      go_enter Tryz.func86, Tryz.ntmps86
      go_wp2_with fail
      refine (spec_IsValidVerdict o.verdict.a o.verdict.b o.verdict.same o.verdict.time _).mono ?_
      rintro e w2 ⟨rfl, x2⟩
      obtain ⟨⟨c5, c6, c7, c8⟩, ⟨c1, c2, c3, c4⟩⟩ := Op.boxes (o := o) (f := f) (T := 76) (w := w) (((Ext.refl _).alloc _).trans x2)
      rw [show okV ⟨o.verdict.a, o.verdict.b, o.verdict.same, o.verdict.time⟩ = okV o.verdict from rfl, hr]
      go_wp2
      go_ret
      exact ⟨ret_bool (by rw [HO.out, hr]; rfl), (by repeat (first | with_reducible exact Ext.refl _ | with_reducible assumption | with_reducible refine Ext.drew ?_ | with_reducible refine Ext.alloc ?_ _ | (refine Ext.setCell ?_ (by simp) _) | with_reducible refine Ext.trans ?_ (by with_reducible assumption)))⟩
    | true =>
      go_enter Tryz.func86, Tryz.ntmps86
      go_wp2_with fail
      refine (spec_IsValidVerdict o.verdict.a o.verdict.b o.verdict.same o.verdict.time _).mono ?_
      rintro e w2 ⟨rfl, x2⟩
      obtain ⟨⟨c5, c6, c7, c8⟩, ⟨c1, c2, c3, c4⟩⟩ := Op.boxes (o := o) (f := f) (T := 76) (w := w) (((Ext.refl _).alloc _).trans x2)
      rw [show okV ⟨o.verdict.a, o.verdict.b, o.verdict.same, o.verdict.time⟩ = okV o.verdict from rfl, hr]
      go_wp2_with fail
      refine (spec_l29Zero _ o.record _ ⟨_, rfl, hok.2.1, hs.mono (by repeat (first | with_reducible exact Ext.refl _ | with_reducible assumption | with_reducible refine Ext.drew ?_ | with_reducible refine Ext.alloc ?_ _ | (refine Ext.setCell ?_ (by simp) _) | with_reducible refine Ext.trans ?_ (by with_reducible assumption)))⟩).mono ?_
      rintro e w3 ⟨rfl, x3⟩
      go_wp2
      go_ret
      exact ⟨ret_bool (by rw [HO.out, hr]; rfl), (by repeat (first | with_reducible exact Ext.refl _ | with_reducible assumption | with_reducible refine Ext.drew ?_ | with_reducible refine Ext.alloc ?_ _ | (refine Ext.setCell ?_ (by simp) _) | with_reducible refine Ext.trans ?_ (by with_reducible assumption)))⟩
  have n3 : (o.kind == 3) = false := by simp [hk3]
  by_cases hk4 : o.kind = 4
  · have b4 : (o.kind == 4) = true := by simp [hk4]
    have HO := hid (okOp_3 (.inr hk4))
    clear hk4 hk1 hk2 hk3
    cases hr : okV o.verdict with
    | false =>
      go_enter Tryz.func86, Tryz.ntmps86
      go_wp2_with fail
      refine (spec_IsValidVerdict o.verdict.a o.verdict.b o.verdict.same o.verdict.time _).mono ?_
      rintro e w2 ⟨rfl, x2⟩
      obtain ⟨⟨c5, c6, c7, c8⟩, ⟨c1, c2, c3, c4⟩⟩ := Op.boxes (o := o) (f := f) (T := 76) (w := w) (((Ext.refl _).alloc _).trans x2)
      rw [show okV ⟨o.verdict.a, o.verdict.b, o.verdict.same, o.verdict.time⟩ = okV o.verdict from rfl, hr]
      go_wp2
      go_ret
      exact ⟨ret_bool (by rw [HO.out, hr]; rfl), (by repeat (first | with_reducible exact Ext.refl _ | with_reducible assumption | with_reducible refine Ext.drew ?_ | with_reducible refine Ext.alloc ?_ _ | (refine Ext.setCell ?_ (by simp) _) | with_reducible refine Ext.trans ?_ (by with_reducible assumption)))⟩
    | true =>
      go_enter Tryz.func86, Tryz.ntmps86
      go_wp2_with fail
      refine (spec_IsValidVerdict o.verdict.a o.verdict.b o.verdict.same o.verdict.time _).mono ?_
      rintro e w2 ⟨rfl, x2⟩
      obtain ⟨⟨c5, c6, c7, c8⟩, ⟨c1, c2, c3, c4⟩⟩ := Op.boxes (o := o) (f := f) (T := 76) (w := w) (((Ext.refl _).alloc _).trans x2)
      rw [show okV ⟨o.verdict.a, o.verdict.b, o.verdict.same, o.verdict.time⟩ = okV o.verdict from rfl, hr]
      go_wp2_with fail
      refine (spec_l29Zero _ o.record _ ⟨_, rfl, hok.2.1, hs.mono (by repeat (first | with_reducible exact Ext.refl _ | with_reducible assumption | with_reducible refine Ext.drew ?_ | with_reducible refine Ext.alloc ?_ _ | (refine Ext.setCell ?_ (by simp) _) | with_reducible refine Ext.trans ?_ (by with_reducible assumption)))⟩).mono ?_
      rintro e w3 ⟨rfl, x3⟩
      go_wp2
      go_ret
      exact ⟨ret_bool (by rw [HO.out, hr]; rfl), (by repeat (first | with_reducible exact Ext.refl _ | with_reducible assumption | with_reducible refine Ext.drew ?_ | with_reducible refine Ext.alloc ?_ _ | (refine Ext.setCell ?_ (by simp) _) | with_reducible refine Ext.trans ?_ (by with_reducible assumption)))⟩
  have n4 : (o.kind == 4) = false := by simp [hk4]
  have HO := hid (okOp_5 hk1 hk2 hk3 hk4)
  clear hk1 hk2 hk3 hk4
  go_enter Tryz.func86, Tryz.ntmps86
  go_wp2
  go_ret
  exact ⟨ret_bool HO.out.symm, (by repeat (first | with_reducible exact Ext.refl _ | with_reducible assumption | with_reducible refine Ext.drew ?_ | with_reducible refine Ext.alloc ?_ _ | (refine Ext.setCell ?_ (by simp) _) | with_reducible refine Ext.trans ?_ (by with_reducible assumption)))⟩

end Go.Proofs.YtfcbapaojoecgaaGreat
