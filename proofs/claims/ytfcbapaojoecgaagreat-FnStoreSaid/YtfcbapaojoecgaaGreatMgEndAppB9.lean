/-
  An operation: how it lies; WALKS: szOp, toOp, eqOp.
-/
import Derived.Test.YtfcbapaojoecgaaGreatMgEndAppB5
import Derived.Test.YtfcbapaojoecgaaGreatMgEndAppB8

namespace Go.Proofs.YtfcbapaojoecgaaGreat
open Go.RowKit

structure Op where
  kind : Int
  record : Record
  verdict : Verdict
def Op.cells (o : Op) (f : Value) : List Value := [.int .i64 o.kind, .int .i64 o.record.source, .int .i64 o.record.key, .int .i64 o.record.version, f, .int .i64 o.verdict.a, .int .i64 o.verdict.b, .bool o.verdict.same, .int .i64 o.verdict.time]
def Op.ok (o : Op) : Prop := I64 o.kind ∧ o.record.ok ∧ o.verdict.ok
def opR : Rep Op := ⟨9, fun w cs o => ∃ f, cs = o.cells f ∧ o.ok ∧ Sl strR w f o.record.fields, fun ⟨_, h, _⟩ => by rw [h]; rfl, fun e ⟨f, h, k, s⟩ => ⟨f, h, k, s.mono e⟩⟩
def opO : RepO Op :=
  { opR with
    own := fun w cs o F => ∃ f, cs = o.cells f ∧ o.ok ∧ OwnSl strO w f o.record.fields F
    own_rd := fun ⟨f, h, k, s⟩ => ⟨f, h, k, s.sl⟩
    own_lt := fun ⟨_, _, _, s⟩ => s.lt
    own_keep := fun hk ⟨f, h, k, s⟩ => ⟨f, h, k, s.keep hk⟩ }
def OpAt (w : World) (v : Value) (o : Op) : Prop := ∃ f, v = .agg #[.int .i64 o.kind, .int .i64 o.record.source, .int .i64 o.record.key, .int .i64 o.record.version, f, .int .i64 o.verdict.a, .int .i64 o.verdict.b, .bool o.verdict.same, .int .i64 o.verdict.time] ∧ o.ok ∧ Sl strR w f o.record.fields
def OpOwn (w : World) (v : Value) (o : Op) (F : List Nat) : Prop := ∃ f, v = .agg #[.int .i64 o.kind, .int .i64 o.record.source, .int .i64 o.record.key, .int .i64 o.record.version, f, .int .i64 o.verdict.a, .int .i64 o.verdict.b, .bool o.verdict.same, .int .i64 o.verdict.time] ∧ o.ok ∧ OwnSl strO w f o.record.fields F
theorem OpAt.mono {w w2 : World} {v : Value} {o : Op} (e : Ext w w2) (h : OpAt w v o) : OpAt w2 v o := let ⟨f, a, b, c⟩ := h; ⟨f, a, b, c.mono e⟩
theorem OpOwn.at_ {w : World} {v : Value} {o : Op} {F : List Nat} (h : OpOwn w v o F) : OpAt w v o := let ⟨f, a, b, c⟩ := h; ⟨f, a, b, c.sl⟩
theorem OpOwn.lt {w : World} {v : Value} {o : Op} {F : List Nat} (h : OpOwn w v o F) : ∀ b ∈ F, b < w.heap.size := let ⟨_, _, _, c⟩ := h; c.lt
theorem OpOwn.keep {w w2 : World} {v : Value} {o : Op} {F : List Nat} (h : OpOwn w v o F) (k : ∀ b ∈ F, w2.heap[b]? = w.heap[b]?) : OpOwn w2 v o F := let ⟨f, a, b, c⟩ := h; ⟨f, a, b, c.keep k⟩
theorem OpOwn.ext {w w2 : World} {v : Value} {o : Op} {F : List Nat} (h : OpOwn w v o F) (e : Ext w w2) : OpOwn w2 v o F := h.keep fun b hb => e.block (h.lt b hb)
def msOp (o : Op) : Nat := o.record.fields.length + sumSize o.record.fields

set_option maxHeartbeats 400000 in
theorem szOp_c (v : Value) (o : Op) (left : Int) (w : World) (h : OpAt w v o) (h0 : 0 ≤ left) (h1 : left ≤ 1048576) :
    Calls Tryz.prog 80 #[v, .int .i64 left] w fun e w2 => e = .returned (.int .i64 (szv ((msOp o : Nat) : Int) left)) ∧ Ext w w2 := by
  obtain ⟨f, rfl, hok, hs⟩ := h
  go_enter Tryz.func80, Tryz.ntmps80
  go_wp2_with fail
  refine (szRecord_c _ o.record _ _ ⟨_, rfl, hok.2.1, hs.mono (by repeat (first | with_reducible exact Ext.refl _ | with_reducible assumption | with_reducible refine Ext.drew ?_ | with_reducible refine Ext.alloc ?_ _ | (refine Ext.setCell ?_ (by simp) _) | with_reducible refine Ext.trans ?_ (by with_reducible assumption)))⟩ h0 h1).mono ?_
  rintro e w2 ⟨rfl, x2⟩
  rw [show ((msRec o.record : Nat) : Int) = ((msOp o : Nat) : Int) from rfl]
  by_cases hs9 : left < ((msOp o : Nat) : Int)
  · have HS := hid hs9
    rw [szv_neg hs9]
    clear hs9
    go_wp2
    go_ret
    exact ⟨ret_int (szv_neg HS.out).symm, (by repeat (first | with_reducible exact Ext.refl _ | with_reducible assumption | with_reducible refine Ext.drew ?_ | with_reducible refine Ext.alloc ?_ _ | with_reducible refine Ext.trans ?_ (by with_reducible assumption)))⟩
  · have hs0 := szv_nn hs9
    have hs1 := szv_le (n := ((msOp o : Nat) : Int)) (left := left) (by omega) (by omega)
    obtain ⟨L, hL⟩ : ∃ L, L = szv ((msOp o : Nat) : Int) left := ⟨_, rfl⟩
    rw [← hL] at hs0 hs1 ⊢
    have HL := hid hL
    clear hL
    have HS := hid hs9
    clear hs9
    go_wp2
    go_ret
    exact ⟨ret_int HL.out, (by repeat (first | with_reducible exact Ext.refl _ | with_reducible assumption | with_reducible refine Ext.drew ?_ | with_reducible refine Ext.alloc ?_ _ | with_reducible refine Ext.trans ?_ (by with_reducible assumption)))⟩

set_option maxHeartbeats 400000 in
set_option maxRecDepth 100000 in
theorem toOp_c (v : Value) (o : Op) (w : World) (h : OpAt w v o) (hb : o.record.fields.length ≤ 1048576) :
    Calls Tryz.prog 91 #[v] w fun e w2 => ∃ v2 F, e = .returned v2 ∧ OpOwn w2 v2 o F ∧ NewF w F ∧ Ext w w2 := by
  obtain ⟨f, rfl, hok, hs⟩ := h
  go_enter Tryz.func91, Tryz.ntmps91
  go_wp2_with fail
  refine (toRecord_c _ o.record _ ⟨_, rfl, hok.2.1, hs.mono (by repeat (first | with_reducible exact Ext.refl _ | with_reducible assumption | with_reducible refine Ext.drew ?_ | with_reducible refine Ext.alloc ?_ _ | (refine Ext.setCell ?_ (by simp) _) | with_reducible refine Ext.trans ?_ (by with_reducible assumption)))⟩ hb).mono ?_
  rintro e w2 ⟨v2, F, rfl, ⟨m, rfl, _, ho⟩, hn, x2⟩
  obtain ⟨A2, cap2, e2, _⟩ := ho.form
  subst e2
  have B3 : Blk w2 (w.heap.size + 1 + 1) 76 [.int .i64 o.kind, .int .i64 0, .int .i64 0, .int .i64 0, .slice none 0 0, .int .i64 0, .int .i64 0, .bool false, .int .i64 0] := by
    have := (Blk.new ((w.alloc (.cells #[.int .i64 o.kind, .int .i64 o.record.source, .int .i64 o.record.key, .int .i64 o.record.version, f, .int .i64 o.verdict.a, .int .i64 o.verdict.b, .bool o.verdict.same, .int .i64 o.verdict.time] 112)).alloc (.cells #[.int .i64 0, .int .i64 0, .int .i64 0, .int .i64 0, .slice none 0 0, .int .i64 0, .int .i64 0, .bool false, .int .i64 0] 76)) 76 #[.int .i64 o.kind, .int .i64 0, .int .i64 0, .int .i64 0, .slice none 0 0, .int .i64 0, .int .i64 0, .bool false, .int .i64 0]).ext x2
    simpa using this
  have B2 : Blk w2 (w.heap.size + 1) 76 [.int .i64 0, .int .i64 0, .int .i64 0, .int .i64 0, .slice none 0 0, .int .i64 0, .int .i64 0, .bool false, .int .i64 0] := by
    have := (Blk.new (w.alloc (.cells #[.int .i64 o.kind, .int .i64 o.record.source, .int .i64 o.record.key, .int .i64 o.record.version, f, .int .i64 o.verdict.a, .int .i64 o.verdict.b, .bool o.verdict.same, .int .i64 o.verdict.time] 112)) 76 #[.int .i64 0, .int .i64 0, .int .i64 0, .int .i64 0, .slice none 0 0, .int .i64 0, .int .i64 0, .bool false, .int .i64 0]).ext (((Ext.refl _).alloc _).trans x2)
    simpa using this
  have B1 : Blk w2 w.heap.size 112 [.int .i64 o.kind, .int .i64 o.record.source, .int .i64 o.record.key, .int .i64 o.record.version, f, .int .i64 o.verdict.a, .int .i64 o.verdict.b, .bool o.verdict.same, .int .i64 o.verdict.time] := by
    have := (Blk.new w 112 #[.int .i64 o.kind, .int .i64 o.record.source, .int .i64 o.record.key, .int .i64 o.record.version, f, .int .i64 o.verdict.a, .int .i64 o.verdict.b, .bool o.verdict.same, .int .i64 o.verdict.time]).ext ((((Ext.refl _).alloc _).alloc _).trans x2)
    simpa using this
  have hlt : ∀ b ∈ F, w.heap.size + 1 + 1 < b := fun b hb => by have := hn.2 b hb; simp at this; omega
  have hnw := hn.ext (w := w) (by repeat (first | with_reducible exact Ext.refl _ | with_reducible assumption | with_reducible refine Ext.drew ?_ | with_reducible refine Ext.alloc ?_ _ | (refine Ext.setCell ?_ (by simp) _) | with_reducible refine Ext.trans ?_ (by with_reducible assumption)))
  have xw : Ext w w2 := (by repeat (first | with_reducible exact Ext.refl _ | with_reducible assumption | with_reducible refine Ext.drew ?_ | with_reducible refine Ext.alloc ?_ _ | (refine Ext.setCell ?_ (by simp) _) | with_reducible refine Ext.trans ?_ (by with_reducible assumption)))
  clear hn x2
  have B3c := B3.cells
  have B1c := B1.cells
  obtain ⟨W3, hW3⟩ : ∃ W3, W3 = (((w2.setCell ⟨w.heap.size + 1 + 1, 1, none⟩ (.int .i64 o.record.source)).setCell ⟨w.heap.size + 1 + 1, 2, none⟩ (.int .i64 o.record.key)).setCell ⟨w.heap.size + 1 + 1, 3, none⟩ (.int .i64 o.record.version)).setCell ⟨w.heap.size + 1 + 1, 4, none⟩ (.slice A2 o.record.fields.length cap2) := ⟨_, rfl⟩
  have S1 : Blk _ _ _ [.int .i64 o.kind, .int .i64 o.record.source, .int .i64 0, .int .i64 0, .slice none 0 0, .int .i64 0, .int .i64 0, .bool false, .int .i64 0] := B3.store (done := [.int .i64 o.kind]) (z := .int .i64 0) (rest := [.int .i64 0, .int .i64 0, .slice none 0 0, .int .i64 0, .int .i64 0, .bool false, .int .i64 0]) (k := 1) rfl (.int .i64 o.record.source)
  have S2 : Blk _ _ _ [.int .i64 o.kind, .int .i64 o.record.source, .int .i64 o.record.key, .int .i64 0, .slice none 0 0, .int .i64 0, .int .i64 0, .bool false, .int .i64 0] := Blk.store (done := [.int .i64 o.kind, .int .i64 o.record.source]) (z := .int .i64 0) (rest := [.int .i64 0, .slice none 0 0, .int .i64 0, .int .i64 0, .bool false, .int .i64 0]) (k := 2) S1 rfl (.int .i64 o.record.key)
  have S3 : Blk _ _ _ [.int .i64 o.kind, .int .i64 o.record.source, .int .i64 o.record.key, .int .i64 o.record.version, .slice none 0 0, .int .i64 0, .int .i64 0, .bool false, .int .i64 0] := Blk.store (done := [.int .i64 o.kind, .int .i64 o.record.source, .int .i64 o.record.key]) (z := .int .i64 0) (rest := [.slice none 0 0, .int .i64 0, .int .i64 0, .bool false, .int .i64 0]) (k := 3) S2 rfl (.int .i64 o.record.version)
  have S4 : Blk _ _ _ [.int .i64 o.kind, .int .i64 o.record.source, .int .i64 o.record.key, .int .i64 o.record.version, .slice A2 o.record.fields.length cap2, .int .i64 0, .int .i64 0, .bool false, .int .i64 0] := Blk.store (done := [.int .i64 o.kind, .int .i64 o.record.source, .int .i64 o.record.key, .int .i64 o.record.version]) (z := .slice none 0 0) (rest := [.int .i64 0, .int .i64 0, .bool false, .int .i64 0]) (k := 4) S3 rfl (.slice A2 o.record.fields.length cap2)
  have hk : ∀ b, b ≠ w.heap.size + 1 + 1 → W3.heap[b]? = w2.heap[b]? := fun b hb => by rw [hW3]; exact (keep_setCell hb).trans ((keep_setCell hb).trans ((keep_setCell hb).trans (keep_setCell hb)))
  rw [← hW3] at S4
  have B2s : Blk W3 (w.heap.size + 1) 76 [.int .i64 0, .int .i64 0, .int .i64 0, .int .i64 0, .slice none 0 0, .int .i64 0, .int .i64 0, .bool false, .int .i64 0] := B2.keep (hk _ (by omega))
  have B1s := (B1.keep (hk _ (by omega)) : Blk W3 w.heap.size 112 _).cells
  have xs : Ext w W3 := by rw [hW3]; exact (((xw.setCell (by simp; omega) _).setCell (by simp; omega) _).setCell (by simp; omega) _).setCell (by simp; omega) _
  have hos : OwnSl strO W3 (.slice A2 o.record.fields.length cap2) o.record.fields F := ho.keep fun b hb => hk b (by have := hlt b hb; omega)
  have HW3 := hid hW3
  clear S1 S2 S3 B1 B2 B3 ho hk hW3 xw
  rw [HW3.out] at B1s
  go_wp2_with fail
  rw [← HW3.out]
  refine (toVerdict_c _ _ _ _ _).mono ?_
  rintro e w4 ⟨rfl, x4⟩
  obtain ⟨c3, f3⟩ := (S4.ext x4).cells
  obtain ⟨c2, f2⟩ := (B2s.ext x4).cells
  have ho5 := hos.ext x4
  have x5 := xs.trans x4
  clear B1s B3c B1c B2s S4 hos x4 xs HW3
  go_wp2
  refine bodyPost_ret (v := .agg #[.int .i64 o.kind, .int .i64 o.record.source, .int .i64 o.record.key, .int .i64 o.record.version, .slice A2 o.record.fields.length cap2, .int .i64 o.verdict.a, .int .i64 o.verdict.b, .bool o.verdict.same, .int .i64 o.verdict.time]) (by simp [results, Tryz.results91, go_sem, c2, f2, c3, f3]) rfl ?_
  clear c2 f2 c3 f3
  refine ⟨_, F, rfl, ⟨_, rfl, hok, ?_⟩, hnw, ?_⟩
  · repeat (first | with_reducible exact ho5 | (refine OwnSl.setCell ?_ (fun h9 => by have := hlt _ h9; simp only at this; omega) _))
  · repeat (refine Ext.setCell ?_ (by simp; try omega) _)
    exact x5

theorem Op.eta (x y : Op) : x = y ↔ x.kind = y.kind ∧ x.record = y.record ∧ x.verdict = y.verdict := by
  cases x; cases y; simp
set_option maxHeartbeats 400000 in
set_option maxRecDepth 20000 in
theorem eqOp_c (v u : Value) (x y : Op) (w : World) (h : OpAt w v x) (k : OpAt w u y) :
    Calls Tryz.prog 111 #[v, u] w fun e w2 => e = .returned (.bool (eqB x y)) ∧ Ext w w2 := by
  obtain ⟨f, rfl, hok, hs⟩ := h
  obtain ⟨g, rfl, hok2, hs2⟩ := k
  by_cases h1 : x.kind = y.kind
  · have b1 : (x.kind != y.kind) = false := by simp [h1]
    have H := hid h1
    clear h1
    go_enter Tryz.func111, Tryz.ntmps111
    go_wp2_with fail
    refine (eqRecord_c _ _ x.record y.record _ ⟨_, rfl, hok.2.1, hs.mono (by repeat (first | with_reducible exact Ext.refl _ | with_reducible assumption | with_reducible refine Ext.drew ?_ | with_reducible refine Ext.alloc ?_ _ | (refine Ext.setCell ?_ (by simp) _) | with_reducible refine Ext.trans ?_ (by with_reducible assumption)))⟩ ⟨_, rfl, hok2.2.1, hs2.mono (by repeat (first | with_reducible exact Ext.refl _ | with_reducible assumption | with_reducible refine Ext.drew ?_ | with_reducible refine Ext.alloc ?_ _ | (refine Ext.setCell ?_ (by simp) _) | with_reducible refine Ext.trans ?_ (by with_reducible assumption)))⟩).mono ?_
    rintro e w2 ⟨rfl, x2⟩
    have c1 := x2.box1.1
    have c0 := ((((Ext.refl _).alloc _) : Ext (w.alloc (.cells #[.int .i64 x.kind, .int .i64 x.record.source, .int .i64 x.record.key, .int .i64 x.record.version, f, .int .i64 x.verdict.a, .int .i64 x.verdict.b, .bool x.verdict.same, .int .i64 x.verdict.time] 76)) _).trans x2).box.1
    by_cases h4 : x.record = y.record
    · rw [eqB_true h4]
      have H4 := hid h4
      clear h4
      go_wp2_with fail
      refine (eqVerdict_c x.verdict y.verdict _).mono ?_
      rintro e w3 ⟨rfl, x3⟩
      by_cases h5 : x.verdict = y.verdict
      · rw [eqB_true h5]
        have H5 := hid h5
        clear h5
        go_wp2
        go_ret
        exact ⟨ret_bool (eqB_true ((Op.eta x y).2 ⟨H.out, H4.out, H5.out⟩)).symm, (by repeat (first | with_reducible exact Ext.refl _ | with_reducible assumption | with_reducible refine Ext.drew ?_ | with_reducible refine Ext.alloc ?_ _ | (refine Ext.setCell ?_ (by simp) _) | with_reducible refine Ext.trans ?_ (by with_reducible assumption)))⟩
      · rw [eqB_false h5]
        have H5 := hid h5
        clear h5
        go_wp2
        go_ret
        exact ⟨ret_bool (eqB_false fun e => H5.out (by rw [e])).symm, (by repeat (first | with_reducible exact Ext.refl _ | with_reducible assumption | with_reducible refine Ext.drew ?_ | with_reducible refine Ext.alloc ?_ _ | (refine Ext.setCell ?_ (by simp) _) | with_reducible refine Ext.trans ?_ (by with_reducible assumption)))⟩
    · rw [eqB_false h4]
      have H4 := hid h4
      clear h4
      go_wp2
      go_ret
      exact ⟨ret_bool (eqB_false fun e => H4.out (by rw [e])).symm, (by repeat (first | with_reducible exact Ext.refl _ | with_reducible assumption | with_reducible refine Ext.drew ?_ | with_reducible refine Ext.alloc ?_ _ | (refine Ext.setCell ?_ (by simp) _) | with_reducible refine Ext.trans ?_ (by with_reducible assumption)))⟩
  · have b1 : (x.kind != y.kind) = true := by simp [h1]
    have H := hid h1
    clear h1
    go_enter Tryz.func111, Tryz.ntmps111
    go_wp2
    go_ret
    exact ⟨ret_bool (eqB_false fun e => H.out (by rw [e])).symm, (by repeat (first | with_reducible exact Ext.refl _ | with_reducible assumption | with_reducible refine Ext.drew ?_ | with_reducible refine Ext.alloc ?_ _ | (refine Ext.setCell ?_ (by simp) _) | with_reducible refine Ext.trans ?_ (by with_reducible assumption)))⟩
end Go.Proofs.YtfcbapaojoecgaaGreat
