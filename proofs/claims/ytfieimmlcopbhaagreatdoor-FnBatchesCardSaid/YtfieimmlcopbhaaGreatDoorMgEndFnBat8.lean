/-
  SEVERAL SMALL TEXTS LAID TOGETHER: DrawD, DrawE.
-/
import Derived.Test.YtfieimmlcopbhaaGreatDoorMgEndFnBat0
import Derived.Test.YtfieimmlcopbhaaGreatDoorMgEndFnBat7

namespace Go.Proofs.YtfieimmlcopbhaaGreatDoor
open Go.RowKit

/-- a batch that was drawn -/
def BatAny (w0 w : World) (g : Nat) (p : Batch → Prop) (e : Ending) (w2 : World) : Prop := ∃ v b F, e = .returned (.agg #[v]) ∧ Bld opO w2 w.heap.size 28 v b.ops F ∧ Cur w0 w2 g ∧ Kept g w w2 ∧ p b
theorem Bld.ne_type {α : Type} {R : RepO α} {w : World} {base g : Nat} {e T : TypeId} {v : Value} {xs : List α} {F : List Nat} {cs9 : List Value} (h : Bld R w base e v xs F) (h8 : Blk w g T cs9) (hT : e ≠ T) : v.ownBlock ≠ some g := fun hg => by
  obtain ⟨cs, h1, _⟩ := h
  rcases h1.2 with ⟨rfl, _⟩ | ⟨g', cap, cur, rfl, _, hh, _⟩
  · cases hg
  · injection hg with hg
    subst hg
    have e9 := hh.symm.trans h8.out
    injection e9 with e9
    injection e9 with _ e9 _
    exact hT e9
theorem Bld.ge {α : Type} {R : RepO α} {w : World} {base : Nat} {e : TypeId} {v : Value} {xs : List α} {F : List Nat} (h : Bld R w base e v xs F) : ∀ b ∈ F, base ≤ b := by
  obtain ⟨_, _, _, _, _, h5⟩ := h
  exact h5
theorem Bld.setOther {α : Type} {R : RepO α} {w : World} {base : Nat} {e : TypeId} {v : Value} {xs : List α} {F : List Nat} (h : Bld R w base e v xs F) {p : Addr} (hF : p.block ∉ F) (hv : v.ownBlock ≠ some p.block) (u : Value) : Bld R (w.setCell p u) base e v xs F := by
  obtain ⟨cs, h1, h2, h3, h4, h5⟩ := h
  refine ⟨cs, ⟨h1.1, ?_⟩, h2.keep fun b hb => keep_setCell (fun e => hF (e ▸ hb)), h3, h4, h5⟩
  rcases h1.2 with h | ⟨g', cap, cur, rfl, hb, hh, hr⟩
  · exact .inl h
  · exact .inr ⟨g', cap, cur, rfl, hb, (keep_setCell (fun e => hv (by rw [← e]; rfl))).trans hh, hr⟩
theorem Bld.low {α : Type} {R : RepO α} {w : World} {base base2 : Nat} {e : TypeId} {v : Value} {xs : List α} {F : List Nat} (h : Bld R w base e v xs F) (hb : base2 ≤ base) : Bld R w base2 e v xs F := by
  obtain ⟨cs, h1, h2, h3, h4, h5⟩ := h
  refine ⟨cs, ⟨h1.1, ?_⟩, h2, h3, h4, fun b hb2 => Nat.le_trans hb (h5 b hb2)⟩
  rcases h1.2 with h | ⟨g', cap, cur, e1, e2, e3⟩
  · exact .inl h
  · exact .inr ⟨g', cap, cur, e1, Nat.le_trans hb e2, e3⟩

set_option maxHeartbeats 2000000 in
set_option maxRecDepth 20000 in
theorem spec_l29Batch (w0 w : World) (g : Nat) (hc : Cur w0 w g) :
    Calls Tryz.prog 120 #[.pointer (some ⟨g, 0, none⟩)] w (BatAny w0 w g fun b => b.ops.length ≤ 4 ∧ ∀ o ∈ b.ops, putLen o) := by
  have hg := hc.base.2.2
  have h0g := hc.base.2.1
  have xa : Ext w ((w.alloc (.cells #[.slice none 0 0] 36)).alloc (.cells #[.slice none 0 0] 36)) := ((Ext.refl w).alloc _).alloc _
  have hc0 := hc.ext xa
  have bR0 : Blk ((w.alloc (.cells #[.slice none 0 0] 36)).alloc (.cells #[.slice none 0 0] 36)) w.heap.size 36 [.slice none 0 0] := (Blk.new w 36 #[.slice none 0 0]).ext ((Ext.refl _).alloc (.cells #[.slice none 0 0] 36))
  have bL0 : Blk ((w.alloc (.cells #[.slice none 0 0] 36)).alloc (.cells #[.slice none 0 0] 36)) (w.heap.size + 1) 36 [.slice none 0 0] := by
    have := Blk.new (w.alloc (.cells #[.slice none 0 0] 36)) 36 #[.slice none 0 0]
    rwa [World.size_alloc] at this
  go_enter Tryz.func120, Tryz.ntmps120
  go_wp2_with fail
  refine (spec_l1Below w0 _ g 5 (by decide) hc0).mono ?_
  rintro e w2 ⟨x, rfl, hx, hc2, hk2⟩
  have hg2 := hc2.base.2.2
  obtain ⟨n0, rfl⟩ : ∃ n : Nat, x = n := ⟨x.toNat, by omega⟩
  have bR2 := bR0.kept (by omega) hk2
  have bL2 := bL0.kept (by omega) hk2
  have k2 := xa.kept.trans hk2
  clear hc hc0 bR0 bL0 hk2 xa
  go_wp2
  go_loopw [4] (fun i wr => ∃ (xs : List Op) (F : List Nat) (n : Nat) (v : Value), i = .int .i64 n ∧ xs.length + n ≤ 4 ∧ Bld opO wr (w.heap.size + 2) 28 v xs F ∧ Blk wr (w.heap.size + 1) 36 [v] ∧ Blk wr w.heap.size 36 [.slice none 0 0] ∧ Cur w0 wr g ∧ Kept g w wr ∧ Hid (∀ o ∈ xs, putLen o)) (fun i _ => (intOf i).toNat)
  case atStart => exact ⟨[], [], n0, _, rfl, by simp; omega, Bld.nil _ _ _, bL2, bR2, hc2, k2, hid fun _ h => by cases h⟩
  case round =>
    clear bL2 bR2 hc2 k2 hg2 hx
    obtain ⟨xs, F, n, v, rfl, hn, hB, bL, bR, hc, hk, hp⟩ := hrel
    obtain ⟨F9, od, _, _⟩ := hB.done
    obtain ⟨A, c, e, _⟩ := od.form
    subst e
    clear od
    have sL := block_lt bL
    have hLF : w.heap.size + 1 ∉ F := fun hm => by have := hB.ge _ hm; omega
    by_cases hn0 : 0 < n
    · skip
      have HL := hid (show ∀ W, Kept g wr W → W.cell? ⟨w.heap.size + 1, 0, none⟩ = some (.slice A xs.length c) ∧ Bld opO W (w.heap.size + 2) 28 (.slice A xs.length c) xs F ∧ Blk W (w.heap.size + 1) 36 [.slice A xs.length c] ∧ Blk W w.heap.size 36 [.slice none 0 0] from fun W k => ⟨(bL.kept (by omega) k).cells.1 0, hB.kept (by omega) k, bL.kept (by omega) k, bR.kept (by omega) k⟩)
      have cw : wr.cell? ⟨w.heap.size + 1, 0, none⟩ = some (.slice A xs.length c) := bL.cells.1 0
      have HBr := hid hB
      have hvL : (Value.slice A xs.length c).ownBlock ≠ some (w.heap.size + 1) := hB.ne_type bL (by decide)
      clear hB bL bR
      go_wp2_with fail
      refine wp_region_J 7 (fun w' => w'.cell? ⟨w.heap.size + 1, 0, none⟩ = some (.slice A xs.length c)) (by kernel_rfl) ?_
      refine wpAnyJ_take (i := 0) (v := ?v0a) (by simp only [List.getElem?_toArray, List.getElem?_cons_succ, List.getElem?_cons_zero, Option.some.injEq]; exact rfl) (by kernel_rfl) (by kernel_rfl) (by kernel_rfl) (by kernel_rfl) (by exact fun _ _ _ h => h) (Or.inl ⟨by rfl, fun w9 hS9 => ?hy0a⟩) (by exact cw) ?rest0a
      case hy0a => (try dsimp only at hS9); go_simp <;> with_reducible rfl
      try simp only [Act.put, List.setIfInBounds_toArray, List.set_cons_zero, List.set_cons_succ]
      refine wpAnyJ_take (i := 1) (v := ?v1a) (by simp only [List.getElem?_toArray, List.getElem?_cons_succ, List.getElem?_cons_zero, Option.some.injEq]; exact rfl) (by kernel_rfl) (by kernel_rfl) (by kernel_rfl) (by kernel_rfl) (by exact fun _ _ _ h => h) (Or.inl ⟨by rfl, fun w9 hS9 => ?hy1a⟩) (by exact cw) ?rest1a
      case hy1a => (try dsimp only at hS9); go_simp <;> with_reducible rfl
      try simp only [Act.put, List.setIfInBounds_toArray, List.set_cons_zero, List.set_cons_succ]
      refine wpAnyJ_take (i := 2) (v := ?v2a) (by simp only [List.getElem?_toArray, List.getElem?_cons_succ, List.getElem?_cons_zero, Option.some.injEq]; exact rfl) (by kernel_rfl) (by kernel_rfl) (by kernel_rfl) (by kernel_rfl) (by exact fun _ _ _ h => h) (Or.inl ⟨by rfl, fun w9 hS9 => ?hy2a⟩) (by exact cw) ?rest2a
      case hy2a => (try dsimp only at hS9); go_simp <;> with_reducible rfl
      try simp only [Act.put, List.setIfInBounds_toArray, List.set_cons_zero, List.set_cons_succ]
      refine wpAnyJ_one (i := 3) (by simp only [List.getElem?_toArray, List.getElem?_cons_succ, List.getElem?_cons_zero, Option.some.injEq]; exact rfl) (by kernel_rfl) (fun K hK => ?_)
      go_simp
      refine (spec_l29Op w0 _ g ?hcur).mono ?_
      case hcur => exact (by repeat (first | with_reducible assumption | with_reducible refine Cur.drew ?_ | with_reducible refine Cur.alloc ?_ _))
      rintro e w4 ⟨v4, o, F4, rfl, ⟨f4, rfl, ok4, o4⟩, n4, hc4, hk4, hp4⟩
      obtain ⟨A4, c4, e4, _⟩ := o4.form
      subst e4
      have hk34 : Kept g wr w4 := (Kept.refl g wr).drew.trans hk4
      obtain ⟨cw4, hB4, bL4, bR4⟩ := HL.out w4 hk34
      refine hK _ _ cw4 ?_
      try simp only [Act.put, List.setIfInBounds_toArray, List.set_cons_zero, List.set_cons_succ]
      clear hK K
      refine wpAnyJ_one (i := 4) (by simp only [List.getElem?_toArray, List.getElem?_cons_succ, List.getElem?_cons_zero, Option.some.injEq]; exact rfl) (by kernel_rfl) (fun K hK => ?_)
      go_simp
      have cw5 := (HL.out _ (hk34.alloc (.cells #[.int .i64 o.kind, .int .i64 o.record.source, .int .i64 o.record.key, .int .i64 o.record.version, .slice A4 o.record.fields.length c4, .int .i64 o.verdict.a, .int .i64 o.verdict.b, .bool o.verdict.same, .int .i64 o.verdict.time] 28))).1
      refine hK _ _ cw5 ?_
      try simp only [Act.put, List.setIfInBounds_toArray, List.set_cons_zero, List.set_cons_succ]
      clear hK K
      have hw4 := hk34.1
      have hLF4 : w.heap.size + 1 ∉ F4 := fun h9 => by have h8 : wr.heap.size ≤ w.heap.size + 1 := n4.2 _ h9; omega
      have hfr := HBr.out.fresh (G := F4) (n4.ext (Ext.refl wr).drew) (by omega)
      refine wpAnyJ_one (i := 5) (by simp only [List.getElem?_toArray, List.getElem?_cons_succ, List.getElem?_cons_zero, Option.some.injEq]; exact rfl) (by kernel_rfl) (fun K hK => ?_)
      refine step_app1k (R := opO) elemOp (by decide) rfl _ _ rfl (hB4.ext ((Ext.refl w4).alloc (.cells #[.int .i64 o.kind, .int .i64 o.record.source, .int .i64 o.record.key, .int .i64 o.record.version, .slice A4 o.record.fields.length c4, .int .i64 o.verdict.a, .int .i64 o.verdict.b, .bool o.verdict.same, .int .i64 o.verdict.time] 28))) rfl w4.heap.size 1 rfl (heap_alloc_new w4 (.cells #[.int .i64 o.kind, .int .i64 o.record.source, .int .i64 o.record.key, .int .i64 o.record.version, .slice A4 o.record.fields.length c4, .int .i64 o.verdict.a, .int .i64 o.verdict.b, .bool o.verdict.same, .int .i64 o.verdict.time] 28)) (one_op _ _ _ _) (y := o) (G := F4) ⟨_, rfl, ok4, o4.ext ((Ext.refl w4).alloc (.cells #[.int .i64 o.kind, .int .i64 o.record.source, .int .i64 o.record.key, .int .i64 o.record.version, .slice A4 o.record.fields.length c4, .int .i64 o.verdict.a, .int .i64 o.verdict.b, .bool o.verdict.same, .int .i64 o.verdict.time] 28))⟩ hfr (by omega) (by decide) (by rw [World.size_alloc]; omega) (w0 := w0) (by omega) (hc4.ext ((Ext.refl w4).alloc (.cells #[.int .i64 o.kind, .int .i64 o.record.source, .int .i64 o.record.key, .int .i64 o.record.version, .slice A4 o.record.fields.length c4, .int .i64 o.verdict.a, .int .i64 o.verdict.b, .bool o.verdict.same, .int .i64 o.verdict.time] 28))).base.1 ?_
      intro v9 w9 hB9 hx9 hk9
      obtain ⟨F88, o88, _, _⟩ := hB9.done
      obtain ⟨A9, c9, e9, _⟩ := o88.form
      rw [List.length_append, List.length_singleton] at e9
      subst e9
      clear o88
      have hne : ∀ b, b < w.heap.size + 2 → (Value.slice A xs.length c).ownBlock ≠ some b := fun b hb e9 => by have h9 := (hB4.lt.2 _ e9).2; omega
      have bL9 := (bL4.ext ((Ext.refl w4).alloc (.cells #[.int .i64 o.kind, .int .i64 o.record.source, .int .i64 o.record.key, .int .i64 o.record.version, .slice A4 o.record.fields.length c4, .int .i64 o.verdict.a, .int .i64 o.verdict.b, .bool o.verdict.same, .int .i64 o.verdict.time] 28))).keep (hk9 (w.heap.size + 1) (by rw [World.size_alloc]; omega) hvL)
      have bR9 := (bR4.ext ((Ext.refl w4).alloc (.cells #[.int .i64 o.kind, .int .i64 o.record.source, .int .i64 o.record.key, .int .i64 o.record.version, .slice A4 o.record.fields.length c4, .int .i64 o.verdict.a, .int .i64 o.verdict.b, .bool o.verdict.same, .int .i64 o.verdict.time] 28))).keep (hk9 w.heap.size (by rw [World.size_alloc]; omega) (hne _ (by omega)))
      refine hK _ _ (bL9.cells.1 0) ?_
      try simp only [Act.put, List.setIfInBounds_toArray, List.set_cons_zero, List.set_cons_succ]
      clear hK K
      refine wpAnyJ_one (i := 6) (by simp only [List.getElem?_toArray, List.getElem?_cons_succ, List.getElem?_cons_zero, Option.some.injEq]; exact rfl) (by kernel_rfl) (fun K hK => ?_)
      go_simp
      refine hK _ _ (bL9.cells.1 0) ?_
      try simp only [Act.put, List.setIfInBounds_toArray, List.set_cons_zero, List.set_cons_succ]
      clear hK K
      have fL9 := bL9.cells.2 0
      have cL9 : w9.cell? ⟨w.heap.size + 1, 0, none⟩ = some (.slice A xs.length c) := bL9.cells.1 0
      refine wpAnyJ_last (by simp only [List.getElem?_toArray, List.getElem?_cons_succ, List.getElem?_cons_zero, Option.some.injEq]; exact rfl) (by kernel_rfl) (by kernel_rfl) (fun K hK => ?_)
      go_simp
      refine hK _ _ ?_
      clear hK K fL9 cL9
      have hB10 : Bld opO (w9.setCell ⟨w.heap.size + 1, 0, none⟩ (.slice A9 (xs.length + 1) c9)) (w.heap.size + 2) 28 (.slice A9 (xs.length + 1) c9) (xs ++ [o]) (F ++ F4) := hB9.setOther (fun hm => (List.mem_append.1 hm).elim hLF hLF4) (hB9.ne_type bL9 (by decide)) _
      have bL10 : Blk (w9.setCell ⟨w.heap.size + 1, 0, none⟩ (.slice A9 (xs.length + 1) c9)) (w.heap.size + 1) 36 [.slice A9 (xs.length + 1) c9] := bL9.setAt 0 (by show 0 < 1; decide) _
      have bR10 : Blk (w9.setCell ⟨w.heap.size + 1, 0, none⟩ (.slice A9 (xs.length + 1) c9)) (w.heap.size) 36 [.slice none 0 0] := bR9.other (by omega)
      have hg9 : w9.heap[g]? = (w4.alloc (.cells #[.int .i64 o.kind, .int .i64 o.record.source, .int .i64 o.record.key, .int .i64 o.record.version, .slice A4 o.record.fields.length c4, .int .i64 o.verdict.a, .int .i64 o.verdict.b, .bool o.verdict.same, .int .i64 o.verdict.time] 28)).heap[g]? := hk9 g (by rw [World.size_alloc]; omega) (hne g (by omega))
      have hc10 : Cur w0 (w9.setCell ⟨w.heap.size + 1, 0, none⟩ (.slice A9 (xs.length + 1) c9)) g := ((hc4.ext ((Ext.refl w4).alloc (.cells #[.int .i64 o.kind, .int .i64 o.record.source, .int .i64 o.record.key, .int .i64 o.record.version, .slice A4 o.record.fields.length c4, .int .i64 o.verdict.a, .int .i64 o.verdict.b, .bool o.verdict.same, .int .i64 o.verdict.time] 28))).keep hx9 hg9).setN (by show g < w.heap.size + 1; omega) _
      have hk10 : Kept g w (w9.setCell ⟨w.heap.size + 1, 0, none⟩ (.slice A9 (xs.length + 1) c9)) := Kept.setN (w2 := w9) ⟨by have := block_lt bL9; omega, fun b hb hn9 => (hk9 b (by rw [World.size_alloc]; omega) (hne b (by omega))).trans (((hk.trans hk34).alloc (.cells #[.int .i64 o.kind, .int .i64 o.record.source, .int .i64 o.record.key, .int .i64 o.record.version, .slice A4 o.record.fields.length c4, .int .i64 o.verdict.a, .int .i64 o.verdict.b, .bool o.verdict.same, .int .i64 o.verdict.time] 28)).2 b hb hn9)⟩ (by show w.heap.size ≤ w.heap.size + 1; omega) _
      obtain ⟨W10, hW10⟩ : ∃ W10, W10 = w9.setCell ⟨w.heap.size + 1, 0, none⟩ (.slice A9 (xs.length + 1) c9) := ⟨_, rfl⟩
      rw [← hW10] at hB10 bL10 bR10 hc10 hk10 ⊢
      clear hW10 hB9 bL9 bR9 hk9 hx9 hc4 hk4 o4 hfr hB4 bL4 bR4 cw cw4 cw5 hg9 hc
      go_wp2
      go_roundw
      case rel => exact ⟨xs ++ [o], F ++ F4, n - 1, _, (by (have e9 : ((n - 1 : Nat) : Int) = (n : Int) - 1 := by omega); rw [e9]), (by rw [List.length_append, List.length_singleton]; omega), hB10, bL10, bR10, hc10, hk10, hid fun q hq => (by
        rcases List.mem_append.1 hq with h | h
        · exact hp.out q h
        · rw [List.mem_singleton] at h; subst h; exact hp4)⟩
      case measure => simp [intOf]; omega
    · obtain rfl : n = 0 := by omega
      obtain ⟨cR, fR⟩ := bR.cells
      have cL : wr.cell? ⟨w.heap.size + 1, 0, none⟩ = some (.slice A xs.length c) := bL.cells.1 0
      have b9 : Blk (wr.setCell ⟨w.heap.size, 0, none⟩ (.slice A xs.length c)) w.heap.size 36 [.slice A xs.length c] := bR.setAt 0 (by show 0 < 1; decide) _
      have r0 : (wr.setCell ⟨w.heap.size, 0, none⟩ (.slice A xs.length c)).cell? ⟨w.heap.size, 0, none⟩ = some (.slice A xs.length c) := b9.cells.1 0
      have o9 : Bld opO (wr.setCell ⟨w.heap.size, 0, none⟩ (.slice A xs.length c)) w.heap.size 28 (.slice A xs.length c) xs F := (hB.keep fun b hb _ => keep_setCell (fun e => by simp only at e; omega)).low (by omega)
      have c9 : Cur w0 (wr.setCell ⟨w.heap.size, 0, none⟩ (.slice A xs.length c)) g := hc.setN hg _
      have k9 : Kept g w (wr.setCell ⟨w.heap.size, 0, none⟩ (.slice A xs.length c)) := hk.setN (Nat.le_refl _) _
      have hlen := hid (show xs.length ≤ 4 by omega)
      clear hB bL b9
      go_wp2
      refine bodyPost_ret (v := .agg #[.slice A xs.length c]) (by simp [results, Tryz.results120, go_sem, r0]) rfl ?_
      exact ⟨_, ⟨xs⟩, F, rfl, o9, c9, k9, hlen.out, hp.out⟩

end Go.Proofs.YtfieimmlcopbhaaGreatDoor

namespace Go.Proofs.YtfieimmlcopbhaaGreatDoor
open Go.RowKit

set_option maxHeartbeats 4000000 in
set_option maxRecDepth 20000 in
theorem spec_l29Batches (w0 w : World) (g : Nat) (hc : Cur w0 w g) :
    Calls Tryz.prog 76 #[.pointer (some ⟨g, 0, none⟩)] w (BatAny w0 w g fun b => b.ops.length ≤ 8) := by
  have hg := hc.base.2.2
  have h0g := hc.base.2.1
  have xa : Ext w (w.alloc (.cells #[.slice none 0 0] 36)) := (Ext.refl w).alloc _
  have hc0 := hc.ext xa
  have bR0 : Blk (w.alloc (.cells #[.slice none 0 0] 36)) w.heap.size 36 [.slice none 0 0] := Blk.new w 36 #[.slice none 0 0]
  go_enter Tryz.func76, Tryz.ntmps76
  go_wp2_with fail
  refine (spec_l29Batch w0 _ g hc0).mono ?_
  rintro e w2 ⟨v, ⟨xs⟩, F, rfl, hB, hc2, hk2, hl, _⟩
  dsimp only at hB hl
  rw [World.size_alloc] at hB
  obtain ⟨F9, od, _, _⟩ := hB.done
  obtain ⟨A, c, e, _⟩ := od.form
  subst e
  clear od
  have hk02 := xa.kept.trans hk2
  have bR2 := bR0.kept (by omega) hk2
  have sR2 := block_lt bR2
  have bL2 : Blk (w2.alloc (.cells #[.slice A xs.length c] 36)) w2.heap.size 36 [.slice A xs.length c] := Blk.new w2 36 #[.slice A xs.length c]
  have bR2b := bR2.ext ((Ext.refl w2).alloc (.cells #[.slice A xs.length c] 36))
  have hB2 := hB.ext ((Ext.refl w2).alloc (.cells #[.slice A xs.length c] 36))
  have hc2b := hc2.ext ((Ext.refl w2).alloc (.cells #[.slice A xs.length c] 36))
  have hk2b := hk02.alloc (.cells #[.slice A xs.length c] 36)
  have hBlt := hB.lt
  clear hc hc0 bR0 hc2 hk2 hk02 bR2 hB xa
  go_wp2_with fail
  refine (spec_l1Below w0 _ g 14 (by decide) hc2b).mono ?_
  rintro e w3 ⟨x, rfl, hx, hc3, hk3⟩
  have hg3 := hc3.base.2.2
  have bL3 := bL2.kept (Nat.ne_of_gt (by omega)) hk3
  have bR3 := bR2b.kept (Nat.ne_of_gt hg) hk3
  have hB3 := hB2.kept (by omega) hk3
  have hk03 := hk2b.trans hk3
  have hLF : w2.heap.size ∉ F := fun hm => by have := hBlt.1 _ hm; omega
  clear bL2 bR2b hc2b hk2b hk3 hB2 hBlt
  by_cases h0 : x = 0
  · subst h0
    obtain ⟨wr, hwr⟩ : ∃ wr, wr = w3 := ⟨_, rfl⟩
    rw [← hwr] at bL3 bR3 hB3 hk03 hc3 hg3 ⊢
    clear hwr
    have bL := bL3
    have bR := bR3
    have hB := hB3
    have hc := hc3
    have hk := hk03
    have sL := block_lt bL
    clear bL3 bR3 hB3 hc3 hk03
    have HL := hid (show ∀ W, Kept g wr W → W.cell? ⟨w2.heap.size, 0, none⟩ = some (.slice A xs.length c) ∧ Bld opO W (w.heap.size + 1) 28 (.slice A xs.length c) xs F ∧ Blk W (w2.heap.size) 36 [.slice A xs.length c] ∧ Blk W w.heap.size 36 [.slice none 0 0] from fun W k => ⟨(bL.kept (by omega) k).cells.1 0, hB.kept (by omega) k, bL.kept (by omega) k, bR.kept (by omega) k⟩)
    have cw : wr.cell? ⟨w2.heap.size, 0, none⟩ = some (.slice A xs.length c) := bL.cells.1 0
    have HBr := hid hB
    have hvL : (Value.slice A xs.length c).ownBlock ≠ some (w2.heap.size) := hB.ne_type bL (by decide)
    clear hB bL bR
    go_wp2_with fail
    refine wp_region_J 7 (fun w' => w'.cell? ⟨w2.heap.size, 0, none⟩ = some (.slice A xs.length c)) (by kernel_rfl) ?_
    refine wpAnyJ_take (i := 0) (v := ?v0a) (by simp only [List.getElem?_toArray, List.getElem?_cons_succ, List.getElem?_cons_zero, Option.some.injEq]; exact rfl) (by kernel_rfl) (by kernel_rfl) (by kernel_rfl) (by kernel_rfl) (by exact fun _ _ _ h => h) (Or.inl ⟨by rfl, fun w9 hS9 => ?hy0a⟩) (by exact cw) ?rest0a
    case hy0a => (try dsimp only at hS9); go_simp <;> with_reducible rfl
    try simp only [Act.put, List.setIfInBounds_toArray, List.set_cons_zero, List.set_cons_succ]
    refine wpAnyJ_take (i := 1) (v := ?v1a) (by simp only [List.getElem?_toArray, List.getElem?_cons_succ, List.getElem?_cons_zero, Option.some.injEq]; exact rfl) (by kernel_rfl) (by kernel_rfl) (by kernel_rfl) (by kernel_rfl) (by exact fun _ _ _ h => h) (Or.inl ⟨by rfl, fun w9 hS9 => ?hy1a⟩) (by exact cw) ?rest1a
    case hy1a => (try dsimp only at hS9); go_simp <;> with_reducible rfl
    try simp only [Act.put, List.setIfInBounds_toArray, List.set_cons_zero, List.set_cons_succ]
    refine wpAnyJ_take (i := 2) (v := ?v2a) (by simp only [List.getElem?_toArray, List.getElem?_cons_succ, List.getElem?_cons_zero, Option.some.injEq]; exact rfl) (by kernel_rfl) (by kernel_rfl) (by kernel_rfl) (by kernel_rfl) (by exact fun _ _ _ h => h) (Or.inl ⟨by rfl, fun w9 hS9 => ?hy2a⟩) (by exact cw) ?rest2a
    case hy2a => (try dsimp only at hS9); go_simp <;> with_reducible rfl
    try simp only [Act.put, List.setIfInBounds_toArray, List.set_cons_zero, List.set_cons_succ]
    refine wpAnyJ_one (i := 3) (by simp only [List.getElem?_toArray, List.getElem?_cons_succ, List.getElem?_cons_zero, Option.some.injEq]; exact rfl) (by kernel_rfl) (fun K hK => ?_)
    go_simp
    refine (spec_l29Any w0 _ g ?hcur).mono ?_
    case hcur => exact (by repeat (first | with_reducible assumption | with_reducible refine Cur.drew ?_ | with_reducible refine Cur.alloc ?_ _))
    rintro e w4 ⟨v4, o, F4, rfl, ⟨f4, rfl, ok4, o4⟩, n4, hc4, hk4, _⟩
    obtain ⟨A4, c4, e4, _⟩ := o4.form
    subst e4
    have hk34 : Kept g wr w4 := (Kept.refl g wr).drew.trans hk4
    obtain ⟨cw4, hB4, bL4, bR4⟩ := HL.out w4 hk34
    refine hK _ _ cw4 ?_
    try simp only [Act.put, List.setIfInBounds_toArray, List.set_cons_zero, List.set_cons_succ]
    clear hK K
    refine wpAnyJ_one (i := 4) (by simp only [List.getElem?_toArray, List.getElem?_cons_succ, List.getElem?_cons_zero, Option.some.injEq]; exact rfl) (by kernel_rfl) (fun K hK => ?_)
    go_simp
    have cw5 := (HL.out _ (hk34.alloc (.cells #[.int .i64 o.kind, .int .i64 o.record.source, .int .i64 o.record.key, .int .i64 o.record.version, .slice A4 o.record.fields.length c4, .int .i64 o.verdict.a, .int .i64 o.verdict.b, .bool o.verdict.same, .int .i64 o.verdict.time] 28))).1
    refine hK _ _ cw5 ?_
    try simp only [Act.put, List.setIfInBounds_toArray, List.set_cons_zero, List.set_cons_succ]
    clear hK K
    have hw4 := hk34.1
    have hLF4 : w2.heap.size ∉ F4 := fun h9 => by have h8 : wr.heap.size ≤ w2.heap.size := n4.2 _ h9; omega
    have hfr := HBr.out.fresh (G := F4) (n4.ext (Ext.refl wr).drew) (by omega)
    refine wpAnyJ_one (i := 5) (by simp only [List.getElem?_toArray, List.getElem?_cons_succ, List.getElem?_cons_zero, Option.some.injEq]; exact rfl) (by kernel_rfl) (fun K hK => ?_)
    refine step_app1k (R := opO) elemOp (by decide) rfl _ _ rfl (hB4.ext ((Ext.refl w4).alloc (.cells #[.int .i64 o.kind, .int .i64 o.record.source, .int .i64 o.record.key, .int .i64 o.record.version, .slice A4 o.record.fields.length c4, .int .i64 o.verdict.a, .int .i64 o.verdict.b, .bool o.verdict.same, .int .i64 o.verdict.time] 28))) rfl w4.heap.size 1 rfl (heap_alloc_new w4 (.cells #[.int .i64 o.kind, .int .i64 o.record.source, .int .i64 o.record.key, .int .i64 o.record.version, .slice A4 o.record.fields.length c4, .int .i64 o.verdict.a, .int .i64 o.verdict.b, .bool o.verdict.same, .int .i64 o.verdict.time] 28)) (one_op _ _ _ _) (y := o) (G := F4) ⟨_, rfl, ok4, o4.ext ((Ext.refl w4).alloc (.cells #[.int .i64 o.kind, .int .i64 o.record.source, .int .i64 o.record.key, .int .i64 o.record.version, .slice A4 o.record.fields.length c4, .int .i64 o.verdict.a, .int .i64 o.verdict.b, .bool o.verdict.same, .int .i64 o.verdict.time] 28))⟩ hfr (by omega) (by decide) (by rw [World.size_alloc]; omega) (w0 := w0) (by omega) (hc4.ext ((Ext.refl w4).alloc (.cells #[.int .i64 o.kind, .int .i64 o.record.source, .int .i64 o.record.key, .int .i64 o.record.version, .slice A4 o.record.fields.length c4, .int .i64 o.verdict.a, .int .i64 o.verdict.b, .bool o.verdict.same, .int .i64 o.verdict.time] 28))).base.1 ?_
    intro v9 w9 hB9 hx9 hk9
    obtain ⟨F88, o88, _, _⟩ := hB9.done
    obtain ⟨A9, c9, e9, _⟩ := o88.form
    rw [List.length_append, List.length_singleton] at e9
    subst e9
    clear o88
    have hne : ∀ b, b < w.heap.size + 1 → (Value.slice A xs.length c).ownBlock ≠ some b := fun b hb e9 => by have h9 := (hB4.lt.2 _ e9).2; omega
    have bL9 := (bL4.ext ((Ext.refl w4).alloc (.cells #[.int .i64 o.kind, .int .i64 o.record.source, .int .i64 o.record.key, .int .i64 o.record.version, .slice A4 o.record.fields.length c4, .int .i64 o.verdict.a, .int .i64 o.verdict.b, .bool o.verdict.same, .int .i64 o.verdict.time] 28))).keep (hk9 (w2.heap.size) (by rw [World.size_alloc]; omega) hvL)
    have bR9 := (bR4.ext ((Ext.refl w4).alloc (.cells #[.int .i64 o.kind, .int .i64 o.record.source, .int .i64 o.record.key, .int .i64 o.record.version, .slice A4 o.record.fields.length c4, .int .i64 o.verdict.a, .int .i64 o.verdict.b, .bool o.verdict.same, .int .i64 o.verdict.time] 28))).keep (hk9 w.heap.size (by rw [World.size_alloc]; omega) (hne _ (by omega)))
    refine hK _ _ (bL9.cells.1 0) ?_
    try simp only [Act.put, List.setIfInBounds_toArray, List.set_cons_zero, List.set_cons_succ]
    clear hK K
    refine wpAnyJ_one (i := 6) (by simp only [List.getElem?_toArray, List.getElem?_cons_succ, List.getElem?_cons_zero, Option.some.injEq]; exact rfl) (by kernel_rfl) (fun K hK => ?_)
    go_simp
    refine hK _ _ (bL9.cells.1 0) ?_
    try simp only [Act.put, List.setIfInBounds_toArray, List.set_cons_zero, List.set_cons_succ]
    clear hK K
    have fL9 := bL9.cells.2 0
    have cL9 : w9.cell? ⟨w2.heap.size, 0, none⟩ = some (.slice A xs.length c) := bL9.cells.1 0
    refine wpAnyJ_last (by simp only [List.getElem?_toArray, List.getElem?_cons_succ, List.getElem?_cons_zero, Option.some.injEq]; exact rfl) (by kernel_rfl) (by kernel_rfl) (fun K hK => ?_)
    go_simp
    refine hK _ _ ?_
    clear hK K fL9 cL9
    have hB10 : Bld opO (w9.setCell ⟨w2.heap.size, 0, none⟩ (.slice A9 (xs.length + 1) c9)) (w.heap.size + 1) 28 (.slice A9 (xs.length + 1) c9) (xs ++ [o]) (F ++ F4) := hB9.setOther (fun hm => (List.mem_append.1 hm).elim hLF hLF4) (hB9.ne_type bL9 (by decide)) _
    have bL10 : Blk (w9.setCell ⟨w2.heap.size, 0, none⟩ (.slice A9 (xs.length + 1) c9)) (w2.heap.size) 36 [.slice A9 (xs.length + 1) c9] := bL9.setAt 0 (by show 0 < 1; decide) _
    have bR10 : Blk (w9.setCell ⟨w2.heap.size, 0, none⟩ (.slice A9 (xs.length + 1) c9)) (w.heap.size) 36 [.slice none 0 0] := bR9.other (by omega)
    have hg9 : w9.heap[g]? = (w4.alloc (.cells #[.int .i64 o.kind, .int .i64 o.record.source, .int .i64 o.record.key, .int .i64 o.record.version, .slice A4 o.record.fields.length c4, .int .i64 o.verdict.a, .int .i64 o.verdict.b, .bool o.verdict.same, .int .i64 o.verdict.time] 28)).heap[g]? := hk9 g (by rw [World.size_alloc]; omega) (hne g (by omega))
    have hc10 : Cur w0 (w9.setCell ⟨w2.heap.size, 0, none⟩ (.slice A9 (xs.length + 1) c9)) g := ((hc4.ext ((Ext.refl w4).alloc (.cells #[.int .i64 o.kind, .int .i64 o.record.source, .int .i64 o.record.key, .int .i64 o.record.version, .slice A4 o.record.fields.length c4, .int .i64 o.verdict.a, .int .i64 o.verdict.b, .bool o.verdict.same, .int .i64 o.verdict.time] 28))).keep hx9 hg9).setN (by show g < w2.heap.size; omega) _
    have hk10 : Kept g w (w9.setCell ⟨w2.heap.size, 0, none⟩ (.slice A9 (xs.length + 1) c9)) := Kept.setN (w2 := w9) ⟨by have := block_lt bL9; omega, fun b hb hn9 => (hk9 b (by rw [World.size_alloc]; omega) (hne b (by omega))).trans (((hk.trans hk34).alloc (.cells #[.int .i64 o.kind, .int .i64 o.record.source, .int .i64 o.record.key, .int .i64 o.record.version, .slice A4 o.record.fields.length c4, .int .i64 o.verdict.a, .int .i64 o.verdict.b, .bool o.verdict.same, .int .i64 o.verdict.time] 28)).2 b hb hn9)⟩ (by show w.heap.size ≤ w2.heap.size; omega) _
    obtain ⟨W10, hW10⟩ : ∃ W10, W10 = w9.setCell ⟨w2.heap.size, 0, none⟩ (.slice A9 (xs.length + 1) c9) := ⟨_, rfl⟩
    rw [← hW10] at hB10 bL10 bR10 hc10 hk10 ⊢
    clear hW10 hB9 bL9 bR9 hk9 hx9 hc4 hk4 o4 hfr hB4 bL4 bR4 cw cw4 cw5 hg9 hc
    have cL10 : W10.cell? ⟨w2.heap.size, 0, none⟩ = some (.slice A9 (xs.length + 1) c9) := bL10.cells.1 0
    obtain ⟨cR, fR⟩ := bR10.cells
    have cL : W10.cell? ⟨w2.heap.size, 0, none⟩ = some (.slice A9 (xs.length + 1) c9) := bL10.cells.1 0
    have b9 : Blk (W10.setCell ⟨w.heap.size, 0, none⟩ (.slice A9 (xs.length + 1) c9)) w.heap.size 36 [.slice A9 (xs.length + 1) c9] := bR10.setAt 0 (by show 0 < 1; decide) _
    have r0 : (W10.setCell ⟨w.heap.size, 0, none⟩ (.slice A9 (xs.length + 1) c9)).cell? ⟨w.heap.size, 0, none⟩ = some (.slice A9 (xs.length + 1) c9) := b9.cells.1 0
    have o9 : Bld opO (W10.setCell ⟨w.heap.size, 0, none⟩ (.slice A9 (xs.length + 1) c9)) w.heap.size 28 (.slice A9 (xs.length + 1) c9) (xs ++ [o]) (F ++ F4) := (hB10.keep fun b hb _ => keep_setCell (fun e => by simp only at e; omega)).low (by omega)
    have cF9 : Cur w0 (W10.setCell ⟨w.heap.size, 0, none⟩ (.slice A9 (xs.length + 1) c9)) g := hc10.setN hg _
    have kF9 : Kept g w (W10.setCell ⟨w.heap.size, 0, none⟩ (.slice A9 (xs.length + 1) c9)) := hk10.setN (Nat.le_refl _) _
    have HLEN := hid (show ((xs ++ [o])).length ≤ 8 by rw [List.length_append, List.length_singleton]; omega)
    clear hB10 bL10 b9
    go_wp2
    refine bodyPost_ret (v := .agg #[.slice A9 (xs.length + 1) c9]) (by simp [results, Tryz.results76, go_sem, r0]) rfl ?_
    exact ⟨_, ⟨(xs ++ [o])⟩, (F ++ F4), rfl, o9, cF9, kF9, HLEN.out⟩
  · by_cases h1 : x = 1
    · subst h1
      go_wp2
      go_loopg [] 7 (fun k wr => ∃ (xs : List Op) (F : List Nat) (v : Value), 7 ≤ xs.length + k ∧ xs.length ≤ 8 ∧ Bld opO wr (w.heap.size + 1) 28 v xs F ∧ Blk wr w2.heap.size 36 [v] ∧ Blk wr w.heap.size 36 [.slice none 0 0] ∧ Cur w0 wr g ∧ Kept g w wr ∧ w2.heap.size ∉ F)
      case atStart => exact ⟨xs, F, _, by omega, by omega, hB3, bL3, bR3, hc3, hk03, hLF⟩
      case round =>
        clear bL3 bR3 hB3 hc3 hk03 hLF hl hg3
        obtain ⟨xs, F, v, h7, hl, hB, bL, bR, hc, hk, hLF⟩ := hrel
        obtain ⟨F9, od, _, _⟩ := hB.done
        obtain ⟨A, c, e, _⟩ := od.form
        subst e
        clear od
        have sL := block_lt bL
        have cLr : wr.cell? ⟨w2.heap.size, 0, none⟩ = some (.slice A xs.length c) := bL.cells.1 0
        by_cases hlt : xs.length < 7
        · have hlt' : (xs.length : Int) < 7 := by omega
          have HL := hid (show ∀ W, Kept g wr W → W.cell? ⟨w2.heap.size, 0, none⟩ = some (.slice A xs.length c) ∧ Bld opO W (w.heap.size + 1) 28 (.slice A xs.length c) xs F ∧ Blk W (w2.heap.size) 36 [.slice A xs.length c] ∧ Blk W w.heap.size 36 [.slice none 0 0] from fun W k => ⟨(bL.kept (by omega) k).cells.1 0, hB.kept (by omega) k, bL.kept (by omega) k, bR.kept (by omega) k⟩)
          have cw : wr.cell? ⟨w2.heap.size, 0, none⟩ = some (.slice A xs.length c) := bL.cells.1 0
          have HBr := hid hB
          have hvL : (Value.slice A xs.length c).ownBlock ≠ some (w2.heap.size) := hB.ne_type bL (by decide)
          clear hB bL bR
          go_wp2_with fail
          refine wp_region_J 7 (fun w' => w'.cell? ⟨w2.heap.size, 0, none⟩ = some (.slice A xs.length c)) (by kernel_rfl) ?_
          refine wpAnyJ_take (i := 0) (v := ?v0b) (by simp only [List.getElem?_toArray, List.getElem?_cons_succ, List.getElem?_cons_zero, Option.some.injEq]; exact rfl) (by kernel_rfl) (by kernel_rfl) (by kernel_rfl) (by kernel_rfl) (by exact fun _ _ _ h => h) (Or.inl ⟨by rfl, fun w9 hS9 => ?hy0b⟩) (by exact cw) ?rest0b
          case hy0b => (try dsimp only at hS9); go_simp <;> with_reducible rfl
          try simp only [Act.put, List.setIfInBounds_toArray, List.set_cons_zero, List.set_cons_succ]
          refine wpAnyJ_take (i := 1) (v := ?v1b) (by simp only [List.getElem?_toArray, List.getElem?_cons_succ, List.getElem?_cons_zero, Option.some.injEq]; exact rfl) (by kernel_rfl) (by kernel_rfl) (by kernel_rfl) (by kernel_rfl) (by exact fun _ _ _ h => h) (Or.inl ⟨by rfl, fun w9 hS9 => ?hy1b⟩) (by exact cw) ?rest1b
          case hy1b => (try dsimp only at hS9); go_simp <;> with_reducible rfl
          try simp only [Act.put, List.setIfInBounds_toArray, List.set_cons_zero, List.set_cons_succ]
          refine wpAnyJ_take (i := 2) (v := ?v2b) (by simp only [List.getElem?_toArray, List.getElem?_cons_succ, List.getElem?_cons_zero, Option.some.injEq]; exact rfl) (by kernel_rfl) (by kernel_rfl) (by kernel_rfl) (by kernel_rfl) (by exact fun _ _ _ h => h) (Or.inl ⟨by rfl, fun w9 hS9 => ?hy2b⟩) (by exact cw) ?rest2b
          case hy2b => (try dsimp only at hS9); go_simp <;> with_reducible rfl
          try simp only [Act.put, List.setIfInBounds_toArray, List.set_cons_zero, List.set_cons_succ]
          refine wpAnyJ_one (i := 3) (by simp only [List.getElem?_toArray, List.getElem?_cons_succ, List.getElem?_cons_zero, Option.some.injEq]; exact rfl) (by kernel_rfl) (fun K hK => ?_)
          go_simp
          refine (spec_l29Op w0 _ g ?hcur).mono ?_
          case hcur => exact (by repeat (first | with_reducible assumption | with_reducible refine Cur.drew ?_ | with_reducible refine Cur.alloc ?_ _))
          rintro e w4 ⟨v4, o, F4, rfl, ⟨f4, rfl, ok4, o4⟩, n4, hc4, hk4, _⟩
          obtain ⟨A4, c4, e4, _⟩ := o4.form
          subst e4
          have hk34 : Kept g wr w4 := (Kept.refl g wr).drew.trans hk4
          obtain ⟨cw4, hB4, bL4, bR4⟩ := HL.out w4 hk34
          refine hK _ _ cw4 ?_
          try simp only [Act.put, List.setIfInBounds_toArray, List.set_cons_zero, List.set_cons_succ]
          clear hK K
          refine wpAnyJ_one (i := 4) (by simp only [List.getElem?_toArray, List.getElem?_cons_succ, List.getElem?_cons_zero, Option.some.injEq]; exact rfl) (by kernel_rfl) (fun K hK => ?_)
          go_simp
          have cw5 := (HL.out _ (hk34.alloc (.cells #[.int .i64 o.kind, .int .i64 o.record.source, .int .i64 o.record.key, .int .i64 o.record.version, .slice A4 o.record.fields.length c4, .int .i64 o.verdict.a, .int .i64 o.verdict.b, .bool o.verdict.same, .int .i64 o.verdict.time] 28))).1
          refine hK _ _ cw5 ?_
          try simp only [Act.put, List.setIfInBounds_toArray, List.set_cons_zero, List.set_cons_succ]
          clear hK K
          have hw4 := hk34.1
          have hLF4 : w2.heap.size ∉ F4 := fun h9 => by have h8 : wr.heap.size ≤ w2.heap.size := n4.2 _ h9; omega
          have hfr := HBr.out.fresh (G := F4) (n4.ext (Ext.refl wr).drew) (by omega)
          refine wpAnyJ_one (i := 5) (by simp only [List.getElem?_toArray, List.getElem?_cons_succ, List.getElem?_cons_zero, Option.some.injEq]; exact rfl) (by kernel_rfl) (fun K hK => ?_)
          refine step_app1k (R := opO) elemOp (by decide) rfl _ _ rfl (hB4.ext ((Ext.refl w4).alloc (.cells #[.int .i64 o.kind, .int .i64 o.record.source, .int .i64 o.record.key, .int .i64 o.record.version, .slice A4 o.record.fields.length c4, .int .i64 o.verdict.a, .int .i64 o.verdict.b, .bool o.verdict.same, .int .i64 o.verdict.time] 28))) rfl w4.heap.size 1 rfl (heap_alloc_new w4 (.cells #[.int .i64 o.kind, .int .i64 o.record.source, .int .i64 o.record.key, .int .i64 o.record.version, .slice A4 o.record.fields.length c4, .int .i64 o.verdict.a, .int .i64 o.verdict.b, .bool o.verdict.same, .int .i64 o.verdict.time] 28)) (one_op _ _ _ _) (y := o) (G := F4) ⟨_, rfl, ok4, o4.ext ((Ext.refl w4).alloc (.cells #[.int .i64 o.kind, .int .i64 o.record.source, .int .i64 o.record.key, .int .i64 o.record.version, .slice A4 o.record.fields.length c4, .int .i64 o.verdict.a, .int .i64 o.verdict.b, .bool o.verdict.same, .int .i64 o.verdict.time] 28))⟩ hfr (by omega) (by decide) (by rw [World.size_alloc]; omega) (w0 := w0) (by omega) (hc4.ext ((Ext.refl w4).alloc (.cells #[.int .i64 o.kind, .int .i64 o.record.source, .int .i64 o.record.key, .int .i64 o.record.version, .slice A4 o.record.fields.length c4, .int .i64 o.verdict.a, .int .i64 o.verdict.b, .bool o.verdict.same, .int .i64 o.verdict.time] 28))).base.1 ?_
          intro v9 w9 hB9 hx9 hk9
          obtain ⟨F88, o88, _, _⟩ := hB9.done
          obtain ⟨A9, c9, e9, _⟩ := o88.form
          rw [List.length_append, List.length_singleton] at e9
          subst e9
          clear o88
          have hne : ∀ b, b < w.heap.size + 1 → (Value.slice A xs.length c).ownBlock ≠ some b := fun b hb e9 => by have h9 := (hB4.lt.2 _ e9).2; omega
          have bL9 := (bL4.ext ((Ext.refl w4).alloc (.cells #[.int .i64 o.kind, .int .i64 o.record.source, .int .i64 o.record.key, .int .i64 o.record.version, .slice A4 o.record.fields.length c4, .int .i64 o.verdict.a, .int .i64 o.verdict.b, .bool o.verdict.same, .int .i64 o.verdict.time] 28))).keep (hk9 (w2.heap.size) (by rw [World.size_alloc]; omega) hvL)
          have bR9 := (bR4.ext ((Ext.refl w4).alloc (.cells #[.int .i64 o.kind, .int .i64 o.record.source, .int .i64 o.record.key, .int .i64 o.record.version, .slice A4 o.record.fields.length c4, .int .i64 o.verdict.a, .int .i64 o.verdict.b, .bool o.verdict.same, .int .i64 o.verdict.time] 28))).keep (hk9 w.heap.size (by rw [World.size_alloc]; omega) (hne _ (by omega)))
          refine hK _ _ (bL9.cells.1 0) ?_
          try simp only [Act.put, List.setIfInBounds_toArray, List.set_cons_zero, List.set_cons_succ]
          clear hK K
          refine wpAnyJ_one (i := 6) (by simp only [List.getElem?_toArray, List.getElem?_cons_succ, List.getElem?_cons_zero, Option.some.injEq]; exact rfl) (by kernel_rfl) (fun K hK => ?_)
          go_simp
          refine hK _ _ (bL9.cells.1 0) ?_
          try simp only [Act.put, List.setIfInBounds_toArray, List.set_cons_zero, List.set_cons_succ]
          clear hK K
          have fL9 := bL9.cells.2 0
          have cL9 : w9.cell? ⟨w2.heap.size, 0, none⟩ = some (.slice A xs.length c) := bL9.cells.1 0
          refine wpAnyJ_last (by simp only [List.getElem?_toArray, List.getElem?_cons_succ, List.getElem?_cons_zero, Option.some.injEq]; exact rfl) (by kernel_rfl) (by kernel_rfl) (fun K hK => ?_)
          go_simp
          refine hK _ _ ?_
          clear hK K fL9 cL9
          have hB10 : Bld opO (w9.setCell ⟨w2.heap.size, 0, none⟩ (.slice A9 (xs.length + 1) c9)) (w.heap.size + 1) 28 (.slice A9 (xs.length + 1) c9) (xs ++ [o]) (F ++ F4) := hB9.setOther (fun hm => (List.mem_append.1 hm).elim hLF hLF4) (hB9.ne_type bL9 (by decide)) _
          have bL10 : Blk (w9.setCell ⟨w2.heap.size, 0, none⟩ (.slice A9 (xs.length + 1) c9)) (w2.heap.size) 36 [.slice A9 (xs.length + 1) c9] := bL9.setAt 0 (by show 0 < 1; decide) _
          have bR10 : Blk (w9.setCell ⟨w2.heap.size, 0, none⟩ (.slice A9 (xs.length + 1) c9)) (w.heap.size) 36 [.slice none 0 0] := bR9.other (by omega)
          have hg9 : w9.heap[g]? = (w4.alloc (.cells #[.int .i64 o.kind, .int .i64 o.record.source, .int .i64 o.record.key, .int .i64 o.record.version, .slice A4 o.record.fields.length c4, .int .i64 o.verdict.a, .int .i64 o.verdict.b, .bool o.verdict.same, .int .i64 o.verdict.time] 28)).heap[g]? := hk9 g (by rw [World.size_alloc]; omega) (hne g (by omega))
          have hc10 : Cur w0 (w9.setCell ⟨w2.heap.size, 0, none⟩ (.slice A9 (xs.length + 1) c9)) g := ((hc4.ext ((Ext.refl w4).alloc (.cells #[.int .i64 o.kind, .int .i64 o.record.source, .int .i64 o.record.key, .int .i64 o.record.version, .slice A4 o.record.fields.length c4, .int .i64 o.verdict.a, .int .i64 o.verdict.b, .bool o.verdict.same, .int .i64 o.verdict.time] 28))).keep hx9 hg9).setN (by show g < w2.heap.size; omega) _
          have hk10 : Kept g w (w9.setCell ⟨w2.heap.size, 0, none⟩ (.slice A9 (xs.length + 1) c9)) := Kept.setN (w2 := w9) ⟨by have := block_lt bL9; omega, fun b hb hn9 => (hk9 b (by rw [World.size_alloc]; omega) (hne b (by omega))).trans (((hk.trans hk34).alloc (.cells #[.int .i64 o.kind, .int .i64 o.record.source, .int .i64 o.record.key, .int .i64 o.record.version, .slice A4 o.record.fields.length c4, .int .i64 o.verdict.a, .int .i64 o.verdict.b, .bool o.verdict.same, .int .i64 o.verdict.time] 28)).2 b hb hn9)⟩ (by show w.heap.size ≤ w2.heap.size; omega) _
          obtain ⟨W10, hW10⟩ : ∃ W10, W10 = w9.setCell ⟨w2.heap.size, 0, none⟩ (.slice A9 (xs.length + 1) c9) := ⟨_, rfl⟩
          rw [← hW10] at hB10 bL10 bR10 hc10 hk10 ⊢
          clear hW10 hB9 bL9 bR9 hk9 hx9 hc4 hk4 o4 hfr hB4 bL4 bR4 cw cw4 cw5 hg9 hc
          go_wp2
          go_roundg (gk - 1)
          case measure => omega
          case rel => exact ⟨xs ++ [o], F ++ F4, _, by rw [List.length_append, List.length_singleton]; omega, by rw [List.length_append, List.length_singleton]; omega, hB10, bL10, bR10, hc10, hk10, fun hm => (List.mem_append.1 hm).elim hLF hLF4⟩
        · have hlt' : ¬ (xs.length : Int) < 7 := by omega
          have HLT := hid hlt
          clear hlt
          obtain ⟨cR, fR⟩ := bR.cells
          have cL : wr.cell? ⟨w2.heap.size, 0, none⟩ = some (.slice A xs.length c) := bL.cells.1 0
          have b9 : Blk (wr.setCell ⟨w.heap.size, 0, none⟩ (.slice A xs.length c)) w.heap.size 36 [.slice A xs.length c] := bR.setAt 0 (by show 0 < 1; decide) _
          have r0 : (wr.setCell ⟨w.heap.size, 0, none⟩ (.slice A xs.length c)).cell? ⟨w.heap.size, 0, none⟩ = some (.slice A xs.length c) := b9.cells.1 0
          have o9 : Bld opO (wr.setCell ⟨w.heap.size, 0, none⟩ (.slice A xs.length c)) w.heap.size 28 (.slice A xs.length c) xs F := (hB.keep fun b hb _ => keep_setCell (fun e => by simp only at e; omega)).low (by omega)
          have cF9 : Cur w0 (wr.setCell ⟨w.heap.size, 0, none⟩ (.slice A xs.length c)) g := hc.setN hg _
          have kF9 : Kept g w (wr.setCell ⟨w.heap.size, 0, none⟩ (.slice A xs.length c)) := hk.setN (Nat.le_refl _) _
          have HLEN := hid (show (xs).length ≤ 8 by omega)
          clear hB bL b9
          go_wp2
          refine bodyPost_ret (v := .agg #[.slice A xs.length c]) (by simp [results, Tryz.results76, go_sem, r0]) rfl ?_
          exact ⟨_, ⟨xs⟩, F, rfl, o9, cF9, kF9, HLEN.out⟩
    · have cL3 : w3.cell? ⟨w2.heap.size, 0, none⟩ = some (.slice A xs.length c) := bL3.cells.1 0
      obtain ⟨cR, fR⟩ := bR3.cells
      have cL : w3.cell? ⟨w2.heap.size, 0, none⟩ = some (.slice A xs.length c) := bL3.cells.1 0
      have b9 : Blk (w3.setCell ⟨w.heap.size, 0, none⟩ (.slice A xs.length c)) w.heap.size 36 [.slice A xs.length c] := bR3.setAt 0 (by show 0 < 1; decide) _
      have r0 : (w3.setCell ⟨w.heap.size, 0, none⟩ (.slice A xs.length c)).cell? ⟨w.heap.size, 0, none⟩ = some (.slice A xs.length c) := b9.cells.1 0
      have o9 : Bld opO (w3.setCell ⟨w.heap.size, 0, none⟩ (.slice A xs.length c)) w.heap.size 28 (.slice A xs.length c) xs F := (hB3.keep fun b hb _ => keep_setCell (fun e => by simp only at e; omega)).low (by omega)
      have cF9 : Cur w0 (w3.setCell ⟨w.heap.size, 0, none⟩ (.slice A xs.length c)) g := hc3.setN hg _
      have kF9 : Kept g w (w3.setCell ⟨w.heap.size, 0, none⟩ (.slice A xs.length c)) := hk03.setN (Nat.le_refl _) _
      have HLEN := hid (show (xs).length ≤ 8 by omega)
      clear hB3 bL3 b9
      go_wp2
      refine bodyPost_ret (v := .agg #[.slice A xs.length c]) (by simp [results, Tryz.results76, go_sem, r0]) rfl ?_
      exact ⟨_, ⟨xs⟩, F, rfl, o9, cF9, kF9, HLEN.out⟩

end Go.Proofs.YtfieimmlcopbhaaGreatDoor
