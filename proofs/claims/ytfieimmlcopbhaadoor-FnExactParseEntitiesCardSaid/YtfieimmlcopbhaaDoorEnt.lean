/-
  An entity: how it lies; WALKS: szEntity, szEntityS, toEntity, toEntityS, eqEntity, eqEntityS.
-/
import Derived.Test.YtfieimmlcopbhaaDoorIntss
import Derived.Test.YtfieimmlcopbhaaDoorUpd
namespace Go.Proofs.YtfieimmlcopbhaaDoor
open Go.RowKit

theorem list2 {cs : List Value} (h : cs.length = 2) {a b : Value} (ha : (cs.drop 0).take 1 = [a]) (hb : (cs.drop 1).take 1 = [b]) : cs = [a, b] := by
  match cs, h with
  | [x, y], _ => simp_all
structure Entity where
  id : Int
  members : List Int
def entityR : Rep Entity := ⟨2, fun w cs e => ∃ m, cs = [.int .i64 e.id, m] ∧ I64 e.id ∧ Sl intR w m e.members, fun ⟨_, h, _⟩ => by rw [h]; rfl, fun x ⟨m, h, k, s⟩ => ⟨m, h, k, s.mono x⟩⟩
def entityO : RepO Entity :=
  { entityR with
    own := fun w cs e F => ∃ m, cs = [.int .i64 e.id, m] ∧ I64 e.id ∧ OwnSl intO w m e.members F
    own_rd := fun ⟨m, h, k, s⟩ => ⟨m, h, k, s.sl⟩
    own_lt := fun ⟨_, _, _, s⟩ => s.lt
    own_keep := fun hk ⟨m, h, k, s⟩ => ⟨m, h, k, s.keep hk⟩ }
/-- the value v is the entity e -/
def EntAt (w : World) (v : Value) (e : Entity) : Prop := ∃ m, v = .agg #[.int .i64 e.id, m] ∧ I64 e.id ∧ Sl intR w m e.members
def EntOwn (w : World) (v : Value) (e : Entity) (F : List Nat) : Prop := ∃ m, v = .agg #[.int .i64 e.id, m] ∧ I64 e.id ∧ OwnSl intO w m e.members F
theorem EntAt.mono {w w2 : World} {v : Value} {e : Entity} (x : Ext w w2) (h : EntAt w v e) : EntAt w2 v e := let ⟨f, a, b, c⟩ := h; ⟨f, a, b, c.mono x⟩
theorem EntOwn.at_ {w : World} {v : Value} {e : Entity} {F : List Nat} (h : EntOwn w v e F) : EntAt w v e := let ⟨f, a, b, c⟩ := h; ⟨f, a, b, c.sl⟩
theorem EntOwn.lt {w : World} {v : Value} {e : Entity} {F : List Nat} (h : EntOwn w v e F) : ∀ b ∈ F, b < w.heap.size := let ⟨_, _, _, c⟩ := h; c.lt
theorem EntOwn.keep {w w2 : World} {v : Value} {e : Entity} {F : List Nat} (h : EntOwn w v e F) (k : ∀ b ∈ F, w2.heap[b]? = w.heap[b]?) : EntOwn w2 v e F := let ⟨f, a, b, c⟩ := h; ⟨f, a, b, c.keep k⟩
theorem EntOwn.ext {w w2 : World} {v : Value} {e : Entity} {F : List Nat} (h : EntOwn w v e F) (x : Ext w w2) : EntOwn w2 v e F := h.keep fun b hb => x.block (h.lt b hb)
theorem Sl.ent {w : World} {A : Option Addr} {n cap : Nat} {xs : List Entity} (h : Sl entityR w (.slice A n cap) xs) {i : Nat} (hi : i < xs.length) :
    ∃ b off A2 cap2, A = some ⟨b, off, none⟩ ∧ I64 xs[i].id ∧ Sl intR w (.slice A2 xs[i].members.length cap2) xs[i].members ∧ w.cell? ⟨b, off + i * 2, none⟩ = some (.int .i64 xs[i].id) ∧
      w.cell? ⟨b, off + i * 2 + 1, none⟩ = some (.slice A2 xs[i].members.length cap2) := by
  obtain ⟨b, off, cs, rfl, ⟨m, rfl, hI, hs⟩, hc⟩ := h.at_ hi
  have hs' := hs
  obtain ⟨A2, cap2, rfl, _⟩ := hs
  exact ⟨b, off, A2, cap2, rfl, hI, hs', by simpa [entityR] using hc 0 (by simp [entityR]), by simpa [entityR] using hc 1 (by simp [entityR])⟩
def sumMem (xs : List Entity) : Nat := (xs.map fun e => e.members.length).sum
theorem sumMem_take (xs : List Entity) (k : Nat) (h : k < xs.length) : sumMem (xs.take (k + 1)) = sumMem (xs.take k) + xs[k].members.length := by
  rw [List.take_succ_eq_append_getElem h]; unfold sumMem; rw [List.map_append, List.sum_append]; simp
theorem sumMem_le (xs : List Entity) (k : Nat) : sumMem (xs.take k) ≤ sumMem xs := by
  have h := List.take_append_drop k xs
  have : sumMem xs = sumMem (xs.take k) + sumMem (xs.drop k) := by
    unfold sumMem; rw [← List.sum_append, ← List.map_append, h]
  omega
theorem sumMem_at (xs : List Entity) (k : Nat) (h : k < xs.length) : sumMem (xs.take k) + xs[k].members.length ≤ sumMem xs := by
  rw [← sumMem_take xs k h]; exact sumMem_le _ _
def msEnts (xs : List Entity) : Nat := xs.length + sumMem xs

theorem infoEnt : (Tryd.prog.info? 70).map (fun i => (i.zero, i.size, i.bytes)) = some (some (.agg #[.int .i64 0, .slice none 0 0]), 2, 32) := by kernel_rfl

def entZ : List Value := [.int .i64 0, .slice none 0 0]
theorem Entity.ext_iff2 (x y : Entity) : x = y ↔ x.id = y.id ∧ x.members = y.members := by
  cases x; cases y; simp
set_option maxHeartbeats 400000 in
theorem eqEntity_c (v u : Value) (x y : Entity) (w : World) (h : EntAt w v x) (k : EntAt w u y) :
    Calls Tryd.prog 46 #[v, u] w fun e w2 => e = .returned (.bool (eqB x y)) ∧ Ext w w2 := by
  obtain ⟨f, rfl, hok, hs⟩ := h
  obtain ⟨g, rfl, hok2, hs2⟩ := k
  by_cases h1 : x.id = y.id
  · have b1 : (x.id != y.id) = false := by simp [h1]
    have H := hid h1
    clear h1
    go_enter Tryd.func46, Tryd.ntmps46
    go_wp2_with fail
    refine (eqIntS_c _ _ x.members y.members _ (hs.mono (by repeat (first | with_reducible exact Ext.refl _ | with_reducible assumption | with_reducible refine Ext.drew ?_ | with_reducible refine Ext.alloc ?_ _ | with_reducible refine Ext.trans ?_ (by with_reducible assumption)))) (hs2.mono (by repeat (first | with_reducible exact Ext.refl _ | with_reducible assumption | with_reducible refine Ext.drew ?_ | with_reducible refine Ext.alloc ?_ _ | with_reducible refine Ext.trans ?_ (by with_reducible assumption))))).mono ?_
    rintro e w2 ⟨rfl, x2⟩
    by_cases h4 : x.members = y.members
    · rw [eqB_true h4]
      have H4 := hid h4
      clear h4
      go_wp2
      go_ret
      exact ⟨ret_bool (eqB_true ((Entity.ext_iff2 x y).2 ⟨H.out, H4.out⟩)).symm, (by repeat (first | with_reducible exact Ext.refl _ | with_reducible assumption | with_reducible refine Ext.drew ?_ | with_reducible refine Ext.alloc ?_ _ | with_reducible refine Ext.trans ?_ (by with_reducible assumption)))⟩
    · rw [eqB_false h4]
      have H4 := hid h4
      clear h4
      go_wp2
      go_ret
      exact ⟨ret_bool (eqB_false fun e => H4.out (by rw [e])).symm, (by repeat (first | with_reducible exact Ext.refl _ | with_reducible assumption | with_reducible refine Ext.drew ?_ | with_reducible refine Ext.alloc ?_ _ | with_reducible refine Ext.trans ?_ (by with_reducible assumption)))⟩
  · have b1 : (x.id != y.id) = true := by simp [h1]
    have H := hid h1
    clear h1
    go_enter Tryd.func46, Tryd.ntmps46
    go_wp2
    go_ret
    exact ⟨ret_bool (eqB_false fun e => H.out (by rw [e])).symm, (by repeat (first | with_reducible exact Ext.refl _ | with_reducible assumption | with_reducible refine Ext.drew ?_ | with_reducible refine Ext.alloc ?_ _ | with_reducible refine Ext.trans ?_ (by with_reducible assumption)))⟩

set_option maxHeartbeats 400000 in
theorem eqEntityS_c (v u : Value) (xs ys : List Entity) (w : World) (h : Sl entityR w v xs) (k : Sl entityR w u ys) :
    Calls Tryd.prog 19 #[v, u] w fun e w2 => e = .returned (.bool (eqB xs ys)) ∧ Ext w w2 := by
  obtain ⟨A, cap, rfl, hm⟩ := h.form
  obtain ⟨B, cap2, rfl, hm2⟩ := k.form
  by_cases hl : xs.length = ys.length
  · have hl' : ((xs.length : Int) != (ys.length : Int)) = false := by simp [hl]
    have HL := hid hl
    clear hl
    go_enter Tryd.func19, Tryd.ntmps19
    go_wp2
    go_loopw [5] (fun i wr => ∃ k2 : Nat, k2 ≤ xs.length ∧ i = .int .i64 k2 ∧ xs.take k2 = ys.take k2 ∧ Ext w wr) (fun i _ => xs.length - (intOf i).toNat)
    case atStart => exact ⟨0, Nat.zero_le _, rfl, by simp, Ext.refl _⟩
    case round =>
      obtain ⟨k2, hk, rfl, he, hx⟩ := hrel
      have HE := hid he
      clear he
      by_cases hlt : k2 < xs.length
      · have hlt2 : k2 < ys.length := by have := HL.out; omega
        obtain ⟨b, off, A2, cap3, rfl, hI, hi, hc, hd⟩ := (h.mono hx).ent hlt
        obtain ⟨b2, off2, A3, cap4, rfl, hI2, hi2, hc2, hd2⟩ := (k.mono hx).ent hlt2
        have hcz : ∀ z : ExtOf wr, z.1.cell? ⟨b, off + k2 * 2, none⟩ = _ := fun z => z.2.cell hc
        have hcz2 : ∀ z : ExtOf wr, z.1.cell? ⟨b2, off2 + k2 * 2, none⟩ = _ := fun z => z.2.cell hc2
        have hdz : ∀ z : ExtOf wr, z.1.cell? ⟨b, off + k2 * 2 + 1, none⟩ = _ := fun z => z.2.cell hd
        have hdz2 : ∀ z : ExtOf wr, z.1.cell? ⟨b2, off2 + k2 * 2 + 1, none⟩ = _ := fun z => z.2.cell hd2
        by_cases h0 : xs[k2] = ys[k2]
        · have H0 := hid h0
          clear h0
          go_wp2_with fail
          refine wp_region_ext (by kernel_rfl) (by kernel_rfl) ?_
          repeat (go_big_quiet_step (((go_at_call 46; exact quiet_ext (eqEntity_c _ _ _ _ _ ⟨_, rfl, hI, hi.mono (Subtype.property _)⟩ ⟨_, rfl, hI2, hi2.mono (Subtype.property _)⟩)))))
          refine wpQuiet_nil ?_
          rintro w1 ⟨⟨_, x1⟩, rfl⟩
          rw [eqB_true H0.out]
          go_wp2
          go_roundw
          case rel => exact ⟨k2 + 1, by omega, by go_num, take_snoc_eq hlt hlt2 H0.out HE.out, hx.trans x1⟩
          case measure => simp [intOf]; omega
        · have H0 := hid h0
          clear h0
          go_wp2_with fail
          refine wp_region_ext (by kernel_rfl) (by kernel_rfl) ?_
          repeat (go_big_quiet_step (((go_at_call 46; exact quiet_ext (eqEntity_c _ _ _ _ _ ⟨_, rfl, hI, hi.mono (Subtype.property _)⟩ ⟨_, rfl, hI2, hi2.mono (Subtype.property _)⟩)))))
          refine wpQuiet_nil ?_
          rintro w1 ⟨⟨_, x1⟩, rfl⟩
          rw [eqB_false H0.out]
          go_wp2
          go_ret
          exact ⟨ret_bool (eqB_false (ne_of_at hlt hlt2 H0.out)).symm, hx.trans x1⟩
      · go_wp2
        go_ret
        exact ⟨ret_bool (eqB_true (eq_of_take hlt HL.out HE.out)).symm, hx⟩
  · have hl' : ((xs.length : Int) != (ys.length : Int)) = true := by simp; omega
    go_enter Tryd.func19, Tryd.ntmps19
    go_wp2
    go_ret
    exact ⟨ret_bool (eqB_false fun e => hl (by rw [e])).symm, Ext.refl _⟩

theorem reads_entity {t : TypeId} {f0 f1 : Field} (ht : Tryd.prog.underlying t = some (.struct #[f0, f1])) (hc : Tryd.prog.cellsOf t = 2)
    (h0 : f0.type = 3 ∧ f0.offset = 0) (h1 : f1.type = 66 ∧ f1.offset = 1) : Reads Tryd.prog t entityR := by
  refine ⟨hc, fun h => ?_⟩
  obtain ⟨a, e0, w0⟩ := Reads.field ht h 0 f0 rfl (h0.1 ▸ rInt)
  obtain ⟨l, v, e1, w1⟩ := Reads.field ht h 1 f1 rfl (h1.1 ▸ rInts)
  rw [h0.2] at e0; rw [h1.2] at e1
  exact ⟨⟨a, l⟩, v, list2 ((struct_len ht h).trans hc) e0 e1, w0, w1⟩
end Go.Proofs.YtfieimmlcopbhaaDoor
