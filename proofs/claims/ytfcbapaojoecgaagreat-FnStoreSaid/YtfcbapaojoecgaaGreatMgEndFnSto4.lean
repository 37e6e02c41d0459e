/-
  SEVERAL SMALL TEXTS LAID TOGETHER: DrawX, DrawY, DrawZ.
-/
import Derived.Test.YtfcbapaojoecgaaGreatMgEndFnSto3
import Derived.Test.YtfcbapaojoecgaaGreatMgEndAppB14
import Derived.Test.YtfcbapaojoecgaaGreatMgEndAppB10
import Derived.Test.YtfcbapaojoecgaaGreatMgEndRepB0
import Derived.Test.YtfcbapaojoecgaaGreatMgEndAppB15

namespace Go.Proofs.YtfcbapaojoecgaaGreat
open Go.RowKit

def BatsAny (w0 w : World) (g : Nat) (m : Nat) (e : Ending) (w2 : World) : Prop := ∃ v xs F, e = .returned v ∧ Bld batchO w2 w.heap.size 40 v xs F ∧ xs.length ≤ m ∧ Cur w0 w2 g ∧ Kept g w w2
theorem elemBatch : ElemT Tryz.prog 51 40 batchO.n 24 := by
  obtain ⟨i, h1, h2, h3, h4⟩ := info_parts infoBatch
  exact ⟨Tryz.underlying51, i, _, h1, h2, h3, h4, rfl⟩
theorem one_bat (A : Option Addr) (n k : Nat) : ∀ u ∈ (#[Value.slice A n k] : Array Value).toList, u.oneCell' = true := by simp [Value.oneCell']

set_option maxHeartbeats 4000000 in
set_option maxRecDepth 20000 in
theorem spec_l30Batches (w0 w : World) (g : Nat) (hc : Cur w0 w g) :
    Calls Tryz.prog 74 #[.pointer (some ⟨g, 0, none⟩), .int .i64 5] w (BatsAny w0 w g 5) := by
  have hg := hc.base.2.2
  have h0g := hc.base.2.1
  have hB0 : Bld batchO (w.alloc (.cells #[] 40)) w.heap.size 40 (.slice (some ⟨w.heap.size, 0, none⟩) 0 0) [] [] := Bld.lit w (Nat.le_refl _) _
  have hc0 := hc.ext ((Ext.refl w).alloc (.cells #[] 40))
  go_enter Tryz.func74, Tryz.ntmps74
  go_wp2_with fail
  refine (spec_l1Below w0 _ g 6 (by decide) hc0).mono ?_
  rintro e w2 ⟨x, rfl, hx, hc2, hk2⟩
  have hg2 := hc2.base.2.2
  obtain ⟨n0, rfl⟩ : ∃ n : Nat, x = n := ⟨x.toNat, by omega⟩
  have hB2 := hB0.kept (by omega) hk2
  have k2 := (Ext.kept (g := g) ((Ext.refl w).alloc (.cells #[] 40))).trans hk2
  clear hc hc0 hB0 hk2
  go_wp2
  go_loopw [5, 6] (fun l i wr => ∃ (xs : List Batch) (F : List Nat) (n : Nat) (vl : Value), l = vl ∧ i = .int .i64 n ∧ xs.length + n ≤ 5 ∧ Bld batchO wr w.heap.size 40 vl xs F ∧ Cur w0 wr g ∧ Kept g w wr) (fun _ i _ => (intOf i).toNat)
  case atStart => exact ⟨[], [], n0, _, rfl, rfl, by simp; omega, hB2, hc2, k2⟩
  case round =>
    clear hB2 hc2 k2 hg2 hx
    obtain ⟨xs, F, n, lq, rfl, rfl, hn, hB, hc, hk⟩ := hrel
    by_cases hn0 : 0 < n
    · go_wp2_with fail
      refine (spec_l29Batch w0 _ g hc).mono ?_
      rintro e w3 ⟨v, ⟨os0⟩, F4, rfl, hB4, hc3, hk3, hl4, hp4⟩
      dsimp only at hB4 hl4 hp4
      obtain ⟨F5, o5, n5, l5, _⟩ := hB4.done2
      obtain ⟨A, cO, e9, _⟩ := o5.form
      subst e9
      obtain ⟨wr0, hwr0⟩ : ∃ W, W = wr := ⟨_, rfl⟩
      rw [← hwr0] at hB hc hk hk3 l5
      clear hwr0
      obtain ⟨L, hL⟩ : ∃ L, L = w3.heap.size := ⟨_, rfl⟩
      obtain ⟨no, hno⟩ : ∃ n, n = os0.length := ⟨_, rfl⟩
      have hg3 := hc.base.2.2
      have hs3 := hk3.1
      have bL0 : Blk (w3.alloc (.cells #[.slice A no cO] 40)) L 40 [.slice A no cO] := by rw [hL]; exact Blk.new w3 40 #[.slice A no cO]
      have o50 := o5.ext ((Ext.refl w3).alloc (.cells #[.slice A no cO] 40))
      have c50 := hc3.ext ((Ext.refl w3).alloc (.cells #[.slice A no cO] 40))
      have k50 := hk3.alloc (.cells #[.slice A no cO] 40)
      have N5 := hid n5
      have hLg := hid (show L ≠ g from by omega)
      have hgF5 := hid (show g ∉ F5 from fun hm => by have := l5 g hm; omega)
      have hLF := hid (show L ∉ F5 from fun hm => by have := o5.lt _ hm; omega)
      have hF5 := hid l5
      have hF5g := hid (show ∀ b ∈ F5, g < b from fun b hb => by have := l5 b hb; omega)
      have HB := hid hB
      have HK := hid hk
      have HNX := hid (show xs.length + n ≤ 5 ∧ 0 < n from ⟨hn, hn0⟩)
      have HLw := hid (show wr0.heap.size ≤ L from by omega)
      rw [← hno] at o50 ⊢
      have HNO := hid hno
      have hno4 : no ≤ 4 := by rw [hno]; exact hl4
      have HP0 := hid hp4
      clear hB hk hc hc3 hk3 o5 n5 l5 hB4 hl4 hp4 hn hno hs3
      go_wp2_with fail
      rw [← hL]
      clear hL
      go_loopw [8] (fun i wi => ∃ (k : Nat) (ops : List Op), k ≤ no ∧ i = .int .i64 k ∧ OwnSl opO wi (.slice A no cO) ops F5 ∧ Hid (ops.length = no) ∧ Hid (∀ o ∈ ops, putLen o) ∧ Blk wi L 40 [.slice A no cO] ∧ Cur w0 wi g ∧ Kept g wr0 wi) (fun i _ => no - (intOf i).toNat)
      case atStart => exact ⟨0, os0, Nat.zero_le _, rfl, o50, hid HNO.out.symm, HP0, bL0, c50, k50⟩
      case round =>
        clear o50 bL0 c50 k50
        obtain ⟨k, ops, hk0, rfl, ho, hlen, hpl, bL, hcu, hkk⟩ := hrel
        have bLc : wr.cell? ⟨L, 0, none⟩ = some (.slice A no cO) := bL.cells.1 0
        by_cases hlt : k < no
        · have hlo : k < ops.length := by rw [hlen.out]; exact hlt
          have HLT := hid hlt
          obtain ⟨oq, hoq⟩ : ∃ o, o = ops[k] := ⟨_, rfl⟩
          have hxq : ops[k]? = some oq := by rw [hoq]; exact List.getElem?_eq_getElem hlo
          have HPQ := hid (hpl.out oq (by rw [hoq]; exact List.getElem_mem hlo))
          clear hoq
          obtain ⟨gO, oO, eA, hgM⟩ := ho.op_open N5.out hxq
          subst eA
          have hgO := hid (show gO ≠ g from fun e => hgF5.out (e ▸ hgM))
          obtain ⟨mf, Ff, csf, _, _, _, _, _, _, _⟩ := ho.op_cells N5.out hxq
          have ck : wr.cell? ⟨gO, oO + k * 9, none⟩ = some (.int .i64 oq.kind) := csf 0 (by decide)
          clear csf
          by_cases hkd : oq.kind = 1
          · have hkb : (oq.kind == 1) = true := by simp [hkd]
            have HLQ := hid (HPQ.out hkd)
            have HKD := hid hkd
            clear hkd
            go_wp2_with fail
            refine (spec_l1Once w0 _ g 2 (by decide) hcu).mono ?_
            rintro e w5 ⟨x, rfl, hc5, hk5⟩
            have ho5 := ho.kept hgF5.out hk5
            have bL5 := bL.kept hLg.out hk5
            have hkk5 := hkk.trans hk5
            clear ho bL hcu hkk hk5 bLc ck
            cases x with
            | false =>
              go_wp2
              go_roundw
              case rel => exact ⟨k + 1, ops, by have := HLT.out; omega, by go_num, ho5, hlen, hpl, bL5, hc5, hkk5⟩
              case measure => have := HLT.out; simp [intOf]; omega
            | true =>
              have bL := bL5
              have hla := HLQ.out
              have hxa := hxq
              obtain ⟨oa, hoa⟩ : ∃ o, o = oq := ⟨_, rfl⟩
              rw [← hoa] at hla hxa
              clear bL5
              obtain ⟨ma, Fa, csa, _, hg5a, hgna, hsuba, hNa, hma, _⟩ := ho5.op_cells N5.out hxa
              obtain ⟨Aa, capa, ema, _⟩ := hma.form
              subst ema
              rw [hla] at hma csa
              have cma : w5.cell? ⟨gO, oO + k * 9 + 4, none⟩ = some (.slice Aa 4 capa) := csa 4 (by decide)
              have cba : w5.cell? ⟨L, 0, none⟩ = some (.slice (some ⟨gO, oO, none⟩) no cO) := bL.cells.1 0
              have HSa := hid (show ∀ W, Kept g w5 W → W.cell? ⟨L, 0, none⟩ = some (.slice (some ⟨gO, oO, none⟩) no cO) ∧ W.cell? ⟨gO, oO + k * 9 + 4, none⟩ = some (.slice Aa 4 capa) from fun W y => ⟨(bL.kept hLg.out y).cells.1 0, (cell_of_same (y.2 gO (ho5.lt _ hg5a) (fun e => hgO.out e)) _).trans cma⟩)
              have hwga := hc5.base.2.2
              obtain ⟨gsa, osa, cs2a, esa, _, _, _, _⟩ := hma.str_store hNa (i := 0) (by rw [hla]; decide)
              injection esa with esa ena eca
              clear ena eca
              subst esa
              clear csa hma
              go_wp2_with fail
              refine wp_region_J 11 (fun w' => w'.cell? ⟨L, 0, none⟩ = some (.slice (some ⟨gO, oO, none⟩) no cO) ∧ w'.cell? ⟨gO, oO + k * 9 + 4, none⟩ = some (.slice (some ⟨gsa, osa, none⟩) 4 capa)) (by kernel_rfl) ?_
              refine wpAnyJ_take (i := 0) (v := ?v0a) (by simp only [List.getElem?_toArray, List.getElem?_cons_succ, List.getElem?_cons_zero, Option.some.injEq]; exact rfl) (by kernel_rfl) (by kernel_rfl) (by kernel_rfl) (by kernel_rfl) (by exact fun _ _ _ h => h) (Or.inl ⟨by rfl, fun w9 hS9 => ?hy0a⟩) (by exact ⟨cba, cma⟩) ?rest0a
              case hy0a => (try dsimp only at hS9); go_simp <;> with_reducible rfl
              try simp only [Act.put, List.setIfInBounds_toArray, List.set_cons_zero, List.set_cons_succ]
              refine wpAnyJ_take (i := 1) (v := ?v1a) (by simp only [List.getElem?_toArray, List.getElem?_cons_succ, List.getElem?_cons_zero, Option.some.injEq]; exact rfl) (by kernel_rfl) (by kernel_rfl) (by kernel_rfl) (by kernel_rfl) (by exact fun _ _ _ h => h) (Or.inl ⟨by rfl, fun w9 hS9 => ?hy1a⟩) (by exact ⟨cba, cma⟩) ?rest1a
              case hy1a => (try dsimp only at hS9); go_simp <;> with_reducible rfl
              try simp only [Act.put, List.setIfInBounds_toArray, List.set_cons_zero, List.set_cons_succ]
              refine wpAnyJ_take (i := 2) (v := ?v2a) (by simp only [List.getElem?_toArray, List.getElem?_cons_succ, List.getElem?_cons_zero, Option.some.injEq]; exact rfl) (by kernel_rfl) (by kernel_rfl) (by kernel_rfl) (by kernel_rfl) (by exact fun _ _ _ h => h) (Or.inl ⟨by rfl, fun w9 hS9 => ?hy2a⟩) (by exact ⟨cba, cma⟩) ?rest2a
              case hy2a => (try dsimp only at hS9); go_simp <;> with_reducible rfl
              try simp only [Act.put, List.setIfInBounds_toArray, List.set_cons_zero, List.set_cons_succ]
              refine wpAnyJ_take (i := 3) (v := ?v3a) (by simp only [List.getElem?_toArray, List.getElem?_cons_succ, List.getElem?_cons_zero, Option.some.injEq]; exact rfl) (by kernel_rfl) (by kernel_rfl) (by kernel_rfl) (by kernel_rfl) (by exact fun _ _ _ h => h) (Or.inl ⟨by rfl, fun w9 hS9 => ?hy3a⟩) (by exact ⟨cba, cma⟩) ?rest3a
              case hy3a => (try dsimp only at hS9); go_simp <;> with_reducible rfl
              try simp only [Act.put, List.setIfInBounds_toArray, List.set_cons_zero, List.set_cons_succ]
              refine wpAnyJ_take (i := 4) (v := ?v4a) (by simp only [List.getElem?_toArray, List.getElem?_cons_succ, List.getElem?_cons_zero, Option.some.injEq]; exact rfl) (by kernel_rfl) (by kernel_rfl) (by kernel_rfl) (by kernel_rfl) (by exact fun _ _ _ h => h) (Or.inl ⟨by rfl, fun w9 hS9 => ?hy4a⟩) (by exact ⟨cba, cma⟩) ?rest4a
              case hy4a => (try dsimp only at hS9); go_simp <;> with_reducible rfl
              try simp only [Act.put, List.setIfInBounds_toArray, List.set_cons_zero, List.set_cons_succ]
              refine wpAnyJ_take (i := 5) (v := ?v5a) (by simp only [List.getElem?_toArray, List.getElem?_cons_succ, List.getElem?_cons_zero, Option.some.injEq]; exact rfl) (by kernel_rfl) (by kernel_rfl) (by kernel_rfl) (by kernel_rfl) (by exact fun _ _ _ h => h) (Or.inl ⟨by rfl, fun w9 hS9 => ?hy5a⟩) (by exact ⟨cba, cma⟩) ?rest5a
              case hy5a => (try dsimp only at hS9); go_simp <;> with_reducible rfl
              try simp only [Act.put, List.setIfInBounds_toArray, List.set_cons_zero, List.set_cons_succ]
              refine wpAnyJ_take (i := 6) (v := ?v6a) (by simp only [List.getElem?_toArray, List.getElem?_cons_succ, List.getElem?_cons_zero, Option.some.injEq]; exact rfl) (by kernel_rfl) (by kernel_rfl) (by kernel_rfl) (by kernel_rfl) (by exact fun _ _ _ h => h) (Or.inl ⟨by rfl, fun w9 hS9 => ?hy6a⟩) (by exact ⟨cba, cma⟩) ?rest6a
              case hy6a => (try dsimp only at hS9); go_simp <;> with_reducible rfl
              try simp only [Act.put, List.setIfInBounds_toArray, List.set_cons_zero, List.set_cons_succ]
              refine wpAnyJ_take (i := 7) (v := ?v7a) (by simp only [List.getElem?_toArray, List.getElem?_cons_succ, List.getElem?_cons_zero, Option.some.injEq]; exact rfl) (by kernel_rfl) (by kernel_rfl) (by kernel_rfl) (by kernel_rfl) (by exact fun _ _ _ h => h) (Or.inl ⟨by rfl, fun w9 hS9 => ?hy7a⟩) (by exact ⟨cba, cma⟩) ?rest7a
              case hy7a => (try dsimp only at hS9); go_simp <;> with_reducible rfl
              try simp only [Act.put, List.setIfInBounds_toArray, List.set_cons_zero, List.set_cons_succ]
              refine wpAnyJ_one (i := 8) (by simp only [List.getElem?_toArray, List.getElem?_cons_succ, List.getElem?_cons_zero, Option.some.injEq]; exact rfl) (by kernel_rfl) (fun K hK => ?_)
              go_simp
              refine hK _ _ (HSa.out _ (Ext.kept (((Ext.refl w5).drew).alloc _))) ?_
              try simp only [Act.put, List.setIfInBounds_toArray, List.set_cons_zero, List.set_cons_succ]
              clear hK K
              refine wpAnyJ_one (i := 9) (by simp only [List.getElem?_toArray, List.getElem?_cons_succ, List.getElem?_cons_zero, Option.some.injEq]; exact rfl) (by kernel_rfl) (fun K hK => ?_)
              go_simp
              refine (spec_l1Pick w0 _ g _ [⟨#[97, 110, 110, 97, 32, 115, 109, 105, 116, 104]⟩, ⟨#[83, 109, 105, 116, 104, 44, 32, 65, 110, 110, 97]⟩, ⟨#[97, 110, 110, 32, 115, 109, 121, 116, 104]⟩, ⟨#[106, 111, 104, 110, 32, 108, 101, 101]⟩] (by decide) (by decide) (hc5.ext (((Ext.refl w5).drew).alloc _)) (fun w4 k4 => (lits_kept rfl (by decide) (by decide) (show g < w5.drew.heap.size from hwga) k4).sl)).mono ?_
              rintro e wpa ⟨spa, rfl, hza, hcpa, hkp0a⟩
              have hkpa : Kept g w5 wpa := (Ext.kept (g := g) (((Ext.refl w5).drew).alloc _)).trans hkp0a
              refine hK _ _ (HSa.out _ hkpa) ?_
              try simp only [Act.put, List.setIfInBounds_toArray, List.set_cons_zero, List.set_cons_succ]
              clear hK K hkp0a
              refine wpAnyJ_one (i := 10) (by simp only [List.getElem?_toArray, List.getElem?_cons_succ, List.getElem?_cons_zero, Option.some.injEq]; exact rfl) (by kernel_rfl) (fun K hK => ?_)
              go_simp
              refine hK _ _ (HSa.out _ hkpa) ?_
              try simp only [Act.put, List.setIfInBounds_toArray, List.set_cons_zero, List.set_cons_succ]
              clear hK K
              have o6a := ho5.kept hgF5.out hkpa
              have b6a := bL.kept hLg.out hkpa
              obtain ⟨mqa, Fqa, cqa, _, _, _, hsqa, hNqa, hmqa, hinqa⟩ := o6a.op_cells N5.out hxa
              have em2a : mqa = .slice (some ⟨gsa, osa, none⟩) 4 capa := Option.some.inj ((cqa 4 (by decide)).symm.trans (HSa.out _ hkpa).2)
              subst em2a
              obtain ⟨gta, ota, cta, eta, hgta, ctla, ftla, hsta⟩ := hmqa.str_store hNqa (i := 0) (by rw [hla]; decide)
              injection eta with eta ena eca
              clear ena eca
              injection eta with eta
              injection eta with et1a et2a _
              subst et1a
              subst et2a
              simp only [Nat.add_zero] at ctla ftla hsta
              refine wpAnyJ_last (by simp only [List.getElem?_toArray, List.getElem?_cons_succ, List.getElem?_cons_zero, Option.some.injEq]; exact rfl) (by kernel_rfl) (by kernel_rfl) (fun K hK => ?_)
              go_simp
              refine hK _ _ ?_
              clear hK K
              have hz2a : spa.size ≤ maxLen := Nat.le_trans hza (by decide)
              have o7a := hinqa (wpa.setCell ⟨gsa, osa, none⟩ (.string spa)) _ (fun b hb hn => keep_setCell (fun e => hn (by rw [e]; exact hgta))) (hsta spa hz2a)
              have hsga : gsa ∈ F5 := hsqa _ hgta
              have b7a : Blk (wpa.setCell ⟨gsa, osa, none⟩ (.string spa)) L 40 [.slice (some ⟨gO, oO, none⟩) no cO] := b6a.other (fun e => hLF.out (by rw [e]; exact hsga))
              have c7a := hcpa.setN (p := ⟨gsa, osa, none⟩) (hF5g.out _ hsga) (.string spa)
              have k7a := (hkk5.trans hkpa).setN (p := ⟨gsa, osa, none⟩) (hF5.out _ hsga) (.string spa)
              obtain ⟨Wa, hWa⟩ : ∃ W, W = wpa.setCell ⟨gsa, osa, none⟩ (.string spa) := ⟨_, rfl⟩
              rw [← hWa] at o7a b7a c7a k7a ⊢
              have hfla : (oa.record.fields.set 0 spa).length = oa.record.fields.length := List.length_set ..
              clear hWa hinqa hsta hcpa o6a b6a cma cba hkpa cqa ctla ftla
              have bL := b7a
              obtain ⟨ob, hob⟩ : ∃ o, o = (⟨oa.kind, ⟨oa.record.source, oa.record.key, oa.record.version, oa.record.fields.set 0 spa⟩, oa.verdict⟩ : Op) := ⟨_, rfl⟩
              rw [← hob] at o7a
              have hxb : (ops.set k ob)[k]? = some ob := by rw [List.getElem?_set_self hlo]
              have hlb : ob.record.fields.length = 4 := by rw [hob]; exact hfla.trans hla
              have HOBK := hid (show ob.kind = oq.kind from by rw [hob, hoa])
              clear hob hoa b7a hfla
              obtain ⟨mb, Fb, csb, _, hg5b, hgnb, hsubb, hNb, hmb, _⟩ := o7a.op_cells N5.out hxb
              obtain ⟨Ab, capb, emb, _⟩ := hmb.form
              subst emb
              rw [hlb] at hmb csb
              have cmb : Wa.cell? ⟨gO, oO + k * 9 + 4, none⟩ = some (.slice Ab 4 capb) := csb 4 (by decide)
              have cbb : Wa.cell? ⟨L, 0, none⟩ = some (.slice (some ⟨gO, oO, none⟩) no cO) := bL.cells.1 0
              have HSb := hid (show ∀ W, Kept g Wa W → W.cell? ⟨L, 0, none⟩ = some (.slice (some ⟨gO, oO, none⟩) no cO) ∧ W.cell? ⟨gO, oO + k * 9 + 4, none⟩ = some (.slice Ab 4 capb) from fun W y => ⟨(bL.kept hLg.out y).cells.1 0, (cell_of_same (y.2 gO (o7a.lt _ hg5b) (fun e => hgO.out e)) _).trans cmb⟩)
              have hwgb := c7a.base.2.2
              obtain ⟨gsb, osb, cs2b, esb, _, _, _, _⟩ := hmb.str_store hNb (i := 3) (by rw [hlb]; decide)
              injection esb with esb enb ecb
              clear enb ecb
              subst esb
              clear csb hmb
              go_wp2_with fail
              refine wp_region_J 11 (fun w' => w'.cell? ⟨L, 0, none⟩ = some (.slice (some ⟨gO, oO, none⟩) no cO) ∧ w'.cell? ⟨gO, oO + k * 9 + 4, none⟩ = some (.slice (some ⟨gsb, osb, none⟩) 4 capb)) (by kernel_rfl) ?_
              refine wpAnyJ_take (i := 0) (v := ?v0b) (by simp only [List.getElem?_toArray, List.getElem?_cons_succ, List.getElem?_cons_zero, Option.some.injEq]; exact rfl) (by kernel_rfl) (by kernel_rfl) (by kernel_rfl) (by kernel_rfl) (by exact fun _ _ _ h => h) (Or.inl ⟨by rfl, fun w9 hS9 => ?hy0b⟩) (by exact ⟨cbb, cmb⟩) ?rest0b
              case hy0b => (try dsimp only at hS9); go_simp <;> with_reducible rfl
              try simp only [Act.put, List.setIfInBounds_toArray, List.set_cons_zero, List.set_cons_succ]
              refine wpAnyJ_take (i := 1) (v := ?v1b) (by simp only [List.getElem?_toArray, List.getElem?_cons_succ, List.getElem?_cons_zero, Option.some.injEq]; exact rfl) (by kernel_rfl) (by kernel_rfl) (by kernel_rfl) (by kernel_rfl) (by exact fun _ _ _ h => h) (Or.inl ⟨by rfl, fun w9 hS9 => ?hy1b⟩) (by exact ⟨cbb, cmb⟩) ?rest1b
              case hy1b => (try dsimp only at hS9); go_simp <;> with_reducible rfl
              try simp only [Act.put, List.setIfInBounds_toArray, List.set_cons_zero, List.set_cons_succ]
              refine wpAnyJ_take (i := 2) (v := ?v2b) (by simp only [List.getElem?_toArray, List.getElem?_cons_succ, List.getElem?_cons_zero, Option.some.injEq]; exact rfl) (by kernel_rfl) (by kernel_rfl) (by kernel_rfl) (by kernel_rfl) (by exact fun _ _ _ h => h) (Or.inl ⟨by rfl, fun w9 hS9 => ?hy2b⟩) (by exact ⟨cbb, cmb⟩) ?rest2b
              case hy2b => (try dsimp only at hS9); go_simp <;> with_reducible rfl
              try simp only [Act.put, List.setIfInBounds_toArray, List.set_cons_zero, List.set_cons_succ]
              refine wpAnyJ_take (i := 3) (v := ?v3b) (by simp only [List.getElem?_toArray, List.getElem?_cons_succ, List.getElem?_cons_zero, Option.some.injEq]; exact rfl) (by kernel_rfl) (by kernel_rfl) (by kernel_rfl) (by kernel_rfl) (by exact fun _ _ _ h => h) (Or.inl ⟨by rfl, fun w9 hS9 => ?hy3b⟩) (by exact ⟨cbb, cmb⟩) ?rest3b
              case hy3b => (try dsimp only at hS9); go_simp <;> with_reducible rfl
              try simp only [Act.put, List.setIfInBounds_toArray, List.set_cons_zero, List.set_cons_succ]
              refine wpAnyJ_take (i := 4) (v := ?v4b) (by simp only [List.getElem?_toArray, List.getElem?_cons_succ, List.getElem?_cons_zero, Option.some.injEq]; exact rfl) (by kernel_rfl) (by kernel_rfl) (by kernel_rfl) (by kernel_rfl) (by exact fun _ _ _ h => h) (Or.inl ⟨by rfl, fun w9 hS9 => ?hy4b⟩) (by exact ⟨cbb, cmb⟩) ?rest4b
              case hy4b => (try dsimp only at hS9); go_simp <;> with_reducible rfl
              try simp only [Act.put, List.setIfInBounds_toArray, List.set_cons_zero, List.set_cons_succ]
              refine wpAnyJ_take (i := 5) (v := ?v5b) (by simp only [List.getElem?_toArray, List.getElem?_cons_succ, List.getElem?_cons_zero, Option.some.injEq]; exact rfl) (by kernel_rfl) (by kernel_rfl) (by kernel_rfl) (by kernel_rfl) (by exact fun _ _ _ h => h) (Or.inl ⟨by rfl, fun w9 hS9 => ?hy5b⟩) (by exact ⟨cbb, cmb⟩) ?rest5b
              case hy5b => (try dsimp only at hS9); go_simp <;> with_reducible rfl
              try simp only [Act.put, List.setIfInBounds_toArray, List.set_cons_zero, List.set_cons_succ]
              refine wpAnyJ_take (i := 6) (v := ?v6b) (by simp only [List.getElem?_toArray, List.getElem?_cons_succ, List.getElem?_cons_zero, Option.some.injEq]; exact rfl) (by kernel_rfl) (by kernel_rfl) (by kernel_rfl) (by kernel_rfl) (by exact fun _ _ _ h => h) (Or.inl ⟨by rfl, fun w9 hS9 => ?hy6b⟩) (by exact ⟨cbb, cmb⟩) ?rest6b
              case hy6b => (try dsimp only at hS9); go_simp <;> with_reducible rfl
              try simp only [Act.put, List.setIfInBounds_toArray, List.set_cons_zero, List.set_cons_succ]
              refine wpAnyJ_take (i := 7) (v := ?v7b) (by simp only [List.getElem?_toArray, List.getElem?_cons_succ, List.getElem?_cons_zero, Option.some.injEq]; exact rfl) (by kernel_rfl) (by kernel_rfl) (by kernel_rfl) (by kernel_rfl) (by exact fun _ _ _ h => h) (Or.inl ⟨by rfl, fun w9 hS9 => ?hy7b⟩) (by exact ⟨cbb, cmb⟩) ?rest7b
              case hy7b => (try dsimp only at hS9); go_simp <;> with_reducible rfl
              try simp only [Act.put, List.setIfInBounds_toArray, List.set_cons_zero, List.set_cons_succ]
              refine wpAnyJ_one (i := 8) (by simp only [List.getElem?_toArray, List.getElem?_cons_succ, List.getElem?_cons_zero, Option.some.injEq]; exact rfl) (by kernel_rfl) (fun K hK => ?_)
              go_simp
              refine hK _ _ (HSb.out _ (Ext.kept (((Ext.refl Wa).drew).alloc _))) ?_
              try simp only [Act.put, List.setIfInBounds_toArray, List.set_cons_zero, List.set_cons_succ]
              clear hK K
              refine wpAnyJ_one (i := 9) (by simp only [List.getElem?_toArray, List.getElem?_cons_succ, List.getElem?_cons_zero, Option.some.injEq]; exact rfl) (by kernel_rfl) (fun K hK => ?_)
              go_simp
              refine (spec_l1Pick w0 _ g _ [⟨#[53, 53, 53, 32, 49, 50, 51, 52]⟩, ⟨#[53, 53, 53, 49, 50, 51, 52]⟩, ⟨#[53, 53, 53, 45, 57, 57, 57, 57]⟩] (by decide) (by decide) (c7a.ext (((Ext.refl Wa).drew).alloc _)) (fun w4 k4 => (lits_kept rfl (by decide) (by decide) (show g < Wa.drew.heap.size from hwgb) k4).sl)).mono ?_
              rintro e wpb ⟨spb, rfl, hzb, hcpb, hkp0b⟩
              have hkpb : Kept g Wa wpb := (Ext.kept (g := g) (((Ext.refl Wa).drew).alloc _)).trans hkp0b
              refine hK _ _ (HSb.out _ hkpb) ?_
              try simp only [Act.put, List.setIfInBounds_toArray, List.set_cons_zero, List.set_cons_succ]
              clear hK K hkp0b
              refine wpAnyJ_one (i := 10) (by simp only [List.getElem?_toArray, List.getElem?_cons_succ, List.getElem?_cons_zero, Option.some.injEq]; exact rfl) (by kernel_rfl) (fun K hK => ?_)
              go_simp
              refine hK _ _ (HSb.out _ hkpb) ?_
              try simp only [Act.put, List.setIfInBounds_toArray, List.set_cons_zero, List.set_cons_succ]
              clear hK K
              have o6b := o7a.kept hgF5.out hkpb
              have b6b := bL.kept hLg.out hkpb
              obtain ⟨mqb, Fqb, cqb, _, _, _, hsqb, hNqb, hmqb, hinqb⟩ := o6b.op_cells N5.out hxb
              have em2b : mqb = .slice (some ⟨gsb, osb, none⟩) 4 capb := Option.some.inj ((cqb 4 (by decide)).symm.trans (HSb.out _ hkpb).2)
              subst em2b
              obtain ⟨gtb, otb, ctb, etb, hgtb, ctlb, ftlb, hstb⟩ := hmqb.str_store hNqb (i := 3) (by rw [hlb]; decide)
              injection etb with etb enb ecb
              clear enb ecb
              injection etb with etb
              injection etb with et1b et2b _
              subst et1b
              subst et2b
              skip
              refine wpAnyJ_last (by simp only [List.getElem?_toArray, List.getElem?_cons_succ, List.getElem?_cons_zero, Option.some.injEq]; exact rfl) (by kernel_rfl) (by kernel_rfl) (fun K hK => ?_)
              go_simp
              refine hK _ _ ?_
              clear hK K
              have hz2b : spb.size ≤ maxLen := Nat.le_trans hzb (by decide)
              have o7b := hinqb (wpb.setCell ⟨gsb, osb + 3, none⟩ (.string spb)) _ (fun b hb hn => keep_setCell (fun e => hn (by rw [e]; exact hgtb))) (hstb spb hz2b)
              have hsgb : gsb ∈ F5 := hsqb _ hgtb
              have b7b : Blk (wpb.setCell ⟨gsb, osb + 3, none⟩ (.string spb)) L 40 [.slice (some ⟨gO, oO, none⟩) no cO] := b6b.other (fun e => hLF.out (by rw [e]; exact hsgb))
              have c7b := hcpb.setN (p := ⟨gsb, osb + 3, none⟩) (hF5g.out _ hsgb) (.string spb)
              have k7b := (k7a.trans hkpb).setN (p := ⟨gsb, osb + 3, none⟩) (hF5.out _ hsgb) (.string spb)
              obtain ⟨Wb, hWb⟩ : ∃ W, W = wpb.setCell ⟨gsb, osb + 3, none⟩ (.string spb) := ⟨_, rfl⟩
              rw [← hWb] at o7b b7b c7b k7b ⊢
              have hflb : (ob.record.fields.set 3 spb).length = ob.record.fields.length := List.length_set ..
              clear hWb hinqb hstb hcpb o6b b6b cmb cbb hkpb cqb ctlb ftlb
              have HPN := hid (show ∀ o ∈ (ops.set k ob).set k ⟨ob.kind, ⟨ob.record.source, ob.record.key, ob.record.version, ob.record.fields.set 3 spb⟩, ob.verdict⟩, putLen o from fun o hm => by
                rcases List.mem_or_eq_of_mem_set hm with hm | rfl
                · rcases List.mem_or_eq_of_mem_set hm with hm | rfl
                  · exact hpl.out o hm
                  · exact fun _ => hlb
                · exact fun _ => hflb.trans hlb)
              have HLN := hid (show ((ops.set k ob).set k ⟨ob.kind, ⟨ob.record.source, ob.record.key, ob.record.version, ob.record.fields.set 3 spb⟩, ob.verdict⟩).length = no from by rw [List.length_set, List.length_set]; exact hlen.out)
              go_wp2
              go_roundw
              case rel => exact ⟨k + 1, _, by have := HLT.out; omega, by go_num, o7b, HLN, HPN, b7b, c7b, k7b⟩
              case measure => have := HLT.out; simp [intOf]; omega
          · have hkb : (oq.kind == 1) = false := by simp [hkd]
            clear hkd
            go_wp2
            go_roundw
            case rel => exact ⟨k + 1, ops, by have := HLT.out; omega, by go_num, ho, hlen, hpl, bL, hcu, hkk⟩
            case measure => have := HLT.out; simp [intOf]; omega
        · obtain ⟨Al, cl, el, _⟩ := HB.out.sl.form
          subst el
          have hB6 := HB.out.kept hg hkk
          have hkw := HK.out.trans hkk
          have hbw := hkw.1
          have HFR := hid (show (∀ b ∈ F5, b ∉ F ∧ (Value.slice Al xs.length cl).ownBlock ≠ some b) ∧ F5.Nodup ∧ ∀ b ∈ F5, w.heap.size ≤ b from ⟨fun b hb => ⟨fun hm => by have := HB.out.lt.1 b hm; have := hF5.out b hb; omega, fun e => by have := (HB.out.lt.2 b e).1; have := hF5.out b hb; omega⟩, N5.out, fun b hb => Nat.le_trans HK.out.1 (hF5.out b hb)⟩)
          have HO := hid ho
          have hn5 : n ≤ 5 := by have := HNX.out; omega
          have HB6 := hid hB6
          have HLX := hid (show xs.length + 1 ≤ 1099511627776 from by have := HNX.out; omega)
          clear hB6
          go_wp2_with (at_builtin; refine wpList_app1g (R := batchO) elemBatch (by decide) rfl _ _ rfl HB6.out rfl wr.heap.size 1 rfl rfl (one_bat _ _ _) (y := ⟨ops⟩) (G := F5) ⟨_, rfl, trivial, HO.out⟩ HFR.out HLX.out (by decide) hbw ?_; intro v9 w9 hB9 hE9 hs9 hk9)
          go_roundw
          case rel => exact ⟨xs ++ [⟨ops⟩], F ++ F5, n - 1, _, rfl, (by (have e9 : ((n - 1 : Nat) : Int) = (n : Int) - 1 := by omega); rw [e9]), by have := HNX.out; simp only [List.length_append, List.length_singleton]; omega, hB9, hcu.keep (hE9 w0 (by omega) hcu.base.1) (hk9 g (by omega)), ⟨by omega, fun b hb hne => (hk9 b (by omega)).trans (hkw.2 b hb hne)⟩⟩
          case measure => simp [intOf]; omega
    · obtain rfl : n = 0 := by omega
      go_wp2
      go_ret
      exact ⟨_, xs, F, rfl, hB, by omega, hc, hk⟩

end Go.Proofs.YtfcbapaojoecgaaGreat

namespace Go.Proofs.YtfcbapaojoecgaaGreat
open Go.RowKit

def StoAny (w0 w : World) (g : Nat) (p : Store → Prop) (e : Ending) (w2 : World) : Prop := ∃ rv vv s F, e = .returned (.agg #[.int .i64 s.version, rv, vv]) ∧ Rows2 w2 w.heap.size rv vv s.records s.verdicts F ∧ I64 s.version ∧ Cur w0 w2 g ∧ Kept g w w2 ∧ p s
theorem Sx.kept {w w2 : World} {base gx g : Nat} {ver : Int} {rv vv : Value} {rs : List Record} {vs : List Verdict} {F : List Nat} (h : Sx w base gx ver rv vv rs vs F) (hg : g < base) (k : Kept g w w2) : Sx w2 base gx ver rv vv rs vs F := by
  obtain ⟨n1, n2⟩ := h.r.r.below hg
  obtain ⟨_, n3⟩ := h.r.v.below hg
  have hb := h.hb
  exact ⟨h.b.kept (by omega) k, h.r.kp k n1 n2 n3, h.nF, h.nr, h.nv, h.hb⟩

set_option maxHeartbeats 1000000 in
set_option maxRecDepth 20000 in
theorem spec_l30Store (w0 w : World) (g : Nat) (hc : Cur w0 w g) :
    Calls Tryz.prog 114 #[.pointer (some ⟨g, 0, none⟩)] w (StoAny w0 w g fun s => okSto s = true) := by
  have hg := hc.base.2.2
  have h0g := hc.base.2.1
  obtain ⟨W1, hW1⟩ : ∃ W1, W1 = w.alloc (.cells #[.int .i64 0, .slice none 0 0, .slice none 0 0] 34) := ⟨_, rfl⟩
  have xw1 : Ext w W1 := by rw [hW1]; exact (Ext.refl w).alloc _
  have hsz : W1.heap.size = w.heap.size + 1 := by rw [hW1]; simp
  have bZ : Blk W1 w.heap.size 34 [.int .i64 0, .slice none 0 0, .slice none 0 0] := by rw [hW1]; exact Blk.new w 34 #[.int .i64 0, .slice none 0 0, .slice none 0 0]
  have HS := hid hsz
  have HG := hid hg
  have hc1 := hc.ext xw1
  have k1 : Kept g w W1 := Ext.kept xw1
  go_enter Tryz.func114, Tryz.ntmps114
  go_wp2_with fail
  rw [← hW1]
  clear hW1 hc hsz
  refine (spec_l30Batches w0 _ g hc1).mono ?_
  rintro e w3 ⟨v, xs, F3, rfl, hB3, hl3, hc3, hk3⟩
  have bZ3 := bZ.kept (by omega) hk3
  have k3 := k1.trans hk3
  go_wp2_with fail
  refine (spec_ReplayBatches _ xs _ hB3.sl (by omega)).mono ?_
  rintro e w4 ⟨rv, vv, F, rfl, R, hI, x4⟩
  have hok := (repB_ok xs).1
  obtain ⟨r, hr⟩ : ∃ r, r = repB xs := ⟨_, rfl⟩
  rw [← hr] at R hI hok ⊢
  clear hr
  obtain ⟨s, n⟩ := r
  dsimp only at R hI hok ⊢
  obtain ⟨Ar, cr, er, _⟩ := R.r.sl.form
  subst er
  obtain ⟨Av, cv, ev, _⟩ := R.v.sl.form
  subst ev
  have hS5 := Sx.new (ver := s.version) (R.low (base2 := W1.heap.size) hk3.1) (Nat.le_trans hk3.1 x4.size)
  have x5 : Ext w3 (w4.alloc (.cells #[.int .i64 s.version, .slice Ar s.records.length cr, .slice Av s.verdicts.length cv] 34)) := x4.alloc _
  have bZ5 := bZ3.ext x5
  have c5 := hc3.ext x5
  have k5 := k3.trans (Ext.kept x5)
  have HI := hid hI
  have HOK := hid hok
  clear R hB3 bZ3 bZ hc3 hk3 k3 k1 hc1 xw1 x4 x5 hI hok
  obtain ⟨⟨g0, g1, g2⟩, gf⟩ := hS5.cells
  obtain ⟨⟨z0, z1, z2⟩, zf⟩ := (⟨⟨bZ5.cells.1 0, bZ5.cells.1 1, bZ5.cells.1 2⟩, bZ5.cells.2⟩ : (_ ∧ _ ∧ _) ∧ _)
  have b9 := Blk.store3 bZ5 (.int .i64 s.version) (.slice Ar (s.records).length cr) (.slice Av (s.verdicts).length cv)
  have r0 := b9.cells.1 0
  have r1 := b9.cells.1 1
  have r2 := b9.cells.1 2
  have HFIN := hid (show Rows2 ((((w4.alloc (.cells #[.int .i64 s.version, .slice Ar s.records.length cr, .slice Av s.verdicts.length cv] 34)).setCell ⟨w.heap.size, 0, none⟩ (.int .i64 s.version)).setCell ⟨w.heap.size, 1, none⟩ (.slice Ar (s.records).length cr)).setCell ⟨w.heap.size, 2, none⟩ (.slice Av (s.verdicts).length cv)) w.heap.size (.slice Ar (s.records).length cr) (.slice Av (s.verdicts).length cv) (s.records) (s.verdicts) F ∧ Cur w0 ((((w4.alloc (.cells #[.int .i64 s.version, .slice Ar s.records.length cr, .slice Av s.verdicts.length cv] 34)).setCell ⟨w.heap.size, 0, none⟩ (.int .i64 s.version)).setCell ⟨w.heap.size, 1, none⟩ (.slice Ar (s.records).length cr)).setCell ⟨w.heap.size, 2, none⟩ (.slice Av (s.verdicts).length cv)) g ∧ Kept g w ((((w4.alloc (.cells #[.int .i64 s.version, .slice Ar s.records.length cr, .slice Av s.verdicts.length cv] 34)).setCell ⟨w.heap.size, 0, none⟩ (.int .i64 s.version)).setCell ⟨w.heap.size, 1, none⟩ (.slice Ar (s.records).length cr)).setCell ⟨w.heap.size, 2, none⟩ (.slice Av (s.verdicts).length cv)) from by
    have hsz := HS.out
    obtain ⟨n1, n2⟩ := hS5.r.r.below (g := w.heap.size) (by omega)
    obtain ⟨_, n3⟩ := hS5.r.v.below (g := w.heap.size) (by omega)
    exact ⟨(hS5.r.kp (Kp.store3 w.heap.size 0 _ _ _ _) n1 n2 n3).low (by omega), (((c5.setN HG.out _).setN HG.out _).setN HG.out _), (((k5.setN (Nat.le_refl _) _).setN (Nat.le_refl _) _).setN (Nat.le_refl _) _)⟩)
  clear b9
  go_wp2
  refine bodyPost_ret (v := .agg #[.int .i64 s.version, .slice Ar (s.records).length cr, .slice Av (s.verdicts).length cv]) (by simp [results, Tryz.results114, go_sem, r0, r1, r2]) rfl ?_
  exact ⟨_, _, ⟨s.version, s.records, s.verdicts⟩, F, rfl, HFIN.out.1, HI.out, HFIN.out.2.1, HFIN.out.2.2, HOK.out⟩

theorem Sx.putR2 {w w2 : World} {base gx : Nat} {ver : Int} {rv vv v2 : Value} {rs rs2 : List Record} {vs : List Verdict} {F F2 : List Nat} (h : Sx w base gx ver rv vv rs vs F) (hB : Bld recordO w2 base 72 v2 rs2 F2)
    (k2 : ∀ b, b < w.heap.size → rv.ownBlock ≠ some b → w2.heap[b]? = w.heap[b]?) (nF2 : gx ∉ F2) (nr2 : v2.ownBlock ≠ some gx) (ap2 : ∀ g, vv.ownBlock = some g → g ∉ F2 ∧ v2.ownBlock ≠ some g) :
    (Blk w2 gx 34 [.int .i64 ver, rv, vv]) ∧ Sx (w2.setCell ⟨gx, 1, none⟩ v2) base gx ver v2 vv rs2 vs F2 := by
  have b2 : Blk w2 gx 34 [.int .i64 ver, rv, vv] := h.b.keep (k2 gx h.lt h.nr)
  have hv2 : Bld verdictO w2 base 74 vv vs [] := h.r.v.keepO (fun b hb => by cases hb) fun g hg => k2 g (h.r.v.lt.2 g hg).1 fun e => (h.r.ap g hg).2 e
  exact ⟨b2, ⟨Blk.store (done := [.int .i64 ver]) (rest := [vv]) b2 rfl v2, ⟨hB.kp (Kp.set gx 1 v2 w2) nF2 nr2, hv2.kp (Kp.set gx 1 v2 w2) (fun e => by cases e) h.nv, ap2⟩, nF2, nr2, h.nv, h.hb⟩⟩
theorem Sx.putV2 {w w2 : World} {base gx : Nat} {ver : Int} {rv vv v2 : Value} {rs : List Record} {vs vs2 : List Verdict} {F : List Nat} (h : Sx w base gx ver rv vv rs vs F) (hB : Bld verdictO w2 base 74 v2 vs2 ([] ++ []))
    (k2 : ∀ b, b < w.heap.size → vv.ownBlock ≠ some b → w2.heap[b]? = w.heap[b]?) (k5 : ∀ g, v2.ownBlock = some g → vv.ownBlock = some g ∨ w.heap.size ≤ g) :
    (Blk w2 gx 34 [.int .i64 ver, rv, vv]) ∧ Sx (w2.setCell ⟨gx, 2, none⟩ v2) base gx ver rv v2 rs vs2 F := h.putV hB k2 k5
theorem step_app1o {P : Program} {α : Type} {R : RepO α} {ops : Array Oper} {o : Oper} {a : Act} {w : World} {K : Act → World → Prop} {Q : Exit → Act → World → Prop} {Z : Prop} {t e : TypeId} {bytes : Nat} (E : ElemT P t e R.n bytes) (hsz : 0 < R.n)
    (hgd : o.guard = none) (s x : Operand) (ho : o.op = .call { callee := .builtin .append, args := #[s, x], argTypes := #[t, t] })
    {base : Nat} {v : Value} {xs : List α} {F : List Nat} (hb : Bld R w base e v xs F) (hs : a.eval s = v) {c : Array Value} {T : TypeId} {fr : Nat × Nat} (g k : Nat) (hx : a.eval x = .slice (some ⟨g, 0, none⟩) 1 k) (hg : w.heap[g]? = some (.cells c T fr))
    (h1 : ∀ u ∈ c.toList, u.oneCell' = true) {y : α} {G : List Nat} (hy : R.own w c.toList y G) (hG : (∀ b ∈ G, b ∉ F ∧ v.ownBlock ≠ some b) ∧ G.Nodup ∧ ∀ b ∈ G, base ≤ b)
    (hbytes : xs.length + 1 ≤ 1099511627776) (hby : bytes ≤ 128) (hbase : base ≤ w.heap.size) {w0 : World} (h0 : w0.heap.size ≤ base) (hx0 : Ext w0 w)
    (h : ∀ v' w', Bld R w' base e v' (xs ++ [y]) (F ++ G) → Ext w0 w' → (∀ b, b < w.heap.size → v.ownBlock ≠ some b → w'.heap[b]? = w.heap[b]?) → (v'.ownBlock = v.ownBlock ∨ v'.ownBlock = some w.heap.size) → K (a.put o.dst v') w') :
    if Region.wanted o (yielded ops a.tmps) = true then Oper.wp P o a w K Q else Z := by
  have hw : Region.wanted o (yielded ops a.tmps) = true := by simp [Region.wanted, hgd]
  rw [if_pos hw]
  obtain ⟨ht, i, z, hi, hz, hsize, hby2, hzs⟩ := E
  have hl := hb.lt
  obtain ⟨cs, b1, b2, b3, b4, b5⟩ := hb
  refine wp_append_lies w s x t ho base e i z R.n bytes ht hi hz hsize hby2 hzs hsz v xs.length cs hs b1 ⟨g, 0, none⟩ 1 k c.toList hx (by rw [R.len (R.own_rd hy), Nat.one_mul]) (World.news_of_block hg) h1 (by decide)
    (by unfold maxLen; omega) (Nat.le_trans (Nat.mul_le_mul hbytes hby) (by decide)) hbase w.heap.size rfl ?_
  intro g' cap w' hown hgr hat _
  have hat2 : (Value.slice (some ⟨g', 0, none⟩) (xs.length + 1) cap).ownBlock = v.ownBlock ∨ (Value.slice (some ⟨g', 0, none⟩) (xs.length + 1) cap).ownBlock = some w.heap.size := by
    rcases hat with hat | hat
    · exact .inl hat.symm
    · exact .inr (by rw [hat]; rfl)
  obtain ⟨h5, h6⟩ := bld_grown hl b2 b3 b4 b5 hy hG hown hgr hat2
  exact h _ _ h5 (h6 w0 h0 hx0) (fun b hb2 hne => hgr.block b hb2 (fun e => hne e.symm)) hat2
def stoP (s : Store) : Prop := s.records.length ≤ 16 ∧ s.verdicts.length ≤ 16 ∧ ∀ r ∈ s.records, r.fields.length ≤ 1048576

set_option maxHeartbeats 4000000 in
set_option maxRecDepth 20000 in
theorem spec_l30Any (w0 w : World) (g : Nat) (hc : Cur w0 w g) :
    Calls Tryz.prog 65 #[.pointer (some ⟨g, 0, none⟩)] w (StoAny w0 w g stoP) := by
  have hg := hc.base.2.2
  have h0g := hc.base.2.1
  obtain ⟨W1, hW1⟩ : ∃ W1, W1 = w.alloc (.cells #[.int .i64 0, .slice none 0 0, .slice none 0 0] 34) := ⟨_, rfl⟩
  have xw1 : Ext w W1 := by rw [hW1]; exact (Ext.refl w).alloc _
  have hsz : W1.heap.size = w.heap.size + 1 := by rw [hW1]; simp
  have bZ : Blk W1 w.heap.size 34 [.int .i64 0, .slice none 0 0, .slice none 0 0] := by rw [hW1]; exact Blk.new w 34 #[.int .i64 0, .slice none 0 0, .slice none 0 0]
  have HS := hid hsz
  have HG := hid hg
  have hc1 := hc.ext xw1
  have k1 : Kept g w W1 := Ext.kept xw1
  go_enter Tryz.func65, Tryz.ntmps65
  go_wp2_with fail
  rw [← hW1]
  clear hW1 hc hsz
  refine (spec_l30Store w0 _ g hc1).mono ?_
  rintro e w3 ⟨rv, vv, s, F, rfl, R, hI, hc3, hk3, hok⟩
  obtain ⟨Ar, cr, er, _⟩ := R.r.sl.form
  subst er
  obtain ⟨Av, cv, ev, _⟩ := R.v.sl.form
  subst ev
  have k3 := k1.trans hk3
  have hs3 := hk3.1
  have hall := okSto_all hok
  have HP := hid (show s.records.length ≤ 8 ∧ s.verdicts.length ≤ 8 ∧ ∀ r ∈ s.records, r.fields.length ≤ 1048576 from ⟨hall.2.2.2.2.2.1, hall.2.2.2.2.2.2, fun r hr => by have := okRec_len (hall.1.2 r hr); omega⟩)
  have y3 : Ext w3 (w3.alloc (.cells #[.int .i64 s.version, .slice Ar s.records.length cr, .slice Av s.verdicts.length cv] 34)) := (Ext.refl w3).alloc _
  have hS5 := Sx.new (ver := s.version) R hs3
  have c5 := hc3.ext y3
  have k5 := k3.trans (Ext.kept y3)
  have bZ5 := ((bZ.kept (by omega) hk3).ext y3)
  obtain ⟨ver, rs, vs⟩ := s
  dsimp only at hS5 c5 k5 bZ5 hI HP ⊢
  have HGX := hid (show g < w3.heap.size ∧ w.heap.size < w3.heap.size from by have := HS.out; omega)
  have HI := hid hI
  have HG1 := hid (show g < W1.heap.size from by have := HS.out; omega)
  have HBS := hid (show w.heap.size < W1.heap.size from by have := HS.out; omega)
  have HW0 := hid (show w0.heap.size ≤ W1.heap.size from by have := HS.out; omega)
  clear R hc3 hk3 k3 hok hall y3 hI hc1 k1 bZ xw1
  go_wp2_with fail
  obtain ⟨Wq, hWq⟩ : ∃ W, W = w3.alloc (.cells #[.int .i64 ver, .slice Ar rs.length cr, .slice Av vs.length cv] 34) := ⟨_, rfl⟩
  rw [← hWq] at hS5 c5 k5 bZ5 ⊢
  obtain ⟨gx, hgx⟩ : ∃ gx, gx = w3.heap.size := ⟨_, rfl⟩
  rw [← hgx] at hS5 HGX ⊢
  clear hWq hgx
  refine (spec_l1Below w0 _ g 14 (by decide) c5).mono ?_
  rintro e w6 ⟨x, rfl, hx, hcq, hk6⟩
  have hSq := hS5.kept HG1.out hk6
  have hkq := k5.trans hk6
  have bzq := bZ5.kept (by omega) hk6
  clear hS5 k5 bZ5 c5 hk6
  obtain ⟨Wq2, hWq2⟩ : ∃ W, W = w6 := ⟨_, rfl⟩
  rw [← hWq2] at hSq hkq bzq hcq ⊢
  clear hWq2 hs3
  obtain ⟨Wq, hWqq⟩ : ∃ W, W = Wq2 := ⟨_, rfl⟩
  rw [← hWqq] at hSq hkq bzq hcq ⊢
  clear hWqq
  have HLN := hid (show rs.length ≤ 8 ∧ vs.length ≤ 8 from ⟨HP.out.1, HP.out.2.1⟩)
  by_cases h0 : x = 0
  · subst h0
    have hcg := hcq.base.2.2
    go_wp2_with fail
    refine (spec_l1PickInt w0 _ g _ [-1, 999, 1000] (by show 1 ≤ 3 ∧ 3 ≤ 256; decide) (hcq.ext ((Ext.refl _).alloc _)) (fun w4 k4 => (lit_kept rfl (by simp [I64]) (by show 3 ≤ maxLen; decide) hcg k4).sl)).mono ?_
    rintro e w7 ⟨y, rfl, hy, hc7, hk7⟩
    replace hk7 := (Ext.kept (g := g) ((Ext.refl _).alloc _)).trans hk7
    have hS7 := hSq.kept HG1.out hk7
    have hk07 := hkq.trans hk7
    have bz7 := bzq.kept (by omega) hk7
    obtain ⟨⟨p0, p1, p2⟩, pf⟩ := hS7.cells
    have hS8 := hS7.setVer y
    have c8 : Cur w0 (w7.setCell ⟨gx, 0, none⟩ (.int .i64 y)) g := hc7.setN (p := ⟨gx, 0, none⟩) HGX.out.1 _
    have k8 : Kept g w (w7.setCell ⟨gx, 0, none⟩ (.int .i64 y)) := hk07.setN (p := ⟨gx, 0, none⟩) (Nat.le_of_lt HGX.out.2) _
    have bz8 : Blk (w7.setCell ⟨gx, 0, none⟩ (.int .i64 y)) w.heap.size 34 [.int .i64 0, .slice none 0 0, .slice none 0 0] := bz7.other (Nat.ne_of_lt HGX.out.2)
    have HY := hid hy
    clear hSq hkq bzq hcq hS7 hk07 bz7 hc7 hk7 hy
    obtain ⟨⟨g0, g1, g2⟩, gf⟩ := hS8.cells
    obtain ⟨⟨z0, z1, z2⟩, zf⟩ := (⟨⟨bz8.cells.1 0, bz8.cells.1 1, bz8.cells.1 2⟩, bz8.cells.2⟩ : (_ ∧ _ ∧ _) ∧ _)
    have b9 := Blk.store3 bz8 (.int .i64 y) (.slice Ar (rs).length cr) (.slice Av (vs).length cv)
    have r0 := b9.cells.1 0
    have r1 := b9.cells.1 1
    have r2 := b9.cells.1 2
    have HFIN := hid (show Rows2 ((((w7.setCell ⟨gx, 0, none⟩ (.int .i64 y)).setCell ⟨w.heap.size, 0, none⟩ (.int .i64 y)).setCell ⟨w.heap.size, 1, none⟩ (.slice Ar (rs).length cr)).setCell ⟨w.heap.size, 2, none⟩ (.slice Av (vs).length cv)) w.heap.size (.slice Ar (rs).length cr) (.slice Av (vs).length cv) (rs) (vs) F ∧ Cur w0 ((((w7.setCell ⟨gx, 0, none⟩ (.int .i64 y)).setCell ⟨w.heap.size, 0, none⟩ (.int .i64 y)).setCell ⟨w.heap.size, 1, none⟩ (.slice Ar (rs).length cr)).setCell ⟨w.heap.size, 2, none⟩ (.slice Av (vs).length cv)) g ∧ Kept g w ((((w7.setCell ⟨gx, 0, none⟩ (.int .i64 y)).setCell ⟨w.heap.size, 0, none⟩ (.int .i64 y)).setCell ⟨w.heap.size, 1, none⟩ (.slice Ar (rs).length cr)).setCell ⟨w.heap.size, 2, none⟩ (.slice Av (vs).length cv)) from by
      have hsz := HS.out
      obtain ⟨n1, n2⟩ := hS8.r.r.below (g := w.heap.size) (by omega)
      obtain ⟨_, n3⟩ := hS8.r.v.below (g := w.heap.size) (by omega)
      exact ⟨(hS8.r.kp (Kp.store3 w.heap.size 0 _ _ _ _) n1 n2 n3).low (by omega), (((c8.setN HG.out _).setN HG.out _).setN HG.out _), (((k8.setN (Nat.le_refl _) _).setN (Nat.le_refl _) _).setN (Nat.le_refl _) _)⟩)
    clear b9
    go_wp2
    refine bodyPost_ret (v := .agg #[.int .i64 y, .slice Ar (rs).length cr, .slice Av (vs).length cv]) (by simp [results, Tryz.results65, go_sem, r0, r1, r2]) rfl ?_
    exact ⟨_, _, ⟨y, rs, vs⟩, F, rfl, HFIN.out.1, HY.out, HFIN.out.2.1, HFIN.out.2.2, ⟨by have := HP.out.1; show rs.length ≤ 16; omega, by have := HP.out.2.1; show vs.length ≤ 16; omega, HP.out.2.2⟩⟩
  · by_cases h1 : x = 1
    · subst h1
      have cw : Wq.cell? ⟨gx, 1, none⟩ = some (.slice Ar rs.length cr) := hSq.cells.1.2.1
      have HSQ := hid (show ∀ W, Kept g Wq W → Sx W W1.heap.size gx ver (.slice Ar rs.length cr) (.slice Av vs.length cv) rs vs F from fun W y => hSq.kept HG1.out y)
      have hsq := hkq.1
      have HRL := hid hSq.r.r.lt
      have HVL := hid hSq.r.v.lt
      have HGL := hid hSq.lt
      have HBW := hid (Nat.le_trans hSq.hb (Nat.le_of_lt hSq.lt))
      clear hSq
      go_wp2_with fail
      refine wp_region_J 7 (fun w' => w'.cell? ⟨gx, 1, none⟩ = some (.slice Ar rs.length cr)) (by kernel_rfl) ?_
      refine wpAnyJ_take (i := 0) (v := ?v0s1) (by simp only [List.getElem?_toArray, List.getElem?_cons_succ, List.getElem?_cons_zero, Option.some.injEq]; exact rfl) (by kernel_rfl) (by kernel_rfl) (by kernel_rfl) (by kernel_rfl) (by exact fun _ _ _ h => h) (Or.inl ⟨by rfl, fun w9 hS9 => ?hy0s1⟩) (by exact cw) ?rest0s1
      case hy0s1 => (try dsimp only at hS9); go_simp <;> with_reducible rfl
      try simp only [Act.put, List.setIfInBounds_toArray, List.set_cons_zero, List.set_cons_succ]
      refine wpAnyJ_take (i := 1) (v := ?v1s1) (by simp only [List.getElem?_toArray, List.getElem?_cons_succ, List.getElem?_cons_zero, Option.some.injEq]; exact rfl) (by kernel_rfl) (by kernel_rfl) (by kernel_rfl) (by kernel_rfl) (by exact fun _ _ _ h => h) (Or.inl ⟨by rfl, fun w9 hS9 => ?hy1s1⟩) (by exact cw) ?rest1s1
      case hy1s1 => (try dsimp only at hS9); go_simp <;> with_reducible rfl
      try simp only [Act.put, List.setIfInBounds_toArray, List.set_cons_zero, List.set_cons_succ]
      refine wpAnyJ_take (i := 2) (v := ?v2s1) (by simp only [List.getElem?_toArray, List.getElem?_cons_succ, List.getElem?_cons_zero, Option.some.injEq]; exact rfl) (by kernel_rfl) (by kernel_rfl) (by kernel_rfl) (by kernel_rfl) (by exact fun _ _ _ h => h) (Or.inl ⟨by rfl, fun w9 hS9 => ?hy2s1⟩) (by exact cw) ?rest2s1
      case hy2s1 => (try dsimp only at hS9); go_simp <;> with_reducible rfl
      try simp only [Act.put, List.setIfInBounds_toArray, List.set_cons_zero, List.set_cons_succ]
      refine wpAnyJ_one (i := 3) (by simp only [List.getElem?_toArray, List.getElem?_cons_succ, List.getElem?_cons_zero, Option.some.injEq]; exact rfl) (by kernel_rfl) (fun K hK => ?_)
      go_simp
      refine (spec_l8Any w0 _ g (hcq.ext (Ext.refl _).drew)).mono ?_
      rintro e w4 ⟨v4, r, F4, rfl, ⟨f4, rfl, ok4, o4⟩, n4, hc4, hk40, hl4⟩
      obtain ⟨A4, c4, e4, _⟩ := o4.form
      subst e4
      have hk4 : Kept g Wq w4 := (Kept.refl g Wq).drew.trans hk40
      have hS4 := HSQ.out w4 hk4
      refine hK _ _ (hS4.cells.1.2.1) ?_
      try simp only [Act.put, List.setIfInBounds_toArray, List.set_cons_zero, List.set_cons_succ]
      clear hK K
      refine wpAnyJ_one (i := 4) (by simp only [List.getElem?_toArray, List.getElem?_cons_succ, List.getElem?_cons_zero, Option.some.injEq]; exact rfl) (by kernel_rfl) (fun K hK => ?_)
      go_simp
      have y4 : Ext w4 (w4.alloc (.cells #[.int .i64 r.source, .int .i64 r.key, .int .i64 r.version, .slice A4 r.fields.length c4] 72)) := (Ext.refl w4).alloc _
      have hS4b := hS4.ext y4
      refine hK _ _ (hS4b.cells.1.2.1) ?_
      try simp only [Act.put, List.setIfInBounds_toArray, List.set_cons_zero, List.set_cons_succ]
      clear hK K
      have hw4 := hk4.1
      have hw1 := HBS.out
      have HFR := hid (show (∀ b ∈ F4, b ∉ F ∧ (.slice Ar rs.length cr : Value).ownBlock ≠ some b) ∧ (F4).Nodup ∧ ∀ b ∈ F4, W1.heap.size ≤ b from ⟨fun b hb => ⟨fun h => by have h9 : Wq.heap.size ≤ b := n4.2 b hb; have := HRL.out.1 b h; omega, fun e => by have h9 : Wq.heap.size ≤ b := n4.2 b hb; have := (HRL.out.2 b e).1; omega⟩, n4.1, fun b hb => by have h9 : Wq.heap.size ≤ b := n4.2 b hb; have := HBW.out; omega⟩)
      refine wpAnyJ_one (i := 5) (by simp only [List.getElem?_toArray, List.getElem?_cons_succ, List.getElem?_cons_zero, Option.some.injEq]; exact rfl) (by kernel_rfl) (fun K hK => ?_)
      refine step_app1o (R := recordO) elemRec (by decide) rfl _ _ rfl hS4b.r.r rfl w4.heap.size 1 rfl (heap_alloc_new w4 (.cells #[.int .i64 r.source, .int .i64 r.key, .int .i64 r.version, .slice A4 r.fields.length c4] 72)) (one_rec _ _ _ _ _ _) (y := r) (G := F4) ⟨_, rfl, ok4, o4.ext y4⟩ HFR.out (by have := HLN.out; omega) (by decide) (by have := HBW.out; rw [World.size_alloc]; omega) (w0 := w0) HW0.out (hc4.ext y4).base.1 ?_
      intro v9 w9 hB9 hx9 hk9 hat9
      obtain ⟨A9, c9, e9, _⟩ := hB9.sl.form
      obtain ⟨n9, hn9⟩ : ∃ n, n = (rs ++ [r]).length := ⟨_, rfl⟩
      rw [← hn9] at e9
      subst e9
      clear hn9
      have hsz9 : w4.heap.size < w9.heap.size := (keep_then (by simp) (hk9 w4.heap.size (by simp) (fun e => by have := (hS4.r.r.lt.2 _ e).1; omega)) (Ext.refl w9)).2
      have hgF4 : ∀ q, q < Wq.heap.size → q ∉ F4 := fun q hq hm => by have h9 : Wq.heap.size ≤ q := n4.2 q hm; omega
      have hown9 : ∀ q, q < (w4.alloc (.cells #[.int .i64 r.source, .int .i64 r.key, .int .i64 r.version, .slice A4 r.fields.length c4] 72)).heap.size → (.slice Ar rs.length cr : Value).ownBlock ≠ some q → (Value.slice A9 n9 c9).ownBlock ≠ some q := fun q hq hn e => by
        rcases hat9 with h | h
        · exact hn (h ▸ e)
        · rw [h] at e
          injection e with e
          omega
      have hgxl := HGL.out
      obtain ⟨b9, hS9⟩ := hS4b.putR2 hB9 hk9 (fun hm => (List.mem_append.1 hm).elim hS4b.nF (hgF4 gx hgxl)) (hown9 gx hS4b.lt hS4b.nr) (fun q hq => ⟨fun hm => (List.mem_append.1 hm).elim (hS4b.r.ap q hq).1 (hgF4 q (HVL.out.2 q hq).1), hown9 q (hS4b.r.v.lt.2 q hq).1 (hS4b.r.ap q hq).2⟩)
      refine hK _ _ (b9.cells.1 1) ?_
      try simp only [Act.put, List.setIfInBounds_toArray, List.set_cons_zero, List.set_cons_succ]
      clear hK K
      refine wpAnyJ_one (i := 6) (by simp only [List.getElem?_toArray, List.getElem?_cons_succ, List.getElem?_cons_zero, Option.some.injEq]; exact rfl) (by kernel_rfl) (fun K hK => ?_)
      go_simp
      refine hK _ _ (b9.cells.1 1) ?_
      try simp only [Act.put, List.setIfInBounds_toArray, List.set_cons_zero, List.set_cons_succ]
      clear hK K
      have f9 := b9.cells.2 1
      have c9q := b9.cells.1 1
      refine wpAnyJ_last (by simp only [List.getElem?_toArray, List.getElem?_cons_succ, List.getElem?_cons_zero, Option.some.injEq]; exact rfl) (by kernel_rfl) (by kernel_rfl) (fun K hK => ?_)
      go_simp
      refine hK _ _ ?_
      clear hK K f9 c9q
      have hq1 : gx ≠ g := by have := HGX.out; omega
      have c9c : Cur w0 (w9.setCell ⟨gx, 1, none⟩ (.slice A9 n9 c9)) g := ((hc4.ext y4).keep hx9 (hk9 g (by rw [World.size_alloc]; omega) (fun e => by have := (hS4.r.r.lt.2 _ e).2; omega))).setN (by have := HGX.out; show g < gx; omega) _
      have k9c : Kept g w (w9.setCell ⟨gx, 1, none⟩ (.slice A9 n9 c9)) := Kept.setN (w2 := w9) ⟨by omega, fun b hb hn9 => (hk9 b (by rw [World.size_alloc]; omega) (fun e => by have := (hS4.r.r.lt.2 _ e).2; omega)).trans ((y4.block (by omega)).trans ((hkq.trans hk4).2 b hb hn9))⟩ (by have := HGX.out; show w.heap.size ≤ gx; omega) _
      have bz9 : Blk (w9.setCell ⟨gx, 1, none⟩ (.slice A9 n9 c9)) w.heap.size 34 [.int .i64 0, .slice none 0 0, .slice none 0 0] := (((bzq.kept (by omega) hk4).ext y4).keep (hk9 w.heap.size (by rw [World.size_alloc]; omega) (fun e => by have := (hS4.r.r.lt.2 _ e).2; omega))).other (by have := HGX.out; show w.heap.size ≠ gx; omega)
      obtain ⟨W9, hW9⟩ : ∃ W9, W9 = w9.setCell ⟨gx, 1, none⟩ (.slice A9 n9 c9) := ⟨_, rfl⟩
      rw [← hW9] at hS9 c9c k9c bz9 ⊢
      clear hW9 b9 hB9 hx9 hk9 hat9 cw hS4 hS4b y4 hc4 hcq hkq bzq
      have HPF := hid (show stoP ⟨ver, rs ++ [r], vs⟩ from ⟨by have := HP.out.1; show (rs ++ [r]).length ≤ 16; simp only [List.length_append, List.length_singleton]; omega, by have := HP.out.2.1; show vs.length ≤ 16; omega, fun q hq => by
        rcases List.mem_append.1 hq with h | h
        · exact HP.out.2.2 q h
        · rw [List.mem_singleton] at h; subst h; omega⟩)
      have hrr := hS9.r
      obtain ⟨F, hF⟩ : ∃ F9, F9 = F ++ F4 := ⟨_, rfl⟩
      rw [← hF] at hS9 hrr
      obtain ⟨⟨g0, g1, g2⟩, gf⟩ := hS9.cells
      obtain ⟨⟨z0, z1, z2⟩, zf⟩ := (⟨⟨bz9.cells.1 0, bz9.cells.1 1, bz9.cells.1 2⟩, bz9.cells.2⟩ : (_ ∧ _ ∧ _) ∧ _)
      have b9 := Blk.store3 bz9 (.int .i64 ver) (.slice A9 n9 c9) (.slice Av (vs).length cv)
      have r0 := b9.cells.1 0
      have r1 := b9.cells.1 1
      have r2 := b9.cells.1 2
      have HFIN := hid (show Rows2 (((W9.setCell ⟨w.heap.size, 0, none⟩ (.int .i64 ver)).setCell ⟨w.heap.size, 1, none⟩ (.slice A9 n9 c9)).setCell ⟨w.heap.size, 2, none⟩ (.slice Av (vs).length cv)) w.heap.size (.slice A9 n9 c9) (.slice Av (vs).length cv) ((rs ++ [r])) (vs) F ∧ Cur w0 (((W9.setCell ⟨w.heap.size, 0, none⟩ (.int .i64 ver)).setCell ⟨w.heap.size, 1, none⟩ (.slice A9 n9 c9)).setCell ⟨w.heap.size, 2, none⟩ (.slice Av (vs).length cv)) g ∧ Kept g w (((W9.setCell ⟨w.heap.size, 0, none⟩ (.int .i64 ver)).setCell ⟨w.heap.size, 1, none⟩ (.slice A9 n9 c9)).setCell ⟨w.heap.size, 2, none⟩ (.slice Av (vs).length cv)) from by
        have hsz := HS.out
        obtain ⟨n1, n2⟩ := hS9.r.r.below (g := w.heap.size) (by omega)
        obtain ⟨_, n3⟩ := hS9.r.v.below (g := w.heap.size) (by omega)
        exact ⟨(hS9.r.kp (Kp.store3 w.heap.size 0 _ _ _ _) n1 n2 n3).low (by omega), (((c9c.setN HG.out _).setN HG.out _).setN HG.out _), (((k9c.setN (Nat.le_refl _) _).setN (Nat.le_refl _) _).setN (Nat.le_refl _) _)⟩)
      clear b9
      go_wp2
      refine bodyPost_ret (v := .agg #[.int .i64 ver, .slice A9 n9 c9, .slice Av (vs).length cv]) (by simp [results, Tryz.results65, go_sem, r0, r1, r2]) rfl ?_
      exact ⟨_, _, ⟨ver, (rs ++ [r]), vs⟩, F, rfl, HFIN.out.1, HI.out, HFIN.out.2.1, HFIN.out.2.2, HPF.out⟩
    · by_cases h2 : x = 2
      · subst h2
        have cw : Wq.cell? ⟨gx, 2, none⟩ = some (.slice Av vs.length cv) := hSq.cells.1.2.2
        have HSQ := hid (show ∀ W, Kept g Wq W → Sx W W1.heap.size gx ver (.slice Ar rs.length cr) (.slice Av vs.length cv) rs vs F from fun W y => hSq.kept HG1.out y)
        have hsq := hkq.1
        have HRL := hid hSq.r.v.lt
        have HVL := hid hSq.r.v.lt
        have HGL := hid hSq.lt
        have HBW := hid (Nat.le_trans hSq.hb (Nat.le_of_lt hSq.lt))
        clear hSq
        go_wp2_with fail
        refine wp_region_J 7 (fun w' => w'.cell? ⟨gx, 2, none⟩ = some (.slice Av vs.length cv)) (by kernel_rfl) ?_
        refine wpAnyJ_take (i := 0) (v := ?v0s2) (by simp only [List.getElem?_toArray, List.getElem?_cons_succ, List.getElem?_cons_zero, Option.some.injEq]; exact rfl) (by kernel_rfl) (by kernel_rfl) (by kernel_rfl) (by kernel_rfl) (by exact fun _ _ _ h => h) (Or.inl ⟨by rfl, fun w9 hS9 => ?hy0s2⟩) (by exact cw) ?rest0s2
        case hy0s2 => (try dsimp only at hS9); go_simp <;> with_reducible rfl
        try simp only [Act.put, List.setIfInBounds_toArray, List.set_cons_zero, List.set_cons_succ]
        refine wpAnyJ_take (i := 1) (v := ?v1s2) (by simp only [List.getElem?_toArray, List.getElem?_cons_succ, List.getElem?_cons_zero, Option.some.injEq]; exact rfl) (by kernel_rfl) (by kernel_rfl) (by kernel_rfl) (by kernel_rfl) (by exact fun _ _ _ h => h) (Or.inl ⟨by rfl, fun w9 hS9 => ?hy1s2⟩) (by exact cw) ?rest1s2
        case hy1s2 => (try dsimp only at hS9); go_simp <;> with_reducible rfl
        try simp only [Act.put, List.setIfInBounds_toArray, List.set_cons_zero, List.set_cons_succ]
        refine wpAnyJ_take (i := 2) (v := ?v2s2) (by simp only [List.getElem?_toArray, List.getElem?_cons_succ, List.getElem?_cons_zero, Option.some.injEq]; exact rfl) (by kernel_rfl) (by kernel_rfl) (by kernel_rfl) (by kernel_rfl) (by exact fun _ _ _ h => h) (Or.inl ⟨by rfl, fun w9 hS9 => ?hy2s2⟩) (by exact cw) ?rest2s2
        case hy2s2 => (try dsimp only at hS9); go_simp <;> with_reducible rfl
        try simp only [Act.put, List.setIfInBounds_toArray, List.set_cons_zero, List.set_cons_succ]
        refine wpAnyJ_one (i := 3) (by simp only [List.getElem?_toArray, List.getElem?_cons_succ, List.getElem?_cons_zero, Option.some.injEq]; exact rfl) (by kernel_rfl) (fun K hK => ?_)
        go_simp
        refine (spec_l28Any w0 _ g (hcq.ext (Ext.refl _).drew)).mono ?_
        rintro e w4 ⟨v, rfl, ok4, hc4, hk40⟩
        have hk4 : Kept g Wq w4 := (Kept.refl g Wq).drew.trans hk40
        have hS4 := HSQ.out w4 hk4
        refine hK _ _ (hS4.cells.1.2.2) ?_
        try simp only [Act.put, List.setIfInBounds_toArray, List.set_cons_zero, List.set_cons_succ]
        clear hK K
        refine wpAnyJ_one (i := 4) (by simp only [List.getElem?_toArray, List.getElem?_cons_succ, List.getElem?_cons_zero, Option.some.injEq]; exact rfl) (by kernel_rfl) (fun K hK => ?_)
        go_simp
        have y4 : Ext w4 (w4.alloc (.cells #[.int .i64 v.a, .int .i64 v.b, .bool v.same, .int .i64 v.time] 74)) := (Ext.refl w4).alloc _
        have hS4b := hS4.ext y4
        refine hK _ _ (hS4b.cells.1.2.2) ?_
        try simp only [Act.put, List.setIfInBounds_toArray, List.set_cons_zero, List.set_cons_succ]
        clear hK K
        have hw4 := hk4.1
        have hw1 := HBS.out
        have HFR := hid (show (∀ b ∈ ([] : List Nat), b ∉ ([] : List Nat) ∧ (.slice Av vs.length cv : Value).ownBlock ≠ some b) ∧ (([] : List Nat)).Nodup ∧ ∀ b ∈ ([] : List Nat), W1.heap.size ≤ b from fresh_nil)
        refine wpAnyJ_one (i := 5) (by simp only [List.getElem?_toArray, List.getElem?_cons_succ, List.getElem?_cons_zero, Option.some.injEq]; exact rfl) (by kernel_rfl) (fun K hK => ?_)
        refine step_app1o (R := verdictO) elemVer (by decide) rfl _ _ rfl hS4b.r.v rfl w4.heap.size 1 rfl (heap_alloc_new w4 (.cells #[.int .i64 v.a, .int .i64 v.b, .bool v.same, .int .i64 v.time] 74)) (one_ver _ _ _ _) (y := v) (G := ([] : List Nat)) ⟨⟨rfl, ok4⟩, rfl⟩ HFR.out (by have := HLN.out; omega) (by decide) (by have := HBW.out; rw [World.size_alloc]; omega) (w0 := w0) HW0.out (hc4.ext y4).base.1 ?_
        intro v9 w9 hB9 hx9 hk9 hat9
        obtain ⟨A9, c9, e9, _⟩ := hB9.sl.form
        obtain ⟨n9, hn9⟩ : ∃ n, n = (vs ++ [v]).length := ⟨_, rfl⟩
        rw [← hn9] at e9
        subst e9
        clear hn9
        have hsz9 : w4.heap.size < w9.heap.size := (keep_then (by simp) (hk9 w4.heap.size (by simp) (fun e => by have := (hS4.r.v.lt.2 _ e).1; omega)) (Ext.refl w9)).2
        skip
        have hown9 : ∀ q, q < (w4.alloc (.cells #[.int .i64 v.a, .int .i64 v.b, .bool v.same, .int .i64 v.time] 74)).heap.size → (.slice Av vs.length cv : Value).ownBlock ≠ some q → (Value.slice A9 n9 c9).ownBlock ≠ some q := fun q hq hn e => by
          rcases hat9 with h | h
          · exact hn (h ▸ e)
          · rw [h] at e
            injection e with e
            omega
        have hgxl := HGL.out
        obtain ⟨b9, hS9⟩ := hS4b.putV hB9 hk9 (fun q hq => by rcases hat9 with h | h; exact .inl (h ▸ hq); rw [h] at hq; injection hq with hq; exact .inr (by rw [← hq]; exact Nat.le_refl _))
        refine hK _ _ (b9.cells.1 2) ?_
        try simp only [Act.put, List.setIfInBounds_toArray, List.set_cons_zero, List.set_cons_succ]
        clear hK K
        refine wpAnyJ_one (i := 6) (by simp only [List.getElem?_toArray, List.getElem?_cons_succ, List.getElem?_cons_zero, Option.some.injEq]; exact rfl) (by kernel_rfl) (fun K hK => ?_)
        go_simp
        refine hK _ _ (b9.cells.1 2) ?_
        try simp only [Act.put, List.setIfInBounds_toArray, List.set_cons_zero, List.set_cons_succ]
        clear hK K
        have f9 := b9.cells.2 2
        have c9q := b9.cells.1 2
        refine wpAnyJ_last (by simp only [List.getElem?_toArray, List.getElem?_cons_succ, List.getElem?_cons_zero, Option.some.injEq]; exact rfl) (by kernel_rfl) (by kernel_rfl) (fun K hK => ?_)
        go_simp
        refine hK _ _ ?_
        clear hK K f9 c9q
        have hq1 : gx ≠ g := by have := HGX.out; omega
        have c9c : Cur w0 (w9.setCell ⟨gx, 2, none⟩ (.slice A9 n9 c9)) g := ((hc4.ext y4).keep hx9 (hk9 g (by rw [World.size_alloc]; omega) (fun e => by have := (hS4.r.v.lt.2 _ e).2; omega))).setN (by have := HGX.out; show g < gx; omega) _
        have k9c : Kept g w (w9.setCell ⟨gx, 2, none⟩ (.slice A9 n9 c9)) := Kept.setN (w2 := w9) ⟨by omega, fun b hb hn9 => (hk9 b (by rw [World.size_alloc]; omega) (fun e => by have := (hS4.r.v.lt.2 _ e).2; omega)).trans ((y4.block (by omega)).trans ((hkq.trans hk4).2 b hb hn9))⟩ (by have := HGX.out; show w.heap.size ≤ gx; omega) _
        have bz9 : Blk (w9.setCell ⟨gx, 2, none⟩ (.slice A9 n9 c9)) w.heap.size 34 [.int .i64 0, .slice none 0 0, .slice none 0 0] := (((bzq.kept (by omega) hk4).ext y4).keep (hk9 w.heap.size (by rw [World.size_alloc]; omega) (fun e => by have := (hS4.r.v.lt.2 _ e).2; omega))).other (by have := HGX.out; show w.heap.size ≠ gx; omega)
        obtain ⟨W9, hW9⟩ : ∃ W9, W9 = w9.setCell ⟨gx, 2, none⟩ (.slice A9 n9 c9) := ⟨_, rfl⟩
        rw [← hW9] at hS9 c9c k9c bz9 ⊢
        clear hW9 b9 hB9 hx9 hk9 hat9 cw hS4 hS4b y4 hc4 hcq hkq bzq
        have HPF := hid (show stoP ⟨ver, rs, vs ++ [v]⟩ from ⟨by have := HP.out.1; show rs.length ≤ 16; omega, by have := HP.out.2.1; show (vs ++ [v]).length ≤ 16; simp only [List.length_append, List.length_singleton]; omega, HP.out.2.2⟩)
        obtain ⟨⟨g0, g1, g2⟩, gf⟩ := hS9.cells
        obtain ⟨⟨z0, z1, z2⟩, zf⟩ := (⟨⟨bz9.cells.1 0, bz9.cells.1 1, bz9.cells.1 2⟩, bz9.cells.2⟩ : (_ ∧ _ ∧ _) ∧ _)
        have b9 := Blk.store3 bz9 (.int .i64 ver) (.slice Ar (rs).length cr) (.slice A9 n9 c9)
        have r0 := b9.cells.1 0
        have r1 := b9.cells.1 1
        have r2 := b9.cells.1 2
        have HFIN := hid (show Rows2 (((W9.setCell ⟨w.heap.size, 0, none⟩ (.int .i64 ver)).setCell ⟨w.heap.size, 1, none⟩ (.slice Ar (rs).length cr)).setCell ⟨w.heap.size, 2, none⟩ (.slice A9 n9 c9)) w.heap.size (.slice Ar (rs).length cr) (.slice A9 n9 c9) (rs) ((vs ++ [v])) F ∧ Cur w0 (((W9.setCell ⟨w.heap.size, 0, none⟩ (.int .i64 ver)).setCell ⟨w.heap.size, 1, none⟩ (.slice Ar (rs).length cr)).setCell ⟨w.heap.size, 2, none⟩ (.slice A9 n9 c9)) g ∧ Kept g w (((W9.setCell ⟨w.heap.size, 0, none⟩ (.int .i64 ver)).setCell ⟨w.heap.size, 1, none⟩ (.slice Ar (rs).length cr)).setCell ⟨w.heap.size, 2, none⟩ (.slice A9 n9 c9)) from by
          have hsz := HS.out
          obtain ⟨n1, n2⟩ := hS9.r.r.below (g := w.heap.size) (by omega)
          obtain ⟨_, n3⟩ := hS9.r.v.below (g := w.heap.size) (by omega)
          exact ⟨(hS9.r.kp (Kp.store3 w.heap.size 0 _ _ _ _) n1 n2 n3).low (by omega), (((c9c.setN HG.out _).setN HG.out _).setN HG.out _), (((k9c.setN (Nat.le_refl _) _).setN (Nat.le_refl _) _).setN (Nat.le_refl _) _)⟩)
        clear b9
        go_wp2
        refine bodyPost_ret (v := .agg #[.int .i64 ver, .slice Ar (rs).length cr, .slice A9 n9 c9]) (by simp [results, Tryz.results65, go_sem, r0, r1, r2]) rfl ?_
        exact ⟨_, _, ⟨ver, rs, (vs ++ [v])⟩, F, rfl, HFIN.out.1, HI.out, HFIN.out.2.1, HFIN.out.2.2, HPF.out⟩
      · have HPF := hid (show stoP ⟨ver, rs, vs⟩ from ⟨by have := HP.out.1; show rs.length ≤ 16; omega, by have := HP.out.2.1; show vs.length ≤ 16; omega, HP.out.2.2⟩)
        obtain ⟨⟨g0, g1, g2⟩, gf⟩ := hSq.cells
        obtain ⟨⟨z0, z1, z2⟩, zf⟩ := (⟨⟨bzq.cells.1 0, bzq.cells.1 1, bzq.cells.1 2⟩, bzq.cells.2⟩ : (_ ∧ _ ∧ _) ∧ _)
        have b9 := Blk.store3 bzq (.int .i64 ver) (.slice Ar (rs).length cr) (.slice Av (vs).length cv)
        have r0 := b9.cells.1 0
        have r1 := b9.cells.1 1
        have r2 := b9.cells.1 2
        have HFIN := hid (show Rows2 (((Wq.setCell ⟨w.heap.size, 0, none⟩ (.int .i64 ver)).setCell ⟨w.heap.size, 1, none⟩ (.slice Ar (rs).length cr)).setCell ⟨w.heap.size, 2, none⟩ (.slice Av (vs).length cv)) w.heap.size (.slice Ar (rs).length cr) (.slice Av (vs).length cv) (rs) (vs) F ∧ Cur w0 (((Wq.setCell ⟨w.heap.size, 0, none⟩ (.int .i64 ver)).setCell ⟨w.heap.size, 1, none⟩ (.slice Ar (rs).length cr)).setCell ⟨w.heap.size, 2, none⟩ (.slice Av (vs).length cv)) g ∧ Kept g w (((Wq.setCell ⟨w.heap.size, 0, none⟩ (.int .i64 ver)).setCell ⟨w.heap.size, 1, none⟩ (.slice Ar (rs).length cr)).setCell ⟨w.heap.size, 2, none⟩ (.slice Av (vs).length cv)) from by
          have hsz := HS.out
          obtain ⟨n1, n2⟩ := hSq.r.r.below (g := w.heap.size) (by omega)
          obtain ⟨_, n3⟩ := hSq.r.v.below (g := w.heap.size) (by omega)
          exact ⟨(hSq.r.kp (Kp.store3 w.heap.size 0 _ _ _ _) n1 n2 n3).low (by omega), (((hcq.setN HG.out _).setN HG.out _).setN HG.out _), (((hkq.setN (Nat.le_refl _) _).setN (Nat.le_refl _) _).setN (Nat.le_refl _) _)⟩)
        clear b9
        go_wp2
        refine bodyPost_ret (v := .agg #[.int .i64 ver, .slice Ar (rs).length cr, .slice Av (vs).length cv]) (by simp [results, Tryz.results65, go_sem, r0, r1, r2]) rfl ?_
        exact ⟨_, _, ⟨ver, rs, vs⟩, F, rfl, HFIN.out.1, HI.out, HFIN.out.2.1, HFIN.out.2.2, HPF.out⟩

end Go.Proofs.YtfcbapaojoecgaaGreat

namespace Go.Proofs.YtfcbapaojoecgaaGreat
open Go.RowKit

set_option maxHeartbeats 2000000 in
set_option maxRecDepth 20000 in
theorem spec_DrawApplyBatch (w : World) (v : Value) (bs : List Int) (h : Sl u8R w v bs) :
    Calls Tryz.prog 24 #[v] w fun e w2 => ∃ (rv vv bv : Value) (s : Store) (b : Batch), e = .returned (.tuple #[.agg #[.int .i64 s.version, rv, vv], .agg #[bv]]) ∧ StoAt w2 (.agg #[.int .i64 s.version, rv, vv]) s ∧ Sl opR w2 bv b.ops ∧ (stoP s ∧ b.ops.length ≤ 1048576) ∧ Ext w w2 := by
  obtain ⟨wa, hwa⟩ : ∃ wa, wa = (w.alloc (.cells #[.int .i64 0, .slice none 0 0, .slice none 0 0] 34)).alloc (.cells #[.slice none 0 0] 40) := ⟨_, rfl⟩
  have xa : Ext w wa := by rw [hwa]; exact ((Ext.refl w).alloc _).alloc _
  have hsa : wa.heap.size = w.heap.size + 1 + 1 := by rw [hwa]; simp
  have bS : Blk wa w.heap.size 34 [.int .i64 0, .slice none 0 0, .slice none 0 0] := by rw [hwa]; exact (Blk.new w 34 #[.int .i64 0, .slice none 0 0, .slice none 0 0]).ext ((Ext.refl _).alloc _)
  have bB : Blk wa (w.heap.size + 1) 40 [.slice none 0 0] := by
    have := Blk.new (w.alloc (.cells #[.int .i64 0, .slice none 0 0, .slice none 0 0] 34)) 40 #[.slice none 0 0]
    rw [World.size_alloc] at this
    rw [hwa]; exact this
  have h0 := h.mono xa
  have HSA := hid hsa
  go_enter Tryz.func24, Tryz.ntmps24
  go_wp2_with fail
  rw [← hwa]
  clear hwa hsa
  refine (spec_l1New wa v bs h0).mono ?_
  rintro e w1 ⟨rfl, hc1, x1⟩
  have hg1 := hc1.base.2.2
  have hg0 := hc1.base.2.1
  go_wp2_with fail
  refine (spec_l30Any wa w1 _ hc1).mono ?_
  rintro e w2 ⟨rv, vv, s, F, rfl, R, hI, hc2, hk2, hp⟩
  obtain ⟨Ar, cr, er, _⟩ := R.r.sl.form
  subst er
  obtain ⟨Av, cv, ev, _⟩ := R.v.sl.form
  subst ev
  go_wp2_with fail
  refine (spec_l29Batches wa w2 _ hc2).mono ?_
  rintro e w3 ⟨bv, b, F3, rfl, hB3, hc3, hk3, hb8⟩
  obtain ⟨A5, c5, e5, _⟩ := hB3.sl.form
  subst e5
  have x3 := hc3.base.1
  have bS3 := bS.ext x3
  have bB3 := bB.ext x3
  obtain ⟨⟨z0, z1, z2⟩, zf⟩ := (⟨⟨bS3.cells.1 0, bS3.cells.1 1, bS3.cells.1 2⟩, bS3.cells.2⟩ : (_ ∧ _ ∧ _) ∧ _)
  have z3 := bB3.cells.1 0
  have zg := bB3.cells.2
  have b9 : Blk ((((w3.setCell ⟨w.heap.size, 0, none⟩ (.int .i64 s.version)).setCell ⟨w.heap.size, 1, none⟩ (.slice Ar s.records.length cr)).setCell ⟨w.heap.size, 2, none⟩ (.slice Av s.verdicts.length cv)).setCell ⟨w.heap.size + 1, 0, none⟩ (.slice A5 b.ops.length c5)) w.heap.size 34 [.int .i64 s.version, .slice Ar s.records.length cr, .slice Av s.verdicts.length cv] := (Blk.store3 bS3 _ _ _).other (by omega)
  have q9 : Blk ((((w3.setCell ⟨w.heap.size, 0, none⟩ (.int .i64 s.version)).setCell ⟨w.heap.size, 1, none⟩ (.slice Ar s.records.length cr)).setCell ⟨w.heap.size, 2, none⟩ (.slice Av s.verdicts.length cv)).setCell ⟨w.heap.size + 1, 0, none⟩ (.slice A5 b.ops.length c5)) (w.heap.size + 1) 40 [.slice A5 b.ops.length c5] := (((bB3.other (by omega)).other (by omega)).other (by omega)).setAt 0 (by show 0 < 1; decide) _
  have r0 := b9.cells.1 0
  have r1 := b9.cells.1 1
  have r2 := b9.cells.1 2
  have r3 := q9.cells.1 0
  have HFIN := hid (show StoAt ((((w3.setCell ⟨w.heap.size, 0, none⟩ (.int .i64 s.version)).setCell ⟨w.heap.size, 1, none⟩ (.slice Ar s.records.length cr)).setCell ⟨w.heap.size, 2, none⟩ (.slice Av s.verdicts.length cv)).setCell ⟨w.heap.size + 1, 0, none⟩ (.slice A5 b.ops.length c5)) (.agg #[.int .i64 s.version, .slice Ar s.records.length cr, .slice Av s.verdicts.length cv]) s ∧ Sl opR ((((w3.setCell ⟨w.heap.size, 0, none⟩ (.int .i64 s.version)).setCell ⟨w.heap.size, 1, none⟩ (.slice Ar s.records.length cr)).setCell ⟨w.heap.size, 2, none⟩ (.slice Av s.verdicts.length cv)).setCell ⟨w.heap.size + 1, 0, none⟩ (.slice A5 b.ops.length c5)) (.slice A5 b.ops.length c5) b.ops ∧ Ext w ((((w3.setCell ⟨w.heap.size, 0, none⟩ (.int .i64 s.version)).setCell ⟨w.heap.size, 1, none⟩ (.slice Ar s.records.length cr)).setCell ⟨w.heap.size, 2, none⟩ (.slice Av s.verdicts.length cv)).setCell ⟨w.heap.size + 1, 0, none⟩ (.slice A5 b.ops.length c5)) from by
    have hs := HSA.out
    have hw12 := hk2.1
    obtain ⟨n1, n2⟩ := R.r.below hg1
    obtain ⟨_, n3⟩ := R.v.below hg1
    have R3 := R.kp hk3 n1 n2 n3
    obtain ⟨m1, m2⟩ := R3.r.below (g := w.heap.size) (by omega)
    obtain ⟨_, m3⟩ := R3.v.below (g := w.heap.size) (by omega)
    obtain ⟨l1, l2⟩ := R3.r.below (g := w.heap.size + 1) (by omega)
    obtain ⟨_, l3⟩ := R3.v.below (g := w.heap.size + 1) (by omega)
    have R4 := (R3.kp (Kp.store3 w.heap.size 0 (.int .i64 s.version) (.slice Ar s.records.length cr) (.slice Av s.verdicts.length cv) w3) m1 m2 m3).kp (Kp.set (w.heap.size + 1) 0 (.slice A5 b.ops.length c5) _) l1 l2 l3
    obtain ⟨u1, u2⟩ := hB3.below (g := w.heap.size) (by omega)
    obtain ⟨t1, t2⟩ := hB3.below (g := w.heap.size + 1) (by omega)
    have B4 := (hB3.kp (Kp.store3 w.heap.size 0 (.int .i64 s.version) (.slice Ar s.records.length cr) (.slice Av s.verdicts.length cv) w3) u1 u2).kp (Kp.set (w.heap.size + 1) 0 (.slice A5 b.ops.length c5) _) t1 t2
    exact ⟨⟨_, _, rfl, hI, R4.r.sl, R4.v.sl⟩, B4.sl, (Ext.store3 (xa.trans x3) (Nat.le_refl _) _ _ _).setCell (p := ⟨w.heap.size + 1, 0, none⟩) (Nat.le_succ _) _⟩)
  have HP := hid (And.intro hp (show b.ops.length ≤ 1048576 by omega))
  clear b9 q9 R hB3 bS3 bB3 bS bB hc1 hc2 hc3 hk2 hk3 x1 x3 hI hp
  go_wp2
  refine bodyPost_ret (v := .tuple #[.agg #[.int .i64 s.version, .slice Ar s.records.length cr, .slice Av s.verdicts.length cv], .agg #[.slice A5 b.ops.length c5]]) (by simp [results, Tryz.results24, go_sem, r0, r1, r2, r3]) rfl ?_
  exact ⟨_, _, _, s, b, rfl, HFIN.out.1, HFIN.out.2.1, HP.out, HFIN.out.2.2⟩

set_option maxHeartbeats 1000000 in
set_option maxRecDepth 20000 in
theorem spec_DrawReplayBatches (w : World) (v : Value) (bs : List Int) (h : Sl u8R w v bs) :
    Calls Tryz.prog 28 #[v] w fun e w2 => ∃ v1 xs, e = .returned v1 ∧ Sl batchR w2 v1 xs ∧ xs.length ≤ 6 ∧ Ext w w2 := by
  go_enter Tryz.func28, Tryz.ntmps28
  go_wp2_with fail
  refine (spec_l1New w v bs h).mono ?_
  rintro e w1 ⟨rfl, hc1, x1⟩
  have hg1 := hc1.base.2.2
  have hg0 := hc1.base.2.1
  go_wp2_with fail
  refine (spec_l30Batches w w1 _ hc1).mono ?_
  rintro e w2 ⟨v1, xs, F, rfl, hB2, hl, hc2, hk2⟩
  obtain ⟨A, c, e9, _⟩ := hB2.sl.form
  subst e9
  go_wp2_with fail
  refine (spec_l1Once w _ _ 10 (by decide) hc2).mono ?_
  rintro e w3 ⟨x, rfl, hc3, hk3⟩
  have hB3 := hB2.kept hg1 hk3
  clear hB2 hc2
  cases x with
  | false =>
    go_wp2
    go_ret
    exact ⟨_, xs, rfl, hB3.sl, by omega, hc3.base.1⟩
  | true =>
    go_wp2_with fail
    refine (spec_l29Batches w _ _ hc3).mono ?_
    rintro e w4 ⟨bv, ⟨ops⟩, F4, rfl, hB4, hc4, hk4, _⟩
    dsimp only at hB4
    have hB5 := hB3.kept hg1 hk4
    have hlt3 := hB3.lt
    obtain ⟨F5, o5, n5, l5, _⟩ := hB4.done2
    obtain ⟨A5, c5, e5, _⟩ := o5.form
    subst e5
    have hs := hk2.1
    have hs3 := hk3.1
    have hs4 := hk4.1
    have HFR := hid (show (∀ b ∈ F5, b ∉ F ∧ (Value.slice A xs.length c).ownBlock ≠ some b) ∧ F5.Nodup ∧ ∀ b ∈ F5, w1.heap.size ≤ b from ⟨fun b hb => ⟨fun hm => by have := hlt3.1 b hm; have := l5 b hb; omega, fun e => by have := (hlt3.2 b e).1; have := l5 b hb; omega⟩, n5, fun b hb => by have := l5 b hb; omega⟩)
    clear hB4 hB3 hlt3
    go_wp2_with (at_builtin; refine wpList_app1g (R := batchO) elemBatch (by decide) rfl _ _ rfl hB5 rfl w4.heap.size 1 rfl rfl (one_bat _ _ _) (y := ⟨ops⟩) (G := F5) ⟨_, rfl, trivial, o5⟩ HFR.out (by omega) (by decide) (by omega) ?_; intro v9 w9 hB9 hE9 hs9 hk9)
    go_ret
    exact ⟨v9, xs ++ [(⟨ops⟩ : Batch)], rfl, hB9.sl, by simp only [List.length_append, List.length_singleton]; omega, hE9 w (by omega) hc4.base.1⟩

end Go.Proofs.YtfcbapaojoecgaaGreat
