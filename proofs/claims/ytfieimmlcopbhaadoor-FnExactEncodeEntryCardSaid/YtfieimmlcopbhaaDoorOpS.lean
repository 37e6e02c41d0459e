/-
  WALKS: the laws' szOpS, toOpS, eqOpS.
-/
import Derived.Test.YtfieimmlcopbhaaDoorOpR
import Derived.Test.YtfieimmlcopbhaaDoorSum
namespace Go.Proofs.YtfieimmlcopbhaaDoor
open Go.RowKit

theorem Sl.op {w : World} {A : Option Addr} {n cap : Nat} {xs : List Op} (h : Sl opR w (.slice A n cap) xs) {i : Nat} (hi : i < xs.length) :
    ∃ b off A2 cap2, A = some ⟨b, off, none⟩ ∧ xs[i].ok ∧ Sl strR w (.slice A2 xs[i].record.fields.length cap2) xs[i].record.fields ∧ w.cell? ⟨b, off + i * 9, none⟩ = some (.int .i64 xs[i].kind) ∧ w.cell? ⟨b, off + i * 9 + 1, none⟩ = some (.int .i64 xs[i].record.source) ∧ w.cell? ⟨b, off + i * 9 + 2, none⟩ = some (.int .i64 xs[i].record.key) ∧ w.cell? ⟨b, off + i * 9 + 3, none⟩ = some (.int .i64 xs[i].record.version) ∧ w.cell? ⟨b, off + i * 9 + 4, none⟩ = some (.slice A2 xs[i].record.fields.length cap2) ∧ w.cell? ⟨b, off + i * 9 + 5, none⟩ = some (.int .i64 xs[i].verdict.a) ∧ w.cell? ⟨b, off + i * 9 + 6, none⟩ = some (.int .i64 xs[i].verdict.b) ∧ w.cell? ⟨b, off + i * 9 + 7, none⟩ = some (.bool xs[i].verdict.same) ∧ w.cell? ⟨b, off + i * 9 + 8, none⟩ = some (.int .i64 xs[i].verdict.time) := by
  obtain ⟨b, off, cs, rfl, ⟨m, rfl, hok, hs⟩, hc⟩ := h.at_ hi
  have hs' := hs
  obtain ⟨A2, cap2, rfl, _⟩ := hs
  exact ⟨b, off, A2, cap2, rfl, hok, hs', by simpa [opR, Op.cells] using hc 0 (by simp [opR]), by simpa [opR, Op.cells] using hc 1 (by simp [opR]), by simpa [opR, Op.cells] using hc 2 (by simp [opR]), by simpa [opR, Op.cells] using hc 3 (by simp [opR]), by simpa [opR, Op.cells] using hc 4 (by simp [opR]), by simpa [opR, Op.cells] using hc 5 (by simp [opR]), by simpa [opR, Op.cells] using hc 6 (by simp [opR]), by simpa [opR, Op.cells] using hc 7 (by simp [opR]), by simpa [opR, Op.cells] using hc 8 (by simp [opR])⟩

set_option maxHeartbeats 400000 in
theorem szOpS_c (v : Value) (xs : List Op) (left : Int) (w : World) (h : Sl opR w v xs) (h0 : 0 ≤ left) (h1 : left ≤ 1048576) :
    Calls Tryd.prog 22 #[v, .int .i64 left] w fun e w2 => e = .returned (.int .i64 (szv ((xs.length + sumBy msOp xs : Nat) : Int) left)) ∧ Ext w w2 := by
  obtain ⟨A, cap, rfl, hm⟩ := h.form
  by_cases hlt : left < xs.length
  · go_enter Tryd.func22, Tryd.ntmps22
    go_wp2
    go_ret
    exact ⟨ret_int (by symm; unfold szv; rw [if_pos (by omega)]), Ext.refl _⟩
  · go_enter Tryd.func22, Tryd.ntmps22
    go_wp2
    go_loopw [1, 5] (fun l i wr => ∃ k : Nat, k ≤ xs.length ∧ i = .int .i64 k ∧ sumBy msOp (xs.take k) + xs.length ≤ left ∧ l = .int .i64 (left - xs.length - (sumBy msOp (xs.take k) : Nat)) ∧ Ext w wr) (fun _ i _ => xs.length - (intOf i).toNat)
    case atStart => exact ⟨0, Nat.zero_le _, rfl, by simp [sumBy]; omega, by simp [sumBy], Ext.refl _⟩
    case round =>
      obtain ⟨k, hk, rfl, hs, rfl, hx⟩ := hrel
      by_cases hlk : k < xs.length
      · obtain ⟨b, off, A2, cap2, rfl, hok, hsl, hc0, hc1, hc2, hc3, hc4, hc5, hc6, hc7, hc8⟩ := (h.mono hx).op hlk
        have hst := sumBy_take msOp xs k hlk
        have hsa := sumBy_at msOp xs k hlk
        have HS := hid hst
        clear hst
        go_wp2_with fail
        refine (szOp_c _ xs[k] _ _ ⟨_, rfl, hok, hsl⟩ (by omega) (by omega)).mono ?_
        rintro e w2 ⟨rfl, x2⟩
        obtain ⟨M, hM⟩ : ∃ M, M = msOp xs[k] := ⟨_, rfl⟩
        rw [show ((msOp xs[k] : Nat) : Int) = (M : Int) by rw [hM]]
        rw [← hM] at hsa
        have HM := hid hM
        clear hM hok
        by_cases hfit : left - xs.length - (sumBy msOp (xs.take k) : Nat) < M
        · rw [show szv (M : Int) (left - xs.length - (sumBy msOp (xs.take k) : Nat)) = -1 by simp [szv, hfit]]
          go_wp2
          go_ret
          exact ⟨ret_int (by symm; unfold szv; rw [if_pos (by omega)]), hx.trans x2⟩
        · rw [show szv (M : Int) (left - xs.length - (sumBy msOp (xs.take k) : Nat)) = left - xs.length - (sumBy msOp (xs.take k) : Nat) - M by simp [szv, hfit]]
          go_wp2
          go_roundw
          case rel => exact ⟨k + 1, by omega, by go_num, by rw [HS.out, ← HM.out]; omega, by rw [HS.out, ← HM.out]; congr 1; omega, hx.trans x2⟩
          case measure => simp [intOf]; omega
      · go_wp2
        go_ret
        rw [List.take_of_length_le (by omega)] at hs
        exact ⟨ret_int (by rw [List.take_of_length_le (by omega)]; unfold szv; rw [if_neg (by omega)]; omega), hx⟩

theorem infoOp : (Tryd.prog.info? 53).map (fun i => (i.zero, i.size, i.bytes)) = some (some (.agg #[.int .i64 0, .int .i64 0, .int .i64 0, .int .i64 0, .slice none 0 0, .int .i64 0, .int .i64 0, .bool false, .int .i64 0]), 9, 88) := by kernel_rfl
def opZ : List Value := [.int .i64 0, .int .i64 0, .int .i64 0, .int .i64 0, .slice none 0 0, .int .i64 0, .int .i64 0, .bool false, .int .i64 0]

set_option maxHeartbeats 400000 in
set_option maxRecDepth 100000 in
theorem toOpS_c (v : Value) (xs : List Op) (w : World) (h : Sl opR w v xs) (hb : xs.length + sumBy msOp xs ≤ 1048576) :
    Calls Tryd.prog 25 #[v] w fun e w2 => ∃ v2 F, e = .returned v2 ∧ OwnSl opO w2 v2 xs F ∧ NewF w F ∧ Ext w w2 := by
  obtain ⟨A, cap, rfl, hm⟩ := h.form
  obtain ⟨i0, hi0, hz0, hz1, hz2⟩ := info_parts infoOp
  have hmk := run_mk (P := Tryd.prog) 27 53 i0 _ opZ 88 Tryd.underlying27 hi0 hz0 rfl hz1 hz2 xs.length (by omega) hm
  go_enter Tryd.func25, Tryd.ntmps25
  go_wp2
  go_loopw [4] (fun i wr => ∃ (k : Nat) (done : List Value) (F : List Nat), k ≤ xs.length ∧ i = .int .i64 k ∧ Blk wr w.heap.size 53 (done ++ (List.replicate (xs.length - k) opZ).flatten) ∧
    OwnCells opO wr done (xs.take k) F ∧ FromF w.heap.size F ∧ Ext w wr) (fun i _ => xs.length - (intOf i).toNat)
  case atStart => exact ⟨0, [], [], Nat.zero_le _, rfl, by simpa using Blk.new w 53 (List.replicate xs.length opZ).flatten.toArray, .nil, .nil _, (Ext.refl _).alloc _⟩
  case round =>
    obtain ⟨k, done, F, hk, rfl, hblk, hown, hF, hx⟩ := hrel
    by_cases hlt : k < xs.length
    · obtain ⟨b, off, A2, cap2, rfl, hok, hsl, hc0, hc1, hc2, hc3, hc4, hc5, hc6, hc7, hc8⟩ := (h.mono hx).op hlt
      have hz : (List.replicate (xs.length - k) opZ).flatten = .int .i64 0 :: .int .i64 0 :: .int .i64 0 :: .int .i64 0 :: .slice none 0 0 :: .int .i64 0 :: .int .i64 0 :: .bool false :: .int .i64 0 :: (List.replicate (xs.length - (k + 1)) opZ).flatten := by
        rw [show xs.length - k = (xs.length - (k + 1)) + 1 by omega, List.replicate_succ]; rfl
      rw [hz] at hblk
      clear hz
      have hl : done.length = k * 9 := by rw [hown.length]; simp [opO, opR]; omega
      have hgl := block_lt hblk.out
      have HL := hid hl
      have hbk : xs[k].record.fields.length ≤ 1048576 := by have := sumBy_at msOp xs k hlt; simp only [msOp] at this; omega
      clear hl
      go_wp2_with fail
      refine (toOp_c _ xs[k] _ ⟨_, rfl, hok, hsl⟩ hbk).mono ?_
      rintro e w2 ⟨v2, F2, rfl, ⟨m2, rfl, _, ho⟩, hn, x2⟩
      have hblk2 := hblk.ext x2
      obtain ⟨A3, cap3, e3, _⟩ := ho.form
      subst e3
      obtain ⟨p0, q0⟩ := hblk2.at_ HL.out
      have b0 := hblk2.store HL.out (Value.int .i64 xs[k].kind)
      have l0 : (done ++ [(Value.int .i64 xs[k].kind)]).length = k * 9 + 1 := by rw [List.length_append, HL.out]; rfl
      obtain ⟨p1, q1⟩ := b0.at_ l0
      have b1 := b0.store l0 (Value.int .i64 xs[k].record.source)
      have l1 : (done ++ [(Value.int .i64 xs[k].kind)] ++ [(Value.int .i64 xs[k].record.source)]).length = k * 9 + 2 := by rw [List.length_append, l0]; rfl
      obtain ⟨p2, q2⟩ := b1.at_ l1
      have b2 := b1.store l1 (Value.int .i64 xs[k].record.key)
      have l2 : (done ++ [(Value.int .i64 xs[k].kind)] ++ [(Value.int .i64 xs[k].record.source)] ++ [(Value.int .i64 xs[k].record.key)]).length = k * 9 + 3 := by rw [List.length_append, l1]; rfl
      obtain ⟨p3, q3⟩ := b2.at_ l2
      have b3 := b2.store l2 (Value.int .i64 xs[k].record.version)
      have l3 : (done ++ [(Value.int .i64 xs[k].kind)] ++ [(Value.int .i64 xs[k].record.source)] ++ [(Value.int .i64 xs[k].record.key)] ++ [(Value.int .i64 xs[k].record.version)]).length = k * 9 + 4 := by rw [List.length_append, l2]; rfl
      obtain ⟨p4, q4⟩ := b3.at_ l3
      have b4 := b3.store l3 (Value.slice A3 xs[k].record.fields.length cap3)
      have l4 : (done ++ [(Value.int .i64 xs[k].kind)] ++ [(Value.int .i64 xs[k].record.source)] ++ [(Value.int .i64 xs[k].record.key)] ++ [(Value.int .i64 xs[k].record.version)] ++ [(Value.slice A3 xs[k].record.fields.length cap3)]).length = k * 9 + 5 := by rw [List.length_append, l3]; rfl
      obtain ⟨p5, q5⟩ := b4.at_ l4
      have b5 := b4.store l4 (Value.int .i64 xs[k].verdict.a)
      have l5 : (done ++ [(Value.int .i64 xs[k].kind)] ++ [(Value.int .i64 xs[k].record.source)] ++ [(Value.int .i64 xs[k].record.key)] ++ [(Value.int .i64 xs[k].record.version)] ++ [(Value.slice A3 xs[k].record.fields.length cap3)] ++ [(Value.int .i64 xs[k].verdict.a)]).length = k * 9 + 6 := by rw [List.length_append, l4]; rfl
      obtain ⟨p6, q6⟩ := b5.at_ l5
      have b6 := b5.store l5 (Value.int .i64 xs[k].verdict.b)
      have l6 : (done ++ [(Value.int .i64 xs[k].kind)] ++ [(Value.int .i64 xs[k].record.source)] ++ [(Value.int .i64 xs[k].record.key)] ++ [(Value.int .i64 xs[k].record.version)] ++ [(Value.slice A3 xs[k].record.fields.length cap3)] ++ [(Value.int .i64 xs[k].verdict.a)] ++ [(Value.int .i64 xs[k].verdict.b)]).length = k * 9 + 7 := by rw [List.length_append, l5]; rfl
      obtain ⟨p7, q7⟩ := b6.at_ l6
      have b7 := b6.store l6 (Value.bool xs[k].verdict.same)
      have l7 : (done ++ [(Value.int .i64 xs[k].kind)] ++ [(Value.int .i64 xs[k].record.source)] ++ [(Value.int .i64 xs[k].record.key)] ++ [(Value.int .i64 xs[k].record.version)] ++ [(Value.slice A3 xs[k].record.fields.length cap3)] ++ [(Value.int .i64 xs[k].verdict.a)] ++ [(Value.int .i64 xs[k].verdict.b)] ++ [(Value.bool xs[k].verdict.same)]).length = k * 9 + 8 := by rw [List.length_append, l6]; rfl
      obtain ⟨p8, q8⟩ := b7.at_ l7
      have b8 := b7.store l7 (Value.int .i64 xs[k].verdict.time)
      have hk2 : ∀ b, b ≠ w.heap.size → (((((((((w2.setCell ⟨w.heap.size, k * 9, none⟩ (Value.int .i64 xs[k].kind)).setCell ⟨w.heap.size, k * 9 + 1, none⟩ (Value.int .i64 xs[k].record.source)).setCell ⟨w.heap.size, k * 9 + 2, none⟩ (Value.int .i64 xs[k].record.key)).setCell ⟨w.heap.size, k * 9 + 3, none⟩ (Value.int .i64 xs[k].record.version)).setCell ⟨w.heap.size, k * 9 + 4, none⟩ (Value.slice A3 xs[k].record.fields.length cap3)).setCell ⟨w.heap.size, k * 9 + 5, none⟩ (Value.int .i64 xs[k].verdict.a)).setCell ⟨w.heap.size, k * 9 + 6, none⟩ (Value.int .i64 xs[k].verdict.b)).setCell ⟨w.heap.size, k * 9 + 7, none⟩ (Value.bool xs[k].verdict.same)).setCell ⟨w.heap.size, k * 9 + 8, none⟩ (Value.int .i64 xs[k].verdict.time)).heap[b]? = w2.heap[b]? :=
        fun b hb => ((keep_setCell hb).trans ((keep_setCell hb).trans ((keep_setCell hb).trans ((keep_setCell hb).trans ((keep_setCell hb).trans ((keep_setCell hb).trans ((keep_setCell hb).trans ((keep_setCell hb).trans (keep_setCell hb)))))))))
      obtain ⟨ho3, hF3⟩ := hown.step (R := opO) hF x2 ⟨_, rfl, hok, ho⟩ hn hgl hk2
      have HK := hid (And.intro ho3 hF3)
      have HST := hid b8
      clear hblk hblk2 HL b0 b1 b2 b3 b4 b5 b6 b7 b8 l0 l1 l2 l3 l4 l5 l6 l7 hk2 ho3 hF3 hok
      go_wp2
      go_roundw
      case rel => exact ⟨k + 1, done ++ [(Value.int .i64 xs[k].kind), (Value.int .i64 xs[k].record.source), (Value.int .i64 xs[k].record.key), (Value.int .i64 xs[k].record.version), (Value.slice A3 xs[k].record.fields.length cap3), (Value.int .i64 xs[k].verdict.a), (Value.int .i64 xs[k].verdict.b), (Value.bool xs[k].verdict.same), (Value.int .i64 xs[k].verdict.time)], F ++ F2, by omega, by go_num, by simpa using HST.out, by rw [List.take_succ_eq_append_getElem hlt]; simpa [Op.cells] using HK.out.1, HK.out.2, ((((((((((hx.trans x2).setCell (by simp) _).setCell (by simp) _).setCell (by simp) _).setCell (by simp) _).setCell (by simp) _).setCell (by simp) _).setCell (by simp) _).setCell (by simp) _).setCell (by simp) _)⟩
      case measure => simp [intOf]; omega
    · go_wp2
      go_ret
      rw [show xs.length - k = 0 by omega, List.replicate_zero, List.flatten_nil, List.append_nil] at hblk
      rw [List.take_of_length_le (by omega)] at hown
      exact ⟨_, _, rfl, OwnSl.of_blk hblk (by unfold maxLen; omega) hown, hF.new rfl, hx⟩

set_option maxHeartbeats 400000 in
set_option maxRecDepth 20000 in
theorem eqOpS_c (v u : Value) (xs ys : List Op) (w : World) (h : Sl opR w v xs) (k : Sl opR w u ys) :
    Calls Tryd.prog 28 #[v, u] w fun e w2 => e = .returned (.bool (eqB xs ys)) ∧ Ext w w2 := by
  obtain ⟨A, cap, rfl, hm⟩ := h.form
  obtain ⟨B, cap2, rfl, hm2⟩ := k.form
  by_cases hl : xs.length = ys.length
  · have hl' : ((xs.length : Int) != (ys.length : Int)) = false := by simp [hl]
    have HL := hid hl
    clear hl
    go_enter Tryd.func28, Tryd.ntmps28
    go_wp2
    go_loopw [5] (fun i wr => ∃ k2 : Nat, k2 ≤ xs.length ∧ i = .int .i64 k2 ∧ xs.take k2 = ys.take k2 ∧ Ext w wr) (fun i _ => xs.length - (intOf i).toNat)
    case atStart => exact ⟨0, Nat.zero_le _, rfl, by simp, Ext.refl _⟩
    case round =>
      obtain ⟨k2, hk, rfl, he, hx⟩ := hrel
      have HE := hid he
      clear he
      by_cases hlt : k2 < xs.length
      · have hlt2 : k2 < ys.length := by have := HL.out; omega
        obtain ⟨b, off, A2, cap3, rfl, hok, hi, hc0, hc1, hc2, hc3, hc4, hc5, hc6, hc7, hc8⟩ := (h.mono hx).op hlt
        obtain ⟨b2, off2, A3, cap4, rfl, hok2, hi2, hd0, hd1, hd2, hd3, hd4, hd5, hd6, hd7, hd8⟩ := (k.mono hx).op hlt2
        have hcz0 : ∀ z : ExtOf wr, z.1.cell? ⟨b, off + k2 * 9, none⟩ = _ := fun z => z.2.cell hc0
        have hdz0 : ∀ z : ExtOf wr, z.1.cell? ⟨b2, off2 + k2 * 9, none⟩ = _ := fun z => z.2.cell hd0
        have hcz1 : ∀ z : ExtOf wr, z.1.cell? ⟨b, off + k2 * 9 + 1, none⟩ = _ := fun z => z.2.cell hc1
        have hdz1 : ∀ z : ExtOf wr, z.1.cell? ⟨b2, off2 + k2 * 9 + 1, none⟩ = _ := fun z => z.2.cell hd1
        have hcz2 : ∀ z : ExtOf wr, z.1.cell? ⟨b, off + k2 * 9 + 2, none⟩ = _ := fun z => z.2.cell hc2
        have hdz2 : ∀ z : ExtOf wr, z.1.cell? ⟨b2, off2 + k2 * 9 + 2, none⟩ = _ := fun z => z.2.cell hd2
        have hcz3 : ∀ z : ExtOf wr, z.1.cell? ⟨b, off + k2 * 9 + 3, none⟩ = _ := fun z => z.2.cell hc3
        have hdz3 : ∀ z : ExtOf wr, z.1.cell? ⟨b2, off2 + k2 * 9 + 3, none⟩ = _ := fun z => z.2.cell hd3
        have hcz4 : ∀ z : ExtOf wr, z.1.cell? ⟨b, off + k2 * 9 + 4, none⟩ = _ := fun z => z.2.cell hc4
        have hdz4 : ∀ z : ExtOf wr, z.1.cell? ⟨b2, off2 + k2 * 9 + 4, none⟩ = _ := fun z => z.2.cell hd4
        have hcz5 : ∀ z : ExtOf wr, z.1.cell? ⟨b, off + k2 * 9 + 5, none⟩ = _ := fun z => z.2.cell hc5
        have hdz5 : ∀ z : ExtOf wr, z.1.cell? ⟨b2, off2 + k2 * 9 + 5, none⟩ = _ := fun z => z.2.cell hd5
        have hcz6 : ∀ z : ExtOf wr, z.1.cell? ⟨b, off + k2 * 9 + 6, none⟩ = _ := fun z => z.2.cell hc6
        have hdz6 : ∀ z : ExtOf wr, z.1.cell? ⟨b2, off2 + k2 * 9 + 6, none⟩ = _ := fun z => z.2.cell hd6
        have hcz7 : ∀ z : ExtOf wr, z.1.cell? ⟨b, off + k2 * 9 + 7, none⟩ = _ := fun z => z.2.cell hc7
        have hdz7 : ∀ z : ExtOf wr, z.1.cell? ⟨b2, off2 + k2 * 9 + 7, none⟩ = _ := fun z => z.2.cell hd7
        have hcz8 : ∀ z : ExtOf wr, z.1.cell? ⟨b, off + k2 * 9 + 8, none⟩ = _ := fun z => z.2.cell hc8
        have hdz8 : ∀ z : ExtOf wr, z.1.cell? ⟨b2, off2 + k2 * 9 + 8, none⟩ = _ := fun z => z.2.cell hd8
        by_cases h0 : xs[k2] = ys[k2]
        · have H0 := hid h0
          clear h0
          go_wp2_with fail
          refine wp_region_ext (by kernel_rfl) (by kernel_rfl) ?_
          repeat (go_big_quiet_step (((go_at_call 58; exact quiet_ext (eqOp_c _ _ xs[k2] ys[k2] _ ⟨_, rfl, hok, hi.mono (Subtype.property _)⟩ ⟨_, rfl, hok2, hi2.mono (Subtype.property _)⟩)))))
          refine wpQuiet_nil ?_
          rintro w1 ⟨⟨_, x1⟩, rfl⟩
          rw [eqB_true H0.out]
          go_wp2
          go_roundw
          case rel => exact ⟨k2 + 1, by omega, by go_num, take_snoc_eq hlt hlt2 H0.out HE.out, hx.trans x1⟩
          case measure => simp [intOf]; omega
        · have H0 := hid h0
          clear h0
          go_wp2_with fail
          refine wp_region_ext (by kernel_rfl) (by kernel_rfl) ?_
          repeat (go_big_quiet_step (((go_at_call 58; exact quiet_ext (eqOp_c _ _ xs[k2] ys[k2] _ ⟨_, rfl, hok, hi.mono (Subtype.property _)⟩ ⟨_, rfl, hok2, hi2.mono (Subtype.property _)⟩)))))
          refine wpQuiet_nil ?_
          rintro w1 ⟨⟨_, x1⟩, rfl⟩
          rw [eqB_false H0.out]
          go_wp2
          go_ret
          exact ⟨ret_bool (eqB_false (ne_of_at hlt hlt2 H0.out)).symm, hx.trans x1⟩
      · go_wp2
        go_ret
        exact ⟨ret_bool (eqB_true (eq_of_take hlt HL.out HE.out)).symm, hx⟩
  · have hl' : ((xs.length : Int) != (ys.length : Int)) = true := by simp; omega
    go_enter Tryd.func28, Tryd.ntmps28
    go_wp2
    go_ret
    exact ⟨ret_bool (eqB_false fun e => hl (by rw [e])).symm, Ext.refl _⟩
end Go.Proofs.YtfieimmlcopbhaaDoor
