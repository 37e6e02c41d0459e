/-
  WALKS: the laws' szVerdictS, toVerdictS.
-/
import Derived.Test.YtblggajfdhjmjaaVer
namespace Go.Proofs.Ytblggajfdhjmjaa
open Go.RowKit

set_option maxHeartbeats 400000 in
theorem szVerdictS_c (v : Value) (xs : List Verdict) (left : Int) (w : World) (h : Sl verdictR w v xs) (h0 : 0 ≤ left) (h1 : left ≤ 1048576) :
    Calls Try.prog 5 #[v, .int .i64 left] w fun e w2 => e = .returned (.int .i64 (szv ((xs.length : Nat) : Int) left)) ∧ Ext w w2 := by
  obtain ⟨A, cap, rfl, hm⟩ := h.form
  by_cases hlt : left < xs.length
  · go_enter Try.func5, Try.ntmps5
    go_wp2
    go_ret
    exact ⟨ret_int (by unfold szv; rw [if_pos (by omega)]), Ext.refl _⟩
  · go_enter Try.func5, Try.ntmps5
    go_wp2
    go_ret
    exact ⟨ret_int (by unfold szv; rw [if_neg (by omega)]), Ext.refl _⟩

theorem infoVer : (Try.prog.info? 30).map (fun i => (i.zero, i.size, i.bytes)) = some (some (.agg #[.int .i64 0, .int .i64 0, .bool false, .int .i64 0]), 4, 32) := by kernel_rfl
def verZ : List Value := [.int .i64 0, .int .i64 0, .bool false, .int .i64 0]
set_option maxHeartbeats 400000 in
set_option maxRecDepth 20000 in
theorem toVerdictS_c (v : Value) (xs : List Verdict) (w : World) (h : Sl verdictR w v xs) (hb : xs.length ≤ 1048576) :
    Calls Try.prog 7 #[v] w fun e w2 => ∃ v2 F, e = .returned v2 ∧ OwnSl verdictO w2 v2 xs F ∧ NewF w F ∧ Ext w w2 := by
  obtain ⟨A, cap, rfl, hm⟩ := h.form
  obtain ⟨i0, hi0, hz0, hz1, hz2⟩ := info_parts infoVer
  have hmk := run_mk (P := Try.prog) 26 30 i0 _ verZ 32 Try.underlying26 hi0 hz0 rfl hz1 hz2 xs.length (by omega) hm
  go_enter Try.func7, Try.ntmps7
  go_wp2
  go_loopw [4] (fun i wr => ∃ (k : Nat) (done : List Value) (F : List Nat), k ≤ xs.length ∧ i = .int .i64 k ∧ Blk wr w.heap.size 30 (done ++ (List.replicate (xs.length - k) verZ).flatten) ∧
    OwnCells verdictO wr done (xs.take k) F ∧ FromF w.heap.size F ∧ Ext w wr) (fun i _ => xs.length - (intOf i).toNat)
  case atStart => exact ⟨0, [], [], Nat.zero_le _, rfl, by simpa using Blk.new w 30 (List.replicate xs.length verZ).flatten.toArray, .nil, .nil _, (Ext.refl _).alloc _⟩
  case round =>
    obtain ⟨k, done, F, hk, rfl, hblk, hown, hF, hx⟩ := hrel
    by_cases hlt : k < xs.length
    · obtain ⟨b, off, rfl, hok, hc0, hc1, hc2, hc3⟩ := (h.mono hx).verdict hlt
      have hz : (List.replicate (xs.length - k) verZ).flatten = .int .i64 0 :: .int .i64 0 :: .bool false :: .int .i64 0 :: (List.replicate (xs.length - (k + 1)) verZ).flatten := by
        rw [show xs.length - k = (xs.length - (k + 1)) + 1 by omega, List.replicate_succ]; rfl
      rw [hz] at hblk
      clear hz
      have hl : done.length = k * 4 := by rw [hown.length]; simp [verdictO, flatO, verdictR]; omega
      have hgl := block_lt hblk.out
      have HL := hid hl
      clear hl
      go_wp2_with fail
      refine (toVerdict_c _ _ _ _ _).mono ?_
      rintro e w2 ⟨rfl, x2⟩
      have hblk2 := hblk.ext x2
      obtain ⟨p0, q0⟩ := hblk2.at_ HL.out
      have b3 := hblk2.store HL.out (.int .i64 xs[k].a)
      have l3 : (done ++ [Value.int .i64 xs[k].a]).length = k * 4 + 1 := by rw [List.length_append, HL.out]; rfl
      obtain ⟨p1, q1⟩ := b3.at_ l3
      have b4 := b3.store l3 (.int .i64 xs[k].b)
      have l4 : (done ++ [Value.int .i64 xs[k].a] ++ [Value.int .i64 xs[k].b]).length = k * 4 + 2 := by rw [List.length_append, l3]; rfl
      obtain ⟨p2, q2⟩ := b4.at_ l4
      have b5 := b4.store l4 (.bool xs[k].same)
      have l5 : (done ++ [Value.int .i64 xs[k].a] ++ [Value.int .i64 xs[k].b] ++ [Value.bool xs[k].same]).length = k * 4 + 3 := by rw [List.length_append, l4]; rfl
      obtain ⟨p3, q3⟩ := b5.at_ l5
      have hst := b5.store l5 (.int .i64 xs[k].time)
      have hk2 : ∀ b, b ≠ w.heap.size → ((((w2.setCell ⟨w.heap.size, k * 4, none⟩ (.int .i64 xs[k].a)).setCell ⟨w.heap.size, k * 4 + 1, none⟩ (.int .i64 xs[k].b)).setCell ⟨w.heap.size, k * 4 + 2, none⟩ (.bool xs[k].same)).setCell ⟨w.heap.size, k * 4 + 3, none⟩ (.int .i64 xs[k].time)).heap[b]? = w2.heap[b]? :=
        fun b hb => (keep_setCell hb).trans ((keep_setCell hb).trans ((keep_setCell hb).trans (keep_setCell hb)))
      obtain ⟨ho3, hF3⟩ := hown.step (R := verdictO) hF x2 ⟨⟨rfl, hok⟩, rfl⟩ (NewF.nil _) hgl hk2
      have HK := hid (And.intro ho3 hF3)
      have HST := hid hst
      clear hblk hblk2 b3 b4 b5 HL l3 l4 l5 hst hk2 ho3 hF3 hok
      go_wp2
      go_roundw
      case rel => exact ⟨k + 1, done ++ [.int .i64 xs[k].a, .int .i64 xs[k].b, .bool xs[k].same, .int .i64 xs[k].time], F, by omega, by go_num, by simpa using HST.out, by rw [List.take_succ_eq_append_getElem hlt]; simpa [Verdict.cells] using HK.out.1, by simpa using HK.out.2, ((((hx.trans x2).setCell (by simp) _).setCell (by simp) _).setCell (by simp) _).setCell (by simp) _⟩
      case measure => simp [intOf]; omega
    · go_wp2
      go_ret
      rw [show xs.length - k = 0 by omega, List.replicate_zero, List.flatten_nil, List.append_nil] at hblk
      rw [List.take_of_length_le (by omega)] at hown
      exact ⟨_, _, rfl, OwnSl.of_blk hblk (by unfold maxLen; omega) hown, hF.new rfl, hx⟩
end Go.Proofs.Ytblggajfdhjmjaa
