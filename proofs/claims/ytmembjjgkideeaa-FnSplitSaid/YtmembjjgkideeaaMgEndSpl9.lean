/-
  SEVERAL SMALL TEXTS LAID TOGETHER: VerS, Vers, VerEq, VCons, IdxV, Cur, VerO, AppV, VerL, CloV, BinV, CompQ, AppW, DelV, InsV, RmV.
-/
import Derived.Test.YtmembjjgkideeaaMgEndSpl8
import Derived.Test.YtmembjjgkideeaaMgEndSpl5
import Derived.Test.YtmembjjgkideeaaMgEndSpl0
import Derived.Laws.OwnMore
import Derived.Lib.SliceRun
import Derived.Deep.LoopGhost
import Derived.Deep.AppendLies
import Derived.Deep.RegionLaw
import Derived.Shelf.RegionOpenPlain
import Derived.Lib.Overlaps
import Derived.Lib.AppendZerosOnto
import Derived.Laws.Externs
import Derived.Laws.NewBlocks
import Derived.Deep.RegionHeld3

namespace Go.Proofs.Ytmembjjgkideeaa
open Go.RowKit

set_option maxHeartbeats 400000 in
theorem szVerdictS_c (v : Value) (xs : List Verdict) (left : Int) (w : World) (h : Sl verdictR w v xs) (h0 : 0 ≤ left) (h1 : left ≤ 1048576) :
    Calls Try.prog 13 #[v, .int .i64 left] w fun e w2 => e = .returned (.int .i64 (szv ((xs.length : Nat) : Int) left)) ∧ Ext w w2 := by
  obtain ⟨A, cap, rfl, hm⟩ := h.form
  by_cases hlt : left < xs.length
  · go_enter Try.func13, Try.ntmps13
    go_wp2
    go_ret
    exact ⟨ret_int (by unfold szv; rw [if_pos (by omega)]), Ext.refl _⟩
  · go_enter Try.func13, Try.ntmps13
    go_wp2
    go_ret
    exact ⟨ret_int (by unfold szv; rw [if_neg (by omega)]), Ext.refl _⟩

theorem infoVer : (Try.prog.info? 32).map (fun i => (i.zero, i.size, i.bytes)) = some (some (.agg #[.int .i64 0, .int .i64 0, .bool false, .int .i64 0]), 4, 32) := by kernel_rfl
def verZ : List Value := [.int .i64 0, .int .i64 0, .bool false, .int .i64 0]
set_option maxHeartbeats 400000 in
set_option maxRecDepth 20000 in
theorem toVerdictS_c (v : Value) (xs : List Verdict) (w : World) (h : Sl verdictR w v xs) (hb : xs.length ≤ 1048576) :
    Calls Try.prog 14 #[v] w fun e w2 => ∃ v2 F, e = .returned v2 ∧ OwnSl verdictO w2 v2 xs F ∧ NewF w F ∧ Ext w w2 := by
  obtain ⟨A, cap, rfl, hm⟩ := h.form
  obtain ⟨i0, hi0, hz0, hz1, hz2⟩ := info_parts infoVer
  have hmk := run_mk (P := Try.prog) 24 32 i0 _ verZ 32 Try.underlying24 hi0 hz0 rfl hz1 hz2 xs.length (by omega) hm
  go_enter Try.func14, Try.ntmps14
  go_wp2
  go_loopw [4] (fun i wr => ∃ (k : Nat) (done : List Value) (F : List Nat), k ≤ xs.length ∧ i = .int .i64 k ∧ Blk wr w.heap.size 32 (done ++ (List.replicate (xs.length - k) verZ).flatten) ∧
    OwnCells verdictO wr done (xs.take k) F ∧ FromF w.heap.size F ∧ Ext w wr) (fun i _ => xs.length - (intOf i).toNat)
  case atStart => exact ⟨0, [], [], Nat.zero_le _, rfl, by simpa using Blk.new w 32 (List.replicate xs.length verZ).flatten.toArray, .nil, .nil _, (Ext.refl _).alloc _⟩
  case round =>
    obtain ⟨k, done, F, hk, rfl, hblk, hown, hF, hx⟩ := hrel
    by_cases hlt : k < xs.length
    · obtain ⟨b, off, rfl, hok, hc0, hc1, hc2, hc3⟩ := (h.mono hx).verdict hlt
      have hz : (List.replicate (xs.length - k) verZ).flatten = .int .i64 0 :: .int .i64 0 :: .bool false :: .int .i64 0 :: (List.replicate (xs.length - (k + 1)) verZ).flatten := by
        rw [show xs.length - k = (xs.length - (k + 1)) + 1 by omega, List.replicate_succ]; rfl
      rw [hz] at hblk
      clear hz
      have hl : done.length = k * 4 := by rw [hown.length]; simp [verdictO, flatO, verdictR]; omega
      have hgl := block_lt hblk.out
      have HL := hid hl
      clear hl
      go_wp2_with fail
      refine (toVerdict_c _ _ _ _ _).mono ?_
      rintro e w2 ⟨rfl, x2⟩
      have hblk2 := hblk.ext x2
      obtain ⟨p0, q0⟩ := hblk2.at_ HL.out
      have b3 := hblk2.store HL.out (.int .i64 xs[k].a)
      have l3 : (done ++ [Value.int .i64 xs[k].a]).length = k * 4 + 1 := by rw [List.length_append, HL.out]; rfl
      obtain ⟨p1, q1⟩ := b3.at_ l3
      have b4 := b3.store l3 (.int .i64 xs[k].b)
      have l4 : (done ++ [Value.int .i64 xs[k].a] ++ [Value.int .i64 xs[k].b]).length = k * 4 + 2 := by rw [List.length_append, l3]; rfl
      obtain ⟨p2, q2⟩ := b4.at_ l4
      have b5 := b4.store l4 (.bool xs[k].same)
      have l5 : (done ++ [Value.int .i64 xs[k].a] ++ [Value.int .i64 xs[k].b] ++ [Value.bool xs[k].same]).length = k * 4 + 3 := by rw [List.length_append, l4]; rfl
      obtain ⟨p3, q3⟩ := b5.at_ l5
      have hst := b5.store l5 (.int .i64 xs[k].time)
      have hk2 : ∀ b, b ≠ w.heap.size → ((((w2.setCell ⟨w.heap.size, k * 4, none⟩ (.int .i64 xs[k].a)).setCell ⟨w.heap.size, k * 4 + 1, none⟩ (.int .i64 xs[k].b)).setCell ⟨w.heap.size, k * 4 + 2, none⟩ (.bool xs[k].same)).setCell ⟨w.heap.size, k * 4 + 3, none⟩ (.int .i64 xs[k].time)).heap[b]? = w2.heap[b]? :=
        fun b hb => (keep_setCell hb).trans ((keep_setCell hb).trans ((keep_setCell hb).trans (keep_setCell hb)))
      obtain ⟨ho3, hF3⟩ := hown.step (R := verdictO) hF x2 ⟨⟨rfl, hok⟩, rfl⟩ (NewF.nil _) hgl hk2
      have HK := hid (And.intro ho3 hF3)
      have HST := hid hst
      clear hblk hblk2 b3 b4 b5 HL l3 l4 l5 hst hk2 ho3 hF3 hok
      go_wp2
      go_roundw
      case rel => exact ⟨k + 1, done ++ [.int .i64 xs[k].a, .int .i64 xs[k].b, .bool xs[k].same, .int .i64 xs[k].time], F, by omega, by go_num, by simpa using HST.out, by rw [List.take_succ_eq_append_getElem hlt]; simpa [Verdict.cells] using HK.out.1, by simpa using HK.out.2, ((((hx.trans x2).setCell (by simp) _).setCell (by simp) _).setCell (by simp) _).setCell (by simp) _⟩
      case measure => simp [intOf]; omega
    · go_wp2
      go_ret
      rw [show xs.length - k = 0 by omega, List.replicate_zero, List.flatten_nil, List.append_nil] at hblk
      rw [List.take_of_length_le (by omega)] at hown
      exact ⟨_, _, rfl, OwnSl.of_blk hblk (by unfold maxLen; omega) hown, hF.new rfl, hx⟩
end Go.Proofs.Ytmembjjgkideeaa

namespace Go.Proofs.Ytmembjjgkideeaa
open Go.RowKit

def vAt (xs : List Verdict) (k : Nat) : Verdict := xs.getD k ⟨0, 0, false, 0⟩
theorem vAt_at {xs : List Verdict} {k : Nat} (h : k < xs.length) : vAt xs k = xs[k] := by simp [vAt, List.getD, h]
def verAt (xs : List Verdict) (k : Nat) : Bool := okV (vAt xs k) && (k == 0 || decide (cmpV (vAt xs (k - 1)) (vAt xs k) < 0))
def areVers (xs : List Verdict) : Bool := (List.range xs.length).all (verAt xs) && decide (xs.length ≤ 8)
theorem vers_no {xs : List Verdict} {k : Nat} (hk : k < xs.length) (h : verAt xs k = false) : areVers xs = false := by
  unfold areVers
  rw [List.all_eq_false.2 ⟨k, List.mem_range.2 hk, by simp [h]⟩]; rfl
theorem vers_yes {xs : List Verdict} (h : ∀ j, j < xs.length → verAt xs j = true) : areVers xs = decide (xs.length ≤ 8) := by
  unfold areVers
  rw [List.all_eq_true.2 fun j hj => h j (List.mem_range.1 hj)]; rfl
theorem verAt_eq {xs : List Verdict} {k : Nat} (h : k < xs.length) : verAt xs k = (okV xs[k] && (k == 0 || decide (cmpV (vAt xs (k - 1)) xs[k] < 0))) := by
  unfold verAt; rw [vAt_at h]
theorem firstNZ_64 : ∀ l : List Int, (∀ x ∈ l, I64 x) → I64 (firstNZ l)
  | [], _ => by simp [firstNZ, I64]
  | x :: l, h => by
    rw [firstNZ]; split
    · exact h x (List.mem_cons_self ..)
    · exact firstNZ_64 l fun y hy => h y (List.mem_cons_of_mem _ hy)
theorem cmpV_64 (x y : Verdict) : I64 (cmpV x y) := firstNZ_64 _ (by simp [cmpI_64, cmpB_64])
theorem lt_succ_allV {p : Nat → Prop} {k : Nat} (h : ∀ j, j < k → p j) (hk : p k) : ∀ j, j < k + 1 → p j := fun j hj => by
  by_cases e : j = k
  · subst e; exact hk
  · exact h j (by omega)
theorem spec_valid (x : Verdict) (w : World) : Calls Try.prog 53 #[.agg #[.int .i64 x.a, .int .i64 x.b, .bool x.same, .int .i64 x.time]] w fun e w2 => e = .returned (.bool (okV x)) ∧ Ext w w2 := spec_IsValidVerdict _ _ _ _ w
theorem impl_valid (x : Verdict) (w : World) : Calls Try.prog 66 #[.agg #[.int .i64 x.a, .int .i64 x.b, .bool x.same, .int .i64 x.time]] w fun e w2 => e = .returned (.bool (okV x)) ∧ Ext w w2 := impl_IsValidVerdict _ _ _ _ w
theorem spec_cmp (x y : Verdict) (w : World) : Calls Try.prog 55 #[.agg #[.int .i64 x.a, .int .i64 x.b, .bool x.same, .int .i64 x.time], .agg #[.int .i64 y.a, .int .i64 y.b, .bool y.same, .int .i64 y.time]] w fun e w2 => e = .returned (.int .i64 (cmpV x y)) ∧ Ext w w2 := spec_CompareVerdicts x y w
theorem impl_cmp (x y : Verdict) (w : World) : Calls Try.prog 27 #[.agg #[.int .i64 x.a, .int .i64 x.b, .bool x.same, .int .i64 x.time], .agg #[.int .i64 y.a, .int .i64 y.b, .bool y.same, .int .i64 y.time]] w fun e w2 => e = .returned (.int .i64 (cmpV x y)) ∧ Ext w w2 := impl_CompareVerdicts x y w

set_option maxHeartbeats 400000 in
set_option maxRecDepth 20000 in
theorem spec_AreVerdicts (v : Value) (xs : List Verdict) (w : World) (h : Sl verdictR w v xs) :
    Calls Try.prog 33 #[v] w fun e w2 => e = .returned (.bool (areVers xs)) ∧ Ext w w2 := by
  obtain ⟨A, cap, rfl, hm⟩ := h.form
  go_enter Try.func33, Try.ntmps33
  go_wp2
  go_loopw [3] (fun i wr => ∃ k : Nat, k ≤ xs.length ∧ i = .int .i64 k ∧ (∀ q, q < k → verAt xs q = true) ∧ Ext w wr) (fun i _ => xs.length - (intOf i).toNat)
  case atStart => exact ⟨0, Nat.zero_le _, rfl, fun q hq => absurd hq (Nat.not_lt_zero _), Ext.refl _⟩
  case round =>
    obtain ⟨k, hk, rfl, hz, hx⟩ := hrel
    have HZ := hid hz
    clear hz
    by_cases hlt : k < xs.length
    · obtain ⟨b, off, rfl, hok, hc0, hc1, hc2, hc3⟩ := (h.mono hx).verdict hlt
      clear hok
      have HA := hid (verAt_eq hlt)
      have hz0 : ∀ z : ExtOf wr, z.1.cell? ⟨b, off + k * 4, none⟩ = _ := fun z => z.2.cell hc0
      have hz1 : ∀ z : ExtOf wr, z.1.cell? ⟨b, off + k * 4 + 1, none⟩ = _ := fun z => z.2.cell hc1
      have hz2 : ∀ z : ExtOf wr, z.1.cell? ⟨b, off + k * 4 + 2, none⟩ = _ := fun z => z.2.cell hc2
      have hz3 : ∀ z : ExtOf wr, z.1.cell? ⟨b, off + k * 4 + 3, none⟩ = _ := fun z => z.2.cell hc3
      cases hin : okV xs[k] with
      | false =>
        go_wp2_with fail
        refine wp_region_ext (by kernel_rfl) (by kernel_rfl) ?_
        repeat (go_big_quiet_step ((first | (go_at_call 53; exact quiet_ext (Calls.mono (spec_valid xs[k] _) fun _ _ h9 => ⟨h9.1.trans (ret_bool hin), h9.2⟩)))))
        refine wpQuiet_nil ?_
        rintro w4 ⟨⟨_, x4⟩, rfl⟩
        go_wp2
        go_ret
        exact ⟨ret_bool (vers_no hlt (by rw [HA.out, hin]; rfl)).symm, hx.trans x4⟩
      | true =>
        have HI := hid hin
        by_cases hj0 : 0 < k
        · have hlt1 : k - 1 < xs.length := by omega
          obtain ⟨b3, off3, e3, hok3, hd0, hd1, hd2, hd3⟩ := (h.mono hx).verdict hlt1
          cases e3
          clear hok3
          have hsub : ((k - 1 : Nat) : Int) = (k : Int) - 1 := by omega
          have hy0 : ∀ z : ExtOf wr, z.1.cell? ⟨b, off + (k - 1) * 4, none⟩ = _ := fun z => z.2.cell hd0
          have hy1 : ∀ z : ExtOf wr, z.1.cell? ⟨b, off + (k - 1) * 4 + 1, none⟩ = _ := fun z => z.2.cell hd1
          have hy2 : ∀ z : ExtOf wr, z.1.cell? ⟨b, off + (k - 1) * 4 + 2, none⟩ = _ := fun z => z.2.cell hd2
          have hy3 : ∀ z : ExtOf wr, z.1.cell? ⟨b, off + (k - 1) * 4 + 3, none⟩ = _ := fun z => z.2.cell hd3
          have HGD := hid (vAt_at hlt1)
          have h64 := (cmpV_64 xs[k - 1] xs[k]).out
          by_cases hge : 0 ≤ cmpV xs[k - 1] xs[k]
          · have HGE := hid (show decide (cmpV xs[k - 1] xs[k] < 0) = false by simpa using hge)
            go_wp2_with fail
            refine wp_region_ext (by kernel_rfl) (by kernel_rfl) ?_
            repeat (go_big_quiet_step ((first | (go_at_call 53; exact quiet_ext (Calls.mono (spec_valid xs[k] _) fun _ _ h9 => ⟨h9.1.trans (ret_bool hin), h9.2⟩)) | (go_at_call 55; exact quiet_ext (spec_cmp xs[k - 1] xs[k] _)))))
            refine wpQuiet_nil ?_
            rintro w4 ⟨⟨_, x4⟩, rfl⟩
            go_wp2
            go_ret
            exact ⟨ret_bool (vers_no hlt (by rw [HA.out, HGD.out, HGE.out, show (k == 0) = false by simp; omega]; simp)).symm, hx.trans x4⟩
          · have hlt9 : cmpV xs[k - 1] xs[k] < 0 := by omega
            have HGE := hid (show decide (cmpV xs[k - 1] xs[k] < 0) = true by simpa using hlt9)
            clear hge
            go_wp2_with fail
            refine wp_region_ext (by kernel_rfl) (by kernel_rfl) ?_
            repeat (go_big_quiet_step ((first | (go_at_call 53; exact quiet_ext (Calls.mono (spec_valid xs[k] _) fun _ _ h9 => ⟨h9.1.trans (ret_bool hin), h9.2⟩)) | (go_at_call 55; exact quiet_ext (spec_cmp xs[k - 1] xs[k] _)))))
            refine wpQuiet_nil ?_
            rintro w4 ⟨⟨_, x4⟩, rfl⟩
            go_wp2
            go_roundw
            case rel => exact ⟨k + 1, by omega, by go_num, lt_succ_allV HZ.out (by rw [HA.out, HI.out, HGD.out, HGE.out, Bool.or_true]; rfl), hx.trans x4⟩
            case measure => simp [intOf]; omega
        · have hjd1 : decide (0 < k) = false := by simpa using hj0
          have hjd2 : decide ((0 : Int) < (k : Int)) = false := by simp; omega
          have HJ0 := hid (show (k == 0) = true by simp; omega)
          clear hj0
          go_wp2_with fail
          refine wp_region_ext (by kernel_rfl) (by kernel_rfl) ?_
          repeat (go_big_quiet_step ((first | (go_at_call 53; exact quiet_ext (Calls.mono (spec_valid xs[k] _) fun _ _ h9 => ⟨h9.1.trans (ret_bool hin), h9.2⟩)))))
          refine wpQuiet_nil ?_
          rintro w4 ⟨⟨_, x4⟩, rfl⟩
          go_wp2
          go_roundw
          case rel => exact ⟨k + 1, by omega, by go_num, lt_succ_allV HZ.out (by rw [HA.out, HI.out, HJ0.out]; rfl), hx.trans x4⟩
          case measure => simp [intOf]; omega
    · go_wp2
      go_ret
      exact ⟨ret_bool (by rw [vers_yes fun j hj => HZ.out j (by omega)]; exact decide_eq_decide.2 (by omega)), hx⟩

set_option maxHeartbeats 400000 in
set_option maxRecDepth 20000 in
theorem impl_AreVerdicts (v : Value) (xs : List Verdict) (w : World) (h : Sl verdictR w v xs) :
    Calls Try.prog 42 #[v] w fun e w2 => e = .returned (.bool (areVers xs)) ∧ Ext w w2 := by
  obtain ⟨A, cap, rfl, hm⟩ := h.form
  go_enter Try.func42, Try.ntmps42
  go_wp2
  go_loopw [7] (fun i wr => ∃ k : Nat, k ≤ xs.length ∧ i = .int .i64 k ∧ (∀ q, q < k → verAt xs q = true) ∧ Ext w wr) (fun i _ => xs.length - (intOf i).toNat)
  case atStart => exact ⟨0, Nat.zero_le _, rfl, fun q hq => absurd hq (Nat.not_lt_zero _), Ext.refl _⟩
  case round =>
    obtain ⟨k, hk, rfl, hz, hx⟩ := hrel
    have HZ := hid hz
    clear hz
    by_cases hlt : k < xs.length
    · obtain ⟨b, off, rfl, hok, hc0, hc1, hc2, hc3⟩ := (h.mono hx).verdict hlt
      clear hok
      have HA := hid (verAt_eq hlt)
      have hzb : ∀ z : ExtOf (wr.alloc (.cells #[.int .i64 xs[k].a, .int .i64 xs[k].b, .bool xs[k].same, .int .i64 xs[k].time] 32)), z.1.cell? ⟨wr.heap.size, 0, none⟩ = some (.int .i64 xs[k].a) ∧ z.1.cell? ⟨wr.heap.size, 1, none⟩ = some (.int .i64 xs[k].b) ∧ z.1.cell? ⟨wr.heap.size, 2, none⟩ = some (.bool xs[k].same) ∧ z.1.cell? ⟨wr.heap.size, 3, none⟩ = some (.int .i64 xs[k].time) := fun z => ⟨z.2.box.1 0, z.2.box.1 1, z.2.box.1 2, z.2.box.1 3⟩
      cases hin : okV xs[k] with
      | false =>
        go_wp2_with fail
        refine wp_region_ext (by kernel_rfl) (by kernel_rfl) ?_
        repeat (go_big_quiet_step ((first | (go_at_call 66; exact quiet_ext (Calls.mono (impl_valid xs[k] _) fun _ _ h9 => ⟨h9.1.trans (ret_bool hin), h9.2⟩)))))
        refine wpQuiet_nil ?_
        rintro w4 ⟨⟨_, x4⟩, rfl⟩
        go_wp2
        go_ret
        exact ⟨ret_bool (vers_no hlt (by rw [HA.out, hin]; rfl)).symm, (by repeat (first | with_reducible exact Ext.refl _ | with_reducible assumption | with_reducible refine Ext.drew ?_ | with_reducible refine Ext.alloc ?_ _ | with_reducible refine Ext.trans ?_ (by with_reducible assumption)))⟩
      | true =>
        have HI := hid hin
        by_cases hj0 : 0 < k
        · have hlt1 : k - 1 < xs.length := by omega
          obtain ⟨b3, off3, e3, hok3, hd0, hd1, hd2, hd3⟩ := (h.mono hx).verdict hlt1
          cases e3
          clear hok3
          have hsub : ((k - 1 : Nat) : Int) = (k : Int) - 1 := by omega
          have hy0 : ∀ z : ExtOf (wr.alloc (.cells #[.int .i64 xs[k].a, .int .i64 xs[k].b, .bool xs[k].same, .int .i64 xs[k].time] 32)), z.1.cell? ⟨b, off + (k - 1) * 4, none⟩ = _ := fun z => (((Ext.refl _).alloc _).trans z.2).cell hd0
          have hy1 : ∀ z : ExtOf (wr.alloc (.cells #[.int .i64 xs[k].a, .int .i64 xs[k].b, .bool xs[k].same, .int .i64 xs[k].time] 32)), z.1.cell? ⟨b, off + (k - 1) * 4 + 1, none⟩ = _ := fun z => (((Ext.refl _).alloc _).trans z.2).cell hd1
          have hy2 : ∀ z : ExtOf (wr.alloc (.cells #[.int .i64 xs[k].a, .int .i64 xs[k].b, .bool xs[k].same, .int .i64 xs[k].time] 32)), z.1.cell? ⟨b, off + (k - 1) * 4 + 2, none⟩ = _ := fun z => (((Ext.refl _).alloc _).trans z.2).cell hd2
          have hy3 : ∀ z : ExtOf (wr.alloc (.cells #[.int .i64 xs[k].a, .int .i64 xs[k].b, .bool xs[k].same, .int .i64 xs[k].time] 32)), z.1.cell? ⟨b, off + (k - 1) * 4 + 3, none⟩ = _ := fun z => (((Ext.refl _).alloc _).trans z.2).cell hd3
          have HGD := hid (vAt_at hlt1)
          have h64 := (cmpV_64 xs[k - 1] xs[k]).out
          by_cases hge : 0 ≤ cmpV xs[k - 1] xs[k]
          · have HGE := hid (show decide (cmpV xs[k - 1] xs[k] < 0) = false by simpa using hge)
            go_wp2_with fail
            refine wp_region_ext (by kernel_rfl) (by kernel_rfl) ?_
            repeat (go_big_quiet_step ((first | (go_at_call 66; exact quiet_ext (Calls.mono (impl_valid xs[k] _) fun _ _ h9 => ⟨h9.1.trans (ret_bool hin), h9.2⟩)) | (go_at_call 27; exact quiet_ext (impl_cmp xs[k - 1] xs[k] _)))))
            refine wpQuiet_nil ?_
            rintro w4 ⟨⟨_, x4⟩, rfl⟩
            go_wp2
            go_ret
            exact ⟨ret_bool (vers_no hlt (by rw [HA.out, HGD.out, HGE.out, show (k == 0) = false by simp; omega]; simp)).symm, (by repeat (first | with_reducible exact Ext.refl _ | with_reducible assumption | with_reducible refine Ext.drew ?_ | with_reducible refine Ext.alloc ?_ _ | with_reducible refine Ext.trans ?_ (by with_reducible assumption)))⟩
          · have hlt9 : cmpV xs[k - 1] xs[k] < 0 := by omega
            have HGE := hid (show decide (cmpV xs[k - 1] xs[k] < 0) = true by simpa using hlt9)
            clear hge
            go_wp2_with fail
            refine wp_region_ext (by kernel_rfl) (by kernel_rfl) ?_
            repeat (go_big_quiet_step ((first | (go_at_call 66; exact quiet_ext (Calls.mono (impl_valid xs[k] _) fun _ _ h9 => ⟨h9.1.trans (ret_bool hin), h9.2⟩)) | (go_at_call 27; exact quiet_ext (impl_cmp xs[k - 1] xs[k] _)))))
            refine wpQuiet_nil ?_
            rintro w4 ⟨⟨_, x4⟩, rfl⟩
            go_wp2
            go_roundw
            case rel => exact ⟨k + 1, by omega, by go_num, lt_succ_allV HZ.out (by rw [HA.out, HI.out, HGD.out, HGE.out, Bool.or_true]; rfl), (by repeat (first | with_reducible exact Ext.refl _ | with_reducible assumption | with_reducible refine Ext.drew ?_ | with_reducible refine Ext.alloc ?_ _ | with_reducible refine Ext.trans ?_ (by with_reducible assumption)))⟩
            case measure => simp [intOf]; omega
        · have hjd1 : decide (0 < k) = false := by simpa using hj0
          have hjd2 : decide ((0 : Int) < (k : Int)) = false := by simp; omega
          have HJ0 := hid (show (k == 0) = true by simp; omega)
          clear hj0
          go_wp2_with fail
          refine wp_region_ext (by kernel_rfl) (by kernel_rfl) ?_
          repeat (go_big_quiet_step ((first | (go_at_call 66; exact quiet_ext (Calls.mono (impl_valid xs[k] _) fun _ _ h9 => ⟨h9.1.trans (ret_bool hin), h9.2⟩)))))
          refine wpQuiet_nil ?_
          rintro w4 ⟨⟨_, x4⟩, rfl⟩
          go_wp2
          go_roundw
          case rel => exact ⟨k + 1, by omega, by go_num, lt_succ_allV HZ.out (by rw [HA.out, HI.out, HJ0.out]; rfl), (by repeat (first | with_reducible exact Ext.refl _ | with_reducible assumption | with_reducible refine Ext.drew ?_ | with_reducible refine Ext.alloc ?_ _ | with_reducible refine Ext.trans ?_ (by with_reducible assumption)))⟩
          case measure => simp [intOf]; omega
    · go_wp2
      go_ret
      exact ⟨ret_bool (by rw [vers_yes fun j hj => HZ.out j (by omega)]; exact decide_eq_decide.2 (by omega)), hx⟩
end Go.Proofs.Ytmembjjgkideeaa

namespace Go.Proofs.Ytmembjjgkideeaa
open Go.RowKit

theorem ver_cases (x y : Verdict) : (x = y ∧ (x.a == y.a) = true ∧ (x.b == y.b) = true ∧ (x.same == y.same) = true ∧ (x.time == y.time) = true) ∨
    (¬ x = y ∧ ((x.a == y.a) = false ∨ ((x.a == y.a) = true ∧ (x.b == y.b) = false) ∨ ((x.a == y.a) = true ∧ (x.b == y.b) = true ∧ (x.same == y.same) = false) ∨ ((x.a == y.a) = true ∧ (x.b == y.b) = true ∧ (x.same == y.same) = true ∧ (x.time == y.time) = false))) := by
  by_cases h1 : x.a = y.a
  · by_cases h2 : x.b = y.b
    · by_cases h3 : x.same = y.same
      · by_cases h4 : x.time = y.time
        · exact .inl ⟨(Verdict.eta x y).2 ⟨h1, h2, h3, h4⟩, by simp [h1], by simp [h2], by simp [h3], by simp [h4]⟩
        · exact .inr ⟨fun e => h4 (by rw [e]), .inr (.inr (.inr ⟨by simp [h1], by simp [h2], by simp [h3], by simp [h4]⟩))⟩
      · exact .inr ⟨fun e => h3 (by rw [e]), .inr (.inr (.inl ⟨by simp [h1], by simp [h2], by simp [h3]⟩))⟩
    · exact .inr ⟨fun e => h2 (by rw [e]), .inr (.inl ⟨by simp [h1], by simp [h2]⟩)⟩
  · exact .inr ⟨fun e => h1 (by rw [e]), .inl (by simp [h1])⟩

end Go.Proofs.Ytmembjjgkideeaa

namespace Go.Proofs.Ytmembjjgkideeaa
open Go.RowKit

theorem infoCons : (Try.prog.info? 56).map (fun i => (i.zero, i.size, i.bytes)) = some (some (.agg #[.int .i64 0, .int .i64 0, .bool false]), 3, 24) := by kernel_rfl
theorem elemCons : ElemT Try.prog 33 56 constraintO.n 24 := by
  obtain ⟨i, h1, h2, h3, h4⟩ := info_parts infoCons
  exact ⟨Try.underlying33, i, _, h1, h2, h3, h4, rfl⟩
theorem one_iib (a b : Int) (c : Bool) : ∀ u ∈ (#[Value.int .i64 a, .int .i64 b, .bool c] : Array Value).toList, u.oneCell' = true := by simp [Value.oneCell']

def vcon (items : List Int) (v : Verdict) : List Constraint := if 0 ≤ idxI v.a items ∧ idxI v.a items < idxI v.b items then [⟨idxI v.a items, idxI v.b items, v.same⟩] else []
def vcons (items : List Int) (xs : List Verdict) : List Constraint := xs.flatMap (vcon items)
theorem vcon_len (items : List Int) (v : Verdict) : (vcon items v).length ≤ 1 := by unfold vcon; split <;> simp
theorem vcon_yes {items : List Int} {v : Verdict} (h : 0 ≤ idxI v.a items) (h2 : idxI v.a items < idxI v.b items) : vcon items v = [⟨idxI v.a items, idxI v.b items, v.same⟩] := by unfold vcon; rw [if_pos ⟨h, h2⟩]
theorem vcon_no {items : List Int} {v : Verdict} (h : ¬ (0 ≤ idxI v.a items ∧ idxI v.a items < idxI v.b items)) : vcon items v = [] := by unfold vcon; rw [if_neg h]

set_option maxHeartbeats 400000 in
set_option maxRecDepth 20000 in
theorem impl_VerdictConstraints (v u : Value) (xs : List Verdict) (items : List Int) (w : World) (h : Sl verdictR w v xs) (k0 : Sl intR w u items) (hb : xs.length ≤ 1048576) :
    Calls Try.prog 11 #[v, u] w fun e w2 => ∃ v2 F, e = .returned v2 ∧ OwnSl constraintO w2 v2 (vcons items xs) F ∧ NewF w F ∧ Ext w w2 := by
  obtain ⟨A, cap, rfl, hm⟩ := h.form
  obtain ⟨B, cap2, rfl, hm2⟩ := k0.form
  go_enter Try.func11, Try.ntmps11
  go_wp2
  go_loopw [5, 12] (fun t i wr => ∃ k : Nat, k ≤ xs.length ∧ i = .int .i64 k ∧ Bld constraintO wr w.heap.size 56 t ((xs.take k).flatMap (vcon items)) [] ∧ Ext w wr) (fun _ i _ => xs.length - (intOf i).toNat)
  case atStart => exact ⟨0, Nat.zero_le _, rfl, Bld.nil w _ _, Ext.refl _⟩
  case round =>
    obtain ⟨k, hk, rfl, hB, hx⟩ := hrel
    by_cases hlt : k < xs.length
    · obtain ⟨b, off, rfl, hok, hc0, hc1, hc2, hc3⟩ := (h.mono hx).verdict hlt
      clear hok
      have HF := hid (flat_step (vcon items) xs k hlt)
      have hbl := flat_take_len (vcon items) (vcon_len items) xs k
      have ba := idxI_bd xs[k].a items
      have bb := idxI_bd xs[k].b items
      have hir : ∀ z : ExtOf (wr.alloc (.cells #[.int .i64 xs[k].a, .int .i64 xs[k].b, .bool xs[k].same, .int .i64 xs[k].time] 32)), Sl intR z.1 (.slice B items.length cap2) items := fun z => k0.mono ((hx.alloc _).trans z.2)
      have HIR := hid hir
      clear hir
      have hzb : ∀ z : ExtOf (wr.alloc (.cells #[.int .i64 xs[k].a, .int .i64 xs[k].b, .bool xs[k].same, .int .i64 xs[k].time] 32)), z.1.cell? ⟨wr.heap.size, 0, none⟩ = some (.int .i64 xs[k].a) ∧ z.1.cell? ⟨wr.heap.size, 1, none⟩ = some (.int .i64 xs[k].b) := fun z => ⟨z.2.box.1 0, z.2.box.1 1⟩
      go_wp2_with fail
      refine wp_region_ext (by kernel_rfl) (by kernel_rfl) ?_
      repeat (go_big_quiet_step (((go_at_call 34; exact quiet_same (slices_Index _ items _ _ (HIR.out _))))))
      refine wpQuiet_nil ?_
      rintro w4 ⟨⟨_, x4⟩, rfl⟩
      have c2 : w4.cell? ⟨wr.heap.size, 2, none⟩ = some (.bool xs[k].same) := x4.box.1 2
      have x5 : Ext wr w4 := ((Ext.refl _).alloc _).trans x4
      clear hzb
      by_cases h0 : 0 ≤ idxI xs[k].a items
      · by_cases h1 : idxI xs[k].a items < idxI xs[k].b items
        · have HY := hid (vcon_yes h0 h1)
          have ia : I64 (idxI xs[k].a items) := by unfold I64; omega
          have ib : I64 (idxI xs[k].b items) := by unfold I64; omega
          go_wp2_with (at_builtin; refine wpList_app1 (R := constraintO) elemCons (by decide) rfl _ _ rfl (hB.ext x5) rfl _ 1 rfl (by simp) (one_iib _ _ _) (y := ⟨idxI xs[k].a items, idxI xs[k].b items, xs[k].same⟩) ⟨⟨rfl, ⟨ia, ib⟩⟩, rfl⟩ fresh_nil (by omega) (by decide) (Nat.le_trans hx.size x5.size) ?_; intro v9 w9 hB9 hE9)
          go_roundw
          case rel => exact ⟨k + 1, by omega, by go_num, by rw [HF.out, HY.out]; exact hB9, hE9 w (Nat.le_refl _) (hx.trans x5)⟩
          case measure => simp [intOf]; omega
        · have HY := hid (vcon_no (items := items) (v := xs[k]) fun h9 => h1 h9.2)
          go_wp2
          go_roundw
          case rel => exact ⟨k + 1, by omega, by go_num, by rw [HF.out, HY.out, List.append_nil]; exact hB.ext x5, hx.trans x5⟩
          case measure => simp [intOf]; omega
      · have HY := hid (vcon_no (items := items) (v := xs[k]) fun h9 => h0 h9.1)
        have h0' : idxI xs[k].a items < 0 := by omega
        clear h0
        go_wp2
        go_roundw
        case rel => exact ⟨k + 1, by omega, by go_num, by rw [HF.out, HY.out, List.append_nil]; exact hB.ext x5, hx.trans x5⟩
        case measure => simp [intOf]; omega
    · go_wp2
      go_ret
      rw [List.take_of_length_le (by omega)] at hB
      obtain ⟨F', d1, d2, d3⟩ := hB.done
      exact ⟨_, F', rfl, d1, ⟨d2, d3⟩, hx⟩
end Go.Proofs.Ytmembjjgkideeaa

namespace Go.Proofs.Ytmembjjgkideeaa
open Go.RowKit

noncomputable def idxV (xs : List Verdict) (x : Verdict) : Int := idxF (fun y => eqB y x) 0 xs

set_option maxHeartbeats 400000 in
set_option maxRecDepth 20000 in
theorem spec_l28At (v : Value) (xs : List Verdict) (x : Verdict) (w : World) (h : Sl verdictR w v xs) :
    Calls Try.prog 54 #[v, .agg #[.int .i64 x.a, .int .i64 x.b, .bool x.same, .int .i64 x.time]] w fun e w2 => e = .returned (.int .i64 (idxV xs x)) ∧ Ext w w2 := by
  obtain ⟨A, cap, rfl, hm⟩ := h.form
  have xB : Ext w (w.alloc (.cells #[.int .i64 x.a, .int .i64 x.b, .bool x.same, .int .i64 x.time] 32)) := (Ext.refl _).alloc _
  have HB := hid (show ∀ W, Ext (w.alloc (.cells #[.int .i64 x.a, .int .i64 x.b, .bool x.same, .int .i64 x.time] 32)) W → W.cell? ⟨w.heap.size, 0, none⟩ = some (.int .i64 x.a) ∧ W.cell? ⟨w.heap.size, 1, none⟩ = some (.int .i64 x.b) ∧ W.cell? ⟨w.heap.size, 2, none⟩ = some (.bool x.same) ∧ W.cell? ⟨w.heap.size, 3, none⟩ = some (.int .i64 x.time) from fun W z => ⟨z.box.1 0, z.box.1 1, z.box.1 2, z.box.1 3⟩)
  go_enter Try.func54, Try.ntmps54
  go_wp2
  go_loopw [5] (fun i wr => ∃ k : Nat, k ≤ xs.length ∧ i = .int .i64 k ∧ (∀ y ∈ xs.take k, eqB y x = false) ∧ Ext (w.alloc (.cells #[.int .i64 x.a, .int .i64 x.b, .bool x.same, .int .i64 x.time] 32)) wr) (fun i _ => xs.length - (intOf i).toNat)
  case atStart => exact ⟨0, Nat.zero_le _, rfl, by simp, Ext.refl _⟩
  case round =>
    obtain ⟨k, hk, rfl, hz, hx⟩ := hrel
    have HZ := hid hz
    clear hz
    have xw : Ext w wr := xB.trans hx
    by_cases hlt : k < xs.length
    · obtain ⟨b, off, rfl, hok, hc0, hc1, hc2, hc3⟩ := (h.mono xw).verdict hlt
      clear hok
      obtain ⟨d0, d1, d2, d3⟩ := HB.out _ hx
      have y0 : ∀ z : ExtOf wr, z.1.cell? ⟨b, off + k * 4, none⟩ = _ := fun z => z.2.cell hc0
      have y1 : ∀ z : ExtOf wr, z.1.cell? ⟨b, off + k * 4 + 1, none⟩ = _ := fun z => z.2.cell hc1
      have y2 : ∀ z : ExtOf wr, z.1.cell? ⟨b, off + k * 4 + 2, none⟩ = _ := fun z => z.2.cell hc2
      have y3 : ∀ z : ExtOf wr, z.1.cell? ⟨b, off + k * 4 + 3, none⟩ = _ := fun z => z.2.cell hc3
      have z0 : ∀ z : ExtOf wr, z.1.cell? ⟨w.heap.size, 0, none⟩ = _ := fun z => z.2.cell d0
      have z1 : ∀ z : ExtOf wr, z.1.cell? ⟨w.heap.size, 1, none⟩ = _ := fun z => z.2.cell d1
      have z2 : ∀ z : ExtOf wr, z.1.cell? ⟨w.heap.size, 2, none⟩ = _ := fun z => z.2.cell d2
      have z3 : ∀ z : ExtOf wr, z.1.cell? ⟨w.heap.size, 3, none⟩ = _ := fun z => z.2.cell d3
      rcases ver_cases xs[k] x with ⟨he, e1, e2, e3, e4⟩ | ⟨hne, hw⟩
      · have H0 := hid he
        clear he
        go_wp2_with fail
        refine wp_region_ext (by kernel_rfl) (by kernel_rfl) ?_
        repeat (go_big_quiet_step ((fail)))
        refine wpQuiet_nil ?_
        rintro w1 ⟨⟨_, x1⟩, rfl⟩
        go_wp2
        go_ret
        exact ⟨ret_int (idxF_at (fun y => eqB y x) xs k hlt HZ.out (eqB_true H0.out)).symm, xw.trans x1⟩
      · have H0 := hid hne
        clear hne
        rcases hw with e1 | ⟨e1, e2⟩ | ⟨e1, e2, e3⟩ | ⟨e1, e2, e3, e4⟩
        all_goals
          go_wp2_with fail
          refine wp_region_ext (by kernel_rfl) (by kernel_rfl) ?_
          repeat (go_big_quiet_step ((fail)))
          refine wpQuiet_nil ?_
          rintro w1 ⟨⟨_, x1⟩, rfl⟩
          go_wp2
          go_roundw
        all_goals try (case rel => exact ⟨k + 1, by omega, by go_num, take_snoc_all (fun y => eqB y x = false) xs k hlt HZ.out (eqB_false H0.out), hx.trans x1⟩)
        all_goals (simp [intOf]; omega)
    · go_wp2
      go_ret
      exact ⟨ret_int (idxF_all (fun y => eqB y x) xs k hlt HZ.out).symm, xw⟩

end Go.Proofs.Ytmembjjgkideeaa

namespace Go.Proofs.Ytmembjjgkideeaa
open Go.RowKit

theorem elemVer : ElemT Try.prog 24 32 verdictO.n 32 := by
  obtain ⟨i, h1, h2, h3, h4⟩ := info_parts infoVer
  exact ⟨Try.underlying24, i, _, h1, h2, h3, h4, rfl⟩
theorem one_ver (a b : Int) (c : Bool) (d : Int) : ∀ u ∈ (#[Value.int .i64 a, .int .i64 b, .bool c, .int .i64 d] : Array Value).toList, u.oneCell' = true := by simp [Value.oneCell']

/-- the last element of a list that grows: its cells; a store of a whole verdict there -/
theorem Bld.ver_last {w : World} {base : Nat} {e : TypeId} {A : Option Addr} {n cap : Nat} {xs : List Verdict} {l : Verdict} (h : Bld verdictO w base e (.slice A n cap) (xs ++ [l]) []) :
    n = xs.length + 1 ∧ ∃ g, A = some ⟨g, 0, none⟩ ∧ base ≤ g ∧ g < w.heap.size ∧ (w.cell? ⟨g, xs.length * 4, none⟩ = some (.int .i64 l.a) ∧ w.cell? ⟨g, xs.length * 4 + 1, none⟩ = some (.int .i64 l.b) ∧ w.cell? ⟨g, xs.length * 4 + 2, none⟩ = some (.bool l.same) ∧ w.cell? ⟨g, xs.length * 4 + 3, none⟩ = some (.int .i64 l.time)) ∧
      (∀ i, w.frozen? ⟨g, i, none⟩ = false) ∧ ∀ y : Verdict, y.ok → Bld verdictO ((((w.setCell ⟨g, xs.length * 4, none⟩ (.int .i64 y.a)).setCell ⟨g, xs.length * 4 + 1, none⟩ (.int .i64 y.b)).setCell ⟨g, xs.length * 4 + 2, none⟩ (.bool y.same)).setCell ⟨g, xs.length * 4 + 3, none⟩ (.int .i64 y.time)) base e (.slice A n cap) (xs ++ [y]) [] := by
  have hlt := h.lt
  obtain ⟨cs, h1, h2, _, _, _⟩ := h
  have hlen : (xs ++ [l]).length = xs.length + 1 := by simp
  rcases h1.2 with ⟨e0, hn⟩ | ⟨g, cap', cur, e0, hb, hh, hr⟩
  · rw [hlen] at hn; omega
  · injection e0 with e1 e2 e3
    subst e1; subst e3
    rw [hlen] at e2
    subst e2
    refine ⟨rfl, g, rfl, hb, block_lt hh, ?_⟩
    rw [hlen] at h1
    obtain ⟨c0, c, c1, F0, F1, F2, rfl, hF, l0, _, k0, k1, k2⟩ := h2.split xs.length (by rw [hlen]; omega)
    have hF0 : F0 = [] := (List.append_eq_nil_iff.1 hF.symm).1
    have hF2 : F2 = [] := (List.append_eq_nil_iff.1 (List.append_eq_nil_iff.1 hF.symm).2).2
    subst hF0; subst hF2
    rw [List.getElem_append_right (by omega)] at k1
    simp only [Nat.sub_self, List.getElem_singleton] at k1
    obtain ⟨⟨rfl, hok⟩, rfl⟩ := k1
    rw [show (xs ++ [l]).drop (xs.length + 1) = [] by simp] at k2
    obtain ⟨rfl, _⟩ := k2
    rw [List.append_nil] at h1
    rw [show (xs ++ [l]).take xs.length = xs by simp] at k0
    have hn : verdictO.n = 4 := rfl
    rw [hn] at l0 h1
    have hat := fun j (hj : j < 4) => h1.cellAt (xs.length * 4 + j) (by omega)
    have hget : ∀ j, (c0 ++ l.cells)[xs.length * 4 + j]? = l.cells[j]? := fun j => by rw [List.getElem?_append_right (by omega), l0]; congr 1; omega
    refine ⟨⟨by simpa [hget, Verdict.cells] using (hat 0 (by omega)).trans (hget 0), by simpa [Verdict.cells] using (hat 1 (by omega)).trans (hget 1), by simpa [Verdict.cells] using (hat 2 (by omega)).trans (hget 2), by simpa [Verdict.cells] using (hat 3 (by omega)).trans (hget 3)⟩, h1.frozenAt, fun y hy => ?_⟩
    have s0 := h1.stored (xs.length * 4) (.int .i64 y.a)
    have s1 := s0.1.stored (xs.length * 4 + 1) (.int .i64 y.b)
    have s2 := s1.1.stored (xs.length * 4 + 2) (.bool y.same)
    have s3 := s2.1.stored (xs.length * 4 + 3) (.int .i64 y.time)
    have hset : ((((c0 ++ l.cells).set (xs.length * 4) (.int .i64 y.a)).set (xs.length * 4 + 1) (.int .i64 y.b)).set (xs.length * 4 + 2) (.bool y.same)).set (xs.length * 4 + 3) (.int .i64 y.time) = c0 ++ y.cells := by
      rw [← l0]
      simp [Verdict.cells]
    rw [hset] at s3
    refine ⟨c0 ++ y.cells, by rw [List.length_append]; exact s3.1, ?_, fun _ _ hm => (by cases hm), List.nodup_nil, fun _ hm => by cases hm⟩
    have := OwnCells.snoc (k0.keep (w2 := ((((w.setCell ⟨g, xs.length * 4, none⟩ (.int .i64 y.a)).setCell ⟨g, xs.length * 4 + 1, none⟩ (.int .i64 y.b)).setCell ⟨g, xs.length * 4 + 2, none⟩ (.bool y.same)).setCell ⟨g, xs.length * 4 + 3, none⟩ (.int .i64 y.time))) fun b hb => by cases hb) (k := (⟨⟨rfl, hy⟩, rfl⟩ : verdictO.own _ y.cells y []))
    simpa using this

def curStep (out : List Verdict) (v : Verdict) : List Verdict :=
  match out.getLast? with
  | none => out ++ [v]
  | some l => if l.a = v.a ∧ l.b = v.b then (if l.time < v.time then out.dropLast ++ [v] else out) else out ++ [v]
def curV (xs : List Verdict) : List Verdict := if areVers xs then xs.foldl curStep [] else []
theorem curStep_nil (v : Verdict) : curStep [] v = [v] := rfl
theorem curStep_new {xs : List Verdict} {l v : Verdict} (h : ¬ (l.a = v.a ∧ l.b = v.b)) : curStep (xs ++ [l]) v = (xs ++ [l]) ++ [v] := by unfold curStep; simp [h]
theorem curStep_set {xs : List Verdict} {l v : Verdict} (h : l.a = v.a) (h1 : l.b = v.b) (h2 : l.time < v.time) : curStep (xs ++ [l]) v = xs ++ [v] := by unfold curStep; simp [h, h1, h2]
theorem curStep_old {xs : List Verdict} {l v : Verdict} (h : l.a = v.a) (h1 : l.b = v.b) (h2 : ¬ l.time < v.time) : curStep (xs ++ [l]) v = xs ++ [l] := by unfold curStep; simp [h, h1, h2]
theorem cur_step (xs : List Verdict) (k : Nat) (h : k < xs.length) : (xs.take (k + 1)).foldl curStep [] = curStep ((xs.take k).foldl curStep []) xs[k] := by
  rw [List.take_succ_eq_append_getElem h, List.foldl_append]; rfl
theorem curStep_len (out : List Verdict) (v : Verdict) : (curStep out v).length ≤ out.length + 1 := by
  rcases List.eq_nil_or_concat out with rfl | ⟨xs, l, rfl⟩
  · simp [curStep_nil]
  · rw [List.concat_eq_append]
    by_cases h : l.a = v.a ∧ l.b = v.b
    · by_cases h2 : l.time < v.time
      · rw [curStep_set h.1 h.2 h2]; simp
      · rw [curStep_old h.1 h.2 h2]; simp
    · rw [curStep_new h]; simp
theorem cur_len (xs : List Verdict) (k : Nat) (h : k ≤ xs.length) : ((xs.take k).foldl curStep []).length ≤ k := by
  induction k with
  | zero => simp
  | succ k ih =>
    rw [cur_step xs k (by omega)]
    have := curStep_len ((xs.take k).foldl curStep []) xs[k]
    have := ih (by omega)
    omega
theorem vers_len {xs : List Verdict} (h : areVers xs = true) : xs.length ≤ 8 := by
  unfold areVers at h; rw [Bool.and_eq_true] at h; exact of_decide_eq_true h.2
end Go.Proofs.Ytmembjjgkideeaa

namespace Go.Proofs.Ytmembjjgkideeaa
open Go.RowKit

def vlt (x y : Verdict) : Prop := x.a < y.a ∨ x.a = y.a ∧ (x.b < y.b ∨ x.b = y.b ∧ (x.time < y.time ∨ x.time = y.time ∧ x.same = false ∧ y.same = true))
theorem cmpI_cases (a b : Int) : (a < b ∧ cmpI a b = -1) ∨ (a = b ∧ cmpI a b = 0) ∨ (b < a ∧ cmpI a b = 1) := by
  unfold cmpI
  by_cases h : a < b
  · rw [if_pos h]; exact .inl ⟨h, rfl⟩
  · rw [if_neg h]
    by_cases k : b < a
    · rw [if_pos k]; exact .inr (.inr ⟨k, rfl⟩)
    · rw [if_neg k]; exact .inr (.inl ⟨by omega, rfl⟩)
theorem cmpV_cases (x y : Verdict) : (vlt x y ∧ cmpV x y = -1) ∨ (x = y ∧ cmpV x y = 0) ∨ (vlt y x ∧ cmpV x y = 1) := by
  unfold cmpV vlt
  have e : firstNZ [cmpI x.a y.a, cmpI x.b y.b, cmpI x.time y.time, cmpB x.same y.same] = if cmpI x.a y.a = 0 then if cmpI x.b y.b = 0 then if cmpI x.time y.time = 0 then cmpB x.same y.same else cmpI x.time y.time else cmpI x.b y.b else cmpI x.a y.a := by
    simp only [firstNZ]
    by_cases h1 : cmpI x.a y.a = 0 <;> by_cases h2 : cmpI x.b y.b = 0 <;> by_cases h3 : cmpI x.time y.time = 0 <;> by_cases h4 : cmpB x.same y.same = 0 <;> simp [h1, h2, h3, h4]
  rw [e]
  rcases cmpI_cases x.a y.a with ⟨h1, k1⟩ | ⟨h1, k1⟩ | ⟨h1, k1⟩
  · left; rw [k1]; exact ⟨.inl h1, rfl⟩
  · rw [k1, if_pos rfl]
    rcases cmpI_cases x.b y.b with ⟨h2, k2⟩ | ⟨h2, k2⟩ | ⟨h2, k2⟩
    · left; rw [k2]; exact ⟨.inr ⟨h1, .inl h2⟩, rfl⟩
    · rw [k2, if_pos rfl]
      rcases cmpI_cases x.time y.time with ⟨h3, k3⟩ | ⟨h3, k3⟩ | ⟨h3, k3⟩
      · left; rw [k3]; exact ⟨.inr ⟨h1, .inr ⟨h2, .inl h3⟩⟩, rfl⟩
      · rw [k3, if_pos rfl]
        obtain ⟨xa, xb, xs, xt⟩ := x
        obtain ⟨ya, yb, ys, yt⟩ := y
        simp only at h1 h2 h3 ⊢
        subst h1; subst h2; subst h3
        cases xs <;> cases ys <;> simp [cmpB]
      · right; right; rw [k3]; exact ⟨.inr ⟨h1.symm, .inr ⟨h2.symm, .inl h3⟩⟩, rfl⟩
    · right; right; rw [k2]; exact ⟨.inr ⟨h1.symm, .inl h2⟩, rfl⟩
  · right; right; rw [k1]; exact ⟨.inl h1, rfl⟩
theorem vlt_irr (x : Verdict) : ¬ vlt x x := by
  unfold vlt
  cases x.same <;> simp
theorem vlt_trans {x y z : Verdict} (h : vlt x y) (k : vlt y z) : vlt x z := by
  unfold vlt at *
  rcases h with h | ⟨h1, h | ⟨h2, h | ⟨h3, h4, h5⟩⟩⟩ <;> rcases k with k | ⟨k1, k | ⟨k2, k | ⟨k3, k4, k5⟩⟩⟩
  all_goals first
    | (left; omega)
    | (right; refine ⟨by omega, ?_⟩; left; omega)
    | (right; refine ⟨by omega, ?_⟩; right; refine ⟨by omega, ?_⟩; left; omega)
    | (rw [h5] at k4; cases k4)
theorem cmpV_lt {x y : Verdict} : cmpV x y < 0 ↔ vlt x y := by
  rcases cmpV_cases x y with ⟨h, k⟩ | ⟨h, k⟩ | ⟨h, k⟩
  · rw [k]; exact ⟨fun _ => h, fun _ => by decide⟩
  · rw [k, h]; exact ⟨fun e => by omega, fun e => absurd e (vlt_irr _)⟩
  · rw [k]; exact ⟨fun e => by omega, fun e => absurd (vlt_trans e h) (vlt_irr _)⟩
theorem cmpV_zero {x y : Verdict} : cmpV x y = 0 ↔ x = y := by
  rcases cmpV_cases x y with ⟨h, k⟩ | ⟨h, k⟩ | ⟨h, k⟩
  · rw [k]; exact ⟨fun e => by omega, fun e => absurd (e ▸ h) (vlt_irr _)⟩
  · exact ⟨fun _ => h, fun _ => k⟩
  · rw [k]; exact ⟨fun e => by omega, fun e => absurd (e ▸ h) (vlt_irr _)⟩
theorem vlt_tri (x y : Verdict) : vlt x y ∨ x = y ∨ vlt y x := by
  rcases cmpV_cases x y with ⟨h, k⟩ | ⟨h, k⟩ | ⟨h, k⟩
  · exact .inl h
  · exact .inr (.inl h)
  · exact .inr (.inr h)
/-- ascending -/
def Asc (xs : List Verdict) : Prop := ∀ i j (hi : i < xs.length) (hj : j < xs.length), i < j → vlt xs[i] xs[j]
theorem areVers_asc {xs : List Verdict} (h : areVers xs = true) : Asc xs ∧ (∀ x ∈ xs, okV x = true) ∧ xs.length ≤ 8 := by
  unfold areVers at h
  rw [Bool.and_eq_true, decide_eq_true_eq] at h
  have hv : ∀ k (hk : k < xs.length), (okV xs[k] && (k == 0 || decide (cmpV (vAt xs (k - 1)) xs[k] < 0))) = true := fun k hk => by
    rw [← verAt_eq hk]
    exact List.all_eq_true.1 h.1 k (List.mem_range.2 hk)
  refine ⟨?_, fun x hx => ?_, h.2⟩
  · have step : ∀ k (hk : k + 1 < xs.length), vlt xs[k] xs[k + 1] := fun k hk => by
      have h1 := hv (k + 1) hk
      rw [Bool.and_eq_true, Bool.or_eq_true, decide_eq_true_eq] at h1
      rcases h1.2 with h2 | h2
      · simp at h2
      · have e : vAt xs (k + 1 - 1) = xs[k] := vAt_at (by omega)
        rw [e] at h2
        exact cmpV_lt.1 h2
    intro i j hi hj hij
    induction j with
    | zero => omega
    | succ j ih =>
      by_cases e : i = j
      · subst e; exact step i hj
      · exact vlt_trans (ih (by omega) (by omega)) (step j hj)
  · obtain ⟨k, hk, rfl⟩ := List.getElem_of_mem hx
    have h1 := hv k hk
    rw [Bool.and_eq_true] at h1
    exact h1.1
theorem asc_areVers {xs : List Verdict} (h : Asc xs) (h2 : ∀ x ∈ xs, okV x = true) (h3 : xs.length ≤ 8) : areVers xs = true := by
  unfold areVers
  rw [Bool.and_eq_true, decide_eq_true_eq]
  refine ⟨List.all_eq_true.2 fun k hk => ?_, h3⟩
  have hk := List.mem_range.1 hk
  rw [verAt_eq hk, Bool.and_eq_true]
  refine ⟨h2 _ (List.getElem_mem hk), ?_⟩
  rw [Bool.or_eq_true, decide_eq_true_eq]
  cases k with
  | zero => left; rfl
  | succ k =>
    right
    have e : vAt xs (k + 1 - 1) = xs[k] := vAt_at (by omega)
    rw [e]
    exact cmpV_lt.2 (h k (k + 1) (by omega) hk (by omega))
/-- how many stand ahead of v -/
def cntV (xs : List Verdict) (v : Verdict) : Nat := (xs.takeWhile fun x => decide (cmpV x v < 0)).length
theorem cntV_le (xs : List Verdict) (v : Verdict) : cntV xs v ≤ xs.length := by
  unfold cntV
  exact (List.takeWhile_prefix _).length_le
theorem cntV_lt {xs : List Verdict} {v : Verdict} {k : Nat} (hk : k < cntV xs v) (h : k < xs.length) : cmpV xs[k] v < 0 := by
  have hp : xs.takeWhile (fun x => decide (cmpV x v < 0)) <+: xs := List.takeWhile_prefix _
  have e := hp.getElem (i := k) hk
  have hm : (xs.takeWhile fun x => decide (cmpV x v < 0))[k]'hk ∈ xs.takeWhile fun x => decide (cmpV x v < 0) := List.getElem_mem hk
  have hall := List.all_takeWhile (p := fun x => decide (cmpV x v < 0)) (l := xs)
  have := List.all_eq_true.1 hall _ hm
  rw [decide_eq_true_eq, e] at this
  exact this
theorem cntV_at : ∀ {xs : List Verdict} {v : Verdict} (h : cntV xs v < xs.length), ¬ cmpV xs[cntV xs v] v < 0
  | x :: xs, v, h => by
    unfold cntV at h ⊢
    by_cases hx : cmpV x v < 0
    · simp only [List.takeWhile_cons, hx, decide_true, if_true, List.length_cons, List.getElem_cons_succ] at h ⊢
      exact cntV_at (xs := xs) (v := v) (by unfold cntV; omega)
    · simp only [List.takeWhile_cons, hx, decide_false, Bool.false_eq_true, if_false, List.length_nil, List.getElem_cons_zero]
      first | exact hx | exact fun h => h
theorem asc_side {xs : List Verdict} (h : Asc xs) {v : Verdict} {k : Nat} (hk : k < xs.length) : cmpV xs[k] v < 0 ↔ k < cntV xs v := by
  refine ⟨fun hc => ?_, fun hc => cntV_lt hc hk⟩
  apply Classical.byContradiction
  intro hn
  have hlt : cntV xs v < xs.length := by omega
  have h1 := cntV_at hlt
  apply h1
  by_cases e : cntV xs v = k
  · have : xs[cntV xs v] = xs[k] := by congr
    rw [this]; exact hc
  · exact cmpV_lt.2 (vlt_trans (h _ _ hlt hk (by omega)) (cmpV_lt.1 hc))
theorem asc_found {xs : List Verdict} (h : Asc xs) {v : Verdict} : v ∈ xs ↔ ∃ hk : cntV xs v < xs.length, cmpV (xs[cntV xs v]) v = 0 := by
  refine ⟨fun hm => ?_, fun ⟨hk, e⟩ => ?_⟩
  · obtain ⟨k, hk, e⟩ := List.getElem_of_mem hm
    have h1 : ¬ k < cntV xs v := fun hc => by
      have := (asc_side h hk).2 hc
      rw [e] at this
      have := cmpV_zero (x := v) (y := v) |>.2 rfl
      omega
    have hlt : cntV xs v < xs.length := by omega
    refine ⟨hlt, ?_⟩
    by_cases e2 : cntV xs v = k
    · have : xs[cntV xs v] = xs[k] := by congr
      rw [this, e]; exact cmpV_zero.2 rfl
    · have h2 := h _ _ hlt hk (by omega)
      rw [e] at h2
      exact absurd (cmpV_lt.2 h2) (cntV_at hlt)
  · have hm := List.getElem_mem (l := xs) hk
    rwa [cmpV_zero.1 e] at hm
theorem asc_pw {xs : List Verdict} : Asc xs ↔ xs.Pairwise vlt := by
  rw [List.pairwise_iff_getElem]; exact Iff.rfl
/-- v at its place -/
def putV (xs : List Verdict) (v : Verdict) : List Verdict := xs.take (cntV xs v) ++ v :: xs.drop (cntV xs v)
end Go.Proofs.Ytmembjjgkideeaa

namespace Go.Proofs.Ytmembjjgkideeaa
open Go.RowKit

theorem vflat_get : ∀ (ys : List Verdict) (j : Nat), (ys.flatMap Verdict.cells)[j]? = (ys[j / 4]?).bind fun y => y.cells[j % 4]?
  | [], j => by simp
  | y :: ys, j => by
    have hl : y.cells.length = 4 := rfl
    rw [List.flatMap_cons]
    by_cases h : j < 4
    · rw [List.getElem?_append_left (by omega), show j / 4 = 0 by omega, show j % 4 = j by omega]; rfl
    · rw [List.getElem?_append_right (by omega), hl, vflat_get ys (j - 4), show j / 4 = (j - 4) / 4 + 1 by omega, show j % 4 = (j - 4) % 4 by omega]; rfl
theorem vflat_len (ys : List Verdict) : (ys.flatMap Verdict.cells).length = ys.length * 4 := by
  induction ys with
  | nil => rfl
  | cons y ys ih => rw [List.flatMap_cons, List.length_append, ih, show y.cells.length = 4 from rfl, List.length_cons]; omega
theorem vers_own (ys : List Verdict) (h : ∀ y ∈ ys, y.ok) (W : World) : OwnCells verdictO W (ys.flatMap Verdict.cells) ys [] := by
  induction ys with
  | nil => exact .nil
  | cons y ys ih => exact ⟨y.cells, _, [], [], rfl, rfl, ⟨⟨rfl, h y (List.mem_cons_self ..)⟩, rfl⟩, ih fun z hz => h z (List.mem_cons_of_mem _ hz)⟩
theorem Sl.vers_some {w : World} {ad : Addr} {n cap : Nat} {ys : List Verdict} (h : Sl verdictR w (.slice (some ad) n cap) ys) : (∀ y ∈ ys, y.ok) ∧ ∀ j u, (ys.flatMap Verdict.cells)[j]? = some u → w.cell? (ad.add j) = some u := by
  refine ⟨fun y hy => ?_, fun j u hj => ?_⟩
  · obtain ⟨i, hi, rfl⟩ := List.getElem_of_mem hy
    obtain ⟨_, _, _, _, ⟨_, h1⟩, _⟩ := h.at_ hi
    exact h1
  · rw [vflat_get] at hj
    obtain ⟨y, hy, hc⟩ := Option.bind_eq_some_iff.1 hj
    obtain ⟨hi, rfl⟩ := List.getElem?_eq_some_iff.1 hy
    obtain ⟨b, off, cs, e, ⟨rfl, _⟩, h2⟩ := h.at_ hi
    injection e with e
    subst e
    have h3 := h2 (j % 4) (Nat.mod_lt _ (by decide))
    rw [add_eq, ← hc, ← h3]
    have h4 : verdictR.n = 4 := rfl
    rw [h4, show off + j / 4 * 4 + j % 4 = off + j by omega]
theorem vers_one (ys : List Verdict) : ∀ u ∈ ys.flatMap Verdict.cells, u.oneCell' = true := by
  intro u hu
  obtain ⟨y, _, hy⟩ := List.mem_flatMap.1 hu
  simp only [Verdict.cells, List.mem_cons, List.not_mem_nil, or_false] at hy
  rcases hy with rfl | rfl | rfl | rfl <;> rfl
/-- 'append(s, t...)': the verdicts of t, which may be the caller's -/
theorem wpList_appv {P : Program} {ops : Array Oper} {rest : List Oper} {o : Oper} {a : Act} {w : World} {Q : Exit → Act → World → Prop} {t e : TypeId} {bytes : Nat} (E : ElemT P t e verdictO.n bytes) (hby : bytes ≤ 128)
    (hgd : o.guard = none) (s x : Operand) (ho : o.op = .call { callee := .builtin .append, args := #[s, x], argTypes := #[t, t] })
    {base : Nat} {v : Value} {xs : List Verdict} (hb : Bld verdictO w base e v xs []) (hs : a.eval s = v) {A : Option Addr} {n k : Nat} (hx : a.eval x = .slice A n k) {ys : List Verdict} (hy : Sl verdictR w (.slice A n k) ys)
    (hbytes : xs.length + ys.length ≤ 1099511627776) (hbase : base ≤ w.heap.size)
    (h : ∀ v' w', Bld verdictO w' base e v' (xs ++ ys) [] → (∀ w0 : World, w0.heap.size ≤ base → Ext w0 w → Ext w0 w') → wpList P ops Q rest (a.put o.dst v') w') :
    wpList P ops Q (o :: rest) a w := by
  obtain ⟨ht, i, z, hi, hz, hsize, hby2, hzs⟩ := E
  have hn : n = ys.length := hy.cap_.1
  cases A with
  | none =>
    have h0 : ys = [] := by
      cases ys with
      | nil => rfl
      | cons y ys =>
        obtain ⟨_, _, _, e, _⟩ := hy.at_ (show 0 < (y :: ys).length by simp)
        cases e
    subst h0
    have hn0 : n = 0 := hn
    subst hn0
    obtain ⟨cs, b1, b2⟩ := hb
    refine wpList_plain hgd fun K hK => ?_
    have hr : (Builtin.append_ #[t, t] o.type #[v, .slice none 0 k]).run P w = .ok v w := by
      rcases b1.2 with ⟨rfl, _⟩ | ⟨g, cap, cur, rfl, _, _, hnc, _⟩
      · simp [Builtin.append_, run_underlying ht, sizeOf, typeInfo, hi, Builtin.lenOf, Builtin.firstCells]
      · simp [Builtin.append_, run_underlying ht, sizeOf, typeInfo, hi, Builtin.lenOf, Builtin.firstCells, hnc, storeCells]
    unfold Oper.wp execOp
    simp only [ho, resolve, invoke, builtin, Sem.run_bind, Sem.run_pure, Result.andThen_ok, List.map_toArray, List.map_cons, List.map_nil, hs, hx, hr]
    exact hK _ _ (h v w (by rw [List.append_nil]; exact ⟨cs, b1, b2⟩) fun _ _ hx => hx)
  | some ad =>
    obtain ⟨hI, hc⟩ := hy.vers_some
    have hl := hb.lt
    obtain ⟨cs, b1, b2, b3, b4, b5⟩ := hb
    have h4 : verdictO.n = 4 := rfl
    refine wpList_append_own_at w hgd s x t ho base e i z verdictO.n bytes ht hi hz hsize hby2 hzs (by decide) v xs.length cs hs b1 ad n k (ys.flatMap Verdict.cells) hx (by rw [vflat_len, hn, h4]) hc (vers_one ys) (by unfold maxLen; omega)
      (Nat.le_trans (Nat.mul_le_mul (show xs.length + n ≤ 1099511627776 by omega) hby) (by decide)) hbase ?_
    intro v' w' hown hgr _ hat
    refine h v' w' ⟨cs ++ ys.flatMap Verdict.cells, by rw [List.length_append, ← hn]; exact hown, ?_, fun _ _ hm => (by cases hm), List.nodup_nil, fun _ hm => by cases hm⟩ fun w0 h0 hx0 => hx0.grown hgr fun g hg => Nat.le_trans h0 (hl.2 g hg).2
    have := OwnCells.append (b2.keep (w2 := w') fun b hb => by cases hb) (vers_own ys hI w')
    simpa using this

set_option maxHeartbeats 400000 in
set_option maxRecDepth 20000 in
theorem spec_l28Copy (v : Value) (xs : List Verdict) (w : World) (h : Sl verdictR w v xs) (hl : xs.length ≤ 1048576) :
    Calls Try.prog 28 #[v] w fun e w2 => ∃ v2 F, e = .returned v2 ∧ OwnSl verdictO w2 v2 xs F ∧ NewF w F ∧ Ext w w2 := by
  obtain ⟨A, cap, rfl, hm⟩ := h.form
  go_enter Try.func28, Try.ntmps28
  go_wp2_with (at_builtin; refine wpList_appv elemVer (by decide) rfl _ _ rfl (Bld.lit w (Nat.le_refl _) _) rfl rfl (h.mono ((Ext.refl _).alloc _)) (by simp; omega) (by simp) ?_; intro v9 w9 hB9 hE9)
  go_ret
  obtain ⟨F', d1, d2, d3⟩ := hB9.done
  exact ⟨_, F', rfl, by simpa using d1, ⟨d2, d3⟩, hE9 w (Nat.le_refl _) ((Ext.refl _).alloc _)⟩
end Go.Proofs.Ytmembjjgkideeaa

namespace Go.Proofs.Ytmembjjgkideeaa
open Go.RowKit

def SortedV (xs : List Verdict) : Prop := xs.Pairwise fun x y => ¬ vlt y x
theorem sortedV_eq {xs ys : List Verdict} (h : SortedV xs) (k : SortedV ys) (p : xs.Perm ys) : xs = ys :=
  List.Perm.eq_of_pairwise (fun a b _ _ h1 h2 => by
    rcases vlt_tri a b with e | e | e
    · exact absurd e h2
    · exact e
    · exact absurd e h1) h k p
theorem asc_sorted {xs : List Verdict} (h : Asc xs) : SortedV xs := (asc_pw.1 h).imp fun h e => vlt_irr _ (vlt_trans h e)
theorem asc_nodup {xs : List Verdict} (h : Asc xs) : xs.Nodup := (asc_pw.1 h).imp fun h e => by subst e; exact vlt_irr _ h
theorem asc_ext {xs ys : List Verdict} (h : Asc xs) (k : Asc ys) (e : ∀ x, x ∈ xs ↔ x ∈ ys) : xs = ys :=
  sortedV_eq (asc_sorted h) (asc_sorted k) ((List.perm_ext_iff_of_nodup (asc_nodup h) (asc_nodup k)).2 e)
theorem sorted_nodup_asc {xs : List Verdict} (h : SortedV xs) (k : xs.Nodup) : Asc xs := by
  rw [asc_pw]
  refine (List.pairwise_and_iff.2 ⟨h, k⟩).imp ?_
  rintro a b ⟨h1, h2⟩
  · rcases vlt_tri a b with e | e | e
    · exact e
    · exact absurd e h2
    · exact absurd e h1

/-- how many stay ahead of v, looked for from the end -/
def cntS (xs : List Verdict) (v : Verdict) : Nat := xs.length - (xs.reverse.takeWhile fun x => decide (0 < cmpV x v)).length
def insS (xs : List Verdict) (v : Verdict) : List Verdict := xs.take (cntS xs v) ++ v :: xs.drop (cntS xs v)
def sortS (xs : List Verdict) : List Verdict := xs.foldl insS []
theorem cntS_le (xs : List Verdict) (v : Verdict) : cntS xs v ≤ xs.length := Nat.sub_le _ _
theorem insS_len (xs : List Verdict) (v : Verdict) : (insS xs v).length = xs.length + 1 := by
  have := cntS_le xs v
  unfold insS
  simp only [List.length_append, List.length_take, List.length_cons, List.length_drop]
  omega
theorem cmpV_gt {x y : Verdict} : 0 < cmpV x y ↔ vlt y x := by
  rcases cmpV_cases x y with ⟨h, k⟩ | ⟨h, k⟩ | ⟨h, k⟩
  · rw [k]; exact ⟨fun e => by omega, fun e => absurd (vlt_trans e h) (vlt_irr _)⟩
  · rw [k]; exact ⟨fun e => by omega, fun e => absurd (h ▸ e) (vlt_irr _)⟩
  · rw [k]; exact ⟨fun _ => h, fun _ => by decide⟩
theorem cntS_eq {xs : List Verdict} {v : Verdict} {k : Nat} (hk : k ≤ xs.length) (h1 : ∀ x ∈ xs.drop k, 0 < cmpV x v) (h2 : ∀ h : 0 < k, ¬ 0 < cmpV (xs[k - 1]'(by omega)) v) : cntS xs v = k := by
  unfold cntS
  have e : xs.reverse = (xs.drop k).reverse ++ (xs.take k).reverse := by rw [← List.reverse_append, List.take_append_drop]
  rw [e, List.takeWhile_append_of_pos (fun a ha => by rw [decide_eq_true_eq]; exact h1 a (List.mem_reverse.1 ha))]
  have e2 : (xs.take k).reverse.takeWhile (fun x => decide (0 < cmpV x v)) = [] := by
    cases k with
    | zero => rfl
    | succ k =>
      have h3 : ¬ 0 < cmpV (xs[k]'(by omega)) v := h2 (by omega)
      rw [List.take_succ_eq_append_getElem (by omega), List.reverse_append]
      simp [h3]
  rw [e2]
  simp only [List.append_nil, List.length_reverse, List.length_drop]
  omega
theorem insS_perm (xs : List Verdict) (v : Verdict) : (insS xs v).Perm (v :: xs) := by
  unfold insS
  have := @List.perm_middle _ v (xs.take (cntS xs v)) (xs.drop (cntS xs v))
  rwa [List.take_append_drop] at this
theorem insS_sorted {xs : List Verdict} {v : Verdict} (h : SortedV xs) : SortedV (insS xs v) := by
  have e0 := List.takeWhile_append_dropWhile (p := fun x => decide (0 < cmpV x v)) (l := xs.reverse)
  obtain ⟨tw, htw⟩ : ∃ t, t = xs.reverse.takeWhile (fun x => decide (0 < cmpV x v)) := ⟨_, rfl⟩
  obtain ⟨dw, hdw⟩ : ∃ t, t = xs.reverse.dropWhile (fun x => decide (0 < cmpV x v)) := ⟨_, rfl⟩
  rw [← htw, ← hdw] at e0
  have e1 : xs = dw.reverse ++ tw.reverse := by rw [← List.reverse_append, e0, List.reverse_reverse]
  have hc : cntS xs v = dw.reverse.length := by
    unfold cntS
    rw [← htw]
    have := congrArg List.length e1
    simp only [List.length_append, List.length_reverse] at this ⊢
    omega
  have hi : insS xs v = dw.reverse ++ v :: tw.reverse := by
    unfold insS
    rw [hc]
    conv => lhs; rw [e1]
    rw [List.take_left, List.drop_left]
  have hhi : ∀ x ∈ tw.reverse, vlt v x := fun x hx => by
    have hx := List.mem_reverse.1 hx
    rw [htw] at hx
    have := List.all_eq_true.1 (List.all_takeWhile (p := fun x => decide (0 < cmpV x v)) (l := xs.reverse)) x hx
    rw [decide_eq_true_eq] at this
    exact cmpV_gt.1 this
  rw [e1] at h
  have hp := List.pairwise_append.1 h
  have hlo : ∀ x ∈ dw.reverse, ¬ vlt v x := fun x hx => by
    cases hd : dw with
    | nil => rw [hd] at hx; cases hx
    | cons a l =>
      have ha : ¬ vlt v a := fun e => by
        have hne : xs.reverse.dropWhile (fun x => decide (0 < cmpV x v)) = a :: l := by rw [← hdw, hd]
        have := List.head_dropWhile_not (fun x => decide (0 < cmpV x v)) (l := xs.reverse) (by rw [hne]; simp)
        simp only [hne, List.head_cons] at this
        rw [decide_eq_false_iff_not] at this
        exact this (cmpV_gt.2 e)
      rw [hd, List.reverse_cons] at hx
      rcases List.mem_append.1 hx with hx | hx
      · have hq := hp.1
        rw [hd, List.reverse_cons] at hq
        have hxa : ¬ vlt a x := (List.pairwise_append.1 hq).2.2 x hx a (List.mem_singleton.2 rfl)
        intro e
        rcases vlt_tri a v with k | k | k
        · exact hxa (vlt_trans k e)
        · exact hxa (k ▸ e)
        · exact ha k
      · rw [List.mem_singleton] at hx; subst hx; exact ha
  rw [hi]
  refine List.pairwise_append.2 ⟨hp.1, List.pairwise_cons.2 ⟨fun b hb e => vlt_irr _ (vlt_trans (hhi b hb) e), hp.2.1⟩, fun a ha b hb => ?_⟩
  rcases List.mem_cons.1 hb with rfl | hb
  · exact hlo a ha
  · exact hp.2.2 a ha b hb
theorem sortS_all : ∀ (xs acc : List Verdict), SortedV acc → SortedV (xs.foldl insS acc) ∧ (xs.foldl insS acc).Perm (xs ++ acc)
  | [], acc, h => ⟨h, List.Perm.refl _⟩
  | x :: xs, acc, h => by
    obtain ⟨h1, h2⟩ := sortS_all xs (insS acc x) (insS_sorted h)
    refine ⟨h1, h2.trans ?_⟩
    refine ((insS_perm acc x).append_left xs).trans ?_
    exact List.perm_middle
theorem sortS_sorted (xs : List Verdict) : SortedV (sortS xs) := (sortS_all xs [] List.Pairwise.nil).1
theorem sortS_perm (xs : List Verdict) : (sortS xs).Perm xs := by
  have := (sortS_all xs [] List.Pairwise.nil).2
  rwa [List.append_nil] at this
theorem sortS_len (xs : List Verdict) : (sortS xs).length = xs.length := (sortS_perm xs).length_eq
theorem sortS_asc {xs : List Verdict} (h : xs.Nodup) : Asc (sortS xs) := sorted_nodup_asc (sortS_sorted xs) ((sortS_perm xs).nodup_iff.2 h)
theorem sortS_step (xs : List Verdict) (k : Nat) (h : k < xs.length) : sortS (xs.take (k + 1)) = insS (sortS (xs.take k)) xs[k] := by
  unfold sortS
  rw [List.take_succ_eq_append_getElem h, List.foldl_append]; rfl

/-- equal neighbours as one -/
noncomputable def compV : List Verdict → List Verdict
  | [] => []
  | [x] => [x]
  | x :: y :: l => if eqB x y = true then compV (y :: l) else x :: compV (y :: l)
theorem compV_mem : ∀ {xs : List Verdict} {z : Verdict}, z ∈ compV xs ↔ z ∈ xs
  | [], z => Iff.rfl
  | [x], z => Iff.rfl
  | x :: y :: l, z => by
    unfold compV
    have ih := @compV_mem (y :: l) z
    split
    · rename_i h
      have := (eqB_iff x y).1 h
      subst this
      rw [ih]; simp
    · rw [List.mem_cons, ih, List.mem_cons (a := z) (b := x)]
theorem compV_asc : ∀ {xs : List Verdict}, SortedV xs → Asc (compV xs)
  | [], _ => asc_pw.2 List.Pairwise.nil
  | [x], _ => asc_pw.2 (List.pairwise_singleton _ _)
  | x :: y :: l, h => by
    have hp := List.pairwise_cons.1 h
    have ih := compV_asc hp.2
    unfold compV
    split
    · exact ih
    · rename_i hne
      rw [asc_pw]
      refine List.pairwise_cons.2 ⟨fun z hz => ?_, asc_pw.1 ih⟩
      have hz := compV_mem.1 hz
      have hxy : vlt x y := by
        rcases vlt_tri x y with e | e | e
        · exact e
        · exact absurd ((eqB_iff x y).2 e) hne
        · exact absurd e (hp.1 y (List.mem_cons_self ..))
      rcases List.mem_cons.1 hz with rfl | hz
      · exact hxy
      · have hyz := (List.pairwise_cons.1 hp.2).1 z hz
        rcases vlt_tri y z with e | e | e
        · exact vlt_trans hxy e
        · exact e ▸ hxy
        · exact absurd e hyz
theorem compV_snoc : ∀ (l : List Verdict) (a b : Verdict), compV (l ++ [a] ++ [b]) = compV (l ++ [a]) ++ if eqB a b = true then [] else [b]
  | [], a, b => by
    show compV [a, b] = compV [a] ++ _
    unfold compV
    by_cases h : eqB a b = true
    · rw [if_pos h, if_pos h, (eqB_iff a b).1 h]; rfl
    · rw [if_neg h, if_neg h]; rfl
  | [x], a, b => by
    have ih := compV_snoc [] a b
    simp only [List.nil_append, List.cons_append] at ih ⊢
    have e1 : compV [x, a, b] = if eqB x a = true then compV [a, b] else x :: compV [a, b] := by rw [compV]
    have e2 : compV [x, a] = if eqB x a = true then compV [a] else x :: compV [a] := by
      conv => lhs; rw [compV]
    rw [e1, e2, ih]
    split <;> rfl
  | x :: y :: l, a, b => by
    have ih := compV_snoc (y :: l) a b
    simp only [List.cons_append] at ih ⊢
    have e1 : ∀ l2, compV (x :: y :: l2) = if eqB x y = true then compV (y :: l2) else x :: compV (y :: l2) := fun l2 => by rw [compV]
    rw [e1, e1, ih]
    split <;> rfl
theorem compV_next {xs : List Verdict} {k : Nat} (h0 : 0 < k) (h : k < xs.length) : compV (xs.take (k + 1)) = compV (xs.take k) ++ if eqB xs[k - 1] xs[k] = true then [] else [xs[k]] := by
  obtain ⟨j, rfl⟩ : ∃ j, k = j + 1 := ⟨k - 1, by omega⟩
  rw [List.take_succ_eq_append_getElem h, List.take_succ_eq_append_getElem (show j < xs.length by omega)]
  exact compV_snoc _ _ _
theorem compV_small {xs : List Verdict} (h : xs.length < 2) : compV xs = xs := by
  match xs, h with
  | [], _ => rfl
  | [x], _ => rfl
end Go.Proofs.Ytmembjjgkideeaa

namespace Go.Proofs.Ytmembjjgkideeaa
open Go.RowKit

set_option maxHeartbeats 400000 in
set_option maxRecDepth 20000 in
theorem slices_Clone_v (v : Value) (xs : List Verdict) (w : World) (h : Sl verdictR w v xs) (hl : xs.length ≤ 1048576) :
    Calls Try.prog 25 #[v] w fun e w2 => ∃ v2 F, e = .returned v2 ∧ OwnSl verdictO w2 v2 xs F ∧ NewF w F ∧ Ext w w2 := by
  obtain ⟨A, cap, rfl, hm⟩ := h.form
  have q := fun (W : World) (a : Option Addr) (n c n' c' : Nat) => Lib.run_eql_slice_nil (P := Try.prog) W 24 32 a n c n' c' Try.underlying24
  cases A with
  | none =>
    have h0 : xs = [] := by
      cases xs with
      | nil => rfl
      | cons y ys =>
        obtain ⟨_, _, _, e, _⟩ := h.at_ (show 0 < (y :: ys).length by simp)
        cases e
    subst h0
    go_enter Try.func25, Try.ntmps25
    go_wp2
    go_ret
    exact ⟨_, [], rfl, .inl ⟨rfl, rfl, none, 0, rfl, Nat.zero_le _⟩, .nil _, Ext.refl _⟩
  | some ad =>
    go_enter Try.func25, Try.ntmps25
    go_wp2_with (at_builtin; refine wpList_appv elemVer (by decide) rfl _ _ rfl (Bld.lit w (Nat.le_refl _) _) rfl rfl (h.mono ((Ext.refl _).alloc _)) (by simp; omega) (by simp) ?_; intro v9 w9 hB9 hE9)
    go_ret
    obtain ⟨F', d1, d2, d3⟩ := hB9.done
    exact ⟨_, F', rfl, by simpa using d1, ⟨d2, d3⟩, hE9 w (Nat.le_refl _) ((Ext.refl _).alloc _)⟩
end Go.Proofs.Ytmembjjgkideeaa

namespace Go.Proofs.Ytmembjjgkideeaa
open Go.RowKit

/-- is x among them? -/
noncomputable def memV (xs : List Verdict) (x : Verdict) : Bool := @decide (x ∈ xs) (Classical.propDecidable _)
theorem memV_iff (xs : List Verdict) (x : Verdict) : memV xs x = true ↔ x ∈ xs := by unfold memV; exact @decide_eq_true_iff _ (Classical.propDecidable _)

end Go.Proofs.Ytmembjjgkideeaa

namespace Go.Proofs.Ytmembjjgkideeaa
open Go.RowKit

def Verdict.q (v : Verdict) : Q4 := ⟨.int .i64 v.a, .int .i64 v.b, .bool v.same, .int .i64 v.time⟩

end Go.Proofs.Ytmembjjgkideeaa

namespace Go.Proofs.Ytmembjjgkideeaa
open Go.RowKit

theorem Bld.empv {α : Type} {R : RepO α} {W : World} {base g : Nat} {e : TypeId} (hb : base ≤ g) (h : W.heap[g]? = some (.cells #[] e (0, 0))) : Bld R W base e (.slice (some ⟨g, 0, none⟩) 0 0) ([] : List α) [] :=
  ⟨[], ⟨by simp, .inr ⟨g, 0, #[], rfl, hb, h, Nat.le_refl _, Nat.zero_le _, by simp, by simp⟩⟩, .nil, fun _ _ h => (by cases h), List.nodup_nil, fun _ h => by cases h⟩
theorem Bld.lowv {α : Type} {R : RepO α} {w : World} {base base2 : Nat} {e : TypeId} {v : Value} {xs : List α} {F : List Nat} (h : Bld R w base e v xs F) (hb : base2 ≤ base) : Bld R w base2 e v xs F := by
  obtain ⟨cs, h1, h2, h3, h4, h5⟩ := h
  refine ⟨cs, ⟨h1.1, ?_⟩, h2, h3, h4, fun b hb2 => Nat.le_trans hb (h5 b hb2)⟩
  rcases h1.2 with h | ⟨g', cap, cur, e1, e2, e3⟩
  · exact .inl h
  · exact .inr ⟨g', cap, cur, e1, Nat.le_trans hb e2, e3⟩
theorem Sl.ver_none {w : World} {n cap : Nat} {ys : List Verdict} (h : Sl verdictR w (.slice none n cap) ys) : ys = [] := by
  cases ys with
  | nil => rfl
  | cons y ys =>
    obtain ⟨_, _, _, e, _⟩ := h.at_ (show 0 < (y :: ys).length by simp)
    cases e
theorem step_appv {P : Program} {ops : Array Oper} {o : Oper} {a : Act} {w : World} {K : Act → World → Prop} {Q : Exit → Act → World → Prop} {Z : Prop} {t e : TypeId} {bytes : Nat} (E : ElemT P t e verdictO.n bytes) (hby : bytes ≤ 128)
    (hgd : o.guard = none) (s x : Operand) (ho : o.op = .call { callee := .builtin .append, args := #[s, x], argTypes := #[t, t] })
    {base : Nat} {v : Value} {xs : List Verdict} (hb : Bld verdictO w base e v xs []) (hs : a.eval s = v) {A : Option Addr} {n k : Nat} (hx : a.eval x = .slice A n k) {ys : List Verdict} (hy : Sl verdictR w (.slice A n k) ys)
    (hbytes : xs.length + ys.length ≤ 1099511627776) (hbase : base ≤ w.heap.size) {w0 : World} (h0 : w0.heap.size ≤ base) (hx0 : Ext w0 w)
    (h : ∀ v' w', Bld verdictO w' base e v' (xs ++ ys) [] → Ext w0 w' → (∀ b, b < w.heap.size → v.ownBlock ≠ some b → w'.heap[b]? = w.heap[b]?) → K (a.put o.dst v') w') :
    if Region.wanted o (yielded ops a.tmps) = true then Oper.wp P o a w K Q else Z := by
  have hw : Region.wanted o (yielded ops a.tmps) = true := by simp [Region.wanted, hgd]
  rw [if_pos hw]
  obtain ⟨ht, i, z, hi, hz, hsize, hby2, hzs⟩ := E
  have hn : n = ys.length := hy.cap_.1
  by_cases hm : 0 < n
  · cases A with
    | none => rw [hy.ver_none] at hn; simp at hn; omega
    | some ad =>
      obtain ⟨hI, hc⟩ := hy.vers_some
      have hl := hb.lt
      obtain ⟨cs, b1, b2, b3, b4, b5⟩ := hb
      have h4 : verdictO.n = 4 := rfl
      refine wp_append_lies w s x t ho base e i z verdictO.n bytes ht hi hz hsize hby2 hzs (by decide) v xs.length cs hs b1 ad n k (ys.flatMap Verdict.cells) hx (by rw [vflat_len, hn, h4]) hc (vers_one ys) hm (by unfold maxLen; omega)
        (Nat.le_trans (Nat.mul_le_mul (show xs.length + n ≤ 1099511627776 by omega) hby) (by decide)) hbase w.heap.size rfl ?_
      intro g' cap w' hown hgr hat _
      refine h _ _ ⟨cs ++ ys.flatMap Verdict.cells, by rw [List.length_append, ← hn]; exact hown, ?_, fun _ _ hm => (by cases hm), List.nodup_nil, fun _ hm => by cases hm⟩ (hx0.grown hgr fun g hg => Nat.le_trans h0 (hl.2 g hg).2) fun b hb2 hne => hgr.block b hb2 (fun e => hne e.symm)
      have := OwnCells.append (b2.keep (w2 := w') fun b hb => by cases hb) (vers_own ys hI w')
      simpa using this
  · have hn0 : n = 0 := by omega
    subst hn0
    have hys : ys = [] := List.eq_nil_of_length_eq_zero hn.symm
    subst hys
    have hb0 := hb
    obtain ⟨cs, b1, b2⟩ := hb
    have hr : (Builtin.append_ #[t, t] o.type #[v, .slice A 0 k]).run P w = .ok v w := by
      rcases b1.2 with ⟨rfl, _⟩ | ⟨g, cap, cur, rfl, _, _, hnc, _⟩
      · cases A <;> simp [Builtin.append_, run_underlying ht, sizeOf, typeInfo, hi, Builtin.lenOf, Builtin.firstCells, loadCells, loadCellsFrom]
      · cases A <;> simp [Builtin.append_, run_underlying ht, sizeOf, typeInfo, hi, Builtin.lenOf, Builtin.firstCells, hnc, storeCells, loadCells, loadCellsFrom]
    unfold Oper.wp execOp
    simp only [ho, resolve, invoke, builtin, Sem.run_bind, Sem.run_pure, Result.andThen_ok, List.map_toArray, List.map_cons, List.map_nil, hs, hx, hr]
    exact h v w (by rw [List.append_nil]; exact hb0) hx0 fun _ _ _ => rfl

set_option maxHeartbeats 400000 in
set_option maxRecDepth 20000 in
theorem spec_l28CopyB (v : Value) (xs : List Verdict) (w : World) (h : Sl verdictR w v xs) (hl : xs.length ≤ 1048576) :
    Calls Try.prog 28 #[v] w fun e w2 => ∃ v2, e = .returned v2 ∧ Bld verdictO w2 w.heap.size 32 v2 xs [] ∧ Ext w w2 := by
  obtain ⟨A, cap, rfl, hm⟩ := h.form
  go_enter Try.func28, Try.ntmps28
  go_wp2_with (at_builtin; refine wpList_appv elemVer (by decide) rfl _ _ rfl (Bld.lit w (Nat.le_refl _) _) rfl rfl (h.mono ((Ext.refl _).alloc _)) (by simp; omega) (by simp) ?_; intro v9 w9 hB9 hE9)
  go_ret
  exact ⟨_, rfl, by simpa using hB9, hE9 w (Nat.le_refl _) ((Ext.refl _).alloc _)⟩

set_option maxHeartbeats 400000 in
set_option maxRecDepth 20000 in
theorem slices_Clone_vB (v : Value) (xs : List Verdict) (w : World) (h : Sl verdictR w v xs) (hl : xs.length ≤ 1048576) :
    Calls Try.prog 25 #[v] w fun e w2 => ∃ v2, e = .returned v2 ∧ Bld verdictO w2 w.heap.size 32 v2 xs [] ∧ Ext w w2 := by
  obtain ⟨A, cap, rfl, hm⟩ := h.form
  have q := fun (W : World) (a : Option Addr) (n c n' c' : Nat) => Lib.run_eql_slice_nil (P := Try.prog) W 24 32 a n c n' c' Try.underlying24
  cases A with
  | none =>
    have h0 := h.ver_none
    subst h0
    go_enter Try.func25, Try.ntmps25
    go_wp2
    go_ret
    exact ⟨_, rfl, Bld.nil _ _ _, Ext.refl _⟩
  | some ad =>
    go_enter Try.func25, Try.ntmps25
    go_wp2_with (at_builtin; refine wpList_appv elemVer (by decide) rfl _ _ rfl (Bld.lit w (Nat.le_refl _) _) rfl rfl (h.mono ((Ext.refl _).alloc _)) (by simp; omega) (by simp) ?_; intro v9 w9 hB9 hE9)
    go_ret
    exact ⟨_, rfl, by simpa using hB9, hE9 w (Nat.le_refl _) ((Ext.refl _).alloc _)⟩
end Go.Proofs.Ytmembjjgkideeaa

namespace Go.Proofs.Ytmembjjgkideeaa
open Go.RowKit

theorem vers_flat {w : World} : ∀ {xs : List Verdict} {cs : List Value} {F : List Nat}, OwnCells verdictO w cs xs F → cs = xs.flatMap Verdict.cells ∧ (∀ x ∈ xs, x.ok) ∧ F = []
  | [], _, _, h => ⟨h.1, fun _ h => (by cases h), h.2⟩
  | x :: xs, _, _, ⟨c, d, F1, F2, h1, h2, h3, h4⟩ => by
    obtain ⟨e1, e2, e3⟩ := vers_flat h4
    obtain ⟨⟨k1, k2⟩, k3⟩ := h3
    subst e3; subst k3
    refine ⟨by rw [h1, e1, List.flatMap_cons]; exact congrArg (· ++ _) k1, fun y hy => ?_, h2⟩
    rcases List.mem_cons.1 hy with rfl | hy
    · exact k2
    · exact e2 y hy
theorem vflat_drop (xs : List Verdict) (i : Nat) : (xs.drop i).flatMap Verdict.cells = (xs.flatMap Verdict.cells).drop (i * 4) := by
  induction xs generalizing i with
  | nil => simp
  | cons x xs ih =>
    cases i with
    | zero => simp
    | succ i =>
      have h4 : x.cells.length = 4 := rfl
      rw [List.drop_succ_cons, ih, List.flatMap_cons, List.drop_append, h4, show (i + 1) * 4 - 4 = i * 4 by omega, show x.cells.drop ((i + 1) * 4) = [] from List.drop_of_length_le (by rw [h4]; omega), List.nil_append]
theorem vflat_take (xs : List Verdict) (i : Nat) : (xs.take i).flatMap Verdict.cells = (xs.flatMap Verdict.cells).take (i * 4) := by
  induction xs generalizing i with
  | nil => simp
  | cons x xs ih =>
    cases i with
    | zero => simp
    | succ i =>
      have h4 : x.cells.length = 4 := rfl
      rw [List.take_succ_cons, List.flatMap_cons, ih, List.flatMap_cons, List.take_append, h4, show (i + 1) * 4 - 4 = i * 4 by omega, show x.cells.take ((i + 1) * 4) = x.cells from List.take_of_length_le (by rw [h4]; omega)]
def zVer : List Value := [.int .i64 0, .int .i64 0, .bool false, .int .i64 0]

end Go.Proofs.Ytmembjjgkideeaa

namespace Go.Proofs.Ytmembjjgkideeaa
open Go.RowKit
end Go.Proofs.Ytmembjjgkideeaa

namespace Go.Proofs.Ytmembjjgkideeaa
open Go.RowKit

/-- what RemoveVerdict answers -/
noncomputable def rmV (xs : List Verdict) (x : Verdict) : List Verdict × Bool :=
  if areVers xs = true ∧ 0 ≤ idxV xs x then (xs.eraseIdx (idxV xs x).toNat, true) else (xs, false)
def VsOut (w : World) (e : Ending) (w2 : World) (r : List Verdict × Bool) : Prop := ∃ v2 F, e = .returned (.tuple #[v2, .bool r.2]) ∧ OwnSl verdictO w2 v2 r.1 F ∧ NewF w F ∧ Ext w w2
theorem rmV_cnt (x : List Verdict) (y : Verdict) (h : x.length ≤ 1048576) : (lstMk verdictMk).cnt (rmV x y).1 ≤ 4194304 := by
  refine Nat.le_trans (cntVerdictS_le _) ?_
  have : (rmV x y).1.length ≤ x.length := by
    unfold rmV
    split
    · rw [List.length_eraseIdx]; split <;> omega
    · exact Nat.le_refl _
  omega
theorem idxF_ltV {α : Type} (p : α → Bool) : ∀ (xs : List α) (k : Nat), (idxF p k xs = -1 ∧ ∀ x ∈ xs, p x = false) ∨ ∃ j, j < xs.length ∧ idxF p k xs = ((k + j : Nat) : Int) ∧ ∃ h : j < xs.length, p xs[j] = true
  | [], k => .inl ⟨rfl, fun _ h => by cases h⟩
  | x :: xs, k => by
    by_cases hp : p x = true
    · exact .inr ⟨0, by simp, by simp [idxF, hp], by simp, by simpa using hp⟩
    · have hp' : p x = false := by simpa using hp
      rcases idxF_ltV p xs (k + 1) with ⟨e, h⟩ | ⟨j, hj, e, hj2, h⟩
      · refine .inl ⟨by simp [idxF, hp', e], fun y hy => ?_⟩
        rcases List.mem_cons.1 hy with rfl | hy
        · exact hp'
        · exact h y hy
      · exact .inr ⟨j + 1, by simpa using hj, by simp only [idxF, hp', Bool.false_eq_true, if_false, e]; omega, by simpa using hj, by simpa using h⟩
theorem idxV_cases (xs : List Verdict) (x : Verdict) : (idxV xs x = -1 ∧ x ∉ xs) ∨ ∃ j, ∃ hj : j < xs.length, idxV xs x = (j : Int) ∧ xs[j] = x := by
  unfold idxV
  rcases idxF_ltV (fun y => eqB y x) xs 0 with ⟨e, h⟩ | ⟨j, hj, e, hj2, h⟩
  · refine .inl ⟨e, fun hm => ?_⟩
    have := h x hm
    rw [eqB_self] at this; cases this
  · refine .inr ⟨j, hj, by rw [e]; simp, ?_⟩
    exact (eqB_iff _ _).1 h
theorem erase_take (xs : List Verdict) (j : Nat) : xs.take j ++ xs.drop (j + 1) = xs.eraseIdx j := (List.eraseIdx_eq_take_drop_succ xs j).symm
/-- 's[k:]' -/
theorem Sl.dropv {w : World} {b off n cap : Nat} {xs : List Verdict} (h : Sl verdictR w (.slice (some ⟨b, off, none⟩) n cap) xs) (k : Nat) (hk : k ≤ xs.length) (hc : ¬ cap = k) :
    Sl verdictR w (.slice (some ⟨b, off + k * 4, none⟩) (n - k) (cap - k)) (xs.drop k) := by
  obtain ⟨A, cap', he, hm, hi⟩ := h
  injection he with e1 e2 e3
  subst e1; subst e2; subst e3
  refine ⟨_, _, by rw [List.length_drop], ⟨by rw [List.length_drop]; omega, by omega⟩, fun i hlt => ?_⟩
  rw [List.length_drop] at hlt
  obtain ⟨b2, off2, cs, e, hr, hc2⟩ := hi (k + i) (by omega)
  injection e with e
  injection e with e4 e5 _
  subst e4; subst e5
  refine ⟨b, off + k * 4, cs, rfl, by rw [List.getElem_drop]; exact hr, fun j hj => ?_⟩
  have h4 : verdictR.n = 4 := rfl
  rw [← hc2 j hj, h4, show off + k * 4 + i * 4 + j = off + (k + i) * 4 + j by rw [Nat.add_mul]; omega]

theorem rmV_no {xs : List Verdict} {x : Verdict} (h : ¬ (areVers xs = true ∧ 0 ≤ idxV xs x)) : rmV xs x = (xs, false) := by unfold rmV; rw [if_neg h]
theorem rmV_yes {xs : List Verdict} {x : Verdict} {j : Nat} (h : areVers xs = true) (h2 : idxV xs x = (j : Int)) : rmV xs x = (xs.eraseIdx j, true) := by unfold rmV; rw [if_pos ⟨h, by rw [h2]; omega⟩, h2]; rfl
/-- 's[k:]', whatever the capacity -/
theorem Sl.tailv {w : World} {b off n cap : Nat} {xs : List Verdict} (h : Sl verdictR w (.slice (some ⟨b, off, none⟩) n cap) xs) (k : Nat) (hk : k ≤ xs.length) :
    ∃ A2 : Option Addr, (if cap = k then (some ⟨b, off, none⟩ : Option Addr) else some ⟨b, off + k * 4, none⟩) = A2 ∧ Hid (∀ W, Ext w W → Sl verdictR W (.slice A2 (xs.length - k) (cap - k)) (xs.drop k)) := by
  have hn := h.cap_
  by_cases hc : cap = k
  · refine ⟨_, rfl, fun W hW => ?_⟩
    rw [if_pos hc, show xs.drop k = [] from List.drop_of_length_le (by omega), show xs.length - k = 0 by omega]
    exact ⟨_, _, rfl, ⟨Nat.zero_le _, by unfold maxLen; omega⟩, fun i hi => absurd hi (Nat.not_lt_zero _)⟩
  · refine ⟨_, rfl, fun W hW => ?_⟩
    rw [if_neg hc, ← hn.1]
    exact (h.mono hW).dropv k hk hc

end Go.Proofs.Ytmembjjgkideeaa
