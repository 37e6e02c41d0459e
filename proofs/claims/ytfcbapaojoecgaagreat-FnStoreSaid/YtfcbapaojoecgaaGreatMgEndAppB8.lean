/-
  SEVERAL SMALL TEXTS LAID TOGETHER: VerS, Vers, Sto, VerEq, Cur, VSto, IdxV, FindR, MarkSt, AppV, VerO, Items, CloV, VerL, AppW, CompQ, DelV, SortV.
-/
import Derived.Test.YtfcbapaojoecgaaGreatMgEndAppB6
import Derived.Test.YtfcbapaojoecgaaGreatMgEndAppB5
import Derived.Test.YtfcbapaojoecgaaGreatMgEndAppB0
import Derived.Laws.OwnMore
import Derived.Test.YtfcbapaojoecgaaGreatMgEndAppB7
import Derived.Lib.SliceRun
import Derived.Deep.AppendLies
import Derived.Deep.RegionLaw
import Derived.Shelf.RegionOpenPlain
import Derived.Lib.RowBridge

namespace Go.Proofs.YtfcbapaojoecgaaGreat
open Go.RowKit

set_option maxHeartbeats 400000 in
theorem szVerdictS_c (v : Value) (xs : List Verdict) (left : Int) (w : World) (h : Sl verdictR w v xs) (h0 : 0 ≤ left) (h1 : left ≤ 1048576) :
    Calls Tryz.prog 32 #[v, .int .i64 left] w fun e w2 => e = .returned (.int .i64 (szv ((xs.length : Nat) : Int) left)) ∧ Ext w w2 := by
  obtain ⟨A, cap, rfl, hm⟩ := h.form
  by_cases hlt : left < xs.length
  · go_enter Tryz.func32, Tryz.ntmps32
    go_wp2
    go_ret
    exact ⟨ret_int (by unfold szv; rw [if_pos (by omega)]), Ext.refl _⟩
  · go_enter Tryz.func32, Tryz.ntmps32
    go_wp2
    go_ret
    exact ⟨ret_int (by unfold szv; rw [if_neg (by omega)]), Ext.refl _⟩

theorem infoVer : (Tryz.prog.info? 74).map (fun i => (i.zero, i.size, i.bytes)) = some (some (.agg #[.int .i64 0, .int .i64 0, .bool false, .int .i64 0]), 4, 32) := by kernel_rfl
def verZ : List Value := [.int .i64 0, .int .i64 0, .bool false, .int .i64 0]
set_option maxHeartbeats 400000 in
set_option maxRecDepth 20000 in
theorem toVerdictS_c (v : Value) (xs : List Verdict) (w : World) (h : Sl verdictR w v xs) (hb : xs.length ≤ 1048576) :
    Calls Tryz.prog 43 #[v] w fun e w2 => ∃ v2 F, e = .returned v2 ∧ OwnSl verdictO w2 v2 xs F ∧ NewF w F ∧ Ext w w2 := by
  obtain ⟨A, cap, rfl, hm⟩ := h.form
  obtain ⟨i0, hi0, hz0, hz1, hz2⟩ := info_parts infoVer
  have hmk := run_mk (P := Tryz.prog) 32 74 i0 _ verZ 32 Tryz.underlying32 hi0 hz0 rfl hz1 hz2 xs.length (by omega) hm
  go_enter Tryz.func43, Tryz.ntmps43
  go_wp2
  go_loopw [4] (fun i wr => ∃ (k : Nat) (done : List Value) (F : List Nat), k ≤ xs.length ∧ i = .int .i64 k ∧ Blk wr w.heap.size 74 (done ++ (List.replicate (xs.length - k) verZ).flatten) ∧
    OwnCells verdictO wr done (xs.take k) F ∧ FromF w.heap.size F ∧ Ext w wr) (fun i _ => xs.length - (intOf i).toNat)
  case atStart => exact ⟨0, [], [], Nat.zero_le _, rfl, by simpa using Blk.new w 74 (List.replicate xs.length verZ).flatten.toArray, .nil, .nil _, (Ext.refl _).alloc _⟩
  case round =>
    obtain ⟨k, done, F, hk, rfl, hblk, hown, hF, hx⟩ := hrel
    by_cases hlt : k < xs.length
    · obtain ⟨b, off, rfl, hok, hc0, hc1, hc2, hc3⟩ := (h.mono hx).verdict hlt
      have hz : (List.replicate (xs.length - k) verZ).flatten = .int .i64 0 :: .int .i64 0 :: .bool false :: .int .i64 0 :: (List.replicate (xs.length - (k + 1)) verZ).flatten := by
        rw [show xs.length - k = (xs.length - (k + 1)) + 1 by omega, List.replicate_succ]; rfl
      rw [hz] at hblk
      clear hz
      have hl : done.length = k * 4 := by rw [hown.length]; simp [verdictO, flatO, verdictR]; omega
      have hgl := block_lt hblk.out
      have HL := hid hl
      clear hl
      go_wp2_with fail
      refine (toVerdict_c _ _ _ _ _).mono ?_
      rintro e w2 ⟨rfl, x2⟩
      have hblk2 := hblk.ext x2
      obtain ⟨p0, q0⟩ := hblk2.at_ HL.out
      have b3 := hblk2.store HL.out (.int .i64 xs[k].a)
      have l3 : (done ++ [Value.int .i64 xs[k].a]).length = k * 4 + 1 := by rw [List.length_append, HL.out]; rfl
      obtain ⟨p1, q1⟩ := b3.at_ l3
      have b4 := b3.store l3 (.int .i64 xs[k].b)
      have l4 : (done ++ [Value.int .i64 xs[k].a] ++ [Value.int .i64 xs[k].b]).length = k * 4 + 2 := by rw [List.length_append, l3]; rfl
      obtain ⟨p2, q2⟩ := b4.at_ l4
      have b5 := b4.store l4 (.bool xs[k].same)
      have l5 : (done ++ [Value.int .i64 xs[k].a] ++ [Value.int .i64 xs[k].b] ++ [Value.bool xs[k].same]).length = k * 4 + 3 := by rw [List.length_append, l4]; rfl
      obtain ⟨p3, q3⟩ := b5.at_ l5
      have hst := b5.store l5 (.int .i64 xs[k].time)
      have hk2 : ∀ b, b ≠ w.heap.size → ((((w2.setCell ⟨w.heap.size, k * 4, none⟩ (.int .i64 xs[k].a)).setCell ⟨w.heap.size, k * 4 + 1, none⟩ (.int .i64 xs[k].b)).setCell ⟨w.heap.size, k * 4 + 2, none⟩ (.bool xs[k].same)).setCell ⟨w.heap.size, k * 4 + 3, none⟩ (.int .i64 xs[k].time)).heap[b]? = w2.heap[b]? :=
        fun b hb => (keep_setCell hb).trans ((keep_setCell hb).trans ((keep_setCell hb).trans (keep_setCell hb)))
      obtain ⟨ho3, hF3⟩ := hown.step (R := verdictO) hF x2 ⟨⟨rfl, hok⟩, rfl⟩ (NewF.nil _) hgl hk2
      have HK := hid (And.intro ho3 hF3)
      have HST := hid hst
      clear hblk hblk2 b3 b4 b5 HL l3 l4 l5 hst hk2 ho3 hF3 hok
      go_wp2
      go_roundw
      case rel => exact ⟨k + 1, done ++ [.int .i64 xs[k].a, .int .i64 xs[k].b, .bool xs[k].same, .int .i64 xs[k].time], F, by omega, by go_num, by simpa using HST.out, by rw [List.take_succ_eq_append_getElem hlt]; simpa [Verdict.cells] using HK.out.1, by simpa using HK.out.2, ((((hx.trans x2).setCell (by simp) _).setCell (by simp) _).setCell (by simp) _).setCell (by simp) _⟩
      case measure => simp [intOf]; omega
    · go_wp2
      go_ret
      rw [show xs.length - k = 0 by omega, List.replicate_zero, List.flatten_nil, List.append_nil] at hblk
      rw [List.take_of_length_le (by omega)] at hown
      exact ⟨_, _, rfl, OwnSl.of_blk hblk (by unfold maxLen; omega) hown, hF.new rfl, hx⟩
end Go.Proofs.YtfcbapaojoecgaaGreat

namespace Go.Proofs.YtfcbapaojoecgaaGreat
open Go.RowKit

def vAt (xs : List Verdict) (k : Nat) : Verdict := xs.getD k ⟨0, 0, false, 0⟩
theorem vAt_at {xs : List Verdict} {k : Nat} (h : k < xs.length) : vAt xs k = xs[k] := by simp [vAt, List.getD, h]
def verAt (xs : List Verdict) (k : Nat) : Bool := okV (vAt xs k) && (k == 0 || decide (cmpV (vAt xs (k - 1)) (vAt xs k) < 0))
def areVers (xs : List Verdict) : Bool := (List.range xs.length).all (verAt xs) && decide (xs.length ≤ 8)
theorem vers_no {xs : List Verdict} {k : Nat} (hk : k < xs.length) (h : verAt xs k = false) : areVers xs = false := by
  unfold areVers
  rw [List.all_eq_false.2 ⟨k, List.mem_range.2 hk, by simp [h]⟩]; rfl
theorem vers_yes {xs : List Verdict} (h : ∀ j, j < xs.length → verAt xs j = true) : areVers xs = decide (xs.length ≤ 8) := by
  unfold areVers
  rw [List.all_eq_true.2 fun j hj => h j (List.mem_range.1 hj)]; rfl
theorem verAt_eq {xs : List Verdict} {k : Nat} (h : k < xs.length) : verAt xs k = (okV xs[k] && (k == 0 || decide (cmpV (vAt xs (k - 1)) xs[k] < 0))) := by
  unfold verAt; rw [vAt_at h]
theorem firstNZ_64 : ∀ l : List Int, (∀ x ∈ l, I64 x) → I64 (firstNZ l)
  | [], _ => by simp [firstNZ, I64]
  | x :: l, h => by
    rw [firstNZ]; split
    · exact h x (List.mem_cons_self ..)
    · exact firstNZ_64 l fun y hy => h y (List.mem_cons_of_mem _ hy)
theorem cmpV_64 (x y : Verdict) : I64 (cmpV x y) := firstNZ_64 _ (by simp [cmpI_64, cmpB_64])
theorem lt_succ_allV {p : Nat → Prop} {k : Nat} (h : ∀ j, j < k → p j) (hk : p k) : ∀ j, j < k + 1 → p j := fun j hj => by
  by_cases e : j = k
  · subst e; exact hk
  · exact h j (by omega)
theorem spec_valid (x : Verdict) (w : World) : Calls Tryz.prog 129 #[.agg #[.int .i64 x.a, .int .i64 x.b, .bool x.same, .int .i64 x.time]] w fun e w2 => e = .returned (.bool (okV x)) ∧ Ext w w2 := spec_IsValidVerdict _ _ _ _ w
theorem impl_valid (x : Verdict) (w : World) : Calls Tryz.prog 125 #[.agg #[.int .i64 x.a, .int .i64 x.b, .bool x.same, .int .i64 x.time]] w fun e w2 => e = .returned (.bool (okV x)) ∧ Ext w w2 := impl_IsValidVerdict _ _ _ _ w
theorem spec_cmp (x y : Verdict) (w : World) : Calls Tryz.prog 88 #[.agg #[.int .i64 x.a, .int .i64 x.b, .bool x.same, .int .i64 x.time], .agg #[.int .i64 y.a, .int .i64 y.b, .bool y.same, .int .i64 y.time]] w fun e w2 => e = .returned (.int .i64 (cmpV x y)) ∧ Ext w w2 := spec_CompareVerdicts x y w
theorem impl_cmp (x y : Verdict) (w : World) : Calls Tryz.prog 54 #[.agg #[.int .i64 x.a, .int .i64 x.b, .bool x.same, .int .i64 x.time], .agg #[.int .i64 y.a, .int .i64 y.b, .bool y.same, .int .i64 y.time]] w fun e w2 => e = .returned (.int .i64 (cmpV x y)) ∧ Ext w w2 := impl_CompareVerdicts x y w

set_option maxHeartbeats 400000 in
set_option maxRecDepth 20000 in
theorem spec_AreVerdicts (v : Value) (xs : List Verdict) (w : World) (h : Sl verdictR w v xs) :
    Calls Tryz.prog 85 #[v] w fun e w2 => e = .returned (.bool (areVers xs)) ∧ Ext w w2 := by
  obtain ⟨A, cap, rfl, hm⟩ := h.form
  go_enter Tryz.func85, Tryz.ntmps85
  go_wp2
  go_loopw [3] (fun i wr => ∃ k : Nat, k ≤ xs.length ∧ i = .int .i64 k ∧ (∀ q, q < k → verAt xs q = true) ∧ Ext w wr) (fun i _ => xs.length - (intOf i).toNat)
  case atStart => exact ⟨0, Nat.zero_le _, rfl, fun q hq => absurd hq (Nat.not_lt_zero _), Ext.refl _⟩
  case round =>
    obtain ⟨k, hk, rfl, hz, hx⟩ := hrel
    have HZ := hid hz
    clear hz
    by_cases hlt : k < xs.length
    · obtain ⟨b, off, rfl, hok, hc0, hc1, hc2, hc3⟩ := (h.mono hx).verdict hlt
      clear hok
      have HA := hid (verAt_eq hlt)
      have hz0 : ∀ z : ExtOf wr, z.1.cell? ⟨b, off + k * 4, none⟩ = _ := fun z => z.2.cell hc0
      have hz1 : ∀ z : ExtOf wr, z.1.cell? ⟨b, off + k * 4 + 1, none⟩ = _ := fun z => z.2.cell hc1
      have hz2 : ∀ z : ExtOf wr, z.1.cell? ⟨b, off + k * 4 + 2, none⟩ = _ := fun z => z.2.cell hc2
      have hz3 : ∀ z : ExtOf wr, z.1.cell? ⟨b, off + k * 4 + 3, none⟩ = _ := fun z => z.2.cell hc3
      cases hin : okV xs[k] with
      | false =>
        go_wp2_with fail
        refine wp_region_ext (by kernel_rfl) (by kernel_rfl) ?_
        repeat (go_big_quiet_step ((first | (go_at_call 129; exact quiet_ext (Calls.mono (spec_valid xs[k] _) fun _ _ h9 => ⟨h9.1.trans (ret_bool hin), h9.2⟩)))))
        refine wpQuiet_nil ?_
        rintro w4 ⟨⟨_, x4⟩, rfl⟩
        go_wp2
        go_ret
        exact ⟨ret_bool (vers_no hlt (by rw [HA.out, hin]; rfl)).symm, hx.trans x4⟩
      | true =>
        have HI := hid hin
        by_cases hj0 : 0 < k
        · have hlt1 : k - 1 < xs.length := by omega
          obtain ⟨b3, off3, e3, hok3, hd0, hd1, hd2, hd3⟩ := (h.mono hx).verdict hlt1
          cases e3
          clear hok3
          have hsub : ((k - 1 : Nat) : Int) = (k : Int) - 1 := by omega
          have hy0 : ∀ z : ExtOf wr, z.1.cell? ⟨b, off + (k - 1) * 4, none⟩ = _ := fun z => z.2.cell hd0
          have hy1 : ∀ z : ExtOf wr, z.1.cell? ⟨b, off + (k - 1) * 4 + 1, none⟩ = _ := fun z => z.2.cell hd1
          have hy2 : ∀ z : ExtOf wr, z.1.cell? ⟨b, off + (k - 1) * 4 + 2, none⟩ = _ := fun z => z.2.cell hd2
          have hy3 : ∀ z : ExtOf wr, z.1.cell? ⟨b, off + (k - 1) * 4 + 3, none⟩ = _ := fun z => z.2.cell hd3
          have HGD := hid (vAt_at hlt1)
          have h64 := (cmpV_64 xs[k - 1] xs[k]).out
          by_cases hge : 0 ≤ cmpV xs[k - 1] xs[k]
          · have HGE := hid (show decide (cmpV xs[k - 1] xs[k] < 0) = false by simpa using hge)
            go_wp2_with fail
            refine wp_region_ext (by kernel_rfl) (by kernel_rfl) ?_
            repeat (go_big_quiet_step ((first | (go_at_call 129; exact quiet_ext (Calls.mono (spec_valid xs[k] _) fun _ _ h9 => ⟨h9.1.trans (ret_bool hin), h9.2⟩)) | (go_at_call 88; exact quiet_ext (spec_cmp xs[k - 1] xs[k] _)))))
            refine wpQuiet_nil ?_
            rintro w4 ⟨⟨_, x4⟩, rfl⟩
            go_wp2
            go_ret
            exact ⟨ret_bool (vers_no hlt (by rw [HA.out, HGD.out, HGE.out, show (k == 0) = false by simp; omega]; simp)).symm, hx.trans x4⟩
          · have hlt9 : cmpV xs[k - 1] xs[k] < 0 := by omega
            have HGE := hid (show decide (cmpV xs[k - 1] xs[k] < 0) = true by simpa using hlt9)
            clear hge
            go_wp2_with fail
            refine wp_region_ext (by kernel_rfl) (by kernel_rfl) ?_
            repeat (go_big_quiet_step ((first | (go_at_call 129; exact quiet_ext (Calls.mono (spec_valid xs[k] _) fun _ _ h9 => ⟨h9.1.trans (ret_bool hin), h9.2⟩)) | (go_at_call 88; exact quiet_ext (spec_cmp xs[k - 1] xs[k] _)))))
            refine wpQuiet_nil ?_
            rintro w4 ⟨⟨_, x4⟩, rfl⟩
            go_wp2
            go_roundw
            case rel => exact ⟨k + 1, by omega, by go_num, lt_succ_allV HZ.out (by rw [HA.out, HI.out, HGD.out, HGE.out, Bool.or_true]; rfl), hx.trans x4⟩
            case measure => simp [intOf]; omega
        · have hjd1 : decide (0 < k) = false := by simpa using hj0
          have hjd2 : decide ((0 : Int) < (k : Int)) = false := by simp; omega
          have HJ0 := hid (show (k == 0) = true by simp; omega)
          clear hj0
          go_wp2_with fail
          refine wp_region_ext (by kernel_rfl) (by kernel_rfl) ?_
          repeat (go_big_quiet_step ((first | (go_at_call 129; exact quiet_ext (Calls.mono (spec_valid xs[k] _) fun _ _ h9 => ⟨h9.1.trans (ret_bool hin), h9.2⟩)))))
          refine wpQuiet_nil ?_
          rintro w4 ⟨⟨_, x4⟩, rfl⟩
          go_wp2
          go_roundw
          case rel => exact ⟨k + 1, by omega, by go_num, lt_succ_allV HZ.out (by rw [HA.out, HI.out, HJ0.out]; rfl), hx.trans x4⟩
          case measure => simp [intOf]; omega
    · go_wp2
      go_ret
      exact ⟨ret_bool (by rw [vers_yes fun j hj => HZ.out j (by omega)]; exact decide_eq_decide.2 (by omega)), hx⟩

set_option maxHeartbeats 400000 in
set_option maxRecDepth 20000 in
theorem impl_AreVerdicts (v : Value) (xs : List Verdict) (w : World) (h : Sl verdictR w v xs) :
    Calls Tryz.prog 73 #[v] w fun e w2 => e = .returned (.bool (areVers xs)) ∧ Ext w w2 := by
  obtain ⟨A, cap, rfl, hm⟩ := h.form
  go_enter Tryz.func73, Tryz.ntmps73
  go_wp2
  go_loopw [7] (fun i wr => ∃ k : Nat, k ≤ xs.length ∧ i = .int .i64 k ∧ (∀ q, q < k → verAt xs q = true) ∧ Ext w wr) (fun i _ => xs.length - (intOf i).toNat)
  case atStart => exact ⟨0, Nat.zero_le _, rfl, fun q hq => absurd hq (Nat.not_lt_zero _), Ext.refl _⟩
  case round =>
    obtain ⟨k, hk, rfl, hz, hx⟩ := hrel
    have HZ := hid hz
    clear hz
    by_cases hlt : k < xs.length
    · obtain ⟨b, off, rfl, hok, hc0, hc1, hc2, hc3⟩ := (h.mono hx).verdict hlt
      clear hok
      have HA := hid (verAt_eq hlt)
      have hzb : ∀ z : ExtOf (wr.alloc (.cells #[.int .i64 xs[k].a, .int .i64 xs[k].b, .bool xs[k].same, .int .i64 xs[k].time] 74)), z.1.cell? ⟨wr.heap.size, 0, none⟩ = some (.int .i64 xs[k].a) ∧ z.1.cell? ⟨wr.heap.size, 1, none⟩ = some (.int .i64 xs[k].b) ∧ z.1.cell? ⟨wr.heap.size, 2, none⟩ = some (.bool xs[k].same) ∧ z.1.cell? ⟨wr.heap.size, 3, none⟩ = some (.int .i64 xs[k].time) := fun z => ⟨z.2.box.1 0, z.2.box.1 1, z.2.box.1 2, z.2.box.1 3⟩
      cases hin : okV xs[k] with
      | false =>
        go_wp2_with fail
        refine wp_region_ext (by kernel_rfl) (by kernel_rfl) ?_
        repeat (go_big_quiet_step ((first | (go_at_call 125; exact quiet_ext (Calls.mono (impl_valid xs[k] _) fun _ _ h9 => ⟨h9.1.trans (ret_bool hin), h9.2⟩)))))
        refine wpQuiet_nil ?_
        rintro w4 ⟨⟨_, x4⟩, rfl⟩
        go_wp2
        go_ret
        exact ⟨ret_bool (vers_no hlt (by rw [HA.out, hin]; rfl)).symm, (by repeat (first | with_reducible exact Ext.refl _ | with_reducible assumption | with_reducible refine Ext.drew ?_ | with_reducible refine Ext.alloc ?_ _ | with_reducible refine Ext.trans ?_ (by with_reducible assumption)))⟩
      | true =>
        have HI := hid hin
        by_cases hj0 : 0 < k
        · have hlt1 : k - 1 < xs.length := by omega
          obtain ⟨b3, off3, e3, hok3, hd0, hd1, hd2, hd3⟩ := (h.mono hx).verdict hlt1
          cases e3
          clear hok3
          have hsub : ((k - 1 : Nat) : Int) = (k : Int) - 1 := by omega
          have hy0 : ∀ z : ExtOf (wr.alloc (.cells #[.int .i64 xs[k].a, .int .i64 xs[k].b, .bool xs[k].same, .int .i64 xs[k].time] 74)), z.1.cell? ⟨b, off + (k - 1) * 4, none⟩ = _ := fun z => (((Ext.refl _).alloc _).trans z.2).cell hd0
          have hy1 : ∀ z : ExtOf (wr.alloc (.cells #[.int .i64 xs[k].a, .int .i64 xs[k].b, .bool xs[k].same, .int .i64 xs[k].time] 74)), z.1.cell? ⟨b, off + (k - 1) * 4 + 1, none⟩ = _ := fun z => (((Ext.refl _).alloc _).trans z.2).cell hd1
          have hy2 : ∀ z : ExtOf (wr.alloc (.cells #[.int .i64 xs[k].a, .int .i64 xs[k].b, .bool xs[k].same, .int .i64 xs[k].time] 74)), z.1.cell? ⟨b, off + (k - 1) * 4 + 2, none⟩ = _ := fun z => (((Ext.refl _).alloc _).trans z.2).cell hd2
          have hy3 : ∀ z : ExtOf (wr.alloc (.cells #[.int .i64 xs[k].a, .int .i64 xs[k].b, .bool xs[k].same, .int .i64 xs[k].time] 74)), z.1.cell? ⟨b, off + (k - 1) * 4 + 3, none⟩ = _ := fun z => (((Ext.refl _).alloc _).trans z.2).cell hd3
          have HGD := hid (vAt_at hlt1)
          have h64 := (cmpV_64 xs[k - 1] xs[k]).out
          by_cases hge : 0 ≤ cmpV xs[k - 1] xs[k]
          · have HGE := hid (show decide (cmpV xs[k - 1] xs[k] < 0) = false by simpa using hge)
            go_wp2_with fail
            refine wp_region_ext (by kernel_rfl) (by kernel_rfl) ?_
            repeat (go_big_quiet_step ((first | (go_at_call 125; exact quiet_ext (Calls.mono (impl_valid xs[k] _) fun _ _ h9 => ⟨h9.1.trans (ret_bool hin), h9.2⟩)) | (go_at_call 54; exact quiet_ext (impl_cmp xs[k - 1] xs[k] _)))))
            refine wpQuiet_nil ?_
            rintro w4 ⟨⟨_, x4⟩, rfl⟩
            go_wp2
            go_ret
            exact ⟨ret_bool (vers_no hlt (by rw [HA.out, HGD.out, HGE.out, show (k == 0) = false by simp; omega]; simp)).symm, (by repeat (first | with_reducible exact Ext.refl _ | with_reducible assumption | with_reducible refine Ext.drew ?_ | with_reducible refine Ext.alloc ?_ _ | with_reducible refine Ext.trans ?_ (by with_reducible assumption)))⟩
          · have hlt9 : cmpV xs[k - 1] xs[k] < 0 := by omega
            have HGE := hid (show decide (cmpV xs[k - 1] xs[k] < 0) = true by simpa using hlt9)
            clear hge
            go_wp2_with fail
            refine wp_region_ext (by kernel_rfl) (by kernel_rfl) ?_
            repeat (go_big_quiet_step ((first | (go_at_call 125; exact quiet_ext (Calls.mono (impl_valid xs[k] _) fun _ _ h9 => ⟨h9.1.trans (ret_bool hin), h9.2⟩)) | (go_at_call 54; exact quiet_ext (impl_cmp xs[k - 1] xs[k] _)))))
            refine wpQuiet_nil ?_
            rintro w4 ⟨⟨_, x4⟩, rfl⟩
            go_wp2
            go_roundw
            case rel => exact ⟨k + 1, by omega, by go_num, lt_succ_allV HZ.out (by rw [HA.out, HI.out, HGD.out, HGE.out, Bool.or_true]; rfl), (by repeat (first | with_reducible exact Ext.refl _ | with_reducible assumption | with_reducible refine Ext.drew ?_ | with_reducible refine Ext.alloc ?_ _ | with_reducible refine Ext.trans ?_ (by with_reducible assumption)))⟩
            case measure => simp [intOf]; omega
        · have hjd1 : decide (0 < k) = false := by simpa using hj0
          have hjd2 : decide ((0 : Int) < (k : Int)) = false := by simp; omega
          have HJ0 := hid (show (k == 0) = true by simp; omega)
          clear hj0
          go_wp2_with fail
          refine wp_region_ext (by kernel_rfl) (by kernel_rfl) ?_
          repeat (go_big_quiet_step ((first | (go_at_call 125; exact quiet_ext (Calls.mono (impl_valid xs[k] _) fun _ _ h9 => ⟨h9.1.trans (ret_bool hin), h9.2⟩)))))
          refine wpQuiet_nil ?_
          rintro w4 ⟨⟨_, x4⟩, rfl⟩
          go_wp2
          go_roundw
          case rel => exact ⟨k + 1, by omega, by go_num, lt_succ_allV HZ.out (by rw [HA.out, HI.out, HJ0.out]; rfl), (by repeat (first | with_reducible exact Ext.refl _ | with_reducible assumption | with_reducible refine Ext.drew ?_ | with_reducible refine Ext.alloc ?_ _ | with_reducible refine Ext.trans ?_ (by with_reducible assumption)))⟩
          case measure => simp [intOf]; omega
    · go_wp2
      go_ret
      exact ⟨ret_bool (by rw [vers_yes fun j hj => HZ.out j (by omega)]; exact decide_eq_decide.2 (by omega)), hx⟩
end Go.Proofs.YtfcbapaojoecgaaGreat

namespace Go.Proofs.YtfcbapaojoecgaaGreat
open Go.RowKit

structure Store where
  version : Int
  records : List Record
  verdicts : List Verdict
def StoAt (w : World) (v : Value) (s : Store) : Prop := ∃ r d, v = .agg #[.int .i64 s.version, r, d] ∧ I64 s.version ∧ Sl recordR w r s.records ∧ Sl verdictR w d s.verdicts
def StoOwn (w : World) (v : Value) (s : Store) (F : List Nat) : Prop := ∃ r d F1 F2, v = .agg #[.int .i64 s.version, r, d] ∧ I64 s.version ∧ OwnSl recordO w r s.records F1 ∧ OwnSl verdictO w d s.verdicts F2 ∧ F = F1 ++ F2
theorem StoAt.mono {w w2 : World} {v : Value} {s : Store} (x : Ext w w2) (h : StoAt w v s) : StoAt w2 v s := let ⟨r, d, a, b, c, e⟩ := h; ⟨r, d, a, b, c.mono x, e.mono x⟩
theorem StoOwn.at_ {w : World} {v : Value} {s : Store} {F : List Nat} (h : StoOwn w v s F) : StoAt w v s := let ⟨r, d, _, _, a, b, c, e, _⟩ := h; ⟨r, d, a, b, c.sl, e.sl⟩
theorem StoOwn.lt {w : World} {v : Value} {s : Store} {F : List Nat} (h : StoOwn w v s F) : ∀ b ∈ F, b < w.heap.size := by
  obtain ⟨_, _, F1, F2, _, _, c, e, rfl⟩ := h
  intro b hb
  rcases List.mem_append.1 hb with hb | hb
  · exact c.lt b hb
  · exact e.lt b hb
theorem StoOwn.keep {w w2 : World} {v : Value} {s : Store} {F : List Nat} (h : StoOwn w v s F) (k : ∀ b ∈ F, w2.heap[b]? = w.heap[b]?) : StoOwn w2 v s F := by
  obtain ⟨r, d, F1, F2, a, b, c, e, rfl⟩ := h
  exact ⟨r, d, F1, F2, a, b, c.keep fun b hb => k b (List.mem_append_left _ hb), e.keep fun b hb => k b (List.mem_append_right _ hb), rfl⟩
theorem StoOwn.ext {w w2 : World} {v : Value} {s : Store} {F : List Nat} (h : StoOwn w v s F) (x : Ext w w2) : StoOwn w2 v s F := h.keep fun b hb => x.block (h.lt b hb)
def msRecs (xs : List Record) : Nat := xs.length + sumBy msRec xs
def msSto (s : Store) : Nat := msRecs s.records + s.verdicts.length

set_option maxHeartbeats 400000 in
theorem szStore_c (v : Value) (s : Store) (left : Int) (w : World) (h : StoAt w v s) (h0 : 0 ≤ left) (h1 : left ≤ 1048576) :
    Calls Tryz.prog 6 #[v, .int .i64 left] w fun e w2 => e = .returned (.int .i64 (szv ((msSto s : Nat) : Int) left)) ∧ Ext w w2 := by
  obtain ⟨r, d, rfl, hI, hr, hd⟩ := h
  go_enter Tryz.func6, Tryz.ntmps6
  go_wp2_with fail
  refine (szRecordS_c _ s.records _ _ (hr.mono (by repeat (first | with_reducible exact Ext.refl _ | with_reducible assumption | with_reducible refine Ext.drew ?_ | with_reducible refine Ext.alloc ?_ _ | (refine Ext.setCell ?_ (by simp) _) | with_reducible refine Ext.trans ?_ (by with_reducible assumption)))) h0 h1).mono ?_
  rintro e w2 ⟨rfl, x2⟩
  rw [show ((s.records.length + sumBy msRec s.records : Nat) : Int) = ((msRecs s.records : Nat) : Int) from rfl]
  obtain ⟨c2, f2⟩ := x2.box
  by_cases hf : left < (msRecs s.records : Nat)
  · rw [szv_neg hf]
    have HF := hid hf
    clear hf
    go_wp2
    go_ret
    exact ⟨ret_int (by symm; refine szv_neg ?_; have := HF.out; unfold msSto; omega), (by repeat (first | with_reducible exact Ext.refl _ | with_reducible assumption | with_reducible refine Ext.drew ?_ | with_reducible refine Ext.alloc ?_ _ | (refine Ext.setCell ?_ (by simp) _) | with_reducible refine Ext.trans ?_ (by with_reducible assumption)))⟩
  · rw [show szv ((msRecs s.records : Nat) : Int) left = left - (msRecs s.records : Nat) by unfold szv; rw [if_neg hf]]
    go_wp2_with fail
    refine (szVerdictS_c _ s.verdicts _ _ (hd.mono (by repeat (first | with_reducible exact Ext.refl _ | with_reducible assumption | with_reducible refine Ext.drew ?_ | with_reducible refine Ext.alloc ?_ _ | (refine Ext.setCell ?_ (by simp) _) | with_reducible refine Ext.trans ?_ (by with_reducible assumption)))) (by omega) (by omega)).mono ?_
    rintro e w3 ⟨rfl, x3⟩
    by_cases hg : left - (msRecs s.records : Nat) < (s.verdicts.length : Nat)
    · rw [szv_neg hg]
      have HG := hid hg
      clear hg
      go_wp2
      go_ret
      exact ⟨ret_int (by symm; refine szv_neg ?_; have := HG.out; unfold msSto; omega), (by repeat (first | with_reducible exact Ext.refl _ | with_reducible assumption | with_reducible refine Ext.drew ?_ | with_reducible refine Ext.alloc ?_ _ | (refine Ext.setCell ?_ (by simp) _) | with_reducible refine Ext.trans ?_ (by with_reducible assumption)))⟩
    · rw [show szv ((s.verdicts.length : Nat) : Int) (left - (msRecs s.records : Nat)) = left - (msRecs s.records : Nat) - (s.verdicts.length : Nat) by unfold szv; rw [if_neg hg]]
      go_wp2
      go_ret
      exact ⟨ret_int (by unfold szv msSto; rw [if_neg (by omega)]; omega), (by repeat (first | with_reducible exact Ext.refl _ | with_reducible assumption | with_reducible refine Ext.drew ?_ | with_reducible refine Ext.alloc ?_ _ | (refine Ext.setCell ?_ (by simp) _) | with_reducible refine Ext.trans ?_ (by with_reducible assumption)))⟩

set_option maxHeartbeats 400000 in
set_option maxRecDepth 20000 in
theorem toStore_c (v : Value) (s : Store) (w : World) (h : StoAt w v s) (hb : msSto s ≤ 1048576) :
    Calls Tryz.prog 9 #[v] w fun e w2 => ∃ v2 F, e = .returned v2 ∧ StoOwn w2 v2 s F ∧ NewF w F ∧ Ext w w2 := by
  obtain ⟨r, d, rfl, hI, hr, hd⟩ := h
  have hb0 : s.records.length + sumBy msRec s.records ≤ 1048576 := by unfold msSto msRecs at hb; omega
  have hb1 : s.verdicts.length ≤ 1048576 := by unfold msSto at hb; omega
  go_enter Tryz.func9, Tryz.ntmps9
  go_wp2_with fail
  refine (toRecordS_c _ s.records _ (hr.mono (by repeat (first | with_reducible exact Ext.refl _ | with_reducible assumption | with_reducible refine Ext.drew ?_ | with_reducible refine Ext.alloc ?_ _ | (refine Ext.setCell ?_ (by simp) _) | with_reducible refine Ext.trans ?_ (by with_reducible assumption)))) hb0).mono ?_
  rintro e w2 ⟨v2, F, rfl, ho, hn, x2⟩
  obtain ⟨A2, cap2, e2, _⟩ := ho.form
  subst e2
  have B3 : Blk w2 (w.heap.size + 1 + 1) 34 [.int .i64 s.version, .slice none 0 0, .slice none 0 0] := by
    have := (Blk.new ((w.alloc (.cells #[.int .i64 s.version, r, d] 25)).alloc (.cells #[.int .i64 0, .slice none 0 0, .slice none 0 0] 34)) 34 #[.int .i64 s.version, .slice none 0 0, .slice none 0 0]).ext x2
    simpa using this
  have B2 : Blk w2 (w.heap.size + 1) 34 [.int .i64 0, .slice none 0 0, .slice none 0 0] := by
    have := (Blk.new (w.alloc (.cells #[.int .i64 s.version, r, d] 25)) 34 #[.int .i64 0, .slice none 0 0, .slice none 0 0]).ext (((Ext.refl _).alloc _).trans x2)
    simpa using this
  have B1 : Blk w2 w.heap.size 25 [.int .i64 s.version, r, d] := by
    have := (Blk.new w 25 #[.int .i64 s.version, r, d]).ext ((((Ext.refl _).alloc _).alloc _).trans x2)
    simpa using this
  have hlt : ∀ b ∈ F, w.heap.size + 1 + 1 < b := fun b hb => by have := hn.2 b hb; simp at this; omega
  have hnw := hn.ext (w := w) (by repeat (first | with_reducible exact Ext.refl _ | with_reducible assumption | with_reducible refine Ext.drew ?_ | with_reducible refine Ext.alloc ?_ _ | (refine Ext.setCell ?_ (by simp) _) | with_reducible refine Ext.trans ?_ (by with_reducible assumption)))
  have xw : Ext w w2 := (by repeat (first | with_reducible exact Ext.refl _ | with_reducible assumption | with_reducible refine Ext.drew ?_ | with_reducible refine Ext.alloc ?_ _ | (refine Ext.setCell ?_ (by simp) _) | with_reducible refine Ext.trans ?_ (by with_reducible assumption)))
  clear hn x2
  have B3c := B3.cells
  have B1c := B1.cells
  have B3s := (B3.store (done := [.int .i64 s.version]) (rest := [.slice none 0 0]) (z := .slice none 0 0) rfl (.slice A2 s.records.length cap2))
  have B2s : Blk (w2.setCell ⟨w.heap.size + 1 + 1, 1, none⟩ (.slice A2 s.records.length cap2)) (w.heap.size + 1) 34 [.int .i64 0, .slice none 0 0, .slice none 0 0] := B2.keep (keep_setCell (by simp))
  have B1s : Blk (w2.setCell ⟨w.heap.size + 1 + 1, 1, none⟩ (.slice A2 s.records.length cap2)) w.heap.size 25 [.int .i64 s.version, r, d] := B1.keep (keep_setCell (by simp; omega))
  have B1c2 := B1s.cells
  have xs : Ext w (w2.setCell ⟨w.heap.size + 1 + 1, 1, none⟩ (.slice A2 s.records.length cap2)) := xw.setCell (by simp; omega) _
  have hos : OwnSl recordO (w2.setCell ⟨w.heap.size + 1 + 1, 1, none⟩ (.slice A2 s.records.length cap2)) (.slice A2 s.records.length cap2) s.records F := ho.setCell (fun h9 => by have := hlt _ h9; simp only at this; omega) _
  have hlo := hos.lt
  clear B1 B2 B3 B1s ho
  go_wp2_with fail
  refine (toVerdictS_c _ s.verdicts _ (hd.mono xs) hb1).mono ?_
  rintro e w4 ⟨v4, F4, rfl, ho4, hn4, x4⟩
  obtain ⟨A4, cap4, e4, _⟩ := ho4.form
  subst e4
  have B3c4 := (B3s.ext x4).cells
  have B2c4 := (B2s.ext x4).cells
  have hlt4 : ∀ b ∈ F4, w.heap.size + 1 + 1 < b := fun b hb => by have h1 := hn4.2 b hb; have h2 : w.heap.size + 1 + 1 < (w2.setCell ⟨w.heap.size + 1 + 1, 1, none⟩ (.slice A2 s.records.length cap2)).heap.size := block_lt B3s.out; omega
  have hn5 : NewF w (F ++ F4) := NewF.append hnw hn4 xs hlo
  have ho5 := hos.ext x4
  have x5 := xs.trans x4
  clear B1c2 B3c B1c B3s B2s hos hlo hn4 x4 xs
  simp only [List.cons_append, List.nil_append] at B3c4
  obtain ⟨c3, f3⟩ := B3c4
  obtain ⟨c2, f2⟩ := B2c4
  go_wp2
  refine bodyPost_ret (v := .agg #[.int .i64 s.version, .slice A2 s.records.length cap2, .slice A4 s.verdicts.length cap4]) (by simp [results, Tryz.results9, go_sem, c2]) rfl ?_
  clear c2 f2 c3 f3
  refine ⟨_, F ++ F4, rfl, ⟨_, _, F, F4, rfl, hI, ?_, ?_, rfl⟩, hn5, ?_⟩
  · repeat (first | with_reducible exact ho5 | (refine OwnSl.setCell ?_ (fun h9 => by have := hlt _ h9; simp only at this; omega) _))
  · repeat (first | with_reducible exact ho4 | (refine OwnSl.setCell ?_ (fun h9 => by have := hlt4 _ h9; simp only at this; omega) _))
  · repeat (refine Ext.setCell ?_ (by simp; try omega) _)
    exact x5

theorem Store.eta (x y : Store) : x = y ↔ x.version = y.version ∧ x.records = y.records ∧ x.verdicts = y.verdicts := by
  cases x; cases y; simp
set_option maxHeartbeats 400000 in
theorem eqStore_c (v u : Value) (x y : Store) (w : World) (h : StoAt w v x) (k : StoAt w u y) :
    Calls Tryz.prog 12 #[v, u] w fun e w2 => e = .returned (.bool (eqB x y)) ∧ Ext w w2 := by
  obtain ⟨r, d, rfl, hI, hr, hd⟩ := h
  obtain ⟨r', d', rfl, hI', hr', hd'⟩ := k
  by_cases h1 : x.version = y.version
  · have b1 : (x.version != y.version) = false := by simp [h1]
    have H := hid h1
    clear h1
    go_enter Tryz.func12, Tryz.ntmps12
    go_wp2_with fail
    refine (eqRecordS_c _ _ x.records y.records _ (hr.mono (by repeat (first | with_reducible exact Ext.refl _ | with_reducible assumption | with_reducible refine Ext.drew ?_ | with_reducible refine Ext.alloc ?_ _ | (refine Ext.setCell ?_ (by simp) _) | with_reducible refine Ext.trans ?_ (by with_reducible assumption)))) (hr'.mono (by repeat (first | with_reducible exact Ext.refl _ | with_reducible assumption | with_reducible refine Ext.drew ?_ | with_reducible refine Ext.alloc ?_ _ | (refine Ext.setCell ?_ (by simp) _) | with_reducible refine Ext.trans ?_ (by with_reducible assumption))))).mono ?_
    rintro e w2 ⟨rfl, x2⟩
    have c1 := x2.box1.1
    have c0 := ((((Ext.refl _).alloc _) : Ext (w.alloc (.cells #[.int .i64 x.version, r, d] 34)) _).trans x2).box.1
    by_cases h4 : x.records = y.records
    · rw [eqB_true h4]
      have H4 := hid h4
      clear h4
      go_wp2_with fail
      refine (eqVerdictS_c _ _ x.verdicts y.verdicts _ (hd.mono (by repeat (first | with_reducible exact Ext.refl _ | with_reducible assumption | with_reducible refine Ext.drew ?_ | with_reducible refine Ext.alloc ?_ _ | (refine Ext.setCell ?_ (by simp) _) | with_reducible refine Ext.trans ?_ (by with_reducible assumption)))) (hd'.mono (by repeat (first | with_reducible exact Ext.refl _ | with_reducible assumption | with_reducible refine Ext.drew ?_ | with_reducible refine Ext.alloc ?_ _ | (refine Ext.setCell ?_ (by simp) _) | with_reducible refine Ext.trans ?_ (by with_reducible assumption))))).mono ?_
      rintro e w3 ⟨rfl, x3⟩
      by_cases h5 : x.verdicts = y.verdicts
      · rw [eqB_true h5]
        have H5 := hid h5
        clear h5
        go_wp2
        go_ret
        exact ⟨ret_bool (eqB_true ((Store.eta x y).2 ⟨H.out, H4.out, H5.out⟩)).symm, (by repeat (first | with_reducible exact Ext.refl _ | with_reducible assumption | with_reducible refine Ext.drew ?_ | with_reducible refine Ext.alloc ?_ _ | (refine Ext.setCell ?_ (by simp) _) | with_reducible refine Ext.trans ?_ (by with_reducible assumption)))⟩
      · rw [eqB_false h5]
        have H5 := hid h5
        clear h5
        go_wp2
        go_ret
        exact ⟨ret_bool (eqB_false fun e => H5.out (by rw [e])).symm, (by repeat (first | with_reducible exact Ext.refl _ | with_reducible assumption | with_reducible refine Ext.drew ?_ | with_reducible refine Ext.alloc ?_ _ | (refine Ext.setCell ?_ (by simp) _) | with_reducible refine Ext.trans ?_ (by with_reducible assumption)))⟩
    · rw [eqB_false h4]
      have H4 := hid h4
      clear h4
      go_wp2
      go_ret
      exact ⟨ret_bool (eqB_false fun e => H4.out (by rw [e])).symm, (by repeat (first | with_reducible exact Ext.refl _ | with_reducible assumption | with_reducible refine Ext.drew ?_ | with_reducible refine Ext.alloc ?_ _ | (refine Ext.setCell ?_ (by simp) _) | with_reducible refine Ext.trans ?_ (by with_reducible assumption)))⟩
  · have b1 : (x.version != y.version) = true := by simp [h1]
    have H := hid h1
    clear h1
    go_enter Tryz.func12, Tryz.ntmps12
    go_wp2
    go_ret
    exact ⟨ret_bool (eqB_false fun e => H.out (by rw [e])).symm, (by repeat (first | with_reducible exact Ext.refl _ | with_reducible assumption | with_reducible refine Ext.drew ?_ | with_reducible refine Ext.alloc ?_ _ | (refine Ext.setCell ?_ (by simp) _) | with_reducible refine Ext.trans ?_ (by with_reducible assumption)))⟩

theorem under_store : ∃ f0 f1 f2, Tryz.prog.underlying 25 = some (.struct #[f0, f1, f2]) ∧ (f0.type = 3 ∧ f0.offset = 0) ∧ (f1.type = 22 ∧ f1.offset = 1) ∧ (f2.type = 23 ∧ f2.offset = 2) := ⟨_, _, _, Tryz.underlying25, ⟨rfl, rfl⟩, ⟨rfl, rfl⟩, ⟨rfl, rfl⟩⟩
def storeR : Rep Store := ⟨3, fun w cs s => ∃ r d, cs = [.int .i64 s.version, r, d] ∧ I64 s.version ∧ Sl recordR w r s.records ∧ Sl verdictR w d s.verdicts, fun ⟨_, _, h, _⟩ => by rw [h]; rfl, fun x ⟨r, d, a, b, c, e⟩ => ⟨r, d, a, b, c.mono x, e.mono x⟩⟩
theorem list3 {cs : List Value} (h : cs.length = 3) {a b c : Value} (ha : (cs.drop 0).take 1 = [a]) (hb : (cs.drop 1).take 1 = [b]) (hc : (cs.drop 2).take 1 = [c]) : cs = [a, b, c] := by
  match cs, h with
  | [x, y, z], _ => simp_all
theorem rLawStore : Reads Tryz.prog 25 storeR := by
  refine ⟨by kernel_rfl, fun h => ?_⟩
  have ht := Tryz.underlying25
  obtain ⟨a, e0, w0⟩ := Reads.field ht h 0 _ rfl rInt
  obtain ⟨l, v1, e1, w1⟩ := Reads.field ht h 1 _ rfl rLawRecords
  obtain ⟨m, v2, e2, w2⟩ := Reads.field ht h 2 _ rfl rLawVerdicts
  exact ⟨⟨a, l, m⟩, v1, v2, list3 ((struct_len ht h).trans (by kernel_rfl)) e0 e1 e2, w0, w1, w2⟩
end Go.Proofs.YtfcbapaojoecgaaGreat

namespace Go.Proofs.YtfcbapaojoecgaaGreat
open Go.RowKit

theorem ver_cases (x y : Verdict) : (x = y ∧ (x.a == y.a) = true ∧ (x.b == y.b) = true ∧ (x.same == y.same) = true ∧ (x.time == y.time) = true) ∨
    (¬ x = y ∧ ((x.a == y.a) = false ∨ ((x.a == y.a) = true ∧ (x.b == y.b) = false) ∨ ((x.a == y.a) = true ∧ (x.b == y.b) = true ∧ (x.same == y.same) = false) ∨ ((x.a == y.a) = true ∧ (x.b == y.b) = true ∧ (x.same == y.same) = true ∧ (x.time == y.time) = false))) := by
  by_cases h1 : x.a = y.a
  · by_cases h2 : x.b = y.b
    · by_cases h3 : x.same = y.same
      · by_cases h4 : x.time = y.time
        · exact .inl ⟨(Verdict.eta x y).2 ⟨h1, h2, h3, h4⟩, by simp [h1], by simp [h2], by simp [h3], by simp [h4]⟩
        · exact .inr ⟨fun e => h4 (by rw [e]), .inr (.inr (.inr ⟨by simp [h1], by simp [h2], by simp [h3], by simp [h4]⟩))⟩
      · exact .inr ⟨fun e => h3 (by rw [e]), .inr (.inr (.inl ⟨by simp [h1], by simp [h2], by simp [h3]⟩))⟩
    · exact .inr ⟨fun e => h2 (by rw [e]), .inr (.inl ⟨by simp [h1], by simp [h2]⟩)⟩
  · exact .inr ⟨fun e => h1 (by rw [e]), .inl (by simp [h1])⟩

set_option maxHeartbeats 400000 in
set_option maxRecDepth 20000 in
theorem slices_Equal_v (v u : Value) (xs ys : List Verdict) (w : World) (h : Sl verdictR w v xs) (k : Sl verdictR w u ys) :
    Calls Tryz.prog 69 #[v, u] w fun e w2 => e = .returned (.bool (eqB xs ys)) ∧ Ext w w2 := by
  obtain ⟨A, cap, rfl, hm⟩ := h.form
  obtain ⟨B, cap2, rfl, hm2⟩ := k.form
  by_cases hl : xs.length = ys.length
  · have hl' : ((xs.length : Int) != (ys.length : Int)) = false := by simp [hl]
    have HL := hid hl
    clear hl
    go_enter Tryz.func69, Tryz.ntmps69
    go_wp2
    go_loopw [13] (fun i wr => ∃ k2 : Nat, k2 ≤ xs.length ∧ i = .int .i64 k2 ∧ xs.take k2 = ys.take k2 ∧ Ext w wr) (fun i _ => xs.length - (intOf i).toNat)
    case atStart => exact ⟨0, Nat.zero_le _, rfl, by simp, Ext.refl _⟩
    case round =>
      obtain ⟨k2, hk, rfl, he, hx⟩ := hrel
      have HE := hid he
      clear he
      by_cases hlt : k2 < xs.length
      · have hlt2 : k2 < ys.length := by have := HL.out; omega
        obtain ⟨b, off, rfl, hok, hc0, hc1, hc2, hc3⟩ := (h.mono hx).verdict hlt
        obtain ⟨b2, off2, rfl, hok2, hd0, hd1, hd2, hd3⟩ := (k.mono hx).verdict hlt2
        clear hok hok2
        have y0 : ∀ z : ExtOf wr, z.1.cell? ⟨b, off + k2 * 4, none⟩ = _ := fun z => z.2.cell hc0
        have y1 : ∀ z : ExtOf wr, z.1.cell? ⟨b, off + k2 * 4 + 1, none⟩ = _ := fun z => z.2.cell hc1
        have y2 : ∀ z : ExtOf wr, z.1.cell? ⟨b, off + k2 * 4 + 2, none⟩ = _ := fun z => z.2.cell hc2
        have y3 : ∀ z : ExtOf wr, z.1.cell? ⟨b, off + k2 * 4 + 3, none⟩ = _ := fun z => z.2.cell hc3
        have z0 : ∀ z : ExtOf wr, z.1.cell? ⟨b2, off2 + k2 * 4, none⟩ = _ := fun z => z.2.cell hd0
        have z1 : ∀ z : ExtOf wr, z.1.cell? ⟨b2, off2 + k2 * 4 + 1, none⟩ = _ := fun z => z.2.cell hd1
        have z2 : ∀ z : ExtOf wr, z.1.cell? ⟨b2, off2 + k2 * 4 + 2, none⟩ = _ := fun z => z.2.cell hd2
        have z3 : ∀ z : ExtOf wr, z.1.cell? ⟨b2, off2 + k2 * 4 + 3, none⟩ = _ := fun z => z.2.cell hd3
        rcases ver_cases xs[k2] ys[k2] with ⟨he, e1, e2, e3, e4⟩ | ⟨hne, hw⟩
        · have H0 := hid he
          clear he
          go_wp2_with fail
          refine wp_region_ext (by kernel_rfl) (by kernel_rfl) ?_
          repeat (go_big_quiet_step ((fail)))
          refine wpQuiet_nil ?_
          rintro w1 ⟨⟨_, x1⟩, rfl⟩
          go_wp2
          go_roundw
          case rel => exact ⟨k2 + 1, by omega, by go_num, take_snoc_eq hlt hlt2 H0.out HE.out, hx.trans x1⟩
          case measure => simp [intOf]; omega
        · have H0 := hid hne
          clear hne
          rcases hw with e1 | ⟨e1, e2⟩ | ⟨e1, e2, e3⟩ | ⟨e1, e2, e3, e4⟩
          all_goals
            go_wp2_with fail
            refine wp_region_ext (by kernel_rfl) (by kernel_rfl) ?_
            repeat (go_big_quiet_step ((fail)))
            refine wpQuiet_nil ?_
            rintro w1 ⟨⟨_, x1⟩, rfl⟩
            go_wp2
            go_ret
            exact ⟨ret_bool (eqB_false (ne_of_at hlt hlt2 H0.out)).symm, hx.trans x1⟩
      · go_wp2
        go_ret
        exact ⟨ret_bool (eqB_true (eq_of_take hlt HL.out HE.out)).symm, hx⟩
  · have hl' : ((xs.length : Int) != (ys.length : Int)) = true := by simp; omega
    go_enter Tryz.func69, Tryz.ntmps69
    go_wp2
    go_ret
    exact ⟨ret_bool (eqB_false fun e => hl (by rw [e])).symm, Ext.refl _⟩
end Go.Proofs.YtfcbapaojoecgaaGreat

namespace Go.Proofs.YtfcbapaojoecgaaGreat
open Go.RowKit

theorem elemVer : ElemT Tryz.prog 32 74 verdictO.n 32 := by
  obtain ⟨i, h1, h2, h3, h4⟩ := info_parts infoVer
  exact ⟨Tryz.underlying32, i, _, h1, h2, h3, h4, rfl⟩
theorem one_ver (a b : Int) (c : Bool) (d : Int) : ∀ u ∈ (#[Value.int .i64 a, .int .i64 b, .bool c, .int .i64 d] : Array Value).toList, u.oneCell' = true := by simp [Value.oneCell']

/-- the last element of a list that grows: its cells; a store of a whole verdict there -/
theorem Bld.ver_last {w : World} {base : Nat} {e : TypeId} {A : Option Addr} {n cap : Nat} {xs : List Verdict} {l : Verdict} (h : Bld verdictO w base e (.slice A n cap) (xs ++ [l]) []) :
    n = xs.length + 1 ∧ ∃ g, A = some ⟨g, 0, none⟩ ∧ base ≤ g ∧ g < w.heap.size ∧ (w.cell? ⟨g, xs.length * 4, none⟩ = some (.int .i64 l.a) ∧ w.cell? ⟨g, xs.length * 4 + 1, none⟩ = some (.int .i64 l.b) ∧ w.cell? ⟨g, xs.length * 4 + 2, none⟩ = some (.bool l.same) ∧ w.cell? ⟨g, xs.length * 4 + 3, none⟩ = some (.int .i64 l.time)) ∧
      (∀ i, w.frozen? ⟨g, i, none⟩ = false) ∧ ∀ y : Verdict, y.ok → Bld verdictO ((((w.setCell ⟨g, xs.length * 4, none⟩ (.int .i64 y.a)).setCell ⟨g, xs.length * 4 + 1, none⟩ (.int .i64 y.b)).setCell ⟨g, xs.length * 4 + 2, none⟩ (.bool y.same)).setCell ⟨g, xs.length * 4 + 3, none⟩ (.int .i64 y.time)) base e (.slice A n cap) (xs ++ [y]) [] := by
  have hlt := h.lt
  obtain ⟨cs, h1, h2, _, _, _⟩ := h
  have hlen : (xs ++ [l]).length = xs.length + 1 := by simp
  rcases h1.2 with ⟨e0, hn⟩ | ⟨g, cap', cur, e0, hb, hh, hr⟩
  · rw [hlen] at hn; omega
  · injection e0 with e1 e2 e3
    subst e1; subst e3
    rw [hlen] at e2
    subst e2
    refine ⟨rfl, g, rfl, hb, block_lt hh, ?_⟩
    rw [hlen] at h1
    obtain ⟨c0, c, c1, F0, F1, F2, rfl, hF, l0, _, k0, k1, k2⟩ := h2.split xs.length (by rw [hlen]; omega)
    have hF0 : F0 = [] := (List.append_eq_nil_iff.1 hF.symm).1
    have hF2 : F2 = [] := (List.append_eq_nil_iff.1 (List.append_eq_nil_iff.1 hF.symm).2).2
    subst hF0; subst hF2
    rw [List.getElem_append_right (by omega)] at k1
    simp only [Nat.sub_self, List.getElem_singleton] at k1
    obtain ⟨⟨rfl, hok⟩, rfl⟩ := k1
    rw [show (xs ++ [l]).drop (xs.length + 1) = [] by simp] at k2
    obtain ⟨rfl, _⟩ := k2
    rw [List.append_nil] at h1
    rw [show (xs ++ [l]).take xs.length = xs by simp] at k0
    have hn : verdictO.n = 4 := rfl
    rw [hn] at l0 h1
    have hat := fun j (hj : j < 4) => h1.cellAt (xs.length * 4 + j) (by omega)
    have hget : ∀ j, (c0 ++ l.cells)[xs.length * 4 + j]? = l.cells[j]? := fun j => by rw [List.getElem?_append_right (by omega), l0]; congr 1; omega
    refine ⟨⟨by simpa [hget, Verdict.cells] using (hat 0 (by omega)).trans (hget 0), by simpa [Verdict.cells] using (hat 1 (by omega)).trans (hget 1), by simpa [Verdict.cells] using (hat 2 (by omega)).trans (hget 2), by simpa [Verdict.cells] using (hat 3 (by omega)).trans (hget 3)⟩, h1.frozenAt, fun y hy => ?_⟩
    have s0 := h1.stored (xs.length * 4) (.int .i64 y.a)
    have s1 := s0.1.stored (xs.length * 4 + 1) (.int .i64 y.b)
    have s2 := s1.1.stored (xs.length * 4 + 2) (.bool y.same)
    have s3 := s2.1.stored (xs.length * 4 + 3) (.int .i64 y.time)
    have hset : ((((c0 ++ l.cells).set (xs.length * 4) (.int .i64 y.a)).set (xs.length * 4 + 1) (.int .i64 y.b)).set (xs.length * 4 + 2) (.bool y.same)).set (xs.length * 4 + 3) (.int .i64 y.time) = c0 ++ y.cells := by
      rw [← l0]
      simp [Verdict.cells]
    rw [hset] at s3
    refine ⟨c0 ++ y.cells, by rw [List.length_append]; exact s3.1, ?_, fun _ _ hm => (by cases hm), List.nodup_nil, fun _ hm => by cases hm⟩
    have := OwnCells.snoc (k0.keep (w2 := ((((w.setCell ⟨g, xs.length * 4, none⟩ (.int .i64 y.a)).setCell ⟨g, xs.length * 4 + 1, none⟩ (.int .i64 y.b)).setCell ⟨g, xs.length * 4 + 2, none⟩ (.bool y.same)).setCell ⟨g, xs.length * 4 + 3, none⟩ (.int .i64 y.time))) fun b hb => by cases hb) (k := (⟨⟨rfl, hy⟩, rfl⟩ : verdictO.own _ y.cells y []))
    simpa using this

def curStep (out : List Verdict) (v : Verdict) : List Verdict :=
  match out.getLast? with
  | none => out ++ [v]
  | some l => if l.a = v.a ∧ l.b = v.b then (if l.time < v.time then out.dropLast ++ [v] else out) else out ++ [v]
def curV (xs : List Verdict) : List Verdict := if areVers xs then xs.foldl curStep [] else []
theorem curStep_nil (v : Verdict) : curStep [] v = [v] := rfl
theorem curStep_new {xs : List Verdict} {l v : Verdict} (h : ¬ (l.a = v.a ∧ l.b = v.b)) : curStep (xs ++ [l]) v = (xs ++ [l]) ++ [v] := by unfold curStep; simp [h]
theorem curStep_set {xs : List Verdict} {l v : Verdict} (h : l.a = v.a) (h1 : l.b = v.b) (h2 : l.time < v.time) : curStep (xs ++ [l]) v = xs ++ [v] := by unfold curStep; simp [h, h1, h2]
theorem curStep_old {xs : List Verdict} {l v : Verdict} (h : l.a = v.a) (h1 : l.b = v.b) (h2 : ¬ l.time < v.time) : curStep (xs ++ [l]) v = xs ++ [l] := by unfold curStep; simp [h, h1, h2]
theorem cur_step (xs : List Verdict) (k : Nat) (h : k < xs.length) : (xs.take (k + 1)).foldl curStep [] = curStep ((xs.take k).foldl curStep []) xs[k] := by
  rw [List.take_succ_eq_append_getElem h, List.foldl_append]; rfl
theorem curStep_len (out : List Verdict) (v : Verdict) : (curStep out v).length ≤ out.length + 1 := by
  rcases List.eq_nil_or_concat out with rfl | ⟨xs, l, rfl⟩
  · simp [curStep_nil]
  · rw [List.concat_eq_append]
    by_cases h : l.a = v.a ∧ l.b = v.b
    · by_cases h2 : l.time < v.time
      · rw [curStep_set h.1 h.2 h2]; simp
      · rw [curStep_old h.1 h.2 h2]; simp
    · rw [curStep_new h]; simp
theorem cur_len (xs : List Verdict) (k : Nat) (h : k ≤ xs.length) : ((xs.take k).foldl curStep []).length ≤ k := by
  induction k with
  | zero => simp
  | succ k ih =>
    rw [cur_step xs k (by omega)]
    have := curStep_len ((xs.take k).foldl curStep []) xs[k]
    have := ih (by omega)
    omega
theorem vers_len {xs : List Verdict} (h : areVers xs = true) : xs.length ≤ 8 := by
  unfold areVers at h; rw [Bool.and_eq_true] at h; exact of_decide_eq_true h.2
end Go.Proofs.YtfcbapaojoecgaaGreat

namespace Go.Proofs.YtfcbapaojoecgaaGreat
open Go.RowKit

def rAt (xs : List Record) (k : Nat) : Record := xs.getD k ⟨0, 0, 0, []⟩
theorem rAt_at {xs : List Record} {k : Nat} (h : k < xs.length) : rAt xs k = xs[k] := by simp [rAt, List.getD, h]
def recOk (xs : List Record) (k : Nat) : Bool := okRec (rAt xs k) && (k == 0 || decide (recID (rAt xs (k - 1)) < recID (rAt xs k)))
def recsOK (xs : List Record) : Bool := (List.range xs.length).all (recOk xs)
def okSto (s : Store) : Bool := recsOK s.records && inB s.version 0 999 && decide (s.records.length ≤ 8) && areVers s.verdicts
theorem recs_no {xs : List Record} {k : Nat} (hk : k < xs.length) (h : recOk xs k = false) : recsOK xs = false :=
  List.all_eq_false.2 ⟨k, List.mem_range.2 hk, by simp [h]⟩
theorem recs_yes {xs : List Record} (h : ∀ j, j < xs.length → recOk xs j = true) : recsOK xs = true :=
  List.all_eq_true.2 fun j hj => h j (List.mem_range.1 hj)
theorem recOk_eq {xs : List Record} {k : Nat} (h : k < xs.length) : recOk xs k = (okRec xs[k] && (k == 0 || decide (recID (rAt xs (k - 1)) < recID xs[k]))) := by
  unfold recOk; rw [rAt_at h]
theorem okSto_no {s : Store} (h : recsOK s.records = false) : okSto s = false := by unfold okSto; rw [h]; rfl

set_option maxHeartbeats 2000000 in
set_option maxRecDepth 20000 in
theorem impl_IsValidStore (v : Value) (s : Store) (w : World) (h : StoAt w v s) :
    Calls Tryz.prog 27 #[v] w fun e w2 => e = .returned (.bool (okSto s)) ∧ Ext w w2 := by
  obtain ⟨r, d, rfl, hI, hr, hd⟩ := h
  obtain ⟨A, cap, rfl, hm⟩ := hr.form
  have HB := hid (show ∀ W, Ext (w.alloc (.cells #[.int .i64 s.version, .slice A s.records.length cap, d] 34)) W → W.cell? ⟨w.heap.size, 0, none⟩ = some (.int .i64 s.version) ∧ W.cell? ⟨w.heap.size, 1, none⟩ = some (.slice A s.records.length cap) ∧ W.cell? ⟨w.heap.size, 2, none⟩ = some d from fun W z => ⟨z.box.1 0, z.box.1 1, z.box.1 2⟩)
  have xB : Ext w (w.alloc (.cells #[.int .i64 s.version, .slice A s.records.length cap, d] 34)) := (Ext.refl _).alloc _
  go_enter Tryz.func27, Tryz.ntmps27
  go_wp2
  go_loopw [8] (fun i wr => ∃ k : Nat, k ≤ s.records.length ∧ i = .int .i64 k ∧ (∀ q, q < k → recOk s.records q = true) ∧ Ext (w.alloc (.cells #[.int .i64 s.version, .slice A s.records.length cap, d] 34)) wr) (fun i _ => s.records.length - (intOf i).toNat)
  case atStart => exact ⟨0, Nat.zero_le _, rfl, fun q hq => absurd hq (Nat.not_lt_zero _), Ext.refl _⟩
  case round =>
    obtain ⟨k, hk, rfl, hz, hx0⟩ := hrel
    have HZ := hid hz
    clear hz
    obtain ⟨cb0, cb1, cb2⟩ := HB.out _ hx0
    have hx : Ext w wr := xB.trans hx0
    have HX0 := hid hx0
    clear hx0 xB
    by_cases hlt : k < s.records.length
    · obtain ⟨b, off, A2, cap2, rfl, hok, hsl, hc0, hc1, hc2, hc3⟩ := (hr.mono hx).record hlt
      have HA := hid (recOk_eq hlt)
      have hs1 : ∀ z : ExtOf (wr.alloc (.cells #[.int .i64 s.records[k].source, .int .i64 s.records[k].key, .int .i64 s.records[k].version, .slice A2 s.records[k].fields.length cap2] 72)), z.1.cell? ⟨w.heap.size, 1, none⟩ = _ := fun z => (((Ext.refl _).alloc _).trans z.2).cell cb1
      have hzb : ∀ z : ExtOf (wr.alloc (.cells #[.int .i64 s.records[k].source, .int .i64 s.records[k].key, .int .i64 s.records[k].version, .slice A2 s.records[k].fields.length cap2] 72)), z.1.cell? ⟨wr.heap.size, 0, none⟩ = some (.int .i64 s.records[k].source) ∧ z.1.cell? ⟨wr.heap.size, 1, none⟩ = some (.int .i64 s.records[k].key) ∧ z.1.cell? ⟨wr.heap.size, 2, none⟩ = some (.int .i64 s.records[k].version) ∧ z.1.cell? ⟨wr.heap.size, 3, none⟩ = some (.slice A2 s.records[k].fields.length cap2) := fun z => ⟨z.2.box.1 0, z.2.box.1 1, z.2.box.1 2, z.2.box.1 3⟩
      have HR := hid (show ∀ z : ExtOf (wr.alloc (.cells #[.int .i64 s.records[k].source, .int .i64 s.records[k].key, .int .i64 s.records[k].version, .slice A2 s.records[k].fields.length cap2] 72)), RecAt z.1 (.agg #[.int .i64 s.records[k].source, .int .i64 s.records[k].key, .int .i64 s.records[k].version, .slice A2 s.records[k].fields.length cap2]) s.records[k] from fun z => ⟨_, rfl, hok, hsl.mono (((Ext.refl _).alloc _).trans z.2)⟩)
      clear hok hsl
      cases hin : okRec s.records[k] with
      | false =>
        go_wp2_with fail
        refine wp_region_ext (by kernel_rfl) (by kernel_rfl) ?_
        repeat (go_big_quiet_step ((first | (go_at_call 70; exact quiet_ext (Calls.mono (impl_IsValidRecord _ s.records[k] _ (HR.out _)) fun _ _ h9 => ⟨h9.1.trans (ret_bool hin), h9.2⟩)))))
        refine wpQuiet_nil ?_
        rintro w4 ⟨⟨_, x4⟩, rfl⟩
        go_wp2
        go_ret
        exact ⟨ret_bool (okSto_no (recs_no hlt (by rw [HA.out, hin]; rfl))).symm, (by repeat (first | with_reducible exact Ext.refl _ | with_reducible assumption | with_reducible refine Ext.drew ?_ | with_reducible refine Ext.alloc ?_ _ | with_reducible refine Ext.trans ?_ (by with_reducible assumption)))⟩
      | true =>
        have HI := hid hin
        by_cases hj0 : 0 < k
        · have hlt1 : k - 1 < s.records.length := by omega
          obtain ⟨b3, off3, A3, cap3, e3, hok3, hsl3, hd0, hd1, hd2, hd3⟩ := (hr.mono hx).record hlt1
          cases e3
          have hsub : ((k - 1 : Nat) : Int) = (k : Int) - 1 := by omega
          have hy0 : ∀ z : ExtOf (wr.alloc (.cells #[.int .i64 s.records[k].source, .int .i64 s.records[k].key, .int .i64 s.records[k].version, .slice A2 s.records[k].fields.length cap2] 72)), z.1.cell? ⟨b, off + (k - 1) * 4, none⟩ = _ := fun z => (((Ext.refl _).alloc _).trans z.2).cell hd0
          have hy1 : ∀ z : ExtOf (wr.alloc (.cells #[.int .i64 s.records[k].source, .int .i64 s.records[k].key, .int .i64 s.records[k].version, .slice A2 s.records[k].fields.length cap2] 72)), z.1.cell? ⟨b, off + (k - 1) * 4 + 1, none⟩ = _ := fun z => (((Ext.refl _).alloc _).trans z.2).cell hd1
          have hy2 : ∀ z : ExtOf (wr.alloc (.cells #[.int .i64 s.records[k].source, .int .i64 s.records[k].key, .int .i64 s.records[k].version, .slice A2 s.records[k].fields.length cap2] 72)), z.1.cell? ⟨b, off + (k - 1) * 4 + 2, none⟩ = _ := fun z => (((Ext.refl _).alloc _).trans z.2).cell hd2
          have hy3 : ∀ z : ExtOf (wr.alloc (.cells #[.int .i64 s.records[k].source, .int .i64 s.records[k].key, .int .i64 s.records[k].version, .slice A2 s.records[k].fields.length cap2] 72)), z.1.cell? ⟨b, off + (k - 1) * 4 + 3, none⟩ = _ := fun z => (((Ext.refl _).alloc _).trans z.2).cell hd3
          have HR3 := hid (show ∀ z : ExtOf (wr.alloc (.cells #[.int .i64 s.records[k].source, .int .i64 s.records[k].key, .int .i64 s.records[k].version, .slice A2 s.records[k].fields.length cap2] 72)), RecAt z.1 (.agg #[.int .i64 s.records[k - 1].source, .int .i64 s.records[k - 1].key, .int .i64 s.records[k - 1].version, .slice A3 s.records[k - 1].fields.length cap3]) s.records[k - 1] from fun z => ⟨_, rfl, hok3, hsl3.mono (((Ext.refl _).alloc _).trans z.2)⟩)
          clear hok3 hsl3
          have HGD := hid (rAt_at hlt1)
          by_cases hge : recID s.records[k] ≤ recID s.records[k - 1]
          · have HGE := hid (show decide (recID s.records[k - 1] < recID s.records[k]) = false by simpa using hge)
            go_wp2_with fail
            refine wp_region_ext (by kernel_rfl) (by kernel_rfl) ?_
            repeat (go_big_quiet_step ((first | (go_at_call 70; exact quiet_ext (Calls.mono (impl_IsValidRecord _ s.records[k] _ (HR.out _)) fun _ _ h9 => ⟨h9.1.trans (ret_bool hin), h9.2⟩)) | (go_at_call 71; exact quiet_ext (impl_RecordID _ s.records[k] _ (HR.out _))) | (go_at_call 71; exact quiet_ext (impl_RecordID _ s.records[k - 1] _ (HR3.out _))))))
            refine wpQuiet_nil ?_
            rintro w4 ⟨⟨_, x4⟩, rfl⟩
            go_wp2
            go_ret
            exact ⟨ret_bool (okSto_no (recs_no hlt (by rw [HA.out, HGD.out, HGE.out, show (k == 0) = false by simp; omega]; simp))).symm, (by repeat (first | with_reducible exact Ext.refl _ | with_reducible assumption | with_reducible refine Ext.drew ?_ | with_reducible refine Ext.alloc ?_ _ | with_reducible refine Ext.trans ?_ (by with_reducible assumption)))⟩
          · have hlt9 : recID s.records[k - 1] < recID s.records[k] := by omega
            have HGE := hid (show decide (recID s.records[k - 1] < recID s.records[k]) = true by simpa using hlt9)
            clear hge
            go_wp2_with fail
            refine wp_region_ext (by kernel_rfl) (by kernel_rfl) ?_
            repeat (go_big_quiet_step ((first | (go_at_call 70; exact quiet_ext (Calls.mono (impl_IsValidRecord _ s.records[k] _ (HR.out _)) fun _ _ h9 => ⟨h9.1.trans (ret_bool hin), h9.2⟩)) | (go_at_call 71; exact quiet_ext (impl_RecordID _ s.records[k] _ (HR.out _))) | (go_at_call 71; exact quiet_ext (impl_RecordID _ s.records[k - 1] _ (HR3.out _))))))
            refine wpQuiet_nil ?_
            rintro w4 ⟨⟨_, x4⟩, rfl⟩
            go_wp2
            go_roundw
            case rel => exact ⟨k + 1, by omega, by go_num, lt_succ_allV HZ.out (by rw [HA.out, HI.out, HGD.out, HGE.out, Bool.or_true]; rfl), HX0.out.trans (by repeat (first | with_reducible exact Ext.refl _ | with_reducible assumption | with_reducible refine Ext.drew ?_ | with_reducible refine Ext.alloc ?_ _ | with_reducible refine Ext.trans ?_ (by with_reducible assumption)))⟩
            case measure => simp [intOf]; omega
        · have hjd1 : decide (0 < k) = false := by simpa using hj0
          have hjd2 : decide ((0 : Int) < (k : Int)) = false := by simp; omega
          have HJ0 := hid (show (k == 0) = true by simp; omega)
          clear hj0
          go_wp2_with fail
          refine wp_region_ext (by kernel_rfl) (by kernel_rfl) ?_
          repeat (go_big_quiet_step ((first | (go_at_call 70; exact quiet_ext (Calls.mono (impl_IsValidRecord _ s.records[k] _ (HR.out _)) fun _ _ h9 => ⟨h9.1.trans (ret_bool hin), h9.2⟩)))))
          refine wpQuiet_nil ?_
          rintro w4 ⟨⟨_, x4⟩, rfl⟩
          go_wp2
          go_roundw
          case rel => exact ⟨k + 1, by omega, by go_num, lt_succ_allV HZ.out (by rw [HA.out, HI.out, HJ0.out]; rfl), HX0.out.trans (by repeat (first | with_reducible exact Ext.refl _ | with_reducible assumption | with_reducible refine Ext.drew ?_ | with_reducible refine Ext.alloc ?_ _ | with_reducible refine Ext.trans ?_ (by with_reducible assumption)))⟩
          case measure => simp [intOf]; omega
    · have HY := hid (recs_yes fun j hj => HZ.out j (by omega))
      have hdw := hd.mono hx
      cases hin : inB s.version 0 999 with
      | false =>
        go_wp2_with (go_at_call 72; refine (impl_within _ _ _ _).mono ?_; rintro e w2 ⟨rfl, rfl⟩; rw [hin])
        go_ret
        exact ⟨ret_bool (by unfold okSto; rw [hin]; simp), hx⟩
      | true =>
        by_cases h8 : s.records.length ≤ 8
        · have H8 := hid h8
          go_wp2_with (first | (go_at_call 72; refine (impl_within _ _ _ _).mono ?_; rintro e w2 ⟨rfl, rfl⟩; rw [hin]) | (go_at_call 73; refine (impl_AreVerdicts _ s.verdicts _ hdw).mono ?_; rintro e w2 ⟨rfl, x2⟩))
          go_ret
          exact ⟨ret_bool (by unfold okSto; rw [HY.out, hin, decide_eq_true H8.out]; simp), hx.trans x2⟩
        · have H8 := hid h8
          have h9 : 8 < s.records.length := by omega
          clear h8
          go_wp2_with (go_at_call 72; refine (impl_within _ _ _ _).mono ?_; rintro e w2 ⟨rfl, rfl⟩; rw [hin])
          go_ret
          exact ⟨ret_bool (by unfold okSto; rw [decide_eq_false H8.out]; simp), hx⟩

set_option maxHeartbeats 2000000 in
set_option maxRecDepth 20000 in
theorem spec_IsValidStore (v : Value) (s : Store) (w : World) (h : StoAt w v s) :
    Calls Tryz.prog 35 #[v] w fun e w2 => e = .returned (.bool (okSto s)) ∧ Ext w w2 := by
  obtain ⟨r, d, rfl, hI, hr, hd⟩ := h
  obtain ⟨A, cap, rfl, hm⟩ := hr.form
  have HB := hid (show ∀ W, Ext (w.alloc (.cells #[.int .i64 s.version, .slice A s.records.length cap, d] 34)) W → W.cell? ⟨w.heap.size, 0, none⟩ = some (.int .i64 s.version) ∧ W.cell? ⟨w.heap.size, 1, none⟩ = some (.slice A s.records.length cap) ∧ W.cell? ⟨w.heap.size, 2, none⟩ = some d from fun W z => ⟨z.box.1 0, z.box.1 1, z.box.1 2⟩)
  have xB : Ext w (w.alloc (.cells #[.int .i64 s.version, .slice A s.records.length cap, d] 34)) := (Ext.refl _).alloc _
  go_enter Tryz.func35, Tryz.ntmps35
  go_wp2
  go_loopw [3] (fun i wr => ∃ k : Nat, k ≤ s.records.length ∧ i = .int .i64 k ∧ (∀ q, q < k → recOk s.records q = true) ∧ Ext (w.alloc (.cells #[.int .i64 s.version, .slice A s.records.length cap, d] 34)) wr) (fun i _ => s.records.length - (intOf i).toNat)
  case atStart => exact ⟨0, Nat.zero_le _, rfl, fun q hq => absurd hq (Nat.not_lt_zero _), Ext.refl _⟩
  case round =>
    obtain ⟨k, hk, rfl, hz, hx0⟩ := hrel
    have HZ := hid hz
    clear hz
    obtain ⟨cb0, cb1, cb2⟩ := HB.out _ hx0
    have hx : Ext w wr := xB.trans hx0
    have HX0 := hid hx0
    clear hx0 xB
    by_cases hlt : k < s.records.length
    · obtain ⟨b, off, A2, cap2, rfl, hok, hsl, hc0, hc1, hc2, hc3⟩ := (hr.mono hx).record hlt
      have HA := hid (recOk_eq hlt)
      have hs1 : ∀ z : ExtOf wr, z.1.cell? ⟨w.heap.size, 1, none⟩ = _ := fun z => z.2.cell cb1
      have hz0 : ∀ z : ExtOf wr, z.1.cell? ⟨b, off + k * 4, none⟩ = _ := fun z => z.2.cell hc0
      have hz1 : ∀ z : ExtOf wr, z.1.cell? ⟨b, off + k * 4 + 1, none⟩ = _ := fun z => z.2.cell hc1
      have hz2 : ∀ z : ExtOf wr, z.1.cell? ⟨b, off + k * 4 + 2, none⟩ = _ := fun z => z.2.cell hc2
      have hz3 : ∀ z : ExtOf wr, z.1.cell? ⟨b, off + k * 4 + 3, none⟩ = _ := fun z => z.2.cell hc3
      have HR := hid (show ∀ z : ExtOf wr, RecAt z.1 (.agg #[.int .i64 s.records[k].source, .int .i64 s.records[k].key, .int .i64 s.records[k].version, .slice A2 s.records[k].fields.length cap2]) s.records[k] from fun z => ⟨_, rfl, hok, hsl.mono z.2⟩)
      clear hok hsl
      cases hin : okRec s.records[k] with
      | false =>
        go_wp2_with fail
        refine wp_region_ext (by kernel_rfl) (by kernel_rfl) ?_
        repeat (go_big_quiet_step ((first | (go_at_call 83; exact quiet_ext (Calls.mono (spec_IsValidRecord _ s.records[k] _ (HR.out _)) fun _ _ h9 => ⟨h9.1.trans (ret_bool hin), h9.2⟩)))))
        refine wpQuiet_nil ?_
        rintro w4 ⟨⟨_, x4⟩, rfl⟩
        go_wp2
        go_ret
        exact ⟨ret_bool (okSto_no (recs_no hlt (by rw [HA.out, hin]; rfl))).symm, (by repeat (first | with_reducible exact Ext.refl _ | with_reducible assumption | with_reducible refine Ext.drew ?_ | with_reducible refine Ext.alloc ?_ _ | with_reducible refine Ext.trans ?_ (by with_reducible assumption)))⟩
      | true =>
        have HI := hid hin
        by_cases hj0 : 0 < k
        · have hlt1 : k - 1 < s.records.length := by omega
          obtain ⟨b3, off3, A3, cap3, e3, hok3, hsl3, hd0, hd1, hd2, hd3⟩ := (hr.mono hx).record hlt1
          cases e3
          have hsub : ((k - 1 : Nat) : Int) = (k : Int) - 1 := by omega
          have hy0 : ∀ z : ExtOf wr, z.1.cell? ⟨b, off + (k - 1) * 4, none⟩ = _ := fun z => z.2.cell hd0
          have hy1 : ∀ z : ExtOf wr, z.1.cell? ⟨b, off + (k - 1) * 4 + 1, none⟩ = _ := fun z => z.2.cell hd1
          have hy2 : ∀ z : ExtOf wr, z.1.cell? ⟨b, off + (k - 1) * 4 + 2, none⟩ = _ := fun z => z.2.cell hd2
          have hy3 : ∀ z : ExtOf wr, z.1.cell? ⟨b, off + (k - 1) * 4 + 3, none⟩ = _ := fun z => z.2.cell hd3
          have HR3 := hid (show ∀ z : ExtOf wr, RecAt z.1 (.agg #[.int .i64 s.records[k - 1].source, .int .i64 s.records[k - 1].key, .int .i64 s.records[k - 1].version, .slice A3 s.records[k - 1].fields.length cap3]) s.records[k - 1] from fun z => ⟨_, rfl, hok3, hsl3.mono z.2⟩)
          clear hok3 hsl3
          have HGD := hid (rAt_at hlt1)
          by_cases hge : recID s.records[k] ≤ recID s.records[k - 1]
          · have HGE := hid (show decide (recID s.records[k - 1] < recID s.records[k]) = false by simpa using hge)
            go_wp2_with fail
            refine wp_region_ext (by kernel_rfl) (by kernel_rfl) ?_
            repeat (go_big_quiet_step ((first | (go_at_call 83; exact quiet_ext (Calls.mono (spec_IsValidRecord _ s.records[k] _ (HR.out _)) fun _ _ h9 => ⟨h9.1.trans (ret_bool hin), h9.2⟩)) | (go_at_call 41; exact quiet_ext (spec_RecordID _ s.records[k] _ (HR.out _))) | (go_at_call 41; exact quiet_ext (spec_RecordID _ s.records[k - 1] _ (HR3.out _))))))
            refine wpQuiet_nil ?_
            rintro w4 ⟨⟨_, x4⟩, rfl⟩
            go_wp2
            go_ret
            exact ⟨ret_bool (okSto_no (recs_no hlt (by rw [HA.out, HGD.out, HGE.out, show (k == 0) = false by simp; omega]; simp))).symm, (by repeat (first | with_reducible exact Ext.refl _ | with_reducible assumption | with_reducible refine Ext.drew ?_ | with_reducible refine Ext.alloc ?_ _ | with_reducible refine Ext.trans ?_ (by with_reducible assumption)))⟩
          · have hlt9 : recID s.records[k - 1] < recID s.records[k] := by omega
            have HGE := hid (show decide (recID s.records[k - 1] < recID s.records[k]) = true by simpa using hlt9)
            clear hge
            go_wp2_with fail
            refine wp_region_ext (by kernel_rfl) (by kernel_rfl) ?_
            repeat (go_big_quiet_step ((first | (go_at_call 83; exact quiet_ext (Calls.mono (spec_IsValidRecord _ s.records[k] _ (HR.out _)) fun _ _ h9 => ⟨h9.1.trans (ret_bool hin), h9.2⟩)) | (go_at_call 41; exact quiet_ext (spec_RecordID _ s.records[k] _ (HR.out _))) | (go_at_call 41; exact quiet_ext (spec_RecordID _ s.records[k - 1] _ (HR3.out _))))))
            refine wpQuiet_nil ?_
            rintro w4 ⟨⟨_, x4⟩, rfl⟩
            go_wp2
            go_roundw
            case rel => exact ⟨k + 1, by omega, by go_num, lt_succ_allV HZ.out (by rw [HA.out, HI.out, HGD.out, HGE.out, Bool.or_true]; rfl), HX0.out.trans (by repeat (first | with_reducible exact Ext.refl _ | with_reducible assumption | with_reducible refine Ext.drew ?_ | with_reducible refine Ext.alloc ?_ _ | with_reducible refine Ext.trans ?_ (by with_reducible assumption)))⟩
            case measure => simp [intOf]; omega
        · have hjd1 : decide (0 < k) = false := by simpa using hj0
          have hjd2 : decide ((0 : Int) < (k : Int)) = false := by simp; omega
          have HJ0 := hid (show (k == 0) = true by simp; omega)
          clear hj0
          go_wp2_with fail
          refine wp_region_ext (by kernel_rfl) (by kernel_rfl) ?_
          repeat (go_big_quiet_step ((first | (go_at_call 83; exact quiet_ext (Calls.mono (spec_IsValidRecord _ s.records[k] _ (HR.out _)) fun _ _ h9 => ⟨h9.1.trans (ret_bool hin), h9.2⟩)))))
          refine wpQuiet_nil ?_
          rintro w4 ⟨⟨_, x4⟩, rfl⟩
          go_wp2
          go_roundw
          case rel => exact ⟨k + 1, by omega, by go_num, lt_succ_allV HZ.out (by rw [HA.out, HI.out, HJ0.out]; rfl), HX0.out.trans (by repeat (first | with_reducible exact Ext.refl _ | with_reducible assumption | with_reducible refine Ext.drew ?_ | with_reducible refine Ext.alloc ?_ _ | with_reducible refine Ext.trans ?_ (by with_reducible assumption)))⟩
          case measure => simp [intOf]; omega
    · have HY := hid (recs_yes fun j hj => HZ.out j (by omega))
      have hdw := hd.mono hx
      cases hin : inB s.version 0 999 with
      | false =>
        go_wp2_with (go_at_call 84; refine (spec_l1In _ _ _ _).mono ?_; rintro e w2 ⟨rfl, rfl⟩; rw [hin])
        go_ret
        exact ⟨ret_bool (by unfold okSto; rw [hin]; simp), hx⟩
      | true =>
        by_cases h8 : s.records.length ≤ 8
        · have H8 := hid h8
          go_wp2_with (first | (go_at_call 84; refine (spec_l1In _ _ _ _).mono ?_; rintro e w2 ⟨rfl, rfl⟩; rw [hin]) | (go_at_call 85; refine (spec_AreVerdicts _ s.verdicts _ hdw).mono ?_; rintro e w2 ⟨rfl, x2⟩))
          go_ret
          exact ⟨ret_bool (by unfold okSto; rw [HY.out, hin, decide_eq_true H8.out]; simp), hx.trans x2⟩
        · have H8 := hid h8
          have h9 : 8 < s.records.length := by omega
          clear h8
          go_wp2_with (go_at_call 84; refine (spec_l1In _ _ _ _).mono ?_; rintro e w2 ⟨rfl, rfl⟩; rw [hin])
          go_ret
          exact ⟨ret_bool (by unfold okSto; rw [decide_eq_false H8.out]; simp), hx⟩


end Go.Proofs.YtfcbapaojoecgaaGreat

namespace Go.Proofs.YtfcbapaojoecgaaGreat
open Go.RowKit

noncomputable def idxV (xs : List Verdict) (x : Verdict) : Int := idxF (fun y => eqB y x) 0 xs

set_option maxHeartbeats 400000 in
set_option maxRecDepth 20000 in
theorem spec_l28At (v : Value) (xs : List Verdict) (x : Verdict) (w : World) (h : Sl verdictR w v xs) :
    Calls Tryz.prog 38 #[v, .agg #[.int .i64 x.a, .int .i64 x.b, .bool x.same, .int .i64 x.time]] w fun e w2 => e = .returned (.int .i64 (idxV xs x)) ∧ Ext w w2 := by
  obtain ⟨A, cap, rfl, hm⟩ := h.form
  have xB : Ext w (w.alloc (.cells #[.int .i64 x.a, .int .i64 x.b, .bool x.same, .int .i64 x.time] 74)) := (Ext.refl _).alloc _
  have HB := hid (show ∀ W, Ext (w.alloc (.cells #[.int .i64 x.a, .int .i64 x.b, .bool x.same, .int .i64 x.time] 74)) W → W.cell? ⟨w.heap.size, 0, none⟩ = some (.int .i64 x.a) ∧ W.cell? ⟨w.heap.size, 1, none⟩ = some (.int .i64 x.b) ∧ W.cell? ⟨w.heap.size, 2, none⟩ = some (.bool x.same) ∧ W.cell? ⟨w.heap.size, 3, none⟩ = some (.int .i64 x.time) from fun W z => ⟨z.box.1 0, z.box.1 1, z.box.1 2, z.box.1 3⟩)
  go_enter Tryz.func38, Tryz.ntmps38
  go_wp2
  go_loopw [5] (fun i wr => ∃ k : Nat, k ≤ xs.length ∧ i = .int .i64 k ∧ (∀ y ∈ xs.take k, eqB y x = false) ∧ Ext (w.alloc (.cells #[.int .i64 x.a, .int .i64 x.b, .bool x.same, .int .i64 x.time] 74)) wr) (fun i _ => xs.length - (intOf i).toNat)
  case atStart => exact ⟨0, Nat.zero_le _, rfl, by simp, Ext.refl _⟩
  case round =>
    obtain ⟨k, hk, rfl, hz, hx⟩ := hrel
    have HZ := hid hz
    clear hz
    have xw : Ext w wr := xB.trans hx
    by_cases hlt : k < xs.length
    · obtain ⟨b, off, rfl, hok, hc0, hc1, hc2, hc3⟩ := (h.mono xw).verdict hlt
      clear hok
      obtain ⟨d0, d1, d2, d3⟩ := HB.out _ hx
      have y0 : ∀ z : ExtOf wr, z.1.cell? ⟨b, off + k * 4, none⟩ = _ := fun z => z.2.cell hc0
      have y1 : ∀ z : ExtOf wr, z.1.cell? ⟨b, off + k * 4 + 1, none⟩ = _ := fun z => z.2.cell hc1
      have y2 : ∀ z : ExtOf wr, z.1.cell? ⟨b, off + k * 4 + 2, none⟩ = _ := fun z => z.2.cell hc2
      have y3 : ∀ z : ExtOf wr, z.1.cell? ⟨b, off + k * 4 + 3, none⟩ = _ := fun z => z.2.cell hc3
      have z0 : ∀ z : ExtOf wr, z.1.cell? ⟨w.heap.size, 0, none⟩ = _ := fun z => z.2.cell d0
      have z1 : ∀ z : ExtOf wr, z.1.cell? ⟨w.heap.size, 1, none⟩ = _ := fun z => z.2.cell d1
      have z2 : ∀ z : ExtOf wr, z.1.cell? ⟨w.heap.size, 2, none⟩ = _ := fun z => z.2.cell d2
      have z3 : ∀ z : ExtOf wr, z.1.cell? ⟨w.heap.size, 3, none⟩ = _ := fun z => z.2.cell d3
      rcases ver_cases xs[k] x with ⟨he, e1, e2, e3, e4⟩ | ⟨hne, hw⟩
      · have H0 := hid he
        clear he
        go_wp2_with fail
        refine wp_region_ext (by kernel_rfl) (by kernel_rfl) ?_
        repeat (go_big_quiet_step ((fail)))
        refine wpQuiet_nil ?_
        rintro w1 ⟨⟨_, x1⟩, rfl⟩
        go_wp2
        go_ret
        exact ⟨ret_int (idxF_at (fun y => eqB y x) xs k hlt HZ.out (eqB_true H0.out)).symm, xw.trans x1⟩
      · have H0 := hid hne
        clear hne
        rcases hw with e1 | ⟨e1, e2⟩ | ⟨e1, e2, e3⟩ | ⟨e1, e2, e3, e4⟩
        all_goals
          go_wp2_with fail
          refine wp_region_ext (by kernel_rfl) (by kernel_rfl) ?_
          repeat (go_big_quiet_step ((fail)))
          refine wpQuiet_nil ?_
          rintro w1 ⟨⟨_, x1⟩, rfl⟩
          go_wp2
          go_roundw
        all_goals try (case rel => exact ⟨k + 1, by omega, by go_num, take_snoc_all (fun y => eqB y x = false) xs k hlt HZ.out (eqB_false H0.out), hx.trans x1⟩)
        all_goals (simp [intOf]; omega)
    · go_wp2
      go_ret
      exact ⟨ret_int (idxF_all (fun y => eqB y x) xs k hlt HZ.out).symm, xw⟩

end Go.Proofs.YtfcbapaojoecgaaGreat

namespace Go.Proofs.YtfcbapaojoecgaaGreat
open Go.RowKit

theorem Ext.box_1 {w W : World} {a : Value} {T : TypeId} (h : Ext (w.alloc (.cells #[a] T)) W) : W.cell? ⟨w.heap.size, 0, none⟩ = some a := h.box.1 0
def findR (s : Store) (id : Int) : Int := idxF (fun r => recID r == id) 0 s.records

set_option maxHeartbeats 400000 in
theorem IndexFunc_rec (v : Value) (xs : List Record) (p : Record → Bool) (fn : FuncId) (cp : Array Value) (w : World) (h : Sl recordR w v xs)
    (hfn : ∀ (args : Array Value) (W : World), Sem.run Tryz.prog (callFunc fn args) W = .ok (.enter fn args) W)
    (hf : ∀ wz a x, Ext w wz → RecAt wz a x → Calls Tryz.prog fn (#[a] ++ cp) wz fun e w2 => e = .returned (.bool (p x)) ∧ Ext wz w2) :
    Calls Tryz.prog 77 #[v, .func (.func fn) #[] cp] w fun e w2 => e = .returned (.int .i64 (idxF p 0 xs)) ∧ Ext w w2 := by
  obtain ⟨A, cap, rfl, hm⟩ := h.form
  go_enter Tryz.func77, Tryz.ntmps77
  go_wp2
  go_loopw [8] (fun i wr => ∃ k : Nat, k ≤ xs.length ∧ i = .int .i64 k ∧ (∀ x ∈ xs.take k, p x = false) ∧ Ext w wr) (fun i _ => xs.length - (intOf i).toNat)
  case atStart => exact ⟨0, Nat.zero_le _, rfl, by simp, Ext.refl _⟩
  case round =>
    obtain ⟨k, hk, rfl, hz, hx⟩ := hrel
    have HZ := hid hz
    clear hz
    by_cases hlt : k < xs.length
    · obtain ⟨b, off, A2, cap2, rfl, hok, hsl, hc0, hc1, hc2, hc3⟩ := (h.mono hx).record hlt
      go_wp2_with fail
      refine (hf wr _ xs[k] hx ⟨_, rfl, hok, hsl⟩).mono ?_
      rintro e w2 ⟨rfl, x2⟩
      by_cases hp : p xs[k] = true
      · rw [hp]
        go_wp2
        go_ret
        exact ⟨ret_int (idxF_at p xs k hlt HZ.out hp).symm, hx.trans x2⟩
      · have hp' : p xs[k] = false := by simpa using hp
        have HP := hid hp'
        rw [hp']
        clear hp hp'
        go_wp2
        go_roundw
        case rel => exact ⟨k + 1, by omega, by go_num, take_snoc_all _ xs k hlt HZ.out HP.out, hx.trans x2⟩
        case measure => simp [intOf]; omega
    · go_wp2
      go_ret
      exact ⟨ret_int (idxF_all p xs k hlt HZ.out).symm, hx⟩

set_option maxHeartbeats 400000 in
theorem impl_FindRecord_1 (a : Value) (r : Record) (x : Int) (g : Nat) (w : World) (h : RecAt w a r) (hc : w.cell? ⟨g, 0, none⟩ = some (.int .i64 x)) :
    Calls Tryz.prog 78 #[a, .pointer (some ⟨g, 0, none⟩)] w fun e w2 => e = .returned (.bool (recID r == x)) ∧ Ext w w2 := by
  obtain ⟨m, rfl, hok, hs⟩ := h
  have hz : ∀ z : ExtOf (w.alloc (.cells #[.int .i64 r.source, .int .i64 r.key, .int .i64 r.version, m] 72)), z.1.cell? ⟨g, 0, none⟩ = some (.int .i64 x) ∧ (z.1.cell? ⟨w.heap.size, 0, none⟩ = some (.int .i64 r.source) ∧ z.1.cell? ⟨w.heap.size, 1, none⟩ = some (.int .i64 r.key) ∧ z.1.cell? ⟨w.heap.size, 2, none⟩ = some (.int .i64 r.version) ∧ z.1.cell? ⟨w.heap.size, 3, none⟩ = some m) :=
    fun z => ⟨(((Ext.refl _).alloc _).trans z.2).cell hc, z.2.box.1 0, z.2.box.1 1, z.2.box.1 2, z.2.box.1 3⟩
  have hr : ∀ z : ExtOf (w.alloc (.cells #[.int .i64 r.source, .int .i64 r.key, .int .i64 r.version, m] 72)), RecAt z.1 (.agg #[.int .i64 r.source, .int .i64 r.key, .int .i64 r.version, m]) r := fun z => ⟨m, rfl, hok, hs.mono (((Ext.refl _).alloc _).trans z.2)⟩
  have HR := hid hr
  clear hr
  go_enter Tryz.func78, Tryz.ntmps78
  go_wp2_with fail
  refine wp_region_ext (by kernel_rfl) (by kernel_rfl) ?_
  repeat (go_big_quiet_step ((first | (go_at_call 71; exact quiet_ext (impl_RecordID _ r _ (HR.out _))))))
  refine wpQuiet_nil ?_
  rintro w4 ⟨⟨_, x4⟩, rfl⟩
  go_wp2
  go_ret
  exact ⟨rfl, (by repeat (first | with_reducible exact Ext.refl _ | with_reducible assumption | with_reducible refine Ext.drew ?_ | with_reducible refine Ext.alloc ?_ _ | with_reducible refine Ext.trans ?_ (by with_reducible assumption)))⟩

set_option maxHeartbeats 400000 in
theorem impl_FindRecord (v : Value) (s : Store) (x : Int) (w : World) (h : StoAt w v s) (_hx : I64 x) :
    Calls Tryz.prog 30 #[v, .int .i64 x] w fun e w2 => e = .returned (.int .i64 (findR s x)) ∧ Ext w w2 := by
  obtain ⟨r, d, rfl, hI, hr, hd⟩ := h
  go_enter Tryz.func30, Tryz.ntmps30
  go_wp2_with fail
  refine (IndexFunc_rec _ s.records (fun r => recID r == x) 78 #[.pointer (some ⟨w.heap.size + 1, 0, none⟩)] _ (hr.mono (by repeat (first | with_reducible exact Ext.refl _ | with_reducible assumption | with_reducible refine Ext.drew ?_ | with_reducible refine Ext.alloc ?_ _ | (refine Ext.setCell ?_ (by simp) _) | with_reducible refine Ext.trans ?_ (by with_reducible assumption)))) (fun _ _ => by kernel_rfl) (fun wz a y hx ha => impl_FindRecord_1 a y x _ wz ha (hx.box1.1 0))).mono ?_
  rintro e w2 ⟨rfl, x2⟩
  go_wp2
  go_ret
  exact ⟨rfl, (by repeat (first | with_reducible exact Ext.refl _ | with_reducible assumption | with_reducible refine Ext.drew ?_ | with_reducible refine Ext.alloc ?_ _ | (refine Ext.setCell ?_ (by simp) _) | with_reducible refine Ext.trans ?_ (by with_reducible assumption)))⟩

set_option maxHeartbeats 400000 in
theorem spec_FindRecord (v : Value) (s : Store) (x : Int) (w : World) (h : StoAt w v s) (_hx : I64 x) :
    Calls Tryz.prog 40 #[v, .int .i64 x] w fun e w2 => e = .returned (.int .i64 (findR s x)) ∧ Ext w w2 := by
  obtain ⟨r, d, rfl, hI, hr, hd⟩ := h
  obtain ⟨A, cap, rfl, hm⟩ := hr.form
  go_enter Tryz.func40, Tryz.ntmps40
  go_wp2
  go_loopw [5] (fun i wr => ∃ k : Nat, k ≤ s.records.length ∧ i = .int .i64 k ∧ (∀ y ∈ s.records.take k, (recID y == x) = false) ∧ Ext (w.alloc (.cells #[.int .i64 s.version, .slice A s.records.length cap, d] 34)) wr) (fun i _ => s.records.length - (intOf i).toNat)
  case atStart => exact ⟨0, Nat.zero_le _, rfl, by simp, Ext.refl _⟩
  case round =>
    obtain ⟨k, hk, rfl, hz, hx⟩ := hrel
    have HZ := hid hz
    clear hz
    have cb := hx.box.1 1
    by_cases hlt : k < s.records.length
    · obtain ⟨b, off, A2, cap2, rfl, hok, hsl, hc0, hc1, hc2, hc3⟩ := (hr.mono (((Ext.refl _).alloc _).trans hx)).record hlt
      go_wp2_with fail
      refine (spec_RecordID _ s.records[k] _ ⟨_, rfl, hok, hsl⟩).mono ?_
      rintro e w2 ⟨rfl, x2⟩
      by_cases h0 : recID s.records[k] = x
      · have h1 : (recID s.records[k] == x) = true := by simp [h0]
        have H0 := hid h0
        clear h0
        go_wp2
        go_ret
        exact ⟨ret_int (idxF_at (fun y : Record => recID y == x) s.records k hlt HZ.out (by simp [H0.out])).symm, (by repeat (first | with_reducible exact Ext.refl _ | with_reducible assumption | with_reducible refine Ext.drew ?_ | with_reducible refine Ext.alloc ?_ _ | with_reducible refine Ext.trans ?_ (by with_reducible assumption)))⟩
      · have h1 : (recID s.records[k] == x) = false := by rw [beq_eq_false_iff_ne]; exact h0
        have H0 := hid h0
        clear h0
        go_wp2
        go_roundw
        case rel => exact ⟨k + 1, by omega, by go_num, take_snoc_all (fun y : Record => (recID y == x) = false) s.records k hlt HZ.out (by simp [H0.out]), hx.trans x2⟩
        case measure => simp [intOf]; omega
    · go_wp2
      go_ret
      exact ⟨ret_int (idxF_all (fun y : Record => recID y == x) s.records k hlt HZ.out).symm, (by repeat (first | with_reducible exact Ext.refl _ | with_reducible assumption | with_reducible refine Ext.drew ?_ | with_reducible refine Ext.alloc ?_ _ | with_reducible refine Ext.trans ?_ (by with_reducible assumption)))⟩
end Go.Proofs.YtfcbapaojoecgaaGreat

namespace Go.Proofs.YtfcbapaojoecgaaGreat
open Go.RowKit

def recMk : Mk Record := ⟨fun r => 3 + r.fields.length, fun k x y => y.source = k ∧ y.key = k + 1 ∧ y.version = k + 1 + 1 ∧ y.fields.length = x.fields.length ∧ MkS (k + 1 + 1 + 1) y.fields⟩

set_option maxHeartbeats 1000000 in
set_option maxRecDepth 20000 in
theorem markRecordS_t (v : Value) (xs : List Record) (F : List Nat) (k : Int) (w : World) (h : OwnSl recordO w v xs F) (hN : F.Nodup) (h0 : 0 ≤ k) (hb : k + (lstMk recMk).cnt xs ≤ 1152921504606846976) :
    Calls Tryz.prog 59 #[v, .int .i64 k] w fun e w2 => ∃ ys, e = .returned (.int .i64 (k + ((lstMk recMk).cnt xs : Nat))) ∧ OwnSl recordO w2 v ys F ∧ (lstMk recMk).is k xs ys ∧ Chg F w w2 := by
  have hcn : (lstMk recMk).cnt xs = recMk.sum xs := rfl
  rw [hcn] at hb ⊢
  clear hcn
  obtain ⟨A, cap, rfl, hm⟩ := h.form
  go_enter Tryz.func59, Tryz.ntmps59
  go_wp2
  go_loopw [1, 5] (fun l i wr => ∃ (j : Nat) (ys : List Record), j ≤ xs.length ∧ i = .int .i64 j ∧ l = .int .i64 (k + (recMk.sum (xs.take j) : Nat)) ∧ OwnSl recordO wr (.slice A xs.length cap) ys F ∧ Part recMk k xs ys j ∧ Chg F w wr) (fun _ i _ => xs.length - (intOf i).toNat)
  case atStart => exact ⟨0, xs, Nat.zero_le _, rfl, by simp [Mk.sum], h, .zero _ _ _, .refl _ _⟩
  case round =>
    obtain ⟨j, ys, hj, rfl, rfl, ho, hp, hc⟩ := hrel
    by_cases hlt : j < xs.length
    · obtain ⟨hjy, hyx⟩ := hp.at_ hlt
      have hst := recMk.sum_step xs j hlt
      have hsa := recMk.sum_at xs j hlt
      have hcx : recMk.cnt xs[j] = 3 + xs[j].fields.length := rfl
      have hfl : ys[j].fields.length = xs[j].fields.length := by rw [hyx]
      obtain ⟨K, hK⟩ : ∃ K : Int, K = k + (recMk.sum (xs.take j) : Nat) := ⟨_, rfl⟩
      have HNX := hid (show K + 1 + 1 + 1 + (ys[j].fields.length : Int) = k + (recMk.sum (xs.take (j + 1)) : Nat) by omega)
      have hK0 : 0 ≤ K := by omega
      have hK1 : K + 3 + (ys[j].fields.length : Int) ≤ 1152921504606846976 := by omega
      rw [← hK]
      have HK := hid hK
      have HFL := hid hfl
      clear hst hsa hcx hK hyx hfl
      obtain ⟨g, off, cap2, m, F3, e, hg, hfr, ⟨c0, c1, c2, c3⟩, hsub, hN3, hm3, hin⟩ := rec_three (K := K) ho hN hjy hK0 (by omega)
      injection e with e1 e2 e3
      subst e1
      clear e2 e3
      obtain ⟨W3, hW3⟩ : ∃ W3, W3 = ((wr.setCell ⟨g, off + j * 4, none⟩ (.int .i64 K)).setCell ⟨g, off + j * 4 + 1, none⟩ (.int .i64 (K + 1))).setCell ⟨g, off + j * 4 + 2, none⟩ (.int .i64 (K + 1 + 1)) := ⟨_, rfl⟩
      rw [← hW3] at hm3 hin
      have hc3 : Chg F w W3 := by rw [hW3]; exact ((hc.setCell hg _).setCell hg _).setCell hg _
      have hlt3 : ∀ b ∈ F, b < W3.heap.size := fun b hb => by rw [hW3]; simp only [World.size_setCell]; exact ho.lt b hb
      obtain ⟨A3, cap3, e3, _⟩ := hm3.form
      subst e3
      have HIN := hid hin
      have HW := hid hW3
      have HP := hid hp
      clear hin hW3 hp
      go_wp2_with fail
      rw [← HW.out]
      refine (markStringS_t _ ys[j].fields F3 _ _ hm3 hN3 (by omega) (by omega)).mono ?_
      rintro e w2 ⟨zs, rfl, hz, hzl, hmk, hzc⟩
      have HO4 := hid (HIN.out w2 zs (fun b hb hn => hzc.block b (hlt3 b hb) hn) hz)
      have HC4 := hid (hc3.trans (hzc.mono hsub))
      have HPS := hid (HP.out.step hlt (y := ⟨K, K + 1, K + 1 + 1, zs⟩) (by rw [← HK.out]; exact ⟨rfl, rfl, rfl, hzl.trans HFL.out, hmk⟩))
      clear hmk hzl hz hzc
      go_wp2
      go_roundw
      case rel => exact ⟨j + 1, _, by omega, by go_num, by rw [← HNX.out], HO4.out, HPS.out, HC4.out⟩
      case measure => simp [intOf]; omega
    · go_wp2
      go_ret
      exact ⟨ys, ret_int (by rw [Mk.sum_all _ _ _ hlt]), ho, hp.all hlt, hc⟩

set_option maxHeartbeats 1000000 in
set_option maxRecDepth 20000 in
theorem heldRecordS_t (v : Value) (xs ys : List Record) (k : Int) (w : World) (h : Sl recordR w v ys) (hi : (lstMk recMk).is k xs ys) (h0 : 0 ≤ k) (hb : k + (lstMk recMk).cnt xs ≤ 1152921504606846976) :
    Calls Tryz.prog 62 #[v, .int .i64 k] w fun e w2 => e = .returned (.int .i64 (k + ((lstMk recMk).cnt xs : Nat))) ∧ Ext w w2 := by
  have hcn : (lstMk recMk).cnt xs = recMk.sum xs := rfl
  rw [hcn] at hb ⊢
  clear hcn
  have HL := hid hi.1
  obtain ⟨A, cap, rfl, hm⟩ := h.form
  go_enter Tryz.func62, Tryz.ntmps62
  go_wp2
  go_loopw [1, 5] (fun l i wr => ∃ j : Nat, j ≤ ys.length ∧ i = .int .i64 j ∧ l = .int .i64 (k + (recMk.sum (xs.take j) : Nat)) ∧ Ext w wr) (fun _ i _ => ys.length - (intOf i).toNat)
  case atStart => exact ⟨0, Nat.zero_le _, rfl, by simp [Mk.sum], Ext.refl _⟩
  case round =>
    obtain ⟨j, hj, rfl, rfl, hx⟩ := hrel
    by_cases hlt : j < ys.length
    · obtain ⟨g, off, A2, cap2, rfl, hok, hsl, hc0, hc1, hc2, hc3⟩ := h.record hlt
      have hlx : j < xs.length := by have := HL.out; omega
      have hst := recMk.sum_step xs j hlx
      have hsa := recMk.sum_at xs j hlx
      have hi9 := hi.2 j hlx hlt
      obtain ⟨o, hxo⟩ : ∃ o, o = xs[j] := ⟨_, rfl⟩
      rw [← hxo] at hst hsa hi9
      have hcx : recMk.cnt o = 3 + o.fields.length := rfl
      obtain ⟨y, hyo⟩ : ∃ y, y = ys[j] := ⟨_, rfl⟩
      rw [← hyo] at hi9 hsl hc0 hc1 hc2 hc3
      obtain ⟨B, hB⟩ : ∃ B : Int, B = k + (recMk.sum (xs.take j) : Nat) := ⟨_, rfl⟩
      rw [← hB] at hi9 ⊢
      obtain ⟨v0, v1, v2, v4, v4b⟩ := hi9
      have hB0 : 0 ≤ B := by omega
      have hB1 : B + 3 + (o.fields.length : Int) ≤ 1152921504606846976 := by omega
      have HNX := hid (show B + 1 + 1 + 1 + (o.fields.length : Int) = k + (recMk.sum (xs.take (j + 1)) : Nat) by omega)
      rw [v0] at hc0
      rw [v1] at hc1
      rw [v2] at hc2
      rw [v4] at hc3
      replace hc0 := hx.cell hc0
      replace hc1 := hx.cell hc1
      replace hc2 := hx.cell hc2
      replace hc3 := hx.cell hc3
      have HF := hid (And.intro v4 v4b)
      have HSL := hid (hsl.mono hx)
      clear hst hsa hcx hB hxo hyo v0 v1 v2 v4 v4b hsl hok
      go_wp2_with fail
      refine (heldStringS_c _ y.fields _ _ (by have h9 := HSL.out; rw [HF.out.1] at h9; exact h9) HF.out.2 (by omega) (by have := HF.out.1; omega)).mono ?_
      rintro e w2 ⟨rfl, x2⟩
      rw [HF.out.1]
      clear hc0 hc1 hc2 hc3
      have hnn : 0 ≤ B + 1 + 1 + 1 + (o.fields.length : Int) := by omega
      go_wp2
      go_roundw
      case rel => exact ⟨j + 1, by omega, by go_num, by rw [← HNX.out], hx.trans x2⟩
      case measure => simp [intOf]; omega
    · go_wp2
      go_ret
      exact ⟨ret_int (by rw [Mk.sum_all _ _ _ (by have := HL.out; omega)]), hx⟩
end Go.Proofs.YtfcbapaojoecgaaGreat

namespace Go.Proofs.YtfcbapaojoecgaaGreat
open Go.RowKit

theorem vflat_get : ∀ (ys : List Verdict) (j : Nat), (ys.flatMap Verdict.cells)[j]? = (ys[j / 4]?).bind fun y => y.cells[j % 4]?
  | [], j => by simp
  | y :: ys, j => by
    have hl : y.cells.length = 4 := rfl
    rw [List.flatMap_cons]
    by_cases h : j < 4
    · rw [List.getElem?_append_left (by omega), show j / 4 = 0 by omega, show j % 4 = j by omega]; rfl
    · rw [List.getElem?_append_right (by omega), hl, vflat_get ys (j - 4), show j / 4 = (j - 4) / 4 + 1 by omega, show j % 4 = (j - 4) % 4 by omega]; rfl
theorem vflat_len (ys : List Verdict) : (ys.flatMap Verdict.cells).length = ys.length * 4 := by
  induction ys with
  | nil => rfl
  | cons y ys ih => rw [List.flatMap_cons, List.length_append, ih, show y.cells.length = 4 from rfl, List.length_cons]; omega
theorem vers_own (ys : List Verdict) (h : ∀ y ∈ ys, y.ok) (W : World) : OwnCells verdictO W (ys.flatMap Verdict.cells) ys [] := by
  induction ys with
  | nil => exact .nil
  | cons y ys ih => exact ⟨y.cells, _, [], [], rfl, rfl, ⟨⟨rfl, h y (List.mem_cons_self ..)⟩, rfl⟩, ih fun z hz => h z (List.mem_cons_of_mem _ hz)⟩
theorem Sl.vers_some {w : World} {ad : Addr} {n cap : Nat} {ys : List Verdict} (h : Sl verdictR w (.slice (some ad) n cap) ys) : (∀ y ∈ ys, y.ok) ∧ ∀ j u, (ys.flatMap Verdict.cells)[j]? = some u → w.cell? (ad.add j) = some u := by
  refine ⟨fun y hy => ?_, fun j u hj => ?_⟩
  · obtain ⟨i, hi, rfl⟩ := List.getElem_of_mem hy
    obtain ⟨_, _, _, _, ⟨_, h1⟩, _⟩ := h.at_ hi
    exact h1
  · rw [vflat_get] at hj
    obtain ⟨y, hy, hc⟩ := Option.bind_eq_some_iff.1 hj
    obtain ⟨hi, rfl⟩ := List.getElem?_eq_some_iff.1 hy
    obtain ⟨b, off, cs, e, ⟨rfl, _⟩, h2⟩ := h.at_ hi
    injection e with e
    subst e
    have h3 := h2 (j % 4) (Nat.mod_lt _ (by decide))
    rw [add_eq, ← hc, ← h3]
    have h4 : verdictR.n = 4 := rfl
    rw [h4, show off + j / 4 * 4 + j % 4 = off + j by omega]
theorem vers_one (ys : List Verdict) : ∀ u ∈ ys.flatMap Verdict.cells, u.oneCell' = true := by
  intro u hu
  obtain ⟨y, _, hy⟩ := List.mem_flatMap.1 hu
  simp only [Verdict.cells, List.mem_cons, List.not_mem_nil, or_false] at hy
  rcases hy with rfl | rfl | rfl | rfl <;> rfl
/-- 'append(s, t...)': the verdicts of t, which may be the caller's -/
theorem wpList_appv {P : Program} {ops : Array Oper} {rest : List Oper} {o : Oper} {a : Act} {w : World} {Q : Exit → Act → World → Prop} {t e : TypeId} {bytes : Nat} (E : ElemT P t e verdictO.n bytes) (hby : bytes ≤ 128)
    (hgd : o.guard = none) (s x : Operand) (ho : o.op = .call { callee := .builtin .append, args := #[s, x], argTypes := #[t, t] })
    {base : Nat} {v : Value} {xs : List Verdict} (hb : Bld verdictO w base e v xs []) (hs : a.eval s = v) {A : Option Addr} {n k : Nat} (hx : a.eval x = .slice A n k) {ys : List Verdict} (hy : Sl verdictR w (.slice A n k) ys)
    (hbytes : xs.length + ys.length ≤ 1099511627776) (hbase : base ≤ w.heap.size)
    (h : ∀ v' w', Bld verdictO w' base e v' (xs ++ ys) [] → (∀ w0 : World, w0.heap.size ≤ base → Ext w0 w → Ext w0 w') → wpList P ops Q rest (a.put o.dst v') w') :
    wpList P ops Q (o :: rest) a w := by
  obtain ⟨ht, i, z, hi, hz, hsize, hby2, hzs⟩ := E
  have hn : n = ys.length := hy.cap_.1
  cases A with
  | none =>
    have h0 : ys = [] := by
      cases ys with
      | nil => rfl
      | cons y ys =>
        obtain ⟨_, _, _, e, _⟩ := hy.at_ (show 0 < (y :: ys).length by simp)
        cases e
    subst h0
    have hn0 : n = 0 := hn
    subst hn0
    obtain ⟨cs, b1, b2⟩ := hb
    refine wpList_plain hgd fun K hK => ?_
    have hr : (Builtin.append_ #[t, t] o.type #[v, .slice none 0 k]).run P w = .ok v w := by
      rcases b1.2 with ⟨rfl, _⟩ | ⟨g, cap, cur, rfl, _, _, hnc, _⟩
      · simp [Builtin.append_, run_underlying ht, sizeOf, typeInfo, hi, Builtin.lenOf, Builtin.firstCells]
      · simp [Builtin.append_, run_underlying ht, sizeOf, typeInfo, hi, Builtin.lenOf, Builtin.firstCells, hnc, storeCells]
    unfold Oper.wp execOp
    simp only [ho, resolve, invoke, builtin, Sem.run_bind, Sem.run_pure, Result.andThen_ok, List.map_toArray, List.map_cons, List.map_nil, hs, hx, hr]
    exact hK _ _ (h v w (by rw [List.append_nil]; exact ⟨cs, b1, b2⟩) fun _ _ hx => hx)
  | some ad =>
    obtain ⟨hI, hc⟩ := hy.vers_some
    have hl := hb.lt
    obtain ⟨cs, b1, b2, b3, b4, b5⟩ := hb
    have h4 : verdictO.n = 4 := rfl
    refine wpList_append_own_at w hgd s x t ho base e i z verdictO.n bytes ht hi hz hsize hby2 hzs (by decide) v xs.length cs hs b1 ad n k (ys.flatMap Verdict.cells) hx (by rw [vflat_len, hn, h4]) hc (vers_one ys) (by unfold maxLen; omega)
      (Nat.le_trans (Nat.mul_le_mul (show xs.length + n ≤ 1099511627776 by omega) hby) (by decide)) hbase ?_
    intro v' w' hown hgr _ hat
    refine h v' w' ⟨cs ++ ys.flatMap Verdict.cells, by rw [List.length_append, ← hn]; exact hown, ?_, fun _ _ hm => (by cases hm), List.nodup_nil, fun _ hm => by cases hm⟩ fun w0 h0 hx0 => hx0.grown hgr fun g hg => Nat.le_trans h0 (hl.2 g hg).2
    have := OwnCells.append (b2.keep (w2 := w') fun b hb => by cases hb) (vers_own ys hI w')
    simpa using this

set_option maxHeartbeats 400000 in
set_option maxRecDepth 20000 in
theorem spec_l28Copy (v : Value) (xs : List Verdict) (w : World) (h : Sl verdictR w v xs) (hl : xs.length ≤ 1048576) :
    Calls Tryz.prog 81 #[v] w fun e w2 => ∃ v2 F, e = .returned v2 ∧ OwnSl verdictO w2 v2 xs F ∧ NewF w F ∧ Ext w w2 := by
  obtain ⟨A, cap, rfl, hm⟩ := h.form
  go_enter Tryz.func81, Tryz.ntmps81
  go_wp2_with (at_builtin; refine wpList_appv elemVer (by decide) rfl _ _ rfl (Bld.lit w (Nat.le_refl _) _) rfl rfl (h.mono ((Ext.refl _).alloc _)) (by simp; omega) (by simp) ?_; intro v9 w9 hB9 hE9)
  go_ret
  obtain ⟨F', d1, d2, d3⟩ := hB9.done
  exact ⟨_, F', rfl, by simpa using d1, ⟨d2, d3⟩, hE9 w (Nat.le_refl _) ((Ext.refl _).alloc _)⟩
end Go.Proofs.YtfcbapaojoecgaaGreat

namespace Go.Proofs.YtfcbapaojoecgaaGreat
open Go.RowKit

def vlt (x y : Verdict) : Prop := x.a < y.a ∨ x.a = y.a ∧ (x.b < y.b ∨ x.b = y.b ∧ (x.time < y.time ∨ x.time = y.time ∧ x.same = false ∧ y.same = true))
theorem cmpI_cases (a b : Int) : (a < b ∧ cmpI a b = -1) ∨ (a = b ∧ cmpI a b = 0) ∨ (b < a ∧ cmpI a b = 1) := by
  unfold cmpI
  by_cases h : a < b
  · rw [if_pos h]; exact .inl ⟨h, rfl⟩
  · rw [if_neg h]
    by_cases k : b < a
    · rw [if_pos k]; exact .inr (.inr ⟨k, rfl⟩)
    · rw [if_neg k]; exact .inr (.inl ⟨by omega, rfl⟩)
theorem cmpV_cases (x y : Verdict) : (vlt x y ∧ cmpV x y = -1) ∨ (x = y ∧ cmpV x y = 0) ∨ (vlt y x ∧ cmpV x y = 1) := by
  unfold cmpV vlt
  have e : firstNZ [cmpI x.a y.a, cmpI x.b y.b, cmpI x.time y.time, cmpB x.same y.same] = if cmpI x.a y.a = 0 then if cmpI x.b y.b = 0 then if cmpI x.time y.time = 0 then cmpB x.same y.same else cmpI x.time y.time else cmpI x.b y.b else cmpI x.a y.a := by
    simp only [firstNZ]
    by_cases h1 : cmpI x.a y.a = 0 <;> by_cases h2 : cmpI x.b y.b = 0 <;> by_cases h3 : cmpI x.time y.time = 0 <;> by_cases h4 : cmpB x.same y.same = 0 <;> simp [h1, h2, h3, h4]
  rw [e]
  rcases cmpI_cases x.a y.a with ⟨h1, k1⟩ | ⟨h1, k1⟩ | ⟨h1, k1⟩
  · left; rw [k1]; exact ⟨.inl h1, rfl⟩
  · rw [k1, if_pos rfl]
    rcases cmpI_cases x.b y.b with ⟨h2, k2⟩ | ⟨h2, k2⟩ | ⟨h2, k2⟩
    · left; rw [k2]; exact ⟨.inr ⟨h1, .inl h2⟩, rfl⟩
    · rw [k2, if_pos rfl]
      rcases cmpI_cases x.time y.time with ⟨h3, k3⟩ | ⟨h3, k3⟩ | ⟨h3, k3⟩
      · left; rw [k3]; exact ⟨.inr ⟨h1, .inr ⟨h2, .inl h3⟩⟩, rfl⟩
      · rw [k3, if_pos rfl]
        obtain ⟨xa, xb, xs, xt⟩ := x
        obtain ⟨ya, yb, ys, yt⟩ := y
        simp only at h1 h2 h3 ⊢
        subst h1; subst h2; subst h3
        cases xs <;> cases ys <;> simp [cmpB]
      · right; right; rw [k3]; exact ⟨.inr ⟨h1.symm, .inr ⟨h2.symm, .inl h3⟩⟩, rfl⟩
    · right; right; rw [k2]; exact ⟨.inr ⟨h1.symm, .inl h2⟩, rfl⟩
  · right; right; rw [k1]; exact ⟨.inl h1, rfl⟩
theorem vlt_irr (x : Verdict) : ¬ vlt x x := by
  unfold vlt
  cases x.same <;> simp
theorem vlt_trans {x y z : Verdict} (h : vlt x y) (k : vlt y z) : vlt x z := by
  unfold vlt at *
  rcases h with h | ⟨h1, h | ⟨h2, h | ⟨h3, h4, h5⟩⟩⟩ <;> rcases k with k | ⟨k1, k | ⟨k2, k | ⟨k3, k4, k5⟩⟩⟩
  all_goals first
    | (left; omega)
    | (right; refine ⟨by omega, ?_⟩; left; omega)
    | (right; refine ⟨by omega, ?_⟩; right; refine ⟨by omega, ?_⟩; left; omega)
    | (rw [h5] at k4; cases k4)
theorem cmpV_lt {x y : Verdict} : cmpV x y < 0 ↔ vlt x y := by
  rcases cmpV_cases x y with ⟨h, k⟩ | ⟨h, k⟩ | ⟨h, k⟩
  · rw [k]; exact ⟨fun _ => h, fun _ => by decide⟩
  · rw [k, h]; exact ⟨fun e => by omega, fun e => absurd e (vlt_irr _)⟩
  · rw [k]; exact ⟨fun e => by omega, fun e => absurd (vlt_trans e h) (vlt_irr _)⟩
theorem cmpV_zero {x y : Verdict} : cmpV x y = 0 ↔ x = y := by
  rcases cmpV_cases x y with ⟨h, k⟩ | ⟨h, k⟩ | ⟨h, k⟩
  · rw [k]; exact ⟨fun e => by omega, fun e => absurd (e ▸ h) (vlt_irr _)⟩
  · exact ⟨fun _ => h, fun _ => k⟩
  · rw [k]; exact ⟨fun e => by omega, fun e => absurd (e ▸ h) (vlt_irr _)⟩
theorem vlt_tri (x y : Verdict) : vlt x y ∨ x = y ∨ vlt y x := by
  rcases cmpV_cases x y with ⟨h, k⟩ | ⟨h, k⟩ | ⟨h, k⟩
  · exact .inl h
  · exact .inr (.inl h)
  · exact .inr (.inr h)
/-- ascending -/
def Asc (xs : List Verdict) : Prop := ∀ i j (hi : i < xs.length) (hj : j < xs.length), i < j → vlt xs[i] xs[j]
theorem areVers_asc {xs : List Verdict} (h : areVers xs = true) : Asc xs ∧ (∀ x ∈ xs, okV x = true) ∧ xs.length ≤ 8 := by
  unfold areVers at h
  rw [Bool.and_eq_true, decide_eq_true_eq] at h
  have hv : ∀ k (hk : k < xs.length), (okV xs[k] && (k == 0 || decide (cmpV (vAt xs (k - 1)) xs[k] < 0))) = true := fun k hk => by
    rw [← verAt_eq hk]
    exact List.all_eq_true.1 h.1 k (List.mem_range.2 hk)
  refine ⟨?_, fun x hx => ?_, h.2⟩
  · have step : ∀ k (hk : k + 1 < xs.length), vlt xs[k] xs[k + 1] := fun k hk => by
      have h1 := hv (k + 1) hk
      rw [Bool.and_eq_true, Bool.or_eq_true, decide_eq_true_eq] at h1
      rcases h1.2 with h2 | h2
      · simp at h2
      · have e : vAt xs (k + 1 - 1) = xs[k] := vAt_at (by omega)
        rw [e] at h2
        exact cmpV_lt.1 h2
    intro i j hi hj hij
    induction j with
    | zero => omega
    | succ j ih =>
      by_cases e : i = j
      · subst e; exact step i hj
      · exact vlt_trans (ih (by omega) (by omega)) (step j hj)
  · obtain ⟨k, hk, rfl⟩ := List.getElem_of_mem hx
    have h1 := hv k hk
    rw [Bool.and_eq_true] at h1
    exact h1.1
theorem asc_areVers {xs : List Verdict} (h : Asc xs) (h2 : ∀ x ∈ xs, okV x = true) (h3 : xs.length ≤ 8) : areVers xs = true := by
  unfold areVers
  rw [Bool.and_eq_true, decide_eq_true_eq]
  refine ⟨List.all_eq_true.2 fun k hk => ?_, h3⟩
  have hk := List.mem_range.1 hk
  rw [verAt_eq hk, Bool.and_eq_true]
  refine ⟨h2 _ (List.getElem_mem hk), ?_⟩
  rw [Bool.or_eq_true, decide_eq_true_eq]
  cases k with
  | zero => left; rfl
  | succ k =>
    right
    have e : vAt xs (k + 1 - 1) = xs[k] := vAt_at (by omega)
    rw [e]
    exact cmpV_lt.2 (h k (k + 1) (by omega) hk (by omega))
/-- how many stand ahead of v -/
def cntV (xs : List Verdict) (v : Verdict) : Nat := (xs.takeWhile fun x => decide (cmpV x v < 0)).length
theorem cntV_le (xs : List Verdict) (v : Verdict) : cntV xs v ≤ xs.length := by
  unfold cntV
  exact (List.takeWhile_prefix _).length_le
theorem cntV_lt {xs : List Verdict} {v : Verdict} {k : Nat} (hk : k < cntV xs v) (h : k < xs.length) : cmpV xs[k] v < 0 := by
  have hp : xs.takeWhile (fun x => decide (cmpV x v < 0)) <+: xs := List.takeWhile_prefix _
  have e := hp.getElem (i := k) hk
  have hm : (xs.takeWhile fun x => decide (cmpV x v < 0))[k]'hk ∈ xs.takeWhile fun x => decide (cmpV x v < 0) := List.getElem_mem hk
  have hall := List.all_takeWhile (p := fun x => decide (cmpV x v < 0)) (l := xs)
  have := List.all_eq_true.1 hall _ hm
  rw [decide_eq_true_eq, e] at this
  exact this
theorem cntV_at : ∀ {xs : List Verdict} {v : Verdict} (h : cntV xs v < xs.length), ¬ cmpV xs[cntV xs v] v < 0
  | x :: xs, v, h => by
    unfold cntV at h ⊢
    by_cases hx : cmpV x v < 0
    · simp only [List.takeWhile_cons, hx, decide_true, if_true, List.length_cons, List.getElem_cons_succ] at h ⊢
      exact cntV_at (xs := xs) (v := v) (by unfold cntV; omega)
    · simp only [List.takeWhile_cons, hx, decide_false, Bool.false_eq_true, if_false, List.length_nil, List.getElem_cons_zero]
      first | exact hx | exact fun h => h
theorem asc_side {xs : List Verdict} (h : Asc xs) {v : Verdict} {k : Nat} (hk : k < xs.length) : cmpV xs[k] v < 0 ↔ k < cntV xs v := by
  refine ⟨fun hc => ?_, fun hc => cntV_lt hc hk⟩
  apply Classical.byContradiction
  intro hn
  have hlt : cntV xs v < xs.length := by omega
  have h1 := cntV_at hlt
  apply h1
  by_cases e : cntV xs v = k
  · have : xs[cntV xs v] = xs[k] := by congr
    rw [this]; exact hc
  · exact cmpV_lt.2 (vlt_trans (h _ _ hlt hk (by omega)) (cmpV_lt.1 hc))
theorem asc_found {xs : List Verdict} (h : Asc xs) {v : Verdict} : v ∈ xs ↔ ∃ hk : cntV xs v < xs.length, cmpV (xs[cntV xs v]) v = 0 := by
  refine ⟨fun hm => ?_, fun ⟨hk, e⟩ => ?_⟩
  · obtain ⟨k, hk, e⟩ := List.getElem_of_mem hm
    have h1 : ¬ k < cntV xs v := fun hc => by
      have := (asc_side h hk).2 hc
      rw [e] at this
      have := cmpV_zero (x := v) (y := v) |>.2 rfl
      omega
    have hlt : cntV xs v < xs.length := by omega
    refine ⟨hlt, ?_⟩
    by_cases e2 : cntV xs v = k
    · have : xs[cntV xs v] = xs[k] := by congr
      rw [this, e]; exact cmpV_zero.2 rfl
    · have h2 := h _ _ hlt hk (by omega)
      rw [e] at h2
      exact absurd (cmpV_lt.2 h2) (cntV_at hlt)
  · have hm := List.getElem_mem (l := xs) hk
    rwa [cmpV_zero.1 e] at hm
theorem asc_pw {xs : List Verdict} : Asc xs ↔ xs.Pairwise vlt := by
  rw [List.pairwise_iff_getElem]; exact Iff.rfl
/-- v at its place -/
def putV (xs : List Verdict) (v : Verdict) : List Verdict := xs.take (cntV xs v) ++ v :: xs.drop (cntV xs v)
end Go.Proofs.YtfcbapaojoecgaaGreat

namespace Go.Proofs.YtfcbapaojoecgaaGreat
open Go.RowKit

noncomputable def itemsOf (s : Store) : List Int := if okSto s = true then s.records.map recID else []
theorem recID_64 (r : Record) : I64 (recID r) := by unfold recID I64 wrap64; omega
theorem okSto_len {s : Store} (h : okSto s = true) : s.records.length ≤ 8 := by
  unfold okSto at h
  simp only [Bool.and_eq_true, decide_eq_true_eq] at h
  omega
theorem items_len (s : Store) : (itemsOf s).length ≤ 8 := by
  unfold itemsOf; split
  · rename_i h; rw [List.length_map]; exact okSto_len h
  · simp

set_option maxHeartbeats 400000 in
set_option maxRecDepth 20000 in
theorem impl_storeItems (v : Value) (s : Store) (w : World) (h : StoAt w v s) (hl : s.records.length ≤ 8) :
    Calls Tryz.prog 76 #[v] w fun e w2 => ∃ v2 F, e = .returned v2 ∧ OwnSl intO w2 v2 (s.records.map recID) F ∧ NewF w F ∧ Ext w w2 := by
  obtain ⟨r, d, rfl, hI, hr, hd⟩ := h
  obtain ⟨A, cap, rfl, hm⟩ := hr.form
  have xB : Ext w (w.alloc (.cells #[.int .i64 s.version, .slice A s.records.length cap, d] 34)) := (Ext.refl _).alloc _
  go_enter Tryz.func76, Tryz.ntmps76
  go_wp2
  go_loopw [3, 9] (fun t i wr => ∃ k : Nat, k ≤ s.records.length ∧ i = .int .i64 k ∧ Bld intO wr (w.heap.size + 1) 3 t ((s.records.take k).map recID) [] ∧ Ext (w.alloc (.cells #[.int .i64 s.version, .slice A s.records.length cap, d] 34)) wr) (fun _ i _ => s.records.length - (intOf i).toNat)
  case atStart => exact ⟨0, Nat.zero_le _, rfl, Bld.nil _ _ _, Ext.refl _⟩
  case round =>
    obtain ⟨k, hk, rfl, hB, hx⟩ := hrel
    have hsz := hx.size
    rw [World.size_alloc] at hsz
    by_cases hlt : k < s.records.length
    · obtain ⟨b, off, A2, cap2, rfl, hok, hsl, hc0, hc1, hc2, hc3⟩ := (hr.mono (xB.trans hx)).record hlt
      have hlen : ((s.records.take k).map recID).length ≤ 8 := by rw [List.length_map, List.length_take]; omega
      have hR : ∀ W, Ext wr W → RecAt W (.agg #[.int .i64 s.records[k].source, .int .i64 s.records[k].key, .int .i64 s.records[k].version, .slice A2 s.records[k].fields.length cap2]) s.records[k] := fun W z => ⟨_, rfl, hok, hsl.mono z⟩
      have HR := hid hR
      clear hR
      go_wp2_with fail
      refine (impl_RecordID _ s.records[k] _ (HR.out _ ((Ext.refl _).alloc _))).mono ?_
      rintro e w2 ⟨rfl, x2⟩
      have y2 : Ext wr w2 := ((Ext.refl _).alloc _).trans x2
      have hB2 := hB.ext y2
      have hs2 := y2.size
      go_wp2_with (at_builtin; refine wpList_app1 elemInt (by decide) rfl _ _ rfl hB2 rfl w2.heap.size 1 rfl rfl (one_int _) (own_int _ _ (recID_64 _)) fresh_nil (by omega) (by decide) (by omega) ?_; intro v9 w9 hB9 hE9)
      go_roundw
      case rel => exact ⟨k + 1, by omega, by go_num, by rw [List.take_succ_eq_append_getElem hlt, List.map_append]; exact hB9, hE9 _ (by simp) (hx.trans y2)⟩
      case measure => simp [intOf]; omega
    · rw [List.take_of_length_le (by omega)] at hB
      obtain ⟨F', d1, d2, d3⟩ := hB.done
      go_wp2
      go_ret
      exact ⟨_, F', rfl, d1, ⟨d2, fun b hb => by have := d3 b hb; omega⟩, xB.trans hx⟩

set_option maxHeartbeats 400000 in
set_option maxRecDepth 20000 in
theorem impl_StoreItems (v : Value) (s : Store) (w : World) (h : StoAt w v s) :
    Calls Tryz.prog 29 #[v] w fun e w2 => ∃ v2 F, e = .returned v2 ∧ OwnSl intO w2 v2 (itemsOf s) F ∧ NewF w F ∧ Ext w w2 := by
  obtain ⟨r, d, rfl, hI, hr, hd⟩ := h
  have xB : Ext w (w.alloc (.cells #[.int .i64 s.version, r, d] 34)) := (Ext.refl _).alloc _
  have HB := hid (show ∀ W, Ext (w.alloc (.cells #[.int .i64 s.version, r, d] 34)) W → W.cell? ⟨w.heap.size, 0, none⟩ = some (.int .i64 s.version) ∧ W.cell? ⟨w.heap.size, 1, none⟩ = some r ∧ W.cell? ⟨w.heap.size, 2, none⟩ = some d from fun W z => ⟨z.box.1 0, z.box.1 1, z.box.1 2⟩)
  go_enter Tryz.func29, Tryz.ntmps29
  go_wp2_with fail
  refine (impl_IsValidStore _ s _ ⟨_, _, rfl, hI, hr.mono xB, hd.mono xB⟩).mono ?_
  rintro e w2 ⟨rfl, x2⟩
  obtain ⟨b0, b1, b2⟩ := HB.out _ x2
  cases hok : okSto s with
  | false =>
    have hi := hid (show itemsOf s = [] by unfold itemsOf; rw [if_neg (by simp [hok])])
    go_wp2
    go_ret
    exact ⟨_, [], rfl, by rw [hi.out]; exact .inl ⟨rfl, rfl, none, 0, rfl, Nat.zero_le _⟩, .nil _, xB.trans x2⟩
  | true =>
    have hi := hid (show itemsOf s = s.records.map recID by unfold itemsOf; rw [if_pos hok])
    have hl8 := okSto_len hok
    go_wp2_with fail
    refine (impl_storeItems _ s _ ⟨_, _, rfl, hI, hr.mono (xB.trans x2), hd.mono (xB.trans x2)⟩ hl8).mono ?_
    rintro e w3 ⟨v3, F, rfl, ho, hn, x3⟩
    go_wp2
    go_ret
    exact ⟨_, F, rfl, by rw [hi.out]; exact ho, hn.ext (xB.trans x2), (xB.trans x2).trans x3⟩

end Go.Proofs.YtfcbapaojoecgaaGreat

namespace Go.Proofs.YtfcbapaojoecgaaGreat
open Go.RowKit

set_option maxHeartbeats 400000 in
set_option maxRecDepth 20000 in
theorem slices_Clone_v (v : Value) (xs : List Verdict) (w : World) (h : Sl verdictR w v xs) (hl : xs.length ≤ 1048576) :
    Calls Tryz.prog 96 #[v] w fun e w2 => ∃ v2 F, e = .returned v2 ∧ OwnSl verdictO w2 v2 xs F ∧ NewF w F ∧ Ext w w2 := by
  obtain ⟨A, cap, rfl, hm⟩ := h.form
  have q := fun (W : World) (a : Option Addr) (n c n' c' : Nat) => Lib.run_eql_slice_nil (P := Tryz.prog) W 32 74 a n c n' c' Tryz.underlying32
  cases A with
  | none =>
    have h0 : xs = [] := by
      cases xs with
      | nil => rfl
      | cons y ys =>
        obtain ⟨_, _, _, e, _⟩ := h.at_ (show 0 < (y :: ys).length by simp)
        cases e
    subst h0
    go_enter Tryz.func96, Tryz.ntmps96
    go_wp2
    go_ret
    exact ⟨_, [], rfl, .inl ⟨rfl, rfl, none, 0, rfl, Nat.zero_le _⟩, .nil _, Ext.refl _⟩
  | some ad =>
    go_enter Tryz.func96, Tryz.ntmps96
    go_wp2_with (at_builtin; refine wpList_appv elemVer (by decide) rfl _ _ rfl (Bld.lit w (Nat.le_refl _) _) rfl rfl (h.mono ((Ext.refl _).alloc _)) (by simp; omega) (by simp) ?_; intro v9 w9 hB9 hE9)
    go_ret
    obtain ⟨F', d1, d2, d3⟩ := hB9.done
    exact ⟨_, F', rfl, by simpa using d1, ⟨d2, d3⟩, hE9 w (Nat.le_refl _) ((Ext.refl _).alloc _)⟩
end Go.Proofs.YtfcbapaojoecgaaGreat

namespace Go.Proofs.YtfcbapaojoecgaaGreat
open Go.RowKit

def SortedV (xs : List Verdict) : Prop := xs.Pairwise fun x y => ¬ vlt y x
theorem sortedV_eq {xs ys : List Verdict} (h : SortedV xs) (k : SortedV ys) (p : xs.Perm ys) : xs = ys :=
  List.Perm.eq_of_pairwise (fun a b _ _ h1 h2 => by
    rcases vlt_tri a b with e | e | e
    · exact absurd e h2
    · exact e
    · exact absurd e h1) h k p
theorem asc_sorted {xs : List Verdict} (h : Asc xs) : SortedV xs := (asc_pw.1 h).imp fun h e => vlt_irr _ (vlt_trans h e)
theorem asc_nodup {xs : List Verdict} (h : Asc xs) : xs.Nodup := (asc_pw.1 h).imp fun h e => by subst e; exact vlt_irr _ h
theorem asc_ext {xs ys : List Verdict} (h : Asc xs) (k : Asc ys) (e : ∀ x, x ∈ xs ↔ x ∈ ys) : xs = ys :=
  sortedV_eq (asc_sorted h) (asc_sorted k) ((List.perm_ext_iff_of_nodup (asc_nodup h) (asc_nodup k)).2 e)
theorem sorted_nodup_asc {xs : List Verdict} (h : SortedV xs) (k : xs.Nodup) : Asc xs := by
  rw [asc_pw]
  refine (List.pairwise_and_iff.2 ⟨h, k⟩).imp ?_
  rintro a b ⟨h1, h2⟩
  · rcases vlt_tri a b with e | e | e
    · exact e
    · exact absurd e h2
    · exact absurd e h1

/-- how many stay ahead of v, looked for from the end -/
def cntS (xs : List Verdict) (v : Verdict) : Nat := xs.length - (xs.reverse.takeWhile fun x => decide (0 < cmpV x v)).length
def insS (xs : List Verdict) (v : Verdict) : List Verdict := xs.take (cntS xs v) ++ v :: xs.drop (cntS xs v)
def sortS (xs : List Verdict) : List Verdict := xs.foldl insS []
theorem cntS_le (xs : List Verdict) (v : Verdict) : cntS xs v ≤ xs.length := Nat.sub_le _ _
theorem insS_len (xs : List Verdict) (v : Verdict) : (insS xs v).length = xs.length + 1 := by
  have := cntS_le xs v
  unfold insS
  simp only [List.length_append, List.length_take, List.length_cons, List.length_drop]
  omega
theorem cmpV_gt {x y : Verdict} : 0 < cmpV x y ↔ vlt y x := by
  rcases cmpV_cases x y with ⟨h, k⟩ | ⟨h, k⟩ | ⟨h, k⟩
  · rw [k]; exact ⟨fun e => by omega, fun e => absurd (vlt_trans e h) (vlt_irr _)⟩
  · rw [k]; exact ⟨fun e => by omega, fun e => absurd (h ▸ e) (vlt_irr _)⟩
  · rw [k]; exact ⟨fun _ => h, fun _ => by decide⟩
theorem cntS_eq {xs : List Verdict} {v : Verdict} {k : Nat} (hk : k ≤ xs.length) (h1 : ∀ x ∈ xs.drop k, 0 < cmpV x v) (h2 : ∀ h : 0 < k, ¬ 0 < cmpV (xs[k - 1]'(by omega)) v) : cntS xs v = k := by
  unfold cntS
  have e : xs.reverse = (xs.drop k).reverse ++ (xs.take k).reverse := by rw [← List.reverse_append, List.take_append_drop]
  rw [e, List.takeWhile_append_of_pos (fun a ha => by rw [decide_eq_true_eq]; exact h1 a (List.mem_reverse.1 ha))]
  have e2 : (xs.take k).reverse.takeWhile (fun x => decide (0 < cmpV x v)) = [] := by
    cases k with
    | zero => rfl
    | succ k =>
      have h3 : ¬ 0 < cmpV (xs[k]'(by omega)) v := h2 (by omega)
      rw [List.take_succ_eq_append_getElem (by omega), List.reverse_append]
      simp [h3]
  rw [e2]
  simp only [List.append_nil, List.length_reverse, List.length_drop]
  omega
theorem insS_perm (xs : List Verdict) (v : Verdict) : (insS xs v).Perm (v :: xs) := by
  unfold insS
  have := @List.perm_middle _ v (xs.take (cntS xs v)) (xs.drop (cntS xs v))
  rwa [List.take_append_drop] at this
theorem insS_sorted {xs : List Verdict} {v : Verdict} (h : SortedV xs) : SortedV (insS xs v) := by
  have e0 := List.takeWhile_append_dropWhile (p := fun x => decide (0 < cmpV x v)) (l := xs.reverse)
  obtain ⟨tw, htw⟩ : ∃ t, t = xs.reverse.takeWhile (fun x => decide (0 < cmpV x v)) := ⟨_, rfl⟩
  obtain ⟨dw, hdw⟩ : ∃ t, t = xs.reverse.dropWhile (fun x => decide (0 < cmpV x v)) := ⟨_, rfl⟩
  rw [← htw, ← hdw] at e0
  have e1 : xs = dw.reverse ++ tw.reverse := by rw [← List.reverse_append, e0, List.reverse_reverse]
  have hc : cntS xs v = dw.reverse.length := by
    unfold cntS
    rw [← htw]
    have := congrArg List.length e1
    simp only [List.length_append, List.length_reverse] at this ⊢
    omega
  have hi : insS xs v = dw.reverse ++ v :: tw.reverse := by
    unfold insS
    rw [hc]
    conv => lhs; rw [e1]
    rw [List.take_left, List.drop_left]
  have hhi : ∀ x ∈ tw.reverse, vlt v x := fun x hx => by
    have hx := List.mem_reverse.1 hx
    rw [htw] at hx
    have := List.all_eq_true.1 (List.all_takeWhile (p := fun x => decide (0 < cmpV x v)) (l := xs.reverse)) x hx
    rw [decide_eq_true_eq] at this
    exact cmpV_gt.1 this
  rw [e1] at h
  have hp := List.pairwise_append.1 h
  have hlo : ∀ x ∈ dw.reverse, ¬ vlt v x := fun x hx => by
    cases hd : dw with
    | nil => rw [hd] at hx; cases hx
    | cons a l =>
      have ha : ¬ vlt v a := fun e => by
        have hne : xs.reverse.dropWhile (fun x => decide (0 < cmpV x v)) = a :: l := by rw [← hdw, hd]
        have := List.head_dropWhile_not (fun x => decide (0 < cmpV x v)) (l := xs.reverse) (by rw [hne]; simp)
        simp only [hne, List.head_cons] at this
        rw [decide_eq_false_iff_not] at this
        exact this (cmpV_gt.2 e)
      rw [hd, List.reverse_cons] at hx
      rcases List.mem_append.1 hx with hx | hx
      · have hq := hp.1
        rw [hd, List.reverse_cons] at hq
        have hxa : ¬ vlt a x := (List.pairwise_append.1 hq).2.2 x hx a (List.mem_singleton.2 rfl)
        intro e
        rcases vlt_tri a v with k | k | k
        · exact hxa (vlt_trans k e)
        · exact hxa (k ▸ e)
        · exact ha k
      · rw [List.mem_singleton] at hx; subst hx; exact ha
  rw [hi]
  refine List.pairwise_append.2 ⟨hp.1, List.pairwise_cons.2 ⟨fun b hb e => vlt_irr _ (vlt_trans (hhi b hb) e), hp.2.1⟩, fun a ha b hb => ?_⟩
  rcases List.mem_cons.1 hb with rfl | hb
  · exact hlo a ha
  · exact hp.2.2 a ha b hb
theorem sortS_all : ∀ (xs acc : List Verdict), SortedV acc → SortedV (xs.foldl insS acc) ∧ (xs.foldl insS acc).Perm (xs ++ acc)
  | [], acc, h => ⟨h, List.Perm.refl _⟩
  | x :: xs, acc, h => by
    obtain ⟨h1, h2⟩ := sortS_all xs (insS acc x) (insS_sorted h)
    refine ⟨h1, h2.trans ?_⟩
    refine ((insS_perm acc x).append_left xs).trans ?_
    exact List.perm_middle
theorem sortS_sorted (xs : List Verdict) : SortedV (sortS xs) := (sortS_all xs [] List.Pairwise.nil).1
theorem sortS_perm (xs : List Verdict) : (sortS xs).Perm xs := by
  have := (sortS_all xs [] List.Pairwise.nil).2
  rwa [List.append_nil] at this
theorem sortS_len (xs : List Verdict) : (sortS xs).length = xs.length := (sortS_perm xs).length_eq
theorem sortS_asc {xs : List Verdict} (h : xs.Nodup) : Asc (sortS xs) := sorted_nodup_asc (sortS_sorted xs) ((sortS_perm xs).nodup_iff.2 h)
theorem sortS_step (xs : List Verdict) (k : Nat) (h : k < xs.length) : sortS (xs.take (k + 1)) = insS (sortS (xs.take k)) xs[k] := by
  unfold sortS
  rw [List.take_succ_eq_append_getElem h, List.foldl_append]; rfl

/-- equal neighbours as one -/
noncomputable def compV : List Verdict → List Verdict
  | [] => []
  | [x] => [x]
  | x :: y :: l => if eqB x y = true then compV (y :: l) else x :: compV (y :: l)
theorem compV_mem : ∀ {xs : List Verdict} {z : Verdict}, z ∈ compV xs ↔ z ∈ xs
  | [], z => Iff.rfl
  | [x], z => Iff.rfl
  | x :: y :: l, z => by
    unfold compV
    have ih := @compV_mem (y :: l) z
    split
    · rename_i h
      have := (eqB_iff x y).1 h
      subst this
      rw [ih]; simp
    · rw [List.mem_cons, ih, List.mem_cons (a := z) (b := x)]
theorem compV_asc : ∀ {xs : List Verdict}, SortedV xs → Asc (compV xs)
  | [], _ => asc_pw.2 List.Pairwise.nil
  | [x], _ => asc_pw.2 (List.pairwise_singleton _ _)
  | x :: y :: l, h => by
    have hp := List.pairwise_cons.1 h
    have ih := compV_asc hp.2
    unfold compV
    split
    · exact ih
    · rename_i hne
      rw [asc_pw]
      refine List.pairwise_cons.2 ⟨fun z hz => ?_, asc_pw.1 ih⟩
      have hz := compV_mem.1 hz
      have hxy : vlt x y := by
        rcases vlt_tri x y with e | e | e
        · exact e
        · exact absurd ((eqB_iff x y).2 e) hne
        · exact absurd e (hp.1 y (List.mem_cons_self ..))
      rcases List.mem_cons.1 hz with rfl | hz
      · exact hxy
      · have hyz := (List.pairwise_cons.1 hp.2).1 z hz
        rcases vlt_tri y z with e | e | e
        · exact vlt_trans hxy e
        · exact e ▸ hxy
        · exact absurd e hyz
theorem compV_snoc : ∀ (l : List Verdict) (a b : Verdict), compV (l ++ [a] ++ [b]) = compV (l ++ [a]) ++ if eqB a b = true then [] else [b]
  | [], a, b => by
    show compV [a, b] = compV [a] ++ _
    unfold compV
    by_cases h : eqB a b = true
    · rw [if_pos h, if_pos h, (eqB_iff a b).1 h]; rfl
    · rw [if_neg h, if_neg h]; rfl
  | [x], a, b => by
    have ih := compV_snoc [] a b
    simp only [List.nil_append, List.cons_append] at ih ⊢
    have e1 : compV [x, a, b] = if eqB x a = true then compV [a, b] else x :: compV [a, b] := by rw [compV]
    have e2 : compV [x, a] = if eqB x a = true then compV [a] else x :: compV [a] := by
      conv => lhs; rw [compV]
    rw [e1, e2, ih]
    split <;> rfl
  | x :: y :: l, a, b => by
    have ih := compV_snoc (y :: l) a b
    simp only [List.cons_append] at ih ⊢
    have e1 : ∀ l2, compV (x :: y :: l2) = if eqB x y = true then compV (y :: l2) else x :: compV (y :: l2) := fun l2 => by rw [compV]
    rw [e1, e1, ih]
    split <;> rfl
theorem compV_next {xs : List Verdict} {k : Nat} (h0 : 0 < k) (h : k < xs.length) : compV (xs.take (k + 1)) = compV (xs.take k) ++ if eqB xs[k - 1] xs[k] = true then [] else [xs[k]] := by
  obtain ⟨j, rfl⟩ : ∃ j, k = j + 1 := ⟨k - 1, by omega⟩
  rw [List.take_succ_eq_append_getElem h, List.take_succ_eq_append_getElem (show j < xs.length by omega)]
  exact compV_snoc _ _ _
theorem compV_small {xs : List Verdict} (h : xs.length < 2) : compV xs = xs := by
  match xs, h with
  | [], _ => rfl
  | [x], _ => rfl
end Go.Proofs.YtfcbapaojoecgaaGreat

namespace Go.Proofs.YtfcbapaojoecgaaGreat
open Go.RowKit

theorem Bld.empv {α : Type} {R : RepO α} {W : World} {base g : Nat} {e : TypeId} (hb : base ≤ g) (h : W.heap[g]? = some (.cells #[] e (0, 0))) : Bld R W base e (.slice (some ⟨g, 0, none⟩) 0 0) ([] : List α) [] :=
  ⟨[], ⟨by simp, .inr ⟨g, 0, #[], rfl, hb, h, Nat.le_refl _, Nat.zero_le _, by simp, by simp⟩⟩, .nil, fun _ _ h => (by cases h), List.nodup_nil, fun _ h => by cases h⟩
theorem Bld.lowv {α : Type} {R : RepO α} {w : World} {base base2 : Nat} {e : TypeId} {v : Value} {xs : List α} {F : List Nat} (h : Bld R w base e v xs F) (hb : base2 ≤ base) : Bld R w base2 e v xs F := by
  obtain ⟨cs, h1, h2, h3, h4, h5⟩ := h
  refine ⟨cs, ⟨h1.1, ?_⟩, h2, h3, h4, fun b hb2 => Nat.le_trans hb (h5 b hb2)⟩
  rcases h1.2 with h | ⟨g', cap, cur, e1, e2, e3⟩
  · exact .inl h
  · exact .inr ⟨g', cap, cur, e1, Nat.le_trans hb e2, e3⟩
theorem Sl.ver_none {w : World} {n cap : Nat} {ys : List Verdict} (h : Sl verdictR w (.slice none n cap) ys) : ys = [] := by
  cases ys with
  | nil => rfl
  | cons y ys =>
    obtain ⟨_, _, _, e, _⟩ := h.at_ (show 0 < (y :: ys).length by simp)
    cases e
theorem step_appv {P : Program} {ops : Array Oper} {o : Oper} {a : Act} {w : World} {K : Act → World → Prop} {Q : Exit → Act → World → Prop} {Z : Prop} {t e : TypeId} {bytes : Nat} (E : ElemT P t e verdictO.n bytes) (hby : bytes ≤ 128)
    (hgd : o.guard = none) (s x : Operand) (ho : o.op = .call { callee := .builtin .append, args := #[s, x], argTypes := #[t, t] })
    {base : Nat} {v : Value} {xs : List Verdict} (hb : Bld verdictO w base e v xs []) (hs : a.eval s = v) {A : Option Addr} {n k : Nat} (hx : a.eval x = .slice A n k) {ys : List Verdict} (hy : Sl verdictR w (.slice A n k) ys)
    (hbytes : xs.length + ys.length ≤ 1099511627776) (hbase : base ≤ w.heap.size) {w0 : World} (h0 : w0.heap.size ≤ base) (hx0 : Ext w0 w)
    (h : ∀ v' w', Bld verdictO w' base e v' (xs ++ ys) [] → Ext w0 w' → (∀ b, b < w.heap.size → v.ownBlock ≠ some b → w'.heap[b]? = w.heap[b]?) → K (a.put o.dst v') w') :
    if Region.wanted o (yielded ops a.tmps) = true then Oper.wp P o a w K Q else Z := by
  have hw : Region.wanted o (yielded ops a.tmps) = true := by simp [Region.wanted, hgd]
  rw [if_pos hw]
  obtain ⟨ht, i, z, hi, hz, hsize, hby2, hzs⟩ := E
  have hn : n = ys.length := hy.cap_.1
  by_cases hm : 0 < n
  · cases A with
    | none => rw [hy.ver_none] at hn; simp at hn; omega
    | some ad =>
      obtain ⟨hI, hc⟩ := hy.vers_some
      have hl := hb.lt
      obtain ⟨cs, b1, b2, b3, b4, b5⟩ := hb
      have h4 : verdictO.n = 4 := rfl
      refine wp_append_lies w s x t ho base e i z verdictO.n bytes ht hi hz hsize hby2 hzs (by decide) v xs.length cs hs b1 ad n k (ys.flatMap Verdict.cells) hx (by rw [vflat_len, hn, h4]) hc (vers_one ys) hm (by unfold maxLen; omega)
        (Nat.le_trans (Nat.mul_le_mul (show xs.length + n ≤ 1099511627776 by omega) hby) (by decide)) hbase w.heap.size rfl ?_
      intro g' cap w' hown hgr hat _
      refine h _ _ ⟨cs ++ ys.flatMap Verdict.cells, by rw [List.length_append, ← hn]; exact hown, ?_, fun _ _ hm => (by cases hm), List.nodup_nil, fun _ hm => by cases hm⟩ (hx0.grown hgr fun g hg => Nat.le_trans h0 (hl.2 g hg).2) fun b hb2 hne => hgr.block b hb2 (fun e => hne e.symm)
      have := OwnCells.append (b2.keep (w2 := w') fun b hb => by cases hb) (vers_own ys hI w')
      simpa using this
  · have hn0 : n = 0 := by omega
    subst hn0
    have hys : ys = [] := List.eq_nil_of_length_eq_zero hn.symm
    subst hys
    have hb0 := hb
    obtain ⟨cs, b1, b2⟩ := hb
    have hr : (Builtin.append_ #[t, t] o.type #[v, .slice A 0 k]).run P w = .ok v w := by
      rcases b1.2 with ⟨rfl, _⟩ | ⟨g, cap, cur, rfl, _, _, hnc, _⟩
      · cases A <;> simp [Builtin.append_, run_underlying ht, sizeOf, typeInfo, hi, Builtin.lenOf, Builtin.firstCells, loadCells, loadCellsFrom]
      · cases A <;> simp [Builtin.append_, run_underlying ht, sizeOf, typeInfo, hi, Builtin.lenOf, Builtin.firstCells, hnc, storeCells, loadCells, loadCellsFrom]
    unfold Oper.wp execOp
    simp only [ho, resolve, invoke, builtin, Sem.run_bind, Sem.run_pure, Result.andThen_ok, List.map_toArray, List.map_cons, List.map_nil, hs, hx, hr]
    exact h v w (by rw [List.append_nil]; exact hb0) hx0 fun _ _ _ => rfl

set_option maxHeartbeats 400000 in
set_option maxRecDepth 20000 in
theorem spec_l28CopyB (v : Value) (xs : List Verdict) (w : World) (h : Sl verdictR w v xs) (hl : xs.length ≤ 1048576) :
    Calls Tryz.prog 81 #[v] w fun e w2 => ∃ v2, e = .returned v2 ∧ Bld verdictO w2 w.heap.size 74 v2 xs [] ∧ Ext w w2 := by
  obtain ⟨A, cap, rfl, hm⟩ := h.form
  go_enter Tryz.func81, Tryz.ntmps81
  go_wp2_with (at_builtin; refine wpList_appv elemVer (by decide) rfl _ _ rfl (Bld.lit w (Nat.le_refl _) _) rfl rfl (h.mono ((Ext.refl _).alloc _)) (by simp; omega) (by simp) ?_; intro v9 w9 hB9 hE9)
  go_ret
  exact ⟨_, rfl, by simpa using hB9, hE9 w (Nat.le_refl _) ((Ext.refl _).alloc _)⟩

set_option maxHeartbeats 400000 in
set_option maxRecDepth 20000 in
theorem slices_Clone_vB (v : Value) (xs : List Verdict) (w : World) (h : Sl verdictR w v xs) (hl : xs.length ≤ 1048576) :
    Calls Tryz.prog 96 #[v] w fun e w2 => ∃ v2, e = .returned v2 ∧ Bld verdictO w2 w.heap.size 74 v2 xs [] ∧ Ext w w2 := by
  obtain ⟨A, cap, rfl, hm⟩ := h.form
  have q := fun (W : World) (a : Option Addr) (n c n' c' : Nat) => Lib.run_eql_slice_nil (P := Tryz.prog) W 32 74 a n c n' c' Tryz.underlying32
  cases A with
  | none =>
    have h0 := h.ver_none
    subst h0
    go_enter Tryz.func96, Tryz.ntmps96
    go_wp2
    go_ret
    exact ⟨_, rfl, Bld.nil _ _ _, Ext.refl _⟩
  | some ad =>
    go_enter Tryz.func96, Tryz.ntmps96
    go_wp2_with (at_builtin; refine wpList_appv elemVer (by decide) rfl _ _ rfl (Bld.lit w (Nat.le_refl _) _) rfl rfl (h.mono ((Ext.refl _).alloc _)) (by simp; omega) (by simp) ?_; intro v9 w9 hB9 hE9)
    go_ret
    exact ⟨_, rfl, by simpa using hB9, hE9 w (Nat.le_refl _) ((Ext.refl _).alloc _)⟩
end Go.Proofs.YtfcbapaojoecgaaGreat

namespace Go.Proofs.YtfcbapaojoecgaaGreat
open Go.RowKit

def Verdict.q (v : Verdict) : Q4 := ⟨.int .i64 v.a, .int .i64 v.b, .bool v.same, .int .i64 v.time⟩

set_option maxHeartbeats 2000000 in
set_option maxRecDepth 20000 in
theorem slices_Compact_q (g n : Nat) (xs : List Verdict) (row : List Q4) (w : World) (hr : RowQ w g 74 row) (hn : n ≤ row.length) (hl : n ≤ 1048576) (hm : row.length ≤ maxLen) (hx0 : row.take n = xs.map Verdict.q) :
    Calls Tryz.prog 55 #[.slice (some ⟨g, 0, none⟩) n row.length] w fun e w2 => ∃ row2 m, e = .returned (.slice (some ⟨g, 0, none⟩) m row.length) ∧ RowQ w2 g 74 row2 ∧ row2.length = row.length ∧
      m = (compV xs).length ∧ m ≤ n ∧ row2.take m = (compV xs).map Verdict.q ∧ Kp g w w2 ∧ ∀ w0 : World, w0.heap.size ≤ g → Ext w0 w → Ext w0 w2 := by
  unfold maxLen at hm
  obtain ⟨cap, hcap⟩ : ∃ cap, cap = row.length := ⟨_, rfl⟩
  rw [← hcap] at hm ⊢
  have hnc : n ≤ cap := by omega
  have hxl : xs.length = n := by
    have := congrArg List.length hx0
    rw [List.length_take, List.length_map] at this; omega
  have hel : ∀ k (h1 : k < row.length) (h2 : k < xs.length), k < n → row[k] = xs[k].q := fun k h1 h2 h => by
    have e : (row.take n)[k]'(by rw [List.length_take]; omega) = row[k] := List.getElem_take
    rw [← e]
    simp only [hx0, List.getElem_map]
  have HCAP := hid hcap
  have HR := hid hr
  have HN := hid hn
  have HX0 := hid hx0
  have HXL := hid hxl
  have HEL := hid hel
  clear hcap hr hn hx0 hxl hel
  go_enter Tryz.func55, Tryz.ntmps55
  by_cases hsmall : n < 2
  · have HC := hid (compV_small (xs := xs) (by rw [HXL.out]; exact hsmall))
    have hsm1 : (n : Int) < 2 := by omega
    go_wp2
    go_ret
    exact ⟨row, n, rfl, HR.out, HCAP.out.symm, by rw [HC.out, HXL.out], Nat.le_refl _, by rw [HC.out]; exact HX0.out, Kp.refl _ _, fun _ _ h => h⟩
  · have hsm1 : ¬ (n : Int) < 2 := by omega
    go_wp2_with fail
    go_loopw [3] (fun i wr => ∃ k : Nat, 1 ≤ k ∧ k ≤ n ∧ i = .int .i64 k ∧ compV (xs.take k) = xs.take k ∧ Ext w wr) (fun i _ => n - (intOf i).toNat)
    case atStart => exact ⟨1, Nat.le_refl _, by omega, rfl, compV_small (by rw [List.length_take]; omega), Ext.refl _⟩
    case round =>
      obtain ⟨k, hk1, hk, rfl, hc, hx⟩ := hrel
      have HC := hid hc
      clear hc
      by_cases hlt : k < n
      · have hkx : k < xs.length := by rw [HXL.out]; exact hlt
        have hkr : k < row.length := by have := HN.out; omega
        have hkr1 : k - 1 < row.length := by omega
        have HNX := hid (compV_next (by omega) hkx)
        obtain ⟨c0, c1, c2, c3⟩ := (HR.out.ext hx).cells hkr
        obtain ⟨d0, d1, d2, d3⟩ := (HR.out.ext hx).cells hkr1
        rw [HEL.out k hkr hkx hlt] at c0 c1 c2 c3
        rw [HEL.out (k - 1) hkr1 (by omega) (by omega)] at d0 d1 d2 d3
        dsimp only [Verdict.q] at c0 c1 c2 c3 d0 d1 d2 d3
        have hcs := ver_cases xs[k] xs[k - 1]
        obtain ⟨x, hxe⟩ : ∃ x, x = xs[k] := ⟨_, rfl⟩
        obtain ⟨y, hye⟩ : ∃ y, y = xs[k - 1] := ⟨_, rfl⟩
        rw [← hxe] at c0 c1 c2 c3 HNX hcs
        rw [← hye] at d0 d1 d2 d3 HNX hcs
        have HXE := hid hxe
        clear hxe hye
        have y0 : ∀ z : ExtOf wr, z.1.cell? ⟨g, k * 4, none⟩ = _ := fun z => z.2.cell c0
        have y1 : ∀ z : ExtOf wr, z.1.cell? ⟨g, k * 4 + 1, none⟩ = _ := fun z => z.2.cell c1
        have y2 : ∀ z : ExtOf wr, z.1.cell? ⟨g, k * 4 + 2, none⟩ = _ := fun z => z.2.cell c2
        have y3 : ∀ z : ExtOf wr, z.1.cell? ⟨g, k * 4 + 3, none⟩ = _ := fun z => z.2.cell c3
        have z0 : ∀ z : ExtOf wr, z.1.cell? ⟨g, (k - 1) * 4, none⟩ = _ := fun z => z.2.cell d0
        have z1 : ∀ z : ExtOf wr, z.1.cell? ⟨g, (k - 1) * 4 + 1, none⟩ = _ := fun z => z.2.cell d1
        have z2 : ∀ z : ExtOf wr, z.1.cell? ⟨g, (k - 1) * 4 + 2, none⟩ = _ := fun z => z.2.cell d2
        have z3 : ∀ z : ExtOf wr, z.1.cell? ⟨g, (k - 1) * 4 + 3, none⟩ = _ := fun z => z.2.cell d3
        have hsub : ((k - 1 : Nat) : Int) = (k : Int) - 1 := by omega
        clear c0 c1 c2 c3 d0 d1 d2 d3
        rcases hcs with ⟨he, e1, e2, e3, e4⟩ | ⟨hne, hw⟩
        · have HS := hid (show compV (xs.take (k + 1)) = xs.take k by rw [HNX.out, if_pos ((eqB_iff _ _).2 he.symm), List.append_nil, HC.out])
          clear he
          go_wp2_with fail
          refine wp_region_ext (by kernel_rfl) (by kernel_rfl) ?_
          repeat (go_big_quiet_step ((fail)))
          refine wpQuiet_nil ?_
          rintro w1 ⟨⟨_, x1⟩, rfl⟩
          clear y0 y1 y2 y3 z0 z1 z2 z3 e1 e2 e3 e4 hsub
          have u1 : ¬ cap = k := by omega
          have u2 : k ≤ cap := by omega
          have hx1 := hx.trans x1
          go_wp2_with fail
          obtain ⟨L, hL⟩ : ∃ L, L = n - k := ⟨_, rfl⟩
          rw [← hL]
          have HL := hid hL
          clear hL hx x1
          have hLn : L ≤ 1048576 := by have := HL.out; omega
          go_loopw [3, 5] (fun s3 s5 w3 => ∃ (K q : Nat) (row2 : List Q4), s3 = .int .i64 K ∧ s5 = .int .i64 q ∧ 1 ≤ q ∧ q ≤ L ∧ k ≤ K ∧ K < k + q ∧ RowQ w3 g 74 row2 ∧ row2.length = cap ∧ row2.take K = (compV (xs.take (k + q))).map Verdict.q ∧ K = (compV (xs.take (k + q))).length ∧ (∀ m, K ≤ m → m < n → row2[m]? = row[m]?) ∧ Kp g w w3 ∧ ∀ w0 : World, w0.heap.size ≤ g → Ext w0 w → Ext w0 w3) (fun _ s5 _ => L - (intOf s5).toNat)
          case atStart => exact ⟨k, 1, row, rfl, rfl, Nat.le_refl _, by have := HL.out; omega, Nat.le_refl _, by omega, HR.out.ext hx1, HCAP.out.symm, by rw [HS.out, List.map_take, ← HX0.out, List.take_take, Nat.min_eq_left hk], by rw [HS.out, List.length_take]; omega, fun _ _ _ => rfl, hx1.kp, fun _ _ h => h.trans hx1⟩
          case round =>
            obtain ⟨K, q, row2, rfl, rfl, hq1, hq, hKk, hKq, hR, hrl, htk, hKl, hsame, hkp, hxx⟩ := hrel
            have HR2 := hid hR
            have HTK := hid (And.intro htk hKl)
            have HSM := hid hsame
            have HRL := hid hrl
            have HXX := hid hxx
            clear htk hKl hsame hxx hrl
            by_cases hlq : q < L
            · have hid1 : k + q < n := by have := HL.out; omega
              have hkx2 : k + q < xs.length := by rw [HXL.out]; exact hid1
              have hr1 : k + q < row2.length := by have := HRL.out; omega
              have hr2 : k + q - 1 < row2.length := by omega
              have HNX2 := hid (compV_next (by omega) hkx2)
              have hg1 : row2[k + q] = (xs[k + q]).q := by
                have h1 := HSM.out (k + q) (by omega) hid1
                rw [List.getElem?_eq_getElem hr1, List.getElem?_eq_getElem (by have := HN.out; omega)] at h1
                rw [Option.some.inj h1]; exact HEL.out _ _ hkx2 hid1
              have hg2 : row2[k + q - 1] = (xs[k + q - 1]).q := by
                have h1 := HSM.out (k + q - 1) (by omega) (by omega)
                rw [List.getElem?_eq_getElem hr2, List.getElem?_eq_getElem (by have := HN.out; omega)] at h1
                rw [Option.some.inj h1]; exact HEL.out _ _ (by omega) (by omega)
              obtain ⟨c0, c1, c2, c3⟩ := hR.cells hr1
              obtain ⟨d0, d1, d2, d3⟩ := hR.cells hr2
              rw [hg1] at c0 c1 c2 c3
              rw [hg2] at d0 d1 d2 d3
              have ea : (k + q) * 4 = k * 4 + q * 4 := by omega
              have eb : (k + q - 1) * 4 = k * 4 + (q - 1) * 4 := by omega
              rw [ea] at c0 c1 c2 c3
              rw [eb] at d0 d1 d2 d3
              dsimp only [Verdict.q] at c0 c1 c2 c3 d0 d1 d2 d3
              have hcs := ver_cases xs[k + q] xs[k + q - 1]
              obtain ⟨x2, hxe⟩ : ∃ x, x = xs[k + q] := ⟨_, rfl⟩
              obtain ⟨y2, hye⟩ : ∃ y, y = xs[k + q - 1] := ⟨_, rfl⟩
              rw [← hxe] at c0 c1 c2 c3 HNX2 hcs
              rw [← hye] at d0 d1 d2 d3 HNX2 hcs
              clear hxe hye hg1 hg2 ea eb
              have y0 : ∀ z : ExtOf wr, z.1.cell? ⟨g, k * 4 + q * 4, none⟩ = _ := fun z => z.2.cell c0
              have y1 : ∀ z : ExtOf wr, z.1.cell? ⟨g, k * 4 + q * 4 + 1, none⟩ = _ := fun z => z.2.cell c1
              have y2' : ∀ z : ExtOf wr, z.1.cell? ⟨g, k * 4 + q * 4 + 2, none⟩ = _ := fun z => z.2.cell c2
              have y3 : ∀ z : ExtOf wr, z.1.cell? ⟨g, k * 4 + q * 4 + 3, none⟩ = _ := fun z => z.2.cell c3
              have z0 : ∀ z : ExtOf wr, z.1.cell? ⟨g, k * 4 + (q - 1) * 4, none⟩ = _ := fun z => z.2.cell d0
              have z1 : ∀ z : ExtOf wr, z.1.cell? ⟨g, k * 4 + (q - 1) * 4 + 1, none⟩ = _ := fun z => z.2.cell d1
              have z2 : ∀ z : ExtOf wr, z.1.cell? ⟨g, k * 4 + (q - 1) * 4 + 2, none⟩ = _ := fun z => z.2.cell d2
              have z3 : ∀ z : ExtOf wr, z.1.cell? ⟨g, k * 4 + (q - 1) * 4 + 3, none⟩ = _ := fun z => z.2.cell d3
              have hsub : ((q - 1 : Nat) : Int) = (q : Int) - 1 := by omega
              clear d0 d1 d2 d3
              rcases hcs with ⟨he, e1, e2, e3, e4⟩ | ⟨hne, hw⟩
              · have HS2 := hid (show compV (xs.take (k + (q + 1))) = compV (xs.take (k + q)) by rw [← Nat.add_assoc, HNX2.out, if_pos ((eqB_iff _ _).2 he.symm), List.append_nil])
                clear he
                go_wp2_with fail
                refine wp_region_ext (by kernel_rfl) (by kernel_rfl) ?_
                repeat (go_big_quiet_step ((fail)))
                refine wpQuiet_nil ?_
                rintro w5 ⟨⟨_, x5⟩, rfl⟩
                go_wp2
                go_roundw
                case rel => exact ⟨K, q + 1, row2, rfl, by go_num, by omega, by omega, hKk, by omega, HR2.out.ext x5, HRL.out, by rw [HS2.out]; exact HTK.out.1, by rw [HS2.out]; exact HTK.out.2, HSM.out, hkp.trans x5.kp, fun w0 h8 h9 => (HXX.out w0 h8 h9).trans x5⟩
                case measure => simp [intOf]; omega
              · have HS2 := hid (show compV (xs.take (k + (q + 1))) = compV (xs.take (k + q)) ++ [x2] by rw [← Nat.add_assoc, HNX2.out, if_neg (fun e => hne ((eqB_iff _ _).1 e).symm)])
                clear hne
                have hKr : K < row2.length := by omega
                rcases hw with e1 | ⟨e1, e2⟩ | ⟨e1, e2, e3⟩ | ⟨e1, e2, e3, e4⟩
                all_goals
                  go_wp2_with fail
                  refine wp_region_ext (by kernel_rfl) (by kernel_rfl) ?_
                  repeat (go_big_quiet_step ((fail)))
                  refine wpQuiet_nil ?_
                  rintro w5 ⟨⟨_, x5⟩, rfl⟩
                  have hR5 := HR2.out.ext x5
                  obtain ⟨q0, q1, q2, q3⟩ := hR5.cells hKr
                  have hfz := hR5.frozen
                  have p0 := x5.cell c0
                  have p1 := x5.cell c1
                  have p2 := x5.cell c2
                  have p3 := x5.cell c3
                  have HST4 := hid (hR5.store hKr x2.q)
                  have HK4 := hid (fun a b c d => (hkp.trans x5.kp).trans (Kp.store4 g (K * 4) a b c d w5))
                  have HX4 := hid (fun (w0 : World) (h8 : w0.heap.size ≤ g) (h9 : Ext w0 w) a b c d => Ext.store4 ((HXX.out w0 h8 h9).trans x5) h8 (K * 4) a b c d)
                  dsimp only [Verdict.q] at HST4
                  clear hR5 y0 y1 y2' y3 z0 z1 z2 z3 hsub
                  go_wp2
                  go_roundw
                  case rel =>
                    refine ⟨K + 1, q + 1, row2.set K x2.q, by go_num, by go_num, by omega, by omega, by omega, by omega, HST4.out, by rw [List.length_set]; exact HRL.out, ?_, ?_, fun m h8 h9 => ?_, HK4.out _ _ _ _, fun w0 h8 h9 => HX4.out w0 h8 h9 _ _ _ _⟩
                    · rw [HS2.out, List.map_append, ← HTK.out.1, List.take_succ_eq_append_getElem (by rw [List.length_set]; exact hKr), List.getElem_set_self, List.take_set_of_le (Nat.le_refl _)]; rfl
                    · rw [HS2.out, List.length_append, ← HTK.out.2]; rfl
                    · rw [List.getElem?_set_ne (by omega)]; exact HSM.out m (by omega) h9
                  case measure => simp [intOf]; omega
            · have hkq : k + q = n := by have := HL.out; omega
              have hlr := HRL.out
              have hKn : K < n := by omega
              have hzz : (List.replicate (n - K) ([.int .i64 0, .int .i64 0, .bool false, .int .i64 0] : List Value)).flatten = flatQ (List.replicate (n - K) ⟨.int .i64 0, .int .i64 0, .bool false, .int .i64 0⟩) := by
                unfold flatQ
                rw [List.flatMap_def, List.map_replicate]; rfl
              have hcl2 : ∀ ty, (Builtin.clear_ #[32] ty #[.slice (some ⟨g, K * 4, none⟩) (n - K) (cap - K)]).run Tryz.prog wr = .ok (.tuple #[]) (wr.setCells g (K * 4) (List.replicate (n - K) [.int .i64 0, .int .i64 0, .bool false, .int .i64 0]).flatten) := fun ty => by
                refine run_clear_many wr _ 74 ty (.agg #[.int .i64 0, .int .i64 0, .bool false, .int .i64 0]) [.int .i64 0, .int .i64 0, .bool false, .int .i64 0] Tryz.underlying32 (fun w => by kernel_rfl) rfl (by simp [Value.oneCell']) g (K * 4) (n - K) _ (by omega) (fun j2 hj2 => ?_) (fun j2 hj2 => hR.frozen _)
                have h3 : ([.int .i64 0, .int .i64 0, .bool false, .int .i64 0] : List Value).length = 4 := rfl
                rw [h3] at hj2
                rw [cell_of_row wr g _ _ _ (0, 0) hR, List.getElem?_toArray, List.getElem?_eq_getElem (by rw [flatQ_len]; omega)]
                rfl
              have hR4 := hR.setCells (i := K) (List.replicate (n - K) ⟨.int .i64 0, .int .i64 0, .bool false, .int .i64 0⟩) (by rw [List.length_replicate]; omega)
              rw [← hzz] at hR4
              have HR4 := hid hR4
              have u5 : ¬ cap = K := by omega
              have u6 : K ≤ cap := by omega
              have u7 : (K : Int) ≤ (n : Int) := by omega
              have u8 : K ≤ n := by omega
              have HKQ := hid hkq
              clear hR hR4 hzz hlr hkq u1 u2
              go_wp2
              go_ret
              have h7 := HTK.out
              rw [HKQ.out, show xs.take n = xs from List.take_of_length_le (by rw [HXL.out]; exact Nat.le_refl _)] at h7
              refine ⟨_, K, rfl, HR4.out, ?_, h7.2, by omega, ?_, hkp.trans (Kp.setCells g _ _ _), fun w0 h8 h9 => Ext.setCells h8 _ _ (HXX.out w0 h8 h9)⟩
              · have := HRL.out
                simp only [List.length_append, List.length_take, List.length_drop, List.length_replicate]; omega
              · have := HRL.out
                rw [List.take_append_of_le_length (by rw [List.length_take]; omega), List.take_take, Nat.min_self]; exact h7.1
        · have HS := hid (show compV (xs.take (k + 1)) = xs.take (k + 1) by rw [HNX.out, if_neg (fun e => hne ((eqB_iff _ _).1 e).symm), HC.out, List.take_succ_eq_append_getElem hkx, HXE.out])
          clear hne
          rcases hw with e1 | ⟨e1, e2⟩ | ⟨e1, e2, e3⟩ | ⟨e1, e2, e3, e4⟩
          all_goals
            go_wp2_with fail
            refine wp_region_ext (by kernel_rfl) (by kernel_rfl) ?_
            repeat (go_big_quiet_step ((fail)))
            refine wpQuiet_nil ?_
            rintro w1 ⟨⟨_, x1⟩, rfl⟩
            go_wp2
            go_roundw
            case rel => exact ⟨k + 1, by omega, by omega, by go_num, HS.out, hx.trans x1⟩
            case measure => simp [intOf]; omega
      · have hall : compV xs = xs := by
          have := HC.out
          rwa [List.take_of_length_le (by rw [HXL.out]; omega)] at this
        have HA := hid hall
        clear hall
        go_wp2
        go_ret
        exact ⟨row, n, rfl, HR.out.ext hx, HCAP.out.symm, by rw [HA.out, HXL.out], Nat.le_refl _, by rw [HA.out]; exact HX0.out, hx.kp, fun _ _ h => h.trans hx⟩
end Go.Proofs.YtfcbapaojoecgaaGreat

namespace Go.Proofs.YtfcbapaojoecgaaGreat
open Go.RowKit

theorem vers_flat {w : World} : ∀ {xs : List Verdict} {cs : List Value} {F : List Nat}, OwnCells verdictO w cs xs F → cs = xs.flatMap Verdict.cells ∧ (∀ x ∈ xs, x.ok) ∧ F = []
  | [], _, _, h => ⟨h.1, fun _ h => (by cases h), h.2⟩
  | x :: xs, _, _, ⟨c, d, F1, F2, h1, h2, h3, h4⟩ => by
    obtain ⟨e1, e2, e3⟩ := vers_flat h4
    obtain ⟨⟨k1, k2⟩, k3⟩ := h3
    subst e3; subst k3
    refine ⟨by rw [h1, e1, List.flatMap_cons]; exact congrArg (· ++ _) k1, fun y hy => ?_, h2⟩
    rcases List.mem_cons.1 hy with rfl | hy
    · exact k2
    · exact e2 y hy
theorem vflat_drop (xs : List Verdict) (i : Nat) : (xs.drop i).flatMap Verdict.cells = (xs.flatMap Verdict.cells).drop (i * 4) := by
  induction xs generalizing i with
  | nil => simp
  | cons x xs ih =>
    cases i with
    | zero => simp
    | succ i =>
      have h4 : x.cells.length = 4 := rfl
      rw [List.drop_succ_cons, ih, List.flatMap_cons, List.drop_append, h4, show (i + 1) * 4 - 4 = i * 4 by omega, show x.cells.drop ((i + 1) * 4) = [] from List.drop_of_length_le (by rw [h4]; omega), List.nil_append]
theorem vflat_take (xs : List Verdict) (i : Nat) : (xs.take i).flatMap Verdict.cells = (xs.flatMap Verdict.cells).take (i * 4) := by
  induction xs generalizing i with
  | nil => simp
  | cons x xs ih =>
    cases i with
    | zero => simp
    | succ i =>
      have h4 : x.cells.length = 4 := rfl
      rw [List.take_succ_cons, List.flatMap_cons, ih, List.flatMap_cons, List.take_append, h4, show (i + 1) * 4 - 4 = i * 4 by omega, show x.cells.take ((i + 1) * 4) = x.cells from List.take_of_length_le (by rw [h4]; omega)]
def zVer : List Value := [.int .i64 0, .int .i64 0, .bool false, .int .i64 0]

end Go.Proofs.YtfcbapaojoecgaaGreat

namespace Go.Proofs.YtfcbapaojoecgaaGreat
open Go.RowKit

/-- draws and new blocks, nothing else -/
def Gr (w w2 : World) : Prop := ∃ (q : Nat) (os : Array Obj), w2 = Go.Sort.grow (w.drewN q) os
theorem Gr.refl (w : World) : Gr w w := ⟨0, #[], by rw [Go.Sort.grow_empty]; rfl⟩
theorem Gr.drew {w w2 : World} (h : Gr w w2) : Gr w w2.drew := by obtain ⟨q, os, rfl⟩ := h; exact ⟨q + 1, os, rfl⟩
theorem Gr.alloc {w w2 : World} (h : Gr w w2) (o : Obj) : Gr w (w2.alloc o) := by obtain ⟨q, os, rfl⟩ := h; exact ⟨q, _, by rw [Go.Sort.alloc_eq_grow, Go.Sort.grow_grow]⟩

set_option maxHeartbeats 400000 in
set_option maxRecDepth 20000 in
theorem impl_CompareVerdicts_g (x y : Verdict) (w : World) :
    Calls Tryz.prog 54 #[x.val, y.val] w fun e w2 => e = .returned (.int .i64 (cmpV x y)) ∧ Gr w w2 := by
  obtain ⟨a, b, s, t⟩ := x
  obtain ⟨a', b', s', t'⟩ := y
  unfold Verdict.val
  go_enter Tryz.func54, Tryz.ntmps54
  go_wp2
  refine wp_region_still_tail 20 (by kernel_rfl) (by kernel_rfl) ?_
  simp only [List.take_succ_cons, List.take_zero, List.drop_succ_cons, List.drop_zero]
  change wpStill _ _ (World.drew _) _ _ _
  repeat (first | still_step | still_call (cmp_Compare _ _ _) | still_call (impl_compareSame _ _ _))
  refine wpStill_nil ?_
  change wpList _ _ _ _ _ (World.drew _)
  go_wp2_with fail
  refine (cmp_Or _ [cmpI a a', cmpI b b', cmpI t t', cmpB s s'] _ ?_).mono ?_
  · exact (Sl.new_ints _ [cmpI a a', cmpI b b', cmpI t t', cmpB s s'] _ _ _ (by simp) (by simp) (by simp [cmpI_64, cmpB_64]) (by simp [maxLen])).mono (Ext.refl _).drew
  rintro e w2 ⟨rfl, rfl⟩
  go_wp2
  go_ret
  exact ⟨ret_int rfl, by repeat (first | exact Gr.refl _ | refine Gr.drew ?_ | refine Gr.alloc ?_ _)⟩

instance : Inhabited Verdict := ⟨⟨0, 0, false, 0⟩⟩
theorem ltOf_cmpV (x y : Verdict) : ltOf cmpV x y = true ↔ vlt x y := by
  unfold ltOf
  rw [decide_eq_true_eq]; exact cmpV_lt
theorem ltOf_cmpV_no (x y : Verdict) : ltOf cmpV x y = false ↔ ¬ vlt x y := by
  rw [← ltOf_cmpV]; simp
theorem swo_cmpV : Go.Sort.SWO (ltOf cmpV) where
  irrefl x := by rw [ltOf_cmpV_no]; exact vlt_irr x
  trans x y z h1 h2 := by rw [ltOf_cmpV] at *; exact vlt_trans h1 h2
  ntrans x y z h1 h2 := by
    rw [ltOf_cmpV_no] at *
    intro h
    rcases vlt_tri x y with e | e | e
    · exact h1 e
    · exact h2 (e ▸ h)
    · rcases vlt_tri y z with k | k | k
      · exact h2 k
      · exact h1 (k ▸ h)
      · exact vlt_irr _ (vlt_trans h (vlt_trans k e))
theorem flatK_q (xs : List Verdict) : Go.Sort.flatK Verdict.cells 4 xs.toArray = (flatQ (xs.map Verdict.q)).toArray := by
  have hl : (flatQ (xs.map Verdict.q)).length = xs.length * 4 := by rw [flatQ_len, List.length_map]
  apply Go.Sort.ext_get!
  · rw [Go.Sort.size_flatK, List.size_toArray, List.size_toArray, hl]
  · intro t ht
    rw [Go.Sort.size_flatK, List.size_toArray] at ht
    rw [Go.Sort.get_flatK _ _ _ _ (by rw [List.size_toArray]; exact ht), getElem!_pos (flatQ (xs.map Verdict.q)).toArray t (by rw [List.size_toArray, hl]; exact ht)]
    have hi : t / 4 < xs.length := by omega
    have e1 : xs.toArray[t / 4]! = xs[t / 4] := by rw [getElem!_pos _ _ (by simpa using hi)]; simp
    rw [e1]
    have h4 := flatQ_at (xs.map Verdict.q) (t / 4) (by rw [List.length_map]; exact hi)
    rw [List.getElem_map] at h4
    have e2 : (flatQ (xs.map Verdict.q)).toArray[t]'(by rw [List.size_toArray, hl]; exact ht) = (flatQ (xs.map Verdict.q))[t]'(by rw [hl]; exact ht) := by simp
    rw [e2]
    have key : ∀ j, t % 4 = j → t = t / 4 * 4 + j := fun j hj => by omega
    obtain ⟨k0, k1, k2, k3⟩ := h4
    have hm : t % 4 = 0 ∨ t % 4 = 1 ∨ t % 4 = 2 ∨ t % 4 = 3 := by omega
    have fin : ∀ u, (flatQ (xs.map Verdict.q))[t]? = some u → (flatQ (xs.map Verdict.q))[t]'(by rw [hl]; exact ht) = u := fun u hu => by
      rw [List.getElem?_eq_getElem (by rw [hl]; exact ht)] at hu; exact Option.some.inj hu
    rcases hm with h | h | h | h
    · rw [fin _ (by rw [key 0 h]; simpa using k0), h]; rfl
    · rw [fin _ (by rw [key 1 h]; exact k1), h]; rfl
    · rw [fin _ (by rw [key 2 h]; exact k2), h]; rfl
    · rw [fin _ (by rw [key 3 h]; exact k3), h]; rfl
theorem grow_ext (w : World) (q : Nat) (os : Array Obj) : Ext w (Go.Sort.grow (w.drewN q) os) := by
  refine ⟨rfl, rfl, rfl, ?_, fun k hk => ?_⟩
  · show w.heap.size ≤ (w.heap ++ os).size
    rw [Array.size_append]; omega
  · show (w.heap ++ os)[k]? = w.heap[k]?
    rw [Array.getElem?_append_left hk]
theorem grow_ext2 (w : World) (os : Array Obj) : Ext w (Go.Sort.grow w os) := grow_ext w 0 os

theorem slices_SortFunc_q (g n : Nat) (xs : List Verdict) (row : List Q4) (w : World) (hr : RowQ w g 74 row) (hn : n ≤ row.length) (hl : n ≤ 1048576) (hx : row.take n = xs.map Verdict.q) :
    Calls Tryz.prog 53 #[.slice (some ⟨g, 0, none⟩) n row.length, .func (.func 54) #[] #[]] w fun e w2 => ∃ row2, e = .returned (.tuple #[]) ∧ RowQ w2 g 74 row2 ∧ row2.length = row.length ∧
      row2.take n = (sortS xs).map Verdict.q ∧ Kp g w w2 ∧ ∀ w0 : World, w0.heap.size ≤ g → Ext w0 w → Ext w0 w2 := by
  have hxl : xs.length = n := by
    have := congrArg List.length hx
    rw [List.length_take, List.length_map] at this; omega
  have hH : Go.Sort.HoldsK Verdict.cells 4 w g 0 xs.toArray := by
    unfold Go.Sort.HoldsK
    rw [flatK_q, ← hx]
    intro j hj
    rw [List.size_toArray] at hj
    have hj2 : j < (flatQ row).length := by rw [flatQ_take, List.length_take] at hj; omega
    refine ⟨?_, hr.frozen _⟩
    rw [Nat.zero_add, cell_of_row w g j _ _ (0, 0) hr, List.getElem?_toArray, List.getElem?_eq_getElem hj2, getElem!_pos (flatQ (row.take n)).toArray j (by rw [List.size_toArray]; exact hj)]
    simp only [List.getElem_toArray, flatQ_take, List.getElem_take]; rfl
  have hC : CmpLays Tryz.prog 54 #[] Verdict.cells 4 cmpV g 0 xs.toArray.size w := fun m os dk _ x y => impl_CompareVerdicts_g x y _
  have eg : ∀ (args : Array Value) (w : World), (callFunc 54 args).run Tryz.prog w = .ok (.enter 54 args) w := fun _ _ => by kernel_rfl
  have hcon := AnyQ.slices_SortFunc lShSortV 4 (fun _ => by kernel_rfl) (fun _ => by kernel_rfl) Verdict.cells (fun _ => rfl) (fun x v hv => by
    simp only [Verdict.cells, List.mem_cons, List.not_mem_nil, or_false] at hv
    rcases hv with rfl | rfl | rfl | rfl <;> rfl) cmpV swo_cmpV 54 #[] g 0 row.length xs.toArray w eg hC hH hr.lt (by rw [List.size_toArray]; omega)
  rw [List.size_toArray, hxl] at hcon
  refine Calls.mono hcon ?_
  rintro e w2 ⟨rfl, d', q, os, hp, hs, rfl⟩
  have hds : d'.size = n := by have := hp.1; simpa [hxl] using this
  have hdl : d'.toList.length = n := by rw [Array.length_toList]; exact hds
  have hperm : d'.toList.Perm xs := by
    have := hp.2.2
    have e1 : d'.extract 0 n = d' := by rw [← hds]; exact Array.extract_size
    have e2 : xs.toArray.extract 0 n = xs.toArray := by rw [← hxl]; simp
    rw [e1, e2] at this
    simpa using this
  have hsort : SortedV d'.toList := by
    unfold SortedV
    rw [List.pairwise_iff_getElem]
    intro i j hi hj hij
    have := hs i j (Nat.zero_le _) hij (by omega)
    rw [getElem!_pos _ _ (by omega), getElem!_pos _ _ (by omega), ltOf_cmpV_no] at this
    simpa using this
  have hd : d'.toList = sortS xs := sortedV_eq hsort (sortS_sorted xs) (hperm.trans (sortS_perm xs).symm)
  have hd2 : d' = (sortS xs).toArray := by rw [← hd]
  subst hd2
  have hsl : (sortS xs).length = n := by rw [sortS_len, hxl]
  have hput : Go.Sort.putRowK Verdict.cells 4 (Go.Sort.ahead w q) g 0 (sortS xs).toArray = (w.drewN q).setCells g 0 (flatQ ((sortS xs).map Verdict.q)) := by
    unfold Go.Sort.putRowK
    rw [flatK_q]
    have := Go.Lib.putRow_eq_setCells id w g 0 (Go.Sort.flatK Verdict.cells 4 xs.toArray) (flatQ ((sortS xs).map Verdict.q)) q hH (by rw [Go.Sort.size_flatK, flatQ_len, List.length_map, List.size_toArray, hsl, hxl])
    rw [this, List.map_id]
  have hR0 : RowQ (w.drewN q) g 74 row := hr
  have hR1 := hR0.setCells (i := 0) ((sortS xs).map Verdict.q) (by rw [List.length_map]; omega)
  rw [Nat.zero_mul] at hR1
  unfold sortWorldK
  rw [hput]
  refine ⟨_, rfl, hR1.ext (grow_ext2 _ os), ?_, ?_, (show Kp g w (w.drewN q) from ⟨Nat.le_refl _, fun _ _ _ => rfl⟩).trans ((Kp.setCells g 0 _ _).trans (grow_ext2 _ os).kp), fun w0 h0 h => (Ext.setCells h0 _ _ (h.drewN q)).trans (grow_ext2 _ os)⟩
  · simp only [List.length_append, List.length_take, List.length_drop, List.length_map]; omega
  · rw [List.take_zero, List.nil_append, ← hsl, ← List.length_map (f := Verdict.q), List.take_left]
end Go.Proofs.YtfcbapaojoecgaaGreat
